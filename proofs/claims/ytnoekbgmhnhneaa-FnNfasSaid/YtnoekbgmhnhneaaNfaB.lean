/- Walks over the laws' helpers on machines: szNfa, toNfa, eqNfa. A machine has at most 1048576 nodes in the last two. -/
import Derived.Test.YtnoekbgmhnhneaaNodeS
namespace Go.Proofs.Ytnoekbgmhnhneaa
open Go.RowKit

/-- It hands back a new machine of these nodes. -/
def RetNfa (zs : List (Int × ByteArray × Int × Int)) (w : World) (e : Ending) (w' : World) : Prop := ∃ (A : Option Addr) (c : Nat), e = .returned (.agg #[.slice A zs.length c]) ∧ Row w' w.heap.size w'.heap.size 76 4 (.slice A zs.length c) zs.length (flat nodeC zs)
theorem row_setb {w : World} {lo hi size n : Nat} {e : TypeId} {v : Value} {xs : List Value} (h : Row w lo hi e size v n xs) {b j : Nat} (hb : b < lo) (u : Value) : Row (w.setCell ⟨b, j, none⟩ u) lo hi e size v n xs :=
  h.far (gr_set (p := ⟨b, j, none⟩) (gr_refl w (some b)) (.inl rfl) u) (fun k e => by cases e; exact .inl hb)
set_option maxHeartbeats 1000000 in
theorem toNfa_any (A : Option Addr) (c : Nat) (zs : List (Int × ByteArray × Int × Int)) (w : World) (hR : Reads w w.heap.size 4 A zs.length (flat nodeC zs)) (hn : zs.length ≤ 1073741824) :
    Calls Try.prog 11 #[.agg #[.slice A zs.length c]] w fun e w' => RetNfa zs w e w' ∧ Below w.heap.size w w' := by
  have e1 := alloc_size w (.cells #[.slice A zs.length c] 24)
  have e2 := alloc_size (w.alloc (.cells #[.slice A zs.length c] 24)) (.cells #[.slice none 0 0] 30)
  have e3 := alloc_size ((w.alloc (.cells #[.slice A zs.length c] 24)).alloc (.cells #[.slice none 0 0] 30)) (.cells #[.slice none 0 0] 30)
  have B1 := (Blk.new2 w (.cells #[.slice A zs.length c] 24) 30 #[.slice none 0 0]).alloc (.cells #[.slice none 0 0] 30)
  have B2 := Blk.new2 (w.alloc (.cells #[.slice A zs.length c] 24)) (.cells #[.slice none 0 0] 30) 30 #[.slice none 0 0]
  have L0 := bl_alloc (bl_alloc (bl_alloc (Below.refl w.heap.size w) (.cells #[.slice A zs.length c] 24)) (.cells #[.slice none 0 0] 30)) (.cells #[.slice none 0 0] 30)
  rw [e1] at B2
  have I0 := toNodeS_any A c zs _ (rd_below hR L0) hn
  go_enter Try.func11, Try.ntmps11
  go_wp2_with fail
  generalize ((w.alloc (.cells #[.slice A zs.length c] 24)).alloc (.cells #[.slice none 0 0] 30)).alloc (.cells #[.slice none 0 0] 30) = W at B1 B2 L0 I0 e3 ⊢
  refine I0.mono ?_; rintro e w1 ⟨⟨v, _, rfl, rfl, O⟩, b1⟩
  obtain ⟨A2, c2, rfl⟩ := O.form
  replace B1 : Blk w1 (w.heap.size + 1) _ _ := Blk.keep B1 b1
  replace B2 : Blk w1 (w.heap.size + 1 + 1) _ _ := Blk.keep B2 b1
  have p1 := B1.cell
  have f1 := B1.frozen
  have p2 := B2.cell
  have f2 := B2.frozen
  have L1 := bl_trans L0 b1
  go_wp2_with fail
  exact bodyPost_ret (res_cell1 rfl _ _ _ _ _ _ rfl ((B1.farb (by omega) _).set_ 0 _) Try.underlying30 (by kernel_rfl)) rfl ⟨⟨A2, c2, rfl, (row_setb (row_setb O (by omega) _) (by omega) _).more (by omega) (by simp)⟩, bl_setb (bl_setb L1 (by omega) _) (by omega) _⟩
set_option maxHeartbeats 1000000 in
theorem szNfa_any (A : Option Addr) (c : Nat) (left : Int) (zs : List (Int × ByteArray × Int × Int)) (w : World) (hR : Reads w w.heap.size 4 A zs.length (flat nodeC zs)) (hZ : ∀ z ∈ zs, z.2.1.size ≤ 9223372036854775807) (hn : zs.length ≤ 9223372036854775807) (h0 : 0 ≤ left) (h1 : left ≤ 1048576) :
    Calls Try.prog 9 #[.agg #[.slice A zs.length c], .int .i64 left] w fun e w' => e = .returned (.int .i64 (if szS left (nodeS zs) < 0 then -1 else szS left (nodeS zs))) ∧ Below w.heap.size w w' := by
  have L0 := bl_alloc (Below.refl w.heap.size w) (.cells #[.slice A zs.length c] 24)
  have C := szNodeS_any A c left zs _ (rd_below hR L0) hZ hn h0 h1
  generalize szS left (nodeS zs) = R at C ⊢
  have CC := Lib.hid C
  clear C
  by_cases hR0 : R < 0
  · rw [if_pos hR0]
    go_enter Try.func9, Try.ntmps9
    go_wp2_with fail
    refine CC.out.mono ?_; rintro e w1 ⟨rfl, b1⟩
    go_wp2_with fail
    go_ret
    exact ⟨rfl, bl_trans L0 b1⟩
  · rw [if_neg hR0]
    go_enter Try.func9, Try.ntmps9
    go_wp2_with fail
    refine CC.out.mono ?_; rintro e w1 ⟨rfl, b1⟩
    go_wp2_with fail
    go_ret
    exact ⟨rfl, bl_trans L0 b1⟩
set_option maxHeartbeats 1000000 in
theorem eqNfa_any (A A' : Option Addr) (c c' : Nat) (zs : List (Int × ByteArray × Int × Int)) (w : World) (hR : Reads w w.heap.size 4 A zs.length (flat nodeC zs)) (hR' : Reads w w.heap.size 4 A' zs.length (flat nodeC zs)) (hn : zs.length ≤ 1073741824) :
    Calls Try.prog 15 #[.agg #[.slice A zs.length c], .agg #[.slice A' zs.length c']] w fun e w' => e = .returned (.bool true) ∧ Below w.heap.size w w' := by
  have L0 := bl_alloc (bl_alloc (Below.refl w.heap.size w) (.cells #[.slice A zs.length c] 30)) (.cells #[.slice A' zs.length c'] 30)
  have C := Lib.hid (eqNodeS_any A A' c c' zs _ (rd_below hR L0) (rd_below hR' L0) hn)
  go_enter Try.func15, Try.ntmps15
  go_wp2_with fail
  refine C.out.mono ?_; rintro e w1 ⟨rfl, b1⟩
  go_wp2_with fail
  go_ret
  exact ⟨rfl, bl_trans L0 b1⟩

end Go.Proofs.Ytnoekbgmhnhneaa
