/- Walks over the laws' toRexS and toRex: new rows of Rexs of the call's own, with lengths within capacities. A row has at most 1048576 nodes. -/
import Derived.Test.YtnoekbgmhnhneaaTreeC
namespace Go.Proofs.Ytnoekbgmhnhneaa
open Go.RowKit

set_option maxHeartbeats 1000000 in
theorem toRexC_of (zk : Int) (zs : ByteArray) (kids : Fr (Int × ByteArray)) (A : Option Addr) (c : Nat) (w : World) (hS : Sl rexC w 0 w.heap.size A kids)
    (I : ∀ w', Sl rexC w' 0 w'.heap.size A kids → Calls Try.prog 52 #[.slice A kids.len c] w' fun e w'' => RetFrC kids w' e w'' ∧ Below w'.heap.size w' w'') :
    Calls Try.prog 21 #[.agg #[.int .i64 zk, .string zs, .slice A kids.len c]] w fun e w' => RetTrC (zk, zs) kids w e w' ∧ Below w.heap.size w w' := by
  have e1 := alloc_size w (.cells #[.int .i64 zk, .string zs, .slice A kids.len c] 40)
  have e2 := alloc_size (w.alloc (.cells #[.int .i64 zk, .string zs, .slice A kids.len c] 40)) (.cells #[.int .i64 0, .string ⟨#[]⟩, .slice none 0 0] 45)
  have e3 := alloc_size ((w.alloc (.cells #[.int .i64 zk, .string zs, .slice A kids.len c] 40)).alloc (.cells #[.int .i64 0, .string ⟨#[]⟩, .slice none 0 0] 45)) (.cells #[.int .i64 zk, .string zs, .slice none 0 0] 45)
  have B1 := (Blk.new2 w (.cells #[.int .i64 zk, .string zs, .slice A kids.len c] 40) 45 #[.int .i64 0, .string ⟨#[]⟩, .slice none 0 0]).alloc (.cells #[.int .i64 zk, .string zs, .slice none 0 0] 45)
  have B2 := Blk.new2 (w.alloc (.cells #[.int .i64 zk, .string zs, .slice A kids.len c] 40)) (.cells #[.int .i64 0, .string ⟨#[]⟩, .slice none 0 0] 45) 45 #[.int .i64 zk, .string zs, .slice none 0 0]
  have L0 := bl_alloc (bl_alloc (bl_alloc (Below.refl w.heap.size w) (.cells #[.int .i64 zk, .string zs, .slice A kids.len c] 40)) (.cells #[.int .i64 0, .string ⟨#[]⟩, .slice none 0 0] 45)) (.cells #[.int .i64 zk, .string zs, .slice none 0 0] 45)
  have hS0 := hS.below L0 (Nat.le_refl _)
  rw [e1] at B2
  have I0 := I _ (hS0.more (Nat.le_refl _) L0.size)
  go_enter Try.func21, Try.ntmps21
  go_wp2_with fail
  generalize ((w.alloc (.cells #[.int .i64 zk, .string zs, .slice A kids.len c] 40)).alloc (.cells #[.int .i64 0, .string ⟨#[]⟩, .slice none 0 0] 45)).alloc (.cells #[.int .i64 zk, .string zs, .slice none 0 0] 45) = W at B1 B2 L0 I0 e3 ⊢
  refine I0.mono ?_; rintro e w1 ⟨⟨A2, c2, rfl, hc2, hS2⟩, b1⟩
  replace B1 : Blk w1 (w.heap.size + 1) _ _ := Blk.keep B1 b1
  replace B2 : Blk w1 (w.heap.size + 1 + 1) _ _ := Blk.keep B2 b1
  have p1 := B1.cell
  have f1 := B1.frozen
  have p2 := B2.cell
  have f2 := B2.frozen
  have L1 := bl_trans L0 b1
  go_wp2_with fail
  exact bodyPost_ret (res_cell1 rfl _ _ _ _ _ _ rfl (((((B1.farb (by omega) _).set_ 0 _).set_ 1 _).set_ 2 _)) Try.underlying45 (by kernel_rfl)) rfl ⟨⟨A2, c2, rfl, hc2, (((((hS2.setb (.inl (by omega)) _).setb (.inl (by omega)) _).setb (.inl (by omega)) _).setb (.inl (by omega)) _)).more (by omega) (by simp)⟩, (bl_setb (bl_setb (bl_setb (bl_setb L1 (by omega) _) (by omega) _) (by omega) _) (by omega) _)⟩

set_option maxHeartbeats 2000000 in
theorem toRexCS_step (fr : Fr (Int × ByteArray)) (A : Option Addr) (c : Nat) (w : World) (hn : fr.len ≤ 1048576) (hS : Sl rexC w 0 w.heap.size A fr)
    (ih : ∀ (kids : Fr (Int × ByteArray)), kids.size < fr.size → ∀ (A : Option Addr) (c : Nat) (w : World), Sl rexC w 0 w.heap.size A kids → Calls Try.prog 52 #[.slice A kids.len c] w fun e w' => RetFrC kids w e w' ∧ Below w.heap.size w w') :
    Calls Try.prog 52 #[.slice A fr.len c] w fun e w' => RetFrC fr w e w' ∧ Below w.heap.size w w' := by
  have hn' : (fr.len : Int) ≤ 1048576 := by omega
  obtain ⟨i0, hi, hz0, hz1, hz2⟩ := info_parts info_Rex
  obtain ⟨ys, hys⟩ : ∃ ys : List ((Int × ByteArray) × Value), ys = List.replicate fr.len ((0, ⟨#[]⟩), Value.slice none 0 0) := ⟨_, rfl⟩
  have hyl : Hid (ys.length = fr.len) := by unfold Hid; rw [hys]; simp
  have hrep : Hid ((List.replicate fr.len [Value.int .i64 0, Value.string ⟨#[]⟩, Value.slice none 0 0]).flatten = flat (rC rexC) ys) := by
    unfold Hid
    rw [hys]
    unfold flat
    rw [List.flatMap_replicate]
    rfl
  clear hys
  have IH := Lib.hid ih
  clear ih
  go_enter Try.func52, Try.ntmps52
  go_wp2_with (at_make; refine wpList_makeN rfl _ _ 43 rfl 45 i0 (.agg #[.int .i64 0, .string ⟨#[]⟩, .slice none 0 0]) 3 48 Try.underlying43 hi hz0 hz1 hz2 rfl _ _ fr.len rfl rfl (by omega) (by omega) ?_)
  intro w1 hO hL
  rw [hrep.out] at hO
  go_wp2_with fail
  go_loopw [4] (fun i wr => ∃ (k : Nat) (l : List ((Int × ByteArray) × Value)), k ≤ fr.len ∧ i = .int .i64 k ∧ l.length = fr.len ∧ FitsOC wr (w.heap.size + 1) wr.heap.size fr l k ∧ w.heap.size < wr.heap.size ∧ wr.ownsRow w.heap.size 45 3 (.slice (some ⟨w.heap.size, 0, none⟩) fr.len fr.len) fr.len (flat (rC rexC) l) ∧ Below w.heap.size w wr) (fun i _ => fr.len - (intOf i).toNat)
  case atStart => exact ⟨0, ys, Nat.zero_le _, rfl, hyl.out, FitsOC.zero _ _, (hO.lt _ rfl).2, hO, hL⟩
  case round =>
    obtain ⟨k, l, hk, rfl, hll, hF, hgs, hOr, hLr⟩ := hrel
    have HF := Lib.hid hF
    have HLL := Lib.hid hll
    clear hF hll
    by_cases hlt : k < fr.len
    · obtain ⟨b, o, a, kids, A', c', rfl, hb, hd, hks, hSk, q0, q1, q2⟩ := at_Rex (hS.below hLr (Nat.le_refl _)) hlt
      have hlt' : (k : Int) < (fr.len : Int) := by omega
      have hul : k < l.length := by rw [HLL.out]; exact hlt
      have hcg := fun c hc => flat_get (rC_len rexC_len) l k hul c hc
      have HD := Lib.hid hd
      clear hd
      obtain ⟨zk, zs⟩ := a
      simp only at q0 q1 q2
      have C := toRexC_of zk zs kids A' c' wr (hSk.more (Nat.le_refl _) hLr.size) (fun w' h => IH.out kids hks A' c' w' h)
      have CC := Lib.hid C
      clear C
      go_wp2_with fail
      refine CC.out.mono ?_; rintro e w2 ⟨⟨A2, c2, rfl, hc2, hS2⟩, b2⟩
      have hO2 : w2.ownsRow _ _ _ _ _ _ := ((Row.mk hOr).keep b2).1
      have cc0 := hO2.cellAt (k * 3) (by omega)
      have cc1 := hO2.cellAt (k * 3 + 1) (by omega)
      have cc2 := hO2.cellAt (k * 3 + 2) (by omega)
      rw [hcg 1 (by omega)] at cc1
      rw [hcg 2 (by omega)] at cc2
      have h0 := hcg 0 (by omega)
      rw [Nat.add_zero] at h0
      rw [h0] at cc0
      have f0 := hO2.frozenAt (k * 3)
      have f1 := hO2.frozenAt (k * 3 + 1)
      have f2 := hO2.frozenAt (k * 3 + 2)
      clear h0 hcg
      have hSt := (((hO2.stored (k * 3) (.int .i64 zk)).1.stored (k * 3 + 1) (.string zs)).1.stored (k * 3 + 2) (.slice A2 kids.len c2)).1
      rw [flat_set3 (rC_len rexC_len) ((zk, zs), .slice A2 kids.len c2) rfl _ k hul] at hSt
      have HS := Lib.hid hSt
      clear hSt
      have hz2 := b2.size
      have hFn := Lib.hid (FitsOC.set_ (c := c2) (HF.out.keep (w' := w2) (fun p h1 h2 => below_both b2 h2) (Nat.le_refl _) b2.size) hul HD.out hc2 (hS2.more (by omega) (Nat.le_refl _)))
      generalize l[k] = y at *
      obtain ⟨⟨yyk, yys⟩, yv⟩ := y
      simp only [rC, rexC, List.cons_append, List.nil_append] at cc0 cc1 cc2
      go_wp2_with fail
      go_roundw
      case rel =>
        refine ⟨k + 1, _, by omega, by go_num, by rw [List.length_set]; exact HLL.out, ?_, by simp; omega, HS.out, bl_set (bl_set (bl_set (bl_trans hLr b2) (Nat.le_refl _) _) (Nat.le_refl _) _) (Nat.le_refl _) _⟩
        exact (((hFn.out.setb (.inl (Nat.lt_succ_self _)) _).setb (.inl (Nat.lt_succ_self _)) _).setb (.inl (Nat.lt_succ_self _)) _).keep (fun _ _ _ => ⟨rfl, rfl⟩) (Nat.le_refl _) (by simp)
      case measure => simp [intOf]; omega
    · obtain rfl : k = fr.len := by omega
      have H := Lib.hid hOr
      clear hOr
      go_wp2_with fail
      go_ret
      have hcl : ∀ j u, (flat (rC rexC) l)[j]? = some u → wr.cell? ⟨w.heap.size, 0 + j, none⟩ = some u := fun j u hu => by
        have := H.out.cells rfl j u hu
        rw [add_plain] at this
        exact this
      have hF2 := HF.out.keep (fun _ _ _ => ⟨rfl, rfl⟩) (lo' := w.heap.size) (by omega) (Nat.le_refl _)
      exact ⟨⟨_, _, rfl, Nat.le_refl _, fun hp => ⟨w.heap.size, rfl, Nat.le_refl _, hgs, OwIn.of_fits fr l _ _ HLL.out hF2.1 (fun j u hu => ⟨hcl j u hu, H.out.frozenAt _⟩)⟩, fun hp => ⟨w.heap.size, 0, rfl, Nat.le_refl _, hgs, FrInC.of_fits fr l _ _ HLL.out hF2.2 hcl⟩⟩, hLr⟩

set_option maxHeartbeats 2000000 in
theorem toRexCS_any (N : Nat) (hN : N ≤ 1048576) : ∀ (fr : Fr (Int × ByteArray)) (A : Option Addr) (c : Nat) (w : World), fr.size ≤ N → Sl rexC w 0 w.heap.size A fr →
    Calls Try.prog 52 #[.slice A fr.len c] w fun e w' => RetFrC fr w e w' ∧ Below w.heap.size w w' := by
  induction N with
  | zero =>
    intro fr A c w hs hS
    obtain rfl := Fr.size_pos (Nat.le_zero.1 hs)
    exact toRexCS_step .nil A c w (by simp [Fr.len]) hS (fun kids h => by simp [Fr.size] at h)
  | succ N ih =>
    intro fr A c w hs hS
    exact toRexCS_step fr A c w (by have := fr.len_size; omega) hS (fun kids h A c w hk => ih (by omega) kids A c w (by omega) hk)


end Go.Proofs.Ytnoekbgmhnhneaa
