/- Walks over DrawWrap, DrawPutU of the reference. At most 1048576 bytes are drawn from. -/
import Derived.Test.YtkahlckjedaolaaDraw
namespace Go.Proofs.Ytkahlckjedaolaa
open Go.RowKit

set_option maxHeartbeats 400000 in
theorem dWrap (A : Option Addr) (n c : Nat) (zs : List Int) (w : World) (hR : Reads w w.heap.size 1 A n (u8s zs)) (hZ : Byt zs) (hn : n ≤ 1048576) :
    Calls Try.prog 20 #[.slice A n c] w fun e w' => RetInt (fun _ => True) e ∧ Below w.heap.size w w' := by
  go_enter Try.func20, Try.ntmps20
  go_wp2_with fail
  refine (dNew w.heap.size n c A zs w hR hZ (Nat.le_refl _) hn).mono ?_; rintro e w1 ⟨g, rfl, hc1, hg, b1⟩
  go_wp2_with fail
  refine (dNum _ g _ hc1).mono ?_; rintro e w2 ⟨⟨x, rfl, _⟩, _, g2⟩
  go_wp2_with fail
  go_ret
  exact ⟨⟨x, rfl, trivial⟩, bl_gr b1 g2 (fun k e => by cases e; exact hg)⟩

/-- Bytes of the call's own, and a number. -/
def RetBI (R : List Int → Int → Prop) (w : World) (e : Ending) (w' : World) : Prop := ∃ (v : Value) (zs : List Int) (x : Int), e = .returned (.tuple #[v, .int .i64 x]) ∧ R zs x ∧ Byt zs ∧ Row w' w.heap.size w'.heap.size 5 1 v zs.length (u8s zs)
set_option maxHeartbeats 400000 in
theorem dPutU (A : Option Addr) (n c : Nat) (zs : List Int) (w : World) (hR : Reads w w.heap.size 1 A n (u8s zs)) (hZ : Byt zs) (hn : n ≤ 1048576) :
    Calls Try.prog 21 #[.slice A n c] w fun e w' => RetBI (fun ys _ => ys.length ≤ 9) w e w' ∧ Below w.heap.size w w' := by
  go_enter Try.func21, Try.ntmps21
  go_wp2_with fail
  refine (dNew w.heap.size n c A zs w hR hZ (Nat.le_refl _) hn).mono ?_; rintro e w1 ⟨g, rfl, hc1, hg, b1⟩
  go_wp2_with fail
  have l1 := hc1.lt
  have s1 := b1.size
  refine (dSome _ g _ hc1).mono ?_; rintro e w2 ⟨⟨v, ys, rfl, hl, hY, O⟩, hc2, g2⟩
  have s2 := g2.size
  go_wp2_with fail
  refine (dNum _ g _ hc2).mono ?_; rintro e w3 ⟨⟨x, rfl, _⟩, _, g3⟩
  have s3 := g3.size
  go_wp2_with fail
  go_ret2
  exact ⟨⟨v, ys, x, rfl, hl, hY, (O.far g3 (fun k e => by cases e; exact .inl l1)).more (by omega) (by omega)⟩, bl_gr (bl_gr b1 g2 (fun k e => by cases e; exact hg)) g3 (fun k e => by cases e; exact hg)⟩

theorem big_any (A : Option Addr) (n c : Nat) (w : World) : Calls Try.prog 19 #[.slice A n c] w fun e w' => e = .returned (.bool (decide (1048576 < (n : Int)))) ∧ w' = w := by
  by_cases h : 1048576 < (n : Int)
  all_goals
    go_enter Try.func19, Try.ntmps19
    go_wp2_with fail
    go_ret
    exact ⟨ret_bool (by simp [h]), rfl⟩

end Go.Proofs.Ytkahlckjedaolaa
