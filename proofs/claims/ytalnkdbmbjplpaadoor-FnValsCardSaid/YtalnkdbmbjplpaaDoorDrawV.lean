/- Walks over the reference's draws of values: l2Int, l2Text, l2Draw. -/
import Derived.Test.YtalnkdbmbjplpaaDoorDrawR
import Derived.Test.YtalnkdbmbjplpaaDoorDrawM
import Derived.Test.YtalnkdbmbjplpaaDoorWrap
namespace Go.Proofs.YtalnkdbmbjplpaaDoor
open Go.RowKit

/-- It hands back a value whose number is an int and whose text is short. -/
def RetV (e : Ending) : Prop := ∃ (k n : Int) (s : ByteArray), e = .returned (.agg #[.int .i64 k, .int .i64 n, .string s]) ∧ -9223372036854775808 ≤ n ∧ n ≤ 9223372036854775807 ∧ s.size ≤ 300
set_option maxHeartbeats 400000 in
theorem dVInt (n : Int) (w : World) :
    Calls Tryd.prog 45 #[.int .i64 n] w fun e w' => e = .returned (.agg #[.int .i64 1, .int .i64 (wrap32 n), .string ⟨#[]⟩]) ∧ Below w.heap.size w w' := by
  go_enter Tryd.func45, Tryd.ntmps45
  go_wp2_with fail
  refine (sWrap _ _).mono ?_; rintro e w1 ⟨rfl, rfl⟩
  go_wp2_with fail
  exact bodyPost_ret (v := .agg #[.int .i64 1, .int .i64 (wrap32 n), .string ⟨#[]⟩]) (by simp [results, Tryd.results45, go_sem]) rfl ⟨rfl, by repeat (first | exact Below.refl _ _ | refine bl_drewN ?_ _ | refine Below.drew ?_ | refine bl_alloc ?_ _ | refine bl_set ?_ (by simp) _ | refine bl_trans ?_ (by assumption))⟩
set_option maxHeartbeats 400000 in
theorem dVText (s : ByteArray) (w : World) :
    Calls Tryd.prog 46 #[.string s] w fun e w' => e = .returned (.agg #[.int .i64 2, .int .i64 0, .string s]) ∧ Below w.heap.size w w' := by
  go_enter Tryd.func46, Tryd.ntmps46
  go_wp2_with fail
  exact bodyPost_ret (v := .agg #[.int .i64 2, .int .i64 0, .string s]) (by simp [results, Tryd.results46, go_sem]) rfl ⟨rfl, by repeat (first | exact Below.refl _ _ | refine bl_drewN ?_ _ | refine Below.drew ?_ | refine bl_alloc ?_ _ | refine bl_set ?_ (by simp) _ | refine bl_trans ?_ (by assumption))⟩

theorem results_cell1 {fn : Func} {p : Tmp} {ty : TypeId} (h : fn.results = #[.cell p ty]) (tmps : Array Value) (P : Program) (w : World) (g : Nat) (t : TypeId) (cs : Array Value) {fs : _}
    (hp : tmps.getD p undef = .pointer (some ⟨g, 0, none⟩)) (hg : Blk w g t cs)
    (hu : P.underlying ty = some (.struct fs)) (hi : (P.info? ty).map (·.size) = some cs.size) :
    (results fn tmps).run P w = .ok (.agg cs) w := by
  have hp' : tmps[p]?.getD undef = .pointer (some ⟨g, 0, none⟩) := by simpa using hp
  simp [results, h, hp', asAddr, run_loadVar_row w g t ty cs (0, 0) (.struct fs) hg hu rfl hi]
/-- The world behind three stores into a block. -/
def set3 (w : World) (b : Nat) (x y z : Value) : World := ((w.setCell ⟨b, 0, none⟩ x).setCell ⟨b, 1, none⟩ y).setCell ⟨b, 2, none⟩ z
theorem set3_blk {w : World} {b : Nat} {t : TypeId} {a0 a1 a2 : Value} (h : Blk w b t #[a0, a1, a2]) (x y z : Value) : Blk (set3 w b x y z) b t #[x, y, z] := ((h.set_ 0 x).set_ 1 y).set_ 2 z
theorem set3_gr {a w : World} {g b : Nat} (h : a.grownBy w (some g)) (hb : a.heap.size ≤ b) (x y z : Value) : a.grownBy (set3 w b x y z) (some g) := gr_set (gr_set (gr_set h (.inr hb) _) (.inr hb) _) (.inr hb) _
theorem set3_far (w : World) (b : Nat) (x y z : Value) : w.grownBy (set3 w b x y z) (some b) := by
  unfold set3
  exact gr_set (p := ⟨b, 2, none⟩) (gr_set (p := ⟨b, 1, none⟩) (gr_set (p := ⟨b, 0, none⟩) (gr_refl w (some b)) (.inl rfl) _) (.inl rfl) _) (.inl rfl) _
theorem set3_cur {B g b : Nat} {w : World} (h : Cur B w g) (hb : B ≤ b) (hne : b ≠ g) (x y z : Value) : Cur B (set3 w b x y z) g :=
  h.far (set3_far w b x y z) (fun k e => by injection e with e; subst e; exact ⟨hb, hne⟩)

set_option maxHeartbeats 1000000 in
theorem dVDraw (B g : Nat) (w : World) (hc : Cur B w g) :
    Calls Tryd.prog 28 #[.pointer (some ⟨g, 0, none⟩)] w fun e w' => RetV e ∧ Cur B w' g ∧ w.grownBy w' (some g) := by
  have hgl := hc.lt
  have hBg : B ≤ g := by obtain ⟨_, _, _, _, _, _, _, h, _⟩ := hc; exact h
  have R0 := Blk.new w 25 #[.int .i64 0, .int .i64 0, .string ⟨#[]⟩]
  go_enter Tryd.func28, Tryd.ntmps28
  go_wp2_with fail
  refine (dBelow B g 5 _ (hc.alloc _) (by omega)).mono ?_; rintro e w1 ⟨⟨x, rfl, hx0, hx1, _⟩, hc1, hg1⟩
  have hx2 := hx1 (by omega)
  clear hx1
  have R1 := R0.grown hg1 (by intro e; cases e; omega)
  have G1 := gr_trans (gr_alloc (gr_refl w (some g)) _) hg1
  by_cases h0 : x = 0
  · subst h0
    have c1 := R1.cell
    have f1 := R1.frozen
    go_wp2_with fail
    exact bodyPost_ret (results_cell1 rfl _ _ _ _ _ _ rfl (set3_blk R1 _ _ _) Tryd.underlying25 (by kernel_rfl)) rfl ⟨⟨0, 0, ⟨#[]⟩, rfl, by omega, by omega, by decide⟩, set3_cur hc1 (by omega) (by omega) _ _ _, set3_gr G1 (Nat.le_refl _) _ _ _⟩
  have q0 : (x == 0) = false := by simp [h0]
  by_cases h1 : x = 1 ∨ x = 2
  · have q1 : ((x == 1) = true) ∨ ((x == 1) = false ∧ (x == 2) = true) := by
      rcases h1 with rfl | rfl
      · exact .inl rfl
      · exact .inr ⟨rfl, rfl⟩
    rcases q1 with q1 | ⟨q1, q2⟩
    all_goals
      go_wp2_with fail
      refine (dInt B g w1.heap.size 9 [0, 1, 2, 3, -1, 7, 10, 2147483647, -2147483648] _ (hc1.alloc _) rfl (by omega) (by omega) (Blk.new w1 _ _) (by have := hc1.lt; omega)).mono ?_; rintro e w2 ⟨⟨z, rfl, _⟩, hc2, hg2⟩
      have R2 := (R1.alloc _).grown hg2 (by intro e; cases e; omega)
      have G2 := gr_trans (gr_alloc G1 _) hg2
      go_wp2_with fail
      refine (dVInt z _).mono ?_; rintro e w3 ⟨rfl, b3⟩
      have R3 := R2.keep b3
      have hc3 := hc2.keep b3
      have G3 := gr_below G2 b3
      have c3 := R3.cell
      have f3 := R3.frozen
      go_wp2_with fail
      exact bodyPost_ret (results_cell1 rfl _ _ _ _ _ _ rfl (set3_blk R3 _ _ _) Tryd.underlying25 (by kernel_rfl)) rfl ⟨⟨1, wrap32 z, ⟨#[]⟩, rfl, by have := wrap32_bd z; omega, by have := wrap32_bd z; omega, by decide⟩, set3_cur hc3 (by omega) (by omega) _ _ _, set3_gr G3 (Nat.le_refl _) _ _ _⟩
  · have q1 : (x == 1) = false := by simp; omega
    have q2 : (x == 2) = false := by simp; omega
    go_wp2_with fail
    refine (dStr B g w1.heap.size 9 [⟨#[]⟩, ⟨#[97]⟩, ⟨#[97, 98]⟩, ⟨#[49, 50]⟩, ⟨#[45, 51, 120]⟩, ⟨#[48]⟩, ⟨#[119, 111, 114, 100]⟩, ⟨#[45]⟩, ⟨#[57, 57, 57, 57, 57, 57, 57, 57, 57, 57, 57]⟩] _ (hc1.alloc _) rfl (by omega) (by omega) (Blk.new w1 _ _) (by have := hc1.lt; omega)).mono ?_; rintro e w2 ⟨⟨z, rfl, hz⟩, hc2, hg2⟩
    have hz1 : z.size ≤ 11 := (show ∀ z ∈ ([⟨#[]⟩, ⟨#[97]⟩, ⟨#[97, 98]⟩, ⟨#[49, 50]⟩, ⟨#[45, 51, 120]⟩, ⟨#[48]⟩, ⟨#[119, 111, 114, 100]⟩, ⟨#[45]⟩, ⟨#[57, 57, 57, 57, 57, 57, 57, 57, 57, 57, 57]⟩] : List ByteArray), z.size ≤ 11 by decide) z hz
    clear hz
    have R2 := (R1.alloc _).grown hg2 (by intro e; cases e; omega)
    have G2 := gr_trans (gr_alloc G1 _) hg2
    go_wp2_with fail
    refine (dVText z _).mono ?_; rintro e w3 ⟨rfl, b3⟩
    have R3 := R2.keep b3
    have hc3 := hc2.keep b3
    have G3 := gr_below G2 b3
    have c3 := R3.cell
    have f3 := R3.frozen
    go_wp2_with fail
    exact bodyPost_ret (results_cell1 rfl _ _ _ _ _ _ rfl (set3_blk R3 _ _ _) Tryd.underlying25 (by kernel_rfl)) rfl ⟨⟨2, 0, z, rfl, by omega, by omega, by omega⟩, set3_cur hc3 (by omega) (by omega) _ _ _, set3_gr G3 (Nat.le_refl _) _ _ _⟩

end Go.Proofs.YtalnkdbmbjplpaaDoor
