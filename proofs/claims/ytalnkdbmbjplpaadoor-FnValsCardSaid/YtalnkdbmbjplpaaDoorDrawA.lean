/- Walks over the reference's draws of values: l2Any. -/
import Derived.Test.YtalnkdbmbjplpaaDoorDrawV
import Derived.Test.YtalnkdbmbjplpaaDoorConv
namespace Go.Proofs.YtalnkdbmbjplpaaDoor
open Go.RowKit

theorem set1_far (w : World) (b i : Nat) (x : Value) : w.grownBy (w.setCell ⟨b, i, none⟩ x) (some b) := gr_set (p := ⟨b, i, none⟩) (gr_refl w (some b)) (.inl rfl) _
theorem set1_cur {B g b : Nat} {w : World} (h : Cur B w g) (hb : B ≤ b) (hne : b ≠ g) (i : Nat) (x : Value) : Cur B (w.setCell ⟨b, i, none⟩ x) g :=
  h.far (set1_far w b i x) (fun k e => by injection e with e; subst e; exact ⟨hb, hne⟩)
theorem set1_gr {a w : World} {g b : Nat} (h : a.grownBy w (some g)) (hb : a.heap.size ≤ b) (i : Nat) (x : Value) : a.grownBy (w.setCell ⟨b, i, none⟩ x) (some g) := gr_set (p := ⟨b, i, none⟩) h (.inr hb) _

set_option maxHeartbeats 2000000 in
theorem dVAny (B g : Nat) (w : World) (hc : Cur B w g) :
    Calls Tryd.prog 17 #[.pointer (some ⟨g, 0, none⟩)] w fun e w' => RetV e ∧ Cur B w' g ∧ w.grownBy w' (some g) := by
  have hgl := hc.lt
  have hBg : B ≤ g := by obtain ⟨_, _, _, _, _, _, _, h, _⟩ := hc; exact h
  have R0 := Blk.new w 25 #[.int .i64 0, .int .i64 0, .string ⟨#[]⟩]
  go_enter Tryd.func17, Tryd.ntmps17
  go_wp2_with fail
  refine (dVDraw B g _ (hc.alloc _)).mono ?_; rintro e w1 ⟨⟨k, n, s, rfl, hn0, hn1, hs⟩, hc1, hg1⟩
  have R1 := R0.grown hg1 (by intro e; cases e; omega)
  have G1 := gr_trans (gr_alloc (gr_refl w (some g)) _) hg1
  have s1 := G1.size
  have l1 := R1.lt
  go_wp2_with fail
  refine (dBelow B g 12 _ (hc1.alloc _) (by omega)).mono ?_; rintro e w2 ⟨⟨x, rfl, hx0, hx1, _⟩, hc2, hg2⟩
  clear hx1
  have V2 := (Blk.new w1 25 #[.int .i64 k, .int .i64 n, .string s]).grown hg2 (by intro e; cases e; have := hc1.lt; omega)
  have R2 := (R1.alloc _).grown hg2 (by intro e; cases e; omega)
  have G2 := gr_trans (gr_alloc G1 _) hg2
  have lg := hc1.lt
  by_cases h0 : x = 0
  · subst h0
    go_wp2_with fail
    refine (dBelow B g 4 _ hc2 (by omega)).mono ?_; rintro e w3 ⟨⟨y, rfl, _, _, _⟩, hc3, hg3⟩
    have V3 := V2.grown hg3 (by intro e; cases e; omega)
    have R3 := (R2.grown hg3 (by intro e; cases e; omega))
    have G3 := gr_trans G2 hg3
    have c3 := V3.cell
    have f3 := V3.frozen
    have d3 := R3.cell
    have e3 := R3.frozen
    go_wp2_with fail
    exact bodyPost_ret (results_cell1 rfl _ _ _ _ _ _ rfl (set3_blk (R3.far (p := ⟨w1.heap.size, 0, none⟩) (by simp; omega) _) _ _ _) Tryd.underlying25 (by kernel_rfl)) rfl ⟨⟨y, n, s, rfl, hn0, hn1, hs⟩, set3_cur (set1_cur hc3 (by omega) (by omega) 0 _) (by omega) (by omega) _ _ _, set3_gr (set1_gr G3 (by omega) 0 _) (Nat.le_refl _) _ _ _⟩
  have q0 : (x == 0) = false := by simp [h0]
  by_cases h1 : x = 1
  · subst h1
    go_wp2_with fail
    refine (dNum B g _ hc2).mono ?_; rintro e w3 ⟨⟨y, rfl, hy0, hy1⟩, hc3, hg3⟩
    have V3 := V2.grown hg3 (by intro e; cases e; omega)
    have R3 := (R2.grown hg3 (by intro e; cases e; omega))
    have G3 := gr_trans G2 hg3
    have c3 := V3.cell
    have f3 := V3.frozen
    have d3 := R3.cell
    have e3 := R3.frozen
    go_wp2_with fail
    exact bodyPost_ret (results_cell1 rfl _ _ _ _ _ _ rfl (set3_blk (R3.far (p := ⟨w1.heap.size, 1, none⟩) (by simp; omega) _) _ _ _) Tryd.underlying25 (by kernel_rfl)) rfl ⟨⟨k, y, s, rfl, hy0, hy1, hs⟩, set3_cur (set1_cur hc3 (by omega) (by omega) 1 _) (by omega) (by omega) _ _ _, set3_gr (set1_gr G3 (by omega) 1 _) (Nat.le_refl _) _ _ _⟩
  have q1 : (x == 1) = false := by simp [h1]
  by_cases h2 : x = 2
  · subst h2
    go_wp2_with fail
    refine (dBelow B g 2 _ hc2 (by omega)).mono ?_; rintro e w3 ⟨⟨y, rfl, hy0, hy1, _⟩, hc3, hg3⟩
    have hy2 := hy1 (by omega)
    clear hy1
    have V3 := V2.grown hg3 (by intro e; cases e; omega)
    have R3 := (R2.grown hg3 (by intro e; cases e; omega))
    have G3 := gr_trans G2 hg3
    obtain ⟨m, hm⟩ : ∃ m : Nat, (200 : Int) + y = m := ⟨200 + y.toNat, by omega⟩
    have hm2 : m ≤ 201 := by omega
    obtain ⟨i0, hi, hz0, hz1, hz2⟩ := info_parts info_u8
    have hrep : Hid (List.replicate m (Value.int .u8 0) = u8s (List.replicate m 0)) := by unfold Hid; simp [u8s]
    go_wp2_with (at_make; refine wpList_makeN rfl _ _ 22 rfl 5 i0 (.int .u8 0) 1 1 Tryd.underlying22 hi hz0 hz1 hz2 rfl _ _ m rfl rfl (by omega) (by omega) ?_)
    intro w4 hO hL
    rw [hrep.out] at hO
    have K := conv_bytes (c := m) (Reads.of_own hO) (by simp) (fun z hz => by have := List.eq_of_mem_replicate hz; omega)
    have hbs : (bStr (List.replicate m 0)).size ≤ 300 := by unfold bStr; simp [ByteArray.size]; omega
    generalize bStr (List.replicate m 0) = z at K hbs
    have hc4 := hc3.keep hL
    have V4 := V3.keep hL
    have R4 := R3.keep hL
    have G4 := gr_below G3 hL
    have c3 := V4.cell
    have f3 := V4.frozen
    have d3 := R4.cell
    have e3 := R4.frozen
    go_wp2_with fail
    exact bodyPost_ret (results_cell1 rfl _ _ _ _ _ _ rfl (set3_blk (R4.far (p := ⟨w1.heap.size, 2, none⟩) (by simp; omega) _) _ _ _) Tryd.underlying25 (by kernel_rfl)) rfl ⟨⟨k, n, z, rfl, hn0, hn1, hbs⟩, set3_cur (set1_cur hc4 (by omega) (by omega) 2 _) (by omega) (by omega) _ _ _, set3_gr (set1_gr G4 (by omega) 2 _) (Nat.le_refl _) _ _ _⟩
  have q2 : (x == 2) = false := by simp [h2]
  have c3 := V2.cell
  have f3 := V2.frozen
  have d3 := R2.cell
  have e3 := R2.frozen
  go_wp2_with fail
  exact bodyPost_ret (results_cell1 rfl _ _ _ _ _ _ rfl (set3_blk R2 _ _ _) Tryd.underlying25 (by kernel_rfl)) rfl ⟨⟨k, n, s, rfl, hn0, hn1, hs⟩, set3_cur hc2 (by omega) (by omega) _ _ _, set3_gr G2 (Nat.le_refl _) _ _ _⟩

end Go.Proofs.YtalnkdbmbjplpaaDoor
