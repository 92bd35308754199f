/- Walks over DrawGetU, DrawGetS, DrawPutText of the reference. At most 1048576 bytes are drawn from. -/
import Derived.Test.YtkahlckjedaolaaDrawW
import Derived.Test.YtkahlckjedaolaaNumU
import Derived.Test.YtkahlckjedaolaaNumS
import Derived.Test.YtkahlckjedaolaaGetT
import Derived.Test.YtkahlckjedaolaaNumLaw
import Derived.Test.YtkahlckjedaolaaPutT
namespace Go.Proofs.Ytkahlckjedaolaa
open Go.RowKit

theorem u8s_set (zs : List Int) (k : Nat) (z : Int) : u8s (zs.set k z) = (u8s zs).set k (.int .u8 z) := by unfold u8s; rw [List.map_set]
theorem byt_set {zs : List Int} (h : Byt zs) (k : Nat) {z : Int} (hz : 0 ≤ z ∧ z < 256) : Byt (zs.set k z) := fun q hq => by
  rcases List.mem_or_eq_of_mem_set hq with h' | rfl
  · exact h q h'
  · exact hz
set_option maxHeartbeats 1000000 in
theorem dAt (B g : Nat) (A : Option Addr) (n c : Nat) (w : World) (hc : Cur B w g) (hn : n ≤ 1000) :
    Calls Try.prog 60 #[.pointer (some ⟨g, 0, none⟩), .slice A n c] w fun e w' => RetInt (fun _ => True) e ∧ Cur B w' g ∧ w.grownBy w' (some g) := by
  have hn' : (n : Int) ≤ 1000 := by omega
  go_enter Try.func60, Try.ntmps60
  go_wp2_with fail
  refine (dBelow B g _ _ hc (by omega)).mono ?_; rintro e w1 ⟨⟨x, rfl, hx0, _, _⟩, hc1, hg1⟩
  have hgl := hc1.lt
  go_wp2_with fail
  refine (dInt B g w1.heap.size 7 [0, 0, 0, (n : Int), x, -1, 9223372036854775807] _ (hc1.alloc _) rfl (by omega) (by omega) (Blk.new w1 _ _) (by omega)).mono ?_; rintro e w2 ⟨⟨z, rfl, _⟩, hc2, hg2⟩
  go_wp2_with fail
  go_ret
  exact ⟨⟨z, rfl, trivial⟩, hc2, gr_trans (gr_alloc hg1 _) hg2⟩

set_option maxHeartbeats 1000000 in
theorem dBend (B g lo : Nat) (A : Option Addr) (c : Nat) (zs : List Int) (w : World) (hc : Cur B w g) (O : Row w lo w.heap.size 5 1 (.slice A zs.length c) zs.length (u8s zs)) (hZ : Byt zs) (h0 : 0 < zs.length) (hn : zs.length ≤ 100) (hgo : g < lo) (hlo : B ≤ lo) (hlw : lo ≤ w.heap.size) :
    Calls Try.prog 59 #[.pointer (some ⟨g, 0, none⟩), .slice A zs.length c] w fun e w' => (∃ (v : Value) (ys : List Int), e = .returned v ∧ ys.length ≤ zs.length + 1 ∧ Byt ys ∧ Row w' lo w'.heap.size 5 1 v ys.length (u8s ys)) ∧ Cur B w' g ∧ Below B w w' := by
  have hn' : (zs.length : Int) ≤ 100 := by omega
  have hB : B ≤ g := by obtain ⟨_, _, _, _, _, _, _, h, _⟩ := hc; exact h
  obtain ⟨i0, hi, hz0, hz1, hz2⟩ := info_parts info_u8
  have hgw := hc.lt
  go_enter Try.func59, Try.ntmps59
  go_wp2_with fail
  refine (dBelow B g 4 _ hc (by omega)).mono ?_; rintro e w1 ⟨⟨x, rfl, hx0, hx1, _⟩, hc1, hg1⟩
  have s1 := hg1.size
  have O1 := O.far hg1 (fun k e => by cases e; exact .inl hgo)
  have b1 : Below B w w1 := (Below.refl _ _).grown hg1 (by omega) (fun k e => by cases e; exact hB)
  clear hx1
  by_cases h1 : x = 0
  · go_wp2_with fail
    refine (dBelow B g _ _ hc1 (by omega)).mono ?_; rintro e w2 ⟨⟨y, rfl, hy0, hy1, _⟩, hc2, hg2⟩
    have s2 := hg2.size
    have O2 := O1.far hg2 (fun k e => by cases e; exact .inl hgo)
    have b2 : Below B w w2 := b1.grown hg2 (by omega) (fun k e => by cases e; exact hB)
    have hgl := hc2.lt
    have hy2 := hy1 (by omega)
    clear hy1
    obtain ⟨k, rfl⟩ := Int.eq_ofNat_of_zero_le hy0
    have hk : k < zs.length := by omega
    go_wp2_with fail
    refine (dInt B g w2.heap.size 6 [0, 63, 64, 127, 128, 255] _ (hc2.alloc _) rfl (by omega) (by omega) (Blk.new w2 _ _) (by omega)).mono ?_; rintro e w3 ⟨⟨z, rfl, hz⟩, hc3, hg3⟩
    have s3 := hg3.size
    have O3 := (O2.keep (bl_alloc (Below.refl _ _) _)).far hg3 (fun k e => by cases e; exact .inl hgo)
    have b3 : Below B w w3 := b2.grown (gr_trans (gr_alloc (gr_refl w2 (some g)) _) hg3) (by omega) (fun k e => by cases e; exact hB)
    have hz9 : 0 ≤ z ∧ z < 256 := by simp at hz; omega
    clear hz
    obtain ⟨r, rfl, hr1, hr2, hc, hf⟩ := own_at O3.1 hk
    rw [u8s_get zs k hk] at hc
    have HS := (O3.1.stored k (.int .u8 z))
    generalize zs[k] = q at *
    go_wp2_with fail
    go_ret
    have O4 : Row (w3.setCell ⟨r, k, none⟩ (.int .u8 z)) lo (w3.setCell ⟨r, k, none⟩ (.int .u8 z)).heap.size 5 1 (.slice (some ⟨r, 0, none⟩) zs.length c) (zs.set k z).length (u8s (zs.set k z)) := Row.mk (by rw [List.length_set, u8s_set]; exact HS.1)
    exact ⟨⟨_, zs.set k z, rfl, by simp, byt_set hZ k hz9, O4⟩, hc3.far HS.2 (fun j e => by cases e; omega), b3.grown HS.2 (by omega) (fun j e => by cases e; omega)⟩
  by_cases h2 : x = 1
  · go_wp2_with (at_builtin; refine wpList_push rfl _ _ 22 rfl lo 5 i0 (.int .u8 0) 1 1 Try.underlying22 hi hz0 hz1 hz2 rfl (by decide) _ _ _ rfl O1.1 _ rfl rfl rfl (by omega) (by omega) (by omega) ?_)
    intro v' w2 hO2 hg2
    go_wp2_with fail
    go_ret
    exact ⟨⟨_, zs ++ [3], rfl, by simp, hZ.snoc (by omega) (by omega), Row.mk (by rw [← u8s_snoc, List.length_append]; exact hO2)⟩, hc1.far hg2 (fun k e => by have := (O1.1.lt k e).1; omega), b1.grown hg2 (by omega) (fun k e => by have := (O1.1.lt k e).1; omega)⟩
  · go_wp2_with fail
    go_ret
    exact ⟨⟨_, zs, rfl, by omega, hZ, O1.more (Nat.le_refl _) s1⟩, hc1, b1⟩

set_option maxHeartbeats 1000000 in
theorem dGetU (A : Option Addr) (n c : Nat) (zs : List Int) (w : World) (hR : Reads w w.heap.size 1 A n (u8s zs)) (hZ : Byt zs) (hn : n ≤ 1048576) :
    Calls Try.prog 45 #[.slice A n c] w fun e w' => RetBI (fun ys _ => ys.length ≤ 100) w e w' ∧ Below w.heap.size w w' := by
  go_enter Try.func45, Try.ntmps45
  go_wp2_with fail
  refine (dNew w.heap.size n c A zs w hR hZ (Nat.le_refl _) hn).mono ?_; rintro e w1 ⟨g, rfl, hc1, hg, b1⟩
  go_wp2_with fail
  have l1 := hc1.lt
  have s1 := b1.size
  refine (dNum _ g _ (hc1.alloc _)).mono ?_; rintro e w2 ⟨⟨x, rfl, _⟩, hc2, g2⟩
  have g2' := gr_trans (gr_alloc (gr_refl w1 (some g)) _) g2
  have s2 := g2'.size
  go_wp2_with fail
  have b2 := bl_gr b1 g2' (fun k e => by cases e; exact hg)
  refine (sPutU _ _ x [] _ Reads.none_ (fun _ h => by cases h) (by simp)).mono ?_; rintro e w3 ⟨⟨v, P, rfl, eP, hP, O⟩, b3⟩
  obtain ⟨Ap, cp, rfl⟩ := O.form
  have s3 := b3.size
  have hl : P.length ≤ 5 ∧ 0 < P.length := by rw [← eP]; exact ⟨uB_len _, List.length_pos_iff.2 (by simp; exact uBf_ne 4 _)⟩
  clear eP
  have hc3 := hc2.keep b3
  go_wp2_with fail
  refine (dBend w.heap.size g w2.heap.size Ap cp P _ hc3 O hP hl.2 (by omega) (by have := hc2.lt; omega) (by omega) s3).mono ?_; rintro e w4 ⟨⟨v, ys, rfl, hy, hY, O4⟩, hc4, b4⟩
  obtain ⟨Ay, cy, rfl⟩ := O4.form
  have hy' : ys.length ≤ 100 := by omega
  go_wp2_with fail
  refine (dAt w.heap.size g Ay ys.length cy _ hc4 (by omega)).mono ?_; rintro e w5 ⟨⟨z, rfl, _⟩, hc5, g5⟩
  have s5 := g5.size
  go_wp2_with fail
  go_ret2
  exact ⟨⟨_, ys, z, rfl, hy', hY, (O4.far g5 (fun k e => by cases e; exact .inl (by have := hc2.lt; omega))).more (by omega) s5⟩, ((bl_trans b2 b3).trans b4).grown g5 (by have := hc4.lt; omega) (fun k e => by cases e; exact hg)⟩

set_option maxHeartbeats 1000000 in
theorem dGetS (A : Option Addr) (n c : Nat) (zs : List Int) (w : World) (hR : Reads w w.heap.size 1 A n (u8s zs)) (hZ : Byt zs) (hn : n ≤ 1048576) :
    Calls Try.prog 46 #[.slice A n c] w fun e w' => RetBI (fun ys _ => ys.length ≤ 100) w e w' ∧ Below w.heap.size w w' := by
  go_enter Try.func46, Try.ntmps46
  go_wp2_with fail
  refine (dNew w.heap.size n c A zs w hR hZ (Nat.le_refl _) hn).mono ?_; rintro e w1 ⟨g, rfl, hc1, hg, b1⟩
  go_wp2_with fail
  have l1 := hc1.lt
  have s1 := b1.size
  refine (dNum _ g _ (hc1.alloc _)).mono ?_; rintro e w2 ⟨⟨x, rfl, _⟩, hc2, g2⟩
  have g2' := gr_trans (gr_alloc (gr_refl w1 (some g)) _) g2
  have s2 := g2'.size
  go_wp2_with fail
  have b2 := bl_gr b1 g2' (fun k e => by cases e; exact hg)
  refine (sPutS _ _ x [] _ Reads.none_ (fun _ h => by cases h) (by simp)).mono ?_; rintro e w3 ⟨⟨v, P, rfl, eP, hP, O⟩, b3⟩
  obtain ⟨Ap, cp, rfl⟩ := O.form
  have s3 := b3.size
  have hl : P.length ≤ 5 ∧ 0 < P.length := by rw [← eP]; exact ⟨sBf_len 4 _, List.length_pos_iff.2 (by simp; exact sBf_ne 4 _)⟩
  clear eP
  have hc3 := hc2.keep b3
  go_wp2_with fail
  refine (dBend w.heap.size g w2.heap.size Ap cp P _ hc3 O hP hl.2 (by omega) (by have := hc2.lt; omega) (by omega) s3).mono ?_; rintro e w4 ⟨⟨v, ys, rfl, hy, hY, O4⟩, hc4, b4⟩
  obtain ⟨Ay, cy, rfl⟩ := O4.form
  have hy' : ys.length ≤ 100 := by omega
  go_wp2_with fail
  refine (dAt w.heap.size g Ay ys.length cy _ hc4 (by omega)).mono ?_; rintro e w5 ⟨⟨z, rfl, _⟩, hc5, g5⟩
  have s5 := g5.size
  go_wp2_with fail
  go_ret2
  exact ⟨⟨_, ys, z, rfl, hy', hY, (O4.far g5 (fun k e => by cases e; exact .inl (by have := hc2.lt; omega))).more (by omega) s5⟩, ((bl_trans b2 b3).trans b4).grown g5 (by have := hc4.lt; omega) (fun k e => by cases e; exact hg)⟩

end Go.Proofs.Ytkahlckjedaolaa
