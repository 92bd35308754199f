/- Walks over the laws' eqRexS and eqRex: a row is equal to one that is the same. -/
import Derived.Test.YtnoekbgmhnhneaaRexB
import Derived.Deep.RegionHeld3
namespace Go.Proofs.Ytnoekbgmhnhneaa
open Go.RowKit

set_option maxHeartbeats 1000000 in
theorem eqRex_of (zk : Int) (zs : ByteArray) (kids : Fr (Int × ByteArray)) (A A' : Option Addr) (c c' : Nat) (w : World) (hS : Sl rexC w 0 w.heap.size A kids) (hS' : Sl rexC w 0 w.heap.size A' kids)
    (I : ∀ w', Sl rexC w' 0 w'.heap.size A kids → Sl rexC w' 0 w'.heap.size A' kids → Calls Try.prog 55 #[.slice A kids.len c, .slice A' kids.len c'] w' fun e w'' => e = .returned (.bool true) ∧ Below w'.heap.size w' w'') :
    Calls Try.prog 23 #[.agg #[.int .i64 zk, .string zs, .slice A kids.len c], .agg #[.int .i64 zk, .string zs, .slice A' kids.len c']] w fun e w' => e = .returned (.bool true) ∧ Below w.heap.size w w' := by
  have L0 := bl_alloc (bl_alloc (Below.refl w.heap.size w) (.cells #[.int .i64 zk, .string zs, .slice A kids.len c] 45)) (.cells #[.int .i64 zk, .string zs, .slice A' kids.len c'] 45)
  have I0 := I _ ((hS.below L0 (Nat.le_refl _)).more (Nat.le_refl _) L0.size) ((hS'.below L0 (Nat.le_refl _)).more (Nat.le_refl _) L0.size)
  go_enter Try.func23, Try.ntmps23
  go_wp2_with fail
  refine I0.mono ?_; rintro e w1 ⟨rfl, b1⟩
  go_wp2_with fail
  go_ret
  exact ⟨rfl, bl_trans L0 b1⟩

set_option maxHeartbeats 2000000 in
theorem eqRexS_step (fr : Fr (Int × ByteArray)) (A A' : Option Addr) (c c' : Nat) (w : World) (hl : fr.len ≤ 1048576) (hS : Sl rexC w 0 w.heap.size A fr) (hS' : Sl rexC w 0 w.heap.size A' fr)
    (ih : ∀ (kids : Fr (Int × ByteArray)), kids.size < fr.size → ∀ (A A' : Option Addr) (c c' : Nat) (w : World), Sl rexC w 0 w.heap.size A kids → Sl rexC w 0 w.heap.size A' kids → Calls Try.prog 55 #[.slice A kids.len c, .slice A' kids.len c'] w fun e w' => e = .returned (.bool true) ∧ Below w.heap.size w w') :
    Calls Try.prog 55 #[.slice A fr.len c, .slice A' fr.len c'] w fun e w' => e = .returned (.bool true) ∧ Below w.heap.size w w' := by
  have hl' : (fr.len : Int) ≤ 1048576 := by omega
  have IH := Lib.hid ih
  clear ih
  go_enter Try.func55, Try.ntmps55
  go_wp2_with fail
  go_loopw [5] (fun i wr => ∃ k : Nat, k ≤ fr.len ∧ i = .int .i64 k ∧ Below w.heap.size w wr) (fun i _ => fr.len - (intOf i).toNat)
  case atStart => exact ⟨0, Nat.zero_le _, rfl, Below.refl _ _⟩
  case round =>
    obtain ⟨k, hk, rfl, hL⟩ := hrel
    by_cases hlt : k < fr.len
    · obtain ⟨b, o, a, kids, A1, c1, rfl, hb, hd, hks, hSk, q0, q1, q2⟩ := at_Rex (hS.below hL (Nat.le_refl _)) hlt
      obtain ⟨b2, o2, a2, kids2, A2, c2, rfl, hb2, hd2, _, hSk2, r0, r1, r2⟩ := at_Rex (hS'.below hL (Nat.le_refl _)) hlt
      rw [hd] at hd2
      injection hd2 with e1 e2 e3
      subst e1 e2
      obtain ⟨zk, zs⟩ := a
      simp only at q0 q1 q2 r0 r1 r2
      have hlt' : (k : Int) < (fr.len : Int) := by omega
      have hbb : b < wr.heap.size := Nat.lt_of_lt_of_le hb hL.size
      have hbb2 : b2 < wr.heap.size := Nat.lt_of_lt_of_le hb2 hL.size
      clear hd e3
      go_wp2_with fail
      refine wp_region_held_drew (S := (fun x => (x.cell? ⟨b, o + k * 3, none⟩ = some (.int .i64 zk) ∧ x.cell? ⟨b, o + k * 3 + 1, none⟩ = some (.string zs) ∧ x.cell? ⟨b, o + k * 3 + 2, none⟩ = some (.slice A1 kids.len c1)) ∧ (x.cell? ⟨b2, o2 + k * 3, none⟩ = some (.int .i64 zk) ∧ x.cell? ⟨b2, o2 + k * 3 + 1, none⟩ = some (.string zs) ∧ x.cell? ⟨b2, o2 + k * 3 + 2, none⟩ = some (.slice A2 kids.len c2)) ∧ Sl rexC x 0 wr.heap.size A1 kids ∧ Sl rexC x 0 wr.heap.size A2 kids ∧ wr.heap.size ≤ x.heap.size)) (by kernel_rfl) ?_ (fun hHeld => ?_)
      · exact ⟨⟨q0, q1, q2⟩, ⟨r0, r1, r2⟩, hSk.keep (fun _ _ _ => rfl) (Nat.le_refl _) hL.size, hSk2.keep (fun _ _ _ => rfl) (Nat.le_refl _) hL.size, Nat.le_refl _⟩
      refine wpAnyH_take (i := 0) (oi := ⟨some 17, _, _, _, _, _⟩) (v := ?_) rfl (by kernel_rfl) (by kernel_rfl) (by kernel_rfl) (fun _ _ _ h => h) (Or.inl ⟨by rfl, ?_⟩) (by assumption) ?_
      case refine_2 => (intro w hSw; obtain ⟨⟨p0, p1, p2⟩, ⟨u0, u1, u2⟩, _, _, _⟩ := hSw; go_simp; first | done | with_reducible rfl)
      simp only [Act.put, List.setIfInBounds_toArray, List.set_cons_zero, List.set_cons_succ]
      refine wpAnyH_take (i := 1) (oi := ⟨some 18, _, _, _, _, _⟩) (v := ?_) rfl (by kernel_rfl) (by kernel_rfl) (by kernel_rfl) (fun _ _ _ h => h) (Or.inl ⟨by rfl, ?_⟩) (by assumption) ?_
      case refine_2 => (intro w hSw; obtain ⟨⟨p0, p1, p2⟩, ⟨u0, u1, u2⟩, _, _, _⟩ := hSw; go_simp; first | done | with_reducible rfl)
      simp only [Act.put, List.setIfInBounds_toArray, List.set_cons_zero, List.set_cons_succ]
      refine wpAnyH_take (i := 2) (oi := ⟨some 19, _, _, _, _, _⟩) (v := ?_) rfl (by kernel_rfl) (by kernel_rfl) (by kernel_rfl) (fun _ _ _ h => h) (Or.inl ⟨by rfl, ?_⟩) (by assumption) ?_
      case refine_2 => (intro w hSw; obtain ⟨⟨p0, p1, p2⟩, ⟨u0, u1, u2⟩, _, _, _⟩ := hSw; go_simp; first | done | with_reducible rfl)
      simp only [Act.put, List.setIfInBounds_toArray, List.set_cons_zero, List.set_cons_succ]
      refine wpAnyH_take (i := 3) (oi := ⟨some 20, _, _, _, _, _⟩) (v := ?_) rfl (by kernel_rfl) (by kernel_rfl) (by kernel_rfl) (fun _ _ _ h => h) (Or.inl ⟨by rfl, ?_⟩) (by assumption) ?_
      case refine_2 => (intro w hSw; obtain ⟨⟨p0, p1, p2⟩, ⟨u0, u1, u2⟩, _, _, _⟩ := hSw; go_simp; first | done | with_reducible rfl)
      simp only [Act.put, List.setIfInBounds_toArray, List.set_cons_zero, List.set_cons_succ]
      refine wpAnyH_take (i := 4) (oi := ⟨some 21, _, _, _, _, _⟩) (v := ?_) rfl (by kernel_rfl) (by kernel_rfl) (by kernel_rfl) (fun _ _ _ h => h) (Or.inl ⟨by rfl, ?_⟩) (by assumption) ?_
      case refine_2 => (intro w hSw; obtain ⟨⟨p0, p1, p2⟩, ⟨u0, u1, u2⟩, _, _, _⟩ := hSw; go_simp; first | done | with_reducible rfl)
      simp only [Act.put, List.setIfInBounds_toArray, List.set_cons_zero, List.set_cons_succ]
      refine wpAnyH_take (i := 5) (oi := ⟨some 22, _, _, _, _, _⟩) (v := ?_) rfl (by kernel_rfl) (by kernel_rfl) (by kernel_rfl) (fun _ _ _ h => h) (Or.inl ⟨by rfl, ?_⟩) (by assumption) ?_
      case refine_2 => (intro w hSw; obtain ⟨⟨p0, p1, p2⟩, ⟨u0, u1, u2⟩, _, _, _⟩ := hSw; go_simp; first | done | with_reducible rfl)
      simp only [Act.put, List.setIfInBounds_toArray, List.set_cons_zero, List.set_cons_succ]
      refine wpAnyH_take (i := 6) (oi := ⟨some 23, _, _, _, _, _⟩) (v := ?_) rfl (by kernel_rfl) (by kernel_rfl) (by kernel_rfl) (fun _ _ _ h => h) (Or.inl ⟨by rfl, ?_⟩) (by assumption) ?_
      case refine_2 => (intro w hSw; obtain ⟨⟨p0, p1, p2⟩, ⟨u0, u1, u2⟩, _, _, _⟩ := hSw; go_simp; first | done | with_reducible rfl)
      simp only [Act.put, List.setIfInBounds_toArray, List.set_cons_zero, List.set_cons_succ]
      refine wpAnyH_take (i := 7) (oi := ⟨some 24, _, _, _, _, _⟩) (v := ?_) rfl (by kernel_rfl) (by kernel_rfl) (by kernel_rfl) (fun _ _ _ h => h) (Or.inl ⟨by rfl, ?_⟩) (by assumption) ?_
      case refine_2 => (intro w hSw; obtain ⟨⟨p0, p1, p2⟩, ⟨u0, u1, u2⟩, _, _, _⟩ := hSw; go_simp; first | done | with_reducible rfl)
      simp only [Act.put, List.setIfInBounds_toArray, List.set_cons_zero, List.set_cons_succ]
      refine wpAnyH_ready (rs := [8]) (by kernel_rfl) (by simp) ?_
      refine AllReadyH.cons (o := ⟨some 25, _, _, _, _, _⟩) rfl (fun K hK => ?_) AllReadyH.nil
      go_simp
      refine (eqRex_of zk zs kids A1 A2 c1 c2 _ (hHeld.2.2.1.more (Nat.le_refl _) hHeld.2.2.2.2) (hHeld.2.2.2.1.more (Nat.le_refl _) hHeld.2.2.2.2) (fun w' h h' => IH.out kids hks A1 A2 c1 c2 w' h h')).mono ?_; rintro e w1 ⟨rfl, b1⟩
      go_wp2_with fail
      refine hK.out _ _ (⟨⟨(b1.cell (Nat.lt_of_lt_of_le hbb hHeld.2.2.2.2)).trans hHeld.1.1, (b1.cell (Nat.lt_of_lt_of_le hbb hHeld.2.2.2.2)).trans hHeld.1.2.1, (b1.cell (Nat.lt_of_lt_of_le hbb hHeld.2.2.2.2)).trans hHeld.1.2.2⟩, ⟨(b1.cell (Nat.lt_of_lt_of_le hbb2 hHeld.2.2.2.2)).trans hHeld.2.1.1, (b1.cell (Nat.lt_of_lt_of_le hbb2 hHeld.2.2.2.2)).trans hHeld.2.1.2.1, (b1.cell (Nat.lt_of_lt_of_le hbb2 hHeld.2.2.2.2)).trans hHeld.2.1.2.2⟩, hHeld.2.2.1.below b1 hHeld.2.2.2.2, hHeld.2.2.2.1.below b1 hHeld.2.2.2.2, Nat.le_trans hHeld.2.2.2.2 b1.size⟩) (fun hHeld => ?_)
      clear hK K
      try simp only [Act.put, List.setIfInBounds_toArray, List.set_cons_zero, List.set_cons_succ]
      refine wpAnyH_take (i := 9) (oi := ⟨some 26, _, _, _, _, _⟩) (v := ?_) rfl (by kernel_rfl) (by kernel_rfl) (by kernel_rfl) (fun _ _ _ h => h) (Or.inl ⟨by rfl, ?_⟩) (by assumption) ?_
      case refine_2 => (intro w hSw; skip; go_simp; first | done | with_reducible rfl)
      simp only [Act.put, List.setIfInBounds_toArray, List.set_cons_zero, List.set_cons_succ]
      refine wpAnyH_done (by kernel_rfl) ?_ _
      go_wp2_with fail
      go_roundw
      case rel => exact ⟨k + 1, by omega, by go_num, bl_trans hL.drew b1⟩
      case measure => simp [intOf]; omega
    · obtain rfl : k = fr.len := by omega
      go_wp2_with fail
      go_ret
      exact ⟨rfl, hL⟩
theorem eqRexS_any (N : Nat) (hN : N ≤ 1048576) : ∀ (fr : Fr (Int × ByteArray)), fr.size ≤ N → ∀ (A A' : Option Addr) (c c' : Nat) (w : World), Sl rexC w 0 w.heap.size A fr → Sl rexC w 0 w.heap.size A' fr →
    Calls Try.prog 55 #[.slice A fr.len c, .slice A' fr.len c'] w fun e w' => e = .returned (.bool true) ∧ Below w.heap.size w w' := by
  induction N with
  | zero =>
    intro fr hs A A' c c' w h h'
    obtain rfl := Fr.size_pos (Nat.le_zero.1 hs)
    exact eqRexS_step .nil A A' c c' w (by simp [Fr.len]) h h' (fun kids h => by simp [Fr.size] at h)
  | succ N ih =>
    intro fr hs A A' c c' w h h'
    exact eqRexS_step fr A A' c c' w (by have := fr.len_size; omega) h h' (fun kids h A A' c c' w k k' => ih (by omega) kids (by omega) A A' c c' w k k')

end Go.Proofs.Ytnoekbgmhnhneaa
