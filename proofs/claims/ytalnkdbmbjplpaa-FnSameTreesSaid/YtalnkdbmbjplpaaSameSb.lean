/- Walk over the reference's l10SameBlock: are two rows of statements the same. A row has at most 1048576 nodes. -/
import Derived.Test.YtalnkdbmbjplpaaSameS
import Derived.Deep.RegionHeld3
namespace Go.Proofs.Ytalnkdbmbjplpaa
open Go.RowKit

set_option maxHeartbeats 4000000 in
theorem sBlock_step (K : Nat) (x y : St) (A A' : Option Addr) (c c' : Nat) (w : World) (hK : x.size ≤ K) (hl : x.size ≤ 1048576) (hl2 : y.size ≤ 1048576) (hS : SlS w 0 w.heap.size A x) (hS' : SlS w 0 w.heap.size A' y)
    (ih : ∀ (zk : Int) (zs zt : ByteArray) (x : Fr (Int × Int × ByteArray)) (p q : St) (X P Q : Option Addr) (cx cp cq : Nat), x.size + p.size + q.size < K → ∀ (zk' : Int) (zs' zt' : ByteArray) (x' : Fr (Int × Int × ByteArray)) (p' q' : St) (X' P' Q' : Option Addr) (cx' cp' cq' : Nat), x'.size + p'.size + q'.size ≤ 1048576 → ∀ w, Sl exprC w 0 w.heap.size X x → SlS w 0 w.heap.size P p → SlS w 0 w.heap.size Q q → Sl exprC w 0 w.heap.size X' x' → SlS w 0 w.heap.size P' p' → SlS w 0 w.heap.size Q' q' → Calls Try.prog 11 #[.agg #[.int .i64 zk, .string zs, .string zt, .slice X x.len cx, .slice P p.len cp, .slice Q q.len cq], .agg #[.int .i64 zk', .string zs', .string zt', .slice X' x'.len cx', .slice P' p'.len cp', .slice Q' q'.len cq']] w fun e w' => e = .returned (.bool (labS (zk, zs, zt) (zk', zs', zt') && (sameF x x' && (sameS p p' && sameS q q')))) ∧ Below w.heap.size w w') :
    Calls Try.prog 22 #[.slice A x.len c, .slice A' y.len c'] w fun e w' => e = .returned (.bool (sameS x y)) ∧ Below w.heap.size w w' := by
  have IHH := Lib.hid ih
  clear ih
  by_cases h4 : x.len = y.len
  case neg =>
    have g2 : ((x.len : Int) != y.len) = true := by simp; omega
    rw [sameS_len x y h4]
    go_enter Try.func22, Try.ntmps22
    go_wp2_with fail
    go_ret
    exact ⟨rfl, Below.refl _ _⟩
  have g4 : ((x.len : Int) != y.len) = false := by simp; omega
  have hlen := x.len_size
  have H4 := Lib.hid h4
  obtain ⟨R, hR⟩ : ∃ R, sameS x y = R := ⟨_, rfl⟩
  rw [hR]
  have HR := Lib.hid hR
  clear hR h4
  go_enter Try.func22, Try.ntmps22
  go_wp2_with fail
  go_loopw [5] (fun i wr => ∃ k : Nat, k ≤ x.len ∧ i = .int .i64 k ∧ sameS (x.drop k) (y.drop k) = R ∧ Below w.heap.size w wr) (fun i _ => x.len - (intOf i).toNat)
  case atStart => exact ⟨0, Nat.zero_le _, rfl, by rw [St.drop_zero, St.drop_zero]; exact HR.out, Below.refl _ _⟩
  case round =>
    obtain ⟨k, hk, rfl, hE, hL⟩ := hrel
    by_cases hlt : k < x.len
    · obtain ⟨b, o, a, t, p, q, X, cx, P, cp, Q, cq, rfl, _, hb, hd, hks, ⟨hX, hP, hQ⟩, q0, q1, q2, q3, q4, q5⟩ := (hS.below hL (Nat.le_refl _)).at_ hlt
      obtain ⟨b2, o2, a2, t', p', q', X', cx', P', cp', Q', cq', rfl, _, hb2, hd2, hks2, ⟨hX', hP', hQ'⟩, r0, r1, r2, r3, r4, r5⟩ := (hS'.below hL (Nat.le_refl _)).at_ (i := k) (by have := H4.out; omega)
      obtain ⟨zk, zs, zt⟩ := a
      obtain ⟨zk', zs', zt'⟩ := a2
      simp only at q0 q1 q2 r0 r1 r2
      have hlt' : (k : Int) < (x.len : Int) := by omega
      have hlt2 : (k : Int) < (y.len : Int) := by have := H4.out; omega
      have hbb : b < wr.heap.size := Nat.lt_of_lt_of_le hb hL.size
      have hbb2 : b2 < wr.heap.size := Nat.lt_of_lt_of_le hb2 hL.size
      have cZ := fun w g1 g2 g3 g4 g5 g6 => IHH.out zk zs zt t p q X P Q cx cp cq (by omega) zk' zs' zt' t' p' q' X' P' Q' cx' cp' cq' (by omega) w g1 g2 g3 g4 g5 g6
      obtain ⟨z, hz⟩ : ∃ z, (labS (zk, zs, zt) (zk', zs', zt') && (sameF t t' && (sameS p p' && sameS q q'))) = z := ⟨_, rfl⟩
      rw [hz] at cZ
      have CZ := Lib.hid cZ
      clear cZ
      cases z
      · rw [sameS_drop_no hd hd2 hz] at hE
        subst hE
        clear hd hd2 HR hz
        go_wp2_with fail
        refine wp_region_held_drew (S := (fun x => (x.cell? ⟨b, o + k * 6, none⟩ = some (.int .i64 zk) ∧ x.cell? ⟨b, o + k * 6 + 1, none⟩ = some (.string zs) ∧ x.cell? ⟨b, o + k * 6 + 2, none⟩ = some (.string zt) ∧ x.cell? ⟨b, o + k * 6 + 3, none⟩ = some (.slice X t.len cx) ∧ x.cell? ⟨b, o + k * 6 + 4, none⟩ = some (.slice P p.len cp) ∧ x.cell? ⟨b, o + k * 6 + 5, none⟩ = some (.slice Q q.len cq)) ∧ (x.cell? ⟨b2, o2 + k * 6, none⟩ = some (.int .i64 zk') ∧ x.cell? ⟨b2, o2 + k * 6 + 1, none⟩ = some (.string zs') ∧ x.cell? ⟨b2, o2 + k * 6 + 2, none⟩ = some (.string zt') ∧ x.cell? ⟨b2, o2 + k * 6 + 3, none⟩ = some (.slice X' t'.len cx') ∧ x.cell? ⟨b2, o2 + k * 6 + 4, none⟩ = some (.slice P' p'.len cp') ∧ x.cell? ⟨b2, o2 + k * 6 + 5, none⟩ = some (.slice Q' q'.len cq')) ∧ (Sl exprC x 0 wr.heap.size X t ∧ SlS x 0 wr.heap.size P p ∧ SlS x 0 wr.heap.size Q q) ∧ (Sl exprC x 0 wr.heap.size X' t' ∧ SlS x 0 wr.heap.size P' p' ∧ SlS x 0 wr.heap.size Q' q') ∧ wr.heap.size ≤ x.heap.size)) (by kernel_rfl) ?_ (fun hHeld => ?_)
        · exact ⟨⟨q0, q1, q2, q3, q4, q5⟩, ⟨r0, r1, r2, r3, r4, r5⟩, ⟨hX.keep (fun _ _ _ => rfl) (Nat.le_refl _) hL.size, hP.keep (fun _ _ _ => rfl) (Nat.le_refl _) hL.size, hQ.keep (fun _ _ _ => rfl) (Nat.le_refl _) hL.size⟩, ⟨hX'.keep (fun _ _ _ => rfl) (Nat.le_refl _) hL.size, hP'.keep (fun _ _ _ => rfl) (Nat.le_refl _) hL.size, hQ'.keep (fun _ _ _ => rfl) (Nat.le_refl _) hL.size⟩, Nat.le_refl _⟩
        refine wpAnyH_take (i := 0) (oi := ⟨some 17, _, _, _, _, _⟩) (v := ?_) rfl (by kernel_rfl) (by kernel_rfl) (by kernel_rfl) (fun _ _ _ h => h) (Or.inl ⟨by rfl, ?_⟩) (by assumption) ?_
        case refine_2 => (intro w hSw; obtain ⟨⟨p0, p1, p2, p3, p4, p5⟩, ⟨u0, u1, u2, u3, u4, u5⟩, _, _, _⟩ := hSw; go_simp; first | done | with_reducible rfl)
        simp only [Act.put, List.setIfInBounds_toArray, List.set_cons_zero, List.set_cons_succ]
        refine wpAnyH_take (i := 1) (oi := ⟨some 18, _, _, _, _, _⟩) (v := ?_) rfl (by kernel_rfl) (by kernel_rfl) (by kernel_rfl) (fun _ _ _ h => h) (Or.inl ⟨by rfl, ?_⟩) (by assumption) ?_
        case refine_2 => (intro w hSw; obtain ⟨⟨p0, p1, p2, p3, p4, p5⟩, ⟨u0, u1, u2, u3, u4, u5⟩, _, _, _⟩ := hSw; go_simp; first | done | with_reducible rfl)
        simp only [Act.put, List.setIfInBounds_toArray, List.set_cons_zero, List.set_cons_succ]
        refine wpAnyH_take (i := 2) (oi := ⟨some 19, _, _, _, _, _⟩) (v := ?_) rfl (by kernel_rfl) (by kernel_rfl) (by kernel_rfl) (fun _ _ _ h => h) (Or.inl ⟨by rfl, ?_⟩) (by assumption) ?_
        case refine_2 => (intro w hSw; obtain ⟨⟨p0, p1, p2, p3, p4, p5⟩, ⟨u0, u1, u2, u3, u4, u5⟩, _, _, _⟩ := hSw; go_simp; first | done | with_reducible rfl)
        simp only [Act.put, List.setIfInBounds_toArray, List.set_cons_zero, List.set_cons_succ]
        refine wpAnyH_take (i := 3) (oi := ⟨some 20, _, _, _, _, _⟩) (v := ?_) rfl (by kernel_rfl) (by kernel_rfl) (by kernel_rfl) (fun _ _ _ h => h) (Or.inl ⟨by rfl, ?_⟩) (by assumption) ?_
        case refine_2 => (intro w hSw; obtain ⟨⟨p0, p1, p2, p3, p4, p5⟩, ⟨u0, u1, u2, u3, u4, u5⟩, _, _, _⟩ := hSw; go_simp; first | done | with_reducible rfl)
        simp only [Act.put, List.setIfInBounds_toArray, List.set_cons_zero, List.set_cons_succ]
        refine wpAnyH_take (i := 4) (oi := ⟨some 21, _, _, _, _, _⟩) (v := ?_) rfl (by kernel_rfl) (by kernel_rfl) (by kernel_rfl) (fun _ _ _ h => h) (Or.inl ⟨by rfl, ?_⟩) (by assumption) ?_
        case refine_2 => (intro w hSw; obtain ⟨⟨p0, p1, p2, p3, p4, p5⟩, ⟨u0, u1, u2, u3, u4, u5⟩, _, _, _⟩ := hSw; go_simp; first | done | with_reducible rfl)
        simp only [Act.put, List.setIfInBounds_toArray, List.set_cons_zero, List.set_cons_succ]
        refine wpAnyH_take (i := 5) (oi := ⟨some 22, _, _, _, _, _⟩) (v := ?_) rfl (by kernel_rfl) (by kernel_rfl) (by kernel_rfl) (fun _ _ _ h => h) (Or.inl ⟨by rfl, ?_⟩) (by assumption) ?_
        case refine_2 => (intro w hSw; obtain ⟨⟨p0, p1, p2, p3, p4, p5⟩, ⟨u0, u1, u2, u3, u4, u5⟩, _, _, _⟩ := hSw; go_simp; first | done | with_reducible rfl)
        simp only [Act.put, List.setIfInBounds_toArray, List.set_cons_zero, List.set_cons_succ]
        refine wpAnyH_take (i := 6) (oi := ⟨some 23, _, _, _, _, _⟩) (v := ?_) rfl (by kernel_rfl) (by kernel_rfl) (by kernel_rfl) (fun _ _ _ h => h) (Or.inl ⟨by rfl, ?_⟩) (by assumption) ?_
        case refine_2 => (intro w hSw; obtain ⟨⟨p0, p1, p2, p3, p4, p5⟩, ⟨u0, u1, u2, u3, u4, u5⟩, _, _, _⟩ := hSw; go_simp; first | done | with_reducible rfl)
        simp only [Act.put, List.setIfInBounds_toArray, List.set_cons_zero, List.set_cons_succ]
        refine wpAnyH_take (i := 7) (oi := ⟨some 24, _, _, _, _, _⟩) (v := ?_) rfl (by kernel_rfl) (by kernel_rfl) (by kernel_rfl) (fun _ _ _ h => h) (Or.inl ⟨by rfl, ?_⟩) (by assumption) ?_
        case refine_2 => (intro w hSw; obtain ⟨⟨p0, p1, p2, p3, p4, p5⟩, ⟨u0, u1, u2, u3, u4, u5⟩, _, _, _⟩ := hSw; go_simp; first | done | with_reducible rfl)
        simp only [Act.put, List.setIfInBounds_toArray, List.set_cons_zero, List.set_cons_succ]
        refine wpAnyH_ready (rs := [8]) (by kernel_rfl) (by simp) ?_
        refine AllReadyH.cons (o := ⟨some 25, _, _, _, _, _⟩) rfl (fun K hK => ?_) AllReadyH.nil
        go_simp
        refine (CZ.out _ (hHeld.2.2.1.1.more (Nat.le_refl _) hHeld.2.2.2.2) (hHeld.2.2.1.2.1.more (Nat.le_refl _) hHeld.2.2.2.2) (hHeld.2.2.1.2.2.more (Nat.le_refl _) hHeld.2.2.2.2) (hHeld.2.2.2.1.1.more (Nat.le_refl _) hHeld.2.2.2.2) (hHeld.2.2.2.1.2.1.more (Nat.le_refl _) hHeld.2.2.2.2) (hHeld.2.2.2.1.2.2.more (Nat.le_refl _) hHeld.2.2.2.2)).mono ?_; rintro e w1 ⟨rfl, b1⟩
        go_wp2_with fail
        refine hK.out _ _ (⟨⟨(b1.cell (Nat.lt_of_lt_of_le hbb hHeld.2.2.2.2)).trans hHeld.1.1, (b1.cell (Nat.lt_of_lt_of_le hbb hHeld.2.2.2.2)).trans hHeld.1.2.1, (b1.cell (Nat.lt_of_lt_of_le hbb hHeld.2.2.2.2)).trans hHeld.1.2.2.1, (b1.cell (Nat.lt_of_lt_of_le hbb hHeld.2.2.2.2)).trans hHeld.1.2.2.2.1, (b1.cell (Nat.lt_of_lt_of_le hbb hHeld.2.2.2.2)).trans hHeld.1.2.2.2.2.1, (b1.cell (Nat.lt_of_lt_of_le hbb hHeld.2.2.2.2)).trans hHeld.1.2.2.2.2.2⟩, ⟨(b1.cell (Nat.lt_of_lt_of_le hbb2 hHeld.2.2.2.2)).trans hHeld.2.1.1, (b1.cell (Nat.lt_of_lt_of_le hbb2 hHeld.2.2.2.2)).trans hHeld.2.1.2.1, (b1.cell (Nat.lt_of_lt_of_le hbb2 hHeld.2.2.2.2)).trans hHeld.2.1.2.2.1, (b1.cell (Nat.lt_of_lt_of_le hbb2 hHeld.2.2.2.2)).trans hHeld.2.1.2.2.2.1, (b1.cell (Nat.lt_of_lt_of_le hbb2 hHeld.2.2.2.2)).trans hHeld.2.1.2.2.2.2.1, (b1.cell (Nat.lt_of_lt_of_le hbb2 hHeld.2.2.2.2)).trans hHeld.2.1.2.2.2.2.2⟩, ⟨hHeld.2.2.1.1.below b1 hHeld.2.2.2.2, hHeld.2.2.1.2.1.below b1 hHeld.2.2.2.2, hHeld.2.2.1.2.2.below b1 hHeld.2.2.2.2⟩, ⟨hHeld.2.2.2.1.1.below b1 hHeld.2.2.2.2, hHeld.2.2.2.1.2.1.below b1 hHeld.2.2.2.2, hHeld.2.2.2.1.2.2.below b1 hHeld.2.2.2.2⟩, Nat.le_trans hHeld.2.2.2.2 b1.size⟩) (fun hHeld => ?_)
        clear hK K
        try simp only [Act.put, List.setIfInBounds_toArray, List.set_cons_zero, List.set_cons_succ]
        refine wpAnyH_take (i := 9) (oi := ⟨some 26, _, _, _, _, _⟩) (v := ?_) rfl (by kernel_rfl) (by kernel_rfl) (by kernel_rfl) (fun _ _ _ h => h) (Or.inl ⟨by rfl, ?_⟩) (by assumption) ?_
        case refine_2 => (intro w hSw; skip; go_simp; first | done | with_reducible rfl)
        simp only [Act.put, List.setIfInBounds_toArray, List.set_cons_zero, List.set_cons_succ]
        refine wpAnyH_done (by kernel_rfl) ?_ _
        go_wp2_with fail
        go_ret
        exact ⟨rfl, bl_trans hL.drew b1⟩
      · have HE := Lib.hid ((sameS_drop_yes hd hd2 hz).symm.trans hE)
        clear hd hd2 HR hz hE
        go_wp2_with fail
        refine wp_region_held_drew (S := (fun x => (x.cell? ⟨b, o + k * 6, none⟩ = some (.int .i64 zk) ∧ x.cell? ⟨b, o + k * 6 + 1, none⟩ = some (.string zs) ∧ x.cell? ⟨b, o + k * 6 + 2, none⟩ = some (.string zt) ∧ x.cell? ⟨b, o + k * 6 + 3, none⟩ = some (.slice X t.len cx) ∧ x.cell? ⟨b, o + k * 6 + 4, none⟩ = some (.slice P p.len cp) ∧ x.cell? ⟨b, o + k * 6 + 5, none⟩ = some (.slice Q q.len cq)) ∧ (x.cell? ⟨b2, o2 + k * 6, none⟩ = some (.int .i64 zk') ∧ x.cell? ⟨b2, o2 + k * 6 + 1, none⟩ = some (.string zs') ∧ x.cell? ⟨b2, o2 + k * 6 + 2, none⟩ = some (.string zt') ∧ x.cell? ⟨b2, o2 + k * 6 + 3, none⟩ = some (.slice X' t'.len cx') ∧ x.cell? ⟨b2, o2 + k * 6 + 4, none⟩ = some (.slice P' p'.len cp') ∧ x.cell? ⟨b2, o2 + k * 6 + 5, none⟩ = some (.slice Q' q'.len cq')) ∧ (Sl exprC x 0 wr.heap.size X t ∧ SlS x 0 wr.heap.size P p ∧ SlS x 0 wr.heap.size Q q) ∧ (Sl exprC x 0 wr.heap.size X' t' ∧ SlS x 0 wr.heap.size P' p' ∧ SlS x 0 wr.heap.size Q' q') ∧ wr.heap.size ≤ x.heap.size)) (by kernel_rfl) ?_ (fun hHeld => ?_)
        · exact ⟨⟨q0, q1, q2, q3, q4, q5⟩, ⟨r0, r1, r2, r3, r4, r5⟩, ⟨hX.keep (fun _ _ _ => rfl) (Nat.le_refl _) hL.size, hP.keep (fun _ _ _ => rfl) (Nat.le_refl _) hL.size, hQ.keep (fun _ _ _ => rfl) (Nat.le_refl _) hL.size⟩, ⟨hX'.keep (fun _ _ _ => rfl) (Nat.le_refl _) hL.size, hP'.keep (fun _ _ _ => rfl) (Nat.le_refl _) hL.size, hQ'.keep (fun _ _ _ => rfl) (Nat.le_refl _) hL.size⟩, Nat.le_refl _⟩
        refine wpAnyH_take (i := 0) (oi := ⟨some 17, _, _, _, _, _⟩) (v := ?_) rfl (by kernel_rfl) (by kernel_rfl) (by kernel_rfl) (fun _ _ _ h => h) (Or.inl ⟨by rfl, ?_⟩) (by assumption) ?_
        case refine_2 => (intro w hSw; obtain ⟨⟨p0, p1, p2, p3, p4, p5⟩, ⟨u0, u1, u2, u3, u4, u5⟩, _, _, _⟩ := hSw; go_simp; first | done | with_reducible rfl)
        simp only [Act.put, List.setIfInBounds_toArray, List.set_cons_zero, List.set_cons_succ]
        refine wpAnyH_take (i := 1) (oi := ⟨some 18, _, _, _, _, _⟩) (v := ?_) rfl (by kernel_rfl) (by kernel_rfl) (by kernel_rfl) (fun _ _ _ h => h) (Or.inl ⟨by rfl, ?_⟩) (by assumption) ?_
        case refine_2 => (intro w hSw; obtain ⟨⟨p0, p1, p2, p3, p4, p5⟩, ⟨u0, u1, u2, u3, u4, u5⟩, _, _, _⟩ := hSw; go_simp; first | done | with_reducible rfl)
        simp only [Act.put, List.setIfInBounds_toArray, List.set_cons_zero, List.set_cons_succ]
        refine wpAnyH_take (i := 2) (oi := ⟨some 19, _, _, _, _, _⟩) (v := ?_) rfl (by kernel_rfl) (by kernel_rfl) (by kernel_rfl) (fun _ _ _ h => h) (Or.inl ⟨by rfl, ?_⟩) (by assumption) ?_
        case refine_2 => (intro w hSw; obtain ⟨⟨p0, p1, p2, p3, p4, p5⟩, ⟨u0, u1, u2, u3, u4, u5⟩, _, _, _⟩ := hSw; go_simp; first | done | with_reducible rfl)
        simp only [Act.put, List.setIfInBounds_toArray, List.set_cons_zero, List.set_cons_succ]
        refine wpAnyH_take (i := 3) (oi := ⟨some 20, _, _, _, _, _⟩) (v := ?_) rfl (by kernel_rfl) (by kernel_rfl) (by kernel_rfl) (fun _ _ _ h => h) (Or.inl ⟨by rfl, ?_⟩) (by assumption) ?_
        case refine_2 => (intro w hSw; obtain ⟨⟨p0, p1, p2, p3, p4, p5⟩, ⟨u0, u1, u2, u3, u4, u5⟩, _, _, _⟩ := hSw; go_simp; first | done | with_reducible rfl)
        simp only [Act.put, List.setIfInBounds_toArray, List.set_cons_zero, List.set_cons_succ]
        refine wpAnyH_take (i := 4) (oi := ⟨some 21, _, _, _, _, _⟩) (v := ?_) rfl (by kernel_rfl) (by kernel_rfl) (by kernel_rfl) (fun _ _ _ h => h) (Or.inl ⟨by rfl, ?_⟩) (by assumption) ?_
        case refine_2 => (intro w hSw; obtain ⟨⟨p0, p1, p2, p3, p4, p5⟩, ⟨u0, u1, u2, u3, u4, u5⟩, _, _, _⟩ := hSw; go_simp; first | done | with_reducible rfl)
        simp only [Act.put, List.setIfInBounds_toArray, List.set_cons_zero, List.set_cons_succ]
        refine wpAnyH_take (i := 5) (oi := ⟨some 22, _, _, _, _, _⟩) (v := ?_) rfl (by kernel_rfl) (by kernel_rfl) (by kernel_rfl) (fun _ _ _ h => h) (Or.inl ⟨by rfl, ?_⟩) (by assumption) ?_
        case refine_2 => (intro w hSw; obtain ⟨⟨p0, p1, p2, p3, p4, p5⟩, ⟨u0, u1, u2, u3, u4, u5⟩, _, _, _⟩ := hSw; go_simp; first | done | with_reducible rfl)
        simp only [Act.put, List.setIfInBounds_toArray, List.set_cons_zero, List.set_cons_succ]
        refine wpAnyH_take (i := 6) (oi := ⟨some 23, _, _, _, _, _⟩) (v := ?_) rfl (by kernel_rfl) (by kernel_rfl) (by kernel_rfl) (fun _ _ _ h => h) (Or.inl ⟨by rfl, ?_⟩) (by assumption) ?_
        case refine_2 => (intro w hSw; obtain ⟨⟨p0, p1, p2, p3, p4, p5⟩, ⟨u0, u1, u2, u3, u4, u5⟩, _, _, _⟩ := hSw; go_simp; first | done | with_reducible rfl)
        simp only [Act.put, List.setIfInBounds_toArray, List.set_cons_zero, List.set_cons_succ]
        refine wpAnyH_take (i := 7) (oi := ⟨some 24, _, _, _, _, _⟩) (v := ?_) rfl (by kernel_rfl) (by kernel_rfl) (by kernel_rfl) (fun _ _ _ h => h) (Or.inl ⟨by rfl, ?_⟩) (by assumption) ?_
        case refine_2 => (intro w hSw; obtain ⟨⟨p0, p1, p2, p3, p4, p5⟩, ⟨u0, u1, u2, u3, u4, u5⟩, _, _, _⟩ := hSw; go_simp; first | done | with_reducible rfl)
        simp only [Act.put, List.setIfInBounds_toArray, List.set_cons_zero, List.set_cons_succ]
        refine wpAnyH_ready (rs := [8]) (by kernel_rfl) (by simp) ?_
        refine AllReadyH.cons (o := ⟨some 25, _, _, _, _, _⟩) rfl (fun K hK => ?_) AllReadyH.nil
        go_simp
        refine (CZ.out _ (hHeld.2.2.1.1.more (Nat.le_refl _) hHeld.2.2.2.2) (hHeld.2.2.1.2.1.more (Nat.le_refl _) hHeld.2.2.2.2) (hHeld.2.2.1.2.2.more (Nat.le_refl _) hHeld.2.2.2.2) (hHeld.2.2.2.1.1.more (Nat.le_refl _) hHeld.2.2.2.2) (hHeld.2.2.2.1.2.1.more (Nat.le_refl _) hHeld.2.2.2.2) (hHeld.2.2.2.1.2.2.more (Nat.le_refl _) hHeld.2.2.2.2)).mono ?_; rintro e w1 ⟨rfl, b1⟩
        go_wp2_with fail
        refine hK.out _ _ (⟨⟨(b1.cell (Nat.lt_of_lt_of_le hbb hHeld.2.2.2.2)).trans hHeld.1.1, (b1.cell (Nat.lt_of_lt_of_le hbb hHeld.2.2.2.2)).trans hHeld.1.2.1, (b1.cell (Nat.lt_of_lt_of_le hbb hHeld.2.2.2.2)).trans hHeld.1.2.2.1, (b1.cell (Nat.lt_of_lt_of_le hbb hHeld.2.2.2.2)).trans hHeld.1.2.2.2.1, (b1.cell (Nat.lt_of_lt_of_le hbb hHeld.2.2.2.2)).trans hHeld.1.2.2.2.2.1, (b1.cell (Nat.lt_of_lt_of_le hbb hHeld.2.2.2.2)).trans hHeld.1.2.2.2.2.2⟩, ⟨(b1.cell (Nat.lt_of_lt_of_le hbb2 hHeld.2.2.2.2)).trans hHeld.2.1.1, (b1.cell (Nat.lt_of_lt_of_le hbb2 hHeld.2.2.2.2)).trans hHeld.2.1.2.1, (b1.cell (Nat.lt_of_lt_of_le hbb2 hHeld.2.2.2.2)).trans hHeld.2.1.2.2.1, (b1.cell (Nat.lt_of_lt_of_le hbb2 hHeld.2.2.2.2)).trans hHeld.2.1.2.2.2.1, (b1.cell (Nat.lt_of_lt_of_le hbb2 hHeld.2.2.2.2)).trans hHeld.2.1.2.2.2.2.1, (b1.cell (Nat.lt_of_lt_of_le hbb2 hHeld.2.2.2.2)).trans hHeld.2.1.2.2.2.2.2⟩, ⟨hHeld.2.2.1.1.below b1 hHeld.2.2.2.2, hHeld.2.2.1.2.1.below b1 hHeld.2.2.2.2, hHeld.2.2.1.2.2.below b1 hHeld.2.2.2.2⟩, ⟨hHeld.2.2.2.1.1.below b1 hHeld.2.2.2.2, hHeld.2.2.2.1.2.1.below b1 hHeld.2.2.2.2, hHeld.2.2.2.1.2.2.below b1 hHeld.2.2.2.2⟩, Nat.le_trans hHeld.2.2.2.2 b1.size⟩) (fun hHeld => ?_)
        clear hK K
        try simp only [Act.put, List.setIfInBounds_toArray, List.set_cons_zero, List.set_cons_succ]
        refine wpAnyH_take (i := 9) (oi := ⟨some 26, _, _, _, _, _⟩) (v := ?_) rfl (by kernel_rfl) (by kernel_rfl) (by kernel_rfl) (fun _ _ _ h => h) (Or.inl ⟨by rfl, ?_⟩) (by assumption) ?_
        case refine_2 => (intro w hSw; skip; go_simp; first | done | with_reducible rfl)
        simp only [Act.put, List.setIfInBounds_toArray, List.set_cons_zero, List.set_cons_succ]
        refine wpAnyH_done (by kernel_rfl) ?_ _
        go_wp2_with fail
        go_roundw
        case rel => exact ⟨k + 1, by omega, by go_num, HE.out, bl_trans hL.drew b1⟩
        case measure => simp [intOf]; omega
    · obtain rfl : k = x.len := by omega
      rw [sameS_end H4.out] at hE
      subst hE
      clear HR
      go_wp2_with fail
      go_ret
      exact ⟨rfl, hL⟩

end Go.Proofs.Ytalnkdbmbjplpaa
