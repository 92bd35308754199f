/- Walks over the laws' eqStmtS and eqStmt: a row is equal to one that is the same. -/
import Derived.Test.YtblmoakipebicaaTreeS
import Derived.Test.YtblmoakipebicaaExprEq
import Derived.Deep.RegionHeld3
namespace Go.Proofs.Ytblmoakipebicaa
open Go.RowKit

set_option maxHeartbeats 4000000 in
theorem eqStmt_of (zk : Int) (zs zt : ByteArray) (x : Fr (Int × Int × ByteArray)) (p q : St) (X P Q X' P' Q' : Option Addr) (cx cp cq cx' cp' cq' : Nat) (w : World) (hX : Sl exprC w 0 w.heap.size X x) (hP : SlS w 0 w.heap.size P p) (hQ : SlS w 0 w.heap.size Q q) (hX' : Sl exprC w 0 w.heap.size X' x) (hP' : SlS w 0 w.heap.size P' p) (hQ' : SlS w 0 w.heap.size Q' q)
    (I1 : ∀ w', Sl exprC w' 0 w'.heap.size X x → Sl exprC w' 0 w'.heap.size X' x → Calls Try.prog 65 #[.slice X x.len cx, .slice X' x.len cx'] w' fun e w'' => e = .returned (.bool true) ∧ Below w'.heap.size w' w'')
    (I2 : ∀ w', SlS w' 0 w'.heap.size P p → SlS w' 0 w'.heap.size P' p → Calls Try.prog 70 #[.slice P p.len cp, .slice P' p.len cp'] w' fun e w'' => e = .returned (.bool true) ∧ Below w'.heap.size w' w'') (I3 : ∀ w', SlS w' 0 w'.heap.size Q q → SlS w' 0 w'.heap.size Q' q → Calls Try.prog 70 #[.slice Q q.len cq, .slice Q' q.len cq'] w' fun e w'' => e = .returned (.bool true) ∧ Below w'.heap.size w' w'') :
    Calls Try.prog 24 #[.agg #[.int .i64 zk, .string zs, .string zt, .slice X x.len cx, .slice P p.len cp, .slice Q q.len cq], .agg #[.int .i64 zk, .string zs, .string zt, .slice X' x.len cx', .slice P' p.len cp', .slice Q' q.len cq']] w fun e w' => e = .returned (.bool true) ∧ Below w.heap.size w w' := by
  have B := (Blk.new w 39 #[.int .i64 zk, .string zs, .string zt, .slice X x.len cx, .slice P p.len cp, .slice Q q.len cq]).alloc (.cells #[.int .i64 zk, .string zs, .string zt, .slice X' x.len cx', .slice P' p.len cp', .slice Q' q.len cq'] 39)
  have D := Blk.new2 w (.cells #[.int .i64 zk, .string zs, .string zt, .slice X x.len cx, .slice P p.len cp, .slice Q q.len cq] 39) 39 #[.int .i64 zk, .string zs, .string zt, .slice X' x.len cx', .slice P' p.len cp', .slice Q' q.len cq']
  have L0 := bl_alloc (bl_alloc (Below.refl w.heap.size w) (.cells #[.int .i64 zk, .string zs, .string zt, .slice X x.len cx, .slice P p.len cp, .slice Q q.len cq] 39)) (.cells #[.int .i64 zk, .string zs, .string zt, .slice X' x.len cx', .slice P' p.len cp', .slice Q' q.len cq'] 39)
  have J1 := Lib.hid (I1 _ ((hX.below L0 (Nat.le_refl _)).more (Nat.le_refl _) L0.size) ((hX'.below L0 (Nat.le_refl _)).more (Nat.le_refl _) L0.size))
  go_enter Try.func24, Try.ntmps24
  go_wp2_with fail
  refine J1.out.mono ?_; rintro e w1 ⟨rfl, b1⟩
  have L1 := bl_trans L0 b1
  replace B : Blk w1 w.heap.size _ _ := Blk.keep B b1
  replace D : Blk w1 (w.heap.size + 1) _ _ := Blk.keep D b1
  have p1 := B.cell
  have q1 := D.cell
  go_wp2_with fail
  refine (I2 _ ((hP.below L1 (Nat.le_refl _)).more (Nat.le_refl _) L1.size) ((hP'.below L1 (Nat.le_refl _)).more (Nat.le_refl _) L1.size)).mono ?_; rintro e w2 ⟨rfl, b2⟩
  have L2 := bl_trans L1 b2
  replace B : Blk w2 w.heap.size _ _ := Blk.keep B b2
  replace D : Blk w2 (w.heap.size + 1) _ _ := Blk.keep D b2
  clear p1 q1
  have p2 := B.cell
  have q2 := D.cell
  go_wp2_with fail
  refine (I3 _ ((hQ.below L2 (Nat.le_refl _)).more (Nat.le_refl _) L2.size) ((hQ'.below L2 (Nat.le_refl _)).more (Nat.le_refl _) L2.size)).mono ?_; rintro e w3 ⟨rfl, b3⟩
  go_wp2_with fail
  go_ret
  exact ⟨rfl, bl_trans L2 b3⟩

set_option maxHeartbeats 4000000 in
theorem eqStmtS_step (fr : St) (A A' : Option Addr) (c c' : Nat) (w : World) (hn : fr.size ≤ 1048576) (hS : SlS w 0 w.heap.size A fr) (hS' : SlS w 0 w.heap.size A' fr)
    (ih : ∀ (fr' : St), fr'.size < fr.size → ∀ (A A' : Option Addr) (c c' : Nat) (w : World), SlS w 0 w.heap.size A fr' → SlS w 0 w.heap.size A' fr' → Calls Try.prog 70 #[.slice A fr'.len c, .slice A' fr'.len c'] w fun e w' => e = .returned (.bool true) ∧ Below w.heap.size w w') :
    Calls Try.prog 70 #[.slice A fr.len c, .slice A' fr.len c'] w fun e w' => e = .returned (.bool true) ∧ Below w.heap.size w w' := by
  have hlz := fr.len_size
  have hl' : (fr.len : Int) ≤ 1048576 := by omega
  have IH := Lib.hid ih
  clear ih
  go_enter Try.func70, Try.ntmps70
  go_wp2_with fail
  go_loopw [5] (fun i wr => ∃ k : Nat, k ≤ fr.len ∧ i = .int .i64 k ∧ Below w.heap.size w wr) (fun i _ => fr.len - (intOf i).toNat)
  case atStart => exact ⟨0, Nat.zero_le _, rfl, Below.refl _ _⟩
  case round =>
    obtain ⟨k, hk, rfl, hL⟩ := hrel
    by_cases hlt : k < fr.len
    · obtain ⟨b, o, a, y, p, q, X, cx, P, cp, Q, cq, rfl, _, hb, hd, hks, ⟨hX, hP, hQ⟩, q0, q1, q2, q3, q4, q5⟩ := (hS.below hL (Nat.le_refl _)).at_ hlt
      obtain ⟨b2, o2, a2, y2, p2, q2', X', cx', P', cp', Q', cq', rfl, _, hb2, hd2, _, ⟨hX', hP', hQ'⟩, r0, r1, r2, r3, r4, r5⟩ := (hS'.below hL (Nat.le_refl _)).at_ hlt
      rw [hd] at hd2
      injection hd2 with e1 e2 e3 e4 e5
      subst e1 e2 e3 e4
      obtain ⟨zk, zs, zt⟩ := a
      simp only at q0 q1 q2 r0 r1 r2
      have hlt' : (k : Int) < (fr.len : Int) := by omega
      have hbb : b < wr.heap.size := Nat.lt_of_lt_of_le hb hL.size
      have hbb2 : b2 < wr.heap.size := Nat.lt_of_lt_of_le hb2 hL.size
      clear hd e5
      go_wp2_with fail
      refine wp_region_held_drew (S := (fun x => (x.cell? ⟨b, o + k * 6, none⟩ = some (.int .i64 zk) ∧ x.cell? ⟨b, o + k * 6 + 1, none⟩ = some (.string zs) ∧ x.cell? ⟨b, o + k * 6 + 2, none⟩ = some (.string zt) ∧ x.cell? ⟨b, o + k * 6 + 3, none⟩ = some (.slice X y.len cx) ∧ x.cell? ⟨b, o + k * 6 + 4, none⟩ = some (.slice P p.len cp) ∧ x.cell? ⟨b, o + k * 6 + 5, none⟩ = some (.slice Q q.len cq)) ∧ (x.cell? ⟨b2, o2 + k * 6, none⟩ = some (.int .i64 zk) ∧ x.cell? ⟨b2, o2 + k * 6 + 1, none⟩ = some (.string zs) ∧ x.cell? ⟨b2, o2 + k * 6 + 2, none⟩ = some (.string zt) ∧ x.cell? ⟨b2, o2 + k * 6 + 3, none⟩ = some (.slice X' y.len cx') ∧ x.cell? ⟨b2, o2 + k * 6 + 4, none⟩ = some (.slice P' p.len cp') ∧ x.cell? ⟨b2, o2 + k * 6 + 5, none⟩ = some (.slice Q' q.len cq')) ∧ (Sl exprC x 0 wr.heap.size X y ∧ SlS x 0 wr.heap.size P p ∧ SlS x 0 wr.heap.size Q q) ∧ (Sl exprC x 0 wr.heap.size X' y ∧ SlS x 0 wr.heap.size P' p ∧ SlS x 0 wr.heap.size Q' q) ∧ wr.heap.size ≤ x.heap.size)) (by kernel_rfl) ?_ (fun hHeld => ?_)
      · exact ⟨⟨q0, q1, q2, q3, q4, q5⟩, ⟨r0, r1, r2, r3, r4, r5⟩, ⟨hX.keep (fun _ _ _ => rfl) (Nat.le_refl _) hL.size, hP.keep (fun _ _ _ => rfl) (Nat.le_refl _) hL.size, hQ.keep (fun _ _ _ => rfl) (Nat.le_refl _) hL.size⟩, ⟨hX'.keep (fun _ _ _ => rfl) (Nat.le_refl _) hL.size, hP'.keep (fun _ _ _ => rfl) (Nat.le_refl _) hL.size, hQ'.keep (fun _ _ _ => rfl) (Nat.le_refl _) hL.size⟩, Nat.le_refl _⟩
      refine wpAnyH_take (i := 0) (oi := ⟨some 17, _, _, _, _, _⟩) (v := ?_) rfl (by kernel_rfl) (by kernel_rfl) (by kernel_rfl) (fun _ _ _ h => h) (Or.inl ⟨by rfl, ?_⟩) (by assumption) ?_
      case refine_2 => (intro w hSw; obtain ⟨⟨p0, p1, p2, p3, p4, p5⟩, ⟨u0, u1, u2, u3, u4, u5⟩, _, _, _⟩ := hSw; go_simp; first | done | with_reducible rfl)
      simp only [Act.put, List.setIfInBounds_toArray, List.set_cons_zero, List.set_cons_succ]
      refine wpAnyH_take (i := 1) (oi := ⟨some 18, _, _, _, _, _⟩) (v := ?_) rfl (by kernel_rfl) (by kernel_rfl) (by kernel_rfl) (fun _ _ _ h => h) (Or.inl ⟨by rfl, ?_⟩) (by assumption) ?_
      case refine_2 => (intro w hSw; obtain ⟨⟨p0, p1, p2, p3, p4, p5⟩, ⟨u0, u1, u2, u3, u4, u5⟩, _, _, _⟩ := hSw; go_simp; first | done | with_reducible rfl)
      simp only [Act.put, List.setIfInBounds_toArray, List.set_cons_zero, List.set_cons_succ]
      refine wpAnyH_take (i := 2) (oi := ⟨some 19, _, _, _, _, _⟩) (v := ?_) rfl (by kernel_rfl) (by kernel_rfl) (by kernel_rfl) (fun _ _ _ h => h) (Or.inl ⟨by rfl, ?_⟩) (by assumption) ?_
      case refine_2 => (intro w hSw; obtain ⟨⟨p0, p1, p2, p3, p4, p5⟩, ⟨u0, u1, u2, u3, u4, u5⟩, _, _, _⟩ := hSw; go_simp; first | done | with_reducible rfl)
      simp only [Act.put, List.setIfInBounds_toArray, List.set_cons_zero, List.set_cons_succ]
      refine wpAnyH_take (i := 3) (oi := ⟨some 20, _, _, _, _, _⟩) (v := ?_) rfl (by kernel_rfl) (by kernel_rfl) (by kernel_rfl) (fun _ _ _ h => h) (Or.inl ⟨by rfl, ?_⟩) (by assumption) ?_
      case refine_2 => (intro w hSw; obtain ⟨⟨p0, p1, p2, p3, p4, p5⟩, ⟨u0, u1, u2, u3, u4, u5⟩, _, _, _⟩ := hSw; go_simp; first | done | with_reducible rfl)
      simp only [Act.put, List.setIfInBounds_toArray, List.set_cons_zero, List.set_cons_succ]
      refine wpAnyH_take (i := 4) (oi := ⟨some 21, _, _, _, _, _⟩) (v := ?_) rfl (by kernel_rfl) (by kernel_rfl) (by kernel_rfl) (fun _ _ _ h => h) (Or.inl ⟨by rfl, ?_⟩) (by assumption) ?_
      case refine_2 => (intro w hSw; obtain ⟨⟨p0, p1, p2, p3, p4, p5⟩, ⟨u0, u1, u2, u3, u4, u5⟩, _, _, _⟩ := hSw; go_simp; first | done | with_reducible rfl)
      simp only [Act.put, List.setIfInBounds_toArray, List.set_cons_zero, List.set_cons_succ]
      refine wpAnyH_take (i := 5) (oi := ⟨some 22, _, _, _, _, _⟩) (v := ?_) rfl (by kernel_rfl) (by kernel_rfl) (by kernel_rfl) (fun _ _ _ h => h) (Or.inl ⟨by rfl, ?_⟩) (by assumption) ?_
      case refine_2 => (intro w hSw; obtain ⟨⟨p0, p1, p2, p3, p4, p5⟩, ⟨u0, u1, u2, u3, u4, u5⟩, _, _, _⟩ := hSw; go_simp; first | done | with_reducible rfl)
      simp only [Act.put, List.setIfInBounds_toArray, List.set_cons_zero, List.set_cons_succ]
      refine wpAnyH_take (i := 6) (oi := ⟨some 23, _, _, _, _, _⟩) (v := ?_) rfl (by kernel_rfl) (by kernel_rfl) (by kernel_rfl) (fun _ _ _ h => h) (Or.inl ⟨by rfl, ?_⟩) (by assumption) ?_
      case refine_2 => (intro w hSw; obtain ⟨⟨p0, p1, p2, p3, p4, p5⟩, ⟨u0, u1, u2, u3, u4, u5⟩, _, _, _⟩ := hSw; go_simp; first | done | with_reducible rfl)
      simp only [Act.put, List.setIfInBounds_toArray, List.set_cons_zero, List.set_cons_succ]
      refine wpAnyH_take (i := 7) (oi := ⟨some 24, _, _, _, _, _⟩) (v := ?_) rfl (by kernel_rfl) (by kernel_rfl) (by kernel_rfl) (fun _ _ _ h => h) (Or.inl ⟨by rfl, ?_⟩) (by assumption) ?_
      case refine_2 => (intro w hSw; obtain ⟨⟨p0, p1, p2, p3, p4, p5⟩, ⟨u0, u1, u2, u3, u4, u5⟩, _, _, _⟩ := hSw; go_simp; first | done | with_reducible rfl)
      simp only [Act.put, List.setIfInBounds_toArray, List.set_cons_zero, List.set_cons_succ]
      refine wpAnyH_ready (rs := [8]) (by kernel_rfl) (by simp) ?_
      refine AllReadyH.cons (o := ⟨some 25, _, _, _, _, _⟩) rfl (fun K hK => ?_) AllReadyH.nil
      go_simp
      refine (eqStmt_of zk zs zt y p q X P Q X' P' Q' cx cp cq cx' cp' cq' _ (hHeld.2.2.1.1.more (Nat.le_refl _) hHeld.2.2.2.2) (hHeld.2.2.1.2.1.more (Nat.le_refl _) hHeld.2.2.2.2) (hHeld.2.2.1.2.2.more (Nat.le_refl _) hHeld.2.2.2.2) (hHeld.2.2.2.1.1.more (Nat.le_refl _) hHeld.2.2.2.2) (hHeld.2.2.2.1.2.1.more (Nat.le_refl _) hHeld.2.2.2.2) (hHeld.2.2.2.1.2.2.more (Nat.le_refl _) hHeld.2.2.2.2) (fun w' h h' => eqExprS_any y.size (by omega) y (Nat.le_refl _) X X' cx cx' w' h h') (fun w' h h' => IH.out p (by omega) P P' cp cp' w' h h') (fun w' h h' => IH.out q (by omega) Q Q' cq cq' w' h h')).mono ?_; rintro e w1 ⟨rfl, b1⟩
      go_wp2_with fail
      refine hK.out _ _ (⟨⟨(b1.cell (Nat.lt_of_lt_of_le hbb hHeld.2.2.2.2)).trans hHeld.1.1, (b1.cell (Nat.lt_of_lt_of_le hbb hHeld.2.2.2.2)).trans hHeld.1.2.1, (b1.cell (Nat.lt_of_lt_of_le hbb hHeld.2.2.2.2)).trans hHeld.1.2.2.1, (b1.cell (Nat.lt_of_lt_of_le hbb hHeld.2.2.2.2)).trans hHeld.1.2.2.2.1, (b1.cell (Nat.lt_of_lt_of_le hbb hHeld.2.2.2.2)).trans hHeld.1.2.2.2.2.1, (b1.cell (Nat.lt_of_lt_of_le hbb hHeld.2.2.2.2)).trans hHeld.1.2.2.2.2.2⟩, ⟨(b1.cell (Nat.lt_of_lt_of_le hbb2 hHeld.2.2.2.2)).trans hHeld.2.1.1, (b1.cell (Nat.lt_of_lt_of_le hbb2 hHeld.2.2.2.2)).trans hHeld.2.1.2.1, (b1.cell (Nat.lt_of_lt_of_le hbb2 hHeld.2.2.2.2)).trans hHeld.2.1.2.2.1, (b1.cell (Nat.lt_of_lt_of_le hbb2 hHeld.2.2.2.2)).trans hHeld.2.1.2.2.2.1, (b1.cell (Nat.lt_of_lt_of_le hbb2 hHeld.2.2.2.2)).trans hHeld.2.1.2.2.2.2.1, (b1.cell (Nat.lt_of_lt_of_le hbb2 hHeld.2.2.2.2)).trans hHeld.2.1.2.2.2.2.2⟩, ⟨hHeld.2.2.1.1.below b1 hHeld.2.2.2.2, hHeld.2.2.1.2.1.below b1 hHeld.2.2.2.2, hHeld.2.2.1.2.2.below b1 hHeld.2.2.2.2⟩, ⟨hHeld.2.2.2.1.1.below b1 hHeld.2.2.2.2, hHeld.2.2.2.1.2.1.below b1 hHeld.2.2.2.2, hHeld.2.2.2.1.2.2.below b1 hHeld.2.2.2.2⟩, Nat.le_trans hHeld.2.2.2.2 b1.size⟩) (fun hHeld => ?_)
      clear hK K
      try simp only [Act.put, List.setIfInBounds_toArray, List.set_cons_zero, List.set_cons_succ]
      refine wpAnyH_take (i := 9) (oi := ⟨some 26, _, _, _, _, _⟩) (v := ?_) rfl (by kernel_rfl) (by kernel_rfl) (by kernel_rfl) (fun _ _ _ h => h) (Or.inl ⟨by rfl, ?_⟩) (by assumption) ?_
      case refine_2 => (intro w hSw; skip; go_simp; first | done | with_reducible rfl)
      simp only [Act.put, List.setIfInBounds_toArray, List.set_cons_zero, List.set_cons_succ]
      refine wpAnyH_done (by kernel_rfl) ?_ _
      go_wp2_with fail
      go_roundw
      case rel => exact ⟨k + 1, by omega, by go_num, bl_trans hL.drew b1⟩
      case measure => simp [intOf]; omega
    · obtain rfl : k = fr.len := by omega
      go_wp2_with fail
      go_ret
      exact ⟨rfl, hL⟩
theorem eqStmtS_any (N : Nat) (hN : N ≤ 1048576) : ∀ (fr : St), fr.size ≤ N → ∀ (A A' : Option Addr) (c c' : Nat) (w : World), SlS w 0 w.heap.size A fr → SlS w 0 w.heap.size A' fr →
    Calls Try.prog 70 #[.slice A fr.len c, .slice A' fr.len c'] w fun e w' => e = .returned (.bool true) ∧ Below w.heap.size w w' := by
  induction N with
  | zero =>
    intro fr hs A A' c c' w h h'
    obtain rfl := St.size_pos (Nat.le_zero.1 hs)
    exact eqStmtS_step .nil A A' c c' w (by simp [St.size]) h h' (fun fr' h => by simp [St.size] at h)
  | succ N ih =>
    intro fr hs A A' c c' w h h'
    exact eqStmtS_step fr A A' c c' w (by omega) h h' (fun fr' h A A' c c' w k k' => ih (by omega) fr' (by omega) A A' c c' w k k')

end Go.Proofs.Ytblmoakipebicaa
