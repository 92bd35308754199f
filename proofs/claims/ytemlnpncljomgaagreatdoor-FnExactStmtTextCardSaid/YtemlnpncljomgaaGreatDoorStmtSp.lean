import Derived.Test.YtemlnpncljomgaaGreatDoorStmtSh
namespace Go.Proofs.YtemlnpncljomgaaGreatDoor
open Go.RowKit

theorem app_nil {α : Type} : ∀ (a : Fr α), a.app .nil = a
  | .nil => rfl
  | .cons a k r => by rw [Fr.app, app_nil r]

set_option maxHeartbeats 4000000 in
theorem sCountS_step (K : Nat) (zk : Int) (zs zt : ByteArray) (x : Fr (Int × Int × ByteArray)) (p q : St) (X : Option Addr) (cx : Nat) (P : Option Addr) (cp : Nat) (Q : Option Addr) (cq : Nat) (d : Int) (w : World) (hK : x.size + p.size + q.size ≤ K) (hl : x.size + p.size + q.size ≤ 1048576) (hd1 : 1 ≤ d) (hd7 : d ≤ 6) (hX : Tri w 0 w.heap.size X x P p Q q)
    (ih : ∀ (zk : Int) (zs zt : ByteArray) (x : Fr (Int × Int × ByteArray)) (p q : St) (X : Option Addr) (cx : Nat) (P : Option Addr) (cp : Nat) (Q : Option Addr) (cq : Nat), x.size + p.size + q.size < K → ∀ (d : Int) (w : World), 1 ≤ d → d ≤ 6 → Tri w 0 w.heap.size X x P p Q q → Calls Tryz.prog 39 #[.agg #[.int .i64 zk, .string zs, .string zt, .slice X x.len cx, .slice P p.len cp, .slice Q q.len cq], .int .i64 d] w fun e w' => RetInt (fun y => PartsN cntS.none (61 + 60 * (6 - d)) d ((zk, zs, zt), x, p.len, q.len) (p.fr.app q.fr) y) e ∧ Below w.heap.size w w') :
    Calls Tryz.prog 39 #[.agg #[.int .i64 zk, .string zs, .string zt, .slice X x.len cx, .slice P p.len cp, .slice Q q.len cq], .int .i64 d] w fun e w' => RetInt (fun y => PartsN cntS.none (61 + 60 * (6 - d)) d ((zk, zs, zt), x, p.len, q.len) (p.fr.app q.fr) y) e ∧ Below w.heap.size w w' := by
  have HM := Lib.hid (show cntS.none.M = 60 from rfl)
  have HD := Lib.hid (show cntS.none.D = 5 from rfl)
  by_cases hd : 5 < d
  · go_enter Tryz.func39, Tryz.ntmps39
    go_wp2_with fail
    go_ret
    exact ⟨⟨61, rfl, PartsN.deep (N := cntS.none) (by rw [HM.out]; omega) (by rw [HM.out]; omega) (by rw [HD.out]; exact hd)⟩, by repeat (first | exact Below.refl _ _ | refine bl_drewN ?_ _ | refine Below.drew ?_ | refine bl_alloc ?_ _ | refine bl_set ?_ (by simp) _ | refine bl_trans ?_ (by assumption))⟩
  have B := Blk.new w 40 #[.int .i64 zk, .string zs, .string zt, .slice X x.len cx, .slice P p.len cp, .slice Q q.len cq]
  have L0 := bl_alloc (Below.refl w.heap.size w) (.cells #[.int .i64 zk, .string zs, .string zt, .slice X x.len cx, .slice P p.len cp, .slice Q q.len cq] 40)
  have hlp := p.len_size
  have hlq := q.len_size
  have IHH := Lib.hid ih
  clear ih
  obtain ⟨C, hC⟩ : ∃ C : Prop, (¬ (okN cntS.none (d + 1) (p.fr.app q.fr) = true ∧ (((p.fr.app q.fr).size : Int) + 1 ≤ cntS.none.M))) = C := ⟨_, rfl⟩
  have HC := Lib.hid hC
  clear hC
  go_enter Tryz.func39, Tryz.ntmps39
  go_wp2_with fail
  go_loopw [5, 6] (fun nv i wr => ∃ (k : Nat) (n : Int), k ≤ p.len ∧ i = .int .i64 k ∧ nv = .int .i64 n ∧ ((InvN cntS.none (d + 1) (p.fr.app q.fr) n ((p.drop k).fr.app q.fr)) ∨ (61 ≤ n ∧ n ≤ 61 + 60 * (6 - d) ∧ C)) ∧ Blk wr w.heap.size 40 #[.int .i64 zk, .string zs, .string zt, .slice X x.len cx, .slice P p.len cp, .slice Q q.len cq] ∧ Below w.heap.size w wr) (fun _ i _ => p.len - (intOf i).toNat)
  case atStart => exact ⟨0, 1, Nat.zero_le _, rfl, rfl, .inl (by rw [St.drop_zero]; exact InvN.start (by rw [HM.out]; omega)), B, L0⟩
  case round =>
    try clear B L0
    obtain ⟨k, n, hk, rfl, rfl, hI, hB, hL⟩ := hrel
    have cb := hB.cell
    by_cases hlt : k < p.len
    · have hlt' : (k : Int) < (p.len : Int) := by omega
      rcases hI with hI | ⟨h61, h121, hn⟩
      · skip
        obtain ⟨b, o, a, x1, p1, q1, X1, cx1, P1, cp1, Q1, cq1, hAe, _, hb, hdr, hks, hT1, e0, e1, e2, e3, e4, e5⟩ := SlS.at_ ((hX.below hL (Nat.le_refl _)).2.1) hlt
        subst hAe
        obtain ⟨yk, ys, yt⟩ := a
        simp only at e0 e1 e2
        obtain ⟨hfr, hfs⟩ := St.fr_at hdr q.fr
        rw [hfr] at hI
        have hn60 : n ≤ 60 := by have := hI.2.1; rw [HM.out] at this; exact this
        have hn1 : 1 ≤ n := hI.1
        have CC := Lib.hid (IHH.out yk ys yt x1 p1 q1 X1 cx1 P1 cp1 Q1 cq1 (by omega) (d + 1) wr (by omega) (by omega) (Tri.more (show Tri wr 0 w.heap.size X1 x1 P1 p1 Q1 q1 from hT1) (Nat.le_refl _) hL.size))
        have HI := Lib.hid hI
        clear hI hdr hfr hfs
        go_wp2_with fail
        refine CC.out.mono ?_; rintro e w1 ⟨⟨y, rfl, hP⟩, b1⟩
        have hx1 : 1 ≤ y := hP.1
        have hx2 : y ≤ 61 + 60 * (6 - (d + 1)) := hP.2.1
        have HP := Lib.hid hP
        clear hP
        have hB1 := hB.keep b1
        go_wp2_with fail
        go_roundw
        case rel =>
          refine ⟨k + 1, n + y, by omega, by go_num, rfl, ?_, hB1, bl_trans hL b1⟩
          by_cases h60 : n + y ≤ 60
          · exact .inl (HI.out.next HP.out (by rw [HM.out]; exact h60))
          · exact .inr ⟨by omega, by omega, by rw [← HC.out]; exact HI.out.stop HP.out (by rw [HM.out]; omega)⟩
        case measure => simp [intOf]; omega
      · have hn60 : ¬ n ≤ 60 := by omega
        have HI := Lib.hid (show (InvN cntS.none (d + 1) (p.fr.app q.fr) n q.fr) ∨ (61 ≤ n ∧ n ≤ 61 + 60 * (6 - d) ∧ C) from .inr ⟨h61, h121, hn⟩)
        clear hn
        go_wp2_with fail
        have HI0 := HI
        go_loopw [5, 7] (fun nv i wr => ∃ (k : Nat) (n : Int), k ≤ q.len ∧ i = .int .i64 k ∧ nv = .int .i64 n ∧ ((InvN cntS.none (d + 1) (p.fr.app q.fr) n ((q.drop k).fr.app .nil)) ∨ (61 ≤ n ∧ n ≤ 61 + 60 * (6 - d) ∧ C)) ∧ Blk wr w.heap.size 40 #[.int .i64 zk, .string zs, .string zt, .slice X x.len cx, .slice P p.len cp, .slice Q q.len cq] ∧ Below w.heap.size w wr) (fun _ i _ => q.len - (intOf i).toNat)
        case atStart => exact ⟨0, n, Nat.zero_le _, rfl, rfl, by rw [St.drop_zero, app_nil]; exact HI.out, hB, hL⟩
        case round =>
          clear HI hB hL cb
          obtain ⟨k, n, hk, rfl, rfl, hI, hB, hL⟩ := hrel
          have cb := hB.cell
          by_cases hlt : k < q.len
          · have hlt' : (k : Int) < (q.len : Int) := by omega
            rcases hI with hI | ⟨h61, h121, hn⟩
            · skip
              obtain ⟨b, o, a, x1, p1, q1, X1, cx1, P1, cp1, Q1, cq1, hAe, _, hb, hdr, hks, hT1, e0, e1, e2, e3, e4, e5⟩ := SlS.at_ ((hX.below hL (Nat.le_refl _)).2.2) hlt
              subst hAe
              obtain ⟨yk, ys, yt⟩ := a
              simp only at e0 e1 e2
              obtain ⟨hfr, hfs⟩ := St.fr_at hdr .nil
              rw [hfr] at hI
              have hn60 : n ≤ 60 := by have := hI.2.1; rw [HM.out] at this; exact this
              have hn1 : 1 ≤ n := hI.1
              have CC := Lib.hid (IHH.out yk ys yt x1 p1 q1 X1 cx1 P1 cp1 Q1 cq1 (by omega) (d + 1) wr (by omega) (by omega) (Tri.more (show Tri wr 0 w.heap.size X1 x1 P1 p1 Q1 q1 from hT1) (Nat.le_refl _) hL.size))
              have HI := Lib.hid hI
              clear hI hdr hfr hfs
              go_wp2_with fail
              refine CC.out.mono ?_; rintro e w1 ⟨⟨y, rfl, hP⟩, b1⟩
              have hx1 : 1 ≤ y := hP.1
              have hx2 : y ≤ 61 + 60 * (6 - (d + 1)) := hP.2.1
              have HP := Lib.hid hP
              clear hP
              have hB1 := hB.keep b1
              go_wp2_with fail
              go_roundw
              case rel =>
                refine ⟨k + 1, n + y, by omega, by go_num, rfl, ?_, hB1, bl_trans hL b1⟩
                by_cases h60 : n + y ≤ 60
                · exact .inl (HI.out.next HP.out (by rw [HM.out]; exact h60))
                · exact .inr ⟨by omega, by omega, by rw [← HC.out]; exact HI.out.stop HP.out (by rw [HM.out]; omega)⟩
              case measure => simp [intOf]; omega
            · have hn60 : ¬ n ≤ 60 := by omega
              have HI := Lib.hid (show (InvN cntS.none (d + 1) (p.fr.app q.fr) n .nil) ∨ (61 ≤ n ∧ n ≤ 61 + 60 * (6 - d) ∧ C) from .inr ⟨h61, h121, hn⟩)
              clear hn
              go_wp2_with fail
              go_ret
              refine ⟨⟨n, rfl, ?_⟩, hL⟩
              rcases HI.out with hI | ⟨h61, h121, hn⟩
              · exact PartsN.well (by rw [HD.out]; omega) (by rw [HM.out]; omega) rfl hI
              · exact PartsN.much (by rw [HM.out]; omega) (by rw [HM.out]; exact h61) h121 (by rw [HC.out]; exact hn)
          · obtain rfl : k = q.len := by omega
            rw [St.drop_all] at hI
            have HI := Lib.hid (show (InvN cntS.none (d + 1) (p.fr.app q.fr) n .nil) ∨ (61 ≤ n ∧ n ≤ 61 + 60 * (6 - d) ∧ C) from hI)
            clear hI
            go_wp2_with fail
            go_ret
            refine ⟨⟨n, rfl, ?_⟩, hL⟩
            rcases HI.out with hI | ⟨h61, h121, hn⟩
            · exact PartsN.well (by rw [HD.out]; omega) (by rw [HM.out]; omega) rfl hI
            · exact PartsN.much (by rw [HM.out]; omega) (by rw [HM.out]; exact h61) h121 (by rw [HC.out]; exact hn)
    · obtain rfl : k = p.len := by omega
      rw [St.drop_all] at hI
      have HI := Lib.hid (show (InvN cntS.none (d + 1) (p.fr.app q.fr) n q.fr) ∨ (61 ≤ n ∧ n ≤ 61 + 60 * (6 - d) ∧ C) from hI)
      clear hI
      go_wp2_with fail
      have HI0 := HI
      go_loopw [5, 7] (fun nv i wr => ∃ (k : Nat) (n : Int), k ≤ q.len ∧ i = .int .i64 k ∧ nv = .int .i64 n ∧ ((InvN cntS.none (d + 1) (p.fr.app q.fr) n ((q.drop k).fr.app .nil)) ∨ (61 ≤ n ∧ n ≤ 61 + 60 * (6 - d) ∧ C)) ∧ Blk wr w.heap.size 40 #[.int .i64 zk, .string zs, .string zt, .slice X x.len cx, .slice P p.len cp, .slice Q q.len cq] ∧ Below w.heap.size w wr) (fun _ i _ => q.len - (intOf i).toNat)
      case atStart => exact ⟨0, n, Nat.zero_le _, rfl, rfl, by rw [St.drop_zero, app_nil]; exact HI.out, hB, hL⟩
      case round =>
        clear HI hB hL cb
        obtain ⟨k, n, hk, rfl, rfl, hI, hB, hL⟩ := hrel
        have cb := hB.cell
        by_cases hlt : k < q.len
        · have hlt' : (k : Int) < (q.len : Int) := by omega
          rcases hI with hI | ⟨h61, h121, hn⟩
          · skip
            obtain ⟨b, o, a, x1, p1, q1, X1, cx1, P1, cp1, Q1, cq1, hAe, _, hb, hdr, hks, hT1, e0, e1, e2, e3, e4, e5⟩ := SlS.at_ ((hX.below hL (Nat.le_refl _)).2.2) hlt
            subst hAe
            obtain ⟨yk, ys, yt⟩ := a
            simp only at e0 e1 e2
            obtain ⟨hfr, hfs⟩ := St.fr_at hdr .nil
            rw [hfr] at hI
            have hn60 : n ≤ 60 := by have := hI.2.1; rw [HM.out] at this; exact this
            have hn1 : 1 ≤ n := hI.1
            have CC := Lib.hid (IHH.out yk ys yt x1 p1 q1 X1 cx1 P1 cp1 Q1 cq1 (by omega) (d + 1) wr (by omega) (by omega) (Tri.more (show Tri wr 0 w.heap.size X1 x1 P1 p1 Q1 q1 from hT1) (Nat.le_refl _) hL.size))
            have HI := Lib.hid hI
            clear hI hdr hfr hfs
            go_wp2_with fail
            refine CC.out.mono ?_; rintro e w1 ⟨⟨y, rfl, hP⟩, b1⟩
            have hx1 : 1 ≤ y := hP.1
            have hx2 : y ≤ 61 + 60 * (6 - (d + 1)) := hP.2.1
            have HP := Lib.hid hP
            clear hP
            have hB1 := hB.keep b1
            go_wp2_with fail
            go_roundw
            case rel =>
              refine ⟨k + 1, n + y, by omega, by go_num, rfl, ?_, hB1, bl_trans hL b1⟩
              by_cases h60 : n + y ≤ 60
              · exact .inl (HI.out.next HP.out (by rw [HM.out]; exact h60))
              · exact .inr ⟨by omega, by omega, by rw [← HC.out]; exact HI.out.stop HP.out (by rw [HM.out]; omega)⟩
            case measure => simp [intOf]; omega
          · have hn60 : ¬ n ≤ 60 := by omega
            have HI := Lib.hid (show (InvN cntS.none (d + 1) (p.fr.app q.fr) n .nil) ∨ (61 ≤ n ∧ n ≤ 61 + 60 * (6 - d) ∧ C) from .inr ⟨h61, h121, hn⟩)
            clear hn
            go_wp2_with fail
            go_ret
            refine ⟨⟨n, rfl, ?_⟩, hL⟩
            rcases HI.out with hI | ⟨h61, h121, hn⟩
            · exact PartsN.well (by rw [HD.out]; omega) (by rw [HM.out]; omega) rfl hI
            · exact PartsN.much (by rw [HM.out]; omega) (by rw [HM.out]; exact h61) h121 (by rw [HC.out]; exact hn)
        · obtain rfl : k = q.len := by omega
          rw [St.drop_all] at hI
          have HI := Lib.hid (show (InvN cntS.none (d + 1) (p.fr.app q.fr) n .nil) ∨ (61 ≤ n ∧ n ≤ 61 + 60 * (6 - d) ∧ C) from hI)
          clear hI
          go_wp2_with fail
          go_ret
          refine ⟨⟨n, rfl, ?_⟩, hL⟩
          rcases HI.out with hI | ⟨h61, h121, hn⟩
          · exact PartsN.well (by rw [HD.out]; omega) (by rw [HM.out]; omega) rfl hI
          · exact PartsN.much (by rw [HM.out]; omega) (by rw [HM.out]; exact h61) h121 (by rw [HC.out]; exact hn)

theorem sCountS_any (K : Nat) : K ≤ 1048576 → ∀ (zk : Int) (zs zt : ByteArray) (x : Fr (Int × Int × ByteArray)) (p q : St) (X : Option Addr) (cx : Nat) (P : Option Addr) (cp : Nat) (Q : Option Addr) (cq : Nat), x.size + p.size + q.size ≤ K → ∀ (d : Int) (w : World), 1 ≤ d → d ≤ 6 → Tri w 0 w.heap.size X x P p Q q → Calls Tryz.prog 39 #[.agg #[.int .i64 zk, .string zs, .string zt, .slice X x.len cx, .slice P p.len cp, .slice Q q.len cq], .int .i64 d] w fun e w' => RetInt (fun y => PartsN cntS.none (61 + 60 * (6 - d)) d ((zk, zs, zt), x, p.len, q.len) (p.fr.app q.fr) y) e ∧ Below w.heap.size w w' := by
  induction K with
  | zero =>
    intro _ zk zs zt x p q X cx P cp Q cq hK d w h1 h7 hX
    exact sCountS_step 0 zk zs zt x p q X cx P cp Q cq d w hK (by omega) h1 h7 hX (fun _ _ _ x p q _ _ _ _ _ _ h => by omega)
  | succ K ih =>
    intro hb zk zs zt x p q X cx P cp Q cq hK d w h1 h7 hX
    exact sCountS_step (K + 1) zk zs zt x p q X cx P cp Q cq d w hK (by omega) h1 h7 hX (fun zk zs zt x p q X cx P cp Q cq h => ih (by omega) zk zs zt x p q X cx P cp Q cq (by omega))

theorem okNA_app {α : Type} (h : α → Fr α → Bool) : ∀ (a b : Fr α), okNA h (a.app b) = (okNA h a && okNA h b)
  | .nil, b => rfl
  | .cons a k r, b => by rw [Fr.app, okNA, okNA, okNA_app h r b, Bool.and_assoc, Bool.and_assoc, Bool.and_assoc]
theorem okS_at {s : St} {i : Nat} {a : Int × ByteArray × ByteArray} {x : Fr (Int × Int × ByteArray)} {p q : St} {z : Bool} (h : s.drop i = .cons a x p q (s.drop (i + 1))) (hz : (hereS (a, x, p.len, q.len) && (okNA cntS.here p.fr && okNA cntS.here q.fr)) = z) : okNA cntS.here (s.drop i).fr = (z && okNA cntS.here (s.drop (i + 1)).fr) := by
  rw [h, St.fr, okNA, okNA_app, ← hz]
  rfl
set_option maxHeartbeats 2000000 in
theorem sBlockOk_step (K : Nat) (s : St) (A : Option Addr) (c : Nat) (w : World) (hK : s.size ≤ K) (hl : s.size ≤ 1048576) (hq : StOk qSmS qSmE s) (hS : SlS w 0 w.heap.size A s)
    (ih : ∀ (zk : Int) (zs zt : ByteArray) (x : Fr (Int × Int × ByteArray)) (p q : St) (X : Option Addr) (cx : Nat) (P : Option Addr) (cp : Nat) (Q : Option Addr) (cq : Nat), x.size + p.size + q.size < K → zs.size ≤ 1048576 ∧ zt.size ≤ 1048576 → StOk qSmS qSmE p ∧ StOk qSmS qSmE q ∧ FrOk qSmE x → ∀ (w : World), Tri w 0 w.heap.size X x P p Q q → Calls Tryz.prog 40 #[.agg #[.int .i64 zk, .string zs, .string zt, .slice X x.len cx, .slice P p.len cp, .slice Q q.len cq]] w fun e w' => e = .returned (.bool (hereS ((zk, zs, zt), x, p.len, q.len) && (okNA cntS.here p.fr && okNA cntS.here q.fr))) ∧ Below w.heap.size w w') :
    Calls Tryz.prog 49 #[.slice A s.len c] w fun e w' => e = .returned (.bool (okNA cntS.here s.fr)) ∧ Below w.heap.size w w' := by
  have hlen := s.len_size
  have IHH := Lib.hid ih
  have HQ := Lib.hid hq
  obtain ⟨R, hR⟩ : ∃ R, okNA cntS.here s.fr = R := ⟨_, rfl⟩
  rw [hR]
  have HR := Lib.hid hR
  clear ih hq hR
  go_enter Tryz.func49, Tryz.ntmps49
  go_wp2_with fail
  go_loopw [3] (fun i wr => ∃ k : Nat, k ≤ s.len ∧ i = .int .i64 k ∧ okNA cntS.here (s.drop k).fr = R ∧ Below w.heap.size w wr) (fun i _ => s.len - (intOf i).toNat)
  case atStart => exact ⟨0, Nat.zero_le _, rfl, by rw [St.drop_zero]; exact HR.out, Below.refl _ _⟩
  case round =>
    obtain ⟨k, hk, rfl, hE, hL⟩ := hrel
    by_cases hlt : k < s.len
    · have hlt' : (k : Int) < (s.len : Int) := by omega
      obtain ⟨b, o, a, x1, p1, q1, X1, cx1, P1, cp1, Q1, cq1, hAe, _, hb, hdr, hks, hT1, e0, e1, e2, e3, e4, e5⟩ := SlS.at_ (hS.below hL (Nat.le_refl _)) hlt
      subst hAe
      obtain ⟨yk, ys, yt⟩ := a
      simp only at e0 e1 e2
      have hqk := StOk.drop k HQ.out
      rw [hdr] at hqk
      obtain ⟨⟨hqa, _⟩, hqx, hqp, hqq, _⟩ := hqk
      have cZ := IHH.out yk ys yt x1 p1 q1 X1 cx1 P1 cp1 Q1 cq1 (by omega) hqa ⟨hqp, hqq, hqx⟩ wr (Tri.more (show Tri wr 0 w.heap.size X1 x1 P1 p1 Q1 q1 from hT1) (Nat.le_refl _) hL.size)
      obtain ⟨z, hz⟩ : ∃ z, (hereS ((yk, ys, yt), x1, p1.len, q1.len) && (okNA cntS.here p1.fr && okNA cntS.here q1.fr)) = z := ⟨_, rfl⟩
      rw [hz] at cZ
      have CZ := Lib.hid cZ
      rw [okS_at hdr hz] at hE
      clear cZ hqp hqq hqx hqa
      cases z
      · have hE' : false = R := hE
        subst hE'
        clear hdr hz HR hE
        go_wp2_with fail
        refine CZ.out.mono ?_; rintro e w1 ⟨rfl, b1⟩
        go_wp2_with fail
        go_ret
        exact ⟨rfl, bl_trans hL b1⟩
      · have HN := Lib.hid (show okNA cntS.here (s.drop (k + 1)).fr = R from hE)
        clear hdr hz HR hE
        go_wp2_with fail
        refine CZ.out.mono ?_; rintro e w1 ⟨rfl, b1⟩
        go_wp2_with fail
        go_roundw
        case rel => exact ⟨k + 1, by omega, by go_num, HN.out, bl_trans hL b1⟩
        case measure => simp [intOf]; omega
    · obtain rfl : k = s.len := by omega
      rw [St.drop_all] at hE
      have hRt : true = R := hE
      subst hRt
      clear hE HR
      go_wp2_with fail
      go_ret
      exact ⟨rfl, hL⟩
set_option maxHeartbeats 4000000 in
theorem sOkS_step (K : Nat) (zk : Int) (zs zt : ByteArray) (x : Fr (Int × Int × ByteArray)) (p q : St) (X : Option Addr) (cx : Nat) (P : Option Addr) (cp : Nat) (Q : Option Addr) (cq : Nat) (w : World) (hK : x.size + p.size + q.size ≤ K) (hl : x.size + p.size + q.size ≤ 1048576) (hz : zs.size ≤ 1048576 ∧ zt.size ≤ 1048576) (hq : StOk qSmS qSmE p ∧ StOk qSmS qSmE q ∧ FrOk qSmE x) (hX : Tri w 0 w.heap.size X x P p Q q)
    (ih : ∀ (zk : Int) (zs zt : ByteArray) (x : Fr (Int × Int × ByteArray)) (p q : St) (X : Option Addr) (cx : Nat) (P : Option Addr) (cp : Nat) (Q : Option Addr) (cq : Nat), x.size + p.size + q.size < K → zs.size ≤ 1048576 ∧ zt.size ≤ 1048576 → StOk qSmS qSmE p ∧ StOk qSmS qSmE q ∧ FrOk qSmE x → ∀ (w : World), Tri w 0 w.heap.size X x P p Q q → Calls Tryz.prog 40 #[.agg #[.int .i64 zk, .string zs, .string zt, .slice X x.len cx, .slice P p.len cp, .slice Q q.len cq]] w fun e w' => e = .returned (.bool (hereS ((zk, zs, zt), x, p.len, q.len) && (okNA cntS.here p.fr && okNA cntS.here q.fr))) ∧ Below w.heap.size w w') :
    Calls Tryz.prog 40 #[.agg #[.int .i64 zk, .string zs, .string zt, .slice X x.len cx, .slice P p.len cp, .slice Q q.len cq]] w fun e w' => e = .returned (.bool (hereS ((zk, zs, zt), x, p.len, q.len) && (okNA cntS.here p.fr && okNA cntS.here q.fr))) ∧ Below w.heap.size w w' := by
  have B := Blk.new w 40 #[.int .i64 zk, .string zs, .string zt, .slice X x.len cx, .slice P p.len cp, .slice Q q.len cq]
  have L0 := bl_alloc (Below.refl w.heap.size w) (.cells #[.int .i64 zk, .string zs, .string zt, .slice X x.len cx, .slice P p.len cp, .slice Q q.len cq] 40)
  have hlen := x.len_size
  have cP := fun w h => sBlockOk_step K p P cp w (by omega) (by omega) hq.1 h ih
  have cQ := fun w h => sBlockOk_step K q Q cq w (by omega) (by omega) hq.2.1 h ih
  have HQ := Lib.hid hq.2.2
  have HX := Lib.hid fun w h => sHereS zk zs zt x p q X cx P cp Q cq w hz.1 hz.2 h
  have CX := Lib.hid sExprOk
  have h1 : hereS ((zk, zs, zt), x, p.len, q.len) = (termsB x && headS zk zs zt x p.len q.len) := rfl
  obtain ⟨R, hR⟩ : ∃ R, termsB x = R := ⟨_, rfl⟩
  rw [h1, hR]
  have HRR := Lib.hid hR
  clear hq hR h1 ih
  generalize headS zk zs zt x p.len q.len = H at HX ⊢
  generalize okNA cntS.here p.fr = V1 at cP ⊢
  generalize okNA cntS.here q.fr = V2 at cQ ⊢
  have CP := Lib.hid cP
  have CQ := Lib.hid cQ
  clear cP cQ
  go_enter Tryz.func40, Tryz.ntmps40
  go_wp2_with fail
  go_loopw [3] (fun i wr => ∃ k : Nat, k ≤ x.len ∧ i = .int .i64 k ∧ termsB (x.drop k) = R ∧ Blk wr w.heap.size 40 #[.int .i64 zk, .string zs, .string zt, .slice X x.len cx, .slice P p.len cp, .slice Q q.len cq] ∧ Below w.heap.size w wr) (fun i _ => x.len - (intOf i).toNat)
  case atStart => exact ⟨0, Nat.zero_le _, rfl, by rw [Fr.drop_zero]; exact HRR.out, B, L0⟩
  case round =>
    clear B L0
    obtain ⟨k, hk, rfl, hE, hB, hL⟩ := hrel
    have cb := hB.cell
    by_cases hlt : k < x.len
    · obtain ⟨b, o, a, k1, A1, c1, hAe, hb, hd, hks, hSk, q0, q1, q2, q3⟩ := at_Expr (hX.1.below hL (Nat.le_refl _)) hlt
      subst hAe
      have hqk := FrOk.drop k HQ.out
      rw [hd] at hqk
      obtain ⟨hqa, _, hqk, _⟩ := hqk
      obtain ⟨yk, yn, ys⟩ := a
      simp only at q0 q1 q2
      have hlt' : (k : Int) < (x.len : Int) := by omega
      have cZ := CX.out yk yn ys k1 A1 c1 wr (by omega) hqa hqk (hSk.more (Nat.le_refl _) hL.size)
      obtain ⟨z, hz⟩ : ∃ z, rightN cntE (yk, yn, ys) k1 = z := ⟨_, rfl⟩
      rw [hz] at cZ
      have CZ := Lib.hid cZ
      clear cZ
      cases z
      · have hE' : false = R := (termsB_no hd hz).symm.trans hE
        subst hE'
        clear hd hz HRR hqk hE
        go_wp2_with fail
        refine CZ.out.mono ?_; rintro e w1 ⟨rfl, b1⟩
        go_wp2_with fail
        go_ret
        exact ⟨rfl, bl_trans hL b1⟩
      · have HN := Lib.hid ((termsB_yes hd hz).symm.trans hE)
        clear hd hz HRR hqk hE
        go_wp2_with fail
        refine CZ.out.mono ?_; rintro e w1 ⟨rfl, b1⟩
        go_wp2_with fail
        go_roundw
        case rel => exact ⟨k + 1, by omega, by go_num, HN.out, hB.keep b1, bl_trans hL b1⟩
        case measure => simp [intOf]; omega
    · obtain rfl : k = x.len := by omega
      rw [Fr.drop_all] at hE
      have hRt : true = R := hE
      subst hRt
      clear hE HRR
      go_wp2_with fail
      refine (HX.out _ ((hX.1.below hL (Nat.le_refl _)).more (Nat.le_refl _) hL.size)).mono ?_; rintro e w1 ⟨rfl, b1⟩
      have B1 := hB.keep b1
      have L1 := bl_trans hL b1
      have cb1 := B1.cell
      clear cb
      cases H
      · go_wp2_with fail
        go_ret
        exact ⟨rfl, L1⟩
      · go_wp2_with fail
        refine (CP.out _ ((hX.2.1.below L1 (Nat.le_refl _)).more (Nat.le_refl _) L1.size)).mono ?_; rintro e w2 ⟨rfl, b2⟩
        have B2 := B1.keep b2
        have L2 := bl_trans L1 b2
        have cb2 := B2.cell
        cases V1
        · go_wp2_with fail
          go_ret
          exact ⟨rfl, L2⟩
        · go_wp2_with fail
          refine (CQ.out _ ((hX.2.2.below L2 (Nat.le_refl _)).more (Nat.le_refl _) L2.size)).mono ?_; rintro e w3 ⟨rfl, b3⟩
          go_wp2_with fail
          go_ret
          exact ⟨ret_bool (by simp), bl_trans L2 b3⟩
theorem sOkS_any (K : Nat) : K ≤ 1048576 → ∀ (zk : Int) (zs zt : ByteArray) (x : Fr (Int × Int × ByteArray)) (p q : St) (X : Option Addr) (cx : Nat) (P : Option Addr) (cp : Nat) (Q : Option Addr) (cq : Nat), x.size + p.size + q.size ≤ K → zs.size ≤ 1048576 ∧ zt.size ≤ 1048576 → StOk qSmS qSmE p ∧ StOk qSmS qSmE q ∧ FrOk qSmE x → ∀ (w : World), Tri w 0 w.heap.size X x P p Q q → Calls Tryz.prog 40 #[.agg #[.int .i64 zk, .string zs, .string zt, .slice X x.len cx, .slice P p.len cp, .slice Q q.len cq]] w fun e w' => e = .returned (.bool (hereS ((zk, zs, zt), x, p.len, q.len) && (okNA cntS.here p.fr && okNA cntS.here q.fr))) ∧ Below w.heap.size w w' := by
  induction K with
  | zero =>
    intro _ zk zs zt x p q X cx P cp Q cq hK hz hq w hX
    exact sOkS_step 0 zk zs zt x p q X cx P cp Q cq w hK (by omega) hz hq hX (fun _ _ _ x p q _ _ _ _ _ _ h => by omega)
  | succ K ih =>
    intro hb zk zs zt x p q X cx P cp Q cq hK hz hq w hX
    exact sOkS_step (K + 1) zk zs zt x p q X cx P cp Q cq w hK (by omega) hz hq hX (fun zk zs zt x p q X cx P cp Q cq h => ih (by omega) zk zs zt x p q X cx P cp Q cq (by omega))

end Go.Proofs.YtemlnpncljomgaaGreatDoor
