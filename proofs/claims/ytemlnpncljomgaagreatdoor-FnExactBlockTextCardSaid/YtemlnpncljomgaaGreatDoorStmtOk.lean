import Derived.Test.YtemlnpncljomgaaGreatDoorStmtIh
import Derived.Test.YtemlnpncljomgaaGreatDoorStmtSp
namespace Go.Proofs.YtemlnpncljomgaaGreatDoor
open Go.RowKit

def todoS (p q : St) : Nat → Fr ((Int × ByteArray × ByteArray) × Fr (Int × Int × ByteArray) × Nat × Nat)
  | 0 => p.fr.app q.fr
  | 1 => q.fr
  | _ => .nil
set_option maxRecDepth 20000 in
set_option maxHeartbeats 8000000 in
theorem iPartsS_step (K : Nat) (zk : Int) (zs zt : ByteArray) (x : Fr (Int × Int × ByteArray)) (p q : St) (X : Option Addr) (cx : Nat) (P : Option Addr) (cp : Nat) (Q : Option Addr) (cq : Nat) (d : Int) (w : World) (hK : x.size + p.size + q.size ≤ K) (hl : x.size + p.size + q.size ≤ 1048576) (hz : zs.size ≤ 1048576 ∧ zt.size ≤ 1048576) (hq : StOk qSmS qSmE p ∧ StOk qSmS qSmE q ∧ FrOk qSmE x) (hd1 : 1 ≤ d) (hd7 : d ≤ 6) (hX : Tri w 0 w.heap.size X x P p Q q)
    (ih : ∀ (zk : Int) (zs zt : ByteArray) (x : Fr (Int × Int × ByteArray)) (p q : St) (X : Option Addr) (cx : Nat) (P : Option Addr) (cp : Nat) (Q : Option Addr) (cq : Nat), x.size + p.size + q.size < K → zs.size ≤ 1048576 ∧ zt.size ≤ 1048576 → StOk qSmS qSmE p ∧ StOk qSmS qSmE q ∧ FrOk qSmE x → ∀ (d : Int) (w : World), 1 ≤ d → d ≤ 6 → Tri w 0 w.heap.size X x P p Q q → Calls Tryz.prog 42 #[.agg #[.int .i64 zk, .string zs, .string zt, .slice X x.len cx, .slice P p.len cp, .slice Q q.len cq], .int .i64 d] w fun e w' => RetInt (fun y => PartsN cntS 61 d ((zk, zs, zt), x, p.len, q.len) (p.fr.app q.fr) y) e ∧ Below w.heap.size w w') :
    Calls Tryz.prog 42 #[.agg #[.int .i64 zk, .string zs, .string zt, .slice X x.len cx, .slice P p.len cp, .slice Q q.len cq], .int .i64 d] w fun e w' => RetInt (fun y => PartsN cntS 61 d ((zk, zs, zt), x, p.len, q.len) (p.fr.app q.fr) y) e ∧ Below w.heap.size w w' := by
  have HM := Lib.hid (show cntS.M = 60 from rfl)
  have HD := Lib.hid (show cntS.D = 5 from rfl)
  by_cases hd : 5 < d
  · go_enter Tryz.func42, Tryz.ntmps42
    go_wp2_with fail
    go_ret
    exact ⟨⟨61, rfl, PartsN.deep (N := cntS) (by rw [HM.out]; omega) (by rw [HM.out]; omega) (by rw [HD.out]; exact hd)⟩, by repeat (first | exact Below.refl _ _ | refine bl_drewN ?_ _ | refine Below.drew ?_ | refine bl_alloc ?_ _ | refine bl_set ?_ (by simp) _ | refine bl_trans ?_ (by assumption))⟩
  have B := Blk.new w 40 #[.int .i64 zk, .string zs, .string zt, .slice X x.len cx, .slice P p.len cp, .slice Q q.len cq]
  have L0 := bl_alloc (Below.refl w.heap.size w) (.cells #[.int .i64 zk, .string zs, .string zt, .slice X x.len cx, .slice P p.len cp, .slice Q q.len cq] 40)
  have hlp := p.len_size
  have hlq := q.len_size
  have IHH := Lib.hid ih
  have HQ := Lib.hid hq
  have cH := fun w h => iHeadS zk zs zt x p q X cx P cp Q cq w hz.1 hz.2 (by omega) hq.2.2 h
  obtain ⟨H, hH⟩ : ∃ H, hereS ((zk, zs, zt), x, p.len, q.len) = H := ⟨_, rfl⟩
  rw [hH] at cH
  have CH := Lib.hid cH
  clear ih hq cH
  have hX0 := (hX.below L0 (Nat.le_refl _)).more (Nat.le_refl _) L0.size
  cases H
  · have HV := Lib.hid (show cntS.here ((zk, zs, zt), x, p.len, q.len) (p.fr.app q.fr) = false from hH)
    clear hH
    go_enter Tryz.func42, Tryz.ntmps42
    go_wp2_with fail
    refine (CH.out _ hX0.1).mono ?_; rintro e w1 ⟨rfl, b1⟩
    go_wp2_with fail
    go_ret
    exact ⟨⟨61, rfl, PartsN.bad (N := cntS) (by rw [HM.out]; omega) (by rw [HM.out]; omega) HV.out⟩, bl_trans L0 b1⟩
  · have HV := Lib.hid (show cntS.here ((zk, zs, zt), x, p.len, q.len) (p.fr.app q.fr) = true from hH)
    clear hH
    go_enter Tryz.func42, Tryz.ntmps42
    go_wp2_with fail
    refine (CH.out _ hX0.1).mono ?_; rintro e w1 ⟨rfl, b1⟩
    have L1 := bl_trans L0 b1
    have B1 := B.keep b1
    have cb := B1.cell
    have BG0 := Blk.new w1 38 #[.slice P p.len cp, .slice Q q.len cq]
    have LG0 := bl_alloc L1 (.cells #[.slice P p.len cp, .slice Q q.len cq] 38)
    clear hX0
    go_upto_region 5 with fail
    obtain ⟨g, hg⟩ : ∃ g, w1.heap.size = g := ⟨_, rfl⟩
    rw [hg] at BG0 ⊢
    generalize w1.alloc (.cells #[.slice P p.len cp, .slice Q q.len cq] 38) = w2 at BG0 LG0 ⊢
    clear hg cb B1 B b1 L1 L0
    go_loopw [5, 23] (fun nv i wr => ∃ (j : Nat) (n : Int), ((j = 0 ∧ i = .int .i64 0) ∨ (j = 1 ∧ i = .int .i64 1) ∨ (j = 2 ∧ i = .int .i64 2)) ∧ nv = .int .i64 n ∧ InvN cntS (d + 1) (p.fr.app q.fr) n (todoS p q j) ∧ Blk wr g 38 #[.slice P p.len cp, .slice Q q.len cq] ∧ Below w.heap.size w wr) (fun _ i _ => 2 - (intOf i).toNat)
    case atStart => exact ⟨0, 1, .inl ⟨rfl, rfl⟩, rfl, InvN.start (by rw [HM.out]; omega), BG0, LG0⟩
    case round =>
      clear BG0 LG0
      obtain ⟨j, n, hj, rfl, hI0, BG, LG⟩ := hrel
      have HI0 := Lib.hid hI0
      clear hI0
      have cg := BG.cell
      rcases hj with ⟨rfl, rfl⟩ | ⟨rfl, rfl⟩ | ⟨rfl, rfl⟩
      · go_wp2_with fail
        go_loopw [5, 29] (fun nv i wr => ∃ (k : Nat) (n : Int), k ≤ p.len ∧ i = .int .i64 k ∧ nv = .int .i64 n ∧ InvN cntS (d + 1) (p.fr.app q.fr) n ((p.drop k).fr.app q.fr) ∧ Blk wr g 38 #[.slice P p.len cp, .slice Q q.len cq] ∧ Below w.heap.size w wr) (fun _ i _ => p.len - (intOf i).toNat)
        case atStart => exact ⟨0, n, Nat.zero_le _, rfl, rfl, by rw [St.drop_zero]; exact HI0.out, BG, LG⟩
        case round =>
          clear HI0 cg BG LG
          obtain ⟨k, n, hk, rfl, rfl, hI, BG, LG⟩ := hrel
          by_cases hlt : k < p.len
          · have hlt' : (k : Int) < (p.len : Int) := by omega
            obtain ⟨b, o, a, x1, p1, q1, X1, cx1, P1, cp1, Q1, cq1, hAe, _, hb, hdr, hks, hT1, e0, e1, e2, e3, e4, e5⟩ := SlS.at_ ((hX.below LG (Nat.le_refl _)).2.1) hlt
            subst hAe
            obtain ⟨yk, ys, yt⟩ := a
            simp only at e0 e1 e2
            obtain ⟨hfr, hfs⟩ := St.fr_at hdr q.fr
            rw [hfr] at hI
            have hqk := StOk.drop k HQ.out.1
            rw [hdr] at hqk
            obtain ⟨⟨hqa, _⟩, hqx, hqp, hqq, _⟩ := hqk
            have hn60 : n ≤ 60 := by have := hI.2.1; rw [HM.out] at this; exact this
            have hn1 : 1 ≤ n := hI.1
            have L2 := bl_alloc LG (.cells #[.int .i64 yk, .string ys, .string yt, .slice X1 x1.len cx1, .slice P1 p1.len cp1, .slice Q1 q1.len cq1] 40)
            have BG2 := BG.alloc (.cells #[.int .i64 yk, .string ys, .string yt, .slice X1 x1.len cx1, .slice P1 p1.len cp1, .slice Q1 q1.len cq1] 40)
            have CC := Lib.hid (IHH.out yk ys yt x1 p1 q1 X1 cx1 P1 cp1 Q1 cq1 (by omega) hqa ⟨hqp, hqq, hqx⟩ (d + 1) (wr.alloc (.cells #[.int .i64 yk, .string ys, .string yt, .slice X1 x1.len cx1, .slice P1 p1.len cp1, .slice Q1 q1.len cq1] 40)) (by omega) (by omega) (Tri.more (Tri.below (B := wr.heap.size) (show Tri wr 0 w.heap.size X1 x1 P1 p1 Q1 q1 from hT1) (bl_alloc (Below.refl wr.heap.size wr) _) LG.size) (Nat.le_refl _) L2.size))
            have HI := Lib.hid hI
            clear hI hdr hfr hfs hqp hqq hqx hqa
            go_wp2_with fail
            refine CC.out.mono ?_; rintro e w1 ⟨⟨y, rfl, hP⟩, b1⟩
            have hx1 : 1 ≤ y := hP.1
            have hx2 : y ≤ 61 := hP.2.1
            have HP := Lib.hid hP
            clear hP
            by_cases h60 : 61 ≤ n + y
            · go_wp2_with fail
              go_ret
              exact ⟨⟨61, rfl, PartsN.much (N := cntS) (by rw [HM.out]; omega) (by rw [HM.out]; omega) (by omega) (HI.out.stop HP.out (by rw [HM.out]; omega))⟩, bl_trans L2 b1⟩
            · go_wp2_with fail
              go_roundw
              case rel => exact ⟨k + 1, n + y, by omega, by go_num, rfl, HI.out.next HP.out (by rw [HM.out]; omega), BG2.keep b1, bl_trans L2 b1⟩
              case measure => simp [intOf]; omega
          · obtain rfl : k = p.len := by omega
            rw [St.drop_all] at hI
            have HI := Lib.hid (show InvN cntS (d + 1) (p.fr.app q.fr) n q.fr from hI)
            clear hI
            go_wp2_with fail
            go_roundw
            case rel => exact ⟨1, n, .inr (.inl ⟨rfl, rfl⟩), rfl, HI.out, BG, LG⟩
            case measure => simp [intOf]
      · go_wp2_with fail
        go_loopw [5, 29] (fun nv i wr => ∃ (k : Nat) (n : Int), k ≤ q.len ∧ i = .int .i64 k ∧ nv = .int .i64 n ∧ InvN cntS (d + 1) (p.fr.app q.fr) n ((q.drop k).fr.app .nil) ∧ Blk wr g 38 #[.slice P p.len cp, .slice Q q.len cq] ∧ Below w.heap.size w wr) (fun _ i _ => q.len - (intOf i).toNat)
        case atStart => exact ⟨0, n, Nat.zero_le _, rfl, rfl, by rw [St.drop_zero, app_nil]; exact HI0.out, BG, LG⟩
        case round =>
          clear HI0 cg BG LG
          obtain ⟨k, n, hk, rfl, rfl, hI, BG, LG⟩ := hrel
          by_cases hlt : k < q.len
          · have hlt' : (k : Int) < (q.len : Int) := by omega
            obtain ⟨b, o, a, x1, p1, q1, X1, cx1, P1, cp1, Q1, cq1, hAe, _, hb, hdr, hks, hT1, e0, e1, e2, e3, e4, e5⟩ := SlS.at_ ((hX.below LG (Nat.le_refl _)).2.2) hlt
            subst hAe
            obtain ⟨yk, ys, yt⟩ := a
            simp only at e0 e1 e2
            obtain ⟨hfr, hfs⟩ := St.fr_at hdr .nil
            rw [hfr] at hI
            have hqk := StOk.drop k HQ.out.2.1
            rw [hdr] at hqk
            obtain ⟨⟨hqa, _⟩, hqx, hqp, hqq, _⟩ := hqk
            have hn60 : n ≤ 60 := by have := hI.2.1; rw [HM.out] at this; exact this
            have hn1 : 1 ≤ n := hI.1
            have L2 := bl_alloc LG (.cells #[.int .i64 yk, .string ys, .string yt, .slice X1 x1.len cx1, .slice P1 p1.len cp1, .slice Q1 q1.len cq1] 40)
            have BG2 := BG.alloc (.cells #[.int .i64 yk, .string ys, .string yt, .slice X1 x1.len cx1, .slice P1 p1.len cp1, .slice Q1 q1.len cq1] 40)
            have CC := Lib.hid (IHH.out yk ys yt x1 p1 q1 X1 cx1 P1 cp1 Q1 cq1 (by omega) hqa ⟨hqp, hqq, hqx⟩ (d + 1) (wr.alloc (.cells #[.int .i64 yk, .string ys, .string yt, .slice X1 x1.len cx1, .slice P1 p1.len cp1, .slice Q1 q1.len cq1] 40)) (by omega) (by omega) (Tri.more (Tri.below (B := wr.heap.size) (show Tri wr 0 w.heap.size X1 x1 P1 p1 Q1 q1 from hT1) (bl_alloc (Below.refl wr.heap.size wr) _) LG.size) (Nat.le_refl _) L2.size))
            have HI := Lib.hid hI
            clear hI hdr hfr hfs hqp hqq hqx hqa
            go_wp2_with fail
            refine CC.out.mono ?_; rintro e w1 ⟨⟨y, rfl, hP⟩, b1⟩
            have hx1 : 1 ≤ y := hP.1
            have hx2 : y ≤ 61 := hP.2.1
            have HP := Lib.hid hP
            clear hP
            by_cases h60 : 61 ≤ n + y
            · go_wp2_with fail
              go_ret
              exact ⟨⟨61, rfl, PartsN.much (N := cntS) (by rw [HM.out]; omega) (by rw [HM.out]; omega) (by omega) (HI.out.stop HP.out (by rw [HM.out]; omega))⟩, bl_trans L2 b1⟩
            · go_wp2_with fail
              go_roundw
              case rel => exact ⟨k + 1, n + y, by omega, by go_num, rfl, HI.out.next HP.out (by rw [HM.out]; omega), BG2.keep b1, bl_trans L2 b1⟩
              case measure => simp [intOf]; omega
          · obtain rfl : k = q.len := by omega
            rw [St.drop_all] at hI
            have HI := Lib.hid (show InvN cntS (d + 1) (p.fr.app q.fr) n .nil from hI)
            clear hI
            go_wp2_with fail
            go_roundw
            case rel => exact ⟨2, n, .inr (.inr ⟨rfl, rfl⟩), rfl, HI.out, BG, LG⟩
            case measure => simp [intOf]
      · go_wp2_with fail
        go_ret
        exact ⟨⟨n, rfl, PartsN.well (by rw [HD.out]; omega) (by rw [HM.out]; omega) HV.out HI0.out⟩, LG⟩
theorem iPartsS_any (K : Nat) : K ≤ 1048576 → ∀ (zk : Int) (zs zt : ByteArray) (x : Fr (Int × Int × ByteArray)) (p q : St) (X : Option Addr) (cx : Nat) (P : Option Addr) (cp : Nat) (Q : Option Addr) (cq : Nat), x.size + p.size + q.size ≤ K → zs.size ≤ 1048576 ∧ zt.size ≤ 1048576 → StOk qSmS qSmE p ∧ StOk qSmS qSmE q ∧ FrOk qSmE x → ∀ (d : Int) (w : World), 1 ≤ d → d ≤ 6 → Tri w 0 w.heap.size X x P p Q q → Calls Tryz.prog 42 #[.agg #[.int .i64 zk, .string zs, .string zt, .slice X x.len cx, .slice P p.len cp, .slice Q q.len cq], .int .i64 d] w fun e w' => RetInt (fun y => PartsN cntS 61 d ((zk, zs, zt), x, p.len, q.len) (p.fr.app q.fr) y) e ∧ Below w.heap.size w w' := by
  induction K with
  | zero =>
    intro _ zk zs zt x p q X cx P cp Q cq hK hz hq d w h1 h7 hX
    exact iPartsS_step 0 zk zs zt x p q X cx P cp Q cq d w hK (by omega) hz hq h1 h7 hX (fun _ _ _ x p q _ _ _ _ _ _ h => by omega)
  | succ K ih =>
    intro hb zk zs zt x p q X cx P cp Q cq hK hz hq d w h1 h7 hX
    exact iPartsS_step (K + 1) zk zs zt x p q X cx P cp Q cq d w hK (by omega) hz hq h1 h7 hX (fun zk zs zt x p q X cx P cp Q cq h => ih (by omega) zk zs zt x p q X cx P cp Q cq (by omega))

set_option maxHeartbeats 1000000 in
theorem iStmtOk (zk : Int) (zs zt : ByteArray) (x : Fr (Int × Int × ByteArray)) (p q : St) (X : Option Addr) (cx : Nat) (P : Option Addr) (cp : Nat) (Q : Option Addr) (cq : Nat) (w : World) (hl : x.size + p.size + q.size ≤ 1048576) (hz : zs.size ≤ 1048576 ∧ zt.size ≤ 1048576) (hq : StOk qSmS qSmE p ∧ StOk qSmS qSmE q ∧ FrOk qSmE x) (hX : Tri w 0 w.heap.size X x P p Q q) : Calls Tryz.prog 30 #[.agg #[.int .i64 zk, .string zs, .string zt, .slice X x.len cx, .slice P p.len cp, .slice Q q.len cq]] w fun e w' => e = .returned (.bool (rightN cntS ((zk, zs, zt), x, p.len, q.len) (p.fr.app q.fr))) ∧ Below w.heap.size w w' := by
  have L0 := bl_alloc (Below.refl w.heap.size w) (.cells #[.int .i64 zk, .string zs, .string zt, .slice X x.len cx, .slice P p.len cp, .slice Q q.len cq] 40)
  have C := Lib.hid (iPartsS_any (x.size + p.size + q.size) hl zk zs zt x p q X cx P cp Q cq (Nat.le_refl _) hz hq 1 _ (by omega) (by omega) ((hX.below L0 (Nat.le_refl _)).more (Nat.le_refl _) L0.size))
  go_enter Tryz.func30, Tryz.ntmps30
  go_wp2_with fail
  refine C.out.mono ?_; rintro e w1 ⟨⟨y, rfl, hP⟩, b1⟩
  have E := Lib.hid (right_impl (N := cntS) (by show (1 : Int) ≤ 5; omega) hP)
  clear hP
  go_wp2_with fail
  go_ret
  exact ⟨ret_bool (by rw [← E.out]; rfl), bl_trans L0 b1⟩
theorem here_and (a b c : Bool) : (a && (b && c)) = ((b && c) && a) := by cases a <;> cases b <;> cases c <;> rfl
set_option maxHeartbeats 1000000 in
theorem sStmtOk (zk : Int) (zs zt : ByteArray) (x : Fr (Int × Int × ByteArray)) (p q : St) (X : Option Addr) (cx : Nat) (P : Option Addr) (cp : Nat) (Q : Option Addr) (cq : Nat) (w : World) (hl : x.size + p.size + q.size ≤ 1048576) (hz : zs.size ≤ 1048576 ∧ zt.size ≤ 1048576) (hq : StOk qSmS qSmE p ∧ StOk qSmS qSmE q ∧ FrOk qSmE x) (hX : Tri w 0 w.heap.size X x P p Q q) : Calls Tryz.prog 28 #[.agg #[.int .i64 zk, .string zs, .string zt, .slice X x.len cx, .slice P p.len cp, .slice Q q.len cq]] w fun e w' => e = .returned (.bool (rightN cntS ((zk, zs, zt), x, p.len, q.len) (p.fr.app q.fr))) ∧ Below w.heap.size w w' := by
  have B := Blk.new w 40 #[.int .i64 zk, .string zs, .string zt, .slice X x.len cx, .slice P p.len cp, .slice Q q.len cq]
  have L0 := bl_alloc (Below.refl w.heap.size w) (.cells #[.int .i64 zk, .string zs, .string zt, .slice X x.len cx, .slice P p.len cp, .slice Q q.len cq] 40)
  have C := Lib.hid (sCountS_any (x.size + p.size + q.size) hl zk zs zt x p q X cx P cp Q cq (Nat.le_refl _) 1 _ (by omega) (by omega) ((hX.below L0 (Nat.le_refl _)).more (Nat.le_refl _) L0.size))
  have D := Lib.hid (fun w h => sOkS_any (x.size + p.size + q.size) hl zk zs zt x p q X cx P cp Q cq (Nat.le_refl _) hz hq w h)
  go_enter Tryz.func28, Tryz.ntmps28
  go_wp2_with fail
  refine C.out.mono ?_; rintro e w1 ⟨⟨y, rfl, hP⟩, b1⟩
  have E := right_spec (N := cntS) (by show (1 : Int) ≤ 5; omega) hP
  rw [show cntS.M = 60 from rfl, okNA_app, show cntS.here ((zk, zs, zt), x, p.len, q.len) (p.fr.app q.fr) = hereS ((zk, zs, zt), x, p.len, q.len) from rfl, ← here_and] at E
  have cb := (Blk.keep B b1).cell
  have L1 := bl_trans L0 b1
  clear hP
  by_cases hx : y ≤ 60
  · rw [decide_eq_true hx, Bool.true_and] at E
    have EE := Lib.hid E
    clear E
    go_wp2_with fail
    refine (D.out _ ((hX.below L1 (Nat.le_refl _)).more (Nat.le_refl _) L1.size)).mono ?_; rintro e w2 ⟨rfl, b2⟩
    rw [EE.out]
    go_wp2_with fail
    go_ret
    exact ⟨rfl, bl_trans L1 b2⟩
  · rw [decide_eq_false hx, Bool.false_and] at E
    have EE := Lib.hid E
    clear E
    go_wp2_with fail
    go_ret
    exact ⟨ret_bool EE.out, L1⟩

end Go.Proofs.YtemlnpncljomgaaGreatDoor
