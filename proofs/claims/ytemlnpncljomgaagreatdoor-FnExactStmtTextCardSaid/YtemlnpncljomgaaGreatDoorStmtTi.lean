import Derived.Test.YtemlnpncljomgaaGreatDoorStmtT
import Derived.Deep.RegionHeld3
namespace Go.Proofs.YtemlnpncljomgaaGreatDoor
open Go.RowKit

theorem blki_size {s : St} (h : wtS gExpr s ≤ 1048576) : (blkT (rowO s)).size ≤ 70000000 := by
  have := lenO_wt s
  rw [blkT_size]
  omega
theorem prei_size {s : St} (h : wtS gExpr s ≤ 1048576) {k : Nat} (hk : k ≤ s.len) : (blkS ((rowO s).take k)).size ≤ 70000000 := by
  have h1 := lenO_wt s
  have h2 := lenB_take (rowO s) k
  rw [blkS_size (rowO s) k (by rw [rowO_len]; exact hk)]
  omega

set_option maxRecDepth 20000 in
set_option maxHeartbeats 4000000 in
theorem iBlock (K : Nat) (s : St) (A : Option Addr) (c : Nat) (w : World) (hK : s.size ≤ K) (hl : s.size ≤ 1048576) (hw : wtS gExpr s ≤ 1048576) (hq : StOk qSmS qSmE s) (hT : Tab w) (hS : SlS w 0 w.heap.size A s) (ih : ∀ (zk : Int) (zs zt : ByteArray) (x : Fr (Int × Int × ByteArray)) (p q : St) (X : Option Addr) (cx : Nat) (P : Option Addr) (cp : Nat) (Q : Option Addr) (cq : Nat), x.size + p.size + q.size < K → zs.size + zt.size + wt gExpr x + wtS gExpr p + wtS gExpr q ≤ 1048576 → StOk qSmS qSmE p ∧ StOk qSmS qSmE q ∧ FrOk qSmE x → ∀ (w : World), Tab w → Tri w 0 w.heap.size X x P p Q q → Calls Tryz.prog 14 #[.agg #[.int .i64 zk, .string zs, .string zt, .slice X x.len cx, .slice P p.len cp, .slice Q q.len cq]] w fun e w' => e = .returned (.string (stO (zk, zs, zt) x p q)) ∧ Below w.heap.size w w') :
    Calls Tryz.prog 19 #[.slice A s.len c] w fun e w' => e = .returned (.string (blkT (rowO s))) ∧ Below w.heap.size w w' := by
  have IHH := Lib.hid ih
  have HQ := Lib.hid hq
  have HL := Lib.hid (rowO_len s)
  have HJ := Lib.hid (fun k (hk : k ≤ s.len) => prei_size hw hk)
  have hlz := s.len_size
  clear ih hq
  go_enter Tryz.func19, Tryz.ntmps19
  go_wp2_with fail
  go_loopw [3, 8] (fun sv i wr => ∃ (k : Nat) (a : ByteArray), k ≤ s.len ∧ i = .int .i64 k ∧ sv = .string a ∧ blkS ((rowO s).take k) = a ∧ Below w.heap.size w wr) (fun _ i _ => s.len - (intOf i).toNat)
  case atStart => exact ⟨0, _, Nat.zero_le _, rfl, rfl, rfl, Below.refl _ _⟩
  case round =>
    obtain ⟨k, u, hk, rfl, rfl, ha, hL⟩ := hrel
    have has : u.size ≤ 70000000 := by rw [← ha]; exact HJ.out k hk
    by_cases hlt : k < s.len
    · have hlt' : (k : Int) < (s.len : Int) := by omega
      obtain ⟨b, o, a, x1, p1, q1, X1, cx1, P1, cp1, Q1, cq1, hAe, _, hb, hdr, hks, hT1, e0, e1, e2, e3, e4, e5⟩ := SlS.at_ (hS.below hL (Nat.le_refl _)) hlt
      subst hAe
      obtain ⟨yk, ys, yt⟩ := a
      simp only at e0 e1 e2
      have hqk := StOk.drop k HQ.out
      rw [hdr] at hqk
      obtain ⟨_, hqx, hqp, hqq, _⟩ := hqk
      have hwa := wtS_at hdr
      have hat := rowO_at hlt hdr
      simp only at hwa hat
      have hsu := blkS_succ (l := rowO s) (k := k) (by rw [HL.out]; exact hlt)
      rw [ha, hat] at hsu
      have hts := stO_size (yk, ys, yt) x1 p1 q1
      simp only at hts
      have L1 := bl_alloc hL (.cells #[.int .i64 yk, .string ys, .string yt, .slice X1 x1.len cx1, .slice P1 p1.len cp1, .slice Q1 q1.len cq1] 40)
      have C := IHH.out yk ys yt x1 p1 q1 X1 cx1 P1 cp1 Q1 cq1 (by omega) (by omega) ⟨hqp, hqq, hqx⟩ (wr.alloc (.cells #[.int .i64 yk, .string ys, .string yt, .slice X1 x1.len cx1, .slice P1 p1.len cp1, .slice Q1 q1.len cq1] 40)) (hT.keep L1) (Tri.more (Tri.below (B := wr.heap.size) (show Tri wr 0 w.heap.size X1 x1 P1 p1 Q1 q1 from hT1) (bl_alloc (Below.refl wr.heap.size wr) _) hL.size) (Nat.le_refl _) L1.size)
      generalize stO (yk, ys, yt) x1 p1 q1 = t at C hsu hts
      have hts2 : t.size ≤ 70000000 := by omega
      have z1 : (t ++ ⟨#[32]⟩).size = t.size + 1 := by rw [ByteArray.size_append]; rfl
      have z2 : (u ++ (t ++ ⟨#[32]⟩)).size = u.size + (t.size + 1) := by rw [ByteArray.size_append, z1]
      have HN := Lib.hid (show blkS ((rowO s).take (k + 1)) = u ++ (t ++ ⟨#[32]⟩) by rw [hsu, ByteArray.append_assoc])
      have CC := Lib.hid C
      clear C hdr hat hsu ha hqx hqp hqq
      go_wp2_with fail
      refine CC.out.mono ?_; rintro e w1 ⟨rfl, b1⟩
      go_wp2_with fail
      go_roundw
      case rel => exact ⟨k + 1, _, by omega, by go_num, rfl, HN.out, bl_trans L1 b1⟩
      case measure => simp [intOf]; omega
    · obtain rfl : k = s.len := by omega
      have z0 : (u ++ ⟨#[125]⟩).size = u.size + 1 := by rw [ByteArray.size_append]; rfl
      have HE := Lib.hid (show blkT (rowO s) = u ++ ⟨#[125]⟩ by unfold blkT; rw [← ha, ← HL.out, List.take_length])
      clear ha
      go_wp2_with fail
      go_ret
      exact ⟨ret_str HE.out.symm, hL⟩

set_option maxHeartbeats 4000000 in
theorem iOne (g n : Nat) (zk : Int) (zs zt : ByteArray) (x : Fr (Int × Int × ByteArray)) (p q : St) (X : Option Addr) (cx : Nat) (P : Option Addr) (cp : Nat) (Q : Option Addr) (cq : Nat) (w : World) (hn : n < x.len) (hok : okNA cntE.here x = true) (hxl : x.size ≤ 1048576) (hxw : wt gExpr x ≤ 1048576) (hT : Tab w) (hX : Sl exprC w 0 w.heap.size X x) (hB : Blk w g 40 #[.int .i64 zk, .string zs, .string zt, .slice X x.len cx, .slice P p.len cp, .slice Q q.len cq]) :
    Calls Tryz.prog 43 #[.int .i64 n, .pointer (some ⟨g, 0, none⟩)] w fun e w' => e = .returned (.string ((rowX x).getD n ⟨#[]⟩)) ∧ Below w.heap.size w w' := by
  have p := hB.cell
  obtain ⟨b, o, ⟨yk, yn, ys⟩, k1, A1, c1, hAe, hb, hd, hs, hSk, q0, q1, q2, q3⟩ := at_Expr hX hn
  subst hAe
  obtain ⟨h1, h2⟩ := okNA_at hok hd
  have h3 := wtE_at hd
  have h4 := rowX_at hn hd
  have hl := x.len_size
  simp only at h1 h3 q0 q1 q2
  have he : (rowX x).getD n ⟨#[]⟩ = txE (yk, yn, ys) (rowX k1) := by
    rw [← h4, List.getD_eq_getElem?_getD, List.getElem?_eq_getElem (by rw [rowX_len]; exact hn)]
    rfl
  have C := fun w hT hS => iTextE_any k1.size (by omega) k1 (Nat.le_refl _) yk yn ys A1 c1 w h1 h2 (by omega) hT hS
  rw [he]
  generalize txE (yk, yn, ys) (rowX k1) = t at C ⊢
  have CC := Lib.hid C
  have hn' : (n : Int) < (x.len : Int) := by omega
  have hnn : (n : Int) ≤ 1048576 := by omega
  clear C hd h1 h2 h4 he
  go_enter Tryz.func43, Tryz.ntmps43
  go_wp2_with fail
  refine (CC.out _ hT hSk).mono ?_; rintro e w1 ⟨rfl, b1⟩
  go_wp2_with fail
  go_ret
  exact ⟨rfl, b1⟩
theorem iListedX (x : Fr (Int × Int × ByteArray)) (X : Option Addr) (cx : Nat) (w : World) (hok : okNA cntE.here x = true) (hxl : x.size ≤ 1048576) (hxw : wt gExpr x ≤ 1048576) (hT : Tab w) (hX : Sl exprC w 0 w.heap.size X x) :
    Calls Tryz.prog 38 #[.slice X x.len cx] w fun e w' => e = .returned (.string (jnS [44, 32] (rowX x) x.len)) ∧ Below w.heap.size w w' :=
  iListed x.size x X cx w (Nat.le_refl _) hxl hok hxw hT hX (fun kids h zk zn zs A c w hH ho hw' hT hS => iTextE_any kids.size (by omega) kids (Nat.le_refl _) zk zn zs A c w hH ho hw' hT hS)

set_option maxRecDepth 20000 in
set_option maxHeartbeats 4000000 in
theorem iStx_1 (K : Nat) (zs zt : ByteArray) (x : Fr (Int × Int × ByteArray)) (p q : St) (X : Option Addr) (cx : Nat) (P : Option Addr) (cp : Nat) (Q : Option Addr) (cq : Nat) (w : World) (hK : x.size + p.size + q.size ≤ K) (hl : x.size + p.size + q.size ≤ 1048576) (hwt : zs.size + zt.size + wt gExpr x + wtS gExpr p + wtS gExpr q ≤ 1048576) (hh : headS 1 zs zt x p.len q.len = true) (ht : termsB x = true) (hq : StOk qSmS qSmE p ∧ StOk qSmS qSmE q ∧ FrOk qSmE x) (hT : Tab w) (hX : Tri w 0 w.heap.size X x P p Q q) (ih : ∀ (zk : Int) (zs zt : ByteArray) (x : Fr (Int × Int × ByteArray)) (p q : St) (X : Option Addr) (cx : Nat) (P : Option Addr) (cp : Nat) (Q : Option Addr) (cq : Nat), x.size + p.size + q.size < K → zs.size + zt.size + wt gExpr x + wtS gExpr p + wtS gExpr q ≤ 1048576 → StOk qSmS qSmE p ∧ StOk qSmS qSmE q ∧ FrOk qSmE x → ∀ (w : World), Tab w → Tri w 0 w.heap.size X x P p Q q → Calls Tryz.prog 14 #[.agg #[.int .i64 zk, .string zs, .string zt, .slice X x.len cx, .slice P p.len cp, .slice Q q.len cq]] w fun e w' => e = .returned (.string (stO (zk, zs, zt) x p q)) ∧ Below w.heap.size w w') :
    Calls Tryz.prog 31 #[.agg #[.int .i64 1, .string zs, .string zt, .slice X x.len cx, .slice P p.len cp, .slice Q q.len cq]] w fun e w' => e = .returned (.string (stx (1, zs, zt) (rowX x) (blkT (rowO p)) (blkT (rowO q)) (decide (0 < q.len)))) ∧ Below w.heap.size w w' := by
  have B := Blk.new w 40 #[.int .i64 1, .string zs, .string zt, .slice X x.len cx, .slice P p.len cp, .slice Q q.len cq]
  have L0 := bl_alloc (Below.refl w.heap.size w) (.cells #[.int .i64 1, .string zs, .string zt, .slice X x.len cx, .slice P p.len cp, .slice Q q.len cq] 40)
  have hTW := hT.keep L0
  have hXW := (hX.below L0 (Nat.le_refl _)).more (Nat.le_refl _) L0.size
  have hok := termsB_ok x ht
  have _ := hK
  have _ := hq
  have _ := hh
  have _ := ih
  have _ := hl
  have _ := hwt
  have cJ := fun w' hT' hX' => iListedX x X cx w' hok (by omega) (by omega) hT' hX'
  have hjs := jnX_wt (fr := x) (by omega) x.len (Nat.le_refl _)
  have HE := Lib.hid (show stx (1, zs, zt) (rowX x) (blkT (rowO p)) (blkT (rowO q)) (decide (0 < q.len)) = (((⟨#[112, 114, 105, 110, 116, 32]⟩ : ByteArray) ++ (jnS [44, 32] (rowX x) x.len)) ++ ⟨#[59]⟩) from by rw [← rowX_len x]; rfl)
  generalize jnS [44, 32] (rowX x) x.len = J at cJ hjs HE
  have CJ := Lib.hid cJ
  clear cJ
  clear ih hh hok
  have z1 : ((⟨#[112, 114, 105, 110, 116, 32]⟩ : ByteArray) ++ J).size = 6 + J.size := by rw [ByteArray.size_append]; rfl
  have z2 : (((⟨#[112, 114, 105, 110, 116, 32]⟩ : ByteArray) ++ J) ++ ⟨#[59]⟩).size = 6 + J.size + 1 := by rw [ByteArray.size_append, z1]; rfl
  go_enter Tryz.func31, Tryz.ntmps31
  go_wp2_with fail
  refine (CJ.out _ hTW hXW.1).mono ?_; rintro e w1 ⟨rfl, hHeld⟩
  have cb := (B.keep hHeld).cell
  go_wp2_with fail
  go_ret
  exact ⟨ret_str HE.out.symm, bl_trans L0 hHeld⟩

set_option maxRecDepth 20000 in
set_option maxHeartbeats 4000000 in
theorem iStx_2 (K : Nat) (zs zt : ByteArray) (x : Fr (Int × Int × ByteArray)) (p q : St) (X : Option Addr) (cx : Nat) (P : Option Addr) (cp : Nat) (Q : Option Addr) (cq : Nat) (w : World) (hK : x.size + p.size + q.size ≤ K) (hl : x.size + p.size + q.size ≤ 1048576) (hwt : zs.size + zt.size + wt gExpr x + wtS gExpr p + wtS gExpr q ≤ 1048576) (hh : headS 2 zs zt x p.len q.len = true) (ht : termsB x = true) (hq : StOk qSmS qSmE p ∧ StOk qSmS qSmE q ∧ FrOk qSmE x) (hT : Tab w) (hX : Tri w 0 w.heap.size X x P p Q q) (ih : ∀ (zk : Int) (zs zt : ByteArray) (x : Fr (Int × Int × ByteArray)) (p q : St) (X : Option Addr) (cx : Nat) (P : Option Addr) (cp : Nat) (Q : Option Addr) (cq : Nat), x.size + p.size + q.size < K → zs.size + zt.size + wt gExpr x + wtS gExpr p + wtS gExpr q ≤ 1048576 → StOk qSmS qSmE p ∧ StOk qSmS qSmE q ∧ FrOk qSmE x → ∀ (w : World), Tab w → Tri w 0 w.heap.size X x P p Q q → Calls Tryz.prog 14 #[.agg #[.int .i64 zk, .string zs, .string zt, .slice X x.len cx, .slice P p.len cp, .slice Q q.len cq]] w fun e w' => e = .returned (.string (stO (zk, zs, zt) x p q)) ∧ Below w.heap.size w w') :
    Calls Tryz.prog 31 #[.agg #[.int .i64 2, .string zs, .string zt, .slice X x.len cx, .slice P p.len cp, .slice Q q.len cq]] w fun e w' => e = .returned (.string (stx (2, zs, zt) (rowX x) (blkT (rowO p)) (blkT (rowO q)) (decide (0 < q.len)))) ∧ Below w.heap.size w w' := by
  have B := Blk.new w 40 #[.int .i64 2, .string zs, .string zt, .slice X x.len cx, .slice P p.len cp, .slice Q q.len cq]
  have L0 := bl_alloc (Below.refl w.heap.size w) (.cells #[.int .i64 2, .string zs, .string zt, .slice X x.len cx, .slice P p.len cp, .slice Q q.len cq] 40)
  have hTW := hT.keep L0
  have hXW := (hX.below L0 (Nat.le_refl _)).more (Nat.le_refl _) L0.size
  have hok := termsB_ok x ht
  have _ := hK
  have _ := hq
  have _ := hh
  have _ := ih
  have _ := hl
  have _ := hwt
  have hlen : x.len = 1 := by
    rw [headS_2] at hh
    simp at hh
    omega
  have c0 := fun w' hT' hX' hB' => iOne w.heap.size 0 2 zs zt x p q X cx P cp Q cq w' (by omega) hok (by omega) (by omega) hT' hX' hB'
  have ht0 : ((rowX x).getD 0 ⟨#[]⟩).size ≤ 70000000 := by
    have g1 := getX_two (rowX x)
    have g2 := lenX_wt x
    omega
  have HE := Lib.hid (show stx (2, zs, zt) (rowX x) (blkT (rowO p)) (blkT (rowO q)) (decide (0 < q.len)) = (((zs ++ ⟨#[32, 61, 32]⟩) ++ ((rowX x).getD 0 ⟨#[]⟩)) ++ ⟨#[59]⟩) from rfl)
  generalize (rowX x).getD 0 ⟨#[]⟩ = t0 at c0 ht0 HE
  have C0 := Lib.hid c0
  clear c0
  clear ih hh hok hlen
  have z1 : (zs ++ ⟨#[32, 61, 32]⟩).size = zs.size + 3 := by rw [ByteArray.size_append]; rfl
  have z2 : ((zs ++ ⟨#[32, 61, 32]⟩) ++ t0).size = zs.size + 3 + t0.size := by rw [ByteArray.size_append, z1]
  have z3 : (((zs ++ ⟨#[32, 61, 32]⟩) ++ t0) ++ ⟨#[59]⟩).size = zs.size + 3 + t0.size + 1 := by rw [ByteArray.size_append, z2]; rfl
  go_enter Tryz.func31, Tryz.ntmps31
  go_wp2_with fail
  refine wp_region_held_drew (S := (fun y => Below (w.alloc (.cells #[.int .i64 2, .string zs, .string zt, .slice X x.len cx, .slice P p.len cp, .slice Q q.len cq] 40)).heap.size (w.alloc (.cells #[.int .i64 2, .string zs, .string zt, .slice X x.len cx, .slice P p.len cp, .slice Q q.len cq] 40)) y)) (by kernel_rfl) ?_ (fun hHeld => ?_)
  · exact (Below.refl _ _).drew
  refine wpAnyH_take (i := 0) (oi := ⟨some 17, _, _, _, _, _⟩) (v := ?_) rfl (by kernel_rfl) (by kernel_rfl) (by kernel_rfl) (fun _ _ _ h => h) (Or.inl ⟨by rfl, ?_⟩) (by assumption) ?_
  case refine_2 => (intro w hSw; skip; go_simp; first | done | with_reducible rfl)
  simp only [Act.put, qA, qB, qC]
  refine wpAnyH_take (i := 1) (oi := ⟨some 18, _, _, _, _, _⟩) (v := ?_) rfl (by kernel_rfl) (by kernel_rfl) (by kernel_rfl) (fun _ _ _ h => h) (Or.inl ⟨by rfl, ?_⟩) (by assumption) ?_
  case refine_2 => (intro w hSw; have p := (B.keep hSw).cell; go_simp; first | done | with_reducible rfl)
  simp only [Act.put, qA, qB, qC]
  refine wpAnyH_take (i := 2) (oi := ⟨some 19, _, _, _, _, _⟩) (v := ?_) rfl (by kernel_rfl) (by kernel_rfl) (by kernel_rfl) (fun _ _ _ h => h) (Or.inl ⟨by rfl, ?_⟩) (by assumption) ?_
  case refine_2 => (intro w hSw; skip; go_simp; (try rw [if_neg (by omega)]); first | done | with_reducible rfl)
  simp only [Act.put, qA, qB, qC]
  refine wpAnyH_take (i := 3) (oi := ⟨some 20, _, _, _, _, _⟩) (v := ?_) rfl (by kernel_rfl) (by kernel_rfl) (by kernel_rfl) (fun _ _ _ h => h) (Or.inl ⟨by rfl, ?_⟩) (by assumption) ?_
  case refine_2 => (intro w hSw; skip; go_simp; first | done | with_reducible rfl)
  simp only [Act.put, qA, qB, qC]
  refine wpAnyH_ready (rs := [4]) (by kernel_rfl) (by simp) ?_
  refine AllReadyH.cons (o := ⟨some 21, _, _, _, _, _⟩) rfl (fun K hK => ?_) AllReadyH.nil
  go_simp
  refine (C0.out _ (hTW.keep hHeld) ((hXW.1.below hHeld (Nat.le_refl _)).more (Nat.le_refl _) hHeld.size) (B.keep hHeld)).mono ?_; rintro e y0_ ⟨rfl, by0⟩
  go_wp2_with fail
  refine hK.out _ _ (bl_trans hHeld by0) (fun hHeld => ?_)
  clear hK K
  try simp only [Act.put, qA, qB, qC]
  refine wpAnyH_take (i := 5) (oi := ⟨some 22, _, _, _, _, _⟩) (v := ?_) rfl (by kernel_rfl) (by kernel_rfl) (by kernel_rfl) (fun _ _ _ h => h) (Or.inl ⟨by rfl, ?_⟩) (by assumption) ?_
  case refine_2 => (intro w hSw; skip; go_simp; (try rw [if_neg (by omega)]); first | done | with_reducible rfl)
  simp only [Act.put, qA, qB, qC]
  refine wpAnyH_take (i := 6) (oi := ⟨some 23, _, _, _, _, _⟩) (v := ?_) rfl (by kernel_rfl) (by kernel_rfl) (by kernel_rfl) (fun _ _ _ h => h) (Or.inl ⟨by rfl, ?_⟩) (by assumption) ?_
  case refine_2 => (intro w hSw; skip; go_simp; (try rw [if_neg (by omega)]); first | done | with_reducible rfl)
  simp only [Act.put, qA, qB, qC]
  refine wpAnyH_take (i := 7) (oi := ⟨some 2, _, _, _, _, _⟩) (v := ?_) rfl (by kernel_rfl) (by kernel_rfl) (by kernel_rfl) (fun _ _ _ h => h) (Or.inl ⟨by rfl, ?_⟩) (by assumption) ?_
  case refine_2 => (intro w hSw; skip; go_simp; first | done | with_reducible rfl)
  simp only [Act.put, qA, qB, qC]
  refine wpAnyH_done (by kernel_rfl) ?_ _
  go_wp2_with fail
  go_ret
  exact ⟨ret_str HE.out.symm, bl_trans L0 hHeld⟩

set_option maxRecDepth 20000 in
set_option maxHeartbeats 4000000 in
theorem iStx_3 (K : Nat) (zs zt : ByteArray) (x : Fr (Int × Int × ByteArray)) (p q : St) (X : Option Addr) (cx : Nat) (P : Option Addr) (cp : Nat) (Q : Option Addr) (cq : Nat) (w : World) (hK : x.size + p.size + q.size ≤ K) (hl : x.size + p.size + q.size ≤ 1048576) (hwt : zs.size + zt.size + wt gExpr x + wtS gExpr p + wtS gExpr q ≤ 1048576) (hh : headS 3 zs zt x p.len q.len = true) (ht : termsB x = true) (hq : StOk qSmS qSmE p ∧ StOk qSmS qSmE q ∧ FrOk qSmE x) (hT : Tab w) (hX : Tri w 0 w.heap.size X x P p Q q) (ih : ∀ (zk : Int) (zs zt : ByteArray) (x : Fr (Int × Int × ByteArray)) (p q : St) (X : Option Addr) (cx : Nat) (P : Option Addr) (cp : Nat) (Q : Option Addr) (cq : Nat), x.size + p.size + q.size < K → zs.size + zt.size + wt gExpr x + wtS gExpr p + wtS gExpr q ≤ 1048576 → StOk qSmS qSmE p ∧ StOk qSmS qSmE q ∧ FrOk qSmE x → ∀ (w : World), Tab w → Tri w 0 w.heap.size X x P p Q q → Calls Tryz.prog 14 #[.agg #[.int .i64 zk, .string zs, .string zt, .slice X x.len cx, .slice P p.len cp, .slice Q q.len cq]] w fun e w' => e = .returned (.string (stO (zk, zs, zt) x p q)) ∧ Below w.heap.size w w') :
    Calls Tryz.prog 31 #[.agg #[.int .i64 3, .string zs, .string zt, .slice X x.len cx, .slice P p.len cp, .slice Q q.len cq]] w fun e w' => e = .returned (.string (stx (3, zs, zt) (rowX x) (blkT (rowO p)) (blkT (rowO q)) (decide (0 < q.len)))) ∧ Below w.heap.size w w' := by
  have B := Blk.new w 40 #[.int .i64 3, .string zs, .string zt, .slice X x.len cx, .slice P p.len cp, .slice Q q.len cq]
  have L0 := bl_alloc (Below.refl w.heap.size w) (.cells #[.int .i64 3, .string zs, .string zt, .slice X x.len cx, .slice P p.len cp, .slice Q q.len cq] 40)
  have hTW := hT.keep L0
  have hXW := (hX.below L0 (Nat.le_refl _)).more (Nat.le_refl _) L0.size
  have hok := termsB_ok x ht
  have _ := hK
  have _ := hq
  have _ := hh
  have _ := ih
  have _ := hl
  have _ := hwt
  have hlen : x.len = 2 := by
    rw [headS_3] at hh
    simp at hh
    omega
  have c0 := fun w' hT' hX' hB' => iOne w.heap.size 0 3 zs zt x p q X cx P cp Q cq w' (by omega) hok (by omega) (by omega) hT' hX' hB'
  have ht0 : ((rowX x).getD 0 ⟨#[]⟩).size ≤ 70000000 := by
    have g1 := getX_two (rowX x)
    have g2 := lenX_wt x
    omega
  have c1 := fun w' hT' hX' hB' => iOne w.heap.size 1 3 zs zt x p q X cx P cp Q cq w' (by omega) hok (by omega) (by omega) hT' hX' hB'
  have ht1 : ((rowX x).getD 1 ⟨#[]⟩).size ≤ 70000000 := by
    have g1 := getX_two (rowX x)
    have g2 := lenX_wt x
    omega
  have HE := Lib.hid (show stx (3, zs, zt) (rowX x) (blkT (rowO p)) (blkT (rowO q)) (decide (0 < q.len)) = (((((zs ++ ⟨#[91]⟩) ++ ((rowX x).getD 0 ⟨#[]⟩)) ++ ⟨#[93, 32, 61, 32]⟩) ++ ((rowX x).getD 1 ⟨#[]⟩)) ++ ⟨#[59]⟩) from rfl)
  generalize (rowX x).getD 0 ⟨#[]⟩ = t0 at c0 ht0 HE
  generalize (rowX x).getD 1 ⟨#[]⟩ = t1 at c1 ht1 HE
  have C0 := Lib.hid c0
  clear c0
  have C1 := Lib.hid c1
  clear c1
  clear ih hh hok hlen
  have z1 : (zs ++ ⟨#[91]⟩).size = zs.size + 1 := by rw [ByteArray.size_append]; rfl
  have z2 : ((zs ++ ⟨#[91]⟩) ++ t0).size = zs.size + 1 + t0.size := by rw [ByteArray.size_append, z1]
  have z3 : (((zs ++ ⟨#[91]⟩) ++ t0) ++ ⟨#[93, 32, 61, 32]⟩).size = zs.size + 1 + t0.size + 4 := by rw [ByteArray.size_append, z2]; rfl
  have z4 : ((((zs ++ ⟨#[91]⟩) ++ t0) ++ ⟨#[93, 32, 61, 32]⟩) ++ t1).size = zs.size + 1 + t0.size + 4 + t1.size := by rw [ByteArray.size_append, z3]
  have z5 : (((((zs ++ ⟨#[91]⟩) ++ t0) ++ ⟨#[93, 32, 61, 32]⟩) ++ t1) ++ ⟨#[59]⟩).size = zs.size + 1 + t0.size + 4 + t1.size + 1 := by rw [ByteArray.size_append, z4]; rfl
  go_enter Tryz.func31, Tryz.ntmps31
  go_wp2_with fail
  refine wp_region_held_drew (S := (fun y => Below (w.alloc (.cells #[.int .i64 3, .string zs, .string zt, .slice X x.len cx, .slice P p.len cp, .slice Q q.len cq] 40)).heap.size (w.alloc (.cells #[.int .i64 3, .string zs, .string zt, .slice X x.len cx, .slice P p.len cp, .slice Q q.len cq] 40)) y)) (by kernel_rfl) ?_ (fun hHeld => ?_)
  · exact (Below.refl _ _).drew
  refine wpAnyH_take (i := 0) (oi := ⟨some 26, _, _, _, _, _⟩) (v := ?_) rfl (by kernel_rfl) (by kernel_rfl) (by kernel_rfl) (fun _ _ _ h => h) (Or.inl ⟨by rfl, ?_⟩) (by assumption) ?_
  case refine_2 => (intro w hSw; skip; go_simp; first | done | with_reducible rfl)
  simp only [Act.put, qA, qB, qC]
  refine wpAnyH_take (i := 1) (oi := ⟨some 27, _, _, _, _, _⟩) (v := ?_) rfl (by kernel_rfl) (by kernel_rfl) (by kernel_rfl) (fun _ _ _ h => h) (Or.inl ⟨by rfl, ?_⟩) (by assumption) ?_
  case refine_2 => (intro w hSw; have p := (B.keep hSw).cell; go_simp; first | done | with_reducible rfl)
  simp only [Act.put, qA, qB, qC]
  refine wpAnyH_take (i := 2) (oi := ⟨some 28, _, _, _, _, _⟩) (v := ?_) rfl (by kernel_rfl) (by kernel_rfl) (by kernel_rfl) (fun _ _ _ h => h) (Or.inl ⟨by rfl, ?_⟩) (by assumption) ?_
  case refine_2 => (intro w hSw; skip; go_simp; (try rw [if_neg (by omega)]); first | done | with_reducible rfl)
  simp only [Act.put, qA, qB, qC]
  refine wpAnyH_take (i := 3) (oi := ⟨some 29, _, _, _, _, _⟩) (v := ?_) rfl (by kernel_rfl) (by kernel_rfl) (by kernel_rfl) (fun _ _ _ h => h) (Or.inl ⟨by rfl, ?_⟩) (by assumption) ?_
  case refine_2 => (intro w hSw; skip; go_simp; first | done | with_reducible rfl)
  simp only [Act.put, qA, qB, qC]
  refine wpAnyH_take (i := 7) (oi := ⟨some 33, _, _, _, _, _⟩) (v := ?_) rfl (by kernel_rfl) (by kernel_rfl) (by kernel_rfl) (fun _ _ _ h => h) (Or.inl ⟨by rfl, ?_⟩) (by assumption) ?_
  case refine_2 => (intro w hSw; skip; go_simp; first | done | with_reducible rfl)
  simp only [Act.put, qA, qB, qC]
  refine wpAnyH_ready (rs := [4]) (by kernel_rfl) (by simp) ?_
  refine AllReadyH.cons (o := ⟨some 30, _, _, _, _, _⟩) rfl (fun K hK => ?_) AllReadyH.nil
  go_simp
  refine (C0.out _ (hTW.keep hHeld) ((hXW.1.below hHeld (Nat.le_refl _)).more (Nat.le_refl _) hHeld.size) (B.keep hHeld)).mono ?_; rintro e y0_ ⟨rfl, by0⟩
  go_wp2_with fail
  refine hK.out _ _ (bl_trans hHeld by0) (fun hHeld => ?_)
  clear hK K
  try simp only [Act.put, qA, qB, qC]
  refine wpAnyH_take (i := 5) (oi := ⟨some 31, _, _, _, _, _⟩) (v := ?_) rfl (by kernel_rfl) (by kernel_rfl) (by kernel_rfl) (fun _ _ _ h => h) (Or.inl ⟨by rfl, ?_⟩) (by assumption) ?_
  case refine_2 => (intro w hSw; skip; go_simp; (try rw [if_neg (by omega)]); first | done | with_reducible rfl)
  simp only [Act.put, qA, qB, qC]
  refine wpAnyH_take (i := 6) (oi := ⟨some 32, _, _, _, _, _⟩) (v := ?_) rfl (by kernel_rfl) (by kernel_rfl) (by kernel_rfl) (fun _ _ _ h => h) (Or.inl ⟨by rfl, ?_⟩) (by assumption) ?_
  case refine_2 => (intro w hSw; skip; go_simp; (try rw [if_neg (by omega)]); first | done | with_reducible rfl)
  simp only [Act.put, qA, qB, qC]
  refine wpAnyH_ready (rs := [8]) (by kernel_rfl) (by simp) ?_
  refine AllReadyH.cons (o := ⟨some 34, _, _, _, _, _⟩) rfl (fun K hK => ?_) AllReadyH.nil
  go_simp
  refine (C1.out _ (hTW.keep hHeld) ((hXW.1.below hHeld (Nat.le_refl _)).more (Nat.le_refl _) hHeld.size) (B.keep hHeld)).mono ?_; rintro e y1_ ⟨rfl, by1⟩
  go_wp2_with fail
  refine hK.out _ _ (bl_trans hHeld by1) (fun hHeld => ?_)
  clear hK K
  try simp only [Act.put, qA, qB, qC]
  refine wpAnyH_take (i := 9) (oi := ⟨some 35, _, _, _, _, _⟩) (v := ?_) rfl (by kernel_rfl) (by kernel_rfl) (by kernel_rfl) (fun _ _ _ h => h) (Or.inl ⟨by rfl, ?_⟩) (by assumption) ?_
  case refine_2 => (intro w hSw; skip; go_simp; (try rw [if_neg (by omega)]); first | done | with_reducible rfl)
  simp only [Act.put, qA, qB, qC]
  refine wpAnyH_take (i := 10) (oi := ⟨some 36, _, _, _, _, _⟩) (v := ?_) rfl (by kernel_rfl) (by kernel_rfl) (by kernel_rfl) (fun _ _ _ h => h) (Or.inl ⟨by rfl, ?_⟩) (by assumption) ?_
  case refine_2 => (intro w hSw; skip; go_simp; (try rw [if_neg (by omega)]); first | done | with_reducible rfl)
  simp only [Act.put, qA, qB, qC]
  refine wpAnyH_take (i := 11) (oi := ⟨some 2, _, _, _, _, _⟩) (v := ?_) rfl (by kernel_rfl) (by kernel_rfl) (by kernel_rfl) (fun _ _ _ h => h) (Or.inl ⟨by rfl, ?_⟩) (by assumption) ?_
  case refine_2 => (intro w hSw; skip; go_simp; first | done | with_reducible rfl)
  simp only [Act.put, qA, qB, qC]
  refine wpAnyH_done (by kernel_rfl) ?_ _
  go_wp2_with fail
  go_ret
  exact ⟨ret_str HE.out.symm, bl_trans L0 hHeld⟩

set_option maxRecDepth 20000 in
set_option maxHeartbeats 4000000 in
theorem iStx_4 (K : Nat) (zs zt : ByteArray) (x : Fr (Int × Int × ByteArray)) (p q : St) (X : Option Addr) (cx : Nat) (P : Option Addr) (cp : Nat) (Q : Option Addr) (cq : Nat) (w : World) (hK : x.size + p.size + q.size ≤ K) (hl : x.size + p.size + q.size ≤ 1048576) (hwt : zs.size + zt.size + wt gExpr x + wtS gExpr p + wtS gExpr q ≤ 1048576) (hh : headS 4 zs zt x p.len q.len = true) (ht : termsB x = true) (hq : StOk qSmS qSmE p ∧ StOk qSmS qSmE q ∧ FrOk qSmE x) (hT : Tab w) (hX : Tri w 0 w.heap.size X x P p Q q) (ih : ∀ (zk : Int) (zs zt : ByteArray) (x : Fr (Int × Int × ByteArray)) (p q : St) (X : Option Addr) (cx : Nat) (P : Option Addr) (cp : Nat) (Q : Option Addr) (cq : Nat), x.size + p.size + q.size < K → zs.size + zt.size + wt gExpr x + wtS gExpr p + wtS gExpr q ≤ 1048576 → StOk qSmS qSmE p ∧ StOk qSmS qSmE q ∧ FrOk qSmE x → ∀ (w : World), Tab w → Tri w 0 w.heap.size X x P p Q q → Calls Tryz.prog 14 #[.agg #[.int .i64 zk, .string zs, .string zt, .slice X x.len cx, .slice P p.len cp, .slice Q q.len cq]] w fun e w' => e = .returned (.string (stO (zk, zs, zt) x p q)) ∧ Below w.heap.size w w') :
    Calls Tryz.prog 31 #[.agg #[.int .i64 4, .string zs, .string zt, .slice X x.len cx, .slice P p.len cp, .slice Q q.len cq]] w fun e w' => e = .returned (.string (stx (4, zs, zt) (rowX x) (blkT (rowO p)) (blkT (rowO q)) (decide (0 < q.len)))) ∧ Below w.heap.size w w' := by
  have B := Blk.new w 40 #[.int .i64 4, .string zs, .string zt, .slice X x.len cx, .slice P p.len cp, .slice Q q.len cq]
  have L0 := bl_alloc (Below.refl w.heap.size w) (.cells #[.int .i64 4, .string zs, .string zt, .slice X x.len cx, .slice P p.len cp, .slice Q q.len cq] 40)
  have hTW := hT.keep L0
  have hXW := (hX.below L0 (Nat.le_refl _)).more (Nat.le_refl _) L0.size
  have hok := termsB_ok x ht
  have _ := hK
  have _ := hq
  have _ := hh
  have _ := ih
  have _ := hl
  have _ := hwt
  have hlen : x.len = 2 := by
    rw [headS_4] at hh
    simp at hh
    omega
  have c0 := fun w' hT' hX' hB' => iOne w.heap.size 0 4 zs zt x p q X cx P cp Q cq w' (by omega) hok (by omega) (by omega) hT' hX' hB'
  have ht0 : ((rowX x).getD 0 ⟨#[]⟩).size ≤ 70000000 := by
    have g1 := getX_two (rowX x)
    have g2 := lenX_wt x
    omega
  have c1 := fun w' hT' hX' hB' => iOne w.heap.size 1 4 zs zt x p q X cx P cp Q cq w' (by omega) hok (by omega) (by omega) hT' hX' hB'
  have ht1 : ((rowX x).getD 1 ⟨#[]⟩).size ≤ 70000000 := by
    have g1 := getX_two (rowX x)
    have g2 := lenX_wt x
    omega
  have HE := Lib.hid (show stx (4, zs, zt) (rowX x) (blkT (rowO p)) (blkT (rowO q)) (decide (0 < q.len)) = (((((⟨#[36]⟩ : ByteArray) ++ ((rowX x).getD 0 ⟨#[]⟩)) ++ ⟨#[32, 61, 32]⟩) ++ ((rowX x).getD 1 ⟨#[]⟩)) ++ ⟨#[59]⟩) from rfl)
  generalize (rowX x).getD 0 ⟨#[]⟩ = t0 at c0 ht0 HE
  generalize (rowX x).getD 1 ⟨#[]⟩ = t1 at c1 ht1 HE
  have C0 := Lib.hid c0
  clear c0
  have C1 := Lib.hid c1
  clear c1
  clear ih hh hok hlen
  have z1 : ((⟨#[36]⟩ : ByteArray) ++ t0).size = 1 + t0.size := by rw [ByteArray.size_append]; rfl
  have z2 : (((⟨#[36]⟩ : ByteArray) ++ t0) ++ ⟨#[32, 61, 32]⟩).size = 1 + t0.size + 3 := by rw [ByteArray.size_append, z1]; rfl
  have z3 : ((((⟨#[36]⟩ : ByteArray) ++ t0) ++ ⟨#[32, 61, 32]⟩) ++ t1).size = 1 + t0.size + 3 + t1.size := by rw [ByteArray.size_append, z2]
  have z4 : (((((⟨#[36]⟩ : ByteArray) ++ t0) ++ ⟨#[32, 61, 32]⟩) ++ t1) ++ ⟨#[59]⟩).size = 1 + t0.size + 3 + t1.size + 1 := by rw [ByteArray.size_append, z3]; rfl
  go_enter Tryz.func31, Tryz.ntmps31
  go_wp2_with fail
  refine (C0.out _ hTW hXW.1 B).mono ?_; rintro e w1 ⟨rfl, hHeld⟩
  have cb := (B.keep hHeld).cell
  go_wp2_with fail
  refine (C1.out _ (hTW.keep hHeld) ((hXW.1.below hHeld (Nat.le_refl _)).more (Nat.le_refl _) hHeld.size) (B.keep hHeld)).mono ?_; rintro e w2 ⟨rfl, b2⟩
  go_wp2_with fail
  go_ret
  exact ⟨ret_str HE.out.symm, bl_trans L0 (bl_trans hHeld b2)⟩

set_option maxRecDepth 20000 in
set_option maxHeartbeats 4000000 in
theorem iStx_5 (K : Nat) (zs zt : ByteArray) (x : Fr (Int × Int × ByteArray)) (p q : St) (X : Option Addr) (cx : Nat) (P : Option Addr) (cp : Nat) (Q : Option Addr) (cq : Nat) (w : World) (hK : x.size + p.size + q.size ≤ K) (hl : x.size + p.size + q.size ≤ 1048576) (hwt : zs.size + zt.size + wt gExpr x + wtS gExpr p + wtS gExpr q ≤ 1048576) (hh : headS 5 zs zt x p.len q.len = true) (ht : termsB x = true) (hq : StOk qSmS qSmE p ∧ StOk qSmS qSmE q ∧ FrOk qSmE x) (hT : Tab w) (hX : Tri w 0 w.heap.size X x P p Q q) (ih : ∀ (zk : Int) (zs zt : ByteArray) (x : Fr (Int × Int × ByteArray)) (p q : St) (X : Option Addr) (cx : Nat) (P : Option Addr) (cp : Nat) (Q : Option Addr) (cq : Nat), x.size + p.size + q.size < K → zs.size + zt.size + wt gExpr x + wtS gExpr p + wtS gExpr q ≤ 1048576 → StOk qSmS qSmE p ∧ StOk qSmS qSmE q ∧ FrOk qSmE x → ∀ (w : World), Tab w → Tri w 0 w.heap.size X x P p Q q → Calls Tryz.prog 14 #[.agg #[.int .i64 zk, .string zs, .string zt, .slice X x.len cx, .slice P p.len cp, .slice Q q.len cq]] w fun e w' => e = .returned (.string (stO (zk, zs, zt) x p q)) ∧ Below w.heap.size w w') :
    Calls Tryz.prog 31 #[.agg #[.int .i64 5, .string zs, .string zt, .slice X x.len cx, .slice P p.len cp, .slice Q q.len cq]] w fun e w' => e = .returned (.string (stx (5, zs, zt) (rowX x) (blkT (rowO p)) (blkT (rowO q)) (decide (0 < q.len)))) ∧ Below w.heap.size w w' := by
  have B := Blk.new w 40 #[.int .i64 5, .string zs, .string zt, .slice X x.len cx, .slice P p.len cp, .slice Q q.len cq]
  have L0 := bl_alloc (Below.refl w.heap.size w) (.cells #[.int .i64 5, .string zs, .string zt, .slice X x.len cx, .slice P p.len cp, .slice Q q.len cq] 40)
  have hTW := hT.keep L0
  have hXW := (hX.below L0 (Nat.le_refl _)).more (Nat.le_refl _) L0.size
  have hok := termsB_ok x ht
  have _ := hK
  have _ := hq
  have _ := hh
  have _ := ih
  have _ := hl
  have _ := hwt
  have hlen : x.len = 1 := by
    rw [headS_5] at hh
    simp at hh
    omega
  have c0 := fun w' hT' hX' hB' => iOne w.heap.size 0 5 zs zt x p q X cx P cp Q cq w' (by omega) hok (by omega) (by omega) hT' hX' hB'
  have ht0 : ((rowX x).getD 0 ⟨#[]⟩).size ≤ 70000000 := by
    have g1 := getX_two (rowX x)
    have g2 := lenX_wt x
    omega
  have cP := fun w' hT' hS' => iBlock K p P cp w' (by omega) (by omega) (by omega) hq.1 hT' hS' ih
  have htP := blki_size (s := p) (by omega)
  have cQ := fun w' hT' hS' => iBlock K q Q cq w' (by omega) (by omega) (by omega) hq.2.1 hT' hS' ih
  have htQ := blki_size (s := q) (by omega)
  have HE0 := Lib.hid (show stx (5, zs, zt) (rowX x) (blkT (rowO p)) (blkT (rowO q)) false = ((((⟨#[105, 102, 32, 40]⟩ : ByteArray) ++ ((rowX x).getD 0 ⟨#[]⟩)) ++ ⟨#[41, 32]⟩) ++ (blkT (rowO p))) from rfl)
  have HE1 := Lib.hid (show stx (5, zs, zt) (rowX x) (blkT (rowO p)) (blkT (rowO q)) true = (((⟨#[105, 102, 32, 40]⟩ ++ (rowX x).getD 0 ⟨#[]⟩) ++ ⟨#[41, 32]⟩) ++ blkT (rowO p)) ++ (⟨#[32, 101, 108, 115, 101, 32]⟩ ++ blkT (rowO q)) from by rw [← ByteArray.append_assoc]; rfl)
  generalize (rowX x).getD 0 ⟨#[]⟩ = t0 at c0 ht0 HE0 HE1
  generalize blkT (rowO p) = tP at cP htP HE0 HE1
  generalize blkT (rowO q) = tQ at cQ htQ HE0 HE1
  have C0 := Lib.hid c0
  clear c0
  have CP := Lib.hid cP
  clear cP
  have CQ := Lib.hid cQ
  clear cQ
  clear ih hh hok hlen
  have z1 : ((⟨#[105, 102, 32, 40]⟩ : ByteArray) ++ t0).size = 4 + t0.size := by rw [ByteArray.size_append]; rfl
  have z2 : (((⟨#[105, 102, 32, 40]⟩ : ByteArray) ++ t0) ++ ⟨#[41, 32]⟩).size = 4 + t0.size + 2 := by rw [ByteArray.size_append, z1]; rfl
  have z3 : ((((⟨#[105, 102, 32, 40]⟩ : ByteArray) ++ t0) ++ ⟨#[41, 32]⟩) ++ tP).size = 4 + t0.size + 2 + tP.size := by rw [ByteArray.size_append, z2]
  have y1 : (⟨#[32, 101, 108, 115, 101, 32]⟩ ++ tQ).size = 6 + tQ.size := by rw [ByteArray.size_append]; rfl
  have y2 : (((((⟨#[105, 102, 32, 40]⟩ : ByteArray) ++ t0) ++ ⟨#[41, 32]⟩) ++ tP) ++ (⟨#[32, 101, 108, 115, 101, 32]⟩ ++ tQ)).size = 4 + t0.size + 2 + tP.size + (6 + tQ.size) := by rw [ByteArray.size_append, z3, y1]
  go_enter Tryz.func31, Tryz.ntmps31
  go_wp2_with fail
  refine wp_region_held_drew (S := (fun y => Below (w.alloc (.cells #[.int .i64 5, .string zs, .string zt, .slice X x.len cx, .slice P p.len cp, .slice Q q.len cq] 40)).heap.size (w.alloc (.cells #[.int .i64 5, .string zs, .string zt, .slice X x.len cx, .slice P p.len cp, .slice Q q.len cq] 40)) y)) (by kernel_rfl) ?_ (fun hHeld => ?_)
  · exact (Below.refl _ _).drew
  refine wpAnyH_take (i := 0) (oi := ⟨some 49, _, _, _, _, _⟩) (v := ?_) rfl (by kernel_rfl) (by kernel_rfl) (by kernel_rfl) (fun _ _ _ h => h) (Or.inl ⟨by rfl, ?_⟩) (by assumption) ?_
  case refine_2 => (intro w hSw; skip; go_simp; first | done | with_reducible rfl)
  simp only [Act.put, qA, qB, qC]
  refine wpAnyH_take (i := 4) (oi := ⟨some 53, _, _, _, _, _⟩) (v := ?_) rfl (by kernel_rfl) (by kernel_rfl) (by kernel_rfl) (fun _ _ _ h => h) (Or.inl ⟨by rfl, ?_⟩) (by assumption) ?_
  case refine_2 => (intro w hSw; skip; go_simp; first | done | with_reducible rfl)
  simp only [Act.put, qA, qB, qC]
  refine wpAnyH_take (i := 5) (oi := ⟨some 54, _, _, _, _, _⟩) (v := ?_) rfl (by kernel_rfl) (by kernel_rfl) (by kernel_rfl) (fun _ _ _ h => h) (Or.inl ⟨by rfl, ?_⟩) (by assumption) ?_
  case refine_2 => (intro w hSw; have p := (B.keep hSw).cell; go_simp; first | done | with_reducible rfl)
  simp only [Act.put, qA, qB, qC]
  refine wpAnyH_ready (rs := [1]) (by kernel_rfl) (by simp) ?_
  refine AllReadyH.cons (o := ⟨some 50, _, _, _, _, _⟩) rfl (fun K hK => ?_) AllReadyH.nil
  go_simp
  refine (C0.out _ (hTW.keep hHeld) ((hXW.1.below hHeld (Nat.le_refl _)).more (Nat.le_refl _) hHeld.size) (B.keep hHeld)).mono ?_; rintro e y0_ ⟨rfl, by0⟩
  go_wp2_with fail
  refine hK.out _ _ (bl_trans hHeld by0) (fun hHeld => ?_)
  clear hK K
  try simp only [Act.put, qA, qB, qC]
  refine wpAnyH_take (i := 2) (oi := ⟨some 51, _, _, _, _, _⟩) (v := ?_) rfl (by kernel_rfl) (by kernel_rfl) (by kernel_rfl) (fun _ _ _ h => h) (Or.inl ⟨by rfl, ?_⟩) (by assumption) ?_
  case refine_2 => (intro w hSw; skip; go_simp; (try rw [if_neg (by omega)]); first | done | with_reducible rfl)
  simp only [Act.put, qA, qB, qC]
  refine wpAnyH_take (i := 3) (oi := ⟨some 52, _, _, _, _, _⟩) (v := ?_) rfl (by kernel_rfl) (by kernel_rfl) (by kernel_rfl) (fun _ _ _ h => h) (Or.inl ⟨by rfl, ?_⟩) (by assumption) ?_
  case refine_2 => (intro w hSw; skip; go_simp; (try rw [if_neg (by omega)]); first | done | with_reducible rfl)
  simp only [Act.put, qA, qB, qC]
  refine wpAnyH_ready (rs := [6]) (by kernel_rfl) (by simp) ?_
  refine AllReadyH.cons (o := ⟨some 55, _, _, _, _, _⟩) rfl (fun K hK => ?_) AllReadyH.nil
  go_simp
  refine (CP.out _ (hTW.keep hHeld) ((hXW.2.1.below hHeld (Nat.le_refl _)).more (Nat.le_refl _) hHeld.size)).mono ?_; rintro e y1_ ⟨rfl, by1⟩
  go_wp2_with fail
  refine hK.out _ _ (bl_trans hHeld by1) (fun hHeld => ?_)
  clear hK K
  try simp only [Act.put, qA, qB, qC]
  refine wpAnyH_take (i := 7) (oi := ⟨some 56, _, _, _, _, _⟩) (v := ?_) rfl (by kernel_rfl) (by kernel_rfl) (by kernel_rfl) (fun _ _ _ h => h) (Or.inl ⟨by rfl, ?_⟩) (by assumption) ?_
  case refine_2 => (intro w hSw; skip; go_simp; (try rw [if_neg (by omega)]); first | done | with_reducible rfl)
  simp only [Act.put, qA, qB, qC]
  refine wpAnyH_take (i := 8) (oi := ⟨some 4, _, _, _, _, _⟩) (v := ?_) rfl (by kernel_rfl) (by kernel_rfl) (by kernel_rfl) (fun _ _ _ h => h) (Or.inl ⟨by rfl, ?_⟩) (by assumption) ?_
  case refine_2 => (intro w hSw; skip; go_simp; first | done | with_reducible rfl)
  simp only [Act.put, qA, qB, qC]
  refine wpAnyH_done (by kernel_rfl) ?_ _
  have cb5 := (B.keep hHeld).cell
  by_cases hq0 : 0 < q.len
  · have hq1 : (0 : Int) < (q.len : Int) := by omega
    have HD := Lib.hid (show decide (0 < q.len) = true from decide_eq_true hq0)
    clear hq0
    go_wp2_with fail
    refine (CQ.out _ (hTW.keep hHeld) ((hXW.2.2.below hHeld (Nat.le_refl _)).more (Nat.le_refl _) hHeld.size)).mono ?_; rintro e u9 ⟨rfl, b9⟩
    go_wp2_with fail
    go_ret
    exact ⟨ret_str (by first | rw [HD.out, HE1.out] | rw [HE1.out]), bl_trans L0 (bl_trans hHeld b9)⟩
  · have HD := Lib.hid (show decide (0 < q.len) = false from decide_eq_false hq0)
    have hq1 : ¬ (0 : Int) < (q.len : Int) := by omega
    skip
    clear hq0
    go_wp2_with fail
    go_ret
    exact ⟨ret_str (by first | rw [HD.out, HE0.out] | rw [HE0.out]), bl_trans L0 hHeld⟩

set_option maxRecDepth 20000 in
set_option maxHeartbeats 4000000 in
theorem iStx_6 (K : Nat) (zs zt : ByteArray) (x : Fr (Int × Int × ByteArray)) (p q : St) (X : Option Addr) (cx : Nat) (P : Option Addr) (cp : Nat) (Q : Option Addr) (cq : Nat) (w : World) (hK : x.size + p.size + q.size ≤ K) (hl : x.size + p.size + q.size ≤ 1048576) (hwt : zs.size + zt.size + wt gExpr x + wtS gExpr p + wtS gExpr q ≤ 1048576) (hh : headS 6 zs zt x p.len q.len = true) (ht : termsB x = true) (hq : StOk qSmS qSmE p ∧ StOk qSmS qSmE q ∧ FrOk qSmE x) (hT : Tab w) (hX : Tri w 0 w.heap.size X x P p Q q) (ih : ∀ (zk : Int) (zs zt : ByteArray) (x : Fr (Int × Int × ByteArray)) (p q : St) (X : Option Addr) (cx : Nat) (P : Option Addr) (cp : Nat) (Q : Option Addr) (cq : Nat), x.size + p.size + q.size < K → zs.size + zt.size + wt gExpr x + wtS gExpr p + wtS gExpr q ≤ 1048576 → StOk qSmS qSmE p ∧ StOk qSmS qSmE q ∧ FrOk qSmE x → ∀ (w : World), Tab w → Tri w 0 w.heap.size X x P p Q q → Calls Tryz.prog 14 #[.agg #[.int .i64 zk, .string zs, .string zt, .slice X x.len cx, .slice P p.len cp, .slice Q q.len cq]] w fun e w' => e = .returned (.string (stO (zk, zs, zt) x p q)) ∧ Below w.heap.size w w') :
    Calls Tryz.prog 31 #[.agg #[.int .i64 6, .string zs, .string zt, .slice X x.len cx, .slice P p.len cp, .slice Q q.len cq]] w fun e w' => e = .returned (.string (stx (6, zs, zt) (rowX x) (blkT (rowO p)) (blkT (rowO q)) (decide (0 < q.len)))) ∧ Below w.heap.size w w' := by
  have B := Blk.new w 40 #[.int .i64 6, .string zs, .string zt, .slice X x.len cx, .slice P p.len cp, .slice Q q.len cq]
  have L0 := bl_alloc (Below.refl w.heap.size w) (.cells #[.int .i64 6, .string zs, .string zt, .slice X x.len cx, .slice P p.len cp, .slice Q q.len cq] 40)
  have hTW := hT.keep L0
  have hXW := (hX.below L0 (Nat.le_refl _)).more (Nat.le_refl _) L0.size
  have hok := termsB_ok x ht
  have _ := hK
  have _ := hq
  have _ := hh
  have _ := ih
  have _ := hl
  have _ := hwt
  have hlen : x.len = 1 := by
    rw [headS_6] at hh
    simp at hh
    omega
  have c0 := fun w' hT' hX' hB' => iOne w.heap.size 0 6 zs zt x p q X cx P cp Q cq w' (by omega) hok (by omega) (by omega) hT' hX' hB'
  have ht0 : ((rowX x).getD 0 ⟨#[]⟩).size ≤ 70000000 := by
    have g1 := getX_two (rowX x)
    have g2 := lenX_wt x
    omega
  have cP := fun w' hT' hS' => iBlock K p P cp w' (by omega) (by omega) (by omega) hq.1 hT' hS' ih
  have htP := blki_size (s := p) (by omega)
  have HE := Lib.hid (show stx (6, zs, zt) (rowX x) (blkT (rowO p)) (blkT (rowO q)) (decide (0 < q.len)) = ((((⟨#[119, 104, 105, 108, 101, 32, 40]⟩ : ByteArray) ++ ((rowX x).getD 0 ⟨#[]⟩)) ++ ⟨#[41, 32]⟩) ++ (blkT (rowO p))) from rfl)
  generalize (rowX x).getD 0 ⟨#[]⟩ = t0 at c0 ht0 HE
  generalize blkT (rowO p) = tP at cP htP HE
  have C0 := Lib.hid c0
  clear c0
  have CP := Lib.hid cP
  clear cP
  clear ih hh hok hlen
  have z1 : ((⟨#[119, 104, 105, 108, 101, 32, 40]⟩ : ByteArray) ++ t0).size = 7 + t0.size := by rw [ByteArray.size_append]; rfl
  have z2 : (((⟨#[119, 104, 105, 108, 101, 32, 40]⟩ : ByteArray) ++ t0) ++ ⟨#[41, 32]⟩).size = 7 + t0.size + 2 := by rw [ByteArray.size_append, z1]; rfl
  have z3 : ((((⟨#[119, 104, 105, 108, 101, 32, 40]⟩ : ByteArray) ++ t0) ++ ⟨#[41, 32]⟩) ++ tP).size = 7 + t0.size + 2 + tP.size := by rw [ByteArray.size_append, z2]
  go_enter Tryz.func31, Tryz.ntmps31
  go_wp2_with fail
  refine wp_region_held_drew (S := (fun y => Below (w.alloc (.cells #[.int .i64 6, .string zs, .string zt, .slice X x.len cx, .slice P p.len cp, .slice Q q.len cq] 40)).heap.size (w.alloc (.cells #[.int .i64 6, .string zs, .string zt, .slice X x.len cx, .slice P p.len cp, .slice Q q.len cq] 40)) y)) (by kernel_rfl) ?_ (fun hHeld => ?_)
  · exact (Below.refl _ _).drew
  refine wpAnyH_take (i := 0) (oi := ⟨some 70, _, _, _, _, _⟩) (v := ?_) rfl (by kernel_rfl) (by kernel_rfl) (by kernel_rfl) (fun _ _ _ h => h) (Or.inl ⟨by rfl, ?_⟩) (by assumption) ?_
  case refine_2 => (intro w hSw; skip; go_simp; first | done | with_reducible rfl)
  simp only [Act.put, qA, qB, qC]
  refine wpAnyH_take (i := 4) (oi := ⟨some 74, _, _, _, _, _⟩) (v := ?_) rfl (by kernel_rfl) (by kernel_rfl) (by kernel_rfl) (fun _ _ _ h => h) (Or.inl ⟨by rfl, ?_⟩) (by assumption) ?_
  case refine_2 => (intro w hSw; skip; go_simp; first | done | with_reducible rfl)
  simp only [Act.put, qA, qB, qC]
  refine wpAnyH_take (i := 5) (oi := ⟨some 75, _, _, _, _, _⟩) (v := ?_) rfl (by kernel_rfl) (by kernel_rfl) (by kernel_rfl) (fun _ _ _ h => h) (Or.inl ⟨by rfl, ?_⟩) (by assumption) ?_
  case refine_2 => (intro w hSw; have p := (B.keep hSw).cell; go_simp; first | done | with_reducible rfl)
  simp only [Act.put, qA, qB, qC]
  refine wpAnyH_ready (rs := [1]) (by kernel_rfl) (by simp) ?_
  refine AllReadyH.cons (o := ⟨some 71, _, _, _, _, _⟩) rfl (fun K hK => ?_) AllReadyH.nil
  go_simp
  refine (C0.out _ (hTW.keep hHeld) ((hXW.1.below hHeld (Nat.le_refl _)).more (Nat.le_refl _) hHeld.size) (B.keep hHeld)).mono ?_; rintro e y0_ ⟨rfl, by0⟩
  go_wp2_with fail
  refine hK.out _ _ (bl_trans hHeld by0) (fun hHeld => ?_)
  clear hK K
  try simp only [Act.put, qA, qB, qC]
  refine wpAnyH_take (i := 2) (oi := ⟨some 72, _, _, _, _, _⟩) (v := ?_) rfl (by kernel_rfl) (by kernel_rfl) (by kernel_rfl) (fun _ _ _ h => h) (Or.inl ⟨by rfl, ?_⟩) (by assumption) ?_
  case refine_2 => (intro w hSw; skip; go_simp; (try rw [if_neg (by omega)]); first | done | with_reducible rfl)
  simp only [Act.put, qA, qB, qC]
  refine wpAnyH_take (i := 3) (oi := ⟨some 73, _, _, _, _, _⟩) (v := ?_) rfl (by kernel_rfl) (by kernel_rfl) (by kernel_rfl) (fun _ _ _ h => h) (Or.inl ⟨by rfl, ?_⟩) (by assumption) ?_
  case refine_2 => (intro w hSw; skip; go_simp; (try rw [if_neg (by omega)]); first | done | with_reducible rfl)
  simp only [Act.put, qA, qB, qC]
  refine wpAnyH_ready (rs := [6]) (by kernel_rfl) (by simp) ?_
  refine AllReadyH.cons (o := ⟨some 76, _, _, _, _, _⟩) rfl (fun K hK => ?_) AllReadyH.nil
  go_simp
  refine (CP.out _ (hTW.keep hHeld) ((hXW.2.1.below hHeld (Nat.le_refl _)).more (Nat.le_refl _) hHeld.size)).mono ?_; rintro e y1_ ⟨rfl, by1⟩
  go_wp2_with fail
  refine hK.out _ _ (bl_trans hHeld by1) (fun hHeld => ?_)
  clear hK K
  try simp only [Act.put, qA, qB, qC]
  refine wpAnyH_take (i := 7) (oi := ⟨some 77, _, _, _, _, _⟩) (v := ?_) rfl (by kernel_rfl) (by kernel_rfl) (by kernel_rfl) (fun _ _ _ h => h) (Or.inl ⟨by rfl, ?_⟩) (by assumption) ?_
  case refine_2 => (intro w hSw; skip; go_simp; (try rw [if_neg (by omega)]); first | done | with_reducible rfl)
  simp only [Act.put, qA, qB, qC]
  refine wpAnyH_take (i := 8) (oi := ⟨some 2, _, _, _, _, _⟩) (v := ?_) rfl (by kernel_rfl) (by kernel_rfl) (by kernel_rfl) (fun _ _ _ h => h) (Or.inl ⟨by rfl, ?_⟩) (by assumption) ?_
  case refine_2 => (intro w hSw; skip; go_simp; first | done | with_reducible rfl)
  simp only [Act.put, qA, qB, qC]
  refine wpAnyH_done (by kernel_rfl) ?_ _
  go_wp2_with fail
  go_ret
  exact ⟨ret_str HE.out.symm, bl_trans L0 hHeld⟩

set_option maxRecDepth 20000 in
set_option maxHeartbeats 4000000 in
theorem iStx_7 (K : Nat) (zs zt : ByteArray) (x : Fr (Int × Int × ByteArray)) (p q : St) (X : Option Addr) (cx : Nat) (P : Option Addr) (cp : Nat) (Q : Option Addr) (cq : Nat) (w : World) (hK : x.size + p.size + q.size ≤ K) (hl : x.size + p.size + q.size ≤ 1048576) (hwt : zs.size + zt.size + wt gExpr x + wtS gExpr p + wtS gExpr q ≤ 1048576) (hh : headS 7 zs zt x p.len q.len = true) (ht : termsB x = true) (hq : StOk qSmS qSmE p ∧ StOk qSmS qSmE q ∧ FrOk qSmE x) (hT : Tab w) (hX : Tri w 0 w.heap.size X x P p Q q) (ih : ∀ (zk : Int) (zs zt : ByteArray) (x : Fr (Int × Int × ByteArray)) (p q : St) (X : Option Addr) (cx : Nat) (P : Option Addr) (cp : Nat) (Q : Option Addr) (cq : Nat), x.size + p.size + q.size < K → zs.size + zt.size + wt gExpr x + wtS gExpr p + wtS gExpr q ≤ 1048576 → StOk qSmS qSmE p ∧ StOk qSmS qSmE q ∧ FrOk qSmE x → ∀ (w : World), Tab w → Tri w 0 w.heap.size X x P p Q q → Calls Tryz.prog 14 #[.agg #[.int .i64 zk, .string zs, .string zt, .slice X x.len cx, .slice P p.len cp, .slice Q q.len cq]] w fun e w' => e = .returned (.string (stO (zk, zs, zt) x p q)) ∧ Below w.heap.size w w') :
    Calls Tryz.prog 31 #[.agg #[.int .i64 7, .string zs, .string zt, .slice X x.len cx, .slice P p.len cp, .slice Q q.len cq]] w fun e w' => e = .returned (.string (stx (7, zs, zt) (rowX x) (blkT (rowO p)) (blkT (rowO q)) (decide (0 < q.len)))) ∧ Below w.heap.size w w' := by
  have B := Blk.new w 40 #[.int .i64 7, .string zs, .string zt, .slice X x.len cx, .slice P p.len cp, .slice Q q.len cq]
  have L0 := bl_alloc (Below.refl w.heap.size w) (.cells #[.int .i64 7, .string zs, .string zt, .slice X x.len cx, .slice P p.len cp, .slice Q q.len cq] 40)
  have hTW := hT.keep L0
  have hXW := (hX.below L0 (Nat.le_refl _)).more (Nat.le_refl _) L0.size
  have hok := termsB_ok x ht
  have _ := hK
  have _ := hq
  have _ := hh
  have _ := ih
  have _ := hl
  have _ := hwt
  have cP := fun w' hT' hS' => iBlock K p P cp w' (by omega) (by omega) (by omega) hq.1 hT' hS' ih
  have htP := blki_size (s := p) (by omega)
  have HE := Lib.hid (show stx (7, zs, zt) (rowX x) (blkT (rowO p)) (blkT (rowO q)) (decide (0 < q.len)) = ((((((⟨#[102, 111, 114, 32, 40]⟩ : ByteArray) ++ zs) ++ ⟨#[32, 105, 110, 32]⟩) ++ zt) ++ ⟨#[41, 32]⟩) ++ (blkT (rowO p))) from rfl)
  generalize blkT (rowO p) = tP at cP htP HE
  have CP := Lib.hid cP
  clear cP
  clear ih hh hok
  have z1 : ((⟨#[102, 111, 114, 32, 40]⟩ : ByteArray) ++ zs).size = 5 + zs.size := by rw [ByteArray.size_append]; rfl
  have z2 : (((⟨#[102, 111, 114, 32, 40]⟩ : ByteArray) ++ zs) ++ ⟨#[32, 105, 110, 32]⟩).size = 5 + zs.size + 4 := by rw [ByteArray.size_append, z1]; rfl
  have z3 : ((((⟨#[102, 111, 114, 32, 40]⟩ : ByteArray) ++ zs) ++ ⟨#[32, 105, 110, 32]⟩) ++ zt).size = 5 + zs.size + 4 + zt.size := by rw [ByteArray.size_append, z2]
  have z4 : (((((⟨#[102, 111, 114, 32, 40]⟩ : ByteArray) ++ zs) ++ ⟨#[32, 105, 110, 32]⟩) ++ zt) ++ ⟨#[41, 32]⟩).size = 5 + zs.size + 4 + zt.size + 2 := by rw [ByteArray.size_append, z3]; rfl
  have z5 : ((((((⟨#[102, 111, 114, 32, 40]⟩ : ByteArray) ++ zs) ++ ⟨#[32, 105, 110, 32]⟩) ++ zt) ++ ⟨#[41, 32]⟩) ++ tP).size = 5 + zs.size + 4 + zt.size + 2 + tP.size := by rw [ByteArray.size_append, z4]
  go_enter Tryz.func31, Tryz.ntmps31
  go_wp2_with fail
  refine wp_region_held_drew (S := (fun y => Below (w.alloc (.cells #[.int .i64 7, .string zs, .string zt, .slice X x.len cx, .slice P p.len cp, .slice Q q.len cq] 40)).heap.size (w.alloc (.cells #[.int .i64 7, .string zs, .string zt, .slice X x.len cx, .slice P p.len cp, .slice Q q.len cq] 40)) y)) (by kernel_rfl) ?_ (fun hHeld => ?_)
  · exact (Below.refl _ _).drew
  refine wpAnyH_take (i := 0) (oi := ⟨some 80, _, _, _, _, _⟩) (v := ?_) rfl (by kernel_rfl) (by kernel_rfl) (by kernel_rfl) (fun _ _ _ h => h) (Or.inl ⟨by rfl, ?_⟩) (by assumption) ?_
  case refine_2 => (intro w hSw; skip; go_simp; first | done | with_reducible rfl)
  simp only [Act.put, qA, qB, qC]
  refine wpAnyH_take (i := 1) (oi := ⟨some 81, _, _, _, _, _⟩) (v := ?_) rfl (by kernel_rfl) (by kernel_rfl) (by kernel_rfl) (fun _ _ _ h => h) (Or.inl ⟨by rfl, ?_⟩) (by assumption) ?_
  case refine_2 => (intro w hSw; have p := (B.keep hSw).cell; go_simp; first | done | with_reducible rfl)
  simp only [Act.put, qA, qB, qC]
  refine wpAnyH_take (i := 2) (oi := ⟨some 82, _, _, _, _, _⟩) (v := ?_) rfl (by kernel_rfl) (by kernel_rfl) (by kernel_rfl) (fun _ _ _ h => h) (Or.inl ⟨by rfl, ?_⟩) (by assumption) ?_
  case refine_2 => (intro w hSw; skip; go_simp; (try rw [if_neg (by omega)]); first | done | with_reducible rfl)
  simp only [Act.put, qA, qB, qC]
  refine wpAnyH_take (i := 3) (oi := ⟨some 83, _, _, _, _, _⟩) (v := ?_) rfl (by kernel_rfl) (by kernel_rfl) (by kernel_rfl) (fun _ _ _ h => h) (Or.inl ⟨by rfl, ?_⟩) (by assumption) ?_
  case refine_2 => (intro w hSw; skip; go_simp; (try rw [if_neg (by omega)]); first | done | with_reducible rfl)
  simp only [Act.put, qA, qB, qC]
  refine wpAnyH_take (i := 4) (oi := ⟨some 84, _, _, _, _, _⟩) (v := ?_) rfl (by kernel_rfl) (by kernel_rfl) (by kernel_rfl) (fun _ _ _ h => h) (Or.inl ⟨by rfl, ?_⟩) (by assumption) ?_
  case refine_2 => (intro w hSw; skip; go_simp; first | done | with_reducible rfl)
  simp only [Act.put, qA, qB, qC]
  refine wpAnyH_take (i := 5) (oi := ⟨some 85, _, _, _, _, _⟩) (v := ?_) rfl (by kernel_rfl) (by kernel_rfl) (by kernel_rfl) (fun _ _ _ h => h) (Or.inl ⟨by rfl, ?_⟩) (by assumption) ?_
  case refine_2 => (intro w hSw; have p := (B.keep hSw).cell; go_simp; first | done | with_reducible rfl)
  simp only [Act.put, qA, qB, qC]
  refine wpAnyH_take (i := 6) (oi := ⟨some 86, _, _, _, _, _⟩) (v := ?_) rfl (by kernel_rfl) (by kernel_rfl) (by kernel_rfl) (fun _ _ _ h => h) (Or.inl ⟨by rfl, ?_⟩) (by assumption) ?_
  case refine_2 => (intro w hSw; skip; go_simp; (try rw [if_neg (by omega)]); first | done | with_reducible rfl)
  simp only [Act.put, qA, qB, qC]
  refine wpAnyH_take (i := 7) (oi := ⟨some 87, _, _, _, _, _⟩) (v := ?_) rfl (by kernel_rfl) (by kernel_rfl) (by kernel_rfl) (fun _ _ _ h => h) (Or.inl ⟨by rfl, ?_⟩) (by assumption) ?_
  case refine_2 => (intro w hSw; skip; go_simp; (try rw [if_neg (by omega)]); first | done | with_reducible rfl)
  simp only [Act.put, qA, qB, qC]
  refine wpAnyH_take (i := 8) (oi := ⟨some 88, _, _, _, _, _⟩) (v := ?_) rfl (by kernel_rfl) (by kernel_rfl) (by kernel_rfl) (fun _ _ _ h => h) (Or.inl ⟨by rfl, ?_⟩) (by assumption) ?_
  case refine_2 => (intro w hSw; skip; go_simp; first | done | with_reducible rfl)
  simp only [Act.put, qA, qB, qC]
  refine wpAnyH_take (i := 9) (oi := ⟨some 89, _, _, _, _, _⟩) (v := ?_) rfl (by kernel_rfl) (by kernel_rfl) (by kernel_rfl) (fun _ _ _ h => h) (Or.inl ⟨by rfl, ?_⟩) (by assumption) ?_
  case refine_2 => (intro w hSw; have p := (B.keep hSw).cell; go_simp; first | done | with_reducible rfl)
  simp only [Act.put, qA, qB, qC]
  refine wpAnyH_ready (rs := [10]) (by kernel_rfl) (by simp) ?_
  refine AllReadyH.cons (o := ⟨some 90, _, _, _, _, _⟩) rfl (fun K hK => ?_) AllReadyH.nil
  go_simp
  refine (CP.out _ (hTW.keep hHeld) ((hXW.2.1.below hHeld (Nat.le_refl _)).more (Nat.le_refl _) hHeld.size)).mono ?_; rintro e y0_ ⟨rfl, by0⟩
  go_wp2_with fail
  refine hK.out _ _ (bl_trans hHeld by0) (fun hHeld => ?_)
  clear hK K
  try simp only [Act.put, qA, qB, qC]
  refine wpAnyH_take (i := 11) (oi := ⟨some 91, _, _, _, _, _⟩) (v := ?_) rfl (by kernel_rfl) (by kernel_rfl) (by kernel_rfl) (fun _ _ _ h => h) (Or.inl ⟨by rfl, ?_⟩) (by assumption) ?_
  case refine_2 => (intro w hSw; skip; go_simp; (try rw [if_neg (by omega)]); first | done | with_reducible rfl)
  simp only [Act.put, qA, qB, qC]
  refine wpAnyH_take (i := 12) (oi := ⟨some 2, _, _, _, _, _⟩) (v := ?_) rfl (by kernel_rfl) (by kernel_rfl) (by kernel_rfl) (fun _ _ _ h => h) (Or.inl ⟨by rfl, ?_⟩) (by assumption) ?_
  case refine_2 => (intro w hSw; skip; go_simp; first | done | with_reducible rfl)
  simp only [Act.put, qA, qB, qC]
  refine wpAnyH_done (by kernel_rfl) ?_ _
  go_wp2_with fail
  go_ret
  exact ⟨ret_str HE.out.symm, bl_trans L0 hHeld⟩

set_option maxRecDepth 20000 in
set_option maxHeartbeats 4000000 in
theorem iStx_8 (K : Nat) (zs zt : ByteArray) (x : Fr (Int × Int × ByteArray)) (p q : St) (X : Option Addr) (cx : Nat) (P : Option Addr) (cp : Nat) (Q : Option Addr) (cq : Nat) (w : World) (hK : x.size + p.size + q.size ≤ K) (hl : x.size + p.size + q.size ≤ 1048576) (hwt : zs.size + zt.size + wt gExpr x + wtS gExpr p + wtS gExpr q ≤ 1048576) (hh : headS 8 zs zt x p.len q.len = true) (ht : termsB x = true) (hq : StOk qSmS qSmE p ∧ StOk qSmS qSmE q ∧ FrOk qSmE x) (hT : Tab w) (hX : Tri w 0 w.heap.size X x P p Q q) (ih : ∀ (zk : Int) (zs zt : ByteArray) (x : Fr (Int × Int × ByteArray)) (p q : St) (X : Option Addr) (cx : Nat) (P : Option Addr) (cp : Nat) (Q : Option Addr) (cq : Nat), x.size + p.size + q.size < K → zs.size + zt.size + wt gExpr x + wtS gExpr p + wtS gExpr q ≤ 1048576 → StOk qSmS qSmE p ∧ StOk qSmS qSmE q ∧ FrOk qSmE x → ∀ (w : World), Tab w → Tri w 0 w.heap.size X x P p Q q → Calls Tryz.prog 14 #[.agg #[.int .i64 zk, .string zs, .string zt, .slice X x.len cx, .slice P p.len cp, .slice Q q.len cq]] w fun e w' => e = .returned (.string (stO (zk, zs, zt) x p q)) ∧ Below w.heap.size w w') :
    Calls Tryz.prog 31 #[.agg #[.int .i64 8, .string zs, .string zt, .slice X x.len cx, .slice P p.len cp, .slice Q q.len cq]] w fun e w' => e = .returned (.string (stx (8, zs, zt) (rowX x) (blkT (rowO p)) (blkT (rowO q)) (decide (0 < q.len)))) ∧ Below w.heap.size w w' := by
  have B := Blk.new w 40 #[.int .i64 8, .string zs, .string zt, .slice X x.len cx, .slice P p.len cp, .slice Q q.len cq]
  have L0 := bl_alloc (Below.refl w.heap.size w) (.cells #[.int .i64 8, .string zs, .string zt, .slice X x.len cx, .slice P p.len cp, .slice Q q.len cq] 40)
  have hTW := hT.keep L0
  have hXW := (hX.below L0 (Nat.le_refl _)).more (Nat.le_refl _) L0.size
  have hok := termsB_ok x ht
  have _ := hK
  have _ := hq
  have _ := hh
  have _ := ih
  have _ := hl
  have _ := hwt
  have HE := Lib.hid (show stx (8, zs, zt) (rowX x) (blkT (rowO p)) (blkT (rowO q)) (decide (0 < q.len)) = (⟨#[110, 101, 120, 116, 59]⟩ : ByteArray) from rfl)
  clear ih hh hok
  go_enter Tryz.func31, Tryz.ntmps31
  go_wp2_with fail
  go_ret
  exact ⟨ret_str HE.out.symm, L0⟩

set_option maxRecDepth 20000 in
set_option maxHeartbeats 4000000 in
theorem iStx_9 (K : Nat) (zs zt : ByteArray) (x : Fr (Int × Int × ByteArray)) (p q : St) (X : Option Addr) (cx : Nat) (P : Option Addr) (cp : Nat) (Q : Option Addr) (cq : Nat) (w : World) (hK : x.size + p.size + q.size ≤ K) (hl : x.size + p.size + q.size ≤ 1048576) (hwt : zs.size + zt.size + wt gExpr x + wtS gExpr p + wtS gExpr q ≤ 1048576) (hh : headS 9 zs zt x p.len q.len = true) (ht : termsB x = true) (hq : StOk qSmS qSmE p ∧ StOk qSmS qSmE q ∧ FrOk qSmE x) (hT : Tab w) (hX : Tri w 0 w.heap.size X x P p Q q) (ih : ∀ (zk : Int) (zs zt : ByteArray) (x : Fr (Int × Int × ByteArray)) (p q : St) (X : Option Addr) (cx : Nat) (P : Option Addr) (cp : Nat) (Q : Option Addr) (cq : Nat), x.size + p.size + q.size < K → zs.size + zt.size + wt gExpr x + wtS gExpr p + wtS gExpr q ≤ 1048576 → StOk qSmS qSmE p ∧ StOk qSmS qSmE q ∧ FrOk qSmE x → ∀ (w : World), Tab w → Tri w 0 w.heap.size X x P p Q q → Calls Tryz.prog 14 #[.agg #[.int .i64 zk, .string zs, .string zt, .slice X x.len cx, .slice P p.len cp, .slice Q q.len cq]] w fun e w' => e = .returned (.string (stO (zk, zs, zt) x p q)) ∧ Below w.heap.size w w') :
    Calls Tryz.prog 31 #[.agg #[.int .i64 9, .string zs, .string zt, .slice X x.len cx, .slice P p.len cp, .slice Q q.len cq]] w fun e w' => e = .returned (.string (stx (9, zs, zt) (rowX x) (blkT (rowO p)) (blkT (rowO q)) (decide (0 < q.len)))) ∧ Below w.heap.size w w' := by
  have B := Blk.new w 40 #[.int .i64 9, .string zs, .string zt, .slice X x.len cx, .slice P p.len cp, .slice Q q.len cq]
  have L0 := bl_alloc (Below.refl w.heap.size w) (.cells #[.int .i64 9, .string zs, .string zt, .slice X x.len cx, .slice P p.len cp, .slice Q q.len cq] 40)
  have hTW := hT.keep L0
  have hXW := (hX.below L0 (Nat.le_refl _)).more (Nat.le_refl _) L0.size
  have hok := termsB_ok x ht
  have _ := hK
  have _ := hq
  have _ := hh
  have _ := ih
  have _ := hl
  have _ := hwt
  have hlen : x.len = 1 := by
    rw [headS_9] at hh
    simp at hh
    omega
  have c0 := fun w' hT' hX' hB' => iOne w.heap.size 0 9 zs zt x p q X cx P cp Q cq w' (by omega) hok (by omega) (by omega) hT' hX' hB'
  have ht0 : ((rowX x).getD 0 ⟨#[]⟩).size ≤ 70000000 := by
    have g1 := getX_two (rowX x)
    have g2 := lenX_wt x
    omega
  have HE := Lib.hid (show stx (9, zs, zt) (rowX x) (blkT (rowO p)) (blkT (rowO q)) (decide (0 < q.len)) = (((⟨#[101, 120, 105, 116, 32]⟩ : ByteArray) ++ ((rowX x).getD 0 ⟨#[]⟩)) ++ ⟨#[59]⟩) from rfl)
  generalize (rowX x).getD 0 ⟨#[]⟩ = t0 at c0 ht0 HE
  have C0 := Lib.hid c0
  clear c0
  clear ih hh hok hlen
  have z1 : ((⟨#[101, 120, 105, 116, 32]⟩ : ByteArray) ++ t0).size = 5 + t0.size := by rw [ByteArray.size_append]; rfl
  have z2 : (((⟨#[101, 120, 105, 116, 32]⟩ : ByteArray) ++ t0) ++ ⟨#[59]⟩).size = 5 + t0.size + 1 := by rw [ByteArray.size_append, z1]; rfl
  go_enter Tryz.func31, Tryz.ntmps31
  go_wp2_with fail
  refine (C0.out _ hTW hXW.1 B).mono ?_; rintro e w1 ⟨rfl, hHeld⟩
  have cb := (B.keep hHeld).cell
  go_wp2_with fail
  go_ret
  exact ⟨ret_str HE.out.symm, bl_trans L0 hHeld⟩

set_option maxRecDepth 20000 in
set_option maxHeartbeats 4000000 in
theorem iStx_10 (K : Nat) (zs zt : ByteArray) (x : Fr (Int × Int × ByteArray)) (p q : St) (X : Option Addr) (cx : Nat) (P : Option Addr) (cp : Nat) (Q : Option Addr) (cq : Nat) (w : World) (hK : x.size + p.size + q.size ≤ K) (hl : x.size + p.size + q.size ≤ 1048576) (hwt : zs.size + zt.size + wt gExpr x + wtS gExpr p + wtS gExpr q ≤ 1048576) (hh : headS 10 zs zt x p.len q.len = true) (ht : termsB x = true) (hq : StOk qSmS qSmE p ∧ StOk qSmS qSmE q ∧ FrOk qSmE x) (hT : Tab w) (hX : Tri w 0 w.heap.size X x P p Q q) (ih : ∀ (zk : Int) (zs zt : ByteArray) (x : Fr (Int × Int × ByteArray)) (p q : St) (X : Option Addr) (cx : Nat) (P : Option Addr) (cp : Nat) (Q : Option Addr) (cq : Nat), x.size + p.size + q.size < K → zs.size + zt.size + wt gExpr x + wtS gExpr p + wtS gExpr q ≤ 1048576 → StOk qSmS qSmE p ∧ StOk qSmS qSmE q ∧ FrOk qSmE x → ∀ (w : World), Tab w → Tri w 0 w.heap.size X x P p Q q → Calls Tryz.prog 14 #[.agg #[.int .i64 zk, .string zs, .string zt, .slice X x.len cx, .slice P p.len cp, .slice Q q.len cq]] w fun e w' => e = .returned (.string (stO (zk, zs, zt) x p q)) ∧ Below w.heap.size w w') :
    Calls Tryz.prog 31 #[.agg #[.int .i64 10, .string zs, .string zt, .slice X x.len cx, .slice P p.len cp, .slice Q q.len cq]] w fun e w' => e = .returned (.string (stx (10, zs, zt) (rowX x) (blkT (rowO p)) (blkT (rowO q)) (decide (0 < q.len)))) ∧ Below w.heap.size w w' := by
  have B := Blk.new w 40 #[.int .i64 10, .string zs, .string zt, .slice X x.len cx, .slice P p.len cp, .slice Q q.len cq]
  have L0 := bl_alloc (Below.refl w.heap.size w) (.cells #[.int .i64 10, .string zs, .string zt, .slice X x.len cx, .slice P p.len cp, .slice Q q.len cq] 40)
  have hTW := hT.keep L0
  have hXW := (hX.below L0 (Nat.le_refl _)).more (Nat.le_refl _) L0.size
  have hok := termsB_ok x ht
  have _ := hK
  have _ := hq
  have _ := hh
  have _ := ih
  have _ := hl
  have _ := hwt
  have hlen : x.len = 1 := by
    rw [headS_10] at hh
    simp at hh
    omega
  have c0 := fun w' hT' hX' hB' => iOne w.heap.size 0 10 zs zt x p q X cx P cp Q cq w' (by omega) hok (by omega) (by omega) hT' hX' hB'
  have ht0 : ((rowX x).getD 0 ⟨#[]⟩).size ≤ 70000000 := by
    have g1 := getX_two (rowX x)
    have g2 := lenX_wt x
    omega
  have HE := Lib.hid (show stx (10, zs, zt) (rowX x) (blkT (rowO p)) (blkT (rowO q)) (decide (0 < q.len)) = (((⟨#[114, 101, 116, 117, 114, 110, 32]⟩ : ByteArray) ++ ((rowX x).getD 0 ⟨#[]⟩)) ++ ⟨#[59]⟩) from rfl)
  generalize (rowX x).getD 0 ⟨#[]⟩ = t0 at c0 ht0 HE
  have C0 := Lib.hid c0
  clear c0
  clear ih hh hok hlen
  have z1 : ((⟨#[114, 101, 116, 117, 114, 110, 32]⟩ : ByteArray) ++ t0).size = 7 + t0.size := by rw [ByteArray.size_append]; rfl
  have z2 : (((⟨#[114, 101, 116, 117, 114, 110, 32]⟩ : ByteArray) ++ t0) ++ ⟨#[59]⟩).size = 7 + t0.size + 1 := by rw [ByteArray.size_append, z1]; rfl
  go_enter Tryz.func31, Tryz.ntmps31
  go_wp2_with fail
  refine (C0.out _ hTW hXW.1 B).mono ?_; rintro e w1 ⟨rfl, hHeld⟩
  have cb := (B.keep hHeld).cell
  go_wp2_with fail
  go_ret
  exact ⟨ret_str HE.out.symm, bl_trans L0 hHeld⟩

set_option maxRecDepth 20000 in
set_option maxHeartbeats 4000000 in
theorem iStx_11 (K : Nat) (zs zt : ByteArray) (x : Fr (Int × Int × ByteArray)) (p q : St) (X : Option Addr) (cx : Nat) (P : Option Addr) (cp : Nat) (Q : Option Addr) (cq : Nat) (w : World) (hK : x.size + p.size + q.size ≤ K) (hl : x.size + p.size + q.size ≤ 1048576) (hwt : zs.size + zt.size + wt gExpr x + wtS gExpr p + wtS gExpr q ≤ 1048576) (hh : headS 11 zs zt x p.len q.len = true) (ht : termsB x = true) (hq : StOk qSmS qSmE p ∧ StOk qSmS qSmE q ∧ FrOk qSmE x) (hT : Tab w) (hX : Tri w 0 w.heap.size X x P p Q q) (ih : ∀ (zk : Int) (zs zt : ByteArray) (x : Fr (Int × Int × ByteArray)) (p q : St) (X : Option Addr) (cx : Nat) (P : Option Addr) (cp : Nat) (Q : Option Addr) (cq : Nat), x.size + p.size + q.size < K → zs.size + zt.size + wt gExpr x + wtS gExpr p + wtS gExpr q ≤ 1048576 → StOk qSmS qSmE p ∧ StOk qSmS qSmE q ∧ FrOk qSmE x → ∀ (w : World), Tab w → Tri w 0 w.heap.size X x P p Q q → Calls Tryz.prog 14 #[.agg #[.int .i64 zk, .string zs, .string zt, .slice X x.len cx, .slice P p.len cp, .slice Q q.len cq]] w fun e w' => e = .returned (.string (stO (zk, zs, zt) x p q)) ∧ Below w.heap.size w w') :
    Calls Tryz.prog 31 #[.agg #[.int .i64 11, .string zs, .string zt, .slice X x.len cx, .slice P p.len cp, .slice Q q.len cq]] w fun e w' => e = .returned (.string (stx (11, zs, zt) (rowX x) (blkT (rowO p)) (blkT (rowO q)) (decide (0 < q.len)))) ∧ Below w.heap.size w w' := by
  have B := Blk.new w 40 #[.int .i64 11, .string zs, .string zt, .slice X x.len cx, .slice P p.len cp, .slice Q q.len cq]
  have L0 := bl_alloc (Below.refl w.heap.size w) (.cells #[.int .i64 11, .string zs, .string zt, .slice X x.len cx, .slice P p.len cp, .slice Q q.len cq] 40)
  have hTW := hT.keep L0
  have hXW := (hX.below L0 (Nat.le_refl _)).more (Nat.le_refl _) L0.size
  have hok := termsB_ok x ht
  have _ := hK
  have _ := hq
  have _ := hh
  have _ := ih
  have _ := hl
  have _ := hwt
  have hlen : x.len = 1 := by
    rw [headS_11] at hh
    simp at hh
    omega
  have c0 := fun w' hT' hX' hB' => iOne w.heap.size 0 11 zs zt x p q X cx P cp Q cq w' (by omega) hok (by omega) (by omega) hT' hX' hB'
  have ht0 : ((rowX x).getD 0 ⟨#[]⟩).size ≤ 70000000 := by
    have g1 := getX_two (rowX x)
    have g2 := lenX_wt x
    omega
  have HE := Lib.hid (show stx (11, zs, zt) (rowX x) (blkT (rowO p)) (blkT (rowO q)) (decide (0 < q.len)) = (((((⟨#[100, 101, 108, 101, 116, 101, 32]⟩ : ByteArray) ++ zs) ++ ⟨#[91]⟩) ++ ((rowX x).getD 0 ⟨#[]⟩)) ++ ⟨#[93, 59]⟩) from rfl)
  generalize (rowX x).getD 0 ⟨#[]⟩ = t0 at c0 ht0 HE
  have C0 := Lib.hid c0
  clear c0
  clear ih hh hok hlen
  have z1 : ((⟨#[100, 101, 108, 101, 116, 101, 32]⟩ : ByteArray) ++ zs).size = 7 + zs.size := by rw [ByteArray.size_append]; rfl
  have z2 : (((⟨#[100, 101, 108, 101, 116, 101, 32]⟩ : ByteArray) ++ zs) ++ ⟨#[91]⟩).size = 7 + zs.size + 1 := by rw [ByteArray.size_append, z1]; rfl
  have z3 : ((((⟨#[100, 101, 108, 101, 116, 101, 32]⟩ : ByteArray) ++ zs) ++ ⟨#[91]⟩) ++ t0).size = 7 + zs.size + 1 + t0.size := by rw [ByteArray.size_append, z2]
  have z4 : (((((⟨#[100, 101, 108, 101, 116, 101, 32]⟩ : ByteArray) ++ zs) ++ ⟨#[91]⟩) ++ t0) ++ ⟨#[93, 59]⟩).size = 7 + zs.size + 1 + t0.size + 2 := by rw [ByteArray.size_append, z3]; rfl
  go_enter Tryz.func31, Tryz.ntmps31
  go_wp2_with fail
  refine wp_region_held_drew (S := (fun y => Below (w.alloc (.cells #[.int .i64 11, .string zs, .string zt, .slice X x.len cx, .slice P p.len cp, .slice Q q.len cq] 40)).heap.size (w.alloc (.cells #[.int .i64 11, .string zs, .string zt, .slice X x.len cx, .slice P p.len cp, .slice Q q.len cq] 40)) y)) (by kernel_rfl) ?_ (fun hHeld => ?_)
  · exact (Below.refl _ _).drew
  refine wpAnyH_take (i := 0) (oi := ⟨some 108, _, _, _, _, _⟩) (v := ?_) rfl (by kernel_rfl) (by kernel_rfl) (by kernel_rfl) (fun _ _ _ h => h) (Or.inl ⟨by rfl, ?_⟩) (by assumption) ?_
  case refine_2 => (intro w hSw; skip; go_simp; first | done | with_reducible rfl)
  simp only [Act.put, qA, qB, qC]
  refine wpAnyH_take (i := 1) (oi := ⟨some 109, _, _, _, _, _⟩) (v := ?_) rfl (by kernel_rfl) (by kernel_rfl) (by kernel_rfl) (fun _ _ _ h => h) (Or.inl ⟨by rfl, ?_⟩) (by assumption) ?_
  case refine_2 => (intro w hSw; have p := (B.keep hSw).cell; go_simp; first | done | with_reducible rfl)
  simp only [Act.put, qA, qB, qC]
  refine wpAnyH_take (i := 2) (oi := ⟨some 110, _, _, _, _, _⟩) (v := ?_) rfl (by kernel_rfl) (by kernel_rfl) (by kernel_rfl) (fun _ _ _ h => h) (Or.inl ⟨by rfl, ?_⟩) (by assumption) ?_
  case refine_2 => (intro w hSw; skip; go_simp; (try rw [if_neg (by omega)]); first | done | with_reducible rfl)
  simp only [Act.put, qA, qB, qC]
  refine wpAnyH_take (i := 3) (oi := ⟨some 111, _, _, _, _, _⟩) (v := ?_) rfl (by kernel_rfl) (by kernel_rfl) (by kernel_rfl) (fun _ _ _ h => h) (Or.inl ⟨by rfl, ?_⟩) (by assumption) ?_
  case refine_2 => (intro w hSw; skip; go_simp; (try rw [if_neg (by omega)]); first | done | with_reducible rfl)
  simp only [Act.put, qA, qB, qC]
  refine wpAnyH_take (i := 4) (oi := ⟨some 112, _, _, _, _, _⟩) (v := ?_) rfl (by kernel_rfl) (by kernel_rfl) (by kernel_rfl) (fun _ _ _ h => h) (Or.inl ⟨by rfl, ?_⟩) (by assumption) ?_
  case refine_2 => (intro w hSw; skip; go_simp; first | done | with_reducible rfl)
  simp only [Act.put, qA, qB, qC]
  refine wpAnyH_ready (rs := [5]) (by kernel_rfl) (by simp) ?_
  refine AllReadyH.cons (o := ⟨some 113, _, _, _, _, _⟩) rfl (fun K hK => ?_) AllReadyH.nil
  go_simp
  refine (C0.out _ (hTW.keep hHeld) ((hXW.1.below hHeld (Nat.le_refl _)).more (Nat.le_refl _) hHeld.size) (B.keep hHeld)).mono ?_; rintro e y0_ ⟨rfl, by0⟩
  go_wp2_with fail
  refine hK.out _ _ (bl_trans hHeld by0) (fun hHeld => ?_)
  clear hK K
  try simp only [Act.put, qA, qB, qC]
  refine wpAnyH_take (i := 6) (oi := ⟨some 114, _, _, _, _, _⟩) (v := ?_) rfl (by kernel_rfl) (by kernel_rfl) (by kernel_rfl) (fun _ _ _ h => h) (Or.inl ⟨by rfl, ?_⟩) (by assumption) ?_
  case refine_2 => (intro w hSw; skip; go_simp; (try rw [if_neg (by omega)]); first | done | with_reducible rfl)
  simp only [Act.put, qA, qB, qC]
  refine wpAnyH_take (i := 7) (oi := ⟨some 115, _, _, _, _, _⟩) (v := ?_) rfl (by kernel_rfl) (by kernel_rfl) (by kernel_rfl) (fun _ _ _ h => h) (Or.inl ⟨by rfl, ?_⟩) (by assumption) ?_
  case refine_2 => (intro w hSw; skip; go_simp; (try rw [if_neg (by omega)]); first | done | with_reducible rfl)
  simp only [Act.put, qA, qB, qC]
  refine wpAnyH_take (i := 8) (oi := ⟨some 2, _, _, _, _, _⟩) (v := ?_) rfl (by kernel_rfl) (by kernel_rfl) (by kernel_rfl) (fun _ _ _ h => h) (Or.inl ⟨by rfl, ?_⟩) (by assumption) ?_
  case refine_2 => (intro w hSw; skip; go_simp; first | done | with_reducible rfl)
  simp only [Act.put, qA, qB, qC]
  refine wpAnyH_done (by kernel_rfl) ?_ _
  go_wp2_with fail
  go_ret
  exact ⟨ret_str HE.out.symm, bl_trans L0 hHeld⟩

set_option maxRecDepth 20000 in
set_option maxHeartbeats 4000000 in
theorem iStx_12 (K : Nat) (zs zt : ByteArray) (x : Fr (Int × Int × ByteArray)) (p q : St) (X : Option Addr) (cx : Nat) (P : Option Addr) (cp : Nat) (Q : Option Addr) (cq : Nat) (w : World) (hK : x.size + p.size + q.size ≤ K) (hl : x.size + p.size + q.size ≤ 1048576) (hwt : zs.size + zt.size + wt gExpr x + wtS gExpr p + wtS gExpr q ≤ 1048576) (hh : headS 12 zs zt x p.len q.len = true) (ht : termsB x = true) (hq : StOk qSmS qSmE p ∧ StOk qSmS qSmE q ∧ FrOk qSmE x) (hT : Tab w) (hX : Tri w 0 w.heap.size X x P p Q q) (ih : ∀ (zk : Int) (zs zt : ByteArray) (x : Fr (Int × Int × ByteArray)) (p q : St) (X : Option Addr) (cx : Nat) (P : Option Addr) (cp : Nat) (Q : Option Addr) (cq : Nat), x.size + p.size + q.size < K → zs.size + zt.size + wt gExpr x + wtS gExpr p + wtS gExpr q ≤ 1048576 → StOk qSmS qSmE p ∧ StOk qSmS qSmE q ∧ FrOk qSmE x → ∀ (w : World), Tab w → Tri w 0 w.heap.size X x P p Q q → Calls Tryz.prog 14 #[.agg #[.int .i64 zk, .string zs, .string zt, .slice X x.len cx, .slice P p.len cp, .slice Q q.len cq]] w fun e w' => e = .returned (.string (stO (zk, zs, zt) x p q)) ∧ Below w.heap.size w w') :
    Calls Tryz.prog 31 #[.agg #[.int .i64 12, .string zs, .string zt, .slice X x.len cx, .slice P p.len cp, .slice Q q.len cq]] w fun e w' => e = .returned (.string (stx (12, zs, zt) (rowX x) (blkT (rowO p)) (blkT (rowO q)) (decide (0 < q.len)))) ∧ Below w.heap.size w w' := by
  have B := Blk.new w 40 #[.int .i64 12, .string zs, .string zt, .slice X x.len cx, .slice P p.len cp, .slice Q q.len cq]
  have L0 := bl_alloc (Below.refl w.heap.size w) (.cells #[.int .i64 12, .string zs, .string zt, .slice X x.len cx, .slice P p.len cp, .slice Q q.len cq] 40)
  have hTW := hT.keep L0
  have hXW := (hX.below L0 (Nat.le_refl _)).more (Nat.le_refl _) L0.size
  have hok := termsB_ok x ht
  have _ := hK
  have _ := hq
  have _ := hh
  have _ := ih
  have _ := hl
  have _ := hwt
  have hlen : x.len = 1 := by
    rw [headS_12] at hh
    simp at hh
    omega
  have c0 := fun w' hT' hX' hB' => iOne w.heap.size 0 12 zs zt x p q X cx P cp Q cq w' (by omega) hok (by omega) (by omega) hT' hX' hB'
  have ht0 : ((rowX x).getD 0 ⟨#[]⟩).size ≤ 70000000 := by
    have g1 := getX_two (rowX x)
    have g2 := lenX_wt x
    omega
  have HE := Lib.hid (show stx (12, zs, zt) (rowX x) (blkT (rowO p)) (blkT (rowO q)) (decide (0 < q.len)) = (((rowX x).getD 0 ⟨#[]⟩) ++ ⟨#[59]⟩) from rfl)
  generalize (rowX x).getD 0 ⟨#[]⟩ = t0 at c0 ht0 HE
  have C0 := Lib.hid c0
  clear c0
  clear ih hh hok hlen
  have z1 : (t0 ++ ⟨#[59]⟩).size = t0.size + 1 := by rw [ByteArray.size_append]; rfl
  go_enter Tryz.func31, Tryz.ntmps31
  go_wp2_with fail
  refine (C0.out _ hTW hXW.1 B).mono ?_; rintro e w1 ⟨rfl, hHeld⟩
  have cb := (B.keep hHeld).cell
  go_wp2_with fail
  go_ret
  exact ⟨ret_str HE.out.symm, bl_trans L0 hHeld⟩

theorem iStx (K : Nat) (zk : Int) (zs zt : ByteArray) (x : Fr (Int × Int × ByteArray)) (p q : St) (X : Option Addr) (cx : Nat) (P : Option Addr) (cp : Nat) (Q : Option Addr) (cq : Nat) (w : World) (hK : x.size + p.size + q.size ≤ K) (hl : x.size + p.size + q.size ≤ 1048576) (hwt : zs.size + zt.size + wt gExpr x + wtS gExpr p + wtS gExpr q ≤ 1048576) (hh : headS zk zs zt x p.len q.len = true) (ht : termsB x = true) (hq : StOk qSmS qSmE p ∧ StOk qSmS qSmE q ∧ FrOk qSmE x) (hT : Tab w) (hX : Tri w 0 w.heap.size X x P p Q q) (ih : ∀ (zk : Int) (zs zt : ByteArray) (x : Fr (Int × Int × ByteArray)) (p q : St) (X : Option Addr) (cx : Nat) (P : Option Addr) (cp : Nat) (Q : Option Addr) (cq : Nat), x.size + p.size + q.size < K → zs.size + zt.size + wt gExpr x + wtS gExpr p + wtS gExpr q ≤ 1048576 → StOk qSmS qSmE p ∧ StOk qSmS qSmE q ∧ FrOk qSmE x → ∀ (w : World), Tab w → Tri w 0 w.heap.size X x P p Q q → Calls Tryz.prog 14 #[.agg #[.int .i64 zk, .string zs, .string zt, .slice X x.len cx, .slice P p.len cp, .slice Q q.len cq]] w fun e w' => e = .returned (.string (stO (zk, zs, zt) x p q)) ∧ Below w.heap.size w w') :
    Calls Tryz.prog 31 #[.agg #[.int .i64 zk, .string zs, .string zt, .slice X x.len cx, .slice P p.len cp, .slice Q q.len cq]] w fun e w' => e = .returned (.string (stx (zk, zs, zt) (rowX x) (blkT (rowO p)) (blkT (rowO q)) (decide (0 < q.len)))) ∧ Below w.heap.size w w' := by
  by_cases n1 : zk = 1
  · subst n1; exact iStx_1 K zs zt x p q X cx P cp Q cq w hK hl hwt hh ht hq hT hX ih
  by_cases n2 : zk = 2
  · subst n2; exact iStx_2 K zs zt x p q X cx P cp Q cq w hK hl hwt hh ht hq hT hX ih
  by_cases n3 : zk = 3
  · subst n3; exact iStx_3 K zs zt x p q X cx P cp Q cq w hK hl hwt hh ht hq hT hX ih
  by_cases n4 : zk = 4
  · subst n4; exact iStx_4 K zs zt x p q X cx P cp Q cq w hK hl hwt hh ht hq hT hX ih
  by_cases n5 : zk = 5
  · subst n5; exact iStx_5 K zs zt x p q X cx P cp Q cq w hK hl hwt hh ht hq hT hX ih
  by_cases n6 : zk = 6
  · subst n6; exact iStx_6 K zs zt x p q X cx P cp Q cq w hK hl hwt hh ht hq hT hX ih
  by_cases n7 : zk = 7
  · subst n7; exact iStx_7 K zs zt x p q X cx P cp Q cq w hK hl hwt hh ht hq hT hX ih
  by_cases n8 : zk = 8
  · subst n8; exact iStx_8 K zs zt x p q X cx P cp Q cq w hK hl hwt hh ht hq hT hX ih
  by_cases n9 : zk = 9
  · subst n9; exact iStx_9 K zs zt x p q X cx P cp Q cq w hK hl hwt hh ht hq hT hX ih
  by_cases n10 : zk = 10
  · subst n10; exact iStx_10 K zs zt x p q X cx P cp Q cq w hK hl hwt hh ht hq hT hX ih
  by_cases n11 : zk = 11
  · subst n11; exact iStx_11 K zs zt x p q X cx P cp Q cq w hK hl hwt hh ht hq hT hX ih
  by_cases n12 : zk = 12
  · subst n12; exact iStx_12 K zs zt x p q X cx P cp Q cq w hK hl hwt hh ht hq hT hX ih
  have := headS_none (k := zk) (by intro j hj; simp only [List.mem_cons, List.not_mem_nil, or_false] at hj; rcases hj with rfl | rfl | rfl | rfl | rfl | rfl | rfl | rfl | rfl | rfl | rfl | rfl <;> assumption) zs zt x p.len q.len
  rw [this] at hh
  cases hh

set_option maxHeartbeats 2000000 in
theorem iStmtText_step (K : Nat) (zk : Int) (zs zt : ByteArray) (x : Fr (Int × Int × ByteArray)) (p q : St) (X : Option Addr) (cx : Nat) (P : Option Addr) (cp : Nat) (Q : Option Addr) (cq : Nat) (w : World) (hK : x.size + p.size + q.size ≤ K) (hl : x.size + p.size + q.size ≤ 1048576) (hwt : zs.size + zt.size + wt gExpr x + wtS gExpr p + wtS gExpr q ≤ 1048576) (hq : StOk qSmS qSmE p ∧ StOk qSmS qSmE q ∧ FrOk qSmE x) (hT : Tab w) (hX : Tri w 0 w.heap.size X x P p Q q) (ih : ∀ (zk : Int) (zs zt : ByteArray) (x : Fr (Int × Int × ByteArray)) (p q : St) (X : Option Addr) (cx : Nat) (P : Option Addr) (cp : Nat) (Q : Option Addr) (cq : Nat), x.size + p.size + q.size < K → zs.size + zt.size + wt gExpr x + wtS gExpr p + wtS gExpr q ≤ 1048576 → StOk qSmS qSmE p ∧ StOk qSmS qSmE q ∧ FrOk qSmE x → ∀ (w : World), Tab w → Tri w 0 w.heap.size X x P p Q q → Calls Tryz.prog 14 #[.agg #[.int .i64 zk, .string zs, .string zt, .slice X x.len cx, .slice P p.len cp, .slice Q q.len cq]] w fun e w' => e = .returned (.string (stO (zk, zs, zt) x p q)) ∧ Below w.heap.size w w') :
    Calls Tryz.prog 14 #[.agg #[.int .i64 zk, .string zs, .string zt, .slice X x.len cx, .slice P p.len cp, .slice Q q.len cq]] w fun e w' => e = .returned (.string (stO (zk, zs, zt) x p q)) ∧ Below w.heap.size w w' := by
  have B := Blk.new w 40 #[.int .i64 zk, .string zs, .string zt, .slice X x.len cx, .slice P p.len cp, .slice Q q.len cq]
  have L0 := bl_alloc (Below.refl w.heap.size w) (.cells #[.int .i64 zk, .string zs, .string zt, .slice X x.len cx, .slice P p.len cp, .slice Q q.len cq] 40)
  have hXW := (hX.below L0 (Nat.le_refl _)).more (Nat.le_refl _) L0.size
  have C := iStmtOk zk zs zt x p q X cx P cp Q cq _ hl (by omega) hq hXW
  unfold stO
  cases hR : rightN cntS ((zk, zs, zt), x, p.len, q.len) (p.fr.app q.fr)
  · rw [hR] at C
    rw [if_neg Bool.false_ne_true]
    have CC := Lib.hid C
    clear C hR
    go_enter Tryz.func14, Tryz.ntmps14
    go_wp2_with fail
    refine CC.out.mono ?_; rintro e w1 ⟨rfl, b1⟩
    go_wp2_with fail
    go_ret
    exact ⟨rfl, bl_trans L0 b1⟩
  · rw [hR] at C
    rw [if_pos rfl]
    obtain ⟨h1, h2, h3, h4, _, _⟩ := rightS_parts hR
    have D := fun w hT hX => iStx K zk zs zt x p q X cx P cp Q cq w hK hl hwt h2 h1 hq hT hX ih
    rw [h3, h4] at D
    generalize stx (zk, zs, zt) (rowX x) (blkT (rowS p)) (blkT (rowS q)) (decide (0 < q.len)) = t at D ⊢
    have CC := Lib.hid C
    have DD := Lib.hid D
    clear C D hR h1 h2 h3 h4
    go_enter Tryz.func14, Tryz.ntmps14
    go_wp2_with fail
    refine CC.out.mono ?_; rintro e w1 ⟨rfl, b1⟩
    have L1 := bl_trans L0 b1
    have cb := (B.keep b1).cell
    go_wp2_with fail
    refine (DD.out _ (hT.keep L1) ((hX.below L1 (Nat.le_refl _)).more (Nat.le_refl _) L1.size)).mono ?_; rintro e w2 ⟨rfl, b2⟩
    go_wp2_with fail
    go_ret
    exact ⟨rfl, bl_trans L1 b2⟩
theorem iStmtText_any (K : Nat) : K ≤ 1048576 → ∀ (zk : Int) (zs zt : ByteArray) (x : Fr (Int × Int × ByteArray)) (p q : St) (X : Option Addr) (cx : Nat) (P : Option Addr) (cp : Nat) (Q : Option Addr) (cq : Nat), x.size + p.size + q.size ≤ K → zs.size + zt.size + wt gExpr x + wtS gExpr p + wtS gExpr q ≤ 1048576 → StOk qSmS qSmE p ∧ StOk qSmS qSmE q ∧ FrOk qSmE x → ∀ (w : World), Tab w → Tri w 0 w.heap.size X x P p Q q → Calls Tryz.prog 14 #[.agg #[.int .i64 zk, .string zs, .string zt, .slice X x.len cx, .slice P p.len cp, .slice Q q.len cq]] w fun e w' => e = .returned (.string (stO (zk, zs, zt) x p q)) ∧ Below w.heap.size w w' := by
  induction K with
  | zero =>
    intro _ zk zs zt x p q X cx P cp Q cq hK hwt hq w hT hX
    exact iStmtText_step 0 zk zs zt x p q X cx P cp Q cq w hK (by omega) hwt hq hT hX (fun _ _ _ x p q _ _ _ _ _ _ h => by omega)
  | succ K ih =>
    intro hb zk zs zt x p q X cx P cp Q cq hK hwt hq w hT hX
    exact iStmtText_step (K + 1) zk zs zt x p q X cx P cp Q cq w hK (by omega) hwt hq hT hX (fun zk zs zt x p q X cx P cp Q cq h => ih (by omega) zk zs zt x p q X cx P cp Q cq (by omega))

end Go.Proofs.YtemlnpncljomgaaGreatDoor
