import Derived.Test.YtemlnpncljomgaaGreatDoorStmtT
import Derived.Deep.RegionHeld3
namespace Go.Proofs.YtemlnpncljomgaaGreatDoor
open Go.RowKit

theorem blks_size {s : St} (h : wtS gExpr s ≤ 1048576) : (blkT (rowS s)).size ≤ 70000000 := by
  have := lenB_wt s
  rw [blkT_size]
  omega
theorem pres_size {s : St} (h : wtS gExpr s ≤ 1048576) {k : Nat} (hk : k ≤ s.len) : (blkS ((rowS s).take k)).size ≤ 70000000 := by
  have h1 := lenB_wt s
  have h2 := lenB_take (rowS s) k
  rw [blkS_size (rowS s) k (by rw [rowS_len]; exact hk)]
  omega

set_option maxRecDepth 20000 in
set_option maxHeartbeats 4000000 in
theorem sLines (K : Nat) (s : St) (A : Option Addr) (c : Nat) (w : World) (hK : s.size ≤ K) (hl : s.size ≤ 1048576) (hw : wtS gExpr s ≤ 1048576) (hq : okNA cntS.here s.fr = true) (hT : Tab w) (hS : SlS w 0 w.heap.size A s) (ih : ∀ (zk : Int) (zs zt : ByteArray) (x : Fr (Int × Int × ByteArray)) (p q : St) (X : Option Addr) (cx : Nat) (P : Option Addr) (cp : Nat) (Q : Option Addr) (cq : Nat), x.size + p.size + q.size < K → zs.size + zt.size + wt gExpr x + wtS gExpr p + wtS gExpr q ≤ 1048576 → headS zk zs zt x p.len q.len = true → termsB x = true → okNA cntS.here p.fr = true → okNA cntS.here q.fr = true → ∀ (w : World), Tab w → Tri w 0 w.heap.size X x P p Q q → Calls Tryz.prog 29 #[.agg #[.int .i64 zk, .string zs, .string zt, .slice X x.len cx, .slice P p.len cp, .slice Q q.len cq]] w fun e w' => e = .returned (.string (stx (zk, zs, zt) (rowX x) (blkT (rowS p)) (blkT (rowS q)) (decide (0 < q.len)))) ∧ Below w.heap.size w w') :
    Calls Tryz.prog 41 #[.slice A s.len c] w fun e w' => e = .returned (.string (blkT (rowS s))) ∧ Below w.heap.size w w' := by
  have IHH := Lib.hid ih
  have HQ := Lib.hid hq
  have HL := Lib.hid (rowS_len s)
  have HJ := Lib.hid (fun k (hk : k ≤ s.len) => pres_size hw hk)
  have hlz := s.len_size
  clear ih hq
  go_enter Tryz.func41, Tryz.ntmps41
  go_wp2_with fail
  go_loopw [3, 4] (fun sv i wr => ∃ (k : Nat) (a : ByteArray), k ≤ s.len ∧ i = .int .i64 k ∧ sv = .string a ∧ blkS ((rowS s).take k) = a ∧ Below w.heap.size w wr) (fun _ i _ => s.len - (intOf i).toNat)
  case atStart => exact ⟨0, _, Nat.zero_le _, rfl, rfl, rfl, Below.refl _ _⟩
  case round =>
    obtain ⟨k, u, hk, rfl, rfl, ha, hL⟩ := hrel
    have has : u.size ≤ 70000000 := by rw [← ha]; exact HJ.out k hk
    by_cases hlt : k < s.len
    · have hlt' : (k : Int) < (s.len : Int) := by omega
      obtain ⟨b, o, a, x1, p1, q1, X1, cx1, P1, cp1, Q1, cq1, hAe, _, hb, hdr, hks, hT1, e0, e1, e2, e3, e4, e5⟩ := SlS.at_ (hS.below hL (Nat.le_refl _)) hlt
      subst hAe
      obtain ⟨yk, ys, yt⟩ := a
      simp only at e0 e1 e2
      obtain ⟨hh1, hh2, hh3, hh4⟩ := hereS_at HQ.out hdr
      have hwa := wtS_at hdr
      have hat := rowS_at hlt hdr
      simp only at hwa hat
      have hsu := blkS_succ (l := rowS s) (k := k) (by rw [HL.out]; exact hlt)
      rw [ha, hat] at hsu
      have C := IHH.out yk ys yt x1 p1 q1 X1 cx1 P1 cp1 Q1 cq1 (by omega) (by omega) hh2 hh1 hh3 hh4 wr (hT.keep hL) (Tri.more (show Tri wr 0 w.heap.size X1 x1 P1 p1 Q1 q1 from hT1) (Nat.le_refl _) hL.size)
      have hts := stx_size (yk, ys, yt) (rowX x1) (blkT (rowS p1)) (blkT (rowS q1)) (decide (0 < q1.len))
      have g1 := blks_size (s := p1) (by omega)
      have g2 := blks_size (s := q1) (by omega)
      have g3 := lenX_wt x1
      simp only at hts
      generalize stx (yk, ys, yt) (rowX x1) (blkT (rowS p1)) (blkT (rowS q1)) (decide (0 < q1.len)) = t at C hsu hts
      have hts2 : t.size ≤ 210000000 := by omega
      have z1 : (u ++ t).size = u.size + t.size := by rw [ByteArray.size_append]
      have z2 : (u ++ t ++ ⟨#[32]⟩).size = u.size + t.size + 1 := by rw [ByteArray.size_append, z1]; rfl
      have HN := Lib.hid hsu
      have CC := Lib.hid C
      clear C hdr hat hsu ha
      go_wp2_with fail
      refine CC.out.mono ?_; rintro e w1 ⟨rfl, b1⟩
      go_wp2_with fail
      go_roundw
      case rel => exact ⟨k + 1, _, by omega, by go_num, rfl, HN.out, bl_trans hL b1⟩
      case measure => simp [intOf]; omega
    · obtain rfl : k = s.len := by omega
      have z0 : (u ++ ⟨#[125]⟩).size = u.size + 1 := by rw [ByteArray.size_append]; rfl
      have HE := Lib.hid (show blkT (rowS s) = u ++ ⟨#[125]⟩ by unfold blkT; rw [← ha, ← HL.out, List.take_length])
      clear ha
      go_wp2_with fail
      go_ret
      exact ⟨ret_str HE.out.symm, hL⟩

theorem sVs_snocE2 (zs : List ByteArray) (z : ByteArray) : sVs (zs ++ [z]) = sVs zs ++ [.string z] := by simp [sVs]
theorem sVs_getD {l : List ByteArray} {j : Nat} (h : j < l.length) : (sVs l)[j]? = some (.string (l.getD j ⟨#[]⟩)) := by
  rw [sVs_get l j h, List.getD_eq_getElem?_getD, List.getElem?_eq_getElem h]
  rfl
theorem lenX_get (l : List ByteArray) {k : Nat} (h : k < l.length) : l[k].size ≤ lenX l := by
  have h1 := lenX_take l (k + 1)
  rw [List.take_succ_eq_append_getElem h] at h1
  unfold lenX at h1 ⊢
  rw [List.map_append, List.sum_append] at h1
  simp at h1
  omega

set_option maxRecDepth 20000 in
set_option maxHeartbeats 4000000 in
theorem sStx_1 (K : Nat) (zs zt : ByteArray) (x : Fr (Int × Int × ByteArray)) (p q : St) (X : Option Addr) (cx : Nat) (P : Option Addr) (cp : Nat) (Q : Option Addr) (cq : Nat) (w : World) (hK : x.size + p.size + q.size ≤ K) (hl : x.size + p.size + q.size ≤ 1048576) (hwt : zs.size + zt.size + wt gExpr x + wtS gExpr p + wtS gExpr q ≤ 1048576) (hh : headS 1 zs zt x p.len q.len = true) (ht : termsB x = true) (hoP : okNA cntS.here p.fr = true) (hoQ : okNA cntS.here q.fr = true) (hT : Tab w) (hX : Tri w 0 w.heap.size X x P p Q q) (ih : ∀ (zk : Int) (zs zt : ByteArray) (x : Fr (Int × Int × ByteArray)) (p q : St) (X : Option Addr) (cx : Nat) (P : Option Addr) (cp : Nat) (Q : Option Addr) (cq : Nat), x.size + p.size + q.size < K → zs.size + zt.size + wt gExpr x + wtS gExpr p + wtS gExpr q ≤ 1048576 → headS zk zs zt x p.len q.len = true → termsB x = true → okNA cntS.here p.fr = true → okNA cntS.here q.fr = true → ∀ (w : World), Tab w → Tri w 0 w.heap.size X x P p Q q → Calls Tryz.prog 29 #[.agg #[.int .i64 zk, .string zs, .string zt, .slice X x.len cx, .slice P p.len cp, .slice Q q.len cq]] w fun e w' => e = .returned (.string (stx (zk, zs, zt) (rowX x) (blkT (rowS p)) (blkT (rowS q)) (decide (0 < q.len)))) ∧ Below w.heap.size w w') :
    Calls Tryz.prog 29 #[.agg #[.int .i64 1, .string zs, .string zt, .slice X x.len cx, .slice P p.len cp, .slice Q q.len cq]] w fun e w' => e = .returned (.string (stx (1, zs, zt) (rowX x) (blkT (rowS p)) (blkT (rowS q)) (decide (0 < q.len)))) ∧ Below w.heap.size w w' := by
  have B := Blk.new w 40 #[.int .i64 1, .string zs, .string zt, .slice X x.len cx, .slice P p.len cp, .slice Q q.len cq]
  have L0 := bl_alloc (Below.refl w.heap.size w) (.cells #[.int .i64 1, .string zs, .string zt, .slice X x.len cx, .slice P p.len cp, .slice Q q.len cq] 40)
  have hok := termsB_ok x ht
  have _ := hK
  have _ := ih
  have _ := hl
  have _ := hoP
  have _ := hoQ
  have _ := hh
  have HL := Lib.hid (rowX_len x)
  have hlx := x.len_size
  have HA := Lib.hid hok
  obtain ⟨i0, hi, hz0, hz1, hz2⟩ := info_parts info_str
  have HE := Lib.hid (show stx (1, zs, zt) (rowX x) (blkT (rowS p)) (blkT (rowS q)) (decide (0 < q.len)) = (((⟨#[112, 114, 105, 110, 116, 32]⟩ : ByteArray) ++ (jnS [44, 32] (rowX x) x.len)) ++ ⟨#[59]⟩) from by rw [← rowX_len x]; rfl)
  have HJ := Lib.hid (fun k hk => jnX_wt (fr := x) (by omega) k hk)
  clear ih hh hok
  have hO0 := World.ownsRow_made (e := 9) (size := 1) (base := w.heap.size + 1) (w.alloc (.cells #[.int .i64 1, .string zs, .string zt, .slice X x.len cx, .slice P p.len cp, .slice Q q.len cq] 40)) #[] 0 (by rw [alloc_size]; exact Nat.le_refl _) (by simp [maxLen]) (by simp)
  rw [alloc_size] at hO0
  have HO0 := Lib.hid hO0
  clear hO0
  go_enter Tryz.func29, Tryz.ntmps29
  go_wp2_with fail
  go_loopw [3, 4] (fun v i wr => ∃ kk : Nat, kk ≤ x.len ∧ i = .int .i64 kk ∧ wr.ownsRow (w.heap.size + 1) 9 1 v kk (sVs ((rowX x).take kk)) ∧ Blk wr w.heap.size 40 #[.int .i64 1, .string zs, .string zt, .slice X x.len cx, .slice P p.len cp, .slice Q q.len cq] ∧ Below w.heap.size w wr) (fun _ i _ => x.len - (intOf i).toNat)
  case atStart => exact ⟨0, Nat.zero_le _, rfl, HO0.out, B.alloc _, bl_alloc L0 _⟩
  case round =>
    clear B L0
    obtain ⟨kk, hkk, rfl, hO, B, hL⟩ := hrel
    have cb := B.cell
    by_cases hlt : kk < x.len
    · obtain ⟨b, o, l, k1, A1, c1, hAe, hb, hd, hks, hSk, q0, q1, q2, q3⟩ := at_Expr (hX.1.below hL (Nat.le_refl _)) hlt
      subst hAe
      obtain ⟨h1, h2⟩ := okNA_at HA.out hd
      have hwa := wtE_at hd
      have hat := rowX_at hlt hd
      obtain ⟨yk, yn, ys⟩ := l
      simp only at q0 q1 q2 h1 hwa hat
      have hlt' : (kk : Int) < (x.len : Int) := by omega
      have hkl : (x.len : Int) ≤ 1048576 := by omega
      have HT := Lib.hid (show (rowX x).take (kk + 1) = (rowX x).take kk ++ [txE (yk, yn, ys) (rowX k1)] by rw [List.take_succ_eq_append_getElem (by rw [HL.out]; exact hlt), hat])
      have C := sTextE_any k1.size (by omega) k1 (Nat.le_refl _) yk yn ys A1 c1 wr h1 h2 (by omega) (hT.keep hL) (hSk.more (Nat.le_refl _) hL.size)
      generalize txE (yk, yn, ys) (rowX k1) = t at C HT
      have CC := Lib.hid C
      clear C hat hd h1 h2
      go_wp2_with fail
      refine CC.out.mono ?_; rintro e w1 ⟨rfl, b1⟩
      have hL2 := bl_trans hL b1
      have hO2 := ((Row.mk hO).keep b1).1
      have hB1 := B.keep b1
      go_wp2_with (at_builtin; refine wpList_push rfl _ _ 59 rfl (w.heap.size + 1) 9 i0 (.string ⟨#[]⟩) 1 16 Tryz.underlying59 hi hz0 hz1 hz2 rfl (by decide) _ _ _ rfl hO2 _ rfl rfl rfl (by omega) (by omega) hB1.lt ?_)
      intro v' w2 hO3 hg3
      have hB2 := hB1.grown hg3 (fun e => by have := (hO2.lt _ e.symm).1; omega)
      go_wp2_with fail
      go_roundw
      case rel => exact ⟨kk + 1, by omega, by go_num, by rw [HT.out, sVs_snocE2]; exact hO3, hB2, hL2.grown hg3 hL2.size (fun q e => by have := (hO2.lt q e).1; omega)⟩
      case measure => simp [intOf]; omega
    · obtain rfl : kk = x.len := by omega
      rw [List.take_of_length_le (by rw [HL.out]; exact Nat.le_refl _)] at hO
      obtain ⟨Av, cv, rfl⟩ := (Row.mk hO).form
      have hR := (Row.mk hO).reads
      have hXw := (hX.below hL (Nat.le_refl _)).more (Nat.le_refl _) hL.size
      have hTw := hT.keep hL
      clear hO
      have hP : (⟨#[112, 114, 105, 110, 116, 32]⟩ : ByteArray).size = 6 := rfl
      obtain ⟨PP, hPP⟩ : ∃ PP, (⟨#[112, 114, 105, 110, 116, 32]⟩ : ByteArray) = PP := ⟨_, rfl⟩
      have hP2 : PP.size = 6 := by rw [← hPP]; exact hP
      have HPP := Lib.hid hPP
      clear hPP hP
      go_wp2_with fail
      go_loopw [5, 6] (fun sv i wq => ∃ (k : Nat) (a : ByteArray), k ≤ x.len ∧ i = .int .i64 k ∧ sv = .string a ∧ PP ++ jnS [44, 32] (rowX x) k = a ∧ wq = wr) (fun _ i _ => x.len - (intOf i).toNat)
      case atStart => exact ⟨0, _, Nat.zero_le _, rfl, rfl, by rw [jnS_zero, ba_end]; exact HPP.out.symm, rfl⟩
      case round =>
        obtain ⟨k, a, hk, rfl, rfl, ha, rfl⟩ := hrel
        have has : a.size ≤ 70000006 := by
          have := HJ.out k hk
          rw [← ha, ByteArray.size_append]
          omega
        by_cases hlt2 : k < x.len
        · have hlt' : (k : Int) < (x.len : Int) := by omega
          have hkW : k < (rowX x).length := by rw [HL.out]; exact hlt2
          obtain ⟨b, off, hAe, hb, hc⟩ := hR.2 (by omega)
          subst hAe
          have u0 := hc k _ (sVs_get (rowX x) k hkW)
          have hts : (rowX x)[k].size ≤ 70000000 := by
            have g2 := lenX_wt x
            have g3 := lenX_get (rowX x) hkW
            omega
          by_cases h0 : 0 < k
          · have hj := jnS_succ [44, 32] (rowX x) k hkW h0
            rw [show (⟨([44, 32] : List UInt8).toArray⟩ : ByteArray) = ⟨#[44, 32]⟩ from rfl] at hj
            generalize (rowX x)[k] = t at u0 hts hj
            have hJ2 : PP ++ jnS [44, 32] (rowX x) (k + 1) = a ++ ⟨#[44, 32]⟩ ++ t := by rw [← hj, ← ha, ByteArray.append_assoc, ByteArray.append_assoc, ByteArray.append_assoc]
            have HJ2 := Lib.hid hJ2
            have h0' : (0 : Int) < k := by omega
            have z0 : (a ++ ⟨#[44, 32]⟩).size = a.size + 2 := by rw [ByteArray.size_append]; rfl
            have z1 : (a ++ ⟨#[44, 32]⟩ ++ t).size = a.size + 2 + t.size := by rw [ByteArray.size_append, z0]
            clear ha hj hJ2 hc
            go_wp2_with fail
            go_roundw
            case rel => exact ⟨k + 1, _, by omega, by go_num, rfl, HJ2.out, by first | rfl | trivial⟩
            case measure => simp [intOf]; omega
          · obtain rfl : k = 0 := by omega
            have hj := jnS_one [44, 32] (rowX x) hkW
            generalize (rowX x)[0] = t at u0 hts hj
            rw [jnS_zero, ba_end] at ha
            have hJ2 : PP ++ jnS [44, 32] (rowX x) 1 = a ++ t := by rw [← hj, ha, ba_nil]
            have HJ2 := Lib.hid hJ2
            rw [Nat.add_zero] at u0
            have z2 : (a ++ t).size = a.size + t.size := by rw [ByteArray.size_append]
            clear ha hj hJ2 hc
            go_wp2_with fail
            go_roundw
            case rel => exact ⟨1, _, by omega, by go_num, rfl, HJ2.out, by first | rfl | trivial⟩
            case measure => simp [intOf]; omega
        · obtain rfl : k = x.len := by omega
          have z0 : (a ++ ⟨#[59]⟩).size = a.size + 1 := by rw [ByteArray.size_append]; rfl
          have HA2 := Lib.hid ha
          clear ha hR
          go_wp2_with fail
          go_ret
          exact ⟨ret_str (by rw [HE.out, HPP.out, HA2.out]), hL⟩

set_option maxRecDepth 20000 in
set_option maxHeartbeats 4000000 in
theorem sStx_2 (K : Nat) (zs zt : ByteArray) (x : Fr (Int × Int × ByteArray)) (p q : St) (X : Option Addr) (cx : Nat) (P : Option Addr) (cp : Nat) (Q : Option Addr) (cq : Nat) (w : World) (hK : x.size + p.size + q.size ≤ K) (hl : x.size + p.size + q.size ≤ 1048576) (hwt : zs.size + zt.size + wt gExpr x + wtS gExpr p + wtS gExpr q ≤ 1048576) (hh : headS 2 zs zt x p.len q.len = true) (ht : termsB x = true) (hoP : okNA cntS.here p.fr = true) (hoQ : okNA cntS.here q.fr = true) (hT : Tab w) (hX : Tri w 0 w.heap.size X x P p Q q) (ih : ∀ (zk : Int) (zs zt : ByteArray) (x : Fr (Int × Int × ByteArray)) (p q : St) (X : Option Addr) (cx : Nat) (P : Option Addr) (cp : Nat) (Q : Option Addr) (cq : Nat), x.size + p.size + q.size < K → zs.size + zt.size + wt gExpr x + wtS gExpr p + wtS gExpr q ≤ 1048576 → headS zk zs zt x p.len q.len = true → termsB x = true → okNA cntS.here p.fr = true → okNA cntS.here q.fr = true → ∀ (w : World), Tab w → Tri w 0 w.heap.size X x P p Q q → Calls Tryz.prog 29 #[.agg #[.int .i64 zk, .string zs, .string zt, .slice X x.len cx, .slice P p.len cp, .slice Q q.len cq]] w fun e w' => e = .returned (.string (stx (zk, zs, zt) (rowX x) (blkT (rowS p)) (blkT (rowS q)) (decide (0 < q.len)))) ∧ Below w.heap.size w w') :
    Calls Tryz.prog 29 #[.agg #[.int .i64 2, .string zs, .string zt, .slice X x.len cx, .slice P p.len cp, .slice Q q.len cq]] w fun e w' => e = .returned (.string (stx (2, zs, zt) (rowX x) (blkT (rowS p)) (blkT (rowS q)) (decide (0 < q.len)))) ∧ Below w.heap.size w w' := by
  have B := Blk.new w 40 #[.int .i64 2, .string zs, .string zt, .slice X x.len cx, .slice P p.len cp, .slice Q q.len cq]
  have L0 := bl_alloc (Below.refl w.heap.size w) (.cells #[.int .i64 2, .string zs, .string zt, .slice X x.len cx, .slice P p.len cp, .slice Q q.len cq] 40)
  have hok := termsB_ok x ht
  have _ := hK
  have _ := ih
  have _ := hl
  have _ := hoP
  have _ := hoQ
  have _ := hh
  have HL := Lib.hid (rowX_len x)
  have hlx := x.len_size
  have HA := Lib.hid hok
  obtain ⟨i0, hi, hz0, hz1, hz2⟩ := info_parts info_str
  have hlen : x.len = 1 := by
    rw [headS_2] at hh
    simp at hh
    omega
  have HLEN := Lib.hid hlen
  clear hlen
  have ht0 : ((rowX x).getD 0 ⟨#[]⟩).size ≤ 70000000 := by
    have g1 := getX_two (rowX x)
    have g2 := lenX_wt x
    omega
  have hu0 : (sVs (rowX x))[0]? = some (.string ((rowX x).getD 0 ⟨#[]⟩)) := sVs_getD (by rw [HL.out]; have := HLEN.out; omega)
  have HE := Lib.hid (show stx (2, zs, zt) (rowX x) (blkT (rowS p)) (blkT (rowS q)) (decide (0 < q.len)) = (((zs ++ ⟨#[32, 61, 32]⟩) ++ ((rowX x).getD 0 ⟨#[]⟩)) ++ ⟨#[59]⟩) from rfl)
  generalize (rowX x).getD 0 ⟨#[]⟩ = t0 at hu0 ht0 HE
  have HU0 := Lib.hid hu0
  clear hu0
  clear ih hh hok
  have z1 : (zs ++ ⟨#[32, 61, 32]⟩).size = zs.size + 3 := by rw [ByteArray.size_append]; rfl
  have z2 : ((zs ++ ⟨#[32, 61, 32]⟩) ++ t0).size = zs.size + 3 + t0.size := by rw [ByteArray.size_append, z1]
  have z3 : (((zs ++ ⟨#[32, 61, 32]⟩) ++ t0) ++ ⟨#[59]⟩).size = zs.size + 3 + t0.size + 1 := by rw [ByteArray.size_append, z2]; rfl
  have hO0 := World.ownsRow_made (e := 9) (size := 1) (base := w.heap.size + 1) (w.alloc (.cells #[.int .i64 2, .string zs, .string zt, .slice X x.len cx, .slice P p.len cp, .slice Q q.len cq] 40)) #[] 0 (by rw [alloc_size]; exact Nat.le_refl _) (by simp [maxLen]) (by simp)
  rw [alloc_size] at hO0
  have HO0 := Lib.hid hO0
  clear hO0
  go_enter Tryz.func29, Tryz.ntmps29
  go_wp2_with fail
  go_loopw [3, 4] (fun v i wr => ∃ kk : Nat, kk ≤ x.len ∧ i = .int .i64 kk ∧ wr.ownsRow (w.heap.size + 1) 9 1 v kk (sVs ((rowX x).take kk)) ∧ Blk wr w.heap.size 40 #[.int .i64 2, .string zs, .string zt, .slice X x.len cx, .slice P p.len cp, .slice Q q.len cq] ∧ Below w.heap.size w wr) (fun _ i _ => x.len - (intOf i).toNat)
  case atStart => exact ⟨0, Nat.zero_le _, rfl, HO0.out, B.alloc _, bl_alloc L0 _⟩
  case round =>
    clear B L0
    obtain ⟨kk, hkk, rfl, hO, B, hL⟩ := hrel
    have cb := B.cell
    by_cases hlt : kk < x.len
    · obtain ⟨b, o, l, k1, A1, c1, hAe, hb, hd, hks, hSk, q0, q1, q2, q3⟩ := at_Expr (hX.1.below hL (Nat.le_refl _)) hlt
      subst hAe
      obtain ⟨h1, h2⟩ := okNA_at HA.out hd
      have hwa := wtE_at hd
      have hat := rowX_at hlt hd
      obtain ⟨yk, yn, ys⟩ := l
      simp only at q0 q1 q2 h1 hwa hat
      have hlt' : (kk : Int) < (x.len : Int) := by omega
      have hkl : (x.len : Int) ≤ 1048576 := by omega
      have HT := Lib.hid (show (rowX x).take (kk + 1) = (rowX x).take kk ++ [txE (yk, yn, ys) (rowX k1)] by rw [List.take_succ_eq_append_getElem (by rw [HL.out]; exact hlt), hat])
      have C := sTextE_any k1.size (by omega) k1 (Nat.le_refl _) yk yn ys A1 c1 wr h1 h2 (by omega) (hT.keep hL) (hSk.more (Nat.le_refl _) hL.size)
      generalize txE (yk, yn, ys) (rowX k1) = t at C HT
      have CC := Lib.hid C
      clear C hat hd h1 h2
      go_wp2_with fail
      refine CC.out.mono ?_; rintro e w1 ⟨rfl, b1⟩
      have hL2 := bl_trans hL b1
      have hO2 := ((Row.mk hO).keep b1).1
      have hB1 := B.keep b1
      go_wp2_with (at_builtin; refine wpList_push rfl _ _ 59 rfl (w.heap.size + 1) 9 i0 (.string ⟨#[]⟩) 1 16 Tryz.underlying59 hi hz0 hz1 hz2 rfl (by decide) _ _ _ rfl hO2 _ rfl rfl rfl (by omega) (by omega) hB1.lt ?_)
      intro v' w2 hO3 hg3
      have hB2 := hB1.grown hg3 (fun e => by have := (hO2.lt _ e.symm).1; omega)
      go_wp2_with fail
      go_roundw
      case rel => exact ⟨kk + 1, by omega, by go_num, by rw [HT.out, sVs_snocE2]; exact hO3, hB2, hL2.grown hg3 hL2.size (fun q e => by have := (hO2.lt q e).1; omega)⟩
      case measure => simp [intOf]; omega
    · obtain rfl : kk = x.len := by omega
      rw [List.take_of_length_le (by rw [HL.out]; exact Nat.le_refl _)] at hO
      obtain ⟨Av, cv, rfl⟩ := (Row.mk hO).form
      have hR := (Row.mk hO).reads
      have hXw := (hX.below hL (Nat.le_refl _)).more (Nat.le_refl _) hL.size
      have hTw := hT.keep hL
      clear hO
      have hp0 : 0 < x.len := by have := HLEN.out; omega
      obtain ⟨b, off, hAe, hb, hc⟩ := hR.2 hp0
      subst hAe
      have u0 := hc 0 _ HU0.out
      have hl0 : (0 : Int) < (x.len : Int) := by have := HLEN.out; omega
      rw [Nat.add_zero] at u0
      clear hc hR hp0
      go_wp2_with fail
      refine wp_region_held_drew (S := (fun y => Below wr.heap.size wr y)) (by kernel_rfl) ?_ (fun hHeld => ?_)
      · exact (Below.refl _ _).drew
      refine wpAnyH_take (i := 0) (oi := ⟨some 48, _, _, _, _, _⟩) (v := ?_) rfl (by kernel_rfl) (by kernel_rfl) (by kernel_rfl) (fun _ _ _ h => h) (Or.inl ⟨by rfl, ?_⟩) (by assumption) ?_
      case refine_2 => (intro w hSw; skip; go_simp; first | done | with_reducible rfl)
      simp only [Act.put, qA, qB, qC]
      refine wpAnyH_take (i := 1) (oi := ⟨some 49, _, _, _, _, _⟩) (v := ?_) rfl (by kernel_rfl) (by kernel_rfl) (by kernel_rfl) (fun _ _ _ h => h) (Or.inl ⟨by rfl, ?_⟩) (by assumption) ?_
      case refine_2 => (intro w hSw; have p := (B.keep hSw).cell; have v0 := (hSw.cell (p := ⟨b, off, none⟩) hb).trans u0; go_simp; first | done | with_reducible rfl)
      simp only [Act.put, qA, qB, qC]
      refine wpAnyH_take (i := 2) (oi := ⟨some 50, _, _, _, _, _⟩) (v := ?_) rfl (by kernel_rfl) (by kernel_rfl) (by kernel_rfl) (fun _ _ _ h => h) (Or.inl ⟨by rfl, ?_⟩) (by assumption) ?_
      case refine_2 => (intro w hSw; skip; go_simp; (try rw [if_neg (by omega)]); first | done | with_reducible rfl)
      simp only [Act.put, qA, qB, qC]
      refine wpAnyH_take (i := 3) (oi := ⟨some 51, _, _, _, _, _⟩) (v := ?_) rfl (by kernel_rfl) (by kernel_rfl) (by kernel_rfl) (fun _ _ _ h => h) (Or.inl ⟨by rfl, ?_⟩) (by assumption) ?_
      case refine_2 => (intro w hSw; skip; go_simp; first | done | with_reducible rfl)
      simp only [Act.put, qA, qB, qC]
      refine wpAnyH_take (i := 4) (oi := ⟨some 52, _, _, _, _, _⟩) (v := ?_) rfl (by kernel_rfl) (by kernel_rfl) (by kernel_rfl) (fun _ _ _ h => h) (Or.inl ⟨by rfl, ?_⟩) (by assumption) ?_
      case refine_2 => (intro w hSw; skip; go_simp; (try rw [if_pos (by omega)]); first | done | with_reducible rfl)
      simp only [Act.put, qA, qB, qC]
      refine wpAnyH_take (i := 5) (oi := ⟨some 53, _, _, _, _, _⟩) (v := ?_) rfl (by kernel_rfl) (by kernel_rfl) (by kernel_rfl) (fun _ _ _ h => h) (Or.inl ⟨by rfl, ?_⟩) (by assumption) ?_
      case refine_2 => (intro w hSw; have p := (B.keep hSw).cell; have v0 := (hSw.cell (p := ⟨b, off, none⟩) hb).trans u0; go_simp; first | done | with_reducible rfl)
      simp only [Act.put, qA, qB, qC]
      refine wpAnyH_take (i := 6) (oi := ⟨some 54, _, _, _, _, _⟩) (v := ?_) rfl (by kernel_rfl) (by kernel_rfl) (by kernel_rfl) (fun _ _ _ h => h) (Or.inl ⟨by rfl, ?_⟩) (by assumption) ?_
      case refine_2 => (intro w hSw; skip; go_simp; (try rw [if_neg (by omega)]); first | done | with_reducible rfl)
      simp only [Act.put, qA, qB, qC]
      refine wpAnyH_take (i := 7) (oi := ⟨some 55, _, _, _, _, _⟩) (v := ?_) rfl (by kernel_rfl) (by kernel_rfl) (by kernel_rfl) (fun _ _ _ h => h) (Or.inl ⟨by rfl, ?_⟩) (by assumption) ?_
      case refine_2 => (intro w hSw; skip; go_simp; (try rw [if_neg (by omega)]); first | done | with_reducible rfl)
      simp only [Act.put, qA, qB, qC]
      refine wpAnyH_take (i := 8) (oi := ⟨some 2, _, _, _, _, _⟩) (v := ?_) rfl (by kernel_rfl) (by kernel_rfl) (by kernel_rfl) (fun _ _ _ h => h) (Or.inl ⟨by rfl, ?_⟩) (by assumption) ?_
      case refine_2 => (intro w hSw; skip; go_simp; first | done | with_reducible rfl)
      simp only [Act.put, qA, qB, qC]
      refine wpAnyH_done (by kernel_rfl) ?_ _
      go_wp2_with fail
      go_ret
      exact ⟨ret_str HE.out.symm, bl_trans hL hHeld⟩

set_option maxRecDepth 20000 in
set_option maxHeartbeats 4000000 in
theorem sStx_3 (K : Nat) (zs zt : ByteArray) (x : Fr (Int × Int × ByteArray)) (p q : St) (X : Option Addr) (cx : Nat) (P : Option Addr) (cp : Nat) (Q : Option Addr) (cq : Nat) (w : World) (hK : x.size + p.size + q.size ≤ K) (hl : x.size + p.size + q.size ≤ 1048576) (hwt : zs.size + zt.size + wt gExpr x + wtS gExpr p + wtS gExpr q ≤ 1048576) (hh : headS 3 zs zt x p.len q.len = true) (ht : termsB x = true) (hoP : okNA cntS.here p.fr = true) (hoQ : okNA cntS.here q.fr = true) (hT : Tab w) (hX : Tri w 0 w.heap.size X x P p Q q) (ih : ∀ (zk : Int) (zs zt : ByteArray) (x : Fr (Int × Int × ByteArray)) (p q : St) (X : Option Addr) (cx : Nat) (P : Option Addr) (cp : Nat) (Q : Option Addr) (cq : Nat), x.size + p.size + q.size < K → zs.size + zt.size + wt gExpr x + wtS gExpr p + wtS gExpr q ≤ 1048576 → headS zk zs zt x p.len q.len = true → termsB x = true → okNA cntS.here p.fr = true → okNA cntS.here q.fr = true → ∀ (w : World), Tab w → Tri w 0 w.heap.size X x P p Q q → Calls Tryz.prog 29 #[.agg #[.int .i64 zk, .string zs, .string zt, .slice X x.len cx, .slice P p.len cp, .slice Q q.len cq]] w fun e w' => e = .returned (.string (stx (zk, zs, zt) (rowX x) (blkT (rowS p)) (blkT (rowS q)) (decide (0 < q.len)))) ∧ Below w.heap.size w w') :
    Calls Tryz.prog 29 #[.agg #[.int .i64 3, .string zs, .string zt, .slice X x.len cx, .slice P p.len cp, .slice Q q.len cq]] w fun e w' => e = .returned (.string (stx (3, zs, zt) (rowX x) (blkT (rowS p)) (blkT (rowS q)) (decide (0 < q.len)))) ∧ Below w.heap.size w w' := by
  have B := Blk.new w 40 #[.int .i64 3, .string zs, .string zt, .slice X x.len cx, .slice P p.len cp, .slice Q q.len cq]
  have L0 := bl_alloc (Below.refl w.heap.size w) (.cells #[.int .i64 3, .string zs, .string zt, .slice X x.len cx, .slice P p.len cp, .slice Q q.len cq] 40)
  have hok := termsB_ok x ht
  have _ := hK
  have _ := ih
  have _ := hl
  have _ := hoP
  have _ := hoQ
  have _ := hh
  have HL := Lib.hid (rowX_len x)
  have hlx := x.len_size
  have HA := Lib.hid hok
  obtain ⟨i0, hi, hz0, hz1, hz2⟩ := info_parts info_str
  have hlen : x.len = 2 := by
    rw [headS_3] at hh
    simp at hh
    omega
  have HLEN := Lib.hid hlen
  clear hlen
  have ht0 : ((rowX x).getD 0 ⟨#[]⟩).size ≤ 70000000 := by
    have g1 := getX_two (rowX x)
    have g2 := lenX_wt x
    omega
  have hu0 : (sVs (rowX x))[0]? = some (.string ((rowX x).getD 0 ⟨#[]⟩)) := sVs_getD (by rw [HL.out]; have := HLEN.out; omega)
  have ht1 : ((rowX x).getD 1 ⟨#[]⟩).size ≤ 70000000 := by
    have g1 := getX_two (rowX x)
    have g2 := lenX_wt x
    omega
  have hu1 : (sVs (rowX x))[1]? = some (.string ((rowX x).getD 1 ⟨#[]⟩)) := sVs_getD (by rw [HL.out]; have := HLEN.out; omega)
  have HE := Lib.hid (show stx (3, zs, zt) (rowX x) (blkT (rowS p)) (blkT (rowS q)) (decide (0 < q.len)) = (((((zs ++ ⟨#[91]⟩) ++ ((rowX x).getD 0 ⟨#[]⟩)) ++ ⟨#[93, 32, 61, 32]⟩) ++ ((rowX x).getD 1 ⟨#[]⟩)) ++ ⟨#[59]⟩) from rfl)
  generalize (rowX x).getD 0 ⟨#[]⟩ = t0 at hu0 ht0 HE
  generalize (rowX x).getD 1 ⟨#[]⟩ = t1 at hu1 ht1 HE
  have HU0 := Lib.hid hu0
  clear hu0
  have HU1 := Lib.hid hu1
  clear hu1
  clear ih hh hok
  have z1 : (zs ++ ⟨#[91]⟩).size = zs.size + 1 := by rw [ByteArray.size_append]; rfl
  have z2 : ((zs ++ ⟨#[91]⟩) ++ t0).size = zs.size + 1 + t0.size := by rw [ByteArray.size_append, z1]
  have z3 : (((zs ++ ⟨#[91]⟩) ++ t0) ++ ⟨#[93, 32, 61, 32]⟩).size = zs.size + 1 + t0.size + 4 := by rw [ByteArray.size_append, z2]; rfl
  have z4 : ((((zs ++ ⟨#[91]⟩) ++ t0) ++ ⟨#[93, 32, 61, 32]⟩) ++ t1).size = zs.size + 1 + t0.size + 4 + t1.size := by rw [ByteArray.size_append, z3]
  have z5 : (((((zs ++ ⟨#[91]⟩) ++ t0) ++ ⟨#[93, 32, 61, 32]⟩) ++ t1) ++ ⟨#[59]⟩).size = zs.size + 1 + t0.size + 4 + t1.size + 1 := by rw [ByteArray.size_append, z4]; rfl
  have hO0 := World.ownsRow_made (e := 9) (size := 1) (base := w.heap.size + 1) (w.alloc (.cells #[.int .i64 3, .string zs, .string zt, .slice X x.len cx, .slice P p.len cp, .slice Q q.len cq] 40)) #[] 0 (by rw [alloc_size]; exact Nat.le_refl _) (by simp [maxLen]) (by simp)
  rw [alloc_size] at hO0
  have HO0 := Lib.hid hO0
  clear hO0
  go_enter Tryz.func29, Tryz.ntmps29
  go_wp2_with fail
  go_loopw [3, 4] (fun v i wr => ∃ kk : Nat, kk ≤ x.len ∧ i = .int .i64 kk ∧ wr.ownsRow (w.heap.size + 1) 9 1 v kk (sVs ((rowX x).take kk)) ∧ Blk wr w.heap.size 40 #[.int .i64 3, .string zs, .string zt, .slice X x.len cx, .slice P p.len cp, .slice Q q.len cq] ∧ Below w.heap.size w wr) (fun _ i _ => x.len - (intOf i).toNat)
  case atStart => exact ⟨0, Nat.zero_le _, rfl, HO0.out, B.alloc _, bl_alloc L0 _⟩
  case round =>
    clear B L0
    obtain ⟨kk, hkk, rfl, hO, B, hL⟩ := hrel
    have cb := B.cell
    by_cases hlt : kk < x.len
    · obtain ⟨b, o, l, k1, A1, c1, hAe, hb, hd, hks, hSk, q0, q1, q2, q3⟩ := at_Expr (hX.1.below hL (Nat.le_refl _)) hlt
      subst hAe
      obtain ⟨h1, h2⟩ := okNA_at HA.out hd
      have hwa := wtE_at hd
      have hat := rowX_at hlt hd
      obtain ⟨yk, yn, ys⟩ := l
      simp only at q0 q1 q2 h1 hwa hat
      have hlt' : (kk : Int) < (x.len : Int) := by omega
      have hkl : (x.len : Int) ≤ 1048576 := by omega
      have HT := Lib.hid (show (rowX x).take (kk + 1) = (rowX x).take kk ++ [txE (yk, yn, ys) (rowX k1)] by rw [List.take_succ_eq_append_getElem (by rw [HL.out]; exact hlt), hat])
      have C := sTextE_any k1.size (by omega) k1 (Nat.le_refl _) yk yn ys A1 c1 wr h1 h2 (by omega) (hT.keep hL) (hSk.more (Nat.le_refl _) hL.size)
      generalize txE (yk, yn, ys) (rowX k1) = t at C HT
      have CC := Lib.hid C
      clear C hat hd h1 h2
      go_wp2_with fail
      refine CC.out.mono ?_; rintro e w1 ⟨rfl, b1⟩
      have hL2 := bl_trans hL b1
      have hO2 := ((Row.mk hO).keep b1).1
      have hB1 := B.keep b1
      go_wp2_with (at_builtin; refine wpList_push rfl _ _ 59 rfl (w.heap.size + 1) 9 i0 (.string ⟨#[]⟩) 1 16 Tryz.underlying59 hi hz0 hz1 hz2 rfl (by decide) _ _ _ rfl hO2 _ rfl rfl rfl (by omega) (by omega) hB1.lt ?_)
      intro v' w2 hO3 hg3
      have hB2 := hB1.grown hg3 (fun e => by have := (hO2.lt _ e.symm).1; omega)
      go_wp2_with fail
      go_roundw
      case rel => exact ⟨kk + 1, by omega, by go_num, by rw [HT.out, sVs_snocE2]; exact hO3, hB2, hL2.grown hg3 hL2.size (fun q e => by have := (hO2.lt q e).1; omega)⟩
      case measure => simp [intOf]; omega
    · obtain rfl : kk = x.len := by omega
      rw [List.take_of_length_le (by rw [HL.out]; exact Nat.le_refl _)] at hO
      obtain ⟨Av, cv, rfl⟩ := (Row.mk hO).form
      have hR := (Row.mk hO).reads
      have hXw := (hX.below hL (Nat.le_refl _)).more (Nat.le_refl _) hL.size
      have hTw := hT.keep hL
      clear hO
      have hp0 : 0 < x.len := by have := HLEN.out; omega
      obtain ⟨b, off, hAe, hb, hc⟩ := hR.2 hp0
      subst hAe
      have u0 := hc 0 _ HU0.out
      have hl0 : (0 : Int) < (x.len : Int) := by have := HLEN.out; omega
      have u1 := hc 1 _ HU1.out
      have hl1 : (1 : Int) < (x.len : Int) := by have := HLEN.out; omega
      rw [Nat.add_zero] at u0
      clear hc hR hp0
      go_wp2_with fail
      refine wp_region_held_drew (S := (fun y => Below wr.heap.size wr y)) (by kernel_rfl) ?_ (fun hHeld => ?_)
      · exact (Below.refl _ _).drew
      refine wpAnyH_take (i := 0) (oi := ⟨some 58, _, _, _, _, _⟩) (v := ?_) rfl (by kernel_rfl) (by kernel_rfl) (by kernel_rfl) (fun _ _ _ h => h) (Or.inl ⟨by rfl, ?_⟩) (by assumption) ?_
      case refine_2 => (intro w hSw; skip; go_simp; first | done | with_reducible rfl)
      simp only [Act.put, qA, qB, qC]
      refine wpAnyH_take (i := 1) (oi := ⟨some 59, _, _, _, _, _⟩) (v := ?_) rfl (by kernel_rfl) (by kernel_rfl) (by kernel_rfl) (fun _ _ _ h => h) (Or.inl ⟨by rfl, ?_⟩) (by assumption) ?_
      case refine_2 => (intro w hSw; have p := (B.keep hSw).cell; have v0 := (hSw.cell (p := ⟨b, off, none⟩) hb).trans u0; have v1 := (hSw.cell (p := ⟨b, off + 1, none⟩) hb).trans u1; go_simp; first | done | with_reducible rfl)
      simp only [Act.put, qA, qB, qC]
      refine wpAnyH_take (i := 2) (oi := ⟨some 60, _, _, _, _, _⟩) (v := ?_) rfl (by kernel_rfl) (by kernel_rfl) (by kernel_rfl) (fun _ _ _ h => h) (Or.inl ⟨by rfl, ?_⟩) (by assumption) ?_
      case refine_2 => (intro w hSw; skip; go_simp; (try rw [if_neg (by omega)]); first | done | with_reducible rfl)
      simp only [Act.put, qA, qB, qC]
      refine wpAnyH_take (i := 3) (oi := ⟨some 61, _, _, _, _, _⟩) (v := ?_) rfl (by kernel_rfl) (by kernel_rfl) (by kernel_rfl) (fun _ _ _ h => h) (Or.inl ⟨by rfl, ?_⟩) (by assumption) ?_
      case refine_2 => (intro w hSw; skip; go_simp; first | done | with_reducible rfl)
      simp only [Act.put, qA, qB, qC]
      refine wpAnyH_take (i := 4) (oi := ⟨some 62, _, _, _, _, _⟩) (v := ?_) rfl (by kernel_rfl) (by kernel_rfl) (by kernel_rfl) (fun _ _ _ h => h) (Or.inl ⟨by rfl, ?_⟩) (by assumption) ?_
      case refine_2 => (intro w hSw; skip; go_simp; (try rw [if_pos (by omega)]); first | done | with_reducible rfl)
      simp only [Act.put, qA, qB, qC]
      refine wpAnyH_take (i := 5) (oi := ⟨some 63, _, _, _, _, _⟩) (v := ?_) rfl (by kernel_rfl) (by kernel_rfl) (by kernel_rfl) (fun _ _ _ h => h) (Or.inl ⟨by rfl, ?_⟩) (by assumption) ?_
      case refine_2 => (intro w hSw; have p := (B.keep hSw).cell; have v0 := (hSw.cell (p := ⟨b, off, none⟩) hb).trans u0; have v1 := (hSw.cell (p := ⟨b, off + 1, none⟩) hb).trans u1; go_simp; first | done | with_reducible rfl)
      simp only [Act.put, qA, qB, qC]
      refine wpAnyH_take (i := 6) (oi := ⟨some 64, _, _, _, _, _⟩) (v := ?_) rfl (by kernel_rfl) (by kernel_rfl) (by kernel_rfl) (fun _ _ _ h => h) (Or.inl ⟨by rfl, ?_⟩) (by assumption) ?_
      case refine_2 => (intro w hSw; skip; go_simp; (try rw [if_neg (by omega)]); first | done | with_reducible rfl)
      simp only [Act.put, qA, qB, qC]
      refine wpAnyH_take (i := 7) (oi := ⟨some 65, _, _, _, _, _⟩) (v := ?_) rfl (by kernel_rfl) (by kernel_rfl) (by kernel_rfl) (fun _ _ _ h => h) (Or.inl ⟨by rfl, ?_⟩) (by assumption) ?_
      case refine_2 => (intro w hSw; skip; go_simp; (try rw [if_neg (by omega)]); first | done | with_reducible rfl)
      simp only [Act.put, qA, qB, qC]
      refine wpAnyH_take (i := 8) (oi := ⟨some 66, _, _, _, _, _⟩) (v := ?_) rfl (by kernel_rfl) (by kernel_rfl) (by kernel_rfl) (fun _ _ _ h => h) (Or.inl ⟨by rfl, ?_⟩) (by assumption) ?_
      case refine_2 => (intro w hSw; skip; go_simp; first | done | with_reducible rfl)
      simp only [Act.put, qA, qB, qC]
      refine wpAnyH_take (i := 9) (oi := ⟨some 67, _, _, _, _, _⟩) (v := ?_) rfl (by kernel_rfl) (by kernel_rfl) (by kernel_rfl) (fun _ _ _ h => h) (Or.inl ⟨by rfl, ?_⟩) (by assumption) ?_
      case refine_2 => (intro w hSw; skip; go_simp; (try rw [if_pos (by omega)]); first | done | with_reducible rfl)
      simp only [Act.put, qA, qB, qC]
      refine wpAnyH_take (i := 10) (oi := ⟨some 68, _, _, _, _, _⟩) (v := ?_) rfl (by kernel_rfl) (by kernel_rfl) (by kernel_rfl) (fun _ _ _ h => h) (Or.inl ⟨by rfl, ?_⟩) (by assumption) ?_
      case refine_2 => (intro w hSw; have p := (B.keep hSw).cell; have v0 := (hSw.cell (p := ⟨b, off, none⟩) hb).trans u0; have v1 := (hSw.cell (p := ⟨b, off + 1, none⟩) hb).trans u1; go_simp; first | done | with_reducible rfl)
      simp only [Act.put, qA, qB, qC]
      refine wpAnyH_take (i := 11) (oi := ⟨some 69, _, _, _, _, _⟩) (v := ?_) rfl (by kernel_rfl) (by kernel_rfl) (by kernel_rfl) (fun _ _ _ h => h) (Or.inl ⟨by rfl, ?_⟩) (by assumption) ?_
      case refine_2 => (intro w hSw; skip; go_simp; (try rw [if_neg (by omega)]); first | done | with_reducible rfl)
      simp only [Act.put, qA, qB, qC]
      refine wpAnyH_take (i := 12) (oi := ⟨some 70, _, _, _, _, _⟩) (v := ?_) rfl (by kernel_rfl) (by kernel_rfl) (by kernel_rfl) (fun _ _ _ h => h) (Or.inl ⟨by rfl, ?_⟩) (by assumption) ?_
      case refine_2 => (intro w hSw; skip; go_simp; (try rw [if_neg (by omega)]); first | done | with_reducible rfl)
      simp only [Act.put, qA, qB, qC]
      refine wpAnyH_take (i := 13) (oi := ⟨some 2, _, _, _, _, _⟩) (v := ?_) rfl (by kernel_rfl) (by kernel_rfl) (by kernel_rfl) (fun _ _ _ h => h) (Or.inl ⟨by rfl, ?_⟩) (by assumption) ?_
      case refine_2 => (intro w hSw; skip; go_simp; first | done | with_reducible rfl)
      simp only [Act.put, qA, qB, qC]
      refine wpAnyH_done (by kernel_rfl) ?_ _
      go_wp2_with fail
      go_ret
      exact ⟨ret_str HE.out.symm, bl_trans hL hHeld⟩

set_option maxRecDepth 20000 in
set_option maxHeartbeats 4000000 in
theorem sStx_4 (K : Nat) (zs zt : ByteArray) (x : Fr (Int × Int × ByteArray)) (p q : St) (X : Option Addr) (cx : Nat) (P : Option Addr) (cp : Nat) (Q : Option Addr) (cq : Nat) (w : World) (hK : x.size + p.size + q.size ≤ K) (hl : x.size + p.size + q.size ≤ 1048576) (hwt : zs.size + zt.size + wt gExpr x + wtS gExpr p + wtS gExpr q ≤ 1048576) (hh : headS 4 zs zt x p.len q.len = true) (ht : termsB x = true) (hoP : okNA cntS.here p.fr = true) (hoQ : okNA cntS.here q.fr = true) (hT : Tab w) (hX : Tri w 0 w.heap.size X x P p Q q) (ih : ∀ (zk : Int) (zs zt : ByteArray) (x : Fr (Int × Int × ByteArray)) (p q : St) (X : Option Addr) (cx : Nat) (P : Option Addr) (cp : Nat) (Q : Option Addr) (cq : Nat), x.size + p.size + q.size < K → zs.size + zt.size + wt gExpr x + wtS gExpr p + wtS gExpr q ≤ 1048576 → headS zk zs zt x p.len q.len = true → termsB x = true → okNA cntS.here p.fr = true → okNA cntS.here q.fr = true → ∀ (w : World), Tab w → Tri w 0 w.heap.size X x P p Q q → Calls Tryz.prog 29 #[.agg #[.int .i64 zk, .string zs, .string zt, .slice X x.len cx, .slice P p.len cp, .slice Q q.len cq]] w fun e w' => e = .returned (.string (stx (zk, zs, zt) (rowX x) (blkT (rowS p)) (blkT (rowS q)) (decide (0 < q.len)))) ∧ Below w.heap.size w w') :
    Calls Tryz.prog 29 #[.agg #[.int .i64 4, .string zs, .string zt, .slice X x.len cx, .slice P p.len cp, .slice Q q.len cq]] w fun e w' => e = .returned (.string (stx (4, zs, zt) (rowX x) (blkT (rowS p)) (blkT (rowS q)) (decide (0 < q.len)))) ∧ Below w.heap.size w w' := by
  have B := Blk.new w 40 #[.int .i64 4, .string zs, .string zt, .slice X x.len cx, .slice P p.len cp, .slice Q q.len cq]
  have L0 := bl_alloc (Below.refl w.heap.size w) (.cells #[.int .i64 4, .string zs, .string zt, .slice X x.len cx, .slice P p.len cp, .slice Q q.len cq] 40)
  have hok := termsB_ok x ht
  have _ := hK
  have _ := ih
  have _ := hl
  have _ := hoP
  have _ := hoQ
  have _ := hh
  have HL := Lib.hid (rowX_len x)
  have hlx := x.len_size
  have HA := Lib.hid hok
  obtain ⟨i0, hi, hz0, hz1, hz2⟩ := info_parts info_str
  have hlen : x.len = 2 := by
    rw [headS_4] at hh
    simp at hh
    omega
  have HLEN := Lib.hid hlen
  clear hlen
  have ht0 : ((rowX x).getD 0 ⟨#[]⟩).size ≤ 70000000 := by
    have g1 := getX_two (rowX x)
    have g2 := lenX_wt x
    omega
  have hu0 : (sVs (rowX x))[0]? = some (.string ((rowX x).getD 0 ⟨#[]⟩)) := sVs_getD (by rw [HL.out]; have := HLEN.out; omega)
  have ht1 : ((rowX x).getD 1 ⟨#[]⟩).size ≤ 70000000 := by
    have g1 := getX_two (rowX x)
    have g2 := lenX_wt x
    omega
  have hu1 : (sVs (rowX x))[1]? = some (.string ((rowX x).getD 1 ⟨#[]⟩)) := sVs_getD (by rw [HL.out]; have := HLEN.out; omega)
  have HE := Lib.hid (show stx (4, zs, zt) (rowX x) (blkT (rowS p)) (blkT (rowS q)) (decide (0 < q.len)) = (((((⟨#[36]⟩ : ByteArray) ++ ((rowX x).getD 0 ⟨#[]⟩)) ++ ⟨#[32, 61, 32]⟩) ++ ((rowX x).getD 1 ⟨#[]⟩)) ++ ⟨#[59]⟩) from rfl)
  generalize (rowX x).getD 0 ⟨#[]⟩ = t0 at hu0 ht0 HE
  generalize (rowX x).getD 1 ⟨#[]⟩ = t1 at hu1 ht1 HE
  have HU0 := Lib.hid hu0
  clear hu0
  have HU1 := Lib.hid hu1
  clear hu1
  clear ih hh hok
  have z1 : ((⟨#[36]⟩ : ByteArray) ++ t0).size = 1 + t0.size := by rw [ByteArray.size_append]; rfl
  have z2 : (((⟨#[36]⟩ : ByteArray) ++ t0) ++ ⟨#[32, 61, 32]⟩).size = 1 + t0.size + 3 := by rw [ByteArray.size_append, z1]; rfl
  have z3 : ((((⟨#[36]⟩ : ByteArray) ++ t0) ++ ⟨#[32, 61, 32]⟩) ++ t1).size = 1 + t0.size + 3 + t1.size := by rw [ByteArray.size_append, z2]
  have z4 : (((((⟨#[36]⟩ : ByteArray) ++ t0) ++ ⟨#[32, 61, 32]⟩) ++ t1) ++ ⟨#[59]⟩).size = 1 + t0.size + 3 + t1.size + 1 := by rw [ByteArray.size_append, z3]; rfl
  have hO0 := World.ownsRow_made (e := 9) (size := 1) (base := w.heap.size + 1) (w.alloc (.cells #[.int .i64 4, .string zs, .string zt, .slice X x.len cx, .slice P p.len cp, .slice Q q.len cq] 40)) #[] 0 (by rw [alloc_size]; exact Nat.le_refl _) (by simp [maxLen]) (by simp)
  rw [alloc_size] at hO0
  have HO0 := Lib.hid hO0
  clear hO0
  go_enter Tryz.func29, Tryz.ntmps29
  go_wp2_with fail
  go_loopw [3, 4] (fun v i wr => ∃ kk : Nat, kk ≤ x.len ∧ i = .int .i64 kk ∧ wr.ownsRow (w.heap.size + 1) 9 1 v kk (sVs ((rowX x).take kk)) ∧ Blk wr w.heap.size 40 #[.int .i64 4, .string zs, .string zt, .slice X x.len cx, .slice P p.len cp, .slice Q q.len cq] ∧ Below w.heap.size w wr) (fun _ i _ => x.len - (intOf i).toNat)
  case atStart => exact ⟨0, Nat.zero_le _, rfl, HO0.out, B.alloc _, bl_alloc L0 _⟩
  case round =>
    clear B L0
    obtain ⟨kk, hkk, rfl, hO, B, hL⟩ := hrel
    have cb := B.cell
    by_cases hlt : kk < x.len
    · obtain ⟨b, o, l, k1, A1, c1, hAe, hb, hd, hks, hSk, q0, q1, q2, q3⟩ := at_Expr (hX.1.below hL (Nat.le_refl _)) hlt
      subst hAe
      obtain ⟨h1, h2⟩ := okNA_at HA.out hd
      have hwa := wtE_at hd
      have hat := rowX_at hlt hd
      obtain ⟨yk, yn, ys⟩ := l
      simp only at q0 q1 q2 h1 hwa hat
      have hlt' : (kk : Int) < (x.len : Int) := by omega
      have hkl : (x.len : Int) ≤ 1048576 := by omega
      have HT := Lib.hid (show (rowX x).take (kk + 1) = (rowX x).take kk ++ [txE (yk, yn, ys) (rowX k1)] by rw [List.take_succ_eq_append_getElem (by rw [HL.out]; exact hlt), hat])
      have C := sTextE_any k1.size (by omega) k1 (Nat.le_refl _) yk yn ys A1 c1 wr h1 h2 (by omega) (hT.keep hL) (hSk.more (Nat.le_refl _) hL.size)
      generalize txE (yk, yn, ys) (rowX k1) = t at C HT
      have CC := Lib.hid C
      clear C hat hd h1 h2
      go_wp2_with fail
      refine CC.out.mono ?_; rintro e w1 ⟨rfl, b1⟩
      have hL2 := bl_trans hL b1
      have hO2 := ((Row.mk hO).keep b1).1
      have hB1 := B.keep b1
      go_wp2_with (at_builtin; refine wpList_push rfl _ _ 59 rfl (w.heap.size + 1) 9 i0 (.string ⟨#[]⟩) 1 16 Tryz.underlying59 hi hz0 hz1 hz2 rfl (by decide) _ _ _ rfl hO2 _ rfl rfl rfl (by omega) (by omega) hB1.lt ?_)
      intro v' w2 hO3 hg3
      have hB2 := hB1.grown hg3 (fun e => by have := (hO2.lt _ e.symm).1; omega)
      go_wp2_with fail
      go_roundw
      case rel => exact ⟨kk + 1, by omega, by go_num, by rw [HT.out, sVs_snocE2]; exact hO3, hB2, hL2.grown hg3 hL2.size (fun q e => by have := (hO2.lt q e).1; omega)⟩
      case measure => simp [intOf]; omega
    · obtain rfl : kk = x.len := by omega
      rw [List.take_of_length_le (by rw [HL.out]; exact Nat.le_refl _)] at hO
      obtain ⟨Av, cv, rfl⟩ := (Row.mk hO).form
      have hR := (Row.mk hO).reads
      have hXw := (hX.below hL (Nat.le_refl _)).more (Nat.le_refl _) hL.size
      have hTw := hT.keep hL
      clear hO
      have hp0 : 0 < x.len := by have := HLEN.out; omega
      obtain ⟨b, off, hAe, hb, hc⟩ := hR.2 hp0
      subst hAe
      have u0 := hc 0 _ HU0.out
      have hl0 : (0 : Int) < (x.len : Int) := by have := HLEN.out; omega
      have u1 := hc 1 _ HU1.out
      have hl1 : (1 : Int) < (x.len : Int) := by have := HLEN.out; omega
      rw [Nat.add_zero] at u0
      clear hc hR hp0
      go_wp2_with fail
      refine wp_region_held_drew (S := (fun y => Below wr.heap.size wr y)) (by kernel_rfl) ?_ (fun hHeld => ?_)
      · exact (Below.refl _ _).drew
      refine wpAnyH_take (i := 0) (oi := ⟨some 73, _, _, _, _, _⟩) (v := ?_) rfl (by kernel_rfl) (by kernel_rfl) (by kernel_rfl) (fun _ _ _ h => h) (Or.inl ⟨by rfl, ?_⟩) (by assumption) ?_
      case refine_2 => (intro w hSw; skip; go_simp; first | done | with_reducible rfl)
      simp only [Act.put, qA, qB, qC]
      refine wpAnyH_take (i := 1) (oi := ⟨some 74, _, _, _, _, _⟩) (v := ?_) rfl (by kernel_rfl) (by kernel_rfl) (by kernel_rfl) (fun _ _ _ h => h) (Or.inl ⟨by rfl, ?_⟩) (by assumption) ?_
      case refine_2 => (intro w hSw; skip; go_simp; (try rw [if_pos (by omega)]); first | done | with_reducible rfl)
      simp only [Act.put, qA, qB, qC]
      refine wpAnyH_take (i := 2) (oi := ⟨some 75, _, _, _, _, _⟩) (v := ?_) rfl (by kernel_rfl) (by kernel_rfl) (by kernel_rfl) (fun _ _ _ h => h) (Or.inl ⟨by rfl, ?_⟩) (by assumption) ?_
      case refine_2 => (intro w hSw; have p := (B.keep hSw).cell; have v0 := (hSw.cell (p := ⟨b, off, none⟩) hb).trans u0; have v1 := (hSw.cell (p := ⟨b, off + 1, none⟩) hb).trans u1; go_simp; first | done | with_reducible rfl)
      simp only [Act.put, qA, qB, qC]
      refine wpAnyH_take (i := 3) (oi := ⟨some 76, _, _, _, _, _⟩) (v := ?_) rfl (by kernel_rfl) (by kernel_rfl) (by kernel_rfl) (fun _ _ _ h => h) (Or.inl ⟨by rfl, ?_⟩) (by assumption) ?_
      case refine_2 => (intro w hSw; skip; go_simp; (try rw [if_neg (by omega)]); first | done | with_reducible rfl)
      simp only [Act.put, qA, qB, qC]
      refine wpAnyH_take (i := 4) (oi := ⟨some 77, _, _, _, _, _⟩) (v := ?_) rfl (by kernel_rfl) (by kernel_rfl) (by kernel_rfl) (fun _ _ _ h => h) (Or.inl ⟨by rfl, ?_⟩) (by assumption) ?_
      case refine_2 => (intro w hSw; skip; go_simp; (try rw [if_neg (by omega)]); first | done | with_reducible rfl)
      simp only [Act.put, qA, qB, qC]
      refine wpAnyH_take (i := 5) (oi := ⟨some 78, _, _, _, _, _⟩) (v := ?_) rfl (by kernel_rfl) (by kernel_rfl) (by kernel_rfl) (fun _ _ _ h => h) (Or.inl ⟨by rfl, ?_⟩) (by assumption) ?_
      case refine_2 => (intro w hSw; skip; go_simp; first | done | with_reducible rfl)
      simp only [Act.put, qA, qB, qC]
      refine wpAnyH_take (i := 6) (oi := ⟨some 79, _, _, _, _, _⟩) (v := ?_) rfl (by kernel_rfl) (by kernel_rfl) (by kernel_rfl) (fun _ _ _ h => h) (Or.inl ⟨by rfl, ?_⟩) (by assumption) ?_
      case refine_2 => (intro w hSw; skip; go_simp; (try rw [if_pos (by omega)]); first | done | with_reducible rfl)
      simp only [Act.put, qA, qB, qC]
      refine wpAnyH_take (i := 7) (oi := ⟨some 80, _, _, _, _, _⟩) (v := ?_) rfl (by kernel_rfl) (by kernel_rfl) (by kernel_rfl) (fun _ _ _ h => h) (Or.inl ⟨by rfl, ?_⟩) (by assumption) ?_
      case refine_2 => (intro w hSw; have p := (B.keep hSw).cell; have v0 := (hSw.cell (p := ⟨b, off, none⟩) hb).trans u0; have v1 := (hSw.cell (p := ⟨b, off + 1, none⟩) hb).trans u1; go_simp; first | done | with_reducible rfl)
      simp only [Act.put, qA, qB, qC]
      refine wpAnyH_take (i := 8) (oi := ⟨some 81, _, _, _, _, _⟩) (v := ?_) rfl (by kernel_rfl) (by kernel_rfl) (by kernel_rfl) (fun _ _ _ h => h) (Or.inl ⟨by rfl, ?_⟩) (by assumption) ?_
      case refine_2 => (intro w hSw; skip; go_simp; (try rw [if_neg (by omega)]); first | done | with_reducible rfl)
      simp only [Act.put, qA, qB, qC]
      refine wpAnyH_take (i := 9) (oi := ⟨some 82, _, _, _, _, _⟩) (v := ?_) rfl (by kernel_rfl) (by kernel_rfl) (by kernel_rfl) (fun _ _ _ h => h) (Or.inl ⟨by rfl, ?_⟩) (by assumption) ?_
      case refine_2 => (intro w hSw; skip; go_simp; (try rw [if_neg (by omega)]); first | done | with_reducible rfl)
      simp only [Act.put, qA, qB, qC]
      refine wpAnyH_take (i := 10) (oi := ⟨some 2, _, _, _, _, _⟩) (v := ?_) rfl (by kernel_rfl) (by kernel_rfl) (by kernel_rfl) (fun _ _ _ h => h) (Or.inl ⟨by rfl, ?_⟩) (by assumption) ?_
      case refine_2 => (intro w hSw; skip; go_simp; first | done | with_reducible rfl)
      simp only [Act.put, qA, qB, qC]
      refine wpAnyH_done (by kernel_rfl) ?_ _
      go_wp2_with fail
      go_ret
      exact ⟨ret_str HE.out.symm, bl_trans hL hHeld⟩

set_option maxRecDepth 20000 in
set_option maxHeartbeats 4000000 in
theorem sStx_5 (K : Nat) (zs zt : ByteArray) (x : Fr (Int × Int × ByteArray)) (p q : St) (X : Option Addr) (cx : Nat) (P : Option Addr) (cp : Nat) (Q : Option Addr) (cq : Nat) (w : World) (hK : x.size + p.size + q.size ≤ K) (hl : x.size + p.size + q.size ≤ 1048576) (hwt : zs.size + zt.size + wt gExpr x + wtS gExpr p + wtS gExpr q ≤ 1048576) (hh : headS 5 zs zt x p.len q.len = true) (ht : termsB x = true) (hoP : okNA cntS.here p.fr = true) (hoQ : okNA cntS.here q.fr = true) (hT : Tab w) (hX : Tri w 0 w.heap.size X x P p Q q) (ih : ∀ (zk : Int) (zs zt : ByteArray) (x : Fr (Int × Int × ByteArray)) (p q : St) (X : Option Addr) (cx : Nat) (P : Option Addr) (cp : Nat) (Q : Option Addr) (cq : Nat), x.size + p.size + q.size < K → zs.size + zt.size + wt gExpr x + wtS gExpr p + wtS gExpr q ≤ 1048576 → headS zk zs zt x p.len q.len = true → termsB x = true → okNA cntS.here p.fr = true → okNA cntS.here q.fr = true → ∀ (w : World), Tab w → Tri w 0 w.heap.size X x P p Q q → Calls Tryz.prog 29 #[.agg #[.int .i64 zk, .string zs, .string zt, .slice X x.len cx, .slice P p.len cp, .slice Q q.len cq]] w fun e w' => e = .returned (.string (stx (zk, zs, zt) (rowX x) (blkT (rowS p)) (blkT (rowS q)) (decide (0 < q.len)))) ∧ Below w.heap.size w w') :
    Calls Tryz.prog 29 #[.agg #[.int .i64 5, .string zs, .string zt, .slice X x.len cx, .slice P p.len cp, .slice Q q.len cq]] w fun e w' => e = .returned (.string (stx (5, zs, zt) (rowX x) (blkT (rowS p)) (blkT (rowS q)) (decide (0 < q.len)))) ∧ Below w.heap.size w w' := by
  have B := Blk.new w 40 #[.int .i64 5, .string zs, .string zt, .slice X x.len cx, .slice P p.len cp, .slice Q q.len cq]
  have L0 := bl_alloc (Below.refl w.heap.size w) (.cells #[.int .i64 5, .string zs, .string zt, .slice X x.len cx, .slice P p.len cp, .slice Q q.len cq] 40)
  have hok := termsB_ok x ht
  have _ := hK
  have _ := ih
  have _ := hl
  have _ := hoP
  have _ := hoQ
  have _ := hh
  have HL := Lib.hid (rowX_len x)
  have hlx := x.len_size
  have HA := Lib.hid hok
  obtain ⟨i0, hi, hz0, hz1, hz2⟩ := info_parts info_str
  have hlen : x.len = 1 := by
    rw [headS_5] at hh
    simp at hh
    omega
  have HLEN := Lib.hid hlen
  clear hlen
  have cP := fun w' hT' hS' => sLines K p P cp w' (by omega) (by omega) (by omega) hoP hT' hS' ih
  have htP := blks_size (s := p) (by omega)
  have cQ := fun w' hT' hS' => sLines K q Q cq w' (by omega) (by omega) (by omega) hoQ hT' hS' ih
  have htQ := blks_size (s := q) (by omega)
  have ht0 : ((rowX x).getD 0 ⟨#[]⟩).size ≤ 70000000 := by
    have g1 := getX_two (rowX x)
    have g2 := lenX_wt x
    omega
  have hu0 : (sVs (rowX x))[0]? = some (.string ((rowX x).getD 0 ⟨#[]⟩)) := sVs_getD (by rw [HL.out]; have := HLEN.out; omega)
  have HE0 := Lib.hid (show stx (5, zs, zt) (rowX x) (blkT (rowS p)) (blkT (rowS q)) false = ((((⟨#[105, 102, 32, 40]⟩ : ByteArray) ++ ((rowX x).getD 0 ⟨#[]⟩)) ++ ⟨#[41, 32]⟩) ++ (blkT (rowS p))) from rfl)
  have HE1 := Lib.hid (show stx (5, zs, zt) (rowX x) (blkT (rowS p)) (blkT (rowS q)) true = ((((((⟨#[105, 102, 32, 40]⟩ : ByteArray) ++ ((rowX x).getD 0 ⟨#[]⟩)) ++ ⟨#[41, 32]⟩) ++ (blkT (rowS p))) ++ ⟨#[32, 101, 108, 115, 101, 32]⟩) ++ (blkT (rowS q))) from rfl)
  generalize (rowX x).getD 0 ⟨#[]⟩ = t0 at hu0 ht0 HE0 HE1
  generalize blkT (rowS p) = tP at cP htP HE0 HE1
  generalize blkT (rowS q) = tQ at cQ htQ HE0 HE1
  have CP := Lib.hid cP
  clear cP
  have CQ := Lib.hid cQ
  clear cQ
  have HU0 := Lib.hid hu0
  clear hu0
  clear ih hh hok
  have z1 : ((⟨#[105, 102, 32, 40]⟩ : ByteArray) ++ t0).size = 4 + t0.size := by rw [ByteArray.size_append]; rfl
  have z2 : (((⟨#[105, 102, 32, 40]⟩ : ByteArray) ++ t0) ++ ⟨#[41, 32]⟩).size = 4 + t0.size + 2 := by rw [ByteArray.size_append, z1]; rfl
  have z3 : ((((⟨#[105, 102, 32, 40]⟩ : ByteArray) ++ t0) ++ ⟨#[41, 32]⟩) ++ tP).size = 4 + t0.size + 2 + tP.size := by rw [ByteArray.size_append, z2]
  have y1 : ((⟨#[105, 102, 32, 40]⟩ : ByteArray) ++ t0).size = 4 + t0.size := by rw [ByteArray.size_append]; rfl
  have y2 : (((⟨#[105, 102, 32, 40]⟩ : ByteArray) ++ t0) ++ ⟨#[41, 32]⟩).size = 4 + t0.size + 2 := by rw [ByteArray.size_append, y1]; rfl
  have y3 : ((((⟨#[105, 102, 32, 40]⟩ : ByteArray) ++ t0) ++ ⟨#[41, 32]⟩) ++ tP).size = 4 + t0.size + 2 + tP.size := by rw [ByteArray.size_append, y2]
  have y4 : (((((⟨#[105, 102, 32, 40]⟩ : ByteArray) ++ t0) ++ ⟨#[41, 32]⟩) ++ tP) ++ ⟨#[32, 101, 108, 115, 101, 32]⟩).size = 4 + t0.size + 2 + tP.size + 6 := by rw [ByteArray.size_append, y3]; rfl
  have y5 : ((((((⟨#[105, 102, 32, 40]⟩ : ByteArray) ++ t0) ++ ⟨#[41, 32]⟩) ++ tP) ++ ⟨#[32, 101, 108, 115, 101, 32]⟩) ++ tQ).size = 4 + t0.size + 2 + tP.size + 6 + tQ.size := by rw [ByteArray.size_append, y4]
  have hO0 := World.ownsRow_made (e := 9) (size := 1) (base := w.heap.size + 1) (w.alloc (.cells #[.int .i64 5, .string zs, .string zt, .slice X x.len cx, .slice P p.len cp, .slice Q q.len cq] 40)) #[] 0 (by rw [alloc_size]; exact Nat.le_refl _) (by simp [maxLen]) (by simp)
  rw [alloc_size] at hO0
  have HO0 := Lib.hid hO0
  clear hO0
  go_enter Tryz.func29, Tryz.ntmps29
  go_wp2_with fail
  go_loopw [3, 4] (fun v i wr => ∃ kk : Nat, kk ≤ x.len ∧ i = .int .i64 kk ∧ wr.ownsRow (w.heap.size + 1) 9 1 v kk (sVs ((rowX x).take kk)) ∧ Blk wr w.heap.size 40 #[.int .i64 5, .string zs, .string zt, .slice X x.len cx, .slice P p.len cp, .slice Q q.len cq] ∧ Below w.heap.size w wr) (fun _ i _ => x.len - (intOf i).toNat)
  case atStart => exact ⟨0, Nat.zero_le _, rfl, HO0.out, B.alloc _, bl_alloc L0 _⟩
  case round =>
    clear B L0
    obtain ⟨kk, hkk, rfl, hO, B, hL⟩ := hrel
    have cb := B.cell
    by_cases hlt : kk < x.len
    · obtain ⟨b, o, l, k1, A1, c1, hAe, hb, hd, hks, hSk, q0, q1, q2, q3⟩ := at_Expr (hX.1.below hL (Nat.le_refl _)) hlt
      subst hAe
      obtain ⟨h1, h2⟩ := okNA_at HA.out hd
      have hwa := wtE_at hd
      have hat := rowX_at hlt hd
      obtain ⟨yk, yn, ys⟩ := l
      simp only at q0 q1 q2 h1 hwa hat
      have hlt' : (kk : Int) < (x.len : Int) := by omega
      have hkl : (x.len : Int) ≤ 1048576 := by omega
      have HT := Lib.hid (show (rowX x).take (kk + 1) = (rowX x).take kk ++ [txE (yk, yn, ys) (rowX k1)] by rw [List.take_succ_eq_append_getElem (by rw [HL.out]; exact hlt), hat])
      have C := sTextE_any k1.size (by omega) k1 (Nat.le_refl _) yk yn ys A1 c1 wr h1 h2 (by omega) (hT.keep hL) (hSk.more (Nat.le_refl _) hL.size)
      generalize txE (yk, yn, ys) (rowX k1) = t at C HT
      have CC := Lib.hid C
      clear C hat hd h1 h2
      go_wp2_with fail
      refine CC.out.mono ?_; rintro e w1 ⟨rfl, b1⟩
      have hL2 := bl_trans hL b1
      have hO2 := ((Row.mk hO).keep b1).1
      have hB1 := B.keep b1
      go_wp2_with (at_builtin; refine wpList_push rfl _ _ 59 rfl (w.heap.size + 1) 9 i0 (.string ⟨#[]⟩) 1 16 Tryz.underlying59 hi hz0 hz1 hz2 rfl (by decide) _ _ _ rfl hO2 _ rfl rfl rfl (by omega) (by omega) hB1.lt ?_)
      intro v' w2 hO3 hg3
      have hB2 := hB1.grown hg3 (fun e => by have := (hO2.lt _ e.symm).1; omega)
      go_wp2_with fail
      go_roundw
      case rel => exact ⟨kk + 1, by omega, by go_num, by rw [HT.out, sVs_snocE2]; exact hO3, hB2, hL2.grown hg3 hL2.size (fun q e => by have := (hO2.lt q e).1; omega)⟩
      case measure => simp [intOf]; omega
    · obtain rfl : kk = x.len := by omega
      rw [List.take_of_length_le (by rw [HL.out]; exact Nat.le_refl _)] at hO
      obtain ⟨Av, cv, rfl⟩ := (Row.mk hO).form
      have hR := (Row.mk hO).reads
      have hXw := (hX.below hL (Nat.le_refl _)).more (Nat.le_refl _) hL.size
      have hTw := hT.keep hL
      clear hO
      have hp0 : 0 < x.len := by have := HLEN.out; omega
      obtain ⟨b, off, hAe, hb, hc⟩ := hR.2 hp0
      subst hAe
      have u0 := hc 0 _ HU0.out
      have hl0 : (0 : Int) < (x.len : Int) := by have := HLEN.out; omega
      rw [Nat.add_zero] at u0
      clear hc hR hp0
      by_cases hq0 : 0 < q.len
      · have hq1 : ((q.len : Int) == 0) = false := beq_eq_false_iff_ne.2 (by omega)
        have HD := Lib.hid (show decide (0 < q.len) = true from decide_eq_true hq0)
        clear hq0
        go_wp2_with fail
        refine wp_region_held_drew (S := (fun y => Below wr.heap.size wr y)) (by kernel_rfl) ?_ (fun hHeld => ?_)
        · exact (Below.refl _ _).drew
        refine wpAnyH_take (i := 0) (oi := ⟨some 98, _, _, _, _, _⟩) (v := ?_) rfl (by kernel_rfl) (by kernel_rfl) (by kernel_rfl) (fun _ _ _ h => h) (Or.inl ⟨by rfl, ?_⟩) (by assumption) ?_
        case refine_2 => (intro w hSw; skip; go_simp; first | done | with_reducible rfl)
        simp only [Act.put, qA, qB, qC]
        refine wpAnyH_take (i := 1) (oi := ⟨some 99, _, _, _, _, _⟩) (v := ?_) rfl (by kernel_rfl) (by kernel_rfl) (by kernel_rfl) (fun _ _ _ h => h) (Or.inl ⟨by rfl, ?_⟩) (by assumption) ?_
        case refine_2 => (intro w hSw; skip; go_simp; (try rw [if_pos (by omega)]); first | done | with_reducible rfl)
        simp only [Act.put, qA, qB, qC]
        refine wpAnyH_take (i := 2) (oi := ⟨some 100, _, _, _, _, _⟩) (v := ?_) rfl (by kernel_rfl) (by kernel_rfl) (by kernel_rfl) (fun _ _ _ h => h) (Or.inl ⟨by rfl, ?_⟩) (by assumption) ?_
        case refine_2 => (intro w hSw; have p := (B.keep hSw).cell; have v0 := (hSw.cell (p := ⟨b, off, none⟩) hb).trans u0; go_simp; first | done | with_reducible rfl)
        simp only [Act.put, qA, qB, qC]
        refine wpAnyH_take (i := 3) (oi := ⟨some 101, _, _, _, _, _⟩) (v := ?_) rfl (by kernel_rfl) (by kernel_rfl) (by kernel_rfl) (fun _ _ _ h => h) (Or.inl ⟨by rfl, ?_⟩) (by assumption) ?_
        case refine_2 => (intro w hSw; skip; go_simp; (try rw [if_neg (by omega)]); first | done | with_reducible rfl)
        simp only [Act.put, qA, qB, qC]
        refine wpAnyH_take (i := 4) (oi := ⟨some 102, _, _, _, _, _⟩) (v := ?_) rfl (by kernel_rfl) (by kernel_rfl) (by kernel_rfl) (fun _ _ _ h => h) (Or.inl ⟨by rfl, ?_⟩) (by assumption) ?_
        case refine_2 => (intro w hSw; skip; go_simp; (try rw [if_neg (by omega)]); first | done | with_reducible rfl)
        simp only [Act.put, qA, qB, qC]
        refine wpAnyH_take (i := 5) (oi := ⟨some 103, _, _, _, _, _⟩) (v := ?_) rfl (by kernel_rfl) (by kernel_rfl) (by kernel_rfl) (fun _ _ _ h => h) (Or.inl ⟨by rfl, ?_⟩) (by assumption) ?_
        case refine_2 => (intro w hSw; skip; go_simp; first | done | with_reducible rfl)
        simp only [Act.put, qA, qB, qC]
        refine wpAnyH_take (i := 6) (oi := ⟨some 104, _, _, _, _, _⟩) (v := ?_) rfl (by kernel_rfl) (by kernel_rfl) (by kernel_rfl) (fun _ _ _ h => h) (Or.inl ⟨by rfl, ?_⟩) (by assumption) ?_
        case refine_2 => (intro w hSw; have p := (B.keep hSw).cell; have v0 := (hSw.cell (p := ⟨b, off, none⟩) hb).trans u0; go_simp; first | done | with_reducible rfl)
        simp only [Act.put, qA, qB, qC]
        refine wpAnyH_take (i := 10) (oi := ⟨some 108, _, _, _, _, _⟩) (v := ?_) rfl (by kernel_rfl) (by kernel_rfl) (by kernel_rfl) (fun _ _ _ h => h) (Or.inl ⟨by rfl, ?_⟩) (by assumption) ?_
        case refine_2 => (intro w hSw; skip; go_simp; first | done | with_reducible rfl)
        simp only [Act.put, qA, qB, qC]
        refine wpAnyH_take (i := 11) (oi := ⟨some 109, _, _, _, _, _⟩) (v := ?_) rfl (by kernel_rfl) (by kernel_rfl) (by kernel_rfl) (fun _ _ _ h => h) (Or.inl ⟨by rfl, ?_⟩) (by assumption) ?_
        case refine_2 => (intro w hSw; have p := (B.keep hSw).cell; have v0 := (hSw.cell (p := ⟨b, off, none⟩) hb).trans u0; go_simp; first | done | with_reducible rfl)
        simp only [Act.put, qA, qB, qC]
        refine wpAnyH_ready (rs := [7]) (by kernel_rfl) (by simp) ?_
        refine AllReadyH.cons (o := ⟨some 105, _, _, _, _, _⟩) rfl (fun K hK => ?_) AllReadyH.nil
        go_simp
        refine (CP.out _ (hTw.keep hHeld) ((hXw.2.1.below hHeld (Nat.le_refl _)).more (Nat.le_refl _) hHeld.size)).mono ?_; rintro e y0_ ⟨rfl, by0⟩
        go_wp2_with fail
        refine hK.out _ _ (bl_trans hHeld by0) (fun hHeld => ?_)
        clear hK K
        try simp only [Act.put, qA, qB, qC]
        refine wpAnyH_take (i := 8) (oi := ⟨some 106, _, _, _, _, _⟩) (v := ?_) rfl (by kernel_rfl) (by kernel_rfl) (by kernel_rfl) (fun _ _ _ h => h) (Or.inl ⟨by rfl, ?_⟩) (by assumption) ?_
        case refine_2 => (intro w hSw; skip; go_simp; (try rw [if_neg (by omega)]); first | done | with_reducible rfl)
        simp only [Act.put, qA, qB, qC]
        refine wpAnyH_take (i := 9) (oi := ⟨some 107, _, _, _, _, _⟩) (v := ?_) rfl (by kernel_rfl) (by kernel_rfl) (by kernel_rfl) (fun _ _ _ h => h) (Or.inl ⟨by rfl, ?_⟩) (by assumption) ?_
        case refine_2 => (intro w hSw; skip; go_simp; (try rw [if_neg (by omega)]); first | done | with_reducible rfl)
        simp only [Act.put, qA, qB, qC]
        refine wpAnyH_ready (rs := [12]) (by kernel_rfl) (by simp) ?_
        refine AllReadyH.cons (o := ⟨some 110, _, _, _, _, _⟩) rfl (fun K hK => ?_) AllReadyH.nil
        go_simp
        refine (CQ.out _ (hTw.keep hHeld) ((hXw.2.2.below hHeld (Nat.le_refl _)).more (Nat.le_refl _) hHeld.size)).mono ?_; rintro e y1_ ⟨rfl, by1⟩
        go_wp2_with fail
        refine hK.out _ _ (bl_trans hHeld by1) (fun hHeld => ?_)
        clear hK K
        try simp only [Act.put, qA, qB, qC]
        refine wpAnyH_take (i := 13) (oi := ⟨some 111, _, _, _, _, _⟩) (v := ?_) rfl (by kernel_rfl) (by kernel_rfl) (by kernel_rfl) (fun _ _ _ h => h) (Or.inl ⟨by rfl, ?_⟩) (by assumption) ?_
        case refine_2 => (intro w hSw; skip; go_simp; (try rw [if_neg (by omega)]); first | done | with_reducible rfl)
        simp only [Act.put, qA, qB, qC]
        refine wpAnyH_take (i := 14) (oi := ⟨some 2, _, _, _, _, _⟩) (v := ?_) rfl (by kernel_rfl) (by kernel_rfl) (by kernel_rfl) (fun _ _ _ h => h) (Or.inl ⟨by rfl, ?_⟩) (by assumption) ?_
        case refine_2 => (intro w hSw; skip; go_simp; first | done | with_reducible rfl)
        simp only [Act.put, qA, qB, qC]
        refine wpAnyH_done (by kernel_rfl) ?_ _
        go_wp2_with fail
        go_ret
        exact ⟨ret_str (by first | rw [HD.out, HE1.out] | rw [HE1.out]), bl_trans hL hHeld⟩
      · have hq2 : q.len = 0 := by omega
        have hq1 : ((q.len : Int) == 0) = true := by simp [hq2]
        have HD := Lib.hid (show decide (0 < q.len) = false from decide_eq_false hq0)
        clear hq0 hq2
        go_wp2_with fail
        refine wp_region_held_drew (S := (fun y => Below wr.heap.size wr y)) (by kernel_rfl) ?_ (fun hHeld => ?_)
        · exact (Below.refl _ _).drew
        refine wpAnyH_take (i := 0) (oi := ⟨some 89, _, _, _, _, _⟩) (v := ?_) rfl (by kernel_rfl) (by kernel_rfl) (by kernel_rfl) (fun _ _ _ h => h) (Or.inl ⟨by rfl, ?_⟩) (by assumption) ?_
        case refine_2 => (intro w hSw; skip; go_simp; first | done | with_reducible rfl)
        simp only [Act.put, qA, qB, qC]
        refine wpAnyH_take (i := 1) (oi := ⟨some 90, _, _, _, _, _⟩) (v := ?_) rfl (by kernel_rfl) (by kernel_rfl) (by kernel_rfl) (fun _ _ _ h => h) (Or.inl ⟨by rfl, ?_⟩) (by assumption) ?_
        case refine_2 => (intro w hSw; skip; go_simp; (try rw [if_pos (by omega)]); first | done | with_reducible rfl)
        simp only [Act.put, qA, qB, qC]
        refine wpAnyH_take (i := 2) (oi := ⟨some 91, _, _, _, _, _⟩) (v := ?_) rfl (by kernel_rfl) (by kernel_rfl) (by kernel_rfl) (fun _ _ _ h => h) (Or.inl ⟨by rfl, ?_⟩) (by assumption) ?_
        case refine_2 => (intro w hSw; have p := (B.keep hSw).cell; have v0 := (hSw.cell (p := ⟨b, off, none⟩) hb).trans u0; go_simp; first | done | with_reducible rfl)
        simp only [Act.put, qA, qB, qC]
        refine wpAnyH_take (i := 3) (oi := ⟨some 92, _, _, _, _, _⟩) (v := ?_) rfl (by kernel_rfl) (by kernel_rfl) (by kernel_rfl) (fun _ _ _ h => h) (Or.inl ⟨by rfl, ?_⟩) (by assumption) ?_
        case refine_2 => (intro w hSw; skip; go_simp; (try rw [if_neg (by omega)]); first | done | with_reducible rfl)
        simp only [Act.put, qA, qB, qC]
        refine wpAnyH_take (i := 4) (oi := ⟨some 93, _, _, _, _, _⟩) (v := ?_) rfl (by kernel_rfl) (by kernel_rfl) (by kernel_rfl) (fun _ _ _ h => h) (Or.inl ⟨by rfl, ?_⟩) (by assumption) ?_
        case refine_2 => (intro w hSw; skip; go_simp; (try rw [if_neg (by omega)]); first | done | with_reducible rfl)
        simp only [Act.put, qA, qB, qC]
        refine wpAnyH_take (i := 5) (oi := ⟨some 94, _, _, _, _, _⟩) (v := ?_) rfl (by kernel_rfl) (by kernel_rfl) (by kernel_rfl) (fun _ _ _ h => h) (Or.inl ⟨by rfl, ?_⟩) (by assumption) ?_
        case refine_2 => (intro w hSw; skip; go_simp; first | done | with_reducible rfl)
        simp only [Act.put, qA, qB, qC]
        refine wpAnyH_take (i := 6) (oi := ⟨some 95, _, _, _, _, _⟩) (v := ?_) rfl (by kernel_rfl) (by kernel_rfl) (by kernel_rfl) (fun _ _ _ h => h) (Or.inl ⟨by rfl, ?_⟩) (by assumption) ?_
        case refine_2 => (intro w hSw; have p := (B.keep hSw).cell; have v0 := (hSw.cell (p := ⟨b, off, none⟩) hb).trans u0; go_simp; first | done | with_reducible rfl)
        simp only [Act.put, qA, qB, qC]
        refine wpAnyH_ready (rs := [7]) (by kernel_rfl) (by simp) ?_
        refine AllReadyH.cons (o := ⟨some 96, _, _, _, _, _⟩) rfl (fun K hK => ?_) AllReadyH.nil
        go_simp
        refine (CP.out _ (hTw.keep hHeld) ((hXw.2.1.below hHeld (Nat.le_refl _)).more (Nat.le_refl _) hHeld.size)).mono ?_; rintro e y0_ ⟨rfl, by0⟩
        go_wp2_with fail
        refine hK.out _ _ (bl_trans hHeld by0) (fun hHeld => ?_)
        clear hK K
        try simp only [Act.put, qA, qB, qC]
        refine wpAnyH_take (i := 8) (oi := ⟨some 97, _, _, _, _, _⟩) (v := ?_) rfl (by kernel_rfl) (by kernel_rfl) (by kernel_rfl) (fun _ _ _ h => h) (Or.inl ⟨by rfl, ?_⟩) (by assumption) ?_
        case refine_2 => (intro w hSw; skip; go_simp; (try rw [if_neg (by omega)]); first | done | with_reducible rfl)
        simp only [Act.put, qA, qB, qC]
        refine wpAnyH_take (i := 9) (oi := ⟨some 2, _, _, _, _, _⟩) (v := ?_) rfl (by kernel_rfl) (by kernel_rfl) (by kernel_rfl) (fun _ _ _ h => h) (Or.inl ⟨by rfl, ?_⟩) (by assumption) ?_
        case refine_2 => (intro w hSw; skip; go_simp; first | done | with_reducible rfl)
        simp only [Act.put, qA, qB, qC]
        refine wpAnyH_done (by kernel_rfl) ?_ _
        go_wp2_with fail
        go_ret
        exact ⟨ret_str (by first | rw [HD.out, HE0.out] | rw [HE0.out]), bl_trans hL hHeld⟩

set_option maxRecDepth 20000 in
set_option maxHeartbeats 4000000 in
theorem sStx_6 (K : Nat) (zs zt : ByteArray) (x : Fr (Int × Int × ByteArray)) (p q : St) (X : Option Addr) (cx : Nat) (P : Option Addr) (cp : Nat) (Q : Option Addr) (cq : Nat) (w : World) (hK : x.size + p.size + q.size ≤ K) (hl : x.size + p.size + q.size ≤ 1048576) (hwt : zs.size + zt.size + wt gExpr x + wtS gExpr p + wtS gExpr q ≤ 1048576) (hh : headS 6 zs zt x p.len q.len = true) (ht : termsB x = true) (hoP : okNA cntS.here p.fr = true) (hoQ : okNA cntS.here q.fr = true) (hT : Tab w) (hX : Tri w 0 w.heap.size X x P p Q q) (ih : ∀ (zk : Int) (zs zt : ByteArray) (x : Fr (Int × Int × ByteArray)) (p q : St) (X : Option Addr) (cx : Nat) (P : Option Addr) (cp : Nat) (Q : Option Addr) (cq : Nat), x.size + p.size + q.size < K → zs.size + zt.size + wt gExpr x + wtS gExpr p + wtS gExpr q ≤ 1048576 → headS zk zs zt x p.len q.len = true → termsB x = true → okNA cntS.here p.fr = true → okNA cntS.here q.fr = true → ∀ (w : World), Tab w → Tri w 0 w.heap.size X x P p Q q → Calls Tryz.prog 29 #[.agg #[.int .i64 zk, .string zs, .string zt, .slice X x.len cx, .slice P p.len cp, .slice Q q.len cq]] w fun e w' => e = .returned (.string (stx (zk, zs, zt) (rowX x) (blkT (rowS p)) (blkT (rowS q)) (decide (0 < q.len)))) ∧ Below w.heap.size w w') :
    Calls Tryz.prog 29 #[.agg #[.int .i64 6, .string zs, .string zt, .slice X x.len cx, .slice P p.len cp, .slice Q q.len cq]] w fun e w' => e = .returned (.string (stx (6, zs, zt) (rowX x) (blkT (rowS p)) (blkT (rowS q)) (decide (0 < q.len)))) ∧ Below w.heap.size w w' := by
  have B := Blk.new w 40 #[.int .i64 6, .string zs, .string zt, .slice X x.len cx, .slice P p.len cp, .slice Q q.len cq]
  have L0 := bl_alloc (Below.refl w.heap.size w) (.cells #[.int .i64 6, .string zs, .string zt, .slice X x.len cx, .slice P p.len cp, .slice Q q.len cq] 40)
  have hok := termsB_ok x ht
  have _ := hK
  have _ := ih
  have _ := hl
  have _ := hoP
  have _ := hoQ
  have _ := hh
  have HL := Lib.hid (rowX_len x)
  have hlx := x.len_size
  have HA := Lib.hid hok
  obtain ⟨i0, hi, hz0, hz1, hz2⟩ := info_parts info_str
  have hlen : x.len = 1 := by
    rw [headS_6] at hh
    simp at hh
    omega
  have HLEN := Lib.hid hlen
  clear hlen
  have cP := fun w' hT' hS' => sLines K p P cp w' (by omega) (by omega) (by omega) hoP hT' hS' ih
  have htP := blks_size (s := p) (by omega)
  have ht0 : ((rowX x).getD 0 ⟨#[]⟩).size ≤ 70000000 := by
    have g1 := getX_two (rowX x)
    have g2 := lenX_wt x
    omega
  have hu0 : (sVs (rowX x))[0]? = some (.string ((rowX x).getD 0 ⟨#[]⟩)) := sVs_getD (by rw [HL.out]; have := HLEN.out; omega)
  have HE := Lib.hid (show stx (6, zs, zt) (rowX x) (blkT (rowS p)) (blkT (rowS q)) (decide (0 < q.len)) = ((((⟨#[119, 104, 105, 108, 101, 32, 40]⟩ : ByteArray) ++ ((rowX x).getD 0 ⟨#[]⟩)) ++ ⟨#[41, 32]⟩) ++ (blkT (rowS p))) from rfl)
  generalize (rowX x).getD 0 ⟨#[]⟩ = t0 at hu0 ht0 HE
  generalize blkT (rowS p) = tP at cP htP HE
  have CP := Lib.hid cP
  clear cP
  have HU0 := Lib.hid hu0
  clear hu0
  clear ih hh hok
  have z1 : ((⟨#[119, 104, 105, 108, 101, 32, 40]⟩ : ByteArray) ++ t0).size = 7 + t0.size := by rw [ByteArray.size_append]; rfl
  have z2 : (((⟨#[119, 104, 105, 108, 101, 32, 40]⟩ : ByteArray) ++ t0) ++ ⟨#[41, 32]⟩).size = 7 + t0.size + 2 := by rw [ByteArray.size_append, z1]; rfl
  have z3 : ((((⟨#[119, 104, 105, 108, 101, 32, 40]⟩ : ByteArray) ++ t0) ++ ⟨#[41, 32]⟩) ++ tP).size = 7 + t0.size + 2 + tP.size := by rw [ByteArray.size_append, z2]
  have hO0 := World.ownsRow_made (e := 9) (size := 1) (base := w.heap.size + 1) (w.alloc (.cells #[.int .i64 6, .string zs, .string zt, .slice X x.len cx, .slice P p.len cp, .slice Q q.len cq] 40)) #[] 0 (by rw [alloc_size]; exact Nat.le_refl _) (by simp [maxLen]) (by simp)
  rw [alloc_size] at hO0
  have HO0 := Lib.hid hO0
  clear hO0
  go_enter Tryz.func29, Tryz.ntmps29
  go_wp2_with fail
  go_loopw [3, 4] (fun v i wr => ∃ kk : Nat, kk ≤ x.len ∧ i = .int .i64 kk ∧ wr.ownsRow (w.heap.size + 1) 9 1 v kk (sVs ((rowX x).take kk)) ∧ Blk wr w.heap.size 40 #[.int .i64 6, .string zs, .string zt, .slice X x.len cx, .slice P p.len cp, .slice Q q.len cq] ∧ Below w.heap.size w wr) (fun _ i _ => x.len - (intOf i).toNat)
  case atStart => exact ⟨0, Nat.zero_le _, rfl, HO0.out, B.alloc _, bl_alloc L0 _⟩
  case round =>
    clear B L0
    obtain ⟨kk, hkk, rfl, hO, B, hL⟩ := hrel
    have cb := B.cell
    by_cases hlt : kk < x.len
    · obtain ⟨b, o, l, k1, A1, c1, hAe, hb, hd, hks, hSk, q0, q1, q2, q3⟩ := at_Expr (hX.1.below hL (Nat.le_refl _)) hlt
      subst hAe
      obtain ⟨h1, h2⟩ := okNA_at HA.out hd
      have hwa := wtE_at hd
      have hat := rowX_at hlt hd
      obtain ⟨yk, yn, ys⟩ := l
      simp only at q0 q1 q2 h1 hwa hat
      have hlt' : (kk : Int) < (x.len : Int) := by omega
      have hkl : (x.len : Int) ≤ 1048576 := by omega
      have HT := Lib.hid (show (rowX x).take (kk + 1) = (rowX x).take kk ++ [txE (yk, yn, ys) (rowX k1)] by rw [List.take_succ_eq_append_getElem (by rw [HL.out]; exact hlt), hat])
      have C := sTextE_any k1.size (by omega) k1 (Nat.le_refl _) yk yn ys A1 c1 wr h1 h2 (by omega) (hT.keep hL) (hSk.more (Nat.le_refl _) hL.size)
      generalize txE (yk, yn, ys) (rowX k1) = t at C HT
      have CC := Lib.hid C
      clear C hat hd h1 h2
      go_wp2_with fail
      refine CC.out.mono ?_; rintro e w1 ⟨rfl, b1⟩
      have hL2 := bl_trans hL b1
      have hO2 := ((Row.mk hO).keep b1).1
      have hB1 := B.keep b1
      go_wp2_with (at_builtin; refine wpList_push rfl _ _ 59 rfl (w.heap.size + 1) 9 i0 (.string ⟨#[]⟩) 1 16 Tryz.underlying59 hi hz0 hz1 hz2 rfl (by decide) _ _ _ rfl hO2 _ rfl rfl rfl (by omega) (by omega) hB1.lt ?_)
      intro v' w2 hO3 hg3
      have hB2 := hB1.grown hg3 (fun e => by have := (hO2.lt _ e.symm).1; omega)
      go_wp2_with fail
      go_roundw
      case rel => exact ⟨kk + 1, by omega, by go_num, by rw [HT.out, sVs_snocE2]; exact hO3, hB2, hL2.grown hg3 hL2.size (fun q e => by have := (hO2.lt q e).1; omega)⟩
      case measure => simp [intOf]; omega
    · obtain rfl : kk = x.len := by omega
      rw [List.take_of_length_le (by rw [HL.out]; exact Nat.le_refl _)] at hO
      obtain ⟨Av, cv, rfl⟩ := (Row.mk hO).form
      have hR := (Row.mk hO).reads
      have hXw := (hX.below hL (Nat.le_refl _)).more (Nat.le_refl _) hL.size
      have hTw := hT.keep hL
      clear hO
      have hp0 : 0 < x.len := by have := HLEN.out; omega
      obtain ⟨b, off, hAe, hb, hc⟩ := hR.2 hp0
      subst hAe
      have u0 := hc 0 _ HU0.out
      have hl0 : (0 : Int) < (x.len : Int) := by have := HLEN.out; omega
      rw [Nat.add_zero] at u0
      clear hc hR hp0
      go_wp2_with fail
      refine wp_region_held_drew (S := (fun y => Below wr.heap.size wr y)) (by kernel_rfl) ?_ (fun hHeld => ?_)
      · exact (Below.refl _ _).drew
      refine wpAnyH_take (i := 0) (oi := ⟨some 114, _, _, _, _, _⟩) (v := ?_) rfl (by kernel_rfl) (by kernel_rfl) (by kernel_rfl) (fun _ _ _ h => h) (Or.inl ⟨by rfl, ?_⟩) (by assumption) ?_
      case refine_2 => (intro w hSw; skip; go_simp; first | done | with_reducible rfl)
      simp only [Act.put, qA, qB, qC]
      refine wpAnyH_take (i := 1) (oi := ⟨some 115, _, _, _, _, _⟩) (v := ?_) rfl (by kernel_rfl) (by kernel_rfl) (by kernel_rfl) (fun _ _ _ h => h) (Or.inl ⟨by rfl, ?_⟩) (by assumption) ?_
      case refine_2 => (intro w hSw; skip; go_simp; (try rw [if_pos (by omega)]); first | done | with_reducible rfl)
      simp only [Act.put, qA, qB, qC]
      refine wpAnyH_take (i := 2) (oi := ⟨some 116, _, _, _, _, _⟩) (v := ?_) rfl (by kernel_rfl) (by kernel_rfl) (by kernel_rfl) (fun _ _ _ h => h) (Or.inl ⟨by rfl, ?_⟩) (by assumption) ?_
      case refine_2 => (intro w hSw; have p := (B.keep hSw).cell; have v0 := (hSw.cell (p := ⟨b, off, none⟩) hb).trans u0; go_simp; first | done | with_reducible rfl)
      simp only [Act.put, qA, qB, qC]
      refine wpAnyH_take (i := 3) (oi := ⟨some 117, _, _, _, _, _⟩) (v := ?_) rfl (by kernel_rfl) (by kernel_rfl) (by kernel_rfl) (fun _ _ _ h => h) (Or.inl ⟨by rfl, ?_⟩) (by assumption) ?_
      case refine_2 => (intro w hSw; skip; go_simp; (try rw [if_neg (by omega)]); first | done | with_reducible rfl)
      simp only [Act.put, qA, qB, qC]
      refine wpAnyH_take (i := 4) (oi := ⟨some 118, _, _, _, _, _⟩) (v := ?_) rfl (by kernel_rfl) (by kernel_rfl) (by kernel_rfl) (fun _ _ _ h => h) (Or.inl ⟨by rfl, ?_⟩) (by assumption) ?_
      case refine_2 => (intro w hSw; skip; go_simp; (try rw [if_neg (by omega)]); first | done | with_reducible rfl)
      simp only [Act.put, qA, qB, qC]
      refine wpAnyH_take (i := 5) (oi := ⟨some 119, _, _, _, _, _⟩) (v := ?_) rfl (by kernel_rfl) (by kernel_rfl) (by kernel_rfl) (fun _ _ _ h => h) (Or.inl ⟨by rfl, ?_⟩) (by assumption) ?_
      case refine_2 => (intro w hSw; skip; go_simp; first | done | with_reducible rfl)
      simp only [Act.put, qA, qB, qC]
      refine wpAnyH_take (i := 6) (oi := ⟨some 120, _, _, _, _, _⟩) (v := ?_) rfl (by kernel_rfl) (by kernel_rfl) (by kernel_rfl) (fun _ _ _ h => h) (Or.inl ⟨by rfl, ?_⟩) (by assumption) ?_
      case refine_2 => (intro w hSw; have p := (B.keep hSw).cell; have v0 := (hSw.cell (p := ⟨b, off, none⟩) hb).trans u0; go_simp; first | done | with_reducible rfl)
      simp only [Act.put, qA, qB, qC]
      refine wpAnyH_ready (rs := [7]) (by kernel_rfl) (by simp) ?_
      refine AllReadyH.cons (o := ⟨some 121, _, _, _, _, _⟩) rfl (fun K hK => ?_) AllReadyH.nil
      go_simp
      refine (CP.out _ (hTw.keep hHeld) ((hXw.2.1.below hHeld (Nat.le_refl _)).more (Nat.le_refl _) hHeld.size)).mono ?_; rintro e y0_ ⟨rfl, by0⟩
      go_wp2_with fail
      refine hK.out _ _ (bl_trans hHeld by0) (fun hHeld => ?_)
      clear hK K
      try simp only [Act.put, qA, qB, qC]
      refine wpAnyH_take (i := 8) (oi := ⟨some 122, _, _, _, _, _⟩) (v := ?_) rfl (by kernel_rfl) (by kernel_rfl) (by kernel_rfl) (fun _ _ _ h => h) (Or.inl ⟨by rfl, ?_⟩) (by assumption) ?_
      case refine_2 => (intro w hSw; skip; go_simp; (try rw [if_neg (by omega)]); first | done | with_reducible rfl)
      simp only [Act.put, qA, qB, qC]
      refine wpAnyH_take (i := 9) (oi := ⟨some 2, _, _, _, _, _⟩) (v := ?_) rfl (by kernel_rfl) (by kernel_rfl) (by kernel_rfl) (fun _ _ _ h => h) (Or.inl ⟨by rfl, ?_⟩) (by assumption) ?_
      case refine_2 => (intro w hSw; skip; go_simp; first | done | with_reducible rfl)
      simp only [Act.put, qA, qB, qC]
      refine wpAnyH_done (by kernel_rfl) ?_ _
      go_wp2_with fail
      go_ret
      exact ⟨ret_str HE.out.symm, bl_trans hL hHeld⟩

set_option maxRecDepth 20000 in
set_option maxHeartbeats 4000000 in
theorem sStx_7 (K : Nat) (zs zt : ByteArray) (x : Fr (Int × Int × ByteArray)) (p q : St) (X : Option Addr) (cx : Nat) (P : Option Addr) (cp : Nat) (Q : Option Addr) (cq : Nat) (w : World) (hK : x.size + p.size + q.size ≤ K) (hl : x.size + p.size + q.size ≤ 1048576) (hwt : zs.size + zt.size + wt gExpr x + wtS gExpr p + wtS gExpr q ≤ 1048576) (hh : headS 7 zs zt x p.len q.len = true) (ht : termsB x = true) (hoP : okNA cntS.here p.fr = true) (hoQ : okNA cntS.here q.fr = true) (hT : Tab w) (hX : Tri w 0 w.heap.size X x P p Q q) (ih : ∀ (zk : Int) (zs zt : ByteArray) (x : Fr (Int × Int × ByteArray)) (p q : St) (X : Option Addr) (cx : Nat) (P : Option Addr) (cp : Nat) (Q : Option Addr) (cq : Nat), x.size + p.size + q.size < K → zs.size + zt.size + wt gExpr x + wtS gExpr p + wtS gExpr q ≤ 1048576 → headS zk zs zt x p.len q.len = true → termsB x = true → okNA cntS.here p.fr = true → okNA cntS.here q.fr = true → ∀ (w : World), Tab w → Tri w 0 w.heap.size X x P p Q q → Calls Tryz.prog 29 #[.agg #[.int .i64 zk, .string zs, .string zt, .slice X x.len cx, .slice P p.len cp, .slice Q q.len cq]] w fun e w' => e = .returned (.string (stx (zk, zs, zt) (rowX x) (blkT (rowS p)) (blkT (rowS q)) (decide (0 < q.len)))) ∧ Below w.heap.size w w') :
    Calls Tryz.prog 29 #[.agg #[.int .i64 7, .string zs, .string zt, .slice X x.len cx, .slice P p.len cp, .slice Q q.len cq]] w fun e w' => e = .returned (.string (stx (7, zs, zt) (rowX x) (blkT (rowS p)) (blkT (rowS q)) (decide (0 < q.len)))) ∧ Below w.heap.size w w' := by
  have B := Blk.new w 40 #[.int .i64 7, .string zs, .string zt, .slice X x.len cx, .slice P p.len cp, .slice Q q.len cq]
  have L0 := bl_alloc (Below.refl w.heap.size w) (.cells #[.int .i64 7, .string zs, .string zt, .slice X x.len cx, .slice P p.len cp, .slice Q q.len cq] 40)
  have hok := termsB_ok x ht
  have _ := hK
  have _ := ih
  have _ := hl
  have _ := hoP
  have _ := hoQ
  have _ := hh
  have HL := Lib.hid (rowX_len x)
  have hlx := x.len_size
  have HA := Lib.hid hok
  obtain ⟨i0, hi, hz0, hz1, hz2⟩ := info_parts info_str
  have cP := fun w' hT' hS' => sLines K p P cp w' (by omega) (by omega) (by omega) hoP hT' hS' ih
  have htP := blks_size (s := p) (by omega)
  have HE := Lib.hid (show stx (7, zs, zt) (rowX x) (blkT (rowS p)) (blkT (rowS q)) (decide (0 < q.len)) = ((((((⟨#[102, 111, 114, 32, 40]⟩ : ByteArray) ++ zs) ++ ⟨#[32, 105, 110, 32]⟩) ++ zt) ++ ⟨#[41, 32]⟩) ++ (blkT (rowS p))) from rfl)
  generalize blkT (rowS p) = tP at cP htP HE
  have CP := Lib.hid cP
  clear cP
  clear ih hh hok
  have z1 : ((⟨#[102, 111, 114, 32, 40]⟩ : ByteArray) ++ zs).size = 5 + zs.size := by rw [ByteArray.size_append]; rfl
  have z2 : (((⟨#[102, 111, 114, 32, 40]⟩ : ByteArray) ++ zs) ++ ⟨#[32, 105, 110, 32]⟩).size = 5 + zs.size + 4 := by rw [ByteArray.size_append, z1]; rfl
  have z3 : ((((⟨#[102, 111, 114, 32, 40]⟩ : ByteArray) ++ zs) ++ ⟨#[32, 105, 110, 32]⟩) ++ zt).size = 5 + zs.size + 4 + zt.size := by rw [ByteArray.size_append, z2]
  have z4 : (((((⟨#[102, 111, 114, 32, 40]⟩ : ByteArray) ++ zs) ++ ⟨#[32, 105, 110, 32]⟩) ++ zt) ++ ⟨#[41, 32]⟩).size = 5 + zs.size + 4 + zt.size + 2 := by rw [ByteArray.size_append, z3]; rfl
  have z5 : ((((((⟨#[102, 111, 114, 32, 40]⟩ : ByteArray) ++ zs) ++ ⟨#[32, 105, 110, 32]⟩) ++ zt) ++ ⟨#[41, 32]⟩) ++ tP).size = 5 + zs.size + 4 + zt.size + 2 + tP.size := by rw [ByteArray.size_append, z4]
  have hO0 := World.ownsRow_made (e := 9) (size := 1) (base := w.heap.size + 1) (w.alloc (.cells #[.int .i64 7, .string zs, .string zt, .slice X x.len cx, .slice P p.len cp, .slice Q q.len cq] 40)) #[] 0 (by rw [alloc_size]; exact Nat.le_refl _) (by simp [maxLen]) (by simp)
  rw [alloc_size] at hO0
  have HO0 := Lib.hid hO0
  clear hO0
  go_enter Tryz.func29, Tryz.ntmps29
  go_wp2_with fail
  go_loopw [3, 4] (fun v i wr => ∃ kk : Nat, kk ≤ x.len ∧ i = .int .i64 kk ∧ wr.ownsRow (w.heap.size + 1) 9 1 v kk (sVs ((rowX x).take kk)) ∧ Blk wr w.heap.size 40 #[.int .i64 7, .string zs, .string zt, .slice X x.len cx, .slice P p.len cp, .slice Q q.len cq] ∧ Below w.heap.size w wr) (fun _ i _ => x.len - (intOf i).toNat)
  case atStart => exact ⟨0, Nat.zero_le _, rfl, HO0.out, B.alloc _, bl_alloc L0 _⟩
  case round =>
    clear B L0
    obtain ⟨kk, hkk, rfl, hO, B, hL⟩ := hrel
    have cb := B.cell
    by_cases hlt : kk < x.len
    · obtain ⟨b, o, l, k1, A1, c1, hAe, hb, hd, hks, hSk, q0, q1, q2, q3⟩ := at_Expr (hX.1.below hL (Nat.le_refl _)) hlt
      subst hAe
      obtain ⟨h1, h2⟩ := okNA_at HA.out hd
      have hwa := wtE_at hd
      have hat := rowX_at hlt hd
      obtain ⟨yk, yn, ys⟩ := l
      simp only at q0 q1 q2 h1 hwa hat
      have hlt' : (kk : Int) < (x.len : Int) := by omega
      have hkl : (x.len : Int) ≤ 1048576 := by omega
      have HT := Lib.hid (show (rowX x).take (kk + 1) = (rowX x).take kk ++ [txE (yk, yn, ys) (rowX k1)] by rw [List.take_succ_eq_append_getElem (by rw [HL.out]; exact hlt), hat])
      have C := sTextE_any k1.size (by omega) k1 (Nat.le_refl _) yk yn ys A1 c1 wr h1 h2 (by omega) (hT.keep hL) (hSk.more (Nat.le_refl _) hL.size)
      generalize txE (yk, yn, ys) (rowX k1) = t at C HT
      have CC := Lib.hid C
      clear C hat hd h1 h2
      go_wp2_with fail
      refine CC.out.mono ?_; rintro e w1 ⟨rfl, b1⟩
      have hL2 := bl_trans hL b1
      have hO2 := ((Row.mk hO).keep b1).1
      have hB1 := B.keep b1
      go_wp2_with (at_builtin; refine wpList_push rfl _ _ 59 rfl (w.heap.size + 1) 9 i0 (.string ⟨#[]⟩) 1 16 Tryz.underlying59 hi hz0 hz1 hz2 rfl (by decide) _ _ _ rfl hO2 _ rfl rfl rfl (by omega) (by omega) hB1.lt ?_)
      intro v' w2 hO3 hg3
      have hB2 := hB1.grown hg3 (fun e => by have := (hO2.lt _ e.symm).1; omega)
      go_wp2_with fail
      go_roundw
      case rel => exact ⟨kk + 1, by omega, by go_num, by rw [HT.out, sVs_snocE2]; exact hO3, hB2, hL2.grown hg3 hL2.size (fun q e => by have := (hO2.lt q e).1; omega)⟩
      case measure => simp [intOf]; omega
    · obtain rfl : kk = x.len := by omega
      rw [List.take_of_length_le (by rw [HL.out]; exact Nat.le_refl _)] at hO
      obtain ⟨Av, cv, rfl⟩ := (Row.mk hO).form
      have hR := (Row.mk hO).reads
      have hXw := (hX.below hL (Nat.le_refl _)).more (Nat.le_refl _) hL.size
      have hTw := hT.keep hL
      clear hO
      go_wp2_with fail
      refine wp_region_held_drew (S := (fun y => Below wr.heap.size wr y)) (by kernel_rfl) ?_ (fun hHeld => ?_)
      · exact (Below.refl _ _).drew
      refine wpAnyH_take (i := 0) (oi := ⟨some 125, _, _, _, _, _⟩) (v := ?_) rfl (by kernel_rfl) (by kernel_rfl) (by kernel_rfl) (fun _ _ _ h => h) (Or.inl ⟨by rfl, ?_⟩) (by assumption) ?_
      case refine_2 => (intro w hSw; skip; go_simp; first | done | with_reducible rfl)
      simp only [Act.put, qA, qB, qC]
      refine wpAnyH_take (i := 1) (oi := ⟨some 126, _, _, _, _, _⟩) (v := ?_) rfl (by kernel_rfl) (by kernel_rfl) (by kernel_rfl) (fun _ _ _ h => h) (Or.inl ⟨by rfl, ?_⟩) (by assumption) ?_
      case refine_2 => (intro w hSw; have p := (B.keep hSw).cell; go_simp; first | done | with_reducible rfl)
      simp only [Act.put, qA, qB, qC]
      refine wpAnyH_take (i := 2) (oi := ⟨some 127, _, _, _, _, _⟩) (v := ?_) rfl (by kernel_rfl) (by kernel_rfl) (by kernel_rfl) (fun _ _ _ h => h) (Or.inl ⟨by rfl, ?_⟩) (by assumption) ?_
      case refine_2 => (intro w hSw; skip; go_simp; (try rw [if_neg (by omega)]); first | done | with_reducible rfl)
      simp only [Act.put, qA, qB, qC]
      refine wpAnyH_take (i := 3) (oi := ⟨some 128, _, _, _, _, _⟩) (v := ?_) rfl (by kernel_rfl) (by kernel_rfl) (by kernel_rfl) (fun _ _ _ h => h) (Or.inl ⟨by rfl, ?_⟩) (by assumption) ?_
      case refine_2 => (intro w hSw; skip; go_simp; (try rw [if_neg (by omega)]); first | done | with_reducible rfl)
      simp only [Act.put, qA, qB, qC]
      refine wpAnyH_take (i := 4) (oi := ⟨some 129, _, _, _, _, _⟩) (v := ?_) rfl (by kernel_rfl) (by kernel_rfl) (by kernel_rfl) (fun _ _ _ h => h) (Or.inl ⟨by rfl, ?_⟩) (by assumption) ?_
      case refine_2 => (intro w hSw; skip; go_simp; first | done | with_reducible rfl)
      simp only [Act.put, qA, qB, qC]
      refine wpAnyH_take (i := 5) (oi := ⟨some 130, _, _, _, _, _⟩) (v := ?_) rfl (by kernel_rfl) (by kernel_rfl) (by kernel_rfl) (fun _ _ _ h => h) (Or.inl ⟨by rfl, ?_⟩) (by assumption) ?_
      case refine_2 => (intro w hSw; have p := (B.keep hSw).cell; go_simp; first | done | with_reducible rfl)
      simp only [Act.put, qA, qB, qC]
      refine wpAnyH_take (i := 6) (oi := ⟨some 131, _, _, _, _, _⟩) (v := ?_) rfl (by kernel_rfl) (by kernel_rfl) (by kernel_rfl) (fun _ _ _ h => h) (Or.inl ⟨by rfl, ?_⟩) (by assumption) ?_
      case refine_2 => (intro w hSw; skip; go_simp; (try rw [if_neg (by omega)]); first | done | with_reducible rfl)
      simp only [Act.put, qA, qB, qC]
      refine wpAnyH_take (i := 7) (oi := ⟨some 132, _, _, _, _, _⟩) (v := ?_) rfl (by kernel_rfl) (by kernel_rfl) (by kernel_rfl) (fun _ _ _ h => h) (Or.inl ⟨by rfl, ?_⟩) (by assumption) ?_
      case refine_2 => (intro w hSw; skip; go_simp; (try rw [if_neg (by omega)]); first | done | with_reducible rfl)
      simp only [Act.put, qA, qB, qC]
      refine wpAnyH_take (i := 8) (oi := ⟨some 133, _, _, _, _, _⟩) (v := ?_) rfl (by kernel_rfl) (by kernel_rfl) (by kernel_rfl) (fun _ _ _ h => h) (Or.inl ⟨by rfl, ?_⟩) (by assumption) ?_
      case refine_2 => (intro w hSw; skip; go_simp; first | done | with_reducible rfl)
      simp only [Act.put, qA, qB, qC]
      refine wpAnyH_take (i := 9) (oi := ⟨some 134, _, _, _, _, _⟩) (v := ?_) rfl (by kernel_rfl) (by kernel_rfl) (by kernel_rfl) (fun _ _ _ h => h) (Or.inl ⟨by rfl, ?_⟩) (by assumption) ?_
      case refine_2 => (intro w hSw; have p := (B.keep hSw).cell; go_simp; first | done | with_reducible rfl)
      simp only [Act.put, qA, qB, qC]
      refine wpAnyH_ready (rs := [10]) (by kernel_rfl) (by simp) ?_
      refine AllReadyH.cons (o := ⟨some 135, _, _, _, _, _⟩) rfl (fun K hK => ?_) AllReadyH.nil
      go_simp
      refine (CP.out _ (hTw.keep hHeld) ((hXw.2.1.below hHeld (Nat.le_refl _)).more (Nat.le_refl _) hHeld.size)).mono ?_; rintro e y0_ ⟨rfl, by0⟩
      go_wp2_with fail
      refine hK.out _ _ (bl_trans hHeld by0) (fun hHeld => ?_)
      clear hK K
      try simp only [Act.put, qA, qB, qC]
      refine wpAnyH_take (i := 11) (oi := ⟨some 136, _, _, _, _, _⟩) (v := ?_) rfl (by kernel_rfl) (by kernel_rfl) (by kernel_rfl) (fun _ _ _ h => h) (Or.inl ⟨by rfl, ?_⟩) (by assumption) ?_
      case refine_2 => (intro w hSw; skip; go_simp; (try rw [if_neg (by omega)]); first | done | with_reducible rfl)
      simp only [Act.put, qA, qB, qC]
      refine wpAnyH_take (i := 12) (oi := ⟨some 2, _, _, _, _, _⟩) (v := ?_) rfl (by kernel_rfl) (by kernel_rfl) (by kernel_rfl) (fun _ _ _ h => h) (Or.inl ⟨by rfl, ?_⟩) (by assumption) ?_
      case refine_2 => (intro w hSw; skip; go_simp; first | done | with_reducible rfl)
      simp only [Act.put, qA, qB, qC]
      refine wpAnyH_done (by kernel_rfl) ?_ _
      go_wp2_with fail
      go_ret
      exact ⟨ret_str HE.out.symm, bl_trans hL hHeld⟩

set_option maxRecDepth 20000 in
set_option maxHeartbeats 4000000 in
theorem sStx_8 (K : Nat) (zs zt : ByteArray) (x : Fr (Int × Int × ByteArray)) (p q : St) (X : Option Addr) (cx : Nat) (P : Option Addr) (cp : Nat) (Q : Option Addr) (cq : Nat) (w : World) (hK : x.size + p.size + q.size ≤ K) (hl : x.size + p.size + q.size ≤ 1048576) (hwt : zs.size + zt.size + wt gExpr x + wtS gExpr p + wtS gExpr q ≤ 1048576) (hh : headS 8 zs zt x p.len q.len = true) (ht : termsB x = true) (hoP : okNA cntS.here p.fr = true) (hoQ : okNA cntS.here q.fr = true) (hT : Tab w) (hX : Tri w 0 w.heap.size X x P p Q q) (ih : ∀ (zk : Int) (zs zt : ByteArray) (x : Fr (Int × Int × ByteArray)) (p q : St) (X : Option Addr) (cx : Nat) (P : Option Addr) (cp : Nat) (Q : Option Addr) (cq : Nat), x.size + p.size + q.size < K → zs.size + zt.size + wt gExpr x + wtS gExpr p + wtS gExpr q ≤ 1048576 → headS zk zs zt x p.len q.len = true → termsB x = true → okNA cntS.here p.fr = true → okNA cntS.here q.fr = true → ∀ (w : World), Tab w → Tri w 0 w.heap.size X x P p Q q → Calls Tryz.prog 29 #[.agg #[.int .i64 zk, .string zs, .string zt, .slice X x.len cx, .slice P p.len cp, .slice Q q.len cq]] w fun e w' => e = .returned (.string (stx (zk, zs, zt) (rowX x) (blkT (rowS p)) (blkT (rowS q)) (decide (0 < q.len)))) ∧ Below w.heap.size w w') :
    Calls Tryz.prog 29 #[.agg #[.int .i64 8, .string zs, .string zt, .slice X x.len cx, .slice P p.len cp, .slice Q q.len cq]] w fun e w' => e = .returned (.string (stx (8, zs, zt) (rowX x) (blkT (rowS p)) (blkT (rowS q)) (decide (0 < q.len)))) ∧ Below w.heap.size w w' := by
  have B := Blk.new w 40 #[.int .i64 8, .string zs, .string zt, .slice X x.len cx, .slice P p.len cp, .slice Q q.len cq]
  have L0 := bl_alloc (Below.refl w.heap.size w) (.cells #[.int .i64 8, .string zs, .string zt, .slice X x.len cx, .slice P p.len cp, .slice Q q.len cq] 40)
  have hok := termsB_ok x ht
  have _ := hK
  have _ := ih
  have _ := hl
  have _ := hoP
  have _ := hoQ
  have _ := hh
  have HL := Lib.hid (rowX_len x)
  have hlx := x.len_size
  have HA := Lib.hid hok
  obtain ⟨i0, hi, hz0, hz1, hz2⟩ := info_parts info_str
  have HE := Lib.hid (show stx (8, zs, zt) (rowX x) (blkT (rowS p)) (blkT (rowS q)) (decide (0 < q.len)) = (⟨#[110, 101, 120, 116, 59]⟩ : ByteArray) from rfl)
  clear ih hh hok
  have hO0 := World.ownsRow_made (e := 9) (size := 1) (base := w.heap.size + 1) (w.alloc (.cells #[.int .i64 8, .string zs, .string zt, .slice X x.len cx, .slice P p.len cp, .slice Q q.len cq] 40)) #[] 0 (by rw [alloc_size]; exact Nat.le_refl _) (by simp [maxLen]) (by simp)
  rw [alloc_size] at hO0
  have HO0 := Lib.hid hO0
  clear hO0
  go_enter Tryz.func29, Tryz.ntmps29
  go_wp2_with fail
  go_loopw [3, 4] (fun v i wr => ∃ kk : Nat, kk ≤ x.len ∧ i = .int .i64 kk ∧ wr.ownsRow (w.heap.size + 1) 9 1 v kk (sVs ((rowX x).take kk)) ∧ Blk wr w.heap.size 40 #[.int .i64 8, .string zs, .string zt, .slice X x.len cx, .slice P p.len cp, .slice Q q.len cq] ∧ Below w.heap.size w wr) (fun _ i _ => x.len - (intOf i).toNat)
  case atStart => exact ⟨0, Nat.zero_le _, rfl, HO0.out, B.alloc _, bl_alloc L0 _⟩
  case round =>
    clear B L0
    obtain ⟨kk, hkk, rfl, hO, B, hL⟩ := hrel
    have cb := B.cell
    by_cases hlt : kk < x.len
    · obtain ⟨b, o, l, k1, A1, c1, hAe, hb, hd, hks, hSk, q0, q1, q2, q3⟩ := at_Expr (hX.1.below hL (Nat.le_refl _)) hlt
      subst hAe
      obtain ⟨h1, h2⟩ := okNA_at HA.out hd
      have hwa := wtE_at hd
      have hat := rowX_at hlt hd
      obtain ⟨yk, yn, ys⟩ := l
      simp only at q0 q1 q2 h1 hwa hat
      have hlt' : (kk : Int) < (x.len : Int) := by omega
      have hkl : (x.len : Int) ≤ 1048576 := by omega
      have HT := Lib.hid (show (rowX x).take (kk + 1) = (rowX x).take kk ++ [txE (yk, yn, ys) (rowX k1)] by rw [List.take_succ_eq_append_getElem (by rw [HL.out]; exact hlt), hat])
      have C := sTextE_any k1.size (by omega) k1 (Nat.le_refl _) yk yn ys A1 c1 wr h1 h2 (by omega) (hT.keep hL) (hSk.more (Nat.le_refl _) hL.size)
      generalize txE (yk, yn, ys) (rowX k1) = t at C HT
      have CC := Lib.hid C
      clear C hat hd h1 h2
      go_wp2_with fail
      refine CC.out.mono ?_; rintro e w1 ⟨rfl, b1⟩
      have hL2 := bl_trans hL b1
      have hO2 := ((Row.mk hO).keep b1).1
      have hB1 := B.keep b1
      go_wp2_with (at_builtin; refine wpList_push rfl _ _ 59 rfl (w.heap.size + 1) 9 i0 (.string ⟨#[]⟩) 1 16 Tryz.underlying59 hi hz0 hz1 hz2 rfl (by decide) _ _ _ rfl hO2 _ rfl rfl rfl (by omega) (by omega) hB1.lt ?_)
      intro v' w2 hO3 hg3
      have hB2 := hB1.grown hg3 (fun e => by have := (hO2.lt _ e.symm).1; omega)
      go_wp2_with fail
      go_roundw
      case rel => exact ⟨kk + 1, by omega, by go_num, by rw [HT.out, sVs_snocE2]; exact hO3, hB2, hL2.grown hg3 hL2.size (fun q e => by have := (hO2.lt q e).1; omega)⟩
      case measure => simp [intOf]; omega
    · obtain rfl : kk = x.len := by omega
      rw [List.take_of_length_le (by rw [HL.out]; exact Nat.le_refl _)] at hO
      obtain ⟨Av, cv, rfl⟩ := (Row.mk hO).form
      have hR := (Row.mk hO).reads
      have hXw := (hX.below hL (Nat.le_refl _)).more (Nat.le_refl _) hL.size
      have hTw := hT.keep hL
      clear hO
      go_wp2_with fail
      go_ret
      exact ⟨ret_str HE.out.symm, hL⟩

set_option maxRecDepth 20000 in
set_option maxHeartbeats 4000000 in
theorem sStx_9 (K : Nat) (zs zt : ByteArray) (x : Fr (Int × Int × ByteArray)) (p q : St) (X : Option Addr) (cx : Nat) (P : Option Addr) (cp : Nat) (Q : Option Addr) (cq : Nat) (w : World) (hK : x.size + p.size + q.size ≤ K) (hl : x.size + p.size + q.size ≤ 1048576) (hwt : zs.size + zt.size + wt gExpr x + wtS gExpr p + wtS gExpr q ≤ 1048576) (hh : headS 9 zs zt x p.len q.len = true) (ht : termsB x = true) (hoP : okNA cntS.here p.fr = true) (hoQ : okNA cntS.here q.fr = true) (hT : Tab w) (hX : Tri w 0 w.heap.size X x P p Q q) (ih : ∀ (zk : Int) (zs zt : ByteArray) (x : Fr (Int × Int × ByteArray)) (p q : St) (X : Option Addr) (cx : Nat) (P : Option Addr) (cp : Nat) (Q : Option Addr) (cq : Nat), x.size + p.size + q.size < K → zs.size + zt.size + wt gExpr x + wtS gExpr p + wtS gExpr q ≤ 1048576 → headS zk zs zt x p.len q.len = true → termsB x = true → okNA cntS.here p.fr = true → okNA cntS.here q.fr = true → ∀ (w : World), Tab w → Tri w 0 w.heap.size X x P p Q q → Calls Tryz.prog 29 #[.agg #[.int .i64 zk, .string zs, .string zt, .slice X x.len cx, .slice P p.len cp, .slice Q q.len cq]] w fun e w' => e = .returned (.string (stx (zk, zs, zt) (rowX x) (blkT (rowS p)) (blkT (rowS q)) (decide (0 < q.len)))) ∧ Below w.heap.size w w') :
    Calls Tryz.prog 29 #[.agg #[.int .i64 9, .string zs, .string zt, .slice X x.len cx, .slice P p.len cp, .slice Q q.len cq]] w fun e w' => e = .returned (.string (stx (9, zs, zt) (rowX x) (blkT (rowS p)) (blkT (rowS q)) (decide (0 < q.len)))) ∧ Below w.heap.size w w' := by
  have B := Blk.new w 40 #[.int .i64 9, .string zs, .string zt, .slice X x.len cx, .slice P p.len cp, .slice Q q.len cq]
  have L0 := bl_alloc (Below.refl w.heap.size w) (.cells #[.int .i64 9, .string zs, .string zt, .slice X x.len cx, .slice P p.len cp, .slice Q q.len cq] 40)
  have hok := termsB_ok x ht
  have _ := hK
  have _ := ih
  have _ := hl
  have _ := hoP
  have _ := hoQ
  have _ := hh
  have HL := Lib.hid (rowX_len x)
  have hlx := x.len_size
  have HA := Lib.hid hok
  obtain ⟨i0, hi, hz0, hz1, hz2⟩ := info_parts info_str
  have hlen : x.len = 1 := by
    rw [headS_9] at hh
    simp at hh
    omega
  have HLEN := Lib.hid hlen
  clear hlen
  have ht0 : ((rowX x).getD 0 ⟨#[]⟩).size ≤ 70000000 := by
    have g1 := getX_two (rowX x)
    have g2 := lenX_wt x
    omega
  have hu0 : (sVs (rowX x))[0]? = some (.string ((rowX x).getD 0 ⟨#[]⟩)) := sVs_getD (by rw [HL.out]; have := HLEN.out; omega)
  have HE := Lib.hid (show stx (9, zs, zt) (rowX x) (blkT (rowS p)) (blkT (rowS q)) (decide (0 < q.len)) = (((⟨#[101, 120, 105, 116, 32]⟩ : ByteArray) ++ ((rowX x).getD 0 ⟨#[]⟩)) ++ ⟨#[59]⟩) from rfl)
  generalize (rowX x).getD 0 ⟨#[]⟩ = t0 at hu0 ht0 HE
  have HU0 := Lib.hid hu0
  clear hu0
  clear ih hh hok
  have z1 : ((⟨#[101, 120, 105, 116, 32]⟩ : ByteArray) ++ t0).size = 5 + t0.size := by rw [ByteArray.size_append]; rfl
  have z2 : (((⟨#[101, 120, 105, 116, 32]⟩ : ByteArray) ++ t0) ++ ⟨#[59]⟩).size = 5 + t0.size + 1 := by rw [ByteArray.size_append, z1]; rfl
  have hO0 := World.ownsRow_made (e := 9) (size := 1) (base := w.heap.size + 1) (w.alloc (.cells #[.int .i64 9, .string zs, .string zt, .slice X x.len cx, .slice P p.len cp, .slice Q q.len cq] 40)) #[] 0 (by rw [alloc_size]; exact Nat.le_refl _) (by simp [maxLen]) (by simp)
  rw [alloc_size] at hO0
  have HO0 := Lib.hid hO0
  clear hO0
  go_enter Tryz.func29, Tryz.ntmps29
  go_wp2_with fail
  go_loopw [3, 4] (fun v i wr => ∃ kk : Nat, kk ≤ x.len ∧ i = .int .i64 kk ∧ wr.ownsRow (w.heap.size + 1) 9 1 v kk (sVs ((rowX x).take kk)) ∧ Blk wr w.heap.size 40 #[.int .i64 9, .string zs, .string zt, .slice X x.len cx, .slice P p.len cp, .slice Q q.len cq] ∧ Below w.heap.size w wr) (fun _ i _ => x.len - (intOf i).toNat)
  case atStart => exact ⟨0, Nat.zero_le _, rfl, HO0.out, B.alloc _, bl_alloc L0 _⟩
  case round =>
    clear B L0
    obtain ⟨kk, hkk, rfl, hO, B, hL⟩ := hrel
    have cb := B.cell
    by_cases hlt : kk < x.len
    · obtain ⟨b, o, l, k1, A1, c1, hAe, hb, hd, hks, hSk, q0, q1, q2, q3⟩ := at_Expr (hX.1.below hL (Nat.le_refl _)) hlt
      subst hAe
      obtain ⟨h1, h2⟩ := okNA_at HA.out hd
      have hwa := wtE_at hd
      have hat := rowX_at hlt hd
      obtain ⟨yk, yn, ys⟩ := l
      simp only at q0 q1 q2 h1 hwa hat
      have hlt' : (kk : Int) < (x.len : Int) := by omega
      have hkl : (x.len : Int) ≤ 1048576 := by omega
      have HT := Lib.hid (show (rowX x).take (kk + 1) = (rowX x).take kk ++ [txE (yk, yn, ys) (rowX k1)] by rw [List.take_succ_eq_append_getElem (by rw [HL.out]; exact hlt), hat])
      have C := sTextE_any k1.size (by omega) k1 (Nat.le_refl _) yk yn ys A1 c1 wr h1 h2 (by omega) (hT.keep hL) (hSk.more (Nat.le_refl _) hL.size)
      generalize txE (yk, yn, ys) (rowX k1) = t at C HT
      have CC := Lib.hid C
      clear C hat hd h1 h2
      go_wp2_with fail
      refine CC.out.mono ?_; rintro e w1 ⟨rfl, b1⟩
      have hL2 := bl_trans hL b1
      have hO2 := ((Row.mk hO).keep b1).1
      have hB1 := B.keep b1
      go_wp2_with (at_builtin; refine wpList_push rfl _ _ 59 rfl (w.heap.size + 1) 9 i0 (.string ⟨#[]⟩) 1 16 Tryz.underlying59 hi hz0 hz1 hz2 rfl (by decide) _ _ _ rfl hO2 _ rfl rfl rfl (by omega) (by omega) hB1.lt ?_)
      intro v' w2 hO3 hg3
      have hB2 := hB1.grown hg3 (fun e => by have := (hO2.lt _ e.symm).1; omega)
      go_wp2_with fail
      go_roundw
      case rel => exact ⟨kk + 1, by omega, by go_num, by rw [HT.out, sVs_snocE2]; exact hO3, hB2, hL2.grown hg3 hL2.size (fun q e => by have := (hO2.lt q e).1; omega)⟩
      case measure => simp [intOf]; omega
    · obtain rfl : kk = x.len := by omega
      rw [List.take_of_length_le (by rw [HL.out]; exact Nat.le_refl _)] at hO
      obtain ⟨Av, cv, rfl⟩ := (Row.mk hO).form
      have hR := (Row.mk hO).reads
      have hXw := (hX.below hL (Nat.le_refl _)).more (Nat.le_refl _) hL.size
      have hTw := hT.keep hL
      clear hO
      have hp0 : 0 < x.len := by have := HLEN.out; omega
      obtain ⟨b, off, hAe, hb, hc⟩ := hR.2 hp0
      subst hAe
      have u0 := hc 0 _ HU0.out
      have hl0 : (0 : Int) < (x.len : Int) := by have := HLEN.out; omega
      rw [Nat.add_zero] at u0
      clear hc hR hp0
      go_wp2_with fail
      go_ret
      exact ⟨ret_str HE.out.symm, hL⟩

set_option maxRecDepth 20000 in
set_option maxHeartbeats 4000000 in
theorem sStx_10 (K : Nat) (zs zt : ByteArray) (x : Fr (Int × Int × ByteArray)) (p q : St) (X : Option Addr) (cx : Nat) (P : Option Addr) (cp : Nat) (Q : Option Addr) (cq : Nat) (w : World) (hK : x.size + p.size + q.size ≤ K) (hl : x.size + p.size + q.size ≤ 1048576) (hwt : zs.size + zt.size + wt gExpr x + wtS gExpr p + wtS gExpr q ≤ 1048576) (hh : headS 10 zs zt x p.len q.len = true) (ht : termsB x = true) (hoP : okNA cntS.here p.fr = true) (hoQ : okNA cntS.here q.fr = true) (hT : Tab w) (hX : Tri w 0 w.heap.size X x P p Q q) (ih : ∀ (zk : Int) (zs zt : ByteArray) (x : Fr (Int × Int × ByteArray)) (p q : St) (X : Option Addr) (cx : Nat) (P : Option Addr) (cp : Nat) (Q : Option Addr) (cq : Nat), x.size + p.size + q.size < K → zs.size + zt.size + wt gExpr x + wtS gExpr p + wtS gExpr q ≤ 1048576 → headS zk zs zt x p.len q.len = true → termsB x = true → okNA cntS.here p.fr = true → okNA cntS.here q.fr = true → ∀ (w : World), Tab w → Tri w 0 w.heap.size X x P p Q q → Calls Tryz.prog 29 #[.agg #[.int .i64 zk, .string zs, .string zt, .slice X x.len cx, .slice P p.len cp, .slice Q q.len cq]] w fun e w' => e = .returned (.string (stx (zk, zs, zt) (rowX x) (blkT (rowS p)) (blkT (rowS q)) (decide (0 < q.len)))) ∧ Below w.heap.size w w') :
    Calls Tryz.prog 29 #[.agg #[.int .i64 10, .string zs, .string zt, .slice X x.len cx, .slice P p.len cp, .slice Q q.len cq]] w fun e w' => e = .returned (.string (stx (10, zs, zt) (rowX x) (blkT (rowS p)) (blkT (rowS q)) (decide (0 < q.len)))) ∧ Below w.heap.size w w' := by
  have B := Blk.new w 40 #[.int .i64 10, .string zs, .string zt, .slice X x.len cx, .slice P p.len cp, .slice Q q.len cq]
  have L0 := bl_alloc (Below.refl w.heap.size w) (.cells #[.int .i64 10, .string zs, .string zt, .slice X x.len cx, .slice P p.len cp, .slice Q q.len cq] 40)
  have hok := termsB_ok x ht
  have _ := hK
  have _ := ih
  have _ := hl
  have _ := hoP
  have _ := hoQ
  have _ := hh
  have HL := Lib.hid (rowX_len x)
  have hlx := x.len_size
  have HA := Lib.hid hok
  obtain ⟨i0, hi, hz0, hz1, hz2⟩ := info_parts info_str
  have hlen : x.len = 1 := by
    rw [headS_10] at hh
    simp at hh
    omega
  have HLEN := Lib.hid hlen
  clear hlen
  have ht0 : ((rowX x).getD 0 ⟨#[]⟩).size ≤ 70000000 := by
    have g1 := getX_two (rowX x)
    have g2 := lenX_wt x
    omega
  have hu0 : (sVs (rowX x))[0]? = some (.string ((rowX x).getD 0 ⟨#[]⟩)) := sVs_getD (by rw [HL.out]; have := HLEN.out; omega)
  have HE := Lib.hid (show stx (10, zs, zt) (rowX x) (blkT (rowS p)) (blkT (rowS q)) (decide (0 < q.len)) = (((⟨#[114, 101, 116, 117, 114, 110, 32]⟩ : ByteArray) ++ ((rowX x).getD 0 ⟨#[]⟩)) ++ ⟨#[59]⟩) from rfl)
  generalize (rowX x).getD 0 ⟨#[]⟩ = t0 at hu0 ht0 HE
  have HU0 := Lib.hid hu0
  clear hu0
  clear ih hh hok
  have z1 : ((⟨#[114, 101, 116, 117, 114, 110, 32]⟩ : ByteArray) ++ t0).size = 7 + t0.size := by rw [ByteArray.size_append]; rfl
  have z2 : (((⟨#[114, 101, 116, 117, 114, 110, 32]⟩ : ByteArray) ++ t0) ++ ⟨#[59]⟩).size = 7 + t0.size + 1 := by rw [ByteArray.size_append, z1]; rfl
  have hO0 := World.ownsRow_made (e := 9) (size := 1) (base := w.heap.size + 1) (w.alloc (.cells #[.int .i64 10, .string zs, .string zt, .slice X x.len cx, .slice P p.len cp, .slice Q q.len cq] 40)) #[] 0 (by rw [alloc_size]; exact Nat.le_refl _) (by simp [maxLen]) (by simp)
  rw [alloc_size] at hO0
  have HO0 := Lib.hid hO0
  clear hO0
  go_enter Tryz.func29, Tryz.ntmps29
  go_wp2_with fail
  go_loopw [3, 4] (fun v i wr => ∃ kk : Nat, kk ≤ x.len ∧ i = .int .i64 kk ∧ wr.ownsRow (w.heap.size + 1) 9 1 v kk (sVs ((rowX x).take kk)) ∧ Blk wr w.heap.size 40 #[.int .i64 10, .string zs, .string zt, .slice X x.len cx, .slice P p.len cp, .slice Q q.len cq] ∧ Below w.heap.size w wr) (fun _ i _ => x.len - (intOf i).toNat)
  case atStart => exact ⟨0, Nat.zero_le _, rfl, HO0.out, B.alloc _, bl_alloc L0 _⟩
  case round =>
    clear B L0
    obtain ⟨kk, hkk, rfl, hO, B, hL⟩ := hrel
    have cb := B.cell
    by_cases hlt : kk < x.len
    · obtain ⟨b, o, l, k1, A1, c1, hAe, hb, hd, hks, hSk, q0, q1, q2, q3⟩ := at_Expr (hX.1.below hL (Nat.le_refl _)) hlt
      subst hAe
      obtain ⟨h1, h2⟩ := okNA_at HA.out hd
      have hwa := wtE_at hd
      have hat := rowX_at hlt hd
      obtain ⟨yk, yn, ys⟩ := l
      simp only at q0 q1 q2 h1 hwa hat
      have hlt' : (kk : Int) < (x.len : Int) := by omega
      have hkl : (x.len : Int) ≤ 1048576 := by omega
      have HT := Lib.hid (show (rowX x).take (kk + 1) = (rowX x).take kk ++ [txE (yk, yn, ys) (rowX k1)] by rw [List.take_succ_eq_append_getElem (by rw [HL.out]; exact hlt), hat])
      have C := sTextE_any k1.size (by omega) k1 (Nat.le_refl _) yk yn ys A1 c1 wr h1 h2 (by omega) (hT.keep hL) (hSk.more (Nat.le_refl _) hL.size)
      generalize txE (yk, yn, ys) (rowX k1) = t at C HT
      have CC := Lib.hid C
      clear C hat hd h1 h2
      go_wp2_with fail
      refine CC.out.mono ?_; rintro e w1 ⟨rfl, b1⟩
      have hL2 := bl_trans hL b1
      have hO2 := ((Row.mk hO).keep b1).1
      have hB1 := B.keep b1
      go_wp2_with (at_builtin; refine wpList_push rfl _ _ 59 rfl (w.heap.size + 1) 9 i0 (.string ⟨#[]⟩) 1 16 Tryz.underlying59 hi hz0 hz1 hz2 rfl (by decide) _ _ _ rfl hO2 _ rfl rfl rfl (by omega) (by omega) hB1.lt ?_)
      intro v' w2 hO3 hg3
      have hB2 := hB1.grown hg3 (fun e => by have := (hO2.lt _ e.symm).1; omega)
      go_wp2_with fail
      go_roundw
      case rel => exact ⟨kk + 1, by omega, by go_num, by rw [HT.out, sVs_snocE2]; exact hO3, hB2, hL2.grown hg3 hL2.size (fun q e => by have := (hO2.lt q e).1; omega)⟩
      case measure => simp [intOf]; omega
    · obtain rfl : kk = x.len := by omega
      rw [List.take_of_length_le (by rw [HL.out]; exact Nat.le_refl _)] at hO
      obtain ⟨Av, cv, rfl⟩ := (Row.mk hO).form
      have hR := (Row.mk hO).reads
      have hXw := (hX.below hL (Nat.le_refl _)).more (Nat.le_refl _) hL.size
      have hTw := hT.keep hL
      clear hO
      have hp0 : 0 < x.len := by have := HLEN.out; omega
      obtain ⟨b, off, hAe, hb, hc⟩ := hR.2 hp0
      subst hAe
      have u0 := hc 0 _ HU0.out
      have hl0 : (0 : Int) < (x.len : Int) := by have := HLEN.out; omega
      rw [Nat.add_zero] at u0
      clear hc hR hp0
      go_wp2_with fail
      go_ret
      exact ⟨ret_str HE.out.symm, hL⟩

set_option maxRecDepth 20000 in
set_option maxHeartbeats 4000000 in
theorem sStx_11 (K : Nat) (zs zt : ByteArray) (x : Fr (Int × Int × ByteArray)) (p q : St) (X : Option Addr) (cx : Nat) (P : Option Addr) (cp : Nat) (Q : Option Addr) (cq : Nat) (w : World) (hK : x.size + p.size + q.size ≤ K) (hl : x.size + p.size + q.size ≤ 1048576) (hwt : zs.size + zt.size + wt gExpr x + wtS gExpr p + wtS gExpr q ≤ 1048576) (hh : headS 11 zs zt x p.len q.len = true) (ht : termsB x = true) (hoP : okNA cntS.here p.fr = true) (hoQ : okNA cntS.here q.fr = true) (hT : Tab w) (hX : Tri w 0 w.heap.size X x P p Q q) (ih : ∀ (zk : Int) (zs zt : ByteArray) (x : Fr (Int × Int × ByteArray)) (p q : St) (X : Option Addr) (cx : Nat) (P : Option Addr) (cp : Nat) (Q : Option Addr) (cq : Nat), x.size + p.size + q.size < K → zs.size + zt.size + wt gExpr x + wtS gExpr p + wtS gExpr q ≤ 1048576 → headS zk zs zt x p.len q.len = true → termsB x = true → okNA cntS.here p.fr = true → okNA cntS.here q.fr = true → ∀ (w : World), Tab w → Tri w 0 w.heap.size X x P p Q q → Calls Tryz.prog 29 #[.agg #[.int .i64 zk, .string zs, .string zt, .slice X x.len cx, .slice P p.len cp, .slice Q q.len cq]] w fun e w' => e = .returned (.string (stx (zk, zs, zt) (rowX x) (blkT (rowS p)) (blkT (rowS q)) (decide (0 < q.len)))) ∧ Below w.heap.size w w') :
    Calls Tryz.prog 29 #[.agg #[.int .i64 11, .string zs, .string zt, .slice X x.len cx, .slice P p.len cp, .slice Q q.len cq]] w fun e w' => e = .returned (.string (stx (11, zs, zt) (rowX x) (blkT (rowS p)) (blkT (rowS q)) (decide (0 < q.len)))) ∧ Below w.heap.size w w' := by
  have B := Blk.new w 40 #[.int .i64 11, .string zs, .string zt, .slice X x.len cx, .slice P p.len cp, .slice Q q.len cq]
  have L0 := bl_alloc (Below.refl w.heap.size w) (.cells #[.int .i64 11, .string zs, .string zt, .slice X x.len cx, .slice P p.len cp, .slice Q q.len cq] 40)
  have hok := termsB_ok x ht
  have _ := hK
  have _ := ih
  have _ := hl
  have _ := hoP
  have _ := hoQ
  have _ := hh
  have HL := Lib.hid (rowX_len x)
  have hlx := x.len_size
  have HA := Lib.hid hok
  obtain ⟨i0, hi, hz0, hz1, hz2⟩ := info_parts info_str
  have hlen : x.len = 1 := by
    rw [headS_11] at hh
    simp at hh
    omega
  have HLEN := Lib.hid hlen
  clear hlen
  have ht0 : ((rowX x).getD 0 ⟨#[]⟩).size ≤ 70000000 := by
    have g1 := getX_two (rowX x)
    have g2 := lenX_wt x
    omega
  have hu0 : (sVs (rowX x))[0]? = some (.string ((rowX x).getD 0 ⟨#[]⟩)) := sVs_getD (by rw [HL.out]; have := HLEN.out; omega)
  have HE := Lib.hid (show stx (11, zs, zt) (rowX x) (blkT (rowS p)) (blkT (rowS q)) (decide (0 < q.len)) = (((((⟨#[100, 101, 108, 101, 116, 101, 32]⟩ : ByteArray) ++ zs) ++ ⟨#[91]⟩) ++ ((rowX x).getD 0 ⟨#[]⟩)) ++ ⟨#[93, 59]⟩) from rfl)
  generalize (rowX x).getD 0 ⟨#[]⟩ = t0 at hu0 ht0 HE
  have HU0 := Lib.hid hu0
  clear hu0
  clear ih hh hok
  have z1 : ((⟨#[100, 101, 108, 101, 116, 101, 32]⟩ : ByteArray) ++ zs).size = 7 + zs.size := by rw [ByteArray.size_append]; rfl
  have z2 : (((⟨#[100, 101, 108, 101, 116, 101, 32]⟩ : ByteArray) ++ zs) ++ ⟨#[91]⟩).size = 7 + zs.size + 1 := by rw [ByteArray.size_append, z1]; rfl
  have z3 : ((((⟨#[100, 101, 108, 101, 116, 101, 32]⟩ : ByteArray) ++ zs) ++ ⟨#[91]⟩) ++ t0).size = 7 + zs.size + 1 + t0.size := by rw [ByteArray.size_append, z2]
  have z4 : (((((⟨#[100, 101, 108, 101, 116, 101, 32]⟩ : ByteArray) ++ zs) ++ ⟨#[91]⟩) ++ t0) ++ ⟨#[93, 59]⟩).size = 7 + zs.size + 1 + t0.size + 2 := by rw [ByteArray.size_append, z3]; rfl
  have hO0 := World.ownsRow_made (e := 9) (size := 1) (base := w.heap.size + 1) (w.alloc (.cells #[.int .i64 11, .string zs, .string zt, .slice X x.len cx, .slice P p.len cp, .slice Q q.len cq] 40)) #[] 0 (by rw [alloc_size]; exact Nat.le_refl _) (by simp [maxLen]) (by simp)
  rw [alloc_size] at hO0
  have HO0 := Lib.hid hO0
  clear hO0
  go_enter Tryz.func29, Tryz.ntmps29
  go_wp2_with fail
  go_loopw [3, 4] (fun v i wr => ∃ kk : Nat, kk ≤ x.len ∧ i = .int .i64 kk ∧ wr.ownsRow (w.heap.size + 1) 9 1 v kk (sVs ((rowX x).take kk)) ∧ Blk wr w.heap.size 40 #[.int .i64 11, .string zs, .string zt, .slice X x.len cx, .slice P p.len cp, .slice Q q.len cq] ∧ Below w.heap.size w wr) (fun _ i _ => x.len - (intOf i).toNat)
  case atStart => exact ⟨0, Nat.zero_le _, rfl, HO0.out, B.alloc _, bl_alloc L0 _⟩
  case round =>
    clear B L0
    obtain ⟨kk, hkk, rfl, hO, B, hL⟩ := hrel
    have cb := B.cell
    by_cases hlt : kk < x.len
    · obtain ⟨b, o, l, k1, A1, c1, hAe, hb, hd, hks, hSk, q0, q1, q2, q3⟩ := at_Expr (hX.1.below hL (Nat.le_refl _)) hlt
      subst hAe
      obtain ⟨h1, h2⟩ := okNA_at HA.out hd
      have hwa := wtE_at hd
      have hat := rowX_at hlt hd
      obtain ⟨yk, yn, ys⟩ := l
      simp only at q0 q1 q2 h1 hwa hat
      have hlt' : (kk : Int) < (x.len : Int) := by omega
      have hkl : (x.len : Int) ≤ 1048576 := by omega
      have HT := Lib.hid (show (rowX x).take (kk + 1) = (rowX x).take kk ++ [txE (yk, yn, ys) (rowX k1)] by rw [List.take_succ_eq_append_getElem (by rw [HL.out]; exact hlt), hat])
      have C := sTextE_any k1.size (by omega) k1 (Nat.le_refl _) yk yn ys A1 c1 wr h1 h2 (by omega) (hT.keep hL) (hSk.more (Nat.le_refl _) hL.size)
      generalize txE (yk, yn, ys) (rowX k1) = t at C HT
      have CC := Lib.hid C
      clear C hat hd h1 h2
      go_wp2_with fail
      refine CC.out.mono ?_; rintro e w1 ⟨rfl, b1⟩
      have hL2 := bl_trans hL b1
      have hO2 := ((Row.mk hO).keep b1).1
      have hB1 := B.keep b1
      go_wp2_with (at_builtin; refine wpList_push rfl _ _ 59 rfl (w.heap.size + 1) 9 i0 (.string ⟨#[]⟩) 1 16 Tryz.underlying59 hi hz0 hz1 hz2 rfl (by decide) _ _ _ rfl hO2 _ rfl rfl rfl (by omega) (by omega) hB1.lt ?_)
      intro v' w2 hO3 hg3
      have hB2 := hB1.grown hg3 (fun e => by have := (hO2.lt _ e.symm).1; omega)
      go_wp2_with fail
      go_roundw
      case rel => exact ⟨kk + 1, by omega, by go_num, by rw [HT.out, sVs_snocE2]; exact hO3, hB2, hL2.grown hg3 hL2.size (fun q e => by have := (hO2.lt q e).1; omega)⟩
      case measure => simp [intOf]; omega
    · obtain rfl : kk = x.len := by omega
      rw [List.take_of_length_le (by rw [HL.out]; exact Nat.le_refl _)] at hO
      obtain ⟨Av, cv, rfl⟩ := (Row.mk hO).form
      have hR := (Row.mk hO).reads
      have hXw := (hX.below hL (Nat.le_refl _)).more (Nat.le_refl _) hL.size
      have hTw := hT.keep hL
      clear hO
      have hp0 : 0 < x.len := by have := HLEN.out; omega
      obtain ⟨b, off, hAe, hb, hc⟩ := hR.2 hp0
      subst hAe
      have u0 := hc 0 _ HU0.out
      have hl0 : (0 : Int) < (x.len : Int) := by have := HLEN.out; omega
      rw [Nat.add_zero] at u0
      clear hc hR hp0
      go_wp2_with fail
      refine wp_region_held_drew (S := (fun y => Below wr.heap.size wr y)) (by kernel_rfl) ?_ (fun hHeld => ?_)
      · exact (Below.refl _ _).drew
      refine wpAnyH_take (i := 0) (oi := ⟨some 155, _, _, _, _, _⟩) (v := ?_) rfl (by kernel_rfl) (by kernel_rfl) (by kernel_rfl) (fun _ _ _ h => h) (Or.inl ⟨by rfl, ?_⟩) (by assumption) ?_
      case refine_2 => (intro w hSw; skip; go_simp; first | done | with_reducible rfl)
      simp only [Act.put, qA, qB, qC]
      refine wpAnyH_take (i := 1) (oi := ⟨some 156, _, _, _, _, _⟩) (v := ?_) rfl (by kernel_rfl) (by kernel_rfl) (by kernel_rfl) (fun _ _ _ h => h) (Or.inl ⟨by rfl, ?_⟩) (by assumption) ?_
      case refine_2 => (intro w hSw; have p := (B.keep hSw).cell; have v0 := (hSw.cell (p := ⟨b, off, none⟩) hb).trans u0; go_simp; first | done | with_reducible rfl)
      simp only [Act.put, qA, qB, qC]
      refine wpAnyH_take (i := 2) (oi := ⟨some 157, _, _, _, _, _⟩) (v := ?_) rfl (by kernel_rfl) (by kernel_rfl) (by kernel_rfl) (fun _ _ _ h => h) (Or.inl ⟨by rfl, ?_⟩) (by assumption) ?_
      case refine_2 => (intro w hSw; skip; go_simp; (try rw [if_neg (by omega)]); first | done | with_reducible rfl)
      simp only [Act.put, qA, qB, qC]
      refine wpAnyH_take (i := 3) (oi := ⟨some 158, _, _, _, _, _⟩) (v := ?_) rfl (by kernel_rfl) (by kernel_rfl) (by kernel_rfl) (fun _ _ _ h => h) (Or.inl ⟨by rfl, ?_⟩) (by assumption) ?_
      case refine_2 => (intro w hSw; skip; go_simp; (try rw [if_neg (by omega)]); first | done | with_reducible rfl)
      simp only [Act.put, qA, qB, qC]
      refine wpAnyH_take (i := 4) (oi := ⟨some 159, _, _, _, _, _⟩) (v := ?_) rfl (by kernel_rfl) (by kernel_rfl) (by kernel_rfl) (fun _ _ _ h => h) (Or.inl ⟨by rfl, ?_⟩) (by assumption) ?_
      case refine_2 => (intro w hSw; skip; go_simp; first | done | with_reducible rfl)
      simp only [Act.put, qA, qB, qC]
      refine wpAnyH_take (i := 5) (oi := ⟨some 160, _, _, _, _, _⟩) (v := ?_) rfl (by kernel_rfl) (by kernel_rfl) (by kernel_rfl) (fun _ _ _ h => h) (Or.inl ⟨by rfl, ?_⟩) (by assumption) ?_
      case refine_2 => (intro w hSw; skip; go_simp; (try rw [if_pos (by omega)]); first | done | with_reducible rfl)
      simp only [Act.put, qA, qB, qC]
      refine wpAnyH_take (i := 6) (oi := ⟨some 161, _, _, _, _, _⟩) (v := ?_) rfl (by kernel_rfl) (by kernel_rfl) (by kernel_rfl) (fun _ _ _ h => h) (Or.inl ⟨by rfl, ?_⟩) (by assumption) ?_
      case refine_2 => (intro w hSw; have p := (B.keep hSw).cell; have v0 := (hSw.cell (p := ⟨b, off, none⟩) hb).trans u0; go_simp; first | done | with_reducible rfl)
      simp only [Act.put, qA, qB, qC]
      refine wpAnyH_take (i := 7) (oi := ⟨some 162, _, _, _, _, _⟩) (v := ?_) rfl (by kernel_rfl) (by kernel_rfl) (by kernel_rfl) (fun _ _ _ h => h) (Or.inl ⟨by rfl, ?_⟩) (by assumption) ?_
      case refine_2 => (intro w hSw; skip; go_simp; (try rw [if_neg (by omega)]); first | done | with_reducible rfl)
      simp only [Act.put, qA, qB, qC]
      refine wpAnyH_take (i := 8) (oi := ⟨some 163, _, _, _, _, _⟩) (v := ?_) rfl (by kernel_rfl) (by kernel_rfl) (by kernel_rfl) (fun _ _ _ h => h) (Or.inl ⟨by rfl, ?_⟩) (by assumption) ?_
      case refine_2 => (intro w hSw; skip; go_simp; (try rw [if_neg (by omega)]); first | done | with_reducible rfl)
      simp only [Act.put, qA, qB, qC]
      refine wpAnyH_take (i := 9) (oi := ⟨some 2, _, _, _, _, _⟩) (v := ?_) rfl (by kernel_rfl) (by kernel_rfl) (by kernel_rfl) (fun _ _ _ h => h) (Or.inl ⟨by rfl, ?_⟩) (by assumption) ?_
      case refine_2 => (intro w hSw; skip; go_simp; first | done | with_reducible rfl)
      simp only [Act.put, qA, qB, qC]
      refine wpAnyH_done (by kernel_rfl) ?_ _
      go_wp2_with fail
      go_ret
      exact ⟨ret_str HE.out.symm, bl_trans hL hHeld⟩

set_option maxRecDepth 20000 in
set_option maxHeartbeats 4000000 in
theorem sStx_12 (K : Nat) (zs zt : ByteArray) (x : Fr (Int × Int × ByteArray)) (p q : St) (X : Option Addr) (cx : Nat) (P : Option Addr) (cp : Nat) (Q : Option Addr) (cq : Nat) (w : World) (hK : x.size + p.size + q.size ≤ K) (hl : x.size + p.size + q.size ≤ 1048576) (hwt : zs.size + zt.size + wt gExpr x + wtS gExpr p + wtS gExpr q ≤ 1048576) (hh : headS 12 zs zt x p.len q.len = true) (ht : termsB x = true) (hoP : okNA cntS.here p.fr = true) (hoQ : okNA cntS.here q.fr = true) (hT : Tab w) (hX : Tri w 0 w.heap.size X x P p Q q) (ih : ∀ (zk : Int) (zs zt : ByteArray) (x : Fr (Int × Int × ByteArray)) (p q : St) (X : Option Addr) (cx : Nat) (P : Option Addr) (cp : Nat) (Q : Option Addr) (cq : Nat), x.size + p.size + q.size < K → zs.size + zt.size + wt gExpr x + wtS gExpr p + wtS gExpr q ≤ 1048576 → headS zk zs zt x p.len q.len = true → termsB x = true → okNA cntS.here p.fr = true → okNA cntS.here q.fr = true → ∀ (w : World), Tab w → Tri w 0 w.heap.size X x P p Q q → Calls Tryz.prog 29 #[.agg #[.int .i64 zk, .string zs, .string zt, .slice X x.len cx, .slice P p.len cp, .slice Q q.len cq]] w fun e w' => e = .returned (.string (stx (zk, zs, zt) (rowX x) (blkT (rowS p)) (blkT (rowS q)) (decide (0 < q.len)))) ∧ Below w.heap.size w w') :
    Calls Tryz.prog 29 #[.agg #[.int .i64 12, .string zs, .string zt, .slice X x.len cx, .slice P p.len cp, .slice Q q.len cq]] w fun e w' => e = .returned (.string (stx (12, zs, zt) (rowX x) (blkT (rowS p)) (blkT (rowS q)) (decide (0 < q.len)))) ∧ Below w.heap.size w w' := by
  have B := Blk.new w 40 #[.int .i64 12, .string zs, .string zt, .slice X x.len cx, .slice P p.len cp, .slice Q q.len cq]
  have L0 := bl_alloc (Below.refl w.heap.size w) (.cells #[.int .i64 12, .string zs, .string zt, .slice X x.len cx, .slice P p.len cp, .slice Q q.len cq] 40)
  have hok := termsB_ok x ht
  have _ := hK
  have _ := ih
  have _ := hl
  have _ := hoP
  have _ := hoQ
  have _ := hh
  have HL := Lib.hid (rowX_len x)
  have hlx := x.len_size
  have HA := Lib.hid hok
  obtain ⟨i0, hi, hz0, hz1, hz2⟩ := info_parts info_str
  have hlen : x.len = 1 := by
    rw [headS_12] at hh
    simp at hh
    omega
  have HLEN := Lib.hid hlen
  clear hlen
  have ht0 : ((rowX x).getD 0 ⟨#[]⟩).size ≤ 70000000 := by
    have g1 := getX_two (rowX x)
    have g2 := lenX_wt x
    omega
  have hu0 : (sVs (rowX x))[0]? = some (.string ((rowX x).getD 0 ⟨#[]⟩)) := sVs_getD (by rw [HL.out]; have := HLEN.out; omega)
  have HE := Lib.hid (show stx (12, zs, zt) (rowX x) (blkT (rowS p)) (blkT (rowS q)) (decide (0 < q.len)) = (((rowX x).getD 0 ⟨#[]⟩) ++ ⟨#[59]⟩) from rfl)
  generalize (rowX x).getD 0 ⟨#[]⟩ = t0 at hu0 ht0 HE
  have HU0 := Lib.hid hu0
  clear hu0
  clear ih hh hok
  have z1 : (t0 ++ ⟨#[59]⟩).size = t0.size + 1 := by rw [ByteArray.size_append]; rfl
  have hO0 := World.ownsRow_made (e := 9) (size := 1) (base := w.heap.size + 1) (w.alloc (.cells #[.int .i64 12, .string zs, .string zt, .slice X x.len cx, .slice P p.len cp, .slice Q q.len cq] 40)) #[] 0 (by rw [alloc_size]; exact Nat.le_refl _) (by simp [maxLen]) (by simp)
  rw [alloc_size] at hO0
  have HO0 := Lib.hid hO0
  clear hO0
  go_enter Tryz.func29, Tryz.ntmps29
  go_wp2_with fail
  go_loopw [3, 4] (fun v i wr => ∃ kk : Nat, kk ≤ x.len ∧ i = .int .i64 kk ∧ wr.ownsRow (w.heap.size + 1) 9 1 v kk (sVs ((rowX x).take kk)) ∧ Blk wr w.heap.size 40 #[.int .i64 12, .string zs, .string zt, .slice X x.len cx, .slice P p.len cp, .slice Q q.len cq] ∧ Below w.heap.size w wr) (fun _ i _ => x.len - (intOf i).toNat)
  case atStart => exact ⟨0, Nat.zero_le _, rfl, HO0.out, B.alloc _, bl_alloc L0 _⟩
  case round =>
    clear B L0
    obtain ⟨kk, hkk, rfl, hO, B, hL⟩ := hrel
    have cb := B.cell
    by_cases hlt : kk < x.len
    · obtain ⟨b, o, l, k1, A1, c1, hAe, hb, hd, hks, hSk, q0, q1, q2, q3⟩ := at_Expr (hX.1.below hL (Nat.le_refl _)) hlt
      subst hAe
      obtain ⟨h1, h2⟩ := okNA_at HA.out hd
      have hwa := wtE_at hd
      have hat := rowX_at hlt hd
      obtain ⟨yk, yn, ys⟩ := l
      simp only at q0 q1 q2 h1 hwa hat
      have hlt' : (kk : Int) < (x.len : Int) := by omega
      have hkl : (x.len : Int) ≤ 1048576 := by omega
      have HT := Lib.hid (show (rowX x).take (kk + 1) = (rowX x).take kk ++ [txE (yk, yn, ys) (rowX k1)] by rw [List.take_succ_eq_append_getElem (by rw [HL.out]; exact hlt), hat])
      have C := sTextE_any k1.size (by omega) k1 (Nat.le_refl _) yk yn ys A1 c1 wr h1 h2 (by omega) (hT.keep hL) (hSk.more (Nat.le_refl _) hL.size)
      generalize txE (yk, yn, ys) (rowX k1) = t at C HT
      have CC := Lib.hid C
      clear C hat hd h1 h2
      go_wp2_with fail
      refine CC.out.mono ?_; rintro e w1 ⟨rfl, b1⟩
      have hL2 := bl_trans hL b1
      have hO2 := ((Row.mk hO).keep b1).1
      have hB1 := B.keep b1
      go_wp2_with (at_builtin; refine wpList_push rfl _ _ 59 rfl (w.heap.size + 1) 9 i0 (.string ⟨#[]⟩) 1 16 Tryz.underlying59 hi hz0 hz1 hz2 rfl (by decide) _ _ _ rfl hO2 _ rfl rfl rfl (by omega) (by omega) hB1.lt ?_)
      intro v' w2 hO3 hg3
      have hB2 := hB1.grown hg3 (fun e => by have := (hO2.lt _ e.symm).1; omega)
      go_wp2_with fail
      go_roundw
      case rel => exact ⟨kk + 1, by omega, by go_num, by rw [HT.out, sVs_snocE2]; exact hO3, hB2, hL2.grown hg3 hL2.size (fun q e => by have := (hO2.lt q e).1; omega)⟩
      case measure => simp [intOf]; omega
    · obtain rfl : kk = x.len := by omega
      rw [List.take_of_length_le (by rw [HL.out]; exact Nat.le_refl _)] at hO
      obtain ⟨Av, cv, rfl⟩ := (Row.mk hO).form
      have hR := (Row.mk hO).reads
      have hXw := (hX.below hL (Nat.le_refl _)).more (Nat.le_refl _) hL.size
      have hTw := hT.keep hL
      clear hO
      have hp0 : 0 < x.len := by have := HLEN.out; omega
      obtain ⟨b, off, hAe, hb, hc⟩ := hR.2 hp0
      subst hAe
      have u0 := hc 0 _ HU0.out
      have hl0 : (0 : Int) < (x.len : Int) := by have := HLEN.out; omega
      rw [Nat.add_zero] at u0
      clear hc hR hp0
      go_wp2_with fail
      go_ret
      exact ⟨ret_str HE.out.symm, hL⟩

theorem sStx (K : Nat) (zk : Int) (zs zt : ByteArray) (x : Fr (Int × Int × ByteArray)) (p q : St) (X : Option Addr) (cx : Nat) (P : Option Addr) (cp : Nat) (Q : Option Addr) (cq : Nat) (w : World) (hK : x.size + p.size + q.size ≤ K) (hl : x.size + p.size + q.size ≤ 1048576) (hwt : zs.size + zt.size + wt gExpr x + wtS gExpr p + wtS gExpr q ≤ 1048576) (hh : headS zk zs zt x p.len q.len = true) (ht : termsB x = true) (hoP : okNA cntS.here p.fr = true) (hoQ : okNA cntS.here q.fr = true) (hT : Tab w) (hX : Tri w 0 w.heap.size X x P p Q q) (ih : ∀ (zk : Int) (zs zt : ByteArray) (x : Fr (Int × Int × ByteArray)) (p q : St) (X : Option Addr) (cx : Nat) (P : Option Addr) (cp : Nat) (Q : Option Addr) (cq : Nat), x.size + p.size + q.size < K → zs.size + zt.size + wt gExpr x + wtS gExpr p + wtS gExpr q ≤ 1048576 → headS zk zs zt x p.len q.len = true → termsB x = true → okNA cntS.here p.fr = true → okNA cntS.here q.fr = true → ∀ (w : World), Tab w → Tri w 0 w.heap.size X x P p Q q → Calls Tryz.prog 29 #[.agg #[.int .i64 zk, .string zs, .string zt, .slice X x.len cx, .slice P p.len cp, .slice Q q.len cq]] w fun e w' => e = .returned (.string (stx (zk, zs, zt) (rowX x) (blkT (rowS p)) (blkT (rowS q)) (decide (0 < q.len)))) ∧ Below w.heap.size w w') :
    Calls Tryz.prog 29 #[.agg #[.int .i64 zk, .string zs, .string zt, .slice X x.len cx, .slice P p.len cp, .slice Q q.len cq]] w fun e w' => e = .returned (.string (stx (zk, zs, zt) (rowX x) (blkT (rowS p)) (blkT (rowS q)) (decide (0 < q.len)))) ∧ Below w.heap.size w w' := by
  by_cases n1 : zk = 1
  · subst n1; exact sStx_1 K zs zt x p q X cx P cp Q cq w hK hl hwt hh ht hoP hoQ hT hX ih
  by_cases n2 : zk = 2
  · subst n2; exact sStx_2 K zs zt x p q X cx P cp Q cq w hK hl hwt hh ht hoP hoQ hT hX ih
  by_cases n3 : zk = 3
  · subst n3; exact sStx_3 K zs zt x p q X cx P cp Q cq w hK hl hwt hh ht hoP hoQ hT hX ih
  by_cases n4 : zk = 4
  · subst n4; exact sStx_4 K zs zt x p q X cx P cp Q cq w hK hl hwt hh ht hoP hoQ hT hX ih
  by_cases n5 : zk = 5
  · subst n5; exact sStx_5 K zs zt x p q X cx P cp Q cq w hK hl hwt hh ht hoP hoQ hT hX ih
  by_cases n6 : zk = 6
  · subst n6; exact sStx_6 K zs zt x p q X cx P cp Q cq w hK hl hwt hh ht hoP hoQ hT hX ih
  by_cases n7 : zk = 7
  · subst n7; exact sStx_7 K zs zt x p q X cx P cp Q cq w hK hl hwt hh ht hoP hoQ hT hX ih
  by_cases n8 : zk = 8
  · subst n8; exact sStx_8 K zs zt x p q X cx P cp Q cq w hK hl hwt hh ht hoP hoQ hT hX ih
  by_cases n9 : zk = 9
  · subst n9; exact sStx_9 K zs zt x p q X cx P cp Q cq w hK hl hwt hh ht hoP hoQ hT hX ih
  by_cases n10 : zk = 10
  · subst n10; exact sStx_10 K zs zt x p q X cx P cp Q cq w hK hl hwt hh ht hoP hoQ hT hX ih
  by_cases n11 : zk = 11
  · subst n11; exact sStx_11 K zs zt x p q X cx P cp Q cq w hK hl hwt hh ht hoP hoQ hT hX ih
  by_cases n12 : zk = 12
  · subst n12; exact sStx_12 K zs zt x p q X cx P cp Q cq w hK hl hwt hh ht hoP hoQ hT hX ih
  have := headS_none (k := zk) (by intro j hj; simp only [List.mem_cons, List.not_mem_nil, or_false] at hj; rcases hj with rfl | rfl | rfl | rfl | rfl | rfl | rfl | rfl | rfl | rfl | rfl | rfl <;> assumption) zs zt x p.len q.len
  rw [this] at hh
  cases hh

theorem sStx_any (K : Nat) : K ≤ 1048576 → ∀ (zk : Int) (zs zt : ByteArray) (x : Fr (Int × Int × ByteArray)) (p q : St) (X : Option Addr) (cx : Nat) (P : Option Addr) (cp : Nat) (Q : Option Addr) (cq : Nat), x.size + p.size + q.size ≤ K → zs.size + zt.size + wt gExpr x + wtS gExpr p + wtS gExpr q ≤ 1048576 → headS zk zs zt x p.len q.len = true → termsB x = true → okNA cntS.here p.fr = true → okNA cntS.here q.fr = true → ∀ (w : World), Tab w → Tri w 0 w.heap.size X x P p Q q → Calls Tryz.prog 29 #[.agg #[.int .i64 zk, .string zs, .string zt, .slice X x.len cx, .slice P p.len cp, .slice Q q.len cq]] w fun e w' => e = .returned (.string (stx (zk, zs, zt) (rowX x) (blkT (rowS p)) (blkT (rowS q)) (decide (0 < q.len)))) ∧ Below w.heap.size w w' := by
  induction K with
  | zero =>
    intro _ zk zs zt x p q X cx P cp Q cq hK hwt hh ht hoP hoQ w hT hX
    exact sStx 0 zk zs zt x p q X cx P cp Q cq w hK (by omega) hwt hh ht hoP hoQ hT hX (fun _ _ _ x p q _ _ _ _ _ _ h => by omega)
  | succ K ih =>
    intro hb zk zs zt x p q X cx P cp Q cq hK hwt hh ht hoP hoQ w hT hX
    exact sStx (K + 1) zk zs zt x p q X cx P cp Q cq w hK (by omega) hwt hh ht hoP hoQ hT hX (fun zk zs zt x p q X cx P cp Q cq h => ih (by omega) zk zs zt x p q X cx P cp Q cq (by omega))
set_option maxHeartbeats 2000000 in
theorem sStmtText (zk : Int) (zs zt : ByteArray) (x : Fr (Int × Int × ByteArray)) (p q : St) (X : Option Addr) (cx : Nat) (P : Option Addr) (cp : Nat) (Q : Option Addr) (cq : Nat) (w : World) (hl : x.size + p.size + q.size ≤ 1048576) (hwt : zs.size + zt.size + wt gExpr x + wtS gExpr p + wtS gExpr q ≤ 1048576) (hq : StOk qSmS qSmE p ∧ StOk qSmS qSmE q ∧ FrOk qSmE x) (hT : Tab w) (hX : Tri w 0 w.heap.size X x P p Q q) :
    Calls Tryz.prog 12 #[.agg #[.int .i64 zk, .string zs, .string zt, .slice X x.len cx, .slice P p.len cp, .slice Q q.len cq]] w fun e w' => e = .returned (.string (stO (zk, zs, zt) x p q)) ∧ Below w.heap.size w w' := by
  have B := Blk.new w 40 #[.int .i64 zk, .string zs, .string zt, .slice X x.len cx, .slice P p.len cp, .slice Q q.len cq]
  have L0 := bl_alloc (Below.refl w.heap.size w) (.cells #[.int .i64 zk, .string zs, .string zt, .slice X x.len cx, .slice P p.len cp, .slice Q q.len cq] 40)
  have hXW := (hX.below L0 (Nat.le_refl _)).more (Nat.le_refl _) L0.size
  have C := sStmtOk zk zs zt x p q X cx P cp Q cq _ hl (by omega) hq hXW
  unfold stO
  cases hR : rightN cntS ((zk, zs, zt), x, p.len, q.len) (p.fr.app q.fr)
  · rw [hR] at C
    rw [if_neg Bool.false_ne_true]
    have CC := Lib.hid C
    clear C hR
    go_enter Tryz.func12, Tryz.ntmps12
    go_wp2_with fail
    refine CC.out.mono ?_; rintro e w1 ⟨rfl, b1⟩
    go_wp2_with fail
    go_ret
    exact ⟨rfl, bl_trans L0 b1⟩
  · rw [hR] at C
    rw [if_pos rfl]
    obtain ⟨h1, h2, _, _, h3, h4⟩ := rightS_parts hR
    have D := fun w hT hX => sStx_any (x.size + p.size + q.size) hl zk zs zt x p q X cx P cp Q cq (Nat.le_refl _) hwt h2 h1 h3 h4 w hT hX
    generalize stx (zk, zs, zt) (rowX x) (blkT (rowS p)) (blkT (rowS q)) (decide (0 < q.len)) = t at D ⊢
    have CC := Lib.hid C
    have DD := Lib.hid D
    clear C D hR h1 h2 h3 h4
    go_enter Tryz.func12, Tryz.ntmps12
    go_wp2_with fail
    refine CC.out.mono ?_; rintro e w1 ⟨rfl, b1⟩
    have L1 := bl_trans L0 b1
    have cb := (B.keep b1).cell
    go_wp2_with fail
    refine (DD.out _ (hT.keep L1) ((hX.below L1 (Nat.le_refl _)).more (Nat.le_refl _) L1.size)).mono ?_; rintro e w2 ⟨rfl, b2⟩
    go_wp2_with fail
    go_ret
    exact ⟨rfl, bl_trans L1 b2⟩

end Go.Proofs.YtemlnpncljomgaaGreatDoor
