/- FnSameTrees: the program's and the reference's SameExpr, SameStmt and SameProg answer alike, and a tree is the same as itself. No condition. -/
import Derived.Test.YtalnkdbmbjplpaaLift
import Derived.Test.YtalnkdbmbjplpaaOpenB
import Derived.Test.YtalnkdbmbjplpaaBig
import Derived.Test.YtalnkdbmbjplpaaSamF
import Derived.Test.YtalnkdbmbjplpaaSamG
import Derived.Test.YtalnkdbmbjplpaaP10f
import Derived.Deep.RegionHeld3
import Derived.Deep.CutRange
namespace Go.Proofs.Ytalnkdbmbjplpaa
open Go.ChangeShapes Go.WideShapes Go.ChangeAt Go.RowKit

theorem labB_refl (a : Int × Int × ByteArray) : labB a a = true := by simp [labB]
theorem labB_symm (a b : Int × Int × ByteArray) : labB a b = labB b a := by
  unfold labB
  rw [BEq.comm (a := a.1) (b := b.1), BEq.comm (a := a.2.1) (b := b.2.1), BEq.comm (a := a.2.2.toList) (b := b.2.2.toList)]
theorem sameF_refl : ∀ (x : Fr (Int × Int × ByteArray)), sameF x x = true
  | .nil => rfl
  | .cons a k r => by rw [sameF, labB_refl, sameF_refl k, sameF_refl r]; rfl
theorem sameF_symm : ∀ (x y : Fr (Int × Int × ByteArray)), sameF x y = sameF y x
  | .nil, .nil => rfl
  | .nil, .cons _ _ _ => rfl
  | .cons _ _ _, .nil => rfl
  | .cons a k r, .cons b k' r' => by rw [sameF, sameF, labB_symm a b, sameF_symm k k', sameF_symm r r']
theorem labS_refl (a : Int × ByteArray × ByteArray) : labS a a = true := by simp [labS]
theorem sameS_refl : ∀ (x : St), sameS x x = true
  | .nil => rfl
  | .cons a x p q r => by rw [sameS, labS_refl, sameF_refl x, sameS_refl p, sameS_refl q, sameS_refl r]; rfl
theorem exprB_refl (a : Int × Int × ByteArray) (x : Fr (Int × Int × ByteArray)) : (labB a a && sameF x x) = true := by rw [labB_refl, sameF_refl]; rfl
theorem exprB_symm (a b : Int × Int × ByteArray) (x y : Fr (Int × Int × ByteArray)) : (labB b a && sameF y x) = (labB a b && sameF x y) := by rw [labB_symm b a, sameF_symm y x]
theorem stmtB_refl (a : Int × ByteArray × ByteArray) (x : Fr (Int × Int × ByteArray)) (p q : St) : (labS a a && (sameF x x && (sameS p p && sameS q q))) = true := by rw [labS_refl, sameF_refl, sameS_refl, sameS_refl]; rfl
set_option maxRecDepth 100000 in
set_option maxHeartbeats 8000000 in
theorem FnSameTrees_walk (A0 : Option Addr) (c0 : Nat) (bs : List Int) (w : World) (hR : Reads w w.heap.size 1 A0 bs.length (u8s bs)) (hZ : Byt bs) :
    Calls Try.prog 3 #[.slice A0 bs.length c0] w fun e w' => e = .returned (.bool true) ∧ Below w.heap.size w w' := by
  by_cases hn : bs.length ≤ 1048576
  case neg =>
    have hgt : (1048576 : Int) < (bs.length : Int) := by omega
    go_enter Try.func3, Try.ntmps3
    go_wp2_with fail
    refine (big_any _ _ _ _).mono ?_; rintro e w1 ⟨rfl, rfl⟩
    go_wp2_with fail
    go_ret
    exact ⟨rfl, Below.refl _ _⟩
  have hng : ¬ (1048576 : Int) < (bs.length : Int) := by omega
  go_enter Try.func3, Try.ntmps3
  go_wp2_with fail
  refine (big_any _ _ _ _).mono ?_; rintro e w0 ⟨rfl, rfl⟩
  go_wp2_with fail
  refine (dDrawSameExpr A0 bs.length c0 bs w0 hR hZ hn).mono ?_; rintro e w1 ⟨k, n, s, x, A, c, k', n', s', x', A', c', rfl, hx, hx', SX, SX', b1⟩
  clear hng
  go_upto_region 4 with fail
  have E1 := (Blk.new w1 26 #[.int .i64 k, .int .i64 n, .string s, .slice A x.len c]).alloc (.cells #[.int .i64 k', .int .i64 n', .string s', .slice A' x'.len c'] 26)
  have E2 := Blk.new2 w1 (.cells #[.int .i64 k, .int .i64 n, .string s, .slice A x.len c] 26) 26 #[.int .i64 k', .int .i64 n', .string s', .slice A' x'.len c']
  have b2 := bl_alloc (bl_alloc (Below.refl w1.heap.size w1) (.cells #[.int .i64 k, .int .i64 n, .string s, .slice A x.len c] 26)) (.cells #[.int .i64 k', .int .i64 n', .string s', .slice A' x'.len c'] 26)
  generalize (w1.alloc (.cells #[.int .i64 k, .int .i64 n, .string s, .slice A x.len c] 26)).alloc (.cells #[.int .i64 k', .int .i64 n', .string s', .slice A' x'.len c'] 26) = w2 at E1 E2 b2 ⊢
  have L2 := bl_trans b1 b2
  have hR2 := rd_below hR L2
  go_wp2_with fail
  refine (dDrawSameStmt A0 bs.length c0 bs w2 hR2 hZ hn).mono ?_; rintro e w3 ⟨zk, zs, zt, t, p, q, X, P, Q, cx, cp, cq, zk', zs', zt', t', p', q', X', P', Q', cx', cp', cq', rfl, ht, ht', ⟨TX, TP, TQ⟩, ⟨TX', TP', TQ'⟩, b3⟩
  go_upto_region 5 with fail
  have S1 := (Blk.new w3 31 #[.int .i64 zk, .string zs, .string zt, .slice X t.len cx, .slice P p.len cp, .slice Q q.len cq]).alloc (.cells #[.int .i64 zk', .string zs', .string zt', .slice X' t'.len cx', .slice P' p'.len cp', .slice Q' q'.len cq'] 31)
  have S2 := Blk.new2 w3 (.cells #[.int .i64 zk, .string zs, .string zt, .slice X t.len cx, .slice P p.len cp, .slice Q q.len cq] 31) 31 #[.int .i64 zk', .string zs', .string zt', .slice X' t'.len cx', .slice P' p'.len cp', .slice Q' q'.len cq']
  have b4 := bl_alloc (bl_alloc (Below.refl w3.heap.size w3) (.cells #[.int .i64 zk, .string zs, .string zt, .slice X t.len cx, .slice P p.len cp, .slice Q q.len cq] 31)) (.cells #[.int .i64 zk', .string zs', .string zt', .slice X' t'.len cx', .slice P' p'.len cp', .slice Q' q'.len cq'] 31)
  generalize (w3.alloc (.cells #[.int .i64 zk, .string zs, .string zt, .slice X t.len cx, .slice P p.len cp, .slice Q q.len cq] 31)).alloc (.cells #[.int .i64 zk', .string zs', .string zt', .slice X' t'.len cx', .slice P' p'.len cp', .slice Q' q'.len cq'] 31) = w4 at S1 S2 b4 ⊢
  have b24 := bl_trans b3 b4
  replace E1 := E1.keep b24
  replace E2 := E2.keep b24
  have L4 := bl_trans L2 b24
  have hR4 := rd_below hR L4
  go_wp2_with fail
  refine (dDrawSameProg A0 bs.length c0 bs w4 hR4 hZ hn).mono ?_; rintro e w5 ⟨AR, AF, cR, cF, L, M, AR', AF', cR', cF', L', M', rfl, hB, hB', ⟨PR, PF⟩, ⟨PR', PF'⟩, b5⟩
  go_upto_region 6 with fail
  have P1 := (Blk.new w5 37 #[.slice AR L.length cR, .slice AF M.length cF]).alloc (.cells #[.slice AR' L'.length cR', .slice AF' M'.length cF'] 37)
  have P2 := Blk.new2 w5 (.cells #[.slice AR L.length cR, .slice AF M.length cF] 37) 37 #[.slice AR' L'.length cR', .slice AF' M'.length cF']
  have b6 := bl_alloc (bl_alloc (Below.refl w5.heap.size w5) (.cells #[.slice AR L.length cR, .slice AF M.length cF] 37)) (.cells #[.slice AR' L'.length cR', .slice AF' M'.length cF'] 37)
  generalize (w5.alloc (.cells #[.slice AR L.length cR, .slice AF M.length cF] 37)).alloc (.cells #[.slice AR' L'.length cR', .slice AF' M'.length cF'] 37) = w6 at P1 P2 b6 ⊢
  have b46 := bl_trans b5 b6
  replace E1 := E1.keep b46
  replace E2 := E2.keep b46
  replace S1 := S1.keep b46
  replace S2 := S2.keep b46
  have LW := bl_trans L4 b46
  have b26 := bl_trans b24 b46
  have b16 := bl_trans b2 b26
  have b36 := bl_trans b4 b46
  replace SX := Sl.w SX b16
  replace SX' := Sl.w SX' b16
  replace TX := Sl.w TX b36
  replace TX' := Sl.w TX' b36
  replace TP := SlS.w TP b36
  replace TP' := SlS.w TP' b36
  replace TQ := SlS.w TQ b36
  replace TQ' := SlS.w TQ' b36
  replace PR := PR.w b6
  replace PR' := PR'.w b6
  replace PF := PF.w b6
  replace PF' := PF'.w b6
  have ea := fun y (h : Below w6.heap.size w6 y) => cIE k n k n s s x x A A c c y (by omega) (by omega) (SX.w h) (SX.w h)
  have ei := fun y (h : Below w6.heap.size w6 y) => cIE k n k' n' s s' x x' A A' c c' y (by omega) (by omega) (SX.w h) (SX'.w h)
  have es := fun y (h : Below w6.heap.size w6 y) => cSE k n k' n' s s' x x' A A' c c' y (by omega) (by omega) (SX.w h) (SX'.w h)
  have eb := fun y (h : Below w6.heap.size w6 y) => cIE k' n' k n s' s x' x A' A c' c y (by omega) (by omega) (SX'.w h) (SX.w h)
  have sa := fun y (h : Below w6.heap.size w6 y) => cIS zk zk zs zs zt zt t t p p q q X X P P Q Q cx cx cp cp cq cq y (by omega) (by omega) ⟨TX.w h, TP.w h, TQ.w h⟩ ⟨TX.w h, TP.w h, TQ.w h⟩
  have si := fun y (h : Below w6.heap.size w6 y) => cIS zk zk' zs zs' zt zt' t t' p p' q q' X X' P P' Q Q' cx cx' cp cp' cq cq' y (by omega) (by omega) ⟨TX.w h, TP.w h, TQ.w h⟩ ⟨TX'.w h, TP'.w h, TQ'.w h⟩
  have ss := fun y (h : Below w6.heap.size w6 y) => cSS zk zk' zs zs' zt zt' t t' p p' q q' X X' P P' Q Q' cx cx' cp cp' cq cq' y (by omega) (by omega) ⟨TX.w h, TP.w h, TQ.w h⟩ ⟨TX'.w h, TP'.w h, TQ'.w h⟩
  have pi := fun y (h : Below w6.heap.size w6 y) => iProg AR AF cR cF L M AR' AF' cR' cF' L' M' y hB (PR.w h) (PF.w h) hB' (PR'.w h) (PF'.w h)
  have ps := fun y (h : Below w6.heap.size w6 y) => sProg AR AF cR cF L M AR' AF' cR' cF' L' M' y hB (PR.w h) (PF.w h) hB' (PR'.w h) (PF'.w h)
  rw [exprB_refl] at ea
  rw [exprB_symm] at eb
  rw [stmtB_refl] at sa
  generalize (labB (k, n, s) (k', n', s') && sameF x x') = y1 at ei es eb
  generalize (labS (zk, zs, zt) (zk', zs', zt') && (sameF t t' && (sameS p p' && sameS q q'))) = y2 at si ss
  generalize (sameL rulB L L' && sameL funB M M') = y3 at pi ps
  have Cea := Lib.hid ea
  have Cei := Lib.hid ei
  have Ces := Lib.hid es
  have Ceb := Lib.hid eb
  have Csa := Lib.hid sa
  have Csi := Lib.hid si
  have Css := Lib.hid ss
  have Cpi := Lib.hid pi
  have Cps := Lib.hid ps
  clear ea ei es eb sa si ss pi ps SX SX' TX TX' TP TP' TQ TQ' PR PR' PF PF' hB hB' hR2 hR4
  refine wp_region_held_drew (S := (fun y => Below w6.heap.size w6 y)) (by kernel_rfl) ?_ (fun hHeld => ?_)
  · exact (Below.refl _ _).drew
  refine wpAnyH_take (i := 0) (oi := ⟨some 26, _, _, _, _, _⟩) (v := ?_) rfl (by kernel_rfl) (by kernel_rfl) (by kernel_rfl) (fun _ _ _ h => h) (Or.inl ⟨by rfl, ?_⟩) (by assumption) ?_
  case refine_2 => (intro w hSw; have p := (E1.keep hSw).cell; go_simp; first | done | with_reducible rfl)
  simp only [Act.put, List.setIfInBounds_toArray, List.set_cons_zero, List.set_cons_succ]
  refine wpAnyH_take (i := 1) (oi := ⟨some 27, _, _, _, _, _⟩) (v := ?_) rfl (by kernel_rfl) (by kernel_rfl) (by kernel_rfl) (fun _ _ _ h => h) (Or.inl ⟨by rfl, ?_⟩) (by assumption) ?_
  case refine_2 => (intro w hSw; have p := (E1.keep hSw).cell; go_simp; first | done | with_reducible rfl)
  simp only [Act.put, List.setIfInBounds_toArray, List.set_cons_zero, List.set_cons_succ]
  refine wpAnyH_ready (rs := [2]) (by kernel_rfl) (by simp) ?_
  refine AllReadyH.cons (o := ⟨some 28, _, _, _, _, _⟩) rfl (fun K hK => ?_) AllReadyH.nil
  go_simp
  refine (Cea.out _ hHeld).mono ?_; rintro e vea ⟨rfl, dea⟩
  go_wp2_with fail
  refine hK.out _ _ (bl_trans hHeld dea) (fun hHeld => ?_)
  clear hK K
  try simp only [Act.put, List.setIfInBounds_toArray, List.set_cons_zero, List.set_cons_succ]
  refine wpAnyH_take (i := 3) (oi := ⟨some 29, _, _, _, _, _⟩) (v := ?_) rfl (by kernel_rfl) (by kernel_rfl) (by kernel_rfl) (fun _ _ _ h => h) (Or.inl ⟨by rfl, ?_⟩) (by assumption) ?_
  case refine_2 => (intro w hSw; skip; go_simp; first | done | with_reducible rfl)
  simp only [Act.put, List.setIfInBounds_toArray, List.set_cons_zero, List.set_cons_succ]
  refine wpAnyH_take (i := 4) (oi := ⟨some 30, _, _, _, _, _⟩) (v := ?_) rfl (by kernel_rfl) (by kernel_rfl) (by kernel_rfl) (fun _ _ _ h => h) (Or.inl ⟨by rfl, ?_⟩) (by assumption) ?_
  case refine_2 => (intro w hSw; have p := (E1.keep hSw).cell; go_simp; first | done | with_reducible rfl)
  simp only [Act.put, List.setIfInBounds_toArray, List.set_cons_zero, List.set_cons_succ]
  refine wpAnyH_take (i := 5) (oi := ⟨some 31, _, _, _, _, _⟩) (v := ?_) rfl (by kernel_rfl) (by kernel_rfl) (by kernel_rfl) (fun _ _ _ h => h) (Or.inl ⟨by rfl, ?_⟩) (by assumption) ?_
  case refine_2 => (intro w hSw; have p := (E2.keep hSw).cell; go_simp; first | done | with_reducible rfl)
  simp only [Act.put, List.setIfInBounds_toArray, List.set_cons_zero, List.set_cons_succ]
  refine wpAnyH_take (i := 7) (oi := ⟨some 33, _, _, _, _, _⟩) (v := ?_) rfl (by kernel_rfl) (by kernel_rfl) (by kernel_rfl) (fun _ _ _ h => h) (Or.inl ⟨by rfl, ?_⟩) (by assumption) ?_
  case refine_2 => (intro w hSw; have p := (E1.keep hSw).cell; go_simp; first | done | with_reducible rfl)
  simp only [Act.put, List.setIfInBounds_toArray, List.set_cons_zero, List.set_cons_succ]
  refine wpAnyH_take (i := 8) (oi := ⟨some 34, _, _, _, _, _⟩) (v := ?_) rfl (by kernel_rfl) (by kernel_rfl) (by kernel_rfl) (fun _ _ _ h => h) (Or.inl ⟨by rfl, ?_⟩) (by assumption) ?_
  case refine_2 => (intro w hSw; have p := (E2.keep hSw).cell; go_simp; first | done | with_reducible rfl)
  simp only [Act.put, List.setIfInBounds_toArray, List.set_cons_zero, List.set_cons_succ]
  refine wpAnyH_ready (rs := [6]) (by kernel_rfl) (by simp) ?_
  refine AllReadyH.cons (o := ⟨some 32, _, _, _, _, _⟩) rfl (fun K hK => ?_) AllReadyH.nil
  go_simp
  refine (Cei.out _ hHeld).mono ?_; rintro e vei ⟨rfl, dei⟩
  go_wp2_with fail
  refine hK.out _ _ (bl_trans hHeld dei) (fun hHeld => ?_)
  clear hK K
  try simp only [Act.put, List.setIfInBounds_toArray, List.set_cons_zero, List.set_cons_succ]
  refine wpAnyH_ready (rs := [9]) (by kernel_rfl) (by simp) ?_
  refine AllReadyH.cons (o := ⟨some 35, _, _, _, _, _⟩) rfl (fun K hK => ?_) AllReadyH.nil
  go_simp
  refine (Ces.out _ hHeld).mono ?_; rintro e ves ⟨rfl, des⟩
  go_wp2_with fail
  refine hK.out _ _ (bl_trans hHeld des) (fun hHeld => ?_)
  clear hK K
  try simp only [Act.put, List.setIfInBounds_toArray, List.set_cons_zero, List.set_cons_succ]
  refine wpAnyH_take (i := 10) (oi := ⟨some 36, _, _, _, _, _⟩) (v := ?_) rfl (by kernel_rfl) (by kernel_rfl) (by kernel_rfl) (fun _ _ _ h => h) (Or.inl ⟨by rfl, ?_⟩) (by assumption) ?_
  case refine_2 => (intro w hSw; skip; go_simp; first | done | with_reducible rfl)
  simp only [Act.put, List.setIfInBounds_toArray, List.set_cons_zero, List.set_cons_succ]
  refine wpAnyH_take (i := 11) (oi := ⟨some 37, _, _, _, _, _⟩) (v := ?_) rfl (by kernel_rfl) (by kernel_rfl) (by kernel_rfl) (fun _ _ _ h => h) (Or.inl ⟨by rfl, ?_⟩) (by assumption) ?_
  case refine_2 => (intro w hSw; skip; go_simp; first | done | with_reducible rfl)
  simp only [Act.put, List.setIfInBounds_toArray, List.set_cons_zero, List.set_cons_succ]
  refine wpAnyH_take (i := 12) (oi := ⟨some 38, _, _, _, _, _⟩) (v := ?_) rfl (by kernel_rfl) (by kernel_rfl) (by kernel_rfl) (fun _ _ _ h => h) (Or.inl ⟨by rfl, ?_⟩) (by assumption) ?_
  case refine_2 => (intro w hSw; skip; go_simp; first | done | with_reducible rfl)
  simp only [Act.put, List.setIfInBounds_toArray, List.set_cons_zero, List.set_cons_succ]
  refine wpAnyH_take (i := 13) (oi := ⟨some 39, _, _, _, _, _⟩) (v := ?_) rfl (by kernel_rfl) (by kernel_rfl) (by kernel_rfl) (fun _ _ _ h => h) (Or.inl ⟨by rfl, ?_⟩) (by assumption) ?_
  case refine_2 => (intro w hSw; have p := (E1.keep hSw).cell; go_simp; first | done | with_reducible rfl)
  simp only [Act.put, List.setIfInBounds_toArray, List.set_cons_zero, List.set_cons_succ]
  refine wpAnyH_take (i := 14) (oi := ⟨some 40, _, _, _, _, _⟩) (v := ?_) rfl (by kernel_rfl) (by kernel_rfl) (by kernel_rfl) (fun _ _ _ h => h) (Or.inl ⟨by rfl, ?_⟩) (by assumption) ?_
  case refine_2 => (intro w hSw; have p := (E2.keep hSw).cell; go_simp; first | done | with_reducible rfl)
  simp only [Act.put, List.setIfInBounds_toArray, List.set_cons_zero, List.set_cons_succ]
  refine wpAnyH_take (i := 16) (oi := ⟨some 42, _, _, _, _, _⟩) (v := ?_) rfl (by kernel_rfl) (by kernel_rfl) (by kernel_rfl) (fun _ _ _ h => h) (Or.inl ⟨by rfl, ?_⟩) (by assumption) ?_
  case refine_2 => (intro w hSw; have p := (E2.keep hSw).cell; go_simp; first | done | with_reducible rfl)
  simp only [Act.put, List.setIfInBounds_toArray, List.set_cons_zero, List.set_cons_succ]
  refine wpAnyH_take (i := 17) (oi := ⟨some 43, _, _, _, _, _⟩) (v := ?_) rfl (by kernel_rfl) (by kernel_rfl) (by kernel_rfl) (fun _ _ _ h => h) (Or.inl ⟨by rfl, ?_⟩) (by assumption) ?_
  case refine_2 => (intro w hSw; have p := (E1.keep hSw).cell; go_simp; first | done | with_reducible rfl)
  simp only [Act.put, List.setIfInBounds_toArray, List.set_cons_zero, List.set_cons_succ]
  refine wpAnyH_ready (rs := [15]) (by kernel_rfl) (by simp) ?_
  refine AllReadyH.cons (o := ⟨some 41, _, _, _, _, _⟩) rfl (fun K hK => ?_) AllReadyH.nil
  go_simp
  refine (Cei.out _ hHeld).mono ?_; rintro e vei ⟨rfl, dei⟩
  go_wp2_with fail
  refine hK.out _ _ (bl_trans hHeld dei) (fun hHeld => ?_)
  clear hK K
  try simp only [Act.put, List.setIfInBounds_toArray, List.set_cons_zero, List.set_cons_succ]
  refine wpAnyH_ready (rs := [18]) (by kernel_rfl) (by simp) ?_
  refine AllReadyH.cons (o := ⟨some 44, _, _, _, _, _⟩) rfl (fun K hK => ?_) AllReadyH.nil
  go_simp
  refine (Ceb.out _ hHeld).mono ?_; rintro e veb ⟨rfl, deb⟩
  go_wp2_with fail
  refine hK.out _ _ (bl_trans hHeld deb) (fun hHeld => ?_)
  clear hK K
  try simp only [Act.put, List.setIfInBounds_toArray, List.set_cons_zero, List.set_cons_succ]
  refine wpAnyH_take (i := 19) (oi := ⟨some 45, _, _, _, _, _⟩) (v := ?_) rfl (by kernel_rfl) (by kernel_rfl) (by kernel_rfl) (fun _ _ _ h => h) (Or.inl ⟨by rfl, ?_⟩) (by assumption) ?_
  case refine_2 => (intro w hSw; skip; go_simp; first | done | with_reducible rfl)
  simp only [Act.put, List.setIfInBounds_toArray, List.set_cons_zero, List.set_cons_succ]
  refine wpAnyH_take (i := 20) (oi := ⟨some 46, _, _, _, _, _⟩) (v := ?_) rfl (by kernel_rfl) (by kernel_rfl) (by kernel_rfl) (fun _ _ _ h => h) (Or.inl ⟨by rfl, ?_⟩) (by assumption) ?_
  case refine_2 => (intro w hSw; skip; go_simp; first | done | with_reducible rfl)
  simp only [Act.put, List.setIfInBounds_toArray, List.set_cons_zero, List.set_cons_succ]
  refine wpAnyH_take (i := 21) (oi := ⟨some 47, _, _, _, _, _⟩) (v := ?_) rfl (by kernel_rfl) (by kernel_rfl) (by kernel_rfl) (fun _ _ _ h => h) (Or.inl ⟨by rfl, ?_⟩) (by assumption) ?_
  case refine_2 => (intro w hSw; skip; go_simp; first | done | with_reducible rfl)
  simp only [Act.put, List.setIfInBounds_toArray, List.set_cons_zero, List.set_cons_succ]
  refine wpAnyH_take (i := 22) (oi := ⟨some 48, _, _, _, _, _⟩) (v := ?_) rfl (by kernel_rfl) (by kernel_rfl) (by kernel_rfl) (fun _ _ _ h => h) (Or.inl ⟨by rfl, ?_⟩) (by assumption) ?_
  case refine_2 => (intro w hSw; have p := (S1.keep hSw).cell; go_simp; first | done | with_reducible rfl)
  simp only [Act.put, List.setIfInBounds_toArray, List.set_cons_zero, List.set_cons_succ]
  refine wpAnyH_take (i := 23) (oi := ⟨some 49, _, _, _, _, _⟩) (v := ?_) rfl (by kernel_rfl) (by kernel_rfl) (by kernel_rfl) (fun _ _ _ h => h) (Or.inl ⟨by rfl, ?_⟩) (by assumption) ?_
  case refine_2 => (intro w hSw; have p := (S1.keep hSw).cell; go_simp; first | done | with_reducible rfl)
  simp only [Act.put, List.setIfInBounds_toArray, List.set_cons_zero, List.set_cons_succ]
  refine wpAnyH_ready (rs := [24]) (by kernel_rfl) (by simp) ?_
  refine AllReadyH.cons (o := ⟨some 50, _, _, _, _, _⟩) rfl (fun K hK => ?_) AllReadyH.nil
  go_simp
  refine (Csa.out _ hHeld).mono ?_; rintro e vsa ⟨rfl, dsa⟩
  go_wp2_with fail
  refine hK.out _ _ (bl_trans hHeld dsa) (fun hHeld => ?_)
  clear hK K
  try simp only [Act.put, List.setIfInBounds_toArray, List.set_cons_zero, List.set_cons_succ]
  refine wpAnyH_take (i := 25) (oi := ⟨some 51, _, _, _, _, _⟩) (v := ?_) rfl (by kernel_rfl) (by kernel_rfl) (by kernel_rfl) (fun _ _ _ h => h) (Or.inl ⟨by rfl, ?_⟩) (by assumption) ?_
  case refine_2 => (intro w hSw; skip; go_simp; first | done | with_reducible rfl)
  simp only [Act.put, List.setIfInBounds_toArray, List.set_cons_zero, List.set_cons_succ]
  refine wpAnyH_take (i := 26) (oi := ⟨some 52, _, _, _, _, _⟩) (v := ?_) rfl (by kernel_rfl) (by kernel_rfl) (by kernel_rfl) (fun _ _ _ h => h) (Or.inl ⟨by rfl, ?_⟩) (by assumption) ?_
  case refine_2 => (intro w hSw; skip; go_simp; first | done | with_reducible rfl)
  simp only [Act.put, List.setIfInBounds_toArray, List.set_cons_zero, List.set_cons_succ]
  refine wpAnyH_take (i := 27) (oi := ⟨some 53, _, _, _, _, _⟩) (v := ?_) rfl (by kernel_rfl) (by kernel_rfl) (by kernel_rfl) (fun _ _ _ h => h) (Or.inl ⟨by rfl, ?_⟩) (by assumption) ?_
  case refine_2 => (intro w hSw; have p := (S1.keep hSw).cell; go_simp; first | done | with_reducible rfl)
  simp only [Act.put, List.setIfInBounds_toArray, List.set_cons_zero, List.set_cons_succ]
  refine wpAnyH_take (i := 28) (oi := ⟨some 54, _, _, _, _, _⟩) (v := ?_) rfl (by kernel_rfl) (by kernel_rfl) (by kernel_rfl) (fun _ _ _ h => h) (Or.inl ⟨by rfl, ?_⟩) (by assumption) ?_
  case refine_2 => (intro w hSw; have p := (S2.keep hSw).cell; go_simp; first | done | with_reducible rfl)
  simp only [Act.put, List.setIfInBounds_toArray, List.set_cons_zero, List.set_cons_succ]
  refine wpAnyH_take (i := 30) (oi := ⟨some 56, _, _, _, _, _⟩) (v := ?_) rfl (by kernel_rfl) (by kernel_rfl) (by kernel_rfl) (fun _ _ _ h => h) (Or.inl ⟨by rfl, ?_⟩) (by assumption) ?_
  case refine_2 => (intro w hSw; have p := (S1.keep hSw).cell; go_simp; first | done | with_reducible rfl)
  simp only [Act.put, List.setIfInBounds_toArray, List.set_cons_zero, List.set_cons_succ]
  refine wpAnyH_take (i := 31) (oi := ⟨some 57, _, _, _, _, _⟩) (v := ?_) rfl (by kernel_rfl) (by kernel_rfl) (by kernel_rfl) (fun _ _ _ h => h) (Or.inl ⟨by rfl, ?_⟩) (by assumption) ?_
  case refine_2 => (intro w hSw; have p := (S2.keep hSw).cell; go_simp; first | done | with_reducible rfl)
  simp only [Act.put, List.setIfInBounds_toArray, List.set_cons_zero, List.set_cons_succ]
  refine wpAnyH_ready (rs := [29]) (by kernel_rfl) (by simp) ?_
  refine AllReadyH.cons (o := ⟨some 55, _, _, _, _, _⟩) rfl (fun K hK => ?_) AllReadyH.nil
  go_simp
  refine (Csi.out _ hHeld).mono ?_; rintro e vsi ⟨rfl, dsi⟩
  go_wp2_with fail
  refine hK.out _ _ (bl_trans hHeld dsi) (fun hHeld => ?_)
  clear hK K
  try simp only [Act.put, List.setIfInBounds_toArray, List.set_cons_zero, List.set_cons_succ]
  refine wpAnyH_ready (rs := [32]) (by kernel_rfl) (by simp) ?_
  refine AllReadyH.cons (o := ⟨some 58, _, _, _, _, _⟩) rfl (fun K hK => ?_) AllReadyH.nil
  go_simp
  refine (Css.out _ hHeld).mono ?_; rintro e vss ⟨rfl, dss⟩
  go_wp2_with fail
  refine hK.out _ _ (bl_trans hHeld dss) (fun hHeld => ?_)
  clear hK K
  try simp only [Act.put, List.setIfInBounds_toArray, List.set_cons_zero, List.set_cons_succ]
  refine wpAnyH_take (i := 33) (oi := ⟨some 59, _, _, _, _, _⟩) (v := ?_) rfl (by kernel_rfl) (by kernel_rfl) (by kernel_rfl) (fun _ _ _ h => h) (Or.inl ⟨by rfl, ?_⟩) (by assumption) ?_
  case refine_2 => (intro w hSw; skip; go_simp; first | done | with_reducible rfl)
  simp only [Act.put, List.setIfInBounds_toArray, List.set_cons_zero, List.set_cons_succ]
  refine wpAnyH_take (i := 34) (oi := ⟨some 60, _, _, _, _, _⟩) (v := ?_) rfl (by kernel_rfl) (by kernel_rfl) (by kernel_rfl) (fun _ _ _ h => h) (Or.inl ⟨by rfl, ?_⟩) (by assumption) ?_
  case refine_2 => (intro w hSw; skip; go_simp; first | done | with_reducible rfl)
  simp only [Act.put, List.setIfInBounds_toArray, List.set_cons_zero, List.set_cons_succ]
  refine wpAnyH_take (i := 35) (oi := ⟨some 61, _, _, _, _, _⟩) (v := ?_) rfl (by kernel_rfl) (by kernel_rfl) (by kernel_rfl) (fun _ _ _ h => h) (Or.inl ⟨by rfl, ?_⟩) (by assumption) ?_
  case refine_2 => (intro w hSw; skip; go_simp; first | done | with_reducible rfl)
  simp only [Act.put, List.setIfInBounds_toArray, List.set_cons_zero, List.set_cons_succ]
  refine wpAnyH_take (i := 36) (oi := ⟨some 62, _, _, _, _, _⟩) (v := ?_) rfl (by kernel_rfl) (by kernel_rfl) (by kernel_rfl) (fun _ _ _ h => h) (Or.inl ⟨by rfl, ?_⟩) (by assumption) ?_
  case refine_2 => (intro w hSw; have p := (P1.keep hSw).cell; go_simp; first | done | with_reducible rfl)
  simp only [Act.put, List.setIfInBounds_toArray, List.set_cons_zero, List.set_cons_succ]
  refine wpAnyH_take (i := 37) (oi := ⟨some 63, _, _, _, _, _⟩) (v := ?_) rfl (by kernel_rfl) (by kernel_rfl) (by kernel_rfl) (fun _ _ _ h => h) (Or.inl ⟨by rfl, ?_⟩) (by assumption) ?_
  case refine_2 => (intro w hSw; have p := (P2.keep hSw).cell; go_simp; first | done | with_reducible rfl)
  simp only [Act.put, List.setIfInBounds_toArray, List.set_cons_zero, List.set_cons_succ]
  refine wpAnyH_take (i := 39) (oi := ⟨some 65, _, _, _, _, _⟩) (v := ?_) rfl (by kernel_rfl) (by kernel_rfl) (by kernel_rfl) (fun _ _ _ h => h) (Or.inl ⟨by rfl, ?_⟩) (by assumption) ?_
  case refine_2 => (intro w hSw; have p := (P1.keep hSw).cell; go_simp; first | done | with_reducible rfl)
  simp only [Act.put, List.setIfInBounds_toArray, List.set_cons_zero, List.set_cons_succ]
  refine wpAnyH_take (i := 40) (oi := ⟨some 66, _, _, _, _, _⟩) (v := ?_) rfl (by kernel_rfl) (by kernel_rfl) (by kernel_rfl) (fun _ _ _ h => h) (Or.inl ⟨by rfl, ?_⟩) (by assumption) ?_
  case refine_2 => (intro w hSw; have p := (P2.keep hSw).cell; go_simp; first | done | with_reducible rfl)
  simp only [Act.put, List.setIfInBounds_toArray, List.set_cons_zero, List.set_cons_succ]
  refine wpAnyH_ready (rs := [38]) (by kernel_rfl) (by simp) ?_
  refine AllReadyH.cons (o := ⟨some 64, _, _, _, _, _⟩) rfl (fun K hK => ?_) AllReadyH.nil
  go_simp
  refine (Cpi.out _ hHeld).mono ?_; rintro e vpi ⟨rfl, dpi⟩
  go_wp2_with fail
  refine hK.out _ _ (bl_trans hHeld dpi) (fun hHeld => ?_)
  clear hK K
  try simp only [Act.put, List.setIfInBounds_toArray, List.set_cons_zero, List.set_cons_succ]
  refine wpAnyH_ready (rs := [41]) (by kernel_rfl) (by simp) ?_
  refine AllReadyH.cons (o := ⟨some 67, _, _, _, _, _⟩) rfl (fun K hK => ?_) AllReadyH.nil
  go_simp
  refine (Cps.out _ hHeld).mono ?_; rintro e vps ⟨rfl, dps⟩
  go_wp2_with fail
  refine hK.out _ _ (bl_trans hHeld dps) (fun hHeld => ?_)
  clear hK K
  try simp only [Act.put, List.setIfInBounds_toArray, List.set_cons_zero, List.set_cons_succ]
  refine wpAnyH_take (i := 42) (oi := ⟨some 68, _, _, _, _, _⟩) (v := ?_) rfl (by kernel_rfl) (by kernel_rfl) (by kernel_rfl) (fun _ _ _ h => h) (Or.inl ⟨by rfl, ?_⟩) (by assumption) ?_
  case refine_2 => (intro w hSw; skip; go_simp; first | done | with_reducible rfl)
  simp only [Act.put, List.setIfInBounds_toArray, List.set_cons_zero, List.set_cons_succ]
  refine wpAnyH_take (i := 43) (oi := ⟨some 69, _, _, _, _, _⟩) (v := ?_) rfl (by kernel_rfl) (by kernel_rfl) (by kernel_rfl) (fun _ _ _ h => h) (Or.inl ⟨by rfl, ?_⟩) (by assumption) ?_
  case refine_2 => (intro w hSw; skip; go_simp; first | done | with_reducible rfl)
  simp only [Act.put, List.setIfInBounds_toArray, List.set_cons_zero, List.set_cons_succ]
  refine wpAnyH_take (i := 44) (oi := ⟨some 2, _, _, _, _, _⟩) (v := ?_) rfl (by kernel_rfl) (by kernel_rfl) (by kernel_rfl) (fun _ _ _ h => h) (Or.inl ⟨by rfl, ?_⟩) (by assumption) ?_
  case refine_2 => (intro w hSw; skip; go_simp; first | done | with_reducible rfl)
  simp only [Act.put, List.setIfInBounds_toArray, List.set_cons_zero, List.set_cons_succ]
  refine wpAnyH_done (by kernel_rfl) ?_ _
  go_wp2_with fail
  go_ret
  exact ⟨rfl, bl_trans LW hHeld⟩

set_option maxRecDepth 100000 in
theorem FnSameTrees_args {H : Type} {enc : TypeId × Value → H} (W : World) (base : Nat) (args : Array Value) (ds : List (DataW H)) (p : List MemPlace)
    (hval : ∀ (j : Nat) t v, Try.f3.params[j]? = some t → args[j]? = some v → Value.okWide Try.checked.prog W .any base t v)
    (hA : DataW.TrodAll enc Try.checked.prog W 0 (fun _ => true) true Try.f3.params.toList args.toList ds p) :
    Calls Try.checked.prog 3 args W fun e W' => e = .returned (.bool true) ∧ Below W.heap.size W W' := by
  rw [Try.params3] at hA hval
  obtain ⟨v0, d0, rfl, rfl, h0⟩ := trodAll_one hA
  obtain ⟨A0, c0, bs, rfl, R, Wf, hlz⟩ := open_nums Try.underlying22 Try.underlying5 (by kernel_rfl) (hval 0 22 v0 rfl rfl) h0
  exact FnSameTrees_walk A0 c0 bs W R (byt_of_wf Wf)

set_option maxRecDepth 100000 in
theorem FnSameTrees_holds : Rows.FnSameTreesSaid :=
  OpenClaim.holds_of_wide 3 Try.f3 rfl rfl rfl rfl rfl rfl rfl ⟨rfl, rfl, rfl, rfl, rfl⟩ rfl rfl rfl rfl rfl (by kernel_rfl) Try.func3 (by kernel_rfl)
    (of_decide_eq_true (by kernel_rfl)) (by unfold Func.isWrapper; rw [if_neg (of_decide_eq_false (by kernel_rfl))]; exact ⟨rfl, rfl⟩)
    (fun os started H enc _ => law_lift 3 Try.f3 Rows.fnSameTreesSpec 4 own laidOut started (by kernel_rfl) Try.func3 (by kernel_rfl) rfl (by kernel_rfl) Try.underlying4
      (fun ds h => by
        have hl : ds.length = 1 := h.trans (by kernel_rfl)
        obtain ⟨d, rfl⟩ := len1 hl
        rfl)
      (ChangeSpec.witness6 (enc := enc) (C := Try.checked) false ⟨#[], #[.slice none 0 0], []⟩ 8 (by kernel_rfl) (by kernel_rfl) (by kernel_rfl) (by kernel_rfl))
      FnSameTrees_args)
#print axioms FnSameTrees_holds

end Go.Proofs.Ytalnkdbmbjplpaa
