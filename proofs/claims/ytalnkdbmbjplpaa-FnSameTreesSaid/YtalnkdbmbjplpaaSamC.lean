/- The program's SameProg, and what it calls; contracts at small sizes. -/
import Derived.Test.YtalnkdbmbjplpaaSamP
import Derived.Test.YtalnkdbmbjplpaaSameE
import Derived.Test.YtalnkdbmbjplpaaSameEI
import Derived.Test.YtalnkdbmbjplpaaSameSb
import Derived.Test.YtalnkdbmbjplpaaSameSs
import Derived.Test.YtalnkdbmbjplpaaSameSi
import Derived.Deep.RegionHeld3
namespace Go.Proofs.Ytalnkdbmbjplpaa
open Go.RowKit

section
variable (k n k' n' : Int) (s s' t t' : ByteArray) (x x' : Fr (Int × Int × ByteArray)) (p p' q q' : St) (X X' A A' Q Q' : Option Addr) (cx cx' ca ca' cq cq' : Nat) (w : World)
theorem cSE (h : x.size ≤ 30000) (h' : x'.size ≤ 30000) (S : Sl exprC w 0 w.heap.size X x) (S' : Sl exprC w 0 w.heap.size X' x') : Calls Try.prog 9 #[.agg #[.int .i64 k, .int .i64 n, .string s, .slice X x.len cx], .agg #[.int .i64 k', .int .i64 n', .string s', .slice X' x'.len cx']] w fun e w' => e = .returned (.bool (labB (k, n, s) (k', n', s') && sameF x x')) ∧ Below w.heap.size w w' :=
  sSame_any 1048576 x (by omega) (Nat.le_refl _) k n s X cx k' n' s' x' X' cx' w (by omega) S S'
theorem cIE (h : x.size ≤ 30000) (h' : x'.size ≤ 30000) (S : Sl exprC w 0 w.heap.size X x) (S' : Sl exprC w 0 w.heap.size X' x') : Calls Try.prog 8 #[.agg #[.int .i64 k, .int .i64 n, .string s, .slice X x.len cx], .agg #[.int .i64 k', .int .i64 n', .string s', .slice X' x'.len cx']] w fun e w' => e = .returned (.bool (labB (k, n, s) (k', n', s') && sameF x x')) ∧ Below w.heap.size w w' :=
  iSame_any 1048576 x (by omega) (Nat.le_refl _) k n s X cx k' n' s' x' X' cx' w (by omega) S S'
theorem cSB (h : p.size ≤ 30000) (h' : p'.size ≤ 30000) (S : SlS w 0 w.heap.size A p) (S' : SlS w 0 w.heap.size A' p') : Calls Try.prog 22 #[.slice A p.len ca, .slice A' p'.len ca'] w fun e w' => e = .returned (.bool (sameS p p')) ∧ Below w.heap.size w w' :=
  sBlock_step 1048576 p p' A A' ca ca' w (by omega) (by omega) (by omega) S S' (fun zk zs zt x p q X P Q cx cp cq h zk' zs' zt' x' p' q' X' P' Q' cx' cp' cq' hl w g1 g2 g3 g4 g5 g6 => sSameS_any 1048576 zk zs zt x p q X P Q cx cp cq (by omega) (Nat.le_refl _) zk' zs' zt' x' p' q' X' P' Q' cx' cp' cq' hl w g1 g2 g3 g4 g5 g6)
theorem cIB (h : p.size ≤ 30000) (h' : p'.size ≤ 30000) (S : SlS w 0 w.heap.size A p) (S' : SlS w 0 w.heap.size A' p') : Calls Try.prog 21 #[.slice A p.len ca, .slice A' p'.len ca', .func (.func 10) #[] #[]] w fun e w' => e = .returned (.bool (sameS p p')) ∧ Below w.heap.size w w' :=
  iEqualS_step 1048576 p p' A A' ca ca' w (by omega) (by omega) (by omega) S S' (fun zk zs zt x p q X P Q cx cp cq h zk' zs' zt' x' p' q' X' P' Q' cx' cp' cq' hl w g1 g2 g3 g4 g5 g6 => iSameS_any 1048576 zk zs zt x p q X P Q cx cp cq (by omega) (Nat.le_refl _) zk' zs' zt' x' p' q' X' P' Q' cx' cp' cq' hl w g1 g2 g3 g4 g5 g6)
theorem cSS (h : x.size + p.size + q.size ≤ 30000) (h' : x'.size + p'.size + q'.size ≤ 30000) (S : Sl exprC w 0 w.heap.size X x ∧ SlS w 0 w.heap.size A p ∧ SlS w 0 w.heap.size Q q) (S' : Sl exprC w 0 w.heap.size X' x' ∧ SlS w 0 w.heap.size A' p' ∧ SlS w 0 w.heap.size Q' q') : Calls Try.prog 11 #[.agg #[.int .i64 k, .string s, .string t, .slice X x.len cx, .slice A p.len ca, .slice Q q.len cq], .agg #[.int .i64 k', .string s', .string t', .slice X' x'.len cx', .slice A' p'.len ca', .slice Q' q'.len cq']] w fun e w' => e = .returned (.bool (labS (k, s, t) (k', s', t') && (sameF x x' && (sameS p p' && sameS q q')))) ∧ Below w.heap.size w w' :=
  sSameS_any 1048576 k s t x p q X A Q cx ca cq (by omega) (Nat.le_refl _) k' s' t' x' p' q' X' A' Q' cx' ca' cq' (by omega) w S.1 S.2.1 S.2.2 S'.1 S'.2.1 S'.2.2
theorem cIS (h : x.size + p.size + q.size ≤ 30000) (h' : x'.size + p'.size + q'.size ≤ 30000) (S : Sl exprC w 0 w.heap.size X x ∧ SlS w 0 w.heap.size A p ∧ SlS w 0 w.heap.size Q q) (S' : Sl exprC w 0 w.heap.size X' x' ∧ SlS w 0 w.heap.size A' p' ∧ SlS w 0 w.heap.size Q' q') : Calls Try.prog 10 #[.agg #[.int .i64 k, .string s, .string t, .slice X x.len cx, .slice A p.len ca, .slice Q q.len cq], .agg #[.int .i64 k', .string s', .string t', .slice X' x'.len cx', .slice A' p'.len ca', .slice Q' q'.len cq']] w fun e w' => e = .returned (.bool (labS (k, s, t) (k', s', t') && (sameF x x' && (sameS p p' && sameS q q')))) ∧ Below w.heap.size w w' :=
  iSameS_any 1048576 k s t x p q X A Q cx ca cq (by omega) (Nat.le_refl _) k' s' t' x' p' q' X' A' Q' cx' ca' cq' (by omega) w S.1 S.2.1 S.2.2 S'.1 S'.2.1 S'.2.2
end
theorem Sl.w {w w' : World} {A : Option Addr} {x : Fr (Int × Int × ByteArray)} (h : Sl exprC w 0 w.heap.size A x) (hb : Below w.heap.size w w') : Sl exprC w' 0 w'.heap.size A x := (h.below hb (Nat.le_refl _)).more (Nat.le_refl _) hb.size
theorem SlS.w {w w' : World} {A : Option Addr} {p : St} (h : SlS w 0 w.heap.size A p) (hb : Below w.heap.size w w') : SlS w' 0 w'.heap.size A p := (h.below hb (Nat.le_refl _)).more (Nat.le_refl _) hb.size
theorem SlP.s0 {w : World} {A : Option Addr} {x : Fr (Int × Int × ByteArray)} (h : SlP exprC w (fun b => b < w.heap.size) A x) : Sl exprC w 0 w.heap.size A x := h.to (fun _ hb => ⟨Nat.zero_le _, hb⟩)
theorem SlSP.s0 {w : World} {A : Option Addr} {p : St} (h : SlSP w (fun b => b < w.heap.size) A p) : SlS w 0 w.heap.size A p := h.to (fun _ hb => ⟨Nat.zero_le _, hb⟩)
theorem StrP.w {w w' : World} {A : Option Addr} {ss : List ByteArray} (h : StrP w (fun b => b < w.heap.size) A ss) (hb : Below w.heap.size w w') : StrP w' (fun b => b < w'.heap.size) A ss := h.keep (fun _ hp => hb.cell hp) (fun _ h => Nat.lt_of_lt_of_le h hb.size)
theorem RulP.w {w w' : World} {A : Option Addr} {L : List TR} (h : RulP w (fun b => b < w.heap.size) A L) (hb : Below w.heap.size w w') : RulP w' (fun b => b < w'.heap.size) A L := h.keep (fun _ hp => hb.cell hp) (fun _ h => Nat.lt_of_lt_of_le h hb.size)
theorem FunP.w {w w' : World} {A : Option Addr} {L : List TF} (h : FunP w (fun b => b < w.heap.size) A L) (hb : Below w.heap.size w w') : FunP w' (fun b => b < w'.heap.size) A L := h.keep (fun _ hp => hb.cell hp) (fun _ h => Nat.lt_of_lt_of_le h hb.size)

set_option maxRecDepth 20000 in
set_option maxHeartbeats 2000000 in
theorem iRule (K k n : Int) (s : ByteArray) (x : Fr (Int × Int × ByteArray)) (p : St) (X A : Option Addr) (cx ca : Nat) (K' k' n' : Int) (s' : ByteArray) (x' : Fr (Int × Int × ByteArray)) (p' : St) (X' A' : Option Addr) (cx' ca' : Nat) (w : World) (hx : x.size ≤ 30000) (hp : p.size ≤ 30000) (SX : Sl exprC w 0 w.heap.size X x) (SA : SlS w 0 w.heap.size A p) (hx' : x'.size ≤ 30000) (hp' : p'.size ≤ 30000) (SX' : Sl exprC w 0 w.heap.size X' x') (SA' : SlS w 0 w.heap.size A' p') :
    Calls Try.prog 24 #[.agg #[.int .i64 K, .int .i64 k, .int .i64 n, .string s, .slice X x.len cx, .slice A p.len ca], .agg #[.int .i64 K', .int .i64 k', .int .i64 n', .string s', .slice X' x'.len cx', .slice A' p'.len ca']] w fun e w' => e = .returned (.bool (rulB (K, (k, n, s), x, p) (K', (k', n', s'), x', p'))) ∧ Below w.heap.size w w' := by
  have hq : (rulB (K, (k, n, s), x, p) (K', (k', n', s'), x', p')) = (K == K' && ((labB (k, n, s) (k', n', s') && sameF x x') && sameS p p')) := rfl
  rw [hq]
  cases h1 : (K == K')
  case false =>
    rw [Bool.false_and]
    go_enter Try.func24, Try.ntmps24
    go_wp2_with fail
    go_ret
    exact ⟨rfl, by repeat (first | exact Below.refl _ _ | refine bl_drewN ?_ _ | refine Below.drew ?_ | refine bl_alloc ?_ _ | refine bl_trans ?_ (by assumption))⟩
  rw [Bool.true_and]
  have L0 := bl_alloc (bl_alloc (Below.refl w.heap.size w) (.cells #[.int .i64 K, .int .i64 k, .int .i64 n, .string s, .slice X x.len cx, .slice A p.len ca] 54)) (.cells #[.int .i64 K', .int .i64 k', .int .i64 n', .string s', .slice X' x'.len cx', .slice A' p'.len ca'] 54)
  have B1 := (Blk.new w 54 #[.int .i64 K, .int .i64 k, .int .i64 n, .string s, .slice X x.len cx, .slice A p.len ca]).alloc (.cells #[.int .i64 K', .int .i64 k', .int .i64 n', .string s', .slice X' x'.len cx', .slice A' p'.len ca'] 54)
  have B2 := Blk.new2 w (.cells #[.int .i64 K, .int .i64 k, .int .i64 n, .string s, .slice X x.len cx, .slice A p.len ca] 54) 54 #[.int .i64 K', .int .i64 k', .int .i64 n', .string s', .slice X' x'.len cx', .slice A' p'.len ca']
  have C1 := cIE k n k' n' s s' x x' X X' cx cx' _ hx hx' (SX.w L0) (SX'.w L0)
  have C2 := fun w1 (b1 : Below ((w.alloc (.cells #[.int .i64 K, .int .i64 k, .int .i64 n, .string s, .slice X x.len cx, .slice A p.len ca] 54)).alloc (.cells #[.int .i64 K', .int .i64 k', .int .i64 n', .string s', .slice X' x'.len cx', .slice A' p'.len ca'] 54)).heap.size ((w.alloc (.cells #[.int .i64 K, .int .i64 k, .int .i64 n, .string s, .slice X x.len cx, .slice A p.len ca] 54)).alloc (.cells #[.int .i64 K', .int .i64 k', .int .i64 n', .string s', .slice X' x'.len cx', .slice A' p'.len ca'] 54)) w1) => cIB p p' A A' ca ca' w1 hp hp' (SA.w (bl_trans L0 b1)) (SA'.w (bl_trans L0 b1))
  generalize (labB (k, n, s) (k', n', s') && sameF x x') = y1 at C1 ⊢
  generalize sameS p p' = y2 at C2 ⊢
  have D1 := Lib.hid C1
  have D2 := Lib.hid C2
  clear C1 C2
  go_enter Try.func24, Try.ntmps24
  go_wp2_with fail
  refine D1.out.mono ?_; rintro e w1 ⟨rfl, b1⟩
  have q1 := (B1.keep b1).cell
  have q2 := (B2.keep b1).cell
  cases y1
  · go_wp2_with fail
    go_ret
    exact ⟨rfl, bl_trans L0 b1⟩
  · go_wp2_with fail
    refine (D2.out w1 b1).mono ?_; rintro e w2 ⟨rfl, b2⟩
    go_wp2_with fail
    go_ret
    exact ⟨rfl, bl_trans (bl_trans L0 b1) b2⟩

set_option maxRecDepth 20000 in
set_option maxHeartbeats 2000000 in
theorem iStrs (ss ss' : List ByteArray) (N N' : Option Addr) (cn cn' : Nat) (w : World) (hl : ss.length ≤ 1000) (_ : ss'.length ≤ 1000) (S : StrP w (fun b => b < w.heap.size) N ss) (S' : StrP w (fun b => b < w.heap.size) N' ss') :
    Calls Try.prog 36 #[.slice N ss.length cn, .slice N' ss'.length cn'] w fun e w' => e = .returned (.bool (sameL strB ss ss')) ∧ Below w.heap.size w w' := by
  by_cases h4 : ss.length = ss'.length
  case neg =>
    have g2 : ((ss.length : Int) != ss'.length) = true := by simp; omega
    rw [sameL_len ss ss' h4]
    go_enter Try.func36, Try.ntmps36
    go_wp2_with fail
    go_ret
    exact ⟨rfl, Below.refl _ _⟩
  have g4 : ((ss.length : Int) != ss'.length) = false := by simp; omega
  have H4 := Lib.hid h4
  obtain ⟨R, hR⟩ : ∃ R, sameL strB ss ss' = R := ⟨_, rfl⟩
  rw [hR]
  have HR := Lib.hid hR
  clear hR h4
  go_enter Try.func36, Try.ntmps36
  go_wp2_with fail
  go_loopw [13] (fun i wr => ∃ kk : Nat, kk ≤ ss.length ∧ i = .int .i64 kk ∧ Hid (sameL strB (ss.drop kk) (ss'.drop kk) = R) ∧ Below w.heap.size w wr) (fun i _ => ss.length - (intOf i).toNat)
  case atStart => exact ⟨0, Nat.zero_le _, rfl, HR, Below.refl _ _⟩
  case round =>
    obtain ⟨kk, hk, rfl, hE, hL⟩ := hrel
    by_cases hlt : kk < ss.length
    · have hlt2 : kk < ss'.length := by have := H4.out; omega
      have hi1 : (kk : Int) < (ss.length : Int) := by omega
      have hi2 : (kk : Int) < (ss'.length : Int) := by omega
      obtain ⟨b, ob, rfl, hb, q0⟩ := (S.w hL).at_ hlt
      obtain ⟨b', ob', rfl, hb', q1⟩ := (S'.w hL).at_ hlt2
      have HN := Lib.hid (fun h => (sameL_no hlt hlt2 h).symm.trans hE.out)
      have HY := Lib.hid (fun h => (sameL_yes hlt hlt2 h).symm.trans hE.out)
      clear hE HR
      generalize ss[kk] = z at q0 HN HY
      generalize ss'[kk] = z' at q1 HN HY
      obtain ⟨y, hy⟩ : ∃ y, (z.toList == z'.toList) = y := ⟨_, rfl⟩
      have hyn : (z.toList != z'.toList) = !y := by rw [← hy]; rfl
      have HN2 := Lib.hid (fun h : y = false => HN.out (hy.trans h))
      have HY2 := Lib.hid (fun h : y = true => HY.out (hy.trans h))
      clear HN HY
      go_upto_region 6 with fail
      refine wp_region_held_drew (S := (fun y => Below wr.heap.size wr y)) (by kernel_rfl) ?_ (fun hHeld => ?_)
      · exact (Below.refl _ _).drew
      refine wpAnyH_take (i := 0) (oi := ⟨some 16, _, _, _, _, _⟩) (v := ?_) rfl (by kernel_rfl) (by kernel_rfl) (by kernel_rfl) (fun _ _ _ h => h) (Or.inl ⟨by rfl, ?_⟩) (by assumption) ?_
      case refine_2 => (intro w hSw; skip; go_simp; first | done | with_reducible rfl)
      simp only [Act.put, List.setIfInBounds_toArray, List.set_cons_zero, List.set_cons_succ]
      refine wpAnyH_take (i := 1) (oi := ⟨some 17, _, _, _, _, _⟩) (v := ?_) rfl (by kernel_rfl) (by kernel_rfl) (by kernel_rfl) (fun _ _ _ h => h) (Or.inl ⟨by rfl, ?_⟩) (by assumption) ?_
      case refine_2 => (intro w hSw; skip; go_simp; first | done | with_reducible rfl)
      simp only [Act.put, List.setIfInBounds_toArray, List.set_cons_zero, List.set_cons_succ]
      refine wpAnyH_take (i := 2) (oi := ⟨some 18, _, _, _, _, _⟩) (v := ?_) rfl (by kernel_rfl) (by kernel_rfl) (by kernel_rfl) (fun _ _ _ h => h) (Or.inl ⟨by rfl, ?_⟩) (by assumption) ?_
      case refine_2 => (intro w hSw; skip; go_simp; (try rw [if_pos (by omega)]); first | done | with_reducible rfl)
      simp only [Act.put, List.setIfInBounds_toArray, List.set_cons_zero, List.set_cons_succ]
      refine wpAnyH_take (i := 3) (oi := ⟨some 19, _, _, _, _, _⟩) (v := ?_) rfl (by kernel_rfl) (by kernel_rfl) (by kernel_rfl) (fun _ _ _ h => h) (Or.inl ⟨by rfl, ?_⟩) (by assumption) ?_
      case refine_2 => (intro w hSw; have p1 := (hSw.cell (p := ⟨b, ob + kk, none⟩) hb).trans q0; have p2 := (hSw.cell (p := ⟨b', ob' + kk, none⟩) hb').trans q1; go_simp; first | done | with_reducible rfl)
      simp only [Act.put, List.setIfInBounds_toArray, List.set_cons_zero, List.set_cons_succ]
      refine wpAnyH_take (i := 4) (oi := ⟨some 20, _, _, _, _, _⟩) (v := ?_) rfl (by kernel_rfl) (by kernel_rfl) (by kernel_rfl) (fun _ _ _ h => h) (Or.inl ⟨by rfl, ?_⟩) (by assumption) ?_
      case refine_2 => (intro w hSw; skip; go_simp; first | done | with_reducible rfl)
      simp only [Act.put, List.setIfInBounds_toArray, List.set_cons_zero, List.set_cons_succ]
      refine wpAnyH_take (i := 5) (oi := ⟨some 21, _, _, _, _, _⟩) (v := ?_) rfl (by kernel_rfl) (by kernel_rfl) (by kernel_rfl) (fun _ _ _ h => h) (Or.inl ⟨by rfl, ?_⟩) (by assumption) ?_
      case refine_2 => (intro w hSw; skip; go_simp; first | done | with_reducible rfl)
      simp only [Act.put, List.setIfInBounds_toArray, List.set_cons_zero, List.set_cons_succ]
      refine wpAnyH_take (i := 6) (oi := ⟨some 22, _, _, _, _, _⟩) (v := ?_) rfl (by kernel_rfl) (by kernel_rfl) (by kernel_rfl) (fun _ _ _ h => h) (Or.inl ⟨by rfl, ?_⟩) (by assumption) ?_
      case refine_2 => (intro w hSw; skip; go_simp; (try rw [if_pos (by omega)]); first | done | with_reducible rfl)
      simp only [Act.put, List.setIfInBounds_toArray, List.set_cons_zero, List.set_cons_succ]
      refine wpAnyH_take (i := 7) (oi := ⟨some 23, _, _, _, _, _⟩) (v := ?_) rfl (by kernel_rfl) (by kernel_rfl) (by kernel_rfl) (fun _ _ _ h => h) (Or.inl ⟨by rfl, ?_⟩) (by assumption) ?_
      case refine_2 => (intro w hSw; have p1 := (hSw.cell (p := ⟨b, ob + kk, none⟩) hb).trans q0; have p2 := (hSw.cell (p := ⟨b', ob' + kk, none⟩) hb').trans q1; go_simp; first | done | with_reducible rfl)
      simp only [Act.put, List.setIfInBounds_toArray, List.set_cons_zero, List.set_cons_succ]
      refine wpAnyH_take (i := 8) (oi := ⟨some 24, _, _, _, _, _⟩) (v := ?_) rfl (by kernel_rfl) (by kernel_rfl) (by kernel_rfl) (fun _ _ _ h => h) (Or.inl ⟨by rfl, ?_⟩) (by assumption) ?_
      case refine_2 => (intro w hSw; skip; go_simp; first | done | with_reducible rfl)
      simp only [Act.put, List.setIfInBounds_toArray, List.set_cons_zero, List.set_cons_succ]
      refine wpAnyH_done (by kernel_rfl) ?_ _
      cases y
      · obtain rfl : false = R := HN2.out rfl
        clear HN2 HY2
        go_wp2_with fail
        go_ret
        exact ⟨rfl, bl_trans hL hHeld⟩
      · have HE := Lib.hid (HY2.out rfl)
        clear HN2 HY2
        go_wp2_with fail
        go_roundw
        case rel => exact ⟨kk + 1, by omega, by go_num, HE.out, bl_trans hL hHeld⟩
        case measure => (simp [intOf] <;> omega)
    · obtain rfl : kk = ss.length := by omega
      have hE2 := hE.out
      rw [sameL_end H4.out] at hE2
      subst hE2
      clear HR hE
      go_wp2_with fail
      go_ret
      exact ⟨rfl, hL⟩

set_option maxRecDepth 20000 in
set_option maxHeartbeats 2000000 in
theorem iFun (s : ByteArray) (ss : List ByteArray) (p : St) (N A : Option Addr) (cn ca : Nat) (s' : ByteArray) (ss' : List ByteArray) (p' : St) (N' A' : Option Addr) (cn' ca' : Nat) (w : World) (hn : ss.length ≤ 1000) (hp : p.size ≤ 30000) (SN : StrP w (fun b => b < w.heap.size) N ss) (SA : SlS w 0 w.heap.size A p) (hn' : ss'.length ≤ 1000) (hp' : p'.size ≤ 30000) (SN' : StrP w (fun b => b < w.heap.size) N' ss') (SA' : SlS w 0 w.heap.size A' p') :
    Calls Try.prog 26 #[.agg #[.string s, .slice N ss.length cn, .slice A p.len ca], .agg #[.string s', .slice N' ss'.length cn', .slice A' p'.len ca']] w fun e w' => e = .returned (.bool (funB (s, ss, p) (s', ss', p'))) ∧ Below w.heap.size w w' := by
  have hq : (funB (s, ss, p) (s', ss', p')) = ((s.toList == s'.toList) && (sameL strB ss ss' && sameS p p')) := rfl
  rw [hq]
  cases h1 : (s.toList == s'.toList)
  case false =>
    rw [Bool.false_and]
    go_enter Try.func26, Try.ntmps26
    go_wp2_with fail
    go_ret
    exact ⟨rfl, by repeat (first | exact Below.refl _ _ | refine bl_drewN ?_ _ | refine Below.drew ?_ | refine bl_alloc ?_ _ | refine bl_trans ?_ (by assumption))⟩
  rw [Bool.true_and]
  have L0 := bl_alloc (bl_alloc (Below.refl w.heap.size w) (.cells #[.string s, .slice N ss.length cn, .slice A p.len ca] 59)) (.cells #[.string s', .slice N' ss'.length cn', .slice A' p'.len ca'] 59)
  have B1 := (Blk.new w 59 #[.string s, .slice N ss.length cn, .slice A p.len ca]).alloc (.cells #[.string s', .slice N' ss'.length cn', .slice A' p'.len ca'] 59)
  have B2 := Blk.new2 w (.cells #[.string s, .slice N ss.length cn, .slice A p.len ca] 59) 59 #[.string s', .slice N' ss'.length cn', .slice A' p'.len ca']
  have C1 := iStrs ss ss' N N' cn cn' _ hn hn' (SN.w L0) (SN'.w L0)
  have C2 := fun w1 (b1 : Below ((w.alloc (.cells #[.string s, .slice N ss.length cn, .slice A p.len ca] 59)).alloc (.cells #[.string s', .slice N' ss'.length cn', .slice A' p'.len ca'] 59)).heap.size ((w.alloc (.cells #[.string s, .slice N ss.length cn, .slice A p.len ca] 59)).alloc (.cells #[.string s', .slice N' ss'.length cn', .slice A' p'.len ca'] 59)) w1) => cIB p p' A A' ca ca' w1 hp hp' (SA.w (bl_trans L0 b1)) (SA'.w (bl_trans L0 b1))
  generalize sameL strB ss ss' = y1 at C1 ⊢
  generalize sameS p p' = y2 at C2 ⊢
  have D1 := Lib.hid C1
  have D2 := Lib.hid C2
  clear C1 C2
  go_enter Try.func26, Try.ntmps26
  go_wp2_with fail
  refine D1.out.mono ?_; rintro e w1 ⟨rfl, b1⟩
  have q1 := (B1.keep b1).cell
  have q2 := (B2.keep b1).cell
  cases y1
  · go_wp2_with fail
    go_ret
    exact ⟨rfl, bl_trans L0 b1⟩
  · go_wp2_with fail
    refine (D2.out w1 b1).mono ?_; rintro e w2 ⟨rfl, b2⟩
    go_wp2_with fail
    go_ret
    exact ⟨rfl, bl_trans (bl_trans L0 b1) b2⟩

end Go.Proofs.Ytalnkdbmbjplpaa
