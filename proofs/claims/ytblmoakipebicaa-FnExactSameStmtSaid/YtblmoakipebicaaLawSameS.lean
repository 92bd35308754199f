/- FnExactSameStmt: the program's SameStmt returns what the reference's returns, for all arguments, and changes no argument. No condition. -/
import Derived.Test.YtblmoakipebicaaLift
import Derived.Test.YtblmoakipebicaaSameSs
import Derived.Test.YtblmoakipebicaaSameSi
import Derived.Test.YtblmoakipebicaaStmtTo
import Derived.Test.YtblmoakipebicaaStmtEq
import Derived.Test.YtblmoakipebicaaStmtOp
import Derived.Deep.RegionHeld3
namespace Go.Proofs.Ytblmoakipebicaa
open Go.ChangeShapes Go.WideShapes Go.ChangeAt Go.RowKit

/-- A statement's three rows. -/
def Tri (w : World) (lo hi : Nat) (X : Option Addr) (x : Fr (Int × Int × ByteArray)) (P : Option Addr) (p : St) (Q : Option Addr) (q : St) : Prop := Sl exprC w lo hi X x ∧ SlS w lo hi P p ∧ SlS w lo hi Q q
section
variable {w w' : World} {lo hi lo' hi' : Nat} {X : Option Addr} {x : Fr (Int × Int × ByteArray)} {P : Option Addr} {p : St} {Q : Option Addr} {q : St}
theorem Tri.keep (h : Tri w lo hi X x P p Q q) (hk : ∀ p : Addr, lo ≤ p.block → p.block < hi → w'.cell? p = w.cell? p) (hl : lo' ≤ lo) (hh : hi ≤ hi') : Tri w' lo' hi' X x P p Q q := ⟨h.1.keep hk hl hh, h.2.1.keep hk hl hh, h.2.2.keep hk hl hh⟩
theorem Tri.below (h : Tri w lo hi X x P p Q q) {B : Nat} (hb : Below B w w') (hB : hi ≤ B) : Tri w' lo hi X x P p Q q := ⟨h.1.below hb hB, h.2.1.below hb hB, h.2.2.below hb hB⟩
theorem Tri.more (h : Tri w lo hi X x P p Q q) (hl : lo' ≤ lo) (hh : hi ≤ hi') : Tri w lo' hi' X x P p Q q := ⟨h.1.more hl hh, h.2.1.more hl hh, h.2.2.more hl hh⟩
end

set_option maxHeartbeats 4000000 in
theorem FnExactSameStmt_walk (zk : Int) (zs zt : ByteArray) (x : Fr (Int × Int × ByteArray)) (p q : St) (X : Option Addr) (cx : Nat) (P : Option Addr) (cp : Nat) (Q : Option Addr) (cq : Nat) (zk2 : Int) (zs2 zt2 : ByteArray) (x2 : Fr (Int × Int × ByteArray)) (p2 q2 : St) (X2 : Option Addr) (cx2 : Nat) (P2 : Option Addr) (cp2 : Nat) (Q2 : Option Addr) (cq2 : Nat) (w : World) (ht : qStmt (zk, zs, zt)) (hS : Tri w 0 w.heap.size X x P p Q q) (hl : x.len ≤ 9223372036854775807 ∧ p.len ≤ 9223372036854775807 ∧ q.len ≤ 9223372036854775807) (hx : FrOk qExpr x) (hp : StOk qStmt qExpr p) (hq : StOk qStmt qExpr q) (ht2 : qStmt (zk2, zs2, zt2)) (hS2 : Tri w 0 w.heap.size X2 x2 P2 p2 Q2 q2) (hl2 : x2.len ≤ 9223372036854775807 ∧ p2.len ≤ 9223372036854775807 ∧ q2.len ≤ 9223372036854775807) (hx2 : FrOk qExpr x2) (hp2 : StOk qStmt qExpr p2) (hq2 : StOk qStmt qExpr q2) :
    Calls Try.prog 4 #[.agg #[.int .i64 zk, .string zs, .string zt, .slice X x.len cx, .slice P p.len cp, .slice Q q.len cq], .agg #[.int .i64 zk2, .string zs2, .string zt2, .slice X2 x2.len cx2, .slice P2 p2.len cp2, .slice Q2 q2.len cq2]] w fun e w' => e = .returned (.bool true) ∧ Below w.heap.size w w' := by
  have B := (Blk.new w 34 #[.int .i64 zk, .string zs, .string zt, .slice X x.len cx, .slice P p.len cp, .slice Q q.len cq]).alloc (.cells #[.int .i64 zk2, .string zs2, .string zt2, .slice X2 x2.len cx2, .slice P2 p2.len cp2, .slice Q2 q2.len cq2] 34)
  have D := Blk.new2 w (.cells #[.int .i64 zk, .string zs, .string zt, .slice X x.len cx, .slice P p.len cp, .slice Q q.len cq] 34) 34 #[.int .i64 zk2, .string zs2, .string zt2, .slice X2 x2.len cx2, .slice P2 p2.len cp2, .slice Q2 q2.len cq2]
  have L0 := bl_alloc (bl_alloc (Below.refl w.heap.size w) (.cells #[.int .i64 zk, .string zs, .string zt, .slice X x.len cx, .slice P p.len cp, .slice Q q.len cq] 34)) (.cells #[.int .i64 zk2, .string zs2, .string zt2, .slice X2 x2.len cx2, .slice P2 p2.len cp2, .slice Q2 q2.len cq2] 34)
  have cZ := fun w (h : Tri w 0 w.heap.size X x P p Q q) => szStmt_of zk zs zt x p q X cx P cp Q cq 1048576 w ht (by omega) (by omega) h.1 h.2.1 h.2.2 (fun w' left h0 h1 h => szExprS_any x.size x (Nat.le_refl _) hl.1 hx X cx left w' h0 h1 h) (fun w' left h0 h1 h => szStmtS_any p.size p (Nat.le_refl _) hl.2.1 hp P cp left w' h0 h1 h) (fun w' left h0 h1 h => szStmtS_any q.size q (Nat.le_refl _) hl.2.2 hq Q cq left w' h0 h1 h)
  obtain ⟨z, hz⟩ : ∃ z, left_ 1048576 (zs.size + zt.size + wt gExpr x + wtS gExpr p + wtS gExpr q) = z := ⟨_, rfl⟩
  rw [hz] at cZ
  have CZ := Lib.hid cZ
  clear cZ
  by_cases hc : z < 0
  · clear hz
    go_enter Try.func4, Try.ntmps4
    go_wp2_with fail
    refine (CZ.out _ ((hS.below L0 (Nat.le_refl _)).more (Nat.le_refl _) L0.size)).mono ?_; rintro e w1 ⟨rfl, b1⟩
    go_wp2_with fail
    go_ret
    exact ⟨rfl, bl_trans L0 b1⟩
  have hp_ := left_pos (by rw [hz]; exact hc)
  rw [hz] at hp_
  have hw1 := size_wt gExpr x
  have hw2 := size_wtS gExpr p
  have hw3 := size_wtS gExpr q
  have hz0 : 0 ≤ z ∧ z ≤ 1048576 := by omega
  have hks : x.size + p.size + q.size ≤ 1048576 := by omega
  clear hz hp_ hw1 hw2 hw3
  have cZ2 := fun w (h : Tri w 0 w.heap.size X2 x2 P2 p2 Q2 q2) => szStmt_of zk2 zs2 zt2 x2 p2 q2 X2 cx2 P2 cp2 Q2 cq2 z w ht2 hz0.1 hz0.2 h.1 h.2.1 h.2.2 (fun w' left h0 h1 h => szExprS_any x2.size x2 (Nat.le_refl _) hl2.1 hx2 X2 cx2 left w' h0 h1 h) (fun w' left h0 h1 h => szStmtS_any p2.size p2 (Nat.le_refl _) hl2.2.1 hp2 P2 cp2 left w' h0 h1 h) (fun w' left h0 h1 h => szStmtS_any q2.size q2 (Nat.le_refl _) hl2.2.2 hq2 Q2 cq2 left w' h0 h1 h)
  obtain ⟨y, hy⟩ : ∃ y, left_ z (zs2.size + zt2.size + wt gExpr x2 + wtS gExpr p2 + wtS gExpr q2) = y := ⟨_, rfl⟩
  rw [hy] at cZ2
  have CZ2 := Lib.hid cZ2
  clear cZ2
  by_cases hd : y < 0
  · clear hy
    go_enter Try.func4, Try.ntmps4
    go_wp2_with fail
    refine (CZ.out _ ((hS.below L0 (Nat.le_refl _)).more (Nat.le_refl _) L0.size)).mono ?_; rintro e w1 ⟨rfl, b1⟩
    replace D := D.keep b1
    have L1 := bl_trans L0 b1
    have pD := D.cell
    go_wp2_with fail
    refine (CZ2.out _ ((hS2.below L1 (Nat.le_refl _)).more (Nat.le_refl _) L1.size)).mono ?_; rintro e w2 ⟨rfl, b2⟩
    go_wp2_with fail
    go_ret
    exact ⟨rfl, bl_trans L1 b2⟩
  · have hp_ := left_pos (by rw [hy]; exact hd)
    have hw1 := size_wt gExpr x2
    have hw2 := size_wtS gExpr p2
    have hw3 := size_wtS gExpr q2
    have hks2 : x2.size + p2.size + q2.size ≤ 1048576 := by omega
    clear hy hp_ hw1 hw2 hw3
    have CT := Lib.hid (fun w (h : Tri w 0 w.heap.size X x P p Q q) => toStmt_of zk zs zt x p q X cx P cp Q cq w h.1 h.2.1 h.2.2 (fun w' h' => toExprS_any x.size (by omega) x X cx w' (Nat.le_refl _) h') (fun w' h' => toStmtS_any p.size (by omega) p P cp w' (Nat.le_refl _) h') (fun w' h' => toStmtS_any q.size (by omega) q Q cq w' (Nat.le_refl _) h'))
    have CT2 := Lib.hid (fun w (h : Tri w 0 w.heap.size X2 x2 P2 p2 Q2 q2) => toStmt_of zk2 zs2 zt2 x2 p2 q2 X2 cx2 P2 cp2 Q2 cq2 w h.1 h.2.1 h.2.2 (fun w' h' => toExprS_any x2.size (by omega) x2 X2 cx2 w' (Nat.le_refl _) h') (fun w' h' => toStmtS_any p2.size (by omega) p2 P2 cp2 w' (Nat.le_refl _) h') (fun w' h' => toStmtS_any q2.size (by omega) q2 Q2 cq2 w' (Nat.le_refl _) h'))
    have CE := Lib.hid (fun X cx P cp Q cq X' cx' P' cp' Q' cq' w (h : Tri w 0 w.heap.size X x P p Q q) (h' : Tri w 0 w.heap.size X' x P' p Q' q) => eqStmt_of zk zs zt x p q X P Q X' P' Q' cx cp cq cx' cp' cq' w h.1 h.2.1 h.2.2 h'.1 h'.2.1 h'.2.2 (fun w' h h' => eqExprS_any x.size (by omega) x (Nat.le_refl _) X X' cx cx' w' h h') (fun w' h h' => eqStmtS_any p.size (by omega) p (Nat.le_refl _) P P' cp cp' w' h h') (fun w' h h' => eqStmtS_any q.size (by omega) q (Nat.le_refl _) Q Q' cq cq' w' h h'))
    have CE2 := Lib.hid (fun X cx P cp Q cq X' cx' P' cp' Q' cq' w (h : Tri w 0 w.heap.size X x2 P p2 Q q2) (h' : Tri w 0 w.heap.size X' x2 P' p2 Q' q2) => eqStmt_of zk2 zs2 zt2 x2 p2 q2 X P Q X' P' Q' cx cp cq cx' cp' cq' w h.1 h.2.1 h.2.2 h'.1 h'.2.1 h'.2.2 (fun w' h h' => eqExprS_any x2.size (by omega) x2 (Nat.le_refl _) X X' cx cx' w' h h') (fun w' h h' => eqStmtS_any p2.size (by omega) p2 (Nat.le_refl _) P P' cp cp' w' h h') (fun w' h h' => eqStmtS_any q2.size (by omega) q2 (Nat.le_refl _) Q Q' cq cq' w' h h'))
    have cS := fun X cx P cp Q cq X' cx' P' cp' Q' cq' w (h : Tri w 0 w.heap.size X x P p Q q) (h' : Tri w 0 w.heap.size X' x2 P' p2 Q' q2) => sSameS_any (x.size + p.size + q.size) zk zs zt x p q X P Q cx cp cq (Nat.le_refl _) hks zk2 zs2 zt2 x2 p2 q2 X' P' Q' cx' cp' cq' hks2 w h.1 h.2.1 h.2.2 h'.1 h'.2.1 h'.2.2
    have cI := fun X cx P cp Q cq X' cx' P' cp' Q' cq' w (h : Tri w 0 w.heap.size X x P p Q q) (h' : Tri w 0 w.heap.size X' x2 P' p2 Q' q2) => iSameS_any (x.size + p.size + q.size) zk zs zt x p q X P Q cx cp cq (Nat.le_refl _) hks zk2 zs2 zt2 x2 p2 q2 X' P' Q' cx' cp' cq' hks2 w h.1 h.2.1 h.2.2 h'.1 h'.2.1 h'.2.2
    generalize (labS (zk, zs, zt) (zk2, zs2, zt2) && (sameF x x2 && (sameS p p2 && sameS q q2))) = Y at cS cI
    have CS := Lib.hid cS
    have CI := Lib.hid cI
    clear cS cI
    go_enter Try.func4, Try.ntmps4
    go_wp2_with fail
    refine (CZ.out _ ((hS.below L0 (Nat.le_refl _)).more (Nat.le_refl _) L0.size)).mono ?_; rintro e w1 ⟨rfl, b1⟩
    have s1 := b1.size
    have L1 := bl_trans L0 b1
    replace B := B.keep b1
    replace D := D.keep b1
    have pD := D.cell
    go_wp2_with fail
    clear pD
    refine (CZ2.out _ ((hS2.below L1 (Nat.le_refl _)).more (Nat.le_refl _) L1.size)).mono ?_; rintro e w2 ⟨rfl, b2⟩
    have s2 := b2.size
    have L2 := bl_trans L1 b2
    replace B := B.keep b2
    replace D := D.keep b2
    have pB := B.cell
    have pD := D.cell
    go_wp2_with fail
    clear pB
    clear pD
    refine wp_region_held_drew (S := (fun x_ => Blk x_ w.heap.size 34 #[.int .i64 zk, .string zs, .string zt, .slice X x.len cx, .slice P p.len cp, .slice Q q.len cq] ∧ Blk x_ (w.heap.size + 1) 34 #[.int .i64 zk2, .string zs2, .string zt2, .slice X2 x2.len cx2, .slice P2 p2.len cp2, .slice Q2 q2.len cq2] ∧ Tri x_ 0 w.heap.size X x P p Q q ∧ Tri x_ 0 w.heap.size X2 x2 P2 p2 Q2 q2 ∧ w.heap.size ≤ x_.heap.size)) (by kernel_rfl) ?_ (fun hHeld => ?_)
    · exact ⟨B.drew, D.drew, (hS.below L2 (Nat.le_refl _)).keep (fun _ _ _ => rfl) (Nat.le_refl _) (Nat.le_refl _), (hS2.below L2 (Nat.le_refl _)).keep (fun _ _ _ => rfl) (Nat.le_refl _) (Nat.le_refl _), L2.size⟩
    refine wpAnyH_take (i := 0) (oi := ⟨some 20, _, _, _, _, _⟩) (v := ?_) rfl (by kernel_rfl) (by kernel_rfl) (by kernel_rfl) (fun _ _ _ h => h) (Or.inl ⟨by rfl, ?_⟩) (by assumption) ?_
    case refine_2 => (intro w hSw; have p := hSw.1.cell; go_simp; first | done | with_reducible rfl)
    simp only [Act.put, List.setIfInBounds_toArray, List.set_cons_zero, List.set_cons_succ]
    refine wpAnyH_take (i := 2) (oi := ⟨some 22, _, _, _, _, _⟩) (v := ?_) rfl (by kernel_rfl) (by kernel_rfl) (by kernel_rfl) (fun _ _ _ h => h) (Or.inl ⟨by rfl, ?_⟩) (by assumption) ?_
    case refine_2 => (intro w hSw; have p := hSw.2.1.cell; go_simp; first | done | with_reducible rfl)
    simp only [Act.put, List.setIfInBounds_toArray, List.set_cons_zero, List.set_cons_succ]
    refine wpAnyH_ready (rs := [1]) (by kernel_rfl) (by simp) ?_
    refine AllReadyH.cons (o := ⟨some 21, _, _, _, _, _⟩) rfl (fun K hK => ?_) AllReadyH.nil
    go_simp
    refine (CT.out _ (hHeld.2.2.1.more (Nat.le_refl _) hHeld.2.2.2.2)).mono ?_; rintro e u1 ⟨⟨Xx, cxx, Px, cpx, Qx, cqx, rfl, X_x⟩, bu1⟩; change Tri _ _ _ _ _ _ _ _ _ at X_x
    go_wp2_with fail
    refine hK.out _ _ (⟨hHeld.1.keep bu1, hHeld.2.1.keep bu1, hHeld.2.2.1.below bu1 hHeld.2.2.2.2, hHeld.2.2.2.1.below bu1 hHeld.2.2.2.2, Nat.le_trans hHeld.2.2.2.2 bu1.size⟩) (fun hHeld => ?_)
    clear hK K
    try simp only [Act.put, List.setIfInBounds_toArray, List.set_cons_zero, List.set_cons_succ]
    refine wpAnyH_ready (rs := [3]) (by kernel_rfl) (by simp) ?_
    refine AllReadyH.cons (o := ⟨some 23, _, _, _, _, _⟩) rfl (fun K hK => ?_) AllReadyH.nil
    go_simp
    refine (CT2.out _ (hHeld.2.2.2.1.more (Nat.le_refl _) hHeld.2.2.2.2)).mono ?_; rintro e u2 ⟨⟨Xy, cxy, Py, cpy, Qy, cqy, rfl, X_y⟩, bu2⟩; change Tri _ _ _ _ _ _ _ _ _ at X_y
    go_wp2_with fail
    refine hK.out _ _ (⟨hHeld.1.keep bu2, hHeld.2.1.keep bu2, hHeld.2.2.1.below bu2 hHeld.2.2.2.2, hHeld.2.2.2.1.below bu2 hHeld.2.2.2.2, Nat.le_trans hHeld.2.2.2.2 bu2.size⟩) (fun hHeld => ?_)
    clear hK K
    try simp only [Act.put, List.setIfInBounds_toArray, List.set_cons_zero, List.set_cons_succ]
    replace X_x := X_x.below bu2 (Nat.le_refl _)
    refine wpAnyH_ready (rs := [4]) (by kernel_rfl) (by simp) ?_
    refine AllReadyH.cons (o := ⟨some 24, _, _, _, _, _⟩) rfl (fun K hK => ?_) AllReadyH.nil
    go_simp
    refine (CS.out _ _ _ _ _ _ _ _ _ _ _ _ _ (X_x.more (Nat.zero_le _) bu2.size) (X_y.more (Nat.zero_le _) (Nat.le_refl _))).mono ?_; rintro e w3 ⟨rfl, bu3⟩
    go_wp2_with fail
    refine hK.out _ _ (⟨hHeld.1.keep bu3, hHeld.2.1.keep bu3, hHeld.2.2.1.below bu3 hHeld.2.2.2.2, hHeld.2.2.2.1.below bu3 hHeld.2.2.2.2, Nat.le_trans hHeld.2.2.2.2 bu3.size⟩) (fun hHeld => ?_)
    clear hK K
    try simp only [Act.put, List.setIfInBounds_toArray, List.set_cons_zero, List.set_cons_succ]
    refine wpAnyH_take (i := 5) (oi := ⟨some 6, _, _, _, _, _⟩) (v := ?_) rfl (by kernel_rfl) (by kernel_rfl) (by kernel_rfl) (fun _ _ _ h => h) (Or.inl ⟨by rfl, ?_⟩) (by assumption) ?_
    case refine_2 => (intro w hSw; skip; go_simp; first | done | with_reducible rfl)
    simp only [Act.put, List.setIfInBounds_toArray, List.set_cons_zero, List.set_cons_succ]
    refine wpAnyH_done (by kernel_rfl) ?_ _
    have b3 := bl_trans (bl_trans (bl_trans (Below.refl w2.heap.size w2).drew bu1) bu2) bu3
    clear hHeld X_x X_y
    have s3 := b3.size
    have L3 := bl_trans L2 b3
    replace B := B.keep b3
    replace D := D.keep b3
    have pB := B.cell
    go_wp2_with fail
    clear pB
    refine (CT.out _ ((hS.below L3 (Nat.le_refl _)).more (Nat.le_refl _) L3.size)).mono ?_; rintro e w4 ⟨⟨Xp, cxp, Pp, cpp, Qp, cqp, rfl, X_p⟩, b4⟩
    have s4 := b4.size
    have L4 := bl_trans L3 b4
    replace B := B.keep b4
    replace D := D.keep b4
    change Tri _ _ _ _ _ _ _ _ _ at X_p
    have pD := (D.alloc (.cells #[.int .i64 zk, .string zs, .string zt, .slice Xp x.len cxp, .slice Pp p.len cpp, .slice Qp q.len cqp] 39)).cell
    go_wp2_with fail
    clear pD
    have BP := Blk.new w4 39 #[.int .i64 zk, .string zs, .string zt, .slice Xp x.len cxp, .slice Pp p.len cpp, .slice Qp q.len cqp]
    have b5 := bl_alloc (Below.refl w4.heap.size w4) (.cells #[.int .i64 zk, .string zs, .string zt, .slice Xp x.len cxp, .slice Pp p.len cpp, .slice Qp q.len cqp] 39)
    have hBP : w4.heap.size < (w4.alloc (.cells #[.int .i64 zk, .string zs, .string zt, .slice Xp x.len cxp, .slice Pp p.len cpp, .slice Qp q.len cqp] 39)).heap.size := by rw [alloc_size]; exact Nat.lt_succ_self _
    generalize w4.alloc (.cells #[.int .i64 zk, .string zs, .string zt, .slice Xp x.len cxp, .slice Pp p.len cpp, .slice Qp q.len cqp] 39) = w5 at BP b5 hBP ⊢
    have s5 := b5.size
    have L5 := bl_trans L4 b5
    replace B := B.keep b5
    replace D := D.keep b5
    replace X_p := X_p.below b5 (by omega)
    refine (CT2.out _ ((hS2.below L5 (Nat.le_refl _)).more (Nat.le_refl _) L5.size)).mono ?_; rintro e w6 ⟨⟨Xq, cxq, Pq, cpq, Qq, cqq, rfl, X_q⟩, b6⟩
    have s6 := b6.size
    have L6 := bl_trans L5 b6
    replace B := B.keep b6
    replace D := D.keep b6
    replace BP := BP.keep b6
    replace X_p := X_p.below b6 (by omega)
    change Tri _ _ _ _ _ _ _ _ _ at X_q
    have pBP := (BP.alloc (.cells #[.int .i64 zk2, .string zs2, .string zt2, .slice Xq x2.len cxq, .slice Pq p2.len cpq, .slice Qq q2.len cqq] 39)).cell
    go_wp2_with fail
    clear pBP
    have BQ := Blk.new w6 39 #[.int .i64 zk2, .string zs2, .string zt2, .slice Xq x2.len cxq, .slice Pq p2.len cpq, .slice Qq q2.len cqq]
    have b7 := bl_alloc (Below.refl w6.heap.size w6) (.cells #[.int .i64 zk2, .string zs2, .string zt2, .slice Xq x2.len cxq, .slice Pq p2.len cpq, .slice Qq q2.len cqq] 39)
    have hBQ : w6.heap.size < (w6.alloc (.cells #[.int .i64 zk2, .string zs2, .string zt2, .slice Xq x2.len cxq, .slice Pq p2.len cpq, .slice Qq q2.len cqq] 39)).heap.size := by rw [alloc_size]; exact Nat.lt_succ_self _
    generalize w6.alloc (.cells #[.int .i64 zk2, .string zs2, .string zt2, .slice Xq x2.len cxq, .slice Pq p2.len cpq, .slice Qq q2.len cqq] 39) = w7 at BQ b7 hBQ ⊢
    have s7 := b7.size
    have L7 := bl_trans L6 b7
    replace B := B.keep b7
    replace D := D.keep b7
    replace BP := BP.keep b7
    replace X_p := X_p.below b7 (by omega)
    replace X_q := X_q.below b7 (by omega)
    refine (CI.out _ _ _ _ _ _ _ _ _ _ _ _ _ (X_p.more (Nat.zero_le _) (by omega)) (X_q.more (Nat.zero_le _) (by omega))).mono ?_; rintro e w8 ⟨rfl, b8⟩
    have s8 := b8.size
    have L8 := bl_trans L7 b8
    replace B := B.keep b8
    replace D := D.keep b8
    replace BP := BP.keep b8
    replace BQ := BQ.keep b8
    replace X_p := X_p.below b8 (by omega)
    replace X_q := X_q.below b8 (by omega)
    go_wp2_with fail
    have hww : w.heap.size ≤ w8.heap.size := L8.size
    refine wp_region_held_drew (S := (fun x_ => Blk x_ w4.heap.size 39 #[.int .i64 zk, .string zs, .string zt, .slice Xp x.len cxp, .slice Pp p.len cpp, .slice Qp q.len cqp] ∧ Blk x_ w.heap.size 34 #[.int .i64 zk, .string zs, .string zt, .slice X x.len cx, .slice P p.len cp, .slice Q q.len cq] ∧ Tri x_ 0 w.heap.size X x P p Q q ∧ Tri x_ 0 w8.heap.size Xp x Pp p Qp q ∧ w8.heap.size ≤ x_.heap.size)) (by kernel_rfl) ?_ (fun hHeld => ?_)
    · exact ⟨BP.drew, B.drew, (hS.below L8 (Nat.le_refl _)).keep (fun _ _ _ => rfl) (Nat.le_refl _) (Nat.le_refl _), X_p.keep (fun _ _ _ => rfl) (Nat.zero_le _) (by omega), Nat.le_refl _⟩
    refine wpAnyH_take (i := 0) (oi := ⟨some 35, _, _, _, _, _⟩) (v := ?_) rfl (by kernel_rfl) (by kernel_rfl) (by kernel_rfl) (fun _ _ _ h => h) (Or.inl ⟨by rfl, ?_⟩) (by assumption) ?_
    case refine_2 => (intro w hSw; have p := hSw.1.cell; go_simp; first | done | with_reducible rfl)
    simp only [Act.put, List.setIfInBounds_toArray, List.set_cons_zero, List.set_cons_succ]
    refine wpAnyH_take (i := 1) (oi := ⟨some 36, _, _, _, _, _⟩) (v := ?_) rfl (by kernel_rfl) (by kernel_rfl) (by kernel_rfl) (fun _ _ _ h => h) (Or.inl ⟨by rfl, ?_⟩) (by assumption) ?_
    case refine_2 => (intro w hSw; have p := hSw.2.1.cell; go_simp; first | done | with_reducible rfl)
    simp only [Act.put, List.setIfInBounds_toArray, List.set_cons_zero, List.set_cons_succ]
    refine wpAnyH_ready (rs := [2]) (by kernel_rfl) (by simp) ?_
    refine AllReadyH.cons (o := ⟨some 37, _, _, _, _, _⟩) rfl (fun K hK => ?_) AllReadyH.nil
    go_simp
    refine (CT.out _ (hHeld.2.2.1.more (Nat.le_refl _) (Nat.le_trans hww hHeld.2.2.2.2))).mono ?_; rintro e u1 ⟨⟨Xe, cxe, Pe, cpe, Qe, cqe, rfl, X_e⟩, bu1⟩; change Tri _ _ _ _ _ _ _ _ _ at X_e
    go_wp2_with fail
    refine hK.out _ _ (⟨hHeld.1.keep bu1, hHeld.2.1.keep bu1, hHeld.2.2.1.below bu1 (Nat.le_trans hww hHeld.2.2.2.2), hHeld.2.2.2.1.below bu1 hHeld.2.2.2.2, Nat.le_trans hHeld.2.2.2.2 bu1.size⟩) (fun hHeld => ?_)
    clear hK K
    try simp only [Act.put, List.setIfInBounds_toArray, List.set_cons_zero, List.set_cons_succ]
    refine wpAnyH_ready (rs := [3]) (by kernel_rfl) (by simp) ?_
    refine AllReadyH.cons (o := ⟨some 38, _, _, _, _, _⟩) rfl (fun K hK => ?_) AllReadyH.nil
    go_simp
    refine (CE.out _ _ _ _ _ _ _ _ _ _ _ _ _ (hHeld.2.2.2.1.more (Nat.le_refl _) hHeld.2.2.2.2) (X_e.more (Nat.zero_le _) (Nat.le_refl _))).mono ?_; rintro e w9 ⟨rfl, bu2⟩
    go_wp2_with fail
    refine hK.out _ _ (⟨hHeld.1.keep bu2, hHeld.2.1.keep bu2, hHeld.2.2.1.below bu2 (Nat.le_trans hww hHeld.2.2.2.2), hHeld.2.2.2.1.below bu2 hHeld.2.2.2.2, Nat.le_trans hHeld.2.2.2.2 bu2.size⟩) (fun hHeld => ?_)
    clear hK K
    try simp only [Act.put, List.setIfInBounds_toArray, List.set_cons_zero, List.set_cons_succ]
    refine wpAnyH_take (i := 4) (oi := ⟨some 39, _, _, _, _, _⟩) (v := ?_) rfl (by kernel_rfl) (by kernel_rfl) (by kernel_rfl) (fun _ _ _ h => h) (Or.inl ⟨by rfl, ?_⟩) (by assumption) ?_
    case refine_2 => (intro w hSw; skip; go_simp; first | done | with_reducible rfl)
    simp only [Act.put, List.setIfInBounds_toArray, List.set_cons_zero, List.set_cons_succ]
    refine wpAnyH_done (by kernel_rfl) ?_ _
    have b9 := bl_trans (bl_trans (Below.refl w8.heap.size w8).drew bu1) bu2
    clear hww hHeld
    have s9 := b9.size
    have L9 := bl_trans L8 b9
    replace B := B.keep b9
    replace D := D.keep b9
    replace BP := BP.keep b9
    replace BQ := BQ.keep b9
    replace X_p := X_p.below b9 (by omega)
    replace X_q := X_q.below b9 (by omega)
    go_wp2_with fail
    have hww : w.heap.size ≤ w9.heap.size := L9.size
    refine wp_region_held_drew (S := (fun x_ => Blk x_ w6.heap.size 39 #[.int .i64 zk2, .string zs2, .string zt2, .slice Xq x2.len cxq, .slice Pq p2.len cpq, .slice Qq q2.len cqq] ∧ Blk x_ (w.heap.size + 1) 34 #[.int .i64 zk2, .string zs2, .string zt2, .slice X2 x2.len cx2, .slice P2 p2.len cp2, .slice Q2 q2.len cq2] ∧ Tri x_ 0 w.heap.size X2 x2 P2 p2 Q2 q2 ∧ Tri x_ 0 w9.heap.size Xq x2 Pq p2 Qq q2 ∧ w9.heap.size ≤ x_.heap.size)) (by kernel_rfl) ?_ (fun hHeld => ?_)
    · exact ⟨BQ.drew, D.drew, (hS2.below L9 (Nat.le_refl _)).keep (fun _ _ _ => rfl) (Nat.le_refl _) (Nat.le_refl _), X_q.keep (fun _ _ _ => rfl) (Nat.zero_le _) (by omega), Nat.le_refl _⟩
    refine wpAnyH_take (i := 0) (oi := ⟨some 40, _, _, _, _, _⟩) (v := ?_) rfl (by kernel_rfl) (by kernel_rfl) (by kernel_rfl) (fun _ _ _ h => h) (Or.inl ⟨by rfl, ?_⟩) (by assumption) ?_
    case refine_2 => (intro w hSw; have p := hSw.1.cell; go_simp; first | done | with_reducible rfl)
    simp only [Act.put, List.setIfInBounds_toArray, List.set_cons_zero, List.set_cons_succ]
    refine wpAnyH_take (i := 1) (oi := ⟨some 41, _, _, _, _, _⟩) (v := ?_) rfl (by kernel_rfl) (by kernel_rfl) (by kernel_rfl) (fun _ _ _ h => h) (Or.inl ⟨by rfl, ?_⟩) (by assumption) ?_
    case refine_2 => (intro w hSw; have p := hSw.2.1.cell; go_simp; first | done | with_reducible rfl)
    simp only [Act.put, List.setIfInBounds_toArray, List.set_cons_zero, List.set_cons_succ]
    refine wpAnyH_ready (rs := [2]) (by kernel_rfl) (by simp) ?_
    refine AllReadyH.cons (o := ⟨some 42, _, _, _, _, _⟩) rfl (fun K hK => ?_) AllReadyH.nil
    go_simp
    refine (CT2.out _ (hHeld.2.2.1.more (Nat.le_refl _) (Nat.le_trans hww hHeld.2.2.2.2))).mono ?_; rintro e u1 ⟨⟨Xe, cxe, Pe, cpe, Qe, cqe, rfl, X_e⟩, bu1⟩; change Tri _ _ _ _ _ _ _ _ _ at X_e
    go_wp2_with fail
    refine hK.out _ _ (⟨hHeld.1.keep bu1, hHeld.2.1.keep bu1, hHeld.2.2.1.below bu1 (Nat.le_trans hww hHeld.2.2.2.2), hHeld.2.2.2.1.below bu1 hHeld.2.2.2.2, Nat.le_trans hHeld.2.2.2.2 bu1.size⟩) (fun hHeld => ?_)
    clear hK K
    try simp only [Act.put, List.setIfInBounds_toArray, List.set_cons_zero, List.set_cons_succ]
    refine wpAnyH_ready (rs := [3]) (by kernel_rfl) (by simp) ?_
    refine AllReadyH.cons (o := ⟨some 43, _, _, _, _, _⟩) rfl (fun K hK => ?_) AllReadyH.nil
    go_simp
    refine (CE2.out _ _ _ _ _ _ _ _ _ _ _ _ _ (hHeld.2.2.2.1.more (Nat.le_refl _) hHeld.2.2.2.2) (X_e.more (Nat.zero_le _) (Nat.le_refl _))).mono ?_; rintro e w10 ⟨rfl, bu2⟩
    go_wp2_with fail
    refine hK.out _ _ (⟨hHeld.1.keep bu2, hHeld.2.1.keep bu2, hHeld.2.2.1.below bu2 (Nat.le_trans hww hHeld.2.2.2.2), hHeld.2.2.2.1.below bu2 hHeld.2.2.2.2, Nat.le_trans hHeld.2.2.2.2 bu2.size⟩) (fun hHeld => ?_)
    clear hK K
    try simp only [Act.put, List.setIfInBounds_toArray, List.set_cons_zero, List.set_cons_succ]
    refine wpAnyH_take (i := 4) (oi := ⟨some 44, _, _, _, _, _⟩) (v := ?_) rfl (by kernel_rfl) (by kernel_rfl) (by kernel_rfl) (fun _ _ _ h => h) (Or.inl ⟨by rfl, ?_⟩) (by assumption) ?_
    case refine_2 => (intro w hSw; skip; go_simp; first | done | with_reducible rfl)
    simp only [Act.put, List.setIfInBounds_toArray, List.set_cons_zero, List.set_cons_succ]
    refine wpAnyH_done (by kernel_rfl) ?_ _
    have b10 := bl_trans (bl_trans (Below.refl w9.heap.size w9).drew bu1) bu2
    clear hww hHeld
    have s10 := b10.size
    have L10 := bl_trans L9 b10
    replace B := B.keep b10
    replace D := D.keep b10
    replace BP := BP.keep b10
    replace BQ := BQ.keep b10
    replace X_p := X_p.below b10 (by omega)
    replace X_q := X_q.below b10 (by omega)
    go_wp2_with fail
    go_ret
    exact ⟨rfl, L10⟩

set_option maxRecDepth 100000 in
theorem FnExactSameStmt_args {H : Type} {enc : TypeId × Value → H} (W : World) (base : Nat) (args : Array Value) (ds : List (DataW H)) (p : List MemPlace)
    (hval : ∀ (j : Nat) t v, Try.f4.params[j]? = some t → args[j]? = some v → Value.okWide Try.checked.prog W .any base t v)
    (hA : DataW.TrodAll enc Try.checked.prog W 0 (fun _ => true) true Try.f4.params.toList args.toList ds p) :
    Calls Try.checked.prog 4 args W fun e W' => e = .returned (.bool true) ∧ Below W.heap.size W W' := by
  rw [Try.params4] at hA hval
  obtain ⟨v0, v1, d0, d1, p0, p1, rfl, rfl, rfl, h0, h1⟩ := trodAll_two hA
  obtain ⟨zk, zs, zt, X, cx, P, cp, Q, cq, x, p, q, rfl, ht, hS, hl, hx, hp, hq⟩ := open_trStmt W v0 d0 p0 (hval 0 34 v0 rfl rfl) h0
  obtain ⟨zk2, zs2, zt2, X2, cx2, P2, cp2, Q2, cq2, x2, p2, q2, rfl, ht2, hS2, hl2, hx2, hp2, hq2⟩ := open_trStmt W v1 d1 p1 (hval 1 34 v1 rfl rfl) h1
  exact FnExactSameStmt_walk zk zs zt x p q X cx P cp Q cq zk2 zs2 zt2 x2 p2 q2 X2 cx2 P2 cp2 Q2 cq2 W ht hS hl hx hp hq ht2 hS2 hl2 hx2 hp2 hq2

set_option maxRecDepth 100000 in
theorem FnExactSameStmt_holds : Rows.FnExactSameStmtSaid :=
  OpenClaim.holds_of_wide 4 Try.f4 rfl rfl rfl rfl rfl rfl rfl ⟨rfl, rfl, rfl, rfl, rfl⟩ rfl rfl rfl rfl rfl (by kernel_rfl) Try.func4 (by kernel_rfl)
    (of_decide_eq_true (by kernel_rfl)) (by unfold Func.isWrapper; rw [if_neg (of_decide_eq_false (by kernel_rfl))]; exact ⟨rfl, rfl⟩)
    (fun os started H enc _ => law_lift 4 Try.f4 Rows.fnExactSameStmtSpec 4 own laidOut started (by kernel_rfl) Try.func4 (by kernel_rfl) rfl (by kernel_rfl) Try.underlying4
      (fun ds h => by
        have hl : ds.length = 2 := h.trans (by kernel_rfl)
        obtain ⟨a, b, rfl⟩ := len2 hl
        rfl)
      (ChangeSpec.witness6 (enc := enc) (C := Try.checked) false ⟨#[], #[.agg #[.int .i64 0, .string ⟨#[]⟩, .string ⟨#[]⟩, .slice none 0 0, .slice none 0 0, .slice none 0 0], .agg #[.int .i64 0, .string ⟨#[]⟩, .string ⟨#[]⟩, .slice none 0 0, .slice none 0 0, .slice none 0 0]], []⟩ 8 (by kernel_rfl) (by kernel_rfl) (by kernel_rfl) (by kernel_rfl))
      FnExactSameStmt_args)
#print axioms FnExactSameStmt_holds

end Go.Proofs.Ytblmoakipebicaa
