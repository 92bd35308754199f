/- Walks over the laws' szStmtS and szStmt: what is left behind a row's weight. -/
import Derived.Test.YtblmoakipebicaaTreeS
import Derived.Test.YtblmoakipebicaaExprSz
namespace Go.Proofs.Ytblmoakipebicaa
open Go.RowKit

/-- A label's texts are not too long. -/
def qStmt (a : (Int × ByteArray × ByteArray)) : Prop := a.2.1.size ≤ 9223372036854775807 ∧ a.2.2.size ≤ 9223372036854775807
theorem left_two {l : Int} {n m : Nat} (h : ¬ left_ l n < 0) : left_ (left_ l n) m = left_ l (n + m) := by
  have h1 := (left_pos h).1
  rw [h1]
  unfold left_
  rw [show l - ((n + m : Nat) : Int) = l - n - m by omega]
set_option maxHeartbeats 4000000 in
theorem szStmt_of (zk : Int) (zs zt : ByteArray) (x : Fr (Int × Int × ByteArray)) (p q : St) (X : Option Addr) (cx : Nat) (P : Option Addr) (cp : Nat) (Q : Option Addr) (cq : Nat) (left : Int) (w : World) (hq : qStmt (zk, zs, zt)) (h0 : 0 ≤ left) (h1 : left ≤ 1048576) (hX : Sl exprC w 0 w.heap.size X x) (hP : SlS w 0 w.heap.size P p) (hQ : SlS w 0 w.heap.size Q q)
    (I1 : ∀ w' left, 0 ≤ left → left ≤ 1048576 → Sl exprC w' 0 w'.heap.size X x → Calls Try.prog 62 #[.slice X x.len cx, .int .i64 left] w' fun e w'' => e = .returned (.int .i64 (left_ left (wt gExpr x))) ∧ Below w'.heap.size w' w'')
    (I2 : ∀ w' left, 0 ≤ left → left ≤ 1048576 → SlS w' 0 w'.heap.size P p → Calls Try.prog 66 #[.slice P p.len cp, .int .i64 left] w' fun e w'' => e = .returned (.int .i64 (left_ left (wtS gExpr p))) ∧ Below w'.heap.size w' w'')
    (I3 : ∀ w' left, 0 ≤ left → left ≤ 1048576 → SlS w' 0 w'.heap.size Q q → Calls Try.prog 66 #[.slice Q q.len cq, .int .i64 left] w' fun e w'' => e = .returned (.int .i64 (left_ left (wtS gExpr q))) ∧ Below w'.heap.size w' w'') :
    Calls Try.prog 20 #[.agg #[.int .i64 zk, .string zs, .string zt, .slice X x.len cx, .slice P p.len cp, .slice Q q.len cq], .int .i64 left] w fun e w' => e = .returned (.int .i64 (left_ left (zs.size + zt.size + wt gExpr x + wtS gExpr p + wtS gExpr q))) ∧ Below w.heap.size w w' := by
  obtain ⟨hz1, hz2⟩ := hq
  simp only at hz1 hz2
  have B := Blk.new w 34 #[.int .i64 zk, .string zs, .string zt, .slice X x.len cx, .slice P p.len cp, .slice Q q.len cq]
  have L0 := bl_alloc (Below.refl w.heap.size w) (.cells #[.int .i64 zk, .string zs, .string zt, .slice X x.len cx, .slice P p.len cp, .slice Q q.len cq] 34)
  by_cases c1 : left - (zs.size : Int) < 0
  · rw [left_is (by omega)]
    go_enter Try.func20, Try.ntmps20
    go_wp2_with fail
    go_ret
    exact ⟨rfl, L0⟩
  by_cases c2 : left - (zs.size : Int) - zt.size < 0
  · rw [left_is (by omega)]
    go_enter Try.func20, Try.ntmps20
    go_wp2_with fail
    go_ret
    exact ⟨rfl, L0⟩
  obtain ⟨R, hR⟩ : ∃ R, left_ left (zs.size + zt.size + wt gExpr x + wtS gExpr p + wtS gExpr q) = R := ⟨_, rfl⟩
  have hst : left_ (left - (zs.size : Int) - zt.size) (wt gExpr x + wtS gExpr p + wtS gExpr q) = R := by
    rw [← hR]
    unfold left_
    rw [show left - ((zs.size + zt.size + wt gExpr x + wtS gExpr p + wtS gExpr q : Nat) : Int) = left - zs.size - zt.size - ((wt gExpr x + wtS gExpr p + wtS gExpr q : Nat) : Int) by omega]
  rw [hR]
  clear hR
  have J1 := I1 _ (left - zs.size - zt.size) (by omega) (by omega) ((hX.below L0 (Nat.le_refl _)).more (Nat.le_refl _) L0.size)
  obtain ⟨z1, hz⟩ : ∃ z, left_ (left - (zs.size : Int) - zt.size) (wt gExpr x) = z := ⟨_, rfl⟩
  rw [hz] at J1
  have JJ1 := Lib.hid J1
  clear J1 I1
  by_cases n1 : z1 < 0
  · have hR1 : R = -1 := by
      rw [← hst]
      have := (left_neg (by rw [hz]; exact n1)).2
      exact left_is (by omega)
    clear hst hz
    subst hR1
    go_enter Try.func20, Try.ntmps20
    go_wp2_with fail
    refine JJ1.out.mono ?_; rintro e w1 ⟨rfl, b1⟩
    go_wp2_with fail
    go_ret
    exact ⟨rfl, bl_trans L0 b1⟩
  have hs2 : left_ z1 (wtS gExpr p + wtS gExpr q) = R := by
    rw [← hst, ← hz, left_two (by rw [hz]; exact n1), Nat.add_assoc]
  have hr1 := (left_pos (by rw [hz]; exact n1)).1
  rw [hz] at hr1
  have hb1 : 0 ≤ z1 ∧ z1 ≤ 1048576 := by omega
  clear hst hz hr1
  obtain ⟨z2, hz⟩ : ∃ z, left_ z1 (wtS gExpr p) = z := ⟨_, rfl⟩
  have J2 := fun w h => I2 w z1 hb1.1 hb1.2 h
  rw [hz] at J2
  have JJ2 := Lib.hid J2
  clear J2 I2
  by_cases n2 : z2 < 0
  · have hR1 : R = -1 := by
      rw [← hs2]
      have := (left_neg (by rw [hz]; exact n2)).2
      exact left_is (by omega)
    clear hs2 hz
    subst hR1
    go_enter Try.func20, Try.ntmps20
    go_wp2_with fail
    refine JJ1.out.mono ?_; rintro e w1 ⟨rfl, b1⟩
    have L1 := bl_trans L0 b1
    replace B : Blk w1 w.heap.size _ _ := Blk.keep B b1
    have p1 := B.cell
    go_wp2_with fail
    refine (JJ2.out _ ((hP.below L1 (Nat.le_refl _)).more (Nat.le_refl _) L1.size)).mono ?_; rintro e w2 ⟨rfl, b2⟩
    go_wp2_with fail
    go_ret
    exact ⟨rfl, bl_trans L1 b2⟩
  have hs3 : left_ z2 (wtS gExpr q) = R := by rw [← hs2, ← hz, left_two (by rw [hz]; exact n2)]
  have hr2 := (left_pos (by rw [hz]; exact n2)).1
  rw [hz] at hr2
  have hb2 : 0 ≤ z2 ∧ z2 ≤ 1048576 := by omega
  clear hs2 hz hr2
  have J3 := fun w h => I3 w z2 hb2.1 hb2.2 h
  rw [hs3] at J3
  have JJ3 := Lib.hid J3
  have hm := fun h => (left_neg (l := z2) (n := wtS gExpr q) (by rw [hs3]; exact h)).1
  rw [hs3] at hm
  have HM := Lib.hid hm
  clear J3 I3 hm hs3
  by_cases n3 : R < 0
  all_goals
    go_enter Try.func20, Try.ntmps20
    go_wp2_with fail
    refine JJ1.out.mono ?_; rintro e w1 ⟨rfl, b1⟩
    have L1 := bl_trans L0 b1
    replace B : Blk w1 w.heap.size _ _ := Blk.keep B b1
    have p1 := B.cell
    go_wp2_with fail
    refine (JJ2.out _ ((hP.below L1 (Nat.le_refl _)).more (Nat.le_refl _) L1.size)).mono ?_; rintro e w2 ⟨rfl, b2⟩
    have L2 := bl_trans L1 b2
    replace B : Blk w2 w.heap.size _ _ := Blk.keep B b2
    have p2 := B.cell
    clear p1
    go_wp2_with fail
    refine (JJ3.out _ ((hQ.below L2 (Nat.le_refl _)).more (Nat.le_refl _) L2.size)).mono ?_; rintro e w3 ⟨rfl, b3⟩
    go_wp2_with fail
    go_ret
  · exact ⟨ret_int (HM.out n3).symm, bl_trans L2 b3⟩
  · exact ⟨rfl, bl_trans L2 b3⟩

set_option maxHeartbeats 4000000 in
theorem szStmtS_step (fr : St) (A : Option Addr) (c : Nat) (left : Int) (w : World) (hl : fr.len ≤ 9223372036854775807) (hq : StOk qStmt qExpr fr) (h0 : 0 ≤ left) (h1 : left ≤ 1048576) (hS : SlS w 0 w.heap.size A fr)
    (ih : ∀ (fr' : St), fr'.size < fr.size → fr'.len ≤ 9223372036854775807 → StOk qStmt qExpr fr' → ∀ (A : Option Addr) (c : Nat) (left : Int) (w : World), 0 ≤ left → left ≤ 1048576 → SlS w 0 w.heap.size A fr' → Calls Try.prog 66 #[.slice A fr'.len c, .int .i64 left] w fun e w' => e = .returned (.int .i64 (left_ left (wtS gExpr fr'))) ∧ Below w.heap.size w w') :
    Calls Try.prog 66 #[.slice A fr.len c, .int .i64 left] w fun e w' => e = .returned (.int .i64 (left_ left (wtS gExpr fr))) ∧ Below w.heap.size w w' := by
  have hlw := len_wtS gExpr fr
  by_cases hc : left - (fr.len : Int) < 0
  · rw [left_is (by omega)]
    go_enter Try.func66, Try.ntmps66
    go_wp2_with fail
    go_ret
    exact ⟨rfl, Below.refl _ _⟩
  · obtain ⟨R, hR⟩ : ∃ R, left_ left (wtS gExpr fr) = R := ⟨_, rfl⟩
    rw [hR]
    have HR := Lib.hid hR
    have IH := Lib.hid ih
    have HQ := Lib.hid hq
    clear hR ih hq
    go_enter Try.func66, Try.ntmps66
    go_wp2_with fail
    go_loopw [1, 5] (fun l i wr => ∃ (k : Nat) (y : Int), k ≤ fr.len ∧ i = .int .i64 k ∧ l = .int .i64 y ∧ 0 ≤ y ∧ y ≤ 1048576 ∧ left_ (y + (fr.drop k).len) (wtS gExpr (fr.drop k)) = R ∧ Below w.heap.size w wr) (fun _ i _ => fr.len - (intOf i).toNat)
    case atStart => exact ⟨0, _, Nat.zero_le _, rfl, rfl, by omega, by omega, by rw [St.drop_zero, Int.sub_add_cancel]; exact HR.out, Below.refl _ _⟩
    case round =>
      obtain ⟨k, y, hk, rfl, rfl, hy0, hy1, hE, hL⟩ := hrel
      by_cases hlt : k < fr.len
      · obtain ⟨b, o, a, x, p, q, X, cx, P, cp, Q, cq, rfl, _, hb, hd, hks, ⟨hX, hP, hQ⟩, q0, q1, q2, q3, q4, q5⟩ := (hS.below hL (Nat.le_refl _)).at_ hlt
        have hlt' : (k : Int) < (fr.len : Int) := by omega
        have hqk := StOk.drop k HQ.out
        rw [hd] at hE hqk
        obtain ⟨⟨hqa, hxl, hpl, hql⟩, hqx, hqp, hqq, _⟩ := hqk
        obtain ⟨zk, zs, zt⟩ := a
        have hlr := len_wtS gExpr (fr.drop (k + 1))
        have C := szStmt_of zk zs zt x p q X cx P cp Q cq y wr hqa hy0 hy1 (hX.more (Nat.le_refl _) hL.size) (hP.more (Nat.le_refl _) hL.size) (hQ.more (Nat.le_refl _) hL.size) (fun w' left h0 h1 h => szExprS_any x.size x (Nat.le_refl _) hxl hqx X cx left w' h0 h1 h) (fun w' left h0 h1 h => IH.out p (by omega) hpl hqp P cp left w' h0 h1 h) (fun w' left h0 h1 h => IH.out q (by omega) hql hqq Q cq left w' h0 h1 h)
        simp only [St.len, wtS] at hE
        obtain ⟨n, hn⟩ : ∃ n, zs.size + zt.size + wt gExpr x + wtS gExpr p + wtS gExpr q = n := ⟨_, rfl⟩
        rw [hn] at C
        have hE2 : left_ (y + (((fr.drop (k + 1)).len + 1 : Nat) : Int)) (1 + n + wtS gExpr (fr.drop (k + 1))) = R := by
          rw [← hE, ← hn]
          congr 1
          omega
        obtain ⟨z, hz⟩ : ∃ z, left_ y n = z := ⟨_, rfl⟩
        rw [hz] at C
        have CC := Lib.hid C
        clear C hd hE hn
        simp only at q0 q1 q2
        by_cases hs : z < 0
        · have hR1 : R = -1 := by
            rw [← hE2]
            have := (left_neg (by rw [hz]; exact hs)).2
            exact left_is (by omega)
          clear hE2 HR hz
          subst hR1
          go_wp2_with fail
          refine CC.out.mono ?_; rintro e w1 ⟨rfl, b1⟩
          go_wp2_with fail
          go_ret
          exact ⟨rfl, bl_trans hL b1⟩
        · have hp := left_pos (by rw [hz]; exact hs)
          rw [hz] at hp
          have hR1 : left_ (z + (fr.drop (k + 1)).len) (wtS gExpr (fr.drop (k + 1))) = R := by
            rw [← hE2]
            unfold left_
            rw [show y + (((fr.drop (k + 1)).len + 1 : Nat) : Int) - ((1 + n + wtS gExpr (fr.drop (k + 1)) : Nat) : Int) = z + ((fr.drop (k + 1)).len : Nat) - (wtS gExpr (fr.drop (k + 1)) : Nat) by omega]
          have H1 := Lib.hid hR1
          have hz0 : 0 ≤ z ∧ z ≤ 1048576 := by omega
          clear hE2 HR hz hR1 hp
          go_wp2_with fail
          refine CC.out.mono ?_; rintro e w1 ⟨rfl, b1⟩
          go_wp2_with fail
          go_roundw
          case rel => exact ⟨k + 1, z, by omega, by go_num, rfl, by omega, by omega, H1.out, bl_trans hL b1⟩
          case measure => simp [intOf]; omega
      · obtain rfl : k = fr.len := by omega
        rw [St.drop_all] at hE
        have h00 : left_ (y + ((0 : Nat) : Int)) 0 = y := by unfold left_; rw [if_neg (by omega)]; omega
        have hE' : y = R := h00.symm.trans hE
        subst hE'
        clear hE HR
        go_wp2_with fail
        go_ret
        exact ⟨rfl, hL⟩
theorem szStmtS_any (N : Nat) : ∀ (fr : St), fr.size ≤ N → fr.len ≤ 9223372036854775807 → StOk qStmt qExpr fr → ∀ (A : Option Addr) (c : Nat) (left : Int) (w : World), 0 ≤ left → left ≤ 1048576 → SlS w 0 w.heap.size A fr →
    Calls Try.prog 66 #[.slice A fr.len c, .int .i64 left] w fun e w' => e = .returned (.int .i64 (left_ left (wtS gExpr fr))) ∧ Below w.heap.size w w' := by
  induction N with
  | zero =>
    intro fr hs hl hq A c left w h0 h1 hS
    obtain rfl := St.size_pos (Nat.le_zero.1 hs)
    exact szStmtS_step .nil A c left w hl hq h0 h1 hS (fun fr' h => by simp [St.size] at h)
  | succ N ih =>
    intro fr hs hl hq A c left w h0 h1 hS
    exact szStmtS_step fr A c left w hl hq h0 h1 hS (fun fr' h hl hq A c left w h0 h1 hk => ih fr' (by omega) hl hq A c left w h0 h1 hk)

end Go.Proofs.Ytblmoakipebicaa
