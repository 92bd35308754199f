/- Walks over the laws' toStmtS and toStmt: new rows of statements. A row has at most 1048576 nodes. -/
import Derived.Test.YtblmoakipebicaaTreeS
import Derived.Test.YtblmoakipebicaaExprTo
namespace Go.Proofs.Ytblmoakipebicaa
open Go.RowKit

theorem info_Stmt : (Try.prog.info? 39).map (fun i => (i.zero, i.size, i.bytes)) = some (some (.agg #[.int .i64 0, .string ⟨#[]⟩, .string ⟨#[]⟩, .slice none 0 0, .slice none 0 0, .slice none 0 0]), 6, 112) := by kernel_rfl
/-- It hands back a new row of statements. -/
def RetFrS (fr : St) (w : World) (e : Ending) (w' : World) : Prop := ∃ (A : Option Addr) (c : Nat), e = .returned (.slice A fr.len c) ∧ SlS w' w.heap.size w'.heap.size A fr
/-- It hands back a new statement. -/
def RetTrS (zk : Int) (zs zt : ByteArray) (x : Fr (Int × Int × ByteArray)) (p q : St) (w : World) (e : Ending) (w' : World) : Prop := ∃ (X : Option Addr) (cx : Nat) (P : Option Addr) (cp : Nat) (Q : Option Addr) (cq : Nat), e = .returned (.agg #[.int .i64 zk, .string zs, .string zt, .slice X x.len cx, .slice P p.len cp, .slice Q q.len cq]) ∧ Sl exprC w' w.heap.size w'.heap.size X x ∧ SlS w' w.heap.size w'.heap.size P p ∧ SlS w' w.heap.size w'.heap.size Q q

set_option maxHeartbeats 4000000 in
theorem toStmt_of (zk : Int) (zs zt : ByteArray) (x : Fr (Int × Int × ByteArray)) (p q : St) (X : Option Addr) (cx : Nat) (P : Option Addr) (cp : Nat) (Q : Option Addr) (cq : Nat) (w : World) (hX : Sl exprC w 0 w.heap.size X x) (hP : SlS w 0 w.heap.size P p) (hQ : SlS w 0 w.heap.size Q q)
    (I1 : ∀ w', Sl exprC w' 0 w'.heap.size X x → Calls Try.prog 63 #[.slice X x.len cx] w' fun e w'' => RetFr_Expr x w' e w'' ∧ Below w'.heap.size w' w'')
    (I2 : ∀ w', SlS w' 0 w'.heap.size P p → Calls Try.prog 68 #[.slice P p.len cp] w' fun e w'' => RetFrS p w' e w'' ∧ Below w'.heap.size w' w'')
    (I3 : ∀ w', SlS w' 0 w'.heap.size Q q → Calls Try.prog 68 #[.slice Q q.len cq] w' fun e w'' => RetFrS q w' e w'' ∧ Below w'.heap.size w' w'') :
    Calls Try.prog 22 #[.agg #[.int .i64 zk, .string zs, .string zt, .slice X x.len cx, .slice P p.len cp, .slice Q q.len cq]] w fun e w' => RetTrS zk zs zt x p q w e w' ∧ Below w.heap.size w w' := by
  have e1 := alloc_size w (.cells #[.int .i64 zk, .string zs, .string zt, .slice X x.len cx, .slice P p.len cp, .slice Q q.len cq] 34)
  have e2 := alloc_size (w.alloc (.cells #[.int .i64 zk, .string zs, .string zt, .slice X x.len cx, .slice P p.len cp, .slice Q q.len cq] 34)) (.cells #[.int .i64 0, .string ⟨#[]⟩, .string ⟨#[]⟩, .slice none 0 0, .slice none 0 0, .slice none 0 0] 39)
  have e3 := alloc_size ((w.alloc (.cells #[.int .i64 zk, .string zs, .string zt, .slice X x.len cx, .slice P p.len cp, .slice Q q.len cq] 34)).alloc (.cells #[.int .i64 0, .string ⟨#[]⟩, .string ⟨#[]⟩, .slice none 0 0, .slice none 0 0, .slice none 0 0] 39)) (.cells #[.int .i64 zk, .string zs, .string zt, .slice none 0 0, .slice none 0 0, .slice none 0 0] 39)
  have B0 := ((Blk.new w 34 #[.int .i64 zk, .string zs, .string zt, .slice X x.len cx, .slice P p.len cp, .slice Q q.len cq]).alloc (.cells #[.int .i64 0, .string ⟨#[]⟩, .string ⟨#[]⟩, .slice none 0 0, .slice none 0 0, .slice none 0 0] 39)).alloc (.cells #[.int .i64 zk, .string zs, .string zt, .slice none 0 0, .slice none 0 0, .slice none 0 0] 39)
  have B1 := (Blk.new2 w (.cells #[.int .i64 zk, .string zs, .string zt, .slice X x.len cx, .slice P p.len cp, .slice Q q.len cq] 34) 39 #[.int .i64 0, .string ⟨#[]⟩, .string ⟨#[]⟩, .slice none 0 0, .slice none 0 0, .slice none 0 0]).alloc (.cells #[.int .i64 zk, .string zs, .string zt, .slice none 0 0, .slice none 0 0, .slice none 0 0] 39)
  have B2 := Blk.new2 (w.alloc (.cells #[.int .i64 zk, .string zs, .string zt, .slice X x.len cx, .slice P p.len cp, .slice Q q.len cq] 34)) (.cells #[.int .i64 0, .string ⟨#[]⟩, .string ⟨#[]⟩, .slice none 0 0, .slice none 0 0, .slice none 0 0] 39) 39 #[.int .i64 zk, .string zs, .string zt, .slice none 0 0, .slice none 0 0, .slice none 0 0]
  have L0 := bl_alloc (bl_alloc (bl_alloc (Below.refl w.heap.size w) (.cells #[.int .i64 zk, .string zs, .string zt, .slice X x.len cx, .slice P p.len cp, .slice Q q.len cq] 34)) (.cells #[.int .i64 0, .string ⟨#[]⟩, .string ⟨#[]⟩, .slice none 0 0, .slice none 0 0, .slice none 0 0] 39)) (.cells #[.int .i64 zk, .string zs, .string zt, .slice none 0 0, .slice none 0 0, .slice none 0 0] 39)
  rw [e1] at B2
  go_enter Try.func22, Try.ntmps22
  go_wp2_with fail
  generalize ((w.alloc (.cells #[.int .i64 zk, .string zs, .string zt, .slice X x.len cx, .slice P p.len cp, .slice Q q.len cq] 34)).alloc (.cells #[.int .i64 0, .string ⟨#[]⟩, .string ⟨#[]⟩, .slice none 0 0, .slice none 0 0, .slice none 0 0] 39)).alloc (.cells #[.int .i64 zk, .string zs, .string zt, .slice none 0 0, .slice none 0 0, .slice none 0 0] 39) = W at B0 B1 B2 L0 e3 ⊢
  refine (I1 _ ((hX.below L0 (Nat.le_refl _)).more (Nat.le_refl _) L0.size)).mono ?_; rintro e w1 ⟨⟨X1, c1, rfl, hX1⟩, d1⟩
  replace B0 : Blk w1 (w.heap.size) _ _ := Blk.keep B0 d1
  replace B1 : Blk w1 (w.heap.size + 1) _ _ := Blk.keep B1 d1
  replace B2 : Blk w1 (w.heap.size + 1 + 1) _ _ := Blk.keep B2 d1
  have sd1 := d1.size
  have f2 := B2.frozen
  have p2 := B2.cell
  have p0 := (B0.farb (b := w.heap.size + 1 + 1) (j := 3) (by omega) (.slice X1 x.len c1)).cell
  go_wp2_with fail
  clear p0 p2 f2
  replace B0 := B0.farb (b := w.heap.size + 1 + 1) (j := 3) (by omega) (.slice X1 x.len c1)
  replace B1 := B1.farb (b := w.heap.size + 1 + 1) (j := 3) (by omega) (.slice X1 x.len c1)
  replace B2 := B2.set_ 3 (.slice X1 x.len c1)
  have L1 := bl_setb (b := w.heap.size + 1 + 1) (j := 3) (bl_trans L0 d1) (by omega) (.slice X1 x.len c1)
  replace hX1 := hX1.setb (b := w.heap.size + 1 + 1) (j := 3) (.inl (by omega)) (.slice X1 x.len c1)
  have g1 : (w1.setCell ⟨w.heap.size + 1 + 1, 3, none⟩ (.slice X1 x.len c1)).heap.size = w1.heap.size := by simp
  generalize w1.setCell ⟨w.heap.size + 1 + 1, 3, none⟩ (.slice X1 x.len c1) = v1 at B0 B1 B2 L1 g1 hX1 ⊢
  refine (I2 _ ((hP.below L1 (Nat.le_refl _)).more (Nat.le_refl _) L1.size)).mono ?_; rintro e w2 ⟨⟨P1, c2, rfl, hP1⟩, d2⟩
  replace B0 : Blk w2 (w.heap.size) _ _ := Blk.keep B0 d2
  replace B1 : Blk w2 (w.heap.size + 1) _ _ := Blk.keep B1 d2
  replace B2 : Blk w2 (w.heap.size + 1 + 1) _ _ := Blk.keep B2 d2
  have sd2 := d2.size
  replace hX1 := hX1.below d2 (by omega)
  have f2 := B2.frozen
  have p2 := B2.cell
  have p0 := (B0.farb (b := w.heap.size + 1 + 1) (j := 4) (by omega) (.slice P1 p.len c2)).cell
  go_wp2_with fail
  clear p0 p2 f2
  replace B0 := B0.farb (b := w.heap.size + 1 + 1) (j := 4) (by omega) (.slice P1 p.len c2)
  replace B1 := B1.farb (b := w.heap.size + 1 + 1) (j := 4) (by omega) (.slice P1 p.len c2)
  replace B2 := B2.set_ 4 (.slice P1 p.len c2)
  have L2 := bl_setb (b := w.heap.size + 1 + 1) (j := 4) (bl_trans L1 d2) (by omega) (.slice P1 p.len c2)
  replace hX1 := hX1.setb (b := w.heap.size + 1 + 1) (j := 4) (.inl (by omega)) (.slice P1 p.len c2)
  replace hP1 := hP1.setb (b := w.heap.size + 1 + 1) (j := 4) (.inl (by omega)) (.slice P1 p.len c2)
  have g2 : (w2.setCell ⟨w.heap.size + 1 + 1, 4, none⟩ (.slice P1 p.len c2)).heap.size = w2.heap.size := by simp
  generalize w2.setCell ⟨w.heap.size + 1 + 1, 4, none⟩ (.slice P1 p.len c2) = v2 at B0 B1 B2 L2 g2 hX1 hP1 ⊢
  refine (I3 _ ((hQ.below L2 (Nat.le_refl _)).more (Nat.le_refl _) L2.size)).mono ?_; rintro e w3 ⟨⟨Q1, c3, rfl, hQ1⟩, d3⟩
  replace B0 : Blk w3 (w.heap.size) _ _ := Blk.keep B0 d3
  replace B1 : Blk w3 (w.heap.size + 1) _ _ := Blk.keep B1 d3
  replace B2 : Blk w3 (w.heap.size + 1 + 1) _ _ := Blk.keep B2 d3
  have sd3 := d3.size
  replace hX1 := hX1.below d3 (by omega)
  replace hP1 := hP1.below d3 (by omega)
  have f2 := B2.frozen
  have p2 := B2.cell
  have p1 := B1.cell
  have f1 := B1.frozen
  go_wp2_with fail
  exact bodyPost_ret (res_cell1 rfl _ _ _ _ _ _ rfl ((((((((B1.farb (b := w.heap.size + 1 + 1) (j := 5) (by omega) _).set_ 0 _).set_ 1 _).set_ 2 _).set_ 3 _).set_ 4 _).set_ 5 _)) Try.underlying39 (by kernel_rfl)) rfl ⟨⟨X1, c1, P1, c2, Q1, c3, rfl, (((((((hX1.setb (.inl (by omega)) _).setb (.inl (by omega)) _).setb (.inl (by omega)) _).setb (.inl (by omega)) _).setb (.inl (by omega)) _).setb (.inl (by omega)) _).setb (.inl (by omega)) _).more (by omega) (by simp; omega), (((((((hP1.setb (.inl (by omega)) _).setb (.inl (by omega)) _).setb (.inl (by omega)) _).setb (.inl (by omega)) _).setb (.inl (by omega)) _).setb (.inl (by omega)) _).setb (.inl (by omega)) _).more (by omega) (by simp; omega), (((((((hQ1.setb (.inl (by omega)) _).setb (.inl (by omega)) _).setb (.inl (by omega)) _).setb (.inl (by omega)) _).setb (.inl (by omega)) _).setb (.inl (by omega)) _).setb (.inl (by omega)) _).more (by omega) (by simp)⟩, (bl_setb (bl_setb (bl_setb (bl_setb (bl_setb (bl_setb (bl_setb (bl_trans L2 d3) (by omega) _) (by omega) _) (by omega) _) (by omega) _) (by omega) _) (by omega) _) (by omega) _)⟩

set_option maxHeartbeats 4000000 in
theorem toStmtS_step (fr : St) (A : Option Addr) (c : Nat) (w : World) (hn : fr.size ≤ 1048576) (hS : SlS w 0 w.heap.size A fr)
    (ih : ∀ (fr' : St), fr'.size < fr.size → ∀ (A : Option Addr) (c : Nat) (w : World), SlS w 0 w.heap.size A fr' → Calls Try.prog 68 #[.slice A fr'.len c] w fun e w' => RetFrS fr' w e w' ∧ Below w.heap.size w w') :
    Calls Try.prog 68 #[.slice A fr.len c] w fun e w' => RetFrS fr w e w' ∧ Below w.heap.size w w' := by
  have hlz := fr.len_size
  have hn' : (fr.len : Int) ≤ 1048576 := by omega
  obtain ⟨i0, hi, hz0, hz1, hz2⟩ := info_parts info_Stmt
  obtain ⟨ys, hys⟩ : ∃ ys : List ((Int × ByteArray × ByteArray) × Value × Value × Value), ys = List.replicate fr.len ((0, ⟨#[]⟩, ⟨#[]⟩), Value.slice none 0 0, Value.slice none 0 0, Value.slice none 0 0) := ⟨_, rfl⟩
  have hyl : Hid (ys.length = fr.len) := by unfold Hid; rw [hys]; simp
  have hrep : Hid ((List.replicate fr.len [Value.int .i64 0, Value.string ⟨#[]⟩, Value.string ⟨#[]⟩, Value.slice none 0 0, Value.slice none 0 0, Value.slice none 0 0]).flatten = flat sC ys) := by
    unfold Hid
    rw [hys]
    unfold flat
    rw [List.flatMap_replicate]
    rfl
  clear hys
  have IH := Lib.hid ih
  clear ih
  go_enter Try.func68, Try.ntmps68
  go_wp2_with (at_make; refine wpList_makeN rfl _ _ 37 rfl 39 i0 (.agg #[.int .i64 0, .string ⟨#[]⟩, .string ⟨#[]⟩, .slice none 0 0, .slice none 0 0, .slice none 0 0]) 6 112 Try.underlying37 hi hz0 hz1 hz2 rfl _ _ fr.len rfl rfl (by omega) (by omega) ?_)
  intro w1 hO hL
  rw [hrep.out] at hO
  go_wp2_with fail
  go_loopw [4] (fun i wr => ∃ (k : Nat) (l : List ((Int × ByteArray × ByteArray) × Value × Value × Value)), k ≤ fr.len ∧ i = .int .i64 k ∧ l.length = fr.len ∧ FitsS wr (w.heap.size + 1) wr.heap.size fr l k ∧ w.heap.size < wr.heap.size ∧ wr.ownsRow w.heap.size 39 6 (.slice (some ⟨w.heap.size, 0, none⟩) fr.len fr.len) fr.len (flat sC l) ∧ Below w.heap.size w wr) (fun i _ => fr.len - (intOf i).toNat)
  case atStart => exact ⟨0, ys, Nat.zero_le _, rfl, hyl.out, FitsS.zero _ _, (hO.lt _ rfl).2, hO, hL⟩
  case round =>
    obtain ⟨k, l, hk, rfl, hll, hF, hgs, hOr, hLr⟩ := hrel
    have HF := Lib.hid hF
    have HLL := Lib.hid hll
    clear hF hll
    by_cases hlt : k < fr.len
    · obtain ⟨b, o, a, x, p, q, X, cx, P, cp, Q, cq, rfl, _, hb, hd, hks, ⟨hX, hP, hQ⟩, q0, q1, q2, q3, q4, q5⟩ := (hS.below hLr (Nat.le_refl _)).at_ hlt
      have hlt' : (k : Int) < (fr.len : Int) := by omega
      have hul : k < l.length := by rw [HLL.out]; exact hlt
      have hcg := fun c hc => flat_get sC_len l k hul c hc
      have HD := Lib.hid hd
      clear hd
      obtain ⟨zk, zs, zt⟩ := a
      simp only at q0 q1 q2
      have C := toStmt_of zk zs zt x p q X cx P cp Q cq wr (hX.more (Nat.le_refl _) hLr.size) (hP.more (Nat.le_refl _) hLr.size) (hQ.more (Nat.le_refl _) hLr.size) (fun w' h => toExprS_any x.size (by omega) x X cx w' (Nat.le_refl _) h) (fun w' h => IH.out p (by omega) P cp w' h) (fun w' h => IH.out q (by omega) Q cq w' h)
      have CC := Lib.hid C
      clear C
      go_wp2_with fail
      refine CC.out.mono ?_; rintro e w2 ⟨⟨X2, c2, P2, c3, Q2, c4, rfl, hX2, hP2, hQ2⟩, b2⟩
      have hO2 : w2.ownsRow _ _ _ _ _ _ := ((Row.mk hOr).keep b2).1
      have cc0 := hO2.cellAt (k * 6) (by omega)
      have cc1 := hO2.cellAt (k * 6 + 1) (by omega)
      have cc2 := hO2.cellAt (k * 6 + 2) (by omega)
      have cc3 := hO2.cellAt (k * 6 + 3) (by omega)
      have cc4 := hO2.cellAt (k * 6 + 4) (by omega)
      have cc5 := hO2.cellAt (k * 6 + 5) (by omega)
      rw [hcg 1 (by omega)] at cc1
      rw [hcg 2 (by omega)] at cc2
      rw [hcg 3 (by omega)] at cc3
      rw [hcg 4 (by omega)] at cc4
      rw [hcg 5 (by omega)] at cc5
      have h0 := hcg 0 (by omega)
      rw [Nat.add_zero] at h0
      rw [h0] at cc0
      have f0 := hO2.frozenAt (k * 6)
      have f1 := hO2.frozenAt (k * 6 + 1)
      have f2 := hO2.frozenAt (k * 6 + 2)
      have f3 := hO2.frozenAt (k * 6 + 3)
      have f4 := hO2.frozenAt (k * 6 + 4)
      have f5 := hO2.frozenAt (k * 6 + 5)
      clear h0 hcg
      have hSt := ((((((hO2.stored (k * 6) (.int .i64 zk)).1.stored (k * 6 + 1) (.string zs)).1.stored (k * 6 + 2) (.string zt)).1.stored (k * 6 + 3) (.slice X2 x.len c2)).1.stored (k * 6 + 4) (.slice P2 p.len c3)).1.stored (k * 6 + 5) (.slice Q2 q.len c4)).1
      rw [flat_set6 sC_len ((zk, zs, zt), .slice X2 x.len c2, .slice P2 p.len c3, .slice Q2 q.len c4) rfl _ k hul] at hSt
      have HS := Lib.hid hSt
      clear hSt
      have hz2 := b2.size
      have hFn := Lib.hid (FitsS.set_ (cx := c2) (cp := c3) (cq := c4) (HF.out.keep (w' := w2) (fun p h1 h2 => b2.cell h2) (Nat.le_refl _) b2.size) hul HD.out (hX2.more (by omega) (Nat.le_refl _)) (hP2.more (by omega) (Nat.le_refl _)) (hQ2.more (by omega) (Nat.le_refl _)))
      generalize l[k] = y at *
      obtain ⟨⟨yk, ys1, yt⟩, v1, v2, v3⟩ := y
      simp only [sC, stC] at cc0 cc1 cc2 cc3 cc4 cc5
      go_wp2_with fail
      go_roundw
      case rel =>
        refine ⟨k + 1, _, by omega, by go_num, by rw [List.length_set]; exact HLL.out, ?_, by simp; omega, HS.out, bl_set (bl_set (bl_set (bl_set (bl_set (bl_set (bl_trans hLr b2) (Nat.le_refl _) _) (Nat.le_refl _) _) (Nat.le_refl _) _) (Nat.le_refl _) _) (Nat.le_refl _) _) (Nat.le_refl _) _⟩
        exact ((((((hFn.out.setb (.inl (Nat.lt_succ_self _)) _).setb (.inl (Nat.lt_succ_self _)) _).setb (.inl (Nat.lt_succ_self _)) _).setb (.inl (Nat.lt_succ_self _)) _).setb (.inl (Nat.lt_succ_self _)) _).setb (.inl (Nat.lt_succ_self _)) _).keep (fun _ _ _ => rfl) (Nat.le_refl _) (by simp)
      case measure => simp [intOf]; omega
    · obtain rfl : k = fr.len := by omega
      have H := Lib.hid hOr
      clear hOr
      go_wp2_with fail
      go_ret
      refine ⟨⟨_, _, rfl, fun hp => ⟨w.heap.size, 0, rfl, Nat.le_refl _, hgs, StIn.of_fits fr l _ _ HLL.out (HF.out.keep (fun _ _ _ => rfl) (by omega) (Nat.le_refl _)) (fun j u hu => ?_)⟩⟩, hLr⟩
      have := H.out.cells rfl j u hu
      rw [add_plain] at this
      exact this
theorem toStmtS_any (N : Nat) (hN : N ≤ 1048576) : ∀ (fr : St) (A : Option Addr) (c : Nat) (w : World), fr.size ≤ N → SlS w 0 w.heap.size A fr →
    Calls Try.prog 68 #[.slice A fr.len c] w fun e w' => RetFrS fr w e w' ∧ Below w.heap.size w w' := by
  induction N with
  | zero =>
    intro fr A c w hs hS
    obtain rfl := St.size_pos (Nat.le_zero.1 hs)
    exact toStmtS_step .nil A c w (by simp [St.size]) hS (fun fr' h => by simp [St.size] at h)
  | succ N ih =>
    intro fr A c w hs hS
    exact toStmtS_step fr A c w (by omega) hS (fun fr' h A c w hk => ih (by omega) fr' A c w (by omega) hk)

end Go.Proofs.Ytblmoakipebicaa
