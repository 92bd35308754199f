/- Arguments that are statements, or rows of them, opened. No condition. -/
import Derived.Test.YtblmoakipebicaaLift
import Derived.Test.YtblmoakipebicaaOpenR
import Derived.Test.YtblmoakipebicaaStmtSz
import Derived.Test.YtblmoakipebicaaExprOp
namespace Go.Proofs.Ytblmoakipebicaa
open Go.ChangeShapes Go.WideShapes Go.ChangeAt Go.RowKit

/-- What a statement's cells are. -/
def ElStmt (W : World) (a : (Int × ByteArray × ByteArray)) (v1 v2 v3 : Value) : Prop := qStmt a ∧ ∃ (X : Option Addr) (cx : Nat) (P : Option Addr) (cp : Nat) (Q : Option Addr) (cq : Nat) (x : Fr (Int × Int × ByteArray)) (p q : St), (v1 = .slice X x.len cx ∧ v2 = .slice P p.len cp ∧ v3 = .slice Q q.len cq) ∧ (Sl exprC W 0 W.heap.size X x ∧ SlS W 0 W.heap.size P p ∧ SlS W 0 W.heap.size Q q) ∧ (x.len ≤ 9223372036854775807 ∧ p.len ≤ 9223372036854775807 ∧ q.len ≤ 9223372036854775807) ∧ FrOk qExpr x ∧ StOk qStmt qExpr p ∧ StOk qStmt qExpr q
theorem elStmt_of {H : Type} {enc : TypeId × Value → H} (W : World) (fuel : Nat)
    (I : ∀ n, n < fuel → ∀ v x, DataW.trod enc Try.checked.prog W 0 (fun _ => true) true n 32 [v] = some x → ∃ (A : Option Addr) (c : Nat) (fr : St), v = .slice A fr.len c ∧ SlS W 0 W.heap.size A fr ∧ fr.len ≤ 9223372036854775807 ∧ StOk qStmt qExpr fr)
    (cs : List Value) (y : DataW H × List MemPlace) (h : DataW.trod enc Try.checked.prog W 0 (fun _ => true) true fuel 34 cs = some y) : ∃ a v1 v2 v3, cs = stC a v1 v2 v3 ∧ ElStmt W a v1 v2 v3 := by
  obtain ⟨n', hn, hcl, hf⟩ := trod_fields Try.underlying34 (by kernel_rfl) h
  obtain ⟨c0, c1, c2, c3, c4, c5, rfl⟩ := len_6 (hcl.trans (by kernel_rfl) : cs.length = 6)
  obtain ⟨y0, h0⟩ := hf 0 _ rfl c0 rfl
  obtain ⟨x0, e0, _, w0⟩ := DataW.trod_int Try.underlying3 h0
  simp only [List.cons.injEq, and_true] at e0
  subst e0
  obtain ⟨y1, h1⟩ := hf 1 _ rfl c1 rfl
  obtain ⟨x1, e1, _, w1⟩ := DataW.trod_string Try.underlying9 h1
  simp only [List.cons.injEq, and_true] at e1
  subst e1
  obtain ⟨y2, h2⟩ := hf 2 _ rfl c2 rfl
  obtain ⟨x2, e2, _, w2⟩ := DataW.trod_string Try.underlying9 h2
  simp only [List.cons.injEq, and_true] at e2
  subst e2
  obtain ⟨y3, h3⟩ := hf 3 _ rfl c3 rfl
  obtain ⟨y4, h4⟩ := hf 4 _ rfl c4 rfl
  obtain ⟨y5, h5⟩ := hf 5 _ rfl c5 rfl
  obtain ⟨X, cx, x, rfl, hX, hxl, hxq⟩ := open_frExpr W n' n' (Nat.le_refl _) c3 y3 h3
  obtain ⟨P, cp, p, rfl, hP, hpl, hpq⟩ := I n' (by omega) c4 y4 h4
  obtain ⟨Q, cq, q, rfl, hQ, hql, hqq⟩ := I n' (by omega) c5 y5 h5
  unfold maxLen at w1 w2
  exact ⟨(x0, x1, x2), _, _, _, rfl, ⟨w1, w2⟩, X, cx, P, cp, Q, cq, x, p, q, ⟨rfl, rfl, rfl⟩, ⟨hX, hP, hQ⟩, ⟨hxl, hpl, hql⟩, hxq, hpq, hqq⟩
theorem st_of_list {W : World} : ∀ (l : List ((Int × ByteArray × ByteArray) × Value × Value × Value)), (∀ y ∈ l, ElStmt W y.1 y.2.1 y.2.2.1 y.2.2.2) → ∃ fr : St, fr.len = l.length ∧ FitsS W 0 W.heap.size fr l fr.len ∧ StOk qStmt qExpr fr
  | [], _ => ⟨.nil, rfl, FitsS.zero _ _, trivial⟩
  | y :: l, h => by
    obtain ⟨fr, h1, h2, h3⟩ := st_of_list l (fun z hz => h z (List.mem_cons_of_mem _ hz))
    obtain ⟨hqa, X, cx, P, cp, Q, cq, x, p, q, ⟨e1, e2, e3⟩, ⟨hX, hP, hQ⟩, ⟨l1, l2, l3⟩, q1, q2, q3⟩ := h y (List.mem_cons_self ..)
    obtain ⟨a, v1, v2, v3⟩ := y
    simp only at e1 e2 e3 hqa
    subst e1 e2 e3
    refine ⟨.cons a x p q fr, by simp [St.len, h1], fun i hi' => ?_, ⟨hqa, l1, l2, l3⟩, q1, q2, q3, h3⟩
    cases i with
    | zero => exact ⟨a, x, p, q, X, cx, P, cp, Q, cq, by rw [St.drop_zero]; show _ = St.cons a x p q (fr.drop 0); rw [St.drop_zero], rfl, hX, hP, hQ⟩
    | succ i =>
      obtain ⟨a', x', p', q', X', cx', P', cp', Q', cq', r1, r2, r3⟩ := h2 i (by simp [St.len] at hi'; exact hi')
      exact ⟨a', x', p', q', X', cx', P', cp', Q', cq', r1, by simpa using r2, r3⟩
theorem open_frStmt {H : Type} {enc : TypeId × Value → H} (W : World) : ∀ (N fuel : Nat), fuel ≤ N → ∀ (v : Value) (x : DataW H × List MemPlace), DataW.trod enc Try.checked.prog W 0 (fun _ => true) true fuel 32 [v] = some x → ∃ (A : Option Addr) (c : Nat) (fr : St), v = .slice A fr.len c ∧ SlS W 0 W.heap.size A fr ∧ fr.len ≤ 9223372036854775807 ∧ StOk qStmt qExpr fr := by
  intro N
  induction N with
  | zero =>
    intro fuel hN v x h
    obtain rfl := Nat.le_zero.1 hN
    simp [DataW.trod] at h
  | succ N ih =>
    intro fuel hN v x h
    obtain ⟨A, c, l, rfl, hR, hQ, hl⟩ := open_rows (Q := fun y : ((Int × ByteArray × ByteArray) × Value × Value × Value) => ElStmt W y.1 y.2.1 y.2.2.1 y.2.2.2) sC_len (by omega) Try.underlying32 (e := 34) (by kernel_rfl) (fun n cs y hn _ hy => by
      obtain ⟨a, v1, v2, v3, rfl, hE⟩ := elStmt_of W n (fun n' hn' => ih n' (by omega)) cs y hy
      exact ⟨(a, v1, v2, v3), hE, rfl⟩) h
    obtain ⟨fr, hlen, hF, hok⟩ := st_of_list l hQ
    rw [← hlen] at hR hl ⊢
    refine ⟨A, c, fr, rfl, fun hp => ?_, hl, hok⟩
    obtain ⟨b, o, e, hb, hc⟩ := hR.2 hp
    exact ⟨b, o, e, Nat.zero_le _, hb, StIn.of_fits fr l b o hlen.symm hF hc⟩
set_option maxRecDepth 100000 in
theorem open_trStmt {H : Type} {enc : TypeId × Value → H} (W : World) {r : Reach} {b0 : Nat} (v : Value) (d : DataW H) (ps : List MemPlace) (hval : Value.okWide Try.checked.prog W r b0 34 v) (h : DataW.Trod enc Try.checked.prog W 0 (fun _ => true) true 34 v d ps) :
    ∃ (zk : Int) (zs zt : ByteArray) (X : Option Addr) (cx : Nat) (P : Option Addr) (cp : Nat) (Q : Option Addr) (cq : Nat) (x : Fr (Int × Int × ByteArray)) (p q : St), v = .agg #[.int .i64 zk, .string zs, .string zt, .slice X x.len cx, .slice P p.len cp, .slice Q q.len cq] ∧ qStmt (zk, zs, zt) ∧ (Sl exprC W 0 W.heap.size X x ∧ SlS W 0 W.heap.size P p ∧ SlS W 0 W.heap.size Q q) ∧ (x.len ≤ 9223372036854775807 ∧ p.len ≤ 9223372036854775807 ∧ q.len ≤ 9223372036854775807) ∧ FrOk qExpr x ∧ StOk qStmt qExpr p ∧ StOk qStmt qExpr q := by
  obtain ⟨cs, fuel, rfl, hf⟩ := open_cells Try.underlying34 hval h
  obtain ⟨a, v1, v2, v3, e, hqa, X, cx, P, cp, Q, cq, x, p, q, ⟨e1, e2, e3⟩, hr⟩ := elStmt_of W fuel (fun n hn => open_frStmt W n n (Nat.le_refl _)) _ _ hf
  obtain ⟨zk, zs, zt⟩ := a
  subst e1 e2 e3
  exact ⟨zk, zs, zt, X, cx, P, cp, Q, cq, x, p, q, congrArg Value.agg (Array.toList_inj.1 (e.trans rfl)), hqa, hr⟩

end Go.Proofs.Ytblmoakipebicaa
