/- Arguments that are Exprs, or rows of them, opened. No condition. -/
import Derived.Test.YtblmoakipebicaaLift
import Derived.Test.YtblmoakipebicaaOpenR
import Derived.Test.YtblmoakipebicaaExprSz
namespace Go.Proofs.Ytblmoakipebicaa
open Go.ChangeShapes Go.WideShapes Go.ChangeAt Go.RowKit

/-- What a Expr's cells are. -/
def ElExpr (W : World) (cs : List Value) : Prop := ∃ (a : (Int × Int × ByteArray)) (A : Option Addr) (c : Nat) (kids : Fr (Int × Int × ByteArray)), cs = exprC a ++ [.slice A kids.len c] ∧ Sl exprC W 0 W.heap.size A kids ∧ kids.len ≤ 9223372036854775807 ∧ FrOk qExpr kids ∧ qExpr a
theorem elExpr_of {H : Type} {enc : TypeId × Value → H} (W : World) (fuel : Nat)
    (I : ∀ n, n < fuel → ∀ v x, DataW.trod enc Try.checked.prog W 0 (fun _ => true) true n 22 [v] = some x → ∃ (A : Option Addr) (c : Nat) (fr : Fr (Int × Int × ByteArray)), v = .slice A fr.len c ∧ Sl exprC W 0 W.heap.size A fr ∧ fr.len ≤ 9223372036854775807 ∧ FrOk qExpr fr)
    (cs : List Value) (y : DataW H × List MemPlace) (h : DataW.trod enc Try.checked.prog W 0 (fun _ => true) true fuel 24 cs = some y) : ElExpr W cs := by
  obtain ⟨n', hn, hcl, hf⟩ := trod_fields Try.underlying24 (by kernel_rfl) h
  obtain ⟨c0, c1, c2, c3, rfl⟩ := len_4 (hcl.trans (by kernel_rfl) : cs.length = 4)
  obtain ⟨y0, h0⟩ := hf 0 _ rfl c0 rfl
  obtain ⟨x0, e0, _, w0⟩ := DataW.trod_int Try.underlying3 h0
  simp only [List.cons.injEq, and_true] at e0
  subst e0
  obtain ⟨y1, h1⟩ := hf 1 _ rfl c1 rfl
  obtain ⟨x1, e1, _, w1⟩ := DataW.trod_int Try.underlying3 h1
  simp only [List.cons.injEq, and_true] at e1
  subst e1
  obtain ⟨y2, h2⟩ := hf 2 _ rfl c2 rfl
  obtain ⟨x2, e2, _, w2⟩ := DataW.trod_string Try.underlying9 h2
  simp only [List.cons.injEq, and_true] at e2
  subst e2
  obtain ⟨y3, h3⟩ := hf 3 _ rfl c3 rfl
  obtain ⟨A, c, kids, rfl, hS, hl, hq⟩ := I n' (by omega) c3 y3 h3
  exact ⟨(x0, x1, x2), A, c, kids, rfl, hS, hl, hq, by unfold maxLen at w2; exact w2⟩
theorem open_frExpr {H : Type} {enc : TypeId × Value → H} (W : World) : ∀ (N fuel : Nat), fuel ≤ N → ∀ (v : Value) (x : DataW H × List MemPlace), DataW.trod enc Try.checked.prog W 0 (fun _ => true) true fuel 22 [v] = some x →
    ∃ (A : Option Addr) (c : Nat) (fr : Fr (Int × Int × ByteArray)), v = .slice A fr.len c ∧ Sl exprC W 0 W.heap.size A fr ∧ fr.len ≤ 9223372036854775807 ∧ FrOk qExpr fr := by
  intro N
  induction N with
  | zero =>
    intro fuel hN v x h
    obtain rfl := Nat.le_zero.1 hN
    simp [DataW.trod] at h
  | succ N ih =>
    intro fuel hN v x h
    obtain ⟨A, c, l, rfl, hR, hQ, hl⟩ := open_rows (Q := fun x : (Int × Int × ByteArray) × Value => ∃ (A : Option Addr) (c : Nat) (kids : Fr (Int × Int × ByteArray)), x.2 = .slice A kids.len c ∧ Sl exprC W 0 W.heap.size A kids ∧ kids.len ≤ 9223372036854775807 ∧ FrOk qExpr kids ∧ qExpr x.1) (rC_len exprC_len) (by omega) Try.underlying22 (e := 24) (by kernel_rfl) (fun n cs y hn _ hy => by
      obtain ⟨a, A, c, kids, rfl, h1, h2, h3, h4⟩ := elExpr_of W n (fun n' hn' => ih n' (by omega)) cs y hy
      exact ⟨(a, .slice A kids.len c), ⟨A, c, kids, rfl, h1, h2, h3, h4⟩, rfl⟩) h
    obtain ⟨fr, hlen, hF, hok⟩ := fr_of_list l hQ
    rw [← hlen] at hR hl ⊢
    refine ⟨A, c, fr, rfl, fun hp => ?_, hl, hok⟩
    obtain ⟨b, o, e, hb, hc⟩ := hR.2 hp
    exact ⟨b, o, e, Nat.zero_le _, hb, FrIn.of_fits fr l b o hlen.symm hF hc⟩
set_option maxRecDepth 100000 in
theorem open_trExpr {H : Type} {enc : TypeId × Value → H} (W : World) {r : Reach} {b0 : Nat} (v : Value) (d : DataW H) (ps : List MemPlace) (hval : Value.okWide Try.checked.prog W r b0 24 v) (h : DataW.Trod enc Try.checked.prog W 0 (fun _ => true) true 24 v d ps) :
    ∃ (zk : Int) (zn : Int) (zs : ByteArray) (A : Option Addr) (c : Nat) (kids : Fr (Int × Int × ByteArray)), v = .agg #[.int .i64 zk, .int .i64 zn, .string zs, .slice A kids.len c] ∧ Sl exprC W 0 W.heap.size A kids ∧ kids.len ≤ 9223372036854775807 ∧ FrOk qExpr kids ∧ zs.size ≤ 9223372036854775807 := by
  obtain ⟨cs, fuel, rfl, hf⟩ := open_cells Try.underlying24 hval h
  obtain ⟨a, A, c, kids, e, h1, h2, h3, h4⟩ := elExpr_of W fuel (fun n hn => open_frExpr W n n (Nat.le_refl _)) _ _ hf
  obtain ⟨zk, zn, zs⟩ := a
  exact ⟨zk, zn, zs, A, c, kids, congrArg Value.agg (Array.toList_inj.1 (e.trans rfl)), h1, h2, h3, h4⟩

end Go.Proofs.Ytblmoakipebicaa
