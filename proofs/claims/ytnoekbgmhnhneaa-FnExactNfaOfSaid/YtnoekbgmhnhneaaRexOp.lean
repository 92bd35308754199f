/- Arguments that are Rexs, or rows of them, opened. No condition. -/
import Derived.Test.YtnoekbgmhnhneaaLift
import Derived.Test.YtnoekbgmhnhneaaOpenR
import Derived.Test.YtnoekbgmhnhneaaRexSz
namespace Go.Proofs.Ytnoekbgmhnhneaa
open Go.ChangeShapes Go.WideShapes Go.ChangeAt Go.RowKit

/-- What a Rex's cells are. -/
def ElRex (W : World) (cs : List Value) : Prop := ∃ (a : (Int × ByteArray)) (A : Option Addr) (c : Nat) (kids : Fr (Int × ByteArray)), cs = rexC a ++ [.slice A kids.len c] ∧ Sl rexC W 0 W.heap.size A kids ∧ kids.len ≤ 9223372036854775807 ∧ FrOk qRex kids ∧ qRex a
theorem elRex_of {H : Type} {enc : TypeId × Value → H} (W : World) (fuel : Nat)
    (I : ∀ n, n < fuel → ∀ v x, DataW.trod enc Try.checked.prog W 0 (fun _ => true) true n 38 [v] = some x → ∃ (A : Option Addr) (c : Nat) (fr : Fr (Int × ByteArray)), v = .slice A fr.len c ∧ Sl rexC W 0 W.heap.size A fr ∧ fr.len ≤ 9223372036854775807 ∧ FrOk qRex fr)
    (cs : List Value) (y : DataW H × List MemPlace) (h : DataW.trod enc Try.checked.prog W 0 (fun _ => true) true fuel 40 cs = some y) : ElRex W cs := by
  obtain ⟨n', hn, hcl, hf⟩ := trod_fields Try.underlying40 (by kernel_rfl) h
  obtain ⟨c0, c1, c2, rfl⟩ := len_3 (hcl.trans (by kernel_rfl) : cs.length = 3)
  obtain ⟨y0, h0⟩ := hf 0 _ rfl c0 rfl
  obtain ⟨x0, e0, _, w0⟩ := DataW.trod_int Try.underlying3 h0
  simp only [List.cons.injEq, and_true] at e0
  subst e0
  obtain ⟨y1, h1⟩ := hf 1 _ rfl c1 rfl
  obtain ⟨x1, e1, _, w1⟩ := DataW.trod_string Try.underlying9 h1
  simp only [List.cons.injEq, and_true] at e1
  subst e1
  obtain ⟨y2, h2⟩ := hf 2 _ rfl c2 rfl
  obtain ⟨A, c, kids, rfl, hS, hl, hq⟩ := I n' (by omega) c2 y2 h2
  exact ⟨(x0, x1), A, c, kids, rfl, hS, hl, hq, by unfold maxLen at w1; exact w1⟩
theorem open_frRex {H : Type} {enc : TypeId × Value → H} (W : World) : ∀ (N fuel : Nat), fuel ≤ N → ∀ (v : Value) (x : DataW H × List MemPlace), DataW.trod enc Try.checked.prog W 0 (fun _ => true) true fuel 38 [v] = some x →
    ∃ (A : Option Addr) (c : Nat) (fr : Fr (Int × ByteArray)), v = .slice A fr.len c ∧ Sl rexC W 0 W.heap.size A fr ∧ fr.len ≤ 9223372036854775807 ∧ FrOk qRex fr := by
  intro N
  induction N with
  | zero =>
    intro fuel hN v x h
    obtain rfl := Nat.le_zero.1 hN
    simp [DataW.trod] at h
  | succ N ih =>
    intro fuel hN v x h
    obtain ⟨A, c, l, rfl, hR, hQ, hl⟩ := open_rows (Q := fun x : (Int × ByteArray) × Value => ∃ (A : Option Addr) (c : Nat) (kids : Fr (Int × ByteArray)), x.2 = .slice A kids.len c ∧ Sl rexC W 0 W.heap.size A kids ∧ kids.len ≤ 9223372036854775807 ∧ FrOk qRex kids ∧ qRex x.1) (rC_len rexC_len) (by omega) Try.underlying38 (e := 40) (by kernel_rfl) (fun n cs y hn _ hy => by
      obtain ⟨a, A, c, kids, rfl, h1, h2, h3, h4⟩ := elRex_of W n (fun n' hn' => ih n' (by omega)) cs y hy
      exact ⟨(a, .slice A kids.len c), ⟨A, c, kids, rfl, h1, h2, h3, h4⟩, rfl⟩) h
    obtain ⟨fr, hlen, hF, hok⟩ := fr_of_list l hQ
    rw [← hlen] at hR hl ⊢
    refine ⟨A, c, fr, rfl, fun hp => ?_, hl, hok⟩
    obtain ⟨b, o, e, hb, hc⟩ := hR.2 hp
    exact ⟨b, o, e, Nat.zero_le _, hb, FrIn.of_fits fr l b o hlen.symm hF hc⟩
set_option maxRecDepth 100000 in
theorem open_trRex {H : Type} {enc : TypeId × Value → H} (W : World) {r : Reach} {b0 : Nat} (v : Value) (d : DataW H) (ps : List MemPlace) (hval : Value.okWide Try.checked.prog W r b0 40 v) (h : DataW.Trod enc Try.checked.prog W 0 (fun _ => true) true 40 v d ps) :
    ∃ (zk : Int) (zs : ByteArray) (A : Option Addr) (c : Nat) (kids : Fr (Int × ByteArray)), v = .agg #[.int .i64 zk, .string zs, .slice A kids.len c] ∧ Sl rexC W 0 W.heap.size A kids ∧ kids.len ≤ 9223372036854775807 ∧ FrOk qRex kids ∧ zs.size ≤ 9223372036854775807 := by
  obtain ⟨cs, fuel, rfl, hf⟩ := open_cells Try.underlying40 hval h
  obtain ⟨a, A, c, kids, e, h1, h2, h3, h4⟩ := elRex_of W fuel (fun n hn => open_frRex W n n (Nat.le_refl _)) _ _ hf
  obtain ⟨zk, zs⟩ := a
  exact ⟨zk, zs, A, c, kids, congrArg Value.agg (Array.toList_inj.1 (e.trans rfl)), h1, h2, h3, h4⟩

end Go.Proofs.Ytnoekbgmhnhneaa
