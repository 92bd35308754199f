/- Walk over the reference's draws of rows of statements: l9List. -/
import Derived.Test.YtalnkdbmbjplpaaS9a
namespace Go.Proofs.Ytalnkdbmbjplpaa
open Go.RowKit

set_option maxRecDepth 20000 in
set_option maxHeartbeats 4000000 in
theorem dList9_of (m : Nat) (_ : m ≤ 100000) (D : Int) (fn : Bool) (B g : Nat) (U : Nat → Prop) (w : World) (hC : Cu B g U w)
    (ih : ∀ (U : Nat → Prop) w, Cu B g U w → Calls Try.prog 32 #[.pointer (some ⟨g, 0, none⟩), .int .i64 D, .bool fn] w fun e w' => RSt m B g U w e w') :
    Calls Try.prog 34 #[.pointer (some ⟨g, 0, none⟩), .int .i64 D, .bool fn] w fun e w' => ROpL (3 * (m + 1)) B g U w e w' := by
  have IH := Lib.hid ih
  clear ih
  obtain ⟨j0, hj, hy0, hy1, hy2⟩ := info_parts info_St9
  have C0 := hC.alloc (.cells #[] 31)
  have G0 := (Gro.refl g U w).alloc (.cells #[] 31)
  have O0 : RA g U (w.alloc (.cells #[] 31)) w.heap.size (.slice (some ⟨w.heap.size, 0, none⟩) 0 0) [] [] := ⟨⟨World.ownsRow_made w #[] 0 (Nat.le_refl _) (by unfold maxLen; omega) (by simp), fun b hb => by simp [Value.ownBlock] at hb; subst hb; exact hC.fresh (Nat.le_refl _), hC.lt⟩, FitT.nil _ _⟩
  go_enter Try.func34, Try.ntmps34
  go_wp2_with fail
  refine (cBelow 3 C0 (by omega)).mono ?_; rintro e w1 ⟨⟨z, rfl, hz0, hz1, _⟩, C1, G1⟩
  have hz2 := hz1 (by omega)
  obtain ⟨q0, rfl⟩ := Int.eq_ofNat_of_zero_le hz0
  clear hz0 hz1
  have O1 := O0.gro C0 G1
  replace G1 := G0.trans G1
  clear O0 C0 G0
  have ew : IntKind.i64.wrap (1 + (q0 : Int)) = ((q0 + 1 : Nat) : Int) := by rw [IntKind.wrap_i64]; omega
  go_wp2_with fail
  go_loopw [7, 8] (fun out i wr => ∃ (q : Nat) (L : List TS) (l : List VS) (U1 : Nat → Prop), i = .int .i64 q ∧ L.length + q ≤ 3 ∧ RA g U1 wr w.heap.size out L l ∧ Hid (∀ y ∈ L, y.2.1.size + y.2.2.1.size + y.2.2.2.size ≤ m) ∧ Cu B g U1 wr ∧ Gro g U w U1 wr) (fun _ i _ => (intOf i).toNat)
  case atStart => exact ⟨q0 + 1, [], [], U, rfl, by simp; omega, O1, fun x hx => (by cases hx), C1, G1⟩
  case round =>
    clear O1 C1 G1
    obtain ⟨q, L, l, U1, rfl, hq, O, HL, C, G⟩ := hrel
    obtain ⟨Av, cv, rfl⟩ := O.form
    have hll : l.length ≤ 3 := by rw [O.2.1]; omega
    by_cases h0 : q = 0
    · subst h0
      have HS := Lib.hid (show (mkSt L).size ≤ 3 * (m + 1) from Nat.le_trans (size_mkS L HL.out) (Nat.mul_le_mul_right _ (by omega)))
      go_wp2_with fail
      go_ret
      exact ⟨_, L, l, U1, rfl, HS.out, O, C, G⟩
    · have hq0 : (0 : Int) < (q : Int) := by omega
      have hqw : IntKind.i64.wrap ((q : Int) - 1) = ((q - 1 : Nat) : Int) := by rw [IntKind.wrap_i64]; omega
      have HQ := Lib.hid hq
      clear hq
      go_wp2_with fail
      refine (IH.out _ _ C).mono ?_; rintro e w5 ⟨k, s, t, x, p, qs, X, A, Q, cx, ca, cq, U5, rfl, hsz, SX, SA, SQ, C5, G5⟩
      replace O := O.gro C G5
      replace G := G.trans G5
      have hgs := G.sz
      clear C
      have HZ := Lib.hid hsz
      clear hsz
      go_wp2_with (at_builtin; refine wpList_pushB rfl _ _ 29 rfl w.heap.size 31 j0 (.agg #[.int .i64 0, .string ⟨#[]⟩, .string ⟨#[]⟩, .slice none 0 0, .slice none 0 0, .slice none 0 0]) 6 112 Try.underlying29 hj hy0 hy1 hy2 rfl (by decide) (Value.slice Av l.length cv) _ _ rfl O.1.1 [.int .i64 k, .string s, .string t, .slice X x.len cx, .slice A p.len ca, .slice Q qs.len cq] rfl rfl rfl (by omega) (by omega) (by omega) ?_)
      intro v' w7 hO7 hg7 hv7
      obtain ⟨A7, c7, rfl⟩ := (Row.mk hO7).form
      have hb7 := fun k e => (O.1.lt k e).1
      have F7 := (O.2.snoc (a := (k, s, t)) (cx := cx) (ca := ca) (cb := cq) SX SA SQ).row C5 hg7 O.1.2.1
      have G7 := G.row hg7 hb7
      have O7 := O.1.push C5 hO7 hv7
      have C7 := C5.row hg7 (fun k e => by have := hb7 k e; have := hC.lt; omega)
      have O8 : Rw g U5 w7 w.heap.size 31 6 (Value.slice A7 (l.length + 1) c7) (l ++ [((k, s, t), Value.slice X x.len cx, Value.slice A p.len ca, Value.slice Q qs.len cq)]).length (flat sC (l ++ [((k, s, t), Value.slice X x.len cx, Value.slice A p.len ca, Value.slice Q qs.len cq)])) := by
        rw [List.length_append, ← flat_snoc]
        exact O7
      go_wp2_with fail
      go_roundw
      case rel => exact ⟨q - 1, _, _, U5, by go_num, by have := HQ.out; rw [List.length_append]; simp; omega, ⟨O8, F7⟩, fun y hy => by rcases List.mem_append.1 hy with h | h; exact HL.out y h; (rw [List.mem_singleton.1 h]; exact HZ.out), C7, G7⟩
      case measure => (simp [intOf] <;> omega)

end Go.Proofs.Ytalnkdbmbjplpaa
