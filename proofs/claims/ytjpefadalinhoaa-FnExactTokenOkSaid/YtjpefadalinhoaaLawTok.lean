/- FnExactTokenOk: the program's TokenOk returns what the reference's returns, for all arguments. No condition. -/
import Derived.Test.YtjpefadalinhoaaLift
import Derived.Test.YtjpefadalinhoaaTokOk
import Derived.Test.YtjpefadalinhoaaMem
import Derived.Lib.SmallJoins
namespace Go.Proofs.Ytjpefadalinhoaa
open Go.ChangeShapes Go.WideShapes Go.ChangeAt Go.RowKit Go.Joins
open Go.ChangeMaps (open_string shut_string)

set_option maxHeartbeats 400000 in
theorem FnExactTokenOk_walk (k n : Int) (s : ByteArray) (w : World) (hs : s.size ≤ 9223372036854775807) :
    Calls Try.prog 7 #[.agg #[.int .i64 k, .int .i64 n, .string s]] w fun e w' => e = .returned (.bool true) ∧ Below w.heap.size w w' := by
  have B0 := Blk.new w 33 #[.int .i64 k, .int .i64 n, .string s]
  by_cases hc : szStr 1048576 s < 0
  · go_enter Try.func7, Try.ntmps7
    go_wp2_with fail
    refine (szToken_any k n 1048576 s _ hs (by omega) (by omega)).mono ?_; rintro e w1 ⟨rfl, hb1⟩
    go_wp2_with fail
    go_ret
    exact ⟨rfl, by repeat (first | exact Below.refl _ _ | refine bl_drewN ?_ _ | refine Below.drew ?_ | refine bl_alloc ?_ _ | refine bl_set ?_ (by simp) _ | refine bl_trans ?_ (by assumption))⟩
  · have hsz : s.size ≤ 1048576 := by unfold szStr at hc; split at hc <;> omega
    go_enter Try.func7, Try.ntmps7
    go_wp2_with fail
    refine (szToken_any k n 1048576 s _ hs (by omega) (by omega)).mono ?_; rintro e w1 ⟨rfl, hb1⟩
    have B1 := B0.keep hb1
    have c1 := B1.cell
    go_wp2_with fail
    refine (toToken_any k n s _).mono ?_; rintro e w2 ⟨rfl, hb2⟩
    have B2 := B1.keep hb2
    clear c1
    go_wp2_with fail
    refine (sTokenOk k n s _ hsz).mono ?_; rintro e w3 ⟨rfl, hb3⟩
    have B3 := B2.keep hb3
    have c3 := B3.cell
    go_wp2_with fail
    refine (toToken_any k n s _).mono ?_; rintro e w4 ⟨rfl, hb4⟩
    clear c3
    go_wp2_with fail
    refine (iTokenOk k n s _ hsz).mono ?_; rintro e w5 ⟨rfl, hb5⟩
    generalize tokB k n s = R
    go_wp2_with fail
    go_ret
    exact ⟨rfl, by repeat (first | exact Below.refl _ _ | refine bl_drewN ?_ _ | refine Below.drew ?_ | refine bl_alloc ?_ _ | refine bl_set ?_ (by simp) _ | refine bl_trans ?_ (by assumption))⟩

theorem FnExactTokenOk_args {H : Type} {enc : TypeId × Value → H} (W : World) (base : Nat) (args : Array Value) (ds : List (DataW H)) (p : List MemPlace)
    (hval : ∀ (j : Nat) t v, Try.f7.params[j]? = some t → args[j]? = some v → Value.okWide Try.checked.prog W .any base t v)
    (hA : DataW.TrodAll enc Try.checked.prog W 0 (fun _ => true) true Try.f7.params.toList args.toList ds p) :
    Calls Try.checked.prog 7 args W fun e W' => e = .returned (.bool true) ∧ Below W.heap.size W W' := by
  rw [Try.params7] at hA hval
  obtain ⟨v0, d0, rfl, rfl, h0⟩ := trodAll_one hA
  obtain ⟨c0, c1, c2, y0, y1, y2, m, rfl, rfl, rfl, hy0, hy1, hy2⟩ := open_agg3 Try.underlying33 (by kernel_rfl) (by kernel_rfl) (hval 0 33 v0 rfl rfl) h0
  obtain ⟨k, e0, rfl, wk⟩ := DataW.trod_int Try.underlying3 hy0
  obtain ⟨n, e1, rfl, wn⟩ := DataW.trod_int Try.underlying3 hy1
  obtain ⟨s, e2, rfl, hs⟩ := DataW.trod_string Try.underlying9 hy2
  simp only [List.cons.injEq, and_true] at e0 e1 e2
  subst e0 e1 e2
  exact FnExactTokenOk_walk k n s W hs

set_option maxRecDepth 100000 in
theorem FnExactTokenOk_holds : Rows.FnExactTokenOkSaid :=
  OpenClaim.holds_of_wide 7 Try.f7 rfl rfl rfl rfl rfl rfl rfl ⟨rfl, rfl, rfl, rfl, rfl⟩ rfl rfl rfl rfl rfl (by kernel_rfl) Try.func7 (by kernel_rfl)
    (of_decide_eq_true (by kernel_rfl)) (by unfold Func.isWrapper; rw [if_neg (of_decide_eq_false (by kernel_rfl))]; exact ⟨rfl, rfl⟩)
    (fun os started H enc _ => law_lift 7 Try.f7 Rows.fnExactTokenOkSpec 4 own laidOut started (by kernel_rfl) Try.func7 (by kernel_rfl) rfl (by kernel_rfl) Try.underlying4
      (fun ds h => by
        have hl : ds.length = 1 := h.trans (by kernel_rfl)
        obtain ⟨d, rfl⟩ := len1 hl
        rfl)
      (ChangeSpec.witness6 (enc := enc) (C := Try.checked) false ⟨#[], #[.agg #[.int .i64 0, .int .i64 0, .string ⟨#[]⟩]], []⟩ 8 (by kernel_rfl) (by kernel_rfl) (by kernel_rfl) (by kernel_rfl))
      FnExactTokenOk_args)
#print axioms FnExactTokenOk_holds

end Go.Proofs.Ytjpefadalinhoaa
