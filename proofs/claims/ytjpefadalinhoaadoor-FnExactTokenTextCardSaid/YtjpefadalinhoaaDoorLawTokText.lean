/- FnExactTokenText: the program's TokenText returns what the reference's returns, for all arguments. The library's tables hold what the program's text lays in them. -/
import Derived.Test.YtjpefadalinhoaaDoorLiftL
import Derived.Test.YtjpefadalinhoaaDoorTokText
import Derived.Test.YtjpefadalinhoaaDoorMem
import Derived.Lib.SmallJoins
namespace Go.Proofs.YtjpefadalinhoaaDoor
open Go.ChangeShapes Go.WideShapes Go.ChangeAt Go.RowKit Go.Joins
open Go.ChangeMaps (open_string shut_string)

set_option maxHeartbeats 400000 in
theorem FnExactTokenText_walk (k n : Int) (s : ByteArray) (w : World) (hT : Tab w) (hs : s.size ≤ 9223372036854775807) (h0 : -9223372036854775808 ≤ n) (h1 : n ≤ 9223372036854775807) :
    Calls Tryd.prog 3 #[.agg #[.int .i64 k, .int .i64 n, .string s]] w fun e w' => e = .returned (.bool true) ∧ Below w.heap.size w w' := by
  have B0 := Blk.new w 23 #[.int .i64 k, .int .i64 n, .string s]
  have T0 := hT.keep (bl_alloc (Below.refl _ _) (.cells #[.int .i64 k, .int .i64 n, .string s] 23))
  by_cases hc : szStr 1048576 s < 0
  · go_enter Tryd.func3, Tryd.ntmps3
    go_wp2_with fail
    refine (szToken_any k n 1048576 s _ hs (by omega) (by omega)).mono ?_; rintro e w1 ⟨rfl, hb1⟩
    go_wp2_with fail
    go_ret
    exact ⟨rfl, by repeat (first | exact Below.refl _ _ | refine bl_drewN ?_ _ | refine Below.drew ?_ | refine bl_alloc ?_ _ | refine bl_set ?_ (by simp) _ | refine bl_trans ?_ (by assumption))⟩
  · have hsz : s.size ≤ 1048576 := by unfold szStr at hc; split at hc <;> omega
    go_enter Tryd.func3, Tryd.ntmps3
    go_wp2_with fail
    refine (szToken_any k n 1048576 s _ hs (by omega) (by omega)).mono ?_; rintro e w1 ⟨rfl, hb1⟩
    have B1 := B0.keep hb1
    have T1 := T0.keep hb1
    have c1 := B1.cell
    go_wp2_with fail
    refine (toToken_any k n s _).mono ?_; rintro e w2 ⟨rfl, hb2⟩
    have B2 := B1.keep hb2
    have T2 := T1.keep hb2
    clear c1
    go_wp2_with fail
    refine (sTokenText k n s _ h0 h1 hsz).mono ?_; rintro e w3 ⟨rfl, hb3⟩
    have B3 := B2.keep hb3
    have T3 := T2.keep hb3
    have c3 := B3.cell
    go_wp2_with fail
    refine (toToken_any k n s _).mono ?_; rintro e w4 ⟨rfl, hb4⟩
    have T4 := T3.keep hb4
    clear c3
    go_wp2_with fail
    refine (iTokenText k n s _ T4 h0 h1 hsz).mono ?_; rintro e w5 ⟨rfl, hb5⟩
    generalize tokT k n s = R
    go_wp2_with fail
    go_ret
    exact ⟨rfl, by repeat (first | exact Below.refl _ _ | refine bl_drewN ?_ _ | refine Below.drew ?_ | refine bl_alloc ?_ _ | refine bl_set ?_ (by simp) _ | refine bl_trans ?_ (by assumption))⟩

theorem FnExactTokenText_args {H : Type} {enc : TypeId × Value → H} (W : World) (base : Nat) (args : Array Value) (ds : List (DataW H)) (p : List MemPlace)
    (hval : ∀ (j : Nat) t v, Tryd.f3.params[j]? = some t → args[j]? = some v → Value.okWide Tryd.checked.prog W .any base t v)
    (hA : DataW.TrodAll enc Tryd.checked.prog W 0 (fun _ => true) true Tryd.f3.params.toList args.toList ds p)
    (hL : laidMetH Tryd.checked.prog laidL W) :
    Calls Tryd.checked.prog 3 args W fun e W' => e = .returned (.bool true) ∧ Below W.heap.size W W' := by
  rw [Tryd.params3] at hA hval
  obtain ⟨v0, d0, rfl, rfl, h0⟩ := trodAll_one hA
  obtain ⟨c0, c1, c2, y0, y1, y2, m, rfl, rfl, rfl, hy0, hy1, hy2⟩ := open_agg3 Tryd.underlying23 (by kernel_rfl) (by kernel_rfl) (hval 0 23 v0 rfl rfl) h0
  obtain ⟨k, e0, rfl, wk⟩ := DataW.trod_int Tryd.underlying3 hy0
  obtain ⟨n, e1, rfl, wn⟩ := DataW.trod_int Tryd.underlying3 hy1
  obtain ⟨s, e2, rfl, hs⟩ := DataW.trod_string Tryd.underlying9 hy2
  simp only [List.cons.injEq, and_true] at e0 e1 e2
  subst e0 e1 e2
  exact FnExactTokenText_walk k n s W (tab_of_laid hL) hs (int_range wn).1 (int_range wn).2

set_option maxRecDepth 100000 in
theorem FnExactTokenText_holds : Rows.FnExactTokenTextSaid :=
  OpenClaim.holds_of_wide 3 Tryd.f3 rfl rfl rfl rfl rfl rfl rfl ⟨rfl, rfl, rfl, rfl, rfl⟩ rfl rfl rfl rfl rfl (by kernel_rfl) Tryd.func3 (by kernel_rfl)
    (of_decide_eq_true (by kernel_rfl)) (by unfold Func.isWrapper; rw [if_neg (of_decide_eq_false (by kernel_rfl))]; exact ⟨rfl, rfl⟩)
    (fun os started H enc _ => law_lift_laid laidL 3 Tryd.f3 Rows.fnExactTokenTextSpec 4 own laidOut started (by kernel_rfl) Tryd.func3 (by kernel_rfl) rfl (by kernel_rfl) Tryd.underlying4
      (fun ds h => by
        have hl : ds.length = 1 := h.trans (by kernel_rfl)
        obtain ⟨d, rfl⟩ := len1 hl
        rfl)
      (ChangeSpec.witness_shaped (enc := enc) (C := Tryd.checked) (os := os) (X := fun w _ => laidMetH Tryd.checked.prog laidL w) false (World.doorLaid Tryd.prog 600 os) #[.agg #[.int .i64 0, .int .i64 0, .string ⟨#[]⟩]] 8 rfl (World.shaped_of_RefB (by kernel_rfl) (by kernel_rfl)) (by kernel_rfl) (by kernel_rfl) (by kernel_rfl) (door_met os _))
      FnExactTokenText_args)
theorem FnExactTokenText_card : Rows.FnExactTokenTextCardSaid :=
  Claim7.holds_tied_plain_at .later [] [.data, .data, .data] true Rows.fnExactTokenTextCard.stood.harness false
    FnExactTokenText_holds (fun _ h => by cases h) (by kernel_rfl) (fun _ h => by cases h) fnExactTokenText_row_tie rfl ⟨rfl, rfl⟩ (by kernel_rfl) rfl
    (fun f fn hf hfn => by
      obtain rfl : f = 3 := Option.some.inj ((show Tryd.prog.funcNamed Rows.fnExactTokenTextRow.func = some 3 by kernel_rfl).symm.trans hf) |>.symm
      obtain rfl : fn = Tryd.f3 := (Option.some.inj (Tryd.func3.symm.trans hfn)).symm
      exact ⟨by kernel_rfl, fun j t ht => by
        have hm : t ∈ Tryd.f3.params.toList := by simpa using Array.mem_of_getElem? ht
        have hall : (Tryd.f3.params.toList.all fun u => !Tryd.prog.wantsStandIn u) = true := by kernel_rfl
        exact (show Tryd.prog.wantsStandIn t = false by simpa using List.all_eq_true.1 hall t hm)⟩)
    (by kernel_rfl)
#print axioms FnExactTokenText_card

end Go.Proofs.YtjpefadalinhoaaDoor
