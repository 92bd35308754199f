/- FnExactLessVal: the program's LessVal returns what the reference's returns, for all arguments. The library's tables hold what the program's text lays in them. -/
import Derived.Test.YtkahlckjedaolaaDoorCmp
import Derived.Test.YtkahlckjedaolaaDoorLessI
import Derived.Test.YtkahlckjedaolaaDoorLessS
import Derived.Test.YtkahlckjedaolaaDoorVal
import Derived.Lib.SmallJoins
import Derived.Deep.RegionHeld3
namespace Go.Proofs.YtkahlckjedaolaaDoor
open Go.ChangeShapes Go.WideShapes Go.ChangeAt Go.RowKit Go.Joins
open Go.ChangeMaps (open_string shut_string)

set_option maxHeartbeats 1000000 in
theorem FnExactLessVal_walk (k n k' n' : Int) (s s' : ByteArray) (w : World) (hT : Tab w) (hs : s.size ≤ 9223372036854775807) (hs' : s'.size ≤ 9223372036854775807) (h0 : -9223372036854775808 ≤ n) (h1 : n ≤ 9223372036854775807) (h0' : -9223372036854775808 ≤ n') (h1' : n' ≤ 9223372036854775807) :
    Calls Tryd.prog 4 #[.agg #[.int .i64 k, .int .i64 n, .string s], .agg #[.int .i64 k', .int .i64 n', .string s']] w fun e w' => e = .returned (.bool true) ∧ Below w.heap.size w w' := by
  have B0 := (Blk.new w 23 #[.int .i64 k, .int .i64 n, .string s]).alloc (.cells #[.int .i64 k', .int .i64 n', .string s'] 23)
  have D0 : Blk ((w.alloc (.cells #[.int .i64 k, .int .i64 n, .string s] 23)).alloc (.cells #[.int .i64 k', .int .i64 n', .string s'] 23)) (w.heap.size + 1) 23 #[.int .i64 k', .int .i64 n', .string s'] := heap_alloc2_new w _ _
  have T0 := hT.keep (bl_alloc (bl_alloc (Below.refl _ _) (.cells #[.int .i64 k, .int .i64 n, .string s] 23)) (.cells #[.int .i64 k', .int .i64 n', .string s'] 23))
  have L0 := bl_alloc (bl_alloc (Below.refl w.heap.size w) (.cells #[.int .i64 k, .int .i64 n, .string s] 23)) (.cells #[.int .i64 k', .int .i64 n', .string s'] 23)
  by_cases hc : szStr 1048576 s < 0
  · go_enter Tryd.func4, Tryd.ntmps4
    go_wp2_with fail
    refine (szVal_any k n 1048576 s _ hs (by omega) (by omega)).mono ?_; rintro e w1 ⟨rfl, b1⟩
    go_wp2_with fail
    go_ret
    exact ⟨rfl, bl_trans L0 b1⟩
  obtain ⟨z, hz⟩ : ∃ z, szStr 1048576 s = z := ⟨_, rfl⟩
  have hz1 : 0 ≤ z ∧ z ≤ 1048576 := by subst hz; unfold szStr at hc ⊢; split <;> omega
  have hsz : s.size ≤ 1073741824 := by unfold szStr at hc; split at hc <;> omega
  have cz := fun w => szVal_any k n 1048576 s w hs (by omega) (by omega)
  rw [hz] at cz
  have CZ := Lib.hid cz
  clear cz hc hz
  by_cases hd : szStr z s' < 0
  · go_enter Tryd.func4, Tryd.ntmps4
    go_wp2_with fail
    refine (CZ.out _).mono ?_; rintro e w1 ⟨rfl, b1⟩
    have D1 := D0.keep b1
    have d1 := D1.cell
    go_wp2_with fail
    refine (szVal_any k' n' z s' _ hs' hz1.1 hz1.2).mono ?_; rintro e w2 ⟨rfl, b2⟩
    go_wp2_with fail
    go_ret
    exact ⟨rfl, bl_trans (bl_trans L0 b1) b2⟩
  · have hsz' : s'.size ≤ 1073741824 := by unfold szStr at hd; split at hd <;> omega
    go_enter Tryd.func4, Tryd.ntmps4
    go_wp2_with fail
    refine (CZ.out _).mono ?_; rintro e w1 ⟨rfl, b1⟩
    have B1 := B0.keep b1
    have D1 := D0.keep b1
    have T1 := T0.keep b1
    have L1 := bl_trans L0 b1
    clear B0 D0 T0 L0
    have p1 := B1.cell
    have q1 := D1.cell
    go_wp2_with fail
    clear p1 q1
    refine (szVal_any k' n' z s' _ hs' hz1.1 hz1.2).mono ?_; rintro e w2 ⟨rfl, b2⟩
    have B2 := B1.keep b2
    have D2 := D1.keep b2
    have T2 := T1.keep b2
    have L2 := bl_trans L1 b2
    clear B1 D1 T1 L1
    have p2 := B2.cell
    have q2 := D2.cell
    go_wp2_with fail
    clear p2 q2
    refine wp_region_held_drew (S := (fun x => Blk x w.heap.size 23 #[.int .i64 k, .int .i64 n, .string s] ∧ Blk x (w.heap.size + 1) 23 #[.int .i64 k', .int .i64 n', .string s'] ∧ Tab x)) (by kernel_rfl) ?_ (fun hHeld => ?_)
    · exact ⟨B2.drew, D2.drew, T2.block rfl⟩
    refine wpAnyH_take (i := 0) (oi := ⟨some 18, _, _, _, _, _⟩) (v := ?_) rfl (by kernel_rfl) (by kernel_rfl) (by kernel_rfl) (fun _ _ _ h => h) (Or.inl ⟨by rfl, ?_⟩) (by assumption) ?_
    case refine_2 => (intro w hSw; have p := hSw.1.cell; go_simp; first | done | with_reducible rfl)
    simp only [Act.put, List.setIfInBounds_toArray, List.set_cons_zero, List.set_cons_succ]
    refine wpAnyH_take (i := 2) (oi := ⟨some 20, _, _, _, _, _⟩) (v := ?_) rfl (by kernel_rfl) (by kernel_rfl) (by kernel_rfl) (fun _ _ _ h => h) (Or.inl ⟨by rfl, ?_⟩) (by assumption) ?_
    case refine_2 => (intro w hSw; have q := hSw.2.1.cell; go_simp; first | done | with_reducible rfl)
    simp only [Act.put, List.setIfInBounds_toArray, List.set_cons_zero, List.set_cons_succ]
    refine wpAnyH_ready (rs := [1]) (by kernel_rfl) (by simp) ?_
    refine AllReadyH.cons (o := ⟨some 19, _, _, _, _, _⟩) rfl (fun K hK => ?_) AllReadyH.nil
    go_simp
    refine (toVal_any k n s _).mono ?_; rintro e wsa ⟨rfl, bsa⟩
    go_wp2_with fail
    refine hK.out _ _ (⟨hHeld.1.keep bsa, hHeld.2.1.keep bsa, hHeld.2.2.keep bsa⟩) (fun hHeld => ?_)
    clear hK K
    try simp only [Act.put, List.setIfInBounds_toArray, List.set_cons_zero, List.set_cons_succ]
    refine wpAnyH_ready (rs := [3]) (by kernel_rfl) (by simp) ?_
    refine AllReadyH.cons (o := ⟨some 21, _, _, _, _, _⟩) rfl (fun K hK => ?_) AllReadyH.nil
    go_simp
    refine (toVal_any k' n' s' _).mono ?_; rintro e wsb ⟨rfl, bsb⟩
    go_wp2_with fail
    refine hK.out _ _ (⟨hHeld.1.keep bsb, hHeld.2.1.keep bsb, hHeld.2.2.keep bsb⟩) (fun hHeld => ?_)
    clear hK K
    try simp only [Act.put, List.setIfInBounds_toArray, List.set_cons_zero, List.set_cons_succ]
    refine wpAnyH_ready (rs := [4]) (by kernel_rfl) (by simp) ?_
    refine AllReadyH.cons (o := ⟨some 22, _, _, _, _, _⟩) rfl (fun K hK => ?_) AllReadyH.nil
    go_simp
    refine (sLessVal k n k' n' s s' _ h0 h1 h0' h1').mono ?_; rintro e wsc ⟨rfl, bsc⟩
    go_wp2_with fail
    refine hK.out _ _ (⟨hHeld.1.keep bsc, hHeld.2.1.keep bsc, hHeld.2.2.keep bsc⟩) (fun hHeld => ?_)
    clear hK K
    try simp only [Act.put, List.setIfInBounds_toArray, List.set_cons_zero, List.set_cons_succ]
    refine wpAnyH_take (i := 5) (oi := ⟨some 6, _, _, _, _, _⟩) (v := ?_) rfl (by kernel_rfl) (by kernel_rfl) (by kernel_rfl) (fun _ _ _ h => h) (Or.inl ⟨by rfl, ?_⟩) (by assumption) ?_
    case refine_2 => (intro w hSw; skip; go_simp; first | done | with_reducible rfl)
    simp only [Act.put, List.setIfInBounds_toArray, List.set_cons_zero, List.set_cons_succ]
    refine wpAnyH_done (by kernel_rfl) ?_ _
    obtain ⟨B3, D3, T3⟩ := hHeld
    have L3 := bl_trans (bl_trans (bl_trans (L2.drew) bsa) bsb) bsc
    go_wp2_with fail
    refine wp_region_held_drew (S := (fun x => Blk x w.heap.size 23 #[.int .i64 k, .int .i64 n, .string s] ∧ Blk x (w.heap.size + 1) 23 #[.int .i64 k', .int .i64 n', .string s'] ∧ Tab x)) (by kernel_rfl) ?_ (fun hHeld => ?_)
    · exact ⟨B3.drew, D3.drew, T3.block rfl⟩
    refine wpAnyH_take (i := 0) (oi := ⟨some 23, _, _, _, _, _⟩) (v := ?_) rfl (by kernel_rfl) (by kernel_rfl) (by kernel_rfl) (fun _ _ _ h => h) (Or.inl ⟨by rfl, ?_⟩) (by assumption) ?_
    case refine_2 => (intro w hSw; have p := hSw.1.cell; go_simp; first | done | with_reducible rfl)
    simp only [Act.put, List.setIfInBounds_toArray, List.set_cons_zero, List.set_cons_succ]
    refine wpAnyH_take (i := 2) (oi := ⟨some 25, _, _, _, _, _⟩) (v := ?_) rfl (by kernel_rfl) (by kernel_rfl) (by kernel_rfl) (fun _ _ _ h => h) (Or.inl ⟨by rfl, ?_⟩) (by assumption) ?_
    case refine_2 => (intro w hSw; have q := hSw.2.1.cell; go_simp; first | done | with_reducible rfl)
    simp only [Act.put, List.setIfInBounds_toArray, List.set_cons_zero, List.set_cons_succ]
    refine wpAnyH_ready (rs := [1]) (by kernel_rfl) (by simp) ?_
    refine AllReadyH.cons (o := ⟨some 24, _, _, _, _, _⟩) rfl (fun K hK => ?_) AllReadyH.nil
    go_simp
    refine (toVal_any k n s _).mono ?_; rintro e wia ⟨rfl, bia⟩
    go_wp2_with fail
    refine hK.out _ _ (⟨hHeld.1.keep bia, hHeld.2.1.keep bia, hHeld.2.2.keep bia⟩) (fun hHeld => ?_)
    clear hK K
    try simp only [Act.put, List.setIfInBounds_toArray, List.set_cons_zero, List.set_cons_succ]
    refine wpAnyH_ready (rs := [3]) (by kernel_rfl) (by simp) ?_
    refine AllReadyH.cons (o := ⟨some 26, _, _, _, _, _⟩) rfl (fun K hK => ?_) AllReadyH.nil
    go_simp
    refine (toVal_any k' n' s' _).mono ?_; rintro e wib ⟨rfl, bib⟩
    go_wp2_with fail
    refine hK.out _ _ (⟨hHeld.1.keep bib, hHeld.2.1.keep bib, hHeld.2.2.keep bib⟩) (fun hHeld => ?_)
    clear hK K
    try simp only [Act.put, List.setIfInBounds_toArray, List.set_cons_zero, List.set_cons_succ]
    refine wpAnyH_ready (rs := [4]) (by kernel_rfl) (by simp) ?_
    refine AllReadyH.cons (o := ⟨some 27, _, _, _, _, _⟩) rfl (fun K hK => ?_) AllReadyH.nil
    go_simp
    refine (iLessVal k n k' n' s s' _ hHeld.2.2 h0 h1 h0' h1' hsz hsz').mono ?_; rintro e wic ⟨rfl, bic⟩
    go_wp2_with fail
    refine hK.out _ _ (⟨hHeld.1.keep bic, hHeld.2.1.keep bic, hHeld.2.2.keep bic⟩) (fun hHeld => ?_)
    clear hK K
    try simp only [Act.put, List.setIfInBounds_toArray, List.set_cons_zero, List.set_cons_succ]
    refine wpAnyH_take (i := 5) (oi := ⟨some 7, _, _, _, _, _⟩) (v := ?_) rfl (by kernel_rfl) (by kernel_rfl) (by kernel_rfl) (fun _ _ _ h => h) (Or.inl ⟨by rfl, ?_⟩) (by assumption) ?_
    case refine_2 => (intro w hSw; skip; go_simp; first | done | with_reducible rfl)
    simp only [Act.put, List.setIfInBounds_toArray, List.set_cons_zero, List.set_cons_succ]
    refine wpAnyH_done (by kernel_rfl) ?_ _
    obtain ⟨B4, D4, T4⟩ := hHeld
    have L4 := bl_trans (bl_trans (bl_trans (L3.drew) bia) bib) bic
    go_wp2_with fail
    go_ret
    exact ⟨rfl, L4⟩

theorem FnExactLessVal_args {H : Type} {enc : TypeId × Value → H} (W : World) (base : Nat) (args : Array Value) (ds : List (DataW H)) (p : List MemPlace)
    (hval : ∀ (j : Nat) t v, Tryd.f4.params[j]? = some t → args[j]? = some v → Value.okWide Tryd.checked.prog W .any base t v)
    (hA : DataW.TrodAll enc Tryd.checked.prog W 0 (fun _ => true) true Tryd.f4.params.toList args.toList ds p)
    (hL : laidMetH Tryd.checked.prog laidL W) :
    Calls Tryd.checked.prog 4 args W fun e W' => e = .returned (.bool true) ∧ Below W.heap.size W W' := by
  rw [Tryd.params4] at hA hval
  obtain ⟨v0, v1, d0, d1, p0, p1, rfl, rfl, rfl, h0, h1⟩ := trodAll_two hA
  obtain ⟨c0, c1, c2, y0, y1, y2, m, rfl, rfl, rfl, hy0, hy1, hy2⟩ := open_agg3 Tryd.underlying23 (by kernel_rfl) (by kernel_rfl) (hval 0 23 v0 rfl rfl) h0
  obtain ⟨k, e0, rfl, wk⟩ := DataW.trod_int Tryd.underlying3 hy0
  obtain ⟨n, e1, rfl, wn⟩ := DataW.trod_int Tryd.underlying3 hy1
  obtain ⟨s, e2, rfl, hs⟩ := DataW.trod_string Tryd.underlying9 hy2
  simp only [List.cons.injEq, and_true] at e0 e1 e2
  subst e0 e1 e2
  obtain ⟨c0, c1, c2, y0, y1, y2, mb, rfl, rfl, rfl, hy0, hy1, hy2⟩ := open_agg3 Tryd.underlying23 (by kernel_rfl) (by kernel_rfl) (hval 1 23 v1 rfl rfl) h1
  obtain ⟨kb, e0, rfl, wkb⟩ := DataW.trod_int Tryd.underlying3 hy0
  obtain ⟨nb, e1, rfl, wnb⟩ := DataW.trod_int Tryd.underlying3 hy1
  obtain ⟨sb, e2, rfl, hsb⟩ := DataW.trod_string Tryd.underlying9 hy2
  simp only [List.cons.injEq, and_true] at e0 e1 e2
  subst e0 e1 e2
  exact FnExactLessVal_walk k n kb nb s sb W (tab_of_laid hL) hs hsb (int_range wn).1 (int_range wn).2 (int_range wnb).1 (int_range wnb).2

set_option maxRecDepth 100000 in
theorem FnExactLessVal_holds : Rows.FnExactLessValSaid :=
  OpenClaim.holds_of_wide 4 Tryd.f4 rfl rfl rfl rfl rfl rfl rfl ⟨rfl, rfl, rfl, rfl, rfl⟩ rfl rfl rfl rfl rfl (by kernel_rfl) Tryd.func4 (by kernel_rfl)
    (of_decide_eq_true (by kernel_rfl)) (by unfold Func.isWrapper; rw [if_neg (of_decide_eq_false (by kernel_rfl))]; exact ⟨rfl, rfl⟩)
    (fun os started H enc _ => law_lift_laid laidL 4 Tryd.f4 Rows.fnExactLessValSpec 4 own laidOut started (by kernel_rfl) Tryd.func4 (by kernel_rfl) rfl (by kernel_rfl) Tryd.underlying4
      (fun ds h => by
        have hl : ds.length = 2 := h.trans (by kernel_rfl)
        obtain ⟨a, b, rfl⟩ := len2 hl
        rfl)
      (ChangeSpec.witness_shaped (enc := enc) (C := Tryd.checked) (os := os) (X := fun w _ => laidMetH Tryd.checked.prog laidL w) false (World.doorLaid Tryd.prog 600 os) #[.agg #[.int .i64 0, .int .i64 0, .string ⟨#[]⟩], .agg #[.int .i64 0, .int .i64 0, .string ⟨#[]⟩]] 8 rfl (World.shaped_of_RefB (by kernel_rfl) (by kernel_rfl)) (by kernel_rfl) (by kernel_rfl) (by kernel_rfl) (door_met os _))
      FnExactLessVal_args)
theorem FnExactLessVal_card : Rows.FnExactLessValCardSaid :=
  Claim7.holds_tied_plain_at .later [] [.data, .data, .data] true Rows.fnExactLessValCard.stood.harness false
    FnExactLessVal_holds (fun _ h => by cases h) (by kernel_rfl) (fun _ h => by cases h) fnExactLessVal_row_tie rfl ⟨rfl, rfl⟩ (by kernel_rfl) rfl
    (fun f fn hf hfn => by
      obtain rfl : f = 4 := Option.some.inj ((show Tryd.prog.funcNamed Rows.fnExactLessValRow.func = some 4 by kernel_rfl).symm.trans hf) |>.symm
      obtain rfl : fn = Tryd.f4 := (Option.some.inj (Tryd.func4.symm.trans hfn)).symm
      exact ⟨by kernel_rfl, fun j t ht => by
        have hm : t ∈ Tryd.f4.params.toList := by simpa using Array.mem_of_getElem? ht
        have hall : (Tryd.f4.params.toList.all fun u => !Tryd.prog.wantsStandIn u) = true := by kernel_rfl
        exact (show Tryd.prog.wantsStandIn t = false by simpa using List.all_eq_true.1 hall t hm)⟩)
    (by kernel_rfl)
#print axioms FnExactLessVal_card

end Go.Proofs.YtkahlckjedaolaaDoor
