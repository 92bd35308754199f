/- FnExactJoinTokens: the program's JoinTokens returns what the reference's returns, for all arguments, and changes no argument. The library's tables hold what the program's text lays in them. -/
import Derived.Test.YtjpefadalinhoaaDoorLiftL
import Derived.Test.YtjpefadalinhoaaDoorJoinT
import Derived.Test.YtjpefadalinhoaaDoorOpenR
import Derived.Deep.Strs
namespace Go.Proofs.YtjpefadalinhoaaDoor
open Go.ChangeShapes Go.WideShapes Go.ChangeAt Go.RowKit
open Go.ChangeMaps (open_string shut_string)

theorem le_sumL : ∀ {l : List ByteArray} {x : ByteArray}, x ∈ l → x.size ≤ sumL l
  | y :: l, x, h => by
    unfold sumL
    rw [List.map_cons, List.sum_cons]
    rcases List.mem_cons.1 h with rfl | h
    · omega
    · have := le_sumL h
      unfold sumL at this
      omega
theorem open_tokens {H : Type} {enc : TypeId × Value → H} (W : World) {r : Reach} {b0 : Nat} (v : Value) (d : DataW H) (ps : List MemPlace) (hval : Value.okWide Tryd.checked.prog W r b0 29 v) (h : DataW.Trod enc Tryd.checked.prog W 0 (fun _ => true) true 29 v d ps) :
    ∃ (A : Option Addr) (c : Nat) (zs : List (Int × Int × ByteArray)), v = .slice A zs.length c ∧ Reads W W.heap.size 3 A zs.length (flat tkC zs) ∧ (∀ z ∈ zs, (-9223372036854775808 ≤ z.2.1 ∧ z.2.1 ≤ 9223372036854775807) ∧ z.2.2.size ≤ 9223372036854775807) ∧ zs.length ≤ 9223372036854775807 := by
  obtain ⟨a, len, cap, rfl⟩ := okWide_slice Tryd.underlying29 hval
  obtain ⟨fuel, hf⟩ := h
  refine open_rows (f := tkC) tkC_len (by omega) Tryd.underlying29 (e := 23) (by kernel_rfl) ?_ hf
  intro n cs y _ hcl hy
  obtain ⟨y0, y1, y2, m, _, _, h0, h1, h2⟩ := Go.Deep.trod_struct3 Tryd.underlying23 hy
  match cs, hcl with
  | [c0, c1, c2], _ =>
    obtain ⟨k, e0, _, _⟩ := DataW.trod_int Tryd.underlying3 h0
    obtain ⟨n, e1, _, wn⟩ := DataW.trod_int Tryd.underlying3 h1
    obtain ⟨s, e2, _, hs⟩ := DataW.trod_string Tryd.underlying9 h2
    have f0 : [c0] = [.int .i64 k] := e0
    have f1 : [c1] = [.int .i64 n] := e1
    have f2 : [c2] = [.string s] := e2
    simp only [List.cons.injEq, and_true] at f0 f1 f2
    subst f0 f1 f2
    exact ⟨(k, n, s), ⟨int_range wn, by unfold maxLen at hs; exact hs⟩, rfl⟩

set_option maxHeartbeats 2000000 in
theorem FnExactJoinTokens_walk (A : Option Addr) (c : Nat) (zs : List (Int × Int × ByteArray)) (w : World) (hT : Tab w) (hR : Reads w w.heap.size 3 A zs.length (flat tkC zs)) (hZ : ∀ z ∈ zs, (-9223372036854775808 ≤ z.2.1 ∧ z.2.1 ≤ 9223372036854775807) ∧ z.2.2.size ≤ 9223372036854775807) (hn : zs.length ≤ 9223372036854775807) :
    Calls Tryd.prog 4 #[.slice A zs.length c] w fun e w' => e = .returned (.bool true) ∧ Below w.heap.size w w' := by
  obtain ⟨z, hz⟩ : ∃ z, szS 1048576 (tkS zs) = z := ⟨_, rfl⟩
  have cZ := fun w h => szTokenS_any A c 1048576 zs w h (fun z h => (hZ z h).2) hn (by omega) (by omega)
  rw [hz] at cZ
  have CZ := Lib.hid cZ
  clear cZ
  by_cases hc : z < 0
  · clear hz
    go_enter Tryd.func4, Tryd.ntmps4
    go_wp2_with fail
    refine (CZ.out _ hR).mono ?_; rintro e w1 ⟨rfl, b1⟩
    go_wp2_with fail
    go_ret
    exact ⟨rfl, b1⟩
  · have hs := szS_sum (tkS zs) 1048576 (by rw [hz]; exact hc)
    rw [show (tkS zs).length = zs.length by simp [tkS]] at hs
    clear hz
    have hok : ∀ t ∈ zs, TkOk t := fun t ht => ⟨(hZ t ht).1.1, (hZ t ht).1.2, by
      have : t.2.2.size ≤ sumL (tkS zs) := by
        exact le_sumL (List.mem_map.2 ⟨t, ht, rfl⟩)
      omega⟩
    have h2 := tkT_sum zs hok
    have cS := fun (A : Option Addr) (c : Nat) (w : World) (h : Reads w w.heap.size 3 A zs.length (flat tkC zs)) => sJoinT A c zs w h hok (by omega)
    have cI := fun (A : Option Addr) (c : Nat) (w : World) (hT : Tab w) (h : Reads w w.heap.size 3 A zs.length (flat tkC zs)) => iJoinT A c zs w hT h hok (by omega)
    have hn2 : zs.length ≤ 1048576 := by omega
    generalize jn (tkT zs) zs.length = Y at cS cI
    have CS := Lib.hid cS
    have CI := Lib.hid cI
    clear cS cI hs hok h2
    go_enter Tryd.func4, Tryd.ntmps4
    go_wp2_with fail
    refine (CZ.out _ hR).mono ?_; rintro e w1 ⟨rfl, b1⟩
    have s1 := b1.size
    have L1 := bl_trans (Below.refl w.heap.size w) b1
    go_wp2_with fail
    refine (toTokenS_any A c zs _ (rd_below hR L1) (by omega)).mono ?_; rintro e w2 ⟨⟨v0, _, rfl, rfl, Ot⟩, b2⟩
    have s2 := b2.size
    have L2 := bl_trans L1 b2
    obtain ⟨At, ct, rfl⟩ := Ot.form
    go_wp2_with fail
    refine (CS.out At ct _ Ot.reads).mono ?_; rintro e w3 ⟨rfl, b3⟩
    have s3 := b3.size
    have L3 := bl_trans L2 b3
    replace Ot := Ot.keep b3
    go_wp2_with fail
    refine (toTokenS_any A c zs _ (rd_below hR L3) (by omega)).mono ?_; rintro e w4 ⟨⟨vx, _, rfl, rfl, Ox⟩, b4⟩
    have s4 := b4.size
    have L4 := bl_trans L3 b4
    obtain ⟨Ax, cx, rfl⟩ := Ox.form
    go_wp2_with fail
    refine (CI.out Ax cx _ (hT.keep L4) Ox.reads).mono ?_; rintro e w5 ⟨rfl, b5⟩
    have s5 := b5.size
    have L5 := bl_trans L4 b5
    replace Ox := Ox.keep b5
    go_wp2_with fail
    refine (toTokenS_any A c zs _ (rd_below hR L5) (by omega)).mono ?_; rintro e w6 ⟨⟨vu, _, rfl, rfl, Ou⟩, b6⟩
    have s6 := b6.size
    have L6 := bl_trans L5 b6
    replace Ox := Ox.keep b6
    obtain ⟨Au, cu, rfl⟩ := Ou.form
    go_wp2_with fail
    refine (eqTokenS_any Ax Au cx cu zs _ Ox.reads Ou.reads (by omega)).mono ?_; rintro e w7 ⟨rfl, b7⟩
    have s7 := b7.size
    have L7 := bl_trans L6 b7
    replace Ox := Ox.keep b7
    replace Ou := Ou.keep b7
    go_wp2_with fail
    go_ret
    exact ⟨rfl, L7⟩

theorem FnExactJoinTokens_args {H : Type} {enc : TypeId × Value → H} (W : World) (base : Nat) (args : Array Value) (ds : List (DataW H)) (p : List MemPlace)
    (hval : ∀ (j : Nat) t v, Tryd.f4.params[j]? = some t → args[j]? = some v → Value.okWide Tryd.checked.prog W .any base t v)
    (hA : DataW.TrodAll enc Tryd.checked.prog W 0 (fun _ => true) true Tryd.f4.params.toList args.toList ds p)
    (hL : laidMetH Tryd.checked.prog laidL W) :
    Calls Tryd.checked.prog 4 args W fun e W' => e = .returned (.bool true) ∧ Below W.heap.size W W' := by
  rw [Tryd.params4] at hA hval
  obtain ⟨v0, d0, rfl, rfl, h0⟩ := trodAll_one hA
  obtain ⟨A, c, zs, rfl, R, hz, hl⟩ := open_tokens W v0 d0 p (hval 0 29 v0 rfl rfl) h0
  exact FnExactJoinTokens_walk A c zs W (tab_of_laid hL) R hz hl

set_option maxRecDepth 100000 in
theorem FnExactJoinTokens_holds : Rows.FnExactJoinTokensSaid :=
  OpenClaim.holds_of_wide 4 Tryd.f4 rfl rfl rfl rfl rfl rfl rfl ⟨rfl, rfl, rfl, rfl, rfl⟩ rfl rfl rfl rfl rfl (by kernel_rfl) Tryd.func4 (by kernel_rfl)
    (of_decide_eq_true (by kernel_rfl)) (by unfold Func.isWrapper; rw [if_neg (of_decide_eq_false (by kernel_rfl))]; exact ⟨rfl, rfl⟩)
    (fun os started H enc _ => law_lift_laid laidL 4 Tryd.f4 Rows.fnExactJoinTokensSpec 4 own laidOut started (by kernel_rfl) Tryd.func4 (by kernel_rfl) rfl (by kernel_rfl) Tryd.underlying4
      (fun ds h => by
        have hl : ds.length = 1 := h.trans (by kernel_rfl)
        obtain ⟨d, rfl⟩ := len1 hl
        rfl)
      (ChangeSpec.witness_shaped (enc := enc) (C := Tryd.checked) (os := os) (X := fun w _ => laidMetH Tryd.checked.prog laidL w) false (World.doorLaid Tryd.prog 600 os) #[.slice none 0 0] 8 rfl (World.shaped_of_RefB (by kernel_rfl) (by kernel_rfl)) (by kernel_rfl) (by kernel_rfl) (by kernel_rfl) (door_met os _))
      FnExactJoinTokens_args)
theorem FnExactJoinTokens_card : Rows.FnExactJoinTokensCardSaid :=
  Claim7.holds_tied_plain_at .later [] [.data, .data, .data] true Rows.fnExactJoinTokensCard.stood.harness false
    FnExactJoinTokens_holds (fun _ h => by cases h) (by kernel_rfl) (fun _ h => by cases h) fnExactJoinTokens_row_tie rfl ⟨rfl, rfl⟩ (by kernel_rfl) rfl
    (fun f fn hf hfn => by
      obtain rfl : f = 4 := Option.some.inj ((show Tryd.prog.funcNamed Rows.fnExactJoinTokensRow.func = some 4 by kernel_rfl).symm.trans hf) |>.symm
      obtain rfl : fn = Tryd.f4 := (Option.some.inj (Tryd.func4.symm.trans hfn)).symm
      exact ⟨by kernel_rfl, fun j t ht => by
        have hm : t ∈ Tryd.f4.params.toList := by simpa using Array.mem_of_getElem? ht
        have hall : (Tryd.f4.params.toList.all fun u => !Tryd.prog.wantsStandIn u) = true := by kernel_rfl
        exact (show Tryd.prog.wantsStandIn t = false by simpa using List.all_eq_true.1 hall t hm)⟩)
    (by kernel_rfl)
#print axioms FnExactJoinTokens_card

end Go.Proofs.YtjpefadalinhoaaDoor
