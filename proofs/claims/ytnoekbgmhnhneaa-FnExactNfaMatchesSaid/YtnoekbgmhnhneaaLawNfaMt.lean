/- FnExactNfaMatches: the program's NfaMatches returns what the reference's returns, for all arguments, and changes no argument. -/
import Derived.Test.YtnoekbgmhnhneaaLift
import Derived.Test.YtnoekbgmhnhneaaNmS
import Derived.Test.YtnoekbgmhnhneaaNmI
import Derived.Test.YtnoekbgmhnhneaaNfaM
import Derived.Test.YtnoekbgmhnhneaaOpenR
import Derived.Test.YtnoekbgmhnhneaaOpenB
import Derived.Deep.RegionHeld3
namespace Go.Proofs.Ytnoekbgmhnhneaa
open Go.ChangeShapes Go.WideShapes Go.ChangeAt Go.RowKit
open Go.ChangeMaps (open_string shut_string)
set_option maxRecDepth 100000 in
theorem open_nfa {H : Type} {enc : TypeId × Value → H} (W : World) {r : Reach} {b0 : Nat} (v : Value) (d : DataW H) (ps : List MemPlace) (hval : Value.okWide Try.checked.prog W r b0 24 v) (h : DataW.Trod enc Try.checked.prog W 0 (fun _ => true) true 24 v d ps) :
    ∃ (A : Option Addr) (c : Nat) (zs : List (Int × ByteArray × Int × Int)), v = .agg #[.slice A zs.length c] ∧ Reads W W.heap.size 4 A zs.length (flat nodeC zs) ∧ (∀ z ∈ zs, z.2.1.size ≤ 9223372036854775807) ∧ zs.length ≤ 9223372036854775807 := by
  obtain ⟨cs, fuel, rfl, hf⟩ := open_cells Try.underlying24 hval h
  obtain ⟨n', _, hcl, hF⟩ := trod_fields Try.underlying24 (by kernel_rfl) hf
  have hcl1 : cs.toList.length = 1 := hcl.trans (by kernel_rfl)
  obtain ⟨c0, hc0⟩ : ∃ c0, cs.toList = [c0] := by
    match cs.toList, hcl1 with
    | [c0], _ => exact ⟨c0, rfl⟩
  rw [hc0] at hF
  obtain ⟨y, hy⟩ := hF 0 _ rfl c0 rfl
  obtain ⟨A, c, zs, rfl, hR, hQ, hl⟩ := open_rows (Q := fun z : (Int × ByteArray × Int × Int) => z.2.1.size ≤ 9223372036854775807) nodeC_len (by omega) Try.underlying22 (e := 97) (by kernel_rfl) (fun n cs y _ _ hy => by
    obtain ⟨n', _, hcl, hF⟩ := trod_fields Try.underlying97 (by kernel_rfl) hy
    obtain ⟨c0, c1, c2, c3, rfl⟩ := len_4 (hcl.trans (by kernel_rfl) : cs.length = 4)
    obtain ⟨y0, h0⟩ := hF 0 _ rfl c0 rfl
    obtain ⟨y1, h1⟩ := hF 1 _ rfl c1 rfl
    obtain ⟨y2, h2⟩ := hF 2 _ rfl c2 rfl
    obtain ⟨y3, h3⟩ := hF 3 _ rfl c3 rfl
    obtain ⟨k, e0, _, _⟩ := DataW.trod_int Try.underlying3 h0
    obtain ⟨s, e1, _, w1⟩ := DataW.trod_string Try.underlying9 h1
    obtain ⟨a, e2, _, _⟩ := DataW.trod_int Try.underlying3 h2
    obtain ⟨b, e3, _, _⟩ := DataW.trod_int Try.underlying3 h3
    simp only [List.cons.injEq, and_true] at e0 e1 e2 e3
    subst e0 e1 e2 e3
    exact ⟨(k, s, a, b), by unfold maxLen at w1; exact w1, rfl⟩) hy
  exact ⟨A, c, zs, congrArg Value.agg (Array.toList_inj.1 (hc0.trans rfl)), hR, hQ, hl⟩

set_option maxRecDepth 100000 in
set_option maxHeartbeats 8000000 in
theorem FnExactNfaMatches_walk (A : Option Addr) (cz : Nat) (zs : List (Int × ByteArray × Int × Int)) (s : ByteArray) (w : World) (hR : Reads w w.heap.size 4 A zs.length (flat nodeC zs)) (hx : ∀ z ∈ zs, z.2.1.size ≤ 9223372036854775807) (hn : zs.length ≤ 9223372036854775807) (hsm : s.size ≤ 9223372036854775807) :
    Calls Try.prog 6 #[.agg #[.slice A zs.length cz], .string s] w fun e w' => e = .returned (.bool true) ∧ Below w.heap.size w w' := by
  by_cases hl : ¬ s.size ≤ 1048576
  · have hl' : ¬ (s.size : Int) ≤ 1048576 := by omega
    have L0 := bl_alloc (Below.refl w.heap.size w) (.cells #[.slice A zs.length cz] 24)
    go_enter Try.func6, Try.ntmps6
    go_wp2_with fail
    go_ret
    exact ⟨rfl, L0⟩
  replace hl : s.size ≤ 1048576 := by omega
  have hl' : (s.size : Int) ≤ 1048576 := by omega
  have cZ := fun w h => szNfa_any A cz 1048576 zs w h hx hn (by omega) (by omega)
  obtain ⟨z, hz⟩ : ∃ z, (if szS 1048576 (nodeS zs) < 0 then -1 else szS 1048576 (nodeS zs)) = z := ⟨_, rfl⟩
  rw [hz] at cZ
  have CZ := Lib.hid cZ
  clear cZ
  by_cases hc : z < 0
  · clear hz
    have B := Blk.new w 24 #[.slice A zs.length cz]
    have L0 := bl_alloc (Below.refl w.heap.size w) (.cells #[.slice A zs.length cz] 24)
    go_enter Try.func6, Try.ntmps6
    go_wp2_with fail
    refine (CZ.out _ (rd_below hR L0)).mono ?_; rintro e w1 ⟨rfl, b1⟩
    go_wp2_with fail
    go_ret
    exact ⟨rfl, bl_trans L0 b1⟩
  · have hs := szS_sum (nodeS zs) 1048576 (by
      intro h
      rw [if_pos h] at hz
      omega)
    rw [show (nodeS zs).length = zs.length by simp [nodeS]] at hs
    have hn2 : zs.length ≤ 1048576 := by omega
    clear hz hs
    have CT := Lib.hid fun w h => toNfa_any A cz zs w h (by omega)
    have CN := Lib.hid fun A A' c c' w h h' => eqNfa_any A A' c c' zs w h h' (by omega)
    have CS := Lib.hid fun A cz w h => sNfaMatches zs s A cz w hn2 hx hl h
    have CI := Lib.hid fun A cz w h => iNfaMatches zs s A cz w hn2 hx hl h
    go_enter Try.func6, Try.ntmps6
    have B := Blk.new w 24 #[.slice A zs.length cz]
    have L0 := bl_alloc (Below.refl w.heap.size w) (.cells #[.slice A zs.length cz] 24)
    go_wp2_with fail
    refine (CZ.out _ (rd_below hR L0)).mono ?_; rintro e w1 ⟨rfl, b1⟩
    have s1 := b1.size
    have L1 := bl_trans L0 b1
    replace B := B.keep b1
    have pB := B.cell
    go_wp2_with fail
    clear pB
    refine (CT.out _ (rd_below hR L1)).mono ?_; rintro e w2 ⟨⟨Ax, cx, rfl, Ox⟩, b2⟩
    have s2 := b2.size
    have L2 := bl_trans L1 b2
    replace B := B.keep b2
    go_wp2_with fail
    refine (CS.out _ _ _ Ox.reads).mono ?_; rintro e w3 ⟨⟨t0, rfl, ht0⟩, b3⟩
    have s3 := b3.size
    have L3 := bl_trans L2 b3
    replace B := B.keep b3
    replace Ox := Ox.keep b3
    have HT0 := Lib.hid ht0
    clear ht0
    have pB := B.cell
    go_wp2_with fail
    clear pB
    refine (CT.out _ (rd_below hR L3)).mono ?_; rintro e w4 ⟨⟨Ap, cp, rfl, Op⟩, b4⟩
    have s4 := b4.size
    have L4 := bl_trans L3 b4
    replace B := B.keep b4
    go_wp2_with fail
    have P := Blk.new w4 30 #[.slice Ap zs.length cp]
    have b5 := bl_alloc (Below.refl w4.heap.size w4) (.cells #[.slice Ap zs.length cp] 30)
    generalize w4.alloc (.cells #[.slice Ap zs.length cp] 30) = w5 at P b5 ⊢
    have s5 := b5.size
    have L5 := bl_trans L4 b5
    replace B := B.keep b5
    replace Op := Op.keep b5
    have pP := P.cell
    go_wp2_with fail
    clear pP
    refine (CI.out _ _ _ Op.reads).mono ?_; rintro e w6 ⟨⟨t1, rfl, ht1⟩, b6⟩
    have s6 := b6.size
    have L6 := bl_trans L5 b6
    replace B := B.keep b6
    replace P := P.keep b6
    replace Op := Op.keep b6
    obtain rfl : t1 = t0 := ht1.same HT0.out
    clear ht1
    have ht : (t1 == t1) = true := by simp
    go_wp2_with fail
    refine wp_region_held_drew (S := (fun y => Below w6.heap.size w6 y)) (by kernel_rfl) ?_ (fun hHeld => ?_)
    · exact (Below.refl _ _).drew
    refine wpAnyH_take (i := 0) (oi := ⟨some 29, _, _, _, _, _⟩) (v := ?_) rfl (by kernel_rfl) (by kernel_rfl) (by kernel_rfl) (fun _ _ _ h => h) (Or.inl ⟨by rfl, ?_⟩) (by assumption) ?_
    case refine_2 => (intro w hSw; have p := (P.keep hSw).cell; have q := (B.keep hSw).cell; go_simp; first | done | with_reducible rfl)
    simp only [Act.put, List.setIfInBounds_toArray, List.set_cons_zero, List.set_cons_succ]
    refine wpAnyH_take (i := 1) (oi := ⟨some 30, _, _, _, _, _⟩) (v := ?_) rfl (by kernel_rfl) (by kernel_rfl) (by kernel_rfl) (fun _ _ _ h => h) (Or.inl ⟨by rfl, ?_⟩) (by assumption) ?_
    case refine_2 => (intro w hSw; have p := (P.keep hSw).cell; have q := (B.keep hSw).cell; go_simp; first | done | with_reducible rfl)
    simp only [Act.put, List.setIfInBounds_toArray, List.set_cons_zero, List.set_cons_succ]
    refine wpAnyH_ready (rs := [2]) (by kernel_rfl) (by simp) ?_
    refine AllReadyH.cons (o := ⟨some 31, _, _, _, _, _⟩) rfl (fun K hK => ?_) AllReadyH.nil
    go_simp
    refine (CT.out _ (rd_below hR (bl_trans L6 hHeld))).mono ?_; rintro e u1 ⟨⟨Ae, ce, rfl, Oe⟩, bu1⟩
    go_wp2_with fail
    refine hK.out _ _ (bl_trans hHeld bu1) (fun hHeld => ?_)
    clear hK K
    try simp only [Act.put, List.setIfInBounds_toArray, List.set_cons_zero, List.set_cons_succ]
    refine wpAnyH_ready (rs := [3]) (by kernel_rfl) (by simp) ?_
    refine AllReadyH.cons (o := ⟨some 32, _, _, _, _, _⟩) rfl (fun K hK => ?_) AllReadyH.nil
    go_simp
    refine (CN.out _ _ _ _ _ (Op.keep hHeld).reads Oe.reads).mono ?_; rintro e w7 ⟨rfl, bu2⟩
    go_wp2_with fail
    refine hK.out _ _ (bl_trans hHeld bu2) (fun hHeld => ?_)
    clear hK K
    try simp only [Act.put, List.setIfInBounds_toArray, List.set_cons_zero, List.set_cons_succ]
    refine wpAnyH_take (i := 4) (oi := ⟨some 33, _, _, _, _, _⟩) (v := ?_) rfl (by kernel_rfl) (by kernel_rfl) (by kernel_rfl) (fun _ _ _ h => h) (Or.inl ⟨by rfl, ?_⟩) (by assumption) ?_
    case refine_2 => (intro w hSw; skip; go_simp; first | done | with_reducible rfl)
    simp only [Act.put, List.setIfInBounds_toArray, List.set_cons_zero, List.set_cons_succ]
    refine wpAnyH_done (by kernel_rfl) ?_ _
    have b7 := hHeld
    clear hHeld
    have s7 := b7.size
    have L7 := bl_trans L6 b7
    replace B := B.keep b7
    replace P := P.keep b7
    replace Op := Op.keep b7
    go_wp2_with fail
    go_ret
    exact ⟨rfl, L7⟩

set_option maxRecDepth 100000 in
theorem FnExactNfaMatches_args {H : Type} {enc : TypeId × Value → H} (W : World) (base : Nat) (args : Array Value) (ds : List (DataW H)) (p : List MemPlace)
    (hval : ∀ (j : Nat) t v, Try.f6.params[j]? = some t → args[j]? = some v → Value.okWide Try.checked.prog W .any base t v)
    (hA : DataW.TrodAll enc Try.checked.prog W 0 (fun _ => true) true Try.f6.params.toList args.toList ds p) :
    Calls Try.checked.prog 6 args W fun e W' => e = .returned (.bool true) ∧ Below W.heap.size W W' := by
  rw [Try.params6] at hA hval
  obtain ⟨v0, v1, d0, d1, p0, p1, rfl, rfl, rfl, h0, h1⟩ := trodAll_two hA
  obtain ⟨A, cz, zs, rfl, hR, hx, hn⟩ := open_nfa W v0 d0 p0 (hval 0 24 v0 rfl rfl) h0
  obtain ⟨s, rfl, rfl, rfl, hs⟩ := open_string Try.underlying9 (hval 1 9 v1 rfl rfl) h1
  exact FnExactNfaMatches_walk A cz zs s W hR hx hn hs

set_option maxRecDepth 100000 in
theorem FnExactNfaMatches_holds : Rows.FnExactNfaMatchesSaid :=
  OpenClaim.holds_of_wide 6 Try.f6 rfl rfl rfl rfl rfl rfl rfl ⟨rfl, rfl, rfl, rfl, rfl⟩ rfl rfl rfl rfl rfl (by kernel_rfl) Try.func6 (by kernel_rfl)
    (of_decide_eq_true (by kernel_rfl)) (by unfold Func.isWrapper; rw [if_neg (of_decide_eq_false (by kernel_rfl))]; exact ⟨rfl, rfl⟩)
    (fun os started H enc _ => law_lift 6 Try.f6 Rows.fnExactNfaMatchesSpec 4 own laidOut started (by kernel_rfl) Try.func6 (by kernel_rfl) rfl (by kernel_rfl) Try.underlying4
      (fun ds h => by
        have hl : ds.length = 2 := h.trans (by kernel_rfl)
        obtain ⟨a, b, rfl⟩ := len2 hl
        rfl)
      (ChangeSpec.witness6 (enc := enc) (C := Try.checked) false ⟨#[], #[.agg #[.slice none 0 0], .string ⟨#[]⟩], []⟩ 8 (by kernel_rfl) (by kernel_rfl) (by kernel_rfl) (by kernel_rfl))
      FnExactNfaMatches_args)
#print axioms FnExactNfaMatches_holds

end Go.Proofs.Ytnoekbgmhnhneaa
