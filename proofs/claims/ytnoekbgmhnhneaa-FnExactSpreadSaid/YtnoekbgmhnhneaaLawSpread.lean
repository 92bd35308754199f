/- FnExactSpread: the program's Spread returns what the reference's returns, for all arguments, changes no argument, and its result is its own. -/
import Derived.Test.YtnoekbgmhnhneaaLift
import Derived.Test.YtnoekbgmhnhneaaSpT
import Derived.Test.YtnoekbgmhnhneaaSpJ
import Derived.Test.YtnoekbgmhnhneaaZintM
import Derived.Test.YtnoekbgmhnhneaaNfaM
import Derived.Test.YtnoekbgmhnhneaaOpenR
import Derived.Test.YtnoekbgmhnhneaaOpenB
import Derived.Deep.RegionHeld3
namespace Go.Proofs.Ytnoekbgmhnhneaa
open Go.ChangeShapes Go.WideShapes Go.ChangeAt Go.RowKit
set_option maxRecDepth 100000 in
theorem open_nfa {H : Type} {enc : TypeId × Value → H} (W : World) {r : Reach} {b0 : Nat} (v : Value) (d : DataW H) (ps : List MemPlace) (hval : Value.okWide Try.checked.prog W r b0 24 v) (h : DataW.Trod enc Try.checked.prog W 0 (fun _ => true) true 24 v d ps) :
    ∃ (A : Option Addr) (c : Nat) (zs : List (Int × ByteArray × Int × Int)), v = .agg #[.slice A zs.length c] ∧ Reads W W.heap.size 4 A zs.length (flat nodeC zs) ∧ (∀ z ∈ zs, z.2.1.size ≤ 9223372036854775807) ∧ zs.length ≤ 9223372036854775807 := by
  obtain ⟨cs, fuel, rfl, hf⟩ := open_cells Try.underlying24 hval h
  obtain ⟨n', _, hcl, hF⟩ := trod_fields Try.underlying24 (by kernel_rfl) hf
  have hcl1 : cs.toList.length = 1 := hcl.trans (by kernel_rfl)
  obtain ⟨c0, hc0⟩ : ∃ c0, cs.toList = [c0] := by
    match cs.toList, hcl1 with
    | [c0], _ => exact ⟨c0, rfl⟩
  rw [hc0] at hF
  obtain ⟨y, hy⟩ := hF 0 _ rfl c0 rfl
  obtain ⟨A, c, zs, rfl, hR, hQ, hl⟩ := open_rows (Q := fun z : (Int × ByteArray × Int × Int) => z.2.1.size ≤ 9223372036854775807) nodeC_len (by omega) Try.underlying22 (e := 97) (by kernel_rfl) (fun n cs y _ _ hy => by
    obtain ⟨n', _, hcl, hF⟩ := trod_fields Try.underlying97 (by kernel_rfl) hy
    obtain ⟨c0, c1, c2, c3, rfl⟩ := len_4 (hcl.trans (by kernel_rfl) : cs.length = 4)
    obtain ⟨y0, h0⟩ := hF 0 _ rfl c0 rfl
    obtain ⟨y1, h1⟩ := hF 1 _ rfl c1 rfl
    obtain ⟨y2, h2⟩ := hF 2 _ rfl c2 rfl
    obtain ⟨y3, h3⟩ := hF 3 _ rfl c3 rfl
    obtain ⟨k, e0, _, _⟩ := DataW.trod_int Try.underlying3 h0
    obtain ⟨s, e1, _, w1⟩ := DataW.trod_string Try.underlying9 h1
    obtain ⟨a, e2, _, _⟩ := DataW.trod_int Try.underlying3 h2
    obtain ⟨b, e3, _, _⟩ := DataW.trod_int Try.underlying3 h3
    simp only [List.cons.injEq, and_true] at e0 e1 e2 e3
    subst e0 e1 e2 e3
    exact ⟨(k, s, a, b), by unfold maxLen at w1; exact w1, rfl⟩) hy
  exact ⟨A, c, zs, congrArg Value.agg (Array.toList_inj.1 (hc0.trans rfl)), hR, hQ, hl⟩

set_option maxRecDepth 100000 in
set_option maxHeartbeats 8000000 in
theorem FnExactSpread_walk (A : Option Addr) (cz : Nat) (zs : List (Int × ByteArray × Int × Int)) (Al : Option Addr) (cl : Nat) (l : List Int) (c sz : Int) (w : World) (hR : Reads w w.heap.size 4 A zs.length (flat nodeC zs)) (hx : ∀ z ∈ zs, z.2.1.size ≤ 9223372036854775807) (hn : zs.length ≤ 9223372036854775807) (hRl : Reads w w.heap.size 1 Al l.length (zints l)) (hln : l.length ≤ 9223372036854775807) :
    Calls Try.prog 3 #[.agg #[.slice A zs.length cz], .slice Al l.length cl, .int .i64 c, .int .i64 sz] w fun e w' => e = .returned (.bool true) ∧ Below w.heap.size w w' := by
  by_cases hl : ¬ l.length ≤ 1048576
  · have hl' : ¬ (l.length : Int) ≤ 1048576 := by omega
    have L0 := bl_alloc (Below.refl w.heap.size w) (.cells #[.slice A zs.length cz] 24)
    go_enter Try.func3, Try.ntmps3
    go_wp2_with fail
    go_ret
    exact ⟨rfl, L0⟩
  replace hl : l.length ≤ 1048576 := by omega
  have hl' : (l.length : Int) ≤ 1048576 := by omega
  have cZ := fun w h => szNfa_any A cz 1048576 zs w h hx hn (by omega) (by omega)
  obtain ⟨z, hz⟩ : ∃ z, (if szS 1048576 (nodeS zs) < 0 then -1 else szS 1048576 (nodeS zs)) = z := ⟨_, rfl⟩
  rw [hz] at cZ
  have CZ := Lib.hid cZ
  clear cZ
  by_cases hc : z < 0
  · clear hz
    have B := Blk.new w 24 #[.slice A zs.length cz]
    have L0 := bl_alloc (Below.refl w.heap.size w) (.cells #[.slice A zs.length cz] 24)
    go_enter Try.func3, Try.ntmps3
    go_wp2_with fail
    refine (CZ.out _ (rd_below hR L0)).mono ?_; rintro e w1 ⟨rfl, b1⟩
    go_wp2_with fail
    go_ret
    exact ⟨rfl, bl_trans L0 b1⟩
  · have hs := szS_sum (nodeS zs) 1048576 (by
      intro h
      rw [if_pos h] at hz
      omega)
    rw [show (nodeS zs).length = zs.length by simp [nodeS]] at hs
    have hn2 : zs.length ≤ 1048576 := by omega
    clear hz hs
    have CT := Lib.hid fun w h => toNfa_any A cz zs w h (by omega)
    have CTZ := Lib.hid fun w h => toZ_any l Al cl w (by omega) h
    have CN := Lib.hid fun A A' c c' w h h' => eqNfa_any A A' c c' zs w h h' (by omega)
    have CEL := Lib.hid fun A A' c c' w h h' => eqZ_any l A A' c c' w (by omega) h h'
    have CS := Lib.hid fun A B0 cz cl w h h' => sSpread zs l c sz A B0 cz cl w hn2 hx (by omega) h h'
    have CI := Lib.hid fun A B0 cz cl w h h' => iSpread zs l c sz A B0 cz cl w hn2 hx (by omega) h h'
    have cMN := fun lo hi A c w h => markNfa_any lo hi A c zs w h hn2
    have hKb : 1 + 4 * zs.length ≤ 4194305 := by omega
    generalize 1 + 4 * zs.length = K at cMN hKb
    have cML := fun A c w lo hi h => markZ_any l A c K lo hi w (by omega) (by omega) h
    generalize K + l.length = K2 at cML
    have hK2 : (0 : Int) ≤ (K2 : Int) := by omega
    have CMN := Lib.hid cMN
    have CML := Lib.hid cML
    clear cMN cML hKb
    go_enter Try.func3, Try.ntmps3
    have B := Blk.new w 24 #[.slice A zs.length cz]
    have L0 := bl_alloc (Below.refl w.heap.size w) (.cells #[.slice A zs.length cz] 24)
    have hw0 : w.heap.size < (w.alloc (.cells #[.slice A zs.length cz] 24)).heap.size := by rw [alloc_size]; exact Nat.lt_succ_self _
    go_wp2_with fail
    refine (CZ.out _ (rd_below hR L0)).mono ?_; rintro e w1 ⟨rfl, b1⟩
    have s1 := b1.size
    have L1 := bl_trans L0 b1
    replace B := B.keep b1
    have pB := B.cell
    go_wp2_with fail
    clear pB
    refine (CT.out _ (rd_below hR L1)).mono ?_; rintro e w2 ⟨⟨Ax, cx, rfl, Ox⟩, b2⟩
    have s2 := b2.size
    have L2 := bl_trans L1 b2
    replace B := B.keep b2
    go_wp2_with fail
    refine (CTZ.out _ (rd_below hRl L2)).mono ?_; rintro e w3 ⟨⟨vy, my, rfl, hmy, Oy⟩, b3⟩
    subst hmy
    obtain ⟨Ay, cy, rfl⟩ := Oy.form
    have s3 := b3.size
    have L3 := bl_trans L2 b3
    replace B := B.keep b3
    replace Ox := Ox.keep b3
    go_wp2_with fail
    refine (CS.out _ _ _ _ _ Ox.reads Oy.reads).mono ?_; rintro e w4 ⟨⟨Aw, cw, W0, rfl, hW0, Rw⟩, b4⟩
    have s4 := b4.size
    have L4 := bl_trans L3 b4
    replace B := B.keep b4
    replace Ox := Ox.keep b4
    replace Oy := Oy.keep b4
    have hT : ∃ T, T = w4.heap.size := ⟨_, rfl⟩
    obtain ⟨T, hT⟩ := hT
    rw [← hT] at Rw
    have HW0 := Lib.hid hW0
    have hWl : W0.length ≤ 1048577 := by have := sprO_len hW0; omega
    clear hW0
    have pB := B.cell
    go_wp2_with fail
    clear pB
    refine (CT.out _ (rd_below hR L4)).mono ?_; rintro e w5 ⟨⟨Ap, cp, rfl, Op⟩, b5⟩
    have s5 := b5.size
    have L5 := bl_trans L4 b5
    replace B := B.keep b5
    replace Rw := Rw.below (b5.mono (by omega))
    go_wp2_with fail
    have P := Blk.new w5 30 #[.slice Ap zs.length cp]
    have b6 := bl_alloc (Below.refl w5.heap.size w5) (.cells #[.slice Ap zs.length cp] 30)
    have hP : w5.heap.size < (w5.alloc (.cells #[.slice Ap zs.length cp] 30)).heap.size := by rw [alloc_size]; exact Nat.lt_succ_self _
    generalize w5.alloc (.cells #[.slice Ap zs.length cp] 30) = w6 at P b6 hP ⊢
    have s6 := b6.size
    have L6 := bl_trans L5 b6
    replace B := B.keep b6
    replace Op := Op.keep b6
    replace Rw := Rw.below (b6.mono (by omega))
    refine (CTZ.out _ (rd_below hRl L6)).mono ?_; rintro e w7 ⟨⟨vz, mz, rfl, hmz, Oz⟩, b7⟩
    subst hmz
    obtain ⟨Az, cz, rfl⟩ := Oz.form
    have s7 := b7.size
    have L7 := bl_trans L6 b7
    replace B := B.keep b7
    replace P := P.keep b7
    replace Op := Op.keep b7
    replace Rw := Rw.below (b7.mono (by omega))
    have pP := P.cell
    go_wp2_with fail
    clear pP
    refine (CI.out _ _ _ _ _ Op.reads Oz.reads).mono ?_; rintro e w8 ⟨⟨vg, W1, rfl, hW1, Og⟩, b8⟩
    have s8 := b8.size
    have L8 := bl_trans L7 b8
    replace B := B.keep b8
    replace P := P.keep b8
    replace Op := Op.keep b8
    replace Oz := Oz.keep b8
    replace Rw := Rw.below (b8.mono (by omega))
    obtain rfl : W1 = W0 := SprO.same hW1 HW0.out
    clear hW1
    obtain ⟨Ag, cg, rfl⟩ := Og.form
    have cE := fun A A' c c' w h h' => eqZ_any W1 A A' c c' w hWl h h'
    have CE := Lib.hid cE
    clear cE
    have cMG := fun A c w lo hi h => markZ_any W1 A c 1 lo hi w hWl (by omega) h
    have cH := fun A c w h => heldIntS_any W1.length 1 c A w hWl (by omega) h
    have hK3 : (0 : Int) ≤ ((1 + W1.length : Nat) : Int) := by omega
    generalize 1 + W1.length = K3 at cMG cH hK3
    have CMG := Lib.hid cMG
    have CH := Lib.hid cH
    clear cMG cH
    go_wp2_with fail
    refine (CE.out _ _ _ _ _ Og.reads (Rw.more (by omega))).mono ?_; rintro e w9 ⟨rfl, b9⟩
    have s9 := b9.size
    have L9 := bl_trans L8 b9
    replace B := B.keep b9
    replace P := P.keep b9
    replace Op := Op.keep b9
    replace Oz := Oz.keep b9
    replace Og := Og.keep b9
    replace Rw := Rw.below (b9.mono (by omega))
    go_wp2_with fail
    refine wp_region_held_drew (S := (fun y => Below w9.heap.size w9 y)) (by kernel_rfl) ?_ (fun hHeld => ?_)
    · exact (Below.refl _ _).drew
    refine wpAnyH_take (i := 0) (oi := ⟨some 46, _, _, _, _, _⟩) (v := ?_) rfl (by kernel_rfl) (by kernel_rfl) (by kernel_rfl) (fun _ _ _ h => h) (Or.inl ⟨by rfl, ?_⟩) (by assumption) ?_
    case refine_2 => (intro w hSw; have p := (P.keep hSw).cell; have q := (B.keep hSw).cell; go_simp; first | done | with_reducible rfl)
    simp only [Act.put, List.setIfInBounds_toArray, List.set_cons_zero, List.set_cons_succ]
    refine wpAnyH_take (i := 1) (oi := ⟨some 47, _, _, _, _, _⟩) (v := ?_) rfl (by kernel_rfl) (by kernel_rfl) (by kernel_rfl) (fun _ _ _ h => h) (Or.inl ⟨by rfl, ?_⟩) (by assumption) ?_
    case refine_2 => (intro w hSw; have p := (P.keep hSw).cell; have q := (B.keep hSw).cell; go_simp; first | done | with_reducible rfl)
    simp only [Act.put, List.setIfInBounds_toArray, List.set_cons_zero, List.set_cons_succ]
    refine wpAnyH_ready (rs := [2]) (by kernel_rfl) (by simp) ?_
    refine AllReadyH.cons (o := ⟨some 48, _, _, _, _, _⟩) rfl (fun K hK => ?_) AllReadyH.nil
    go_simp
    refine (CT.out _ (rd_below hR (bl_trans L9 hHeld))).mono ?_; rintro e u1 ⟨⟨Ae, ce, rfl, Oe⟩, bu1⟩
    go_wp2_with fail
    refine hK.out _ _ (bl_trans hHeld bu1) (fun hHeld => ?_)
    clear hK K
    try simp only [Act.put, List.setIfInBounds_toArray, List.set_cons_zero, List.set_cons_succ]
    refine wpAnyH_ready (rs := [3]) (by kernel_rfl) (by simp) ?_
    refine AllReadyH.cons (o := ⟨some 49, _, _, _, _, _⟩) rfl (fun K hK => ?_) AllReadyH.nil
    go_simp
    refine (CN.out _ _ _ _ _ (Op.keep hHeld).reads Oe.reads).mono ?_; rintro e w10 ⟨rfl, bu2⟩
    go_wp2_with fail
    refine hK.out _ _ (bl_trans hHeld bu2) (fun hHeld => ?_)
    clear hK K
    try simp only [Act.put, List.setIfInBounds_toArray, List.set_cons_zero, List.set_cons_succ]
    refine wpAnyH_take (i := 4) (oi := ⟨some 50, _, _, _, _, _⟩) (v := ?_) rfl (by kernel_rfl) (by kernel_rfl) (by kernel_rfl) (fun _ _ _ h => h) (Or.inl ⟨by rfl, ?_⟩) (by assumption) ?_
    case refine_2 => (intro w hSw; skip; go_simp; first | done | with_reducible rfl)
    simp only [Act.put, List.setIfInBounds_toArray, List.set_cons_zero, List.set_cons_succ]
    refine wpAnyH_done (by kernel_rfl) ?_ _
    have b10 := hHeld
    clear hHeld
    have s10 := b10.size
    have L10 := bl_trans L9 b10
    replace B := B.keep b10
    replace P := P.keep b10
    replace Op := Op.keep b10
    replace Oz := Oz.keep b10
    replace Og := Og.keep b10
    replace Rw := Rw.below (b10.mono (by omega))
    go_wp2_with fail
    refine (CTZ.out _ (rd_below hRl L10)).mono ?_; rintro e w11 ⟨⟨va, ma, rfl, hma, Oa⟩, b11⟩
    subst hma
    obtain ⟨Aa, ca, rfl⟩ := Oa.form
    have s11 := b11.size
    have L11 := bl_trans L10 b11
    replace B := B.keep b11
    replace P := P.keep b11
    replace Op := Op.keep b11
    replace Oz := Oz.keep b11
    replace Og := Og.keep b11
    replace Rw := Rw.below (b11.mono (by omega))
    go_wp2_with fail
    refine (CEL.out _ _ _ _ _ Oz.reads Oa.reads).mono ?_; rintro e w12 ⟨rfl, b12⟩
    have s12 := b12.size
    have L12 := bl_trans L11 b12
    replace B := B.keep b12
    replace P := P.keep b12
    replace Op := Op.keep b12
    replace Oz := Oz.keep b12
    replace Og := Og.keep b12
    replace Oa := Oa.keep b12
    replace Rw := Rw.below (b12.mono (by omega))
    have pP := P.cell
    go_wp2_with fail
    clear pP
    refine (CMN.out _ _ _ _ _ Op).mono ?_; rintro e w13 ⟨rfl, g13⟩
    have hp := fun k h => And.intro (Op.1.lt k h).1 (Op.2 k h)
    have s13 := g13.size
    have L13 := bl_gr L12 g13 (fun k h => by have := hp k h; omega)
    replace Rw := Rw.grown g13 (by omega) (fun k h => by have := hp k h; omega)
    replace Oz := Oz.far g13 (fun k h => by have := hp k h; omega)
    replace Og := Og.far g13 (fun k h => by have := hp k h; omega)
    replace B := B.grown g13 (fun h => by have := hp _ h.symm; omega)
    clear hp Op P
    go_wp2_with fail
    refine (CML.out _ _ _ _ _ Oz).mono ?_; rintro e w14 ⟨⟨rfl, Oz2⟩, g14⟩
    have hp := fun k h => And.intro (Oz.1.lt k h).1 (Oz.2 k h)
    have s14 := g14.size
    have L14 := bl_gr L13 g14 (fun k h => by have := hp k h; omega)
    replace Rw := Rw.grown g14 (by omega) (fun k h => by have := hp k h; omega)
    replace Og := Og.far g14 (fun k h => by have := hp k h; omega)
    replace B := B.grown g14 (fun h => by have := hp _ h.symm; omega)
    clear hp Oz Oz2
    go_wp2_with fail
    refine (CE.out _ _ _ _ _ Og.reads (Rw.more (by omega))).mono ?_; rintro e w15 ⟨rfl, b15⟩
    have s15 := b15.size
    have L15 := bl_trans L14 b15
    replace B := B.keep b15
    replace Og := Og.keep b15
    replace Rw := Rw.below (b15.mono (by omega))
    go_wp2_with fail
    refine (CMG.out _ _ _ _ _ Og).mono ?_; rintro e w16 ⟨⟨rfl, Og2⟩, g16⟩
    have hp := fun k h => And.intro (Og.1.lt k h).1 (Og.2 k h)
    have s16 := g16.size
    have L16 := bl_gr L15 g16 (fun k h => by have := hp k h; omega)
    replace Rw := Rw.grown g16 (by omega) (fun k h => by have := hp k h; omega)
    replace B := B.grown g16 (fun h => by have := hp _ h.symm; omega)
    clear hp Og
    have Og := Og2
    clear Og2
    go_wp2_with fail
    refine (CH.out _ _ _ Og.reads).mono ?_; rintro e w17 ⟨rfl, b17⟩
    have s17 := b17.size
    have L17 := bl_trans L16 b17
    replace B := B.keep b17
    replace Og := Og.keep b17
    replace Rw := Rw.below (b17.mono (by omega))
    have pB := B.cell
    go_wp2_with fail
    clear pB
    refine (CT.out _ (rd_below hR L17)).mono ?_; rintro e w18 ⟨⟨Ad, cd, rfl, Od⟩, b18⟩
    have s18 := b18.size
    have L18 := bl_trans L17 b18
    replace B := B.keep b18
    replace Og := Og.keep b18
    replace Rw := Rw.below (b18.mono (by omega))
    go_wp2_with fail
    refine (CTZ.out _ (rd_below hRl L18)).mono ?_; rintro e w19 ⟨⟨vf, mf, rfl, hmf, Of⟩, b19⟩
    subst hmf
    obtain ⟨Af, cf, rfl⟩ := Of.form
    have s19 := b19.size
    have L19 := bl_trans L18 b19
    replace B := B.keep b19
    replace Og := Og.keep b19
    replace Od := Od.keep b19
    replace Rw := Rw.below (b19.mono (by omega))
    go_wp2_with fail
    refine (CI.out _ _ _ _ _ Od.reads Of.reads).mono ?_; rintro e w20 ⟨⟨vg, W2, rfl, hW2, Oh⟩, b20⟩
    have s20 := b20.size
    have L20 := bl_trans L19 b20
    replace B := B.keep b20
    replace Og := Og.keep b20
    replace Od := Od.keep b20
    replace Of := Of.keep b20
    replace Rw := Rw.below (b20.mono (by omega))
    obtain rfl : W2 = W1 := SprO.same hW2 HW0.out
    clear hW2
    obtain ⟨Ah, ch, rfl⟩ := Oh.form
    go_wp2_with fail
    refine (CE.out _ _ _ _ _ Oh.reads (Rw.more (by omega))).mono ?_; rintro e w21 ⟨rfl, b21⟩
    have s21 := b21.size
    have L21 := bl_trans L20 b21
    replace B := B.keep b21
    replace Og := Og.keep b21
    replace Oh := Oh.keep b21
    replace Rw := Rw.below (b21.mono (by omega))
    go_wp2_with fail
    refine (CH.out _ _ _ Og.reads).mono ?_; rintro e w22 ⟨rfl, b22⟩
    have s22 := b22.size
    have L22 := bl_trans L21 b22
    replace B := B.keep b22
    replace Og := Og.keep b22
    replace Oh := Oh.keep b22
    replace Rw := Rw.below (b22.mono (by omega))
    go_wp2_with fail
    go_ret
    exact ⟨rfl, L22⟩

set_option maxRecDepth 100000 in
theorem FnExactSpread_args {H : Type} {enc : TypeId × Value → H} (W : World) (base : Nat) (args : Array Value) (ds : List (DataW H)) (p : List MemPlace)
    (hval : ∀ (j : Nat) t v, Try.f3.params[j]? = some t → args[j]? = some v → Value.okWide Try.checked.prog W .any base t v)
    (hA : DataW.TrodAll enc Try.checked.prog W 0 (fun _ => true) true Try.f3.params.toList args.toList ds p) :
    Calls Try.checked.prog 3 args W fun e W' => e = .returned (.bool true) ∧ Below W.heap.size W W' := by
  rw [Try.params3] at hA hval
  obtain ⟨v0, v1, v2, v3, d0, d1, d2, d3, p0, p1, p2, p3, rfl, rfl, rfl, h0, h1, h2, h3⟩ := trodAll_four hA
  obtain ⟨A, cz, zs, rfl, hR, hx, hn⟩ := open_nfa W v0 d0 p0 (hval 0 24 v0 rfl rfl) h0
  obtain ⟨Al, cl, l, rfl, hRl, _, hln⟩ := open_nums Try.underlying25 Try.underlying3 (by kernel_rfl) (hval 1 25 v1 rfl rfl) h1
  obtain ⟨c, rfl, rfl, rfl, _⟩ := open_int Try.underlying3 (hval 2 3 v2 rfl rfl) h2
  obtain ⟨sz, rfl, rfl, rfl, _⟩ := open_int Try.underlying3 (hval 3 3 v3 rfl rfl) h3
  exact FnExactSpread_walk A cz zs Al cl l c sz W hR hx hn hRl hln
set_option maxRecDepth 100000 in
theorem FnExactSpread_holds : Rows.FnExactSpreadSaid :=
  OpenClaim.holds_of_wide 3 Try.f3 rfl rfl rfl rfl rfl rfl rfl ⟨rfl, rfl, rfl, rfl, rfl⟩ rfl rfl rfl rfl rfl (by kernel_rfl) Try.func3 (by kernel_rfl)
    (of_decide_eq_true (by kernel_rfl)) (by unfold Func.isWrapper; rw [if_neg (of_decide_eq_false (by kernel_rfl))]; exact ⟨rfl, rfl⟩)
    (fun os started H enc _ => law_lift 3 Try.f3 Rows.fnExactSpreadSpec 4 own laidOut started (by kernel_rfl) Try.func3 (by kernel_rfl) rfl (by kernel_rfl) Try.underlying4
      (fun ds h => by
        have hl : ds.length = 4 := h.trans (by kernel_rfl)
        obtain ⟨a, b, c, d, rfl⟩ := len4 hl
        rfl)
      (ChangeSpec.witness6 (enc := enc) (C := Try.checked) false ⟨#[], #[.agg #[.slice none 0 0], .slice none 0 0, .int .i64 0, .int .i64 0], []⟩ 8 (by kernel_rfl) (by kernel_rfl) (by kernel_rfl) (by kernel_rfl))
      FnExactSpread_args)
#print axioms FnExactSpread_holds


end Go.Proofs.Ytnoekbgmhnhneaa
