/- FnExactNfaOf: the program's NfaOf returns what the reference's returns, for all arguments, changes no argument, and its result is its own. No condition. -/
import Derived.Test.YtnoekbgmhnhneaaLift
import Derived.Test.YtnoekbgmhnhneaaNfaOf
import Derived.Test.YtnoekbgmhnhneaaRexToC
import Derived.Test.YtnoekbgmhnhneaaRexEq
import Derived.Test.YtnoekbgmhnhneaaRexOp
import Derived.Test.YtnoekbgmhnhneaaRexMk
import Derived.Test.YtnoekbgmhnhneaaNfaH
import Derived.Test.YtnoekbgmhnhneaaNfaB
import Derived.Deep.RegionHeld3
import Derived.Deep.CutRange
namespace Go.Proofs.Ytnoekbgmhnhneaa
open Go.ChangeShapes Go.WideShapes Go.ChangeAt Go.RowKit

theorem small_of_wt : ∀ (fr : Fr (Int × ByteArray)), wt gRex fr ≤ 1048576 → FrOk qSmall fr
  | .nil, _ => trivial
  | .cons a k r, h => by
    simp only [wt, gRex] at h
    have := len_wt gRex k
    exact ⟨by show a.2.size ≤ _; omega, by omega, small_of_wt k (by omega), small_of_wt r (by omega)⟩

theorem row_block {w w' : World} {lo hi size n : Nat} {e : TypeId} {v : Value} {xs : List Value} (h : Row w lo hi e size v n xs) (hb : ∀ g, lo ≤ g → g < hi → w'.heap[g]? = w.heap[g]?) : Row w' lo hi e size v n xs := by
  refine ⟨⟨h.1.1, ?_⟩, h.2⟩
  rcases h.1.2 with hn | ⟨g, cap, cur, rfl, hb0, hgg, rest⟩
  · exact .inl hn
  · exact .inr ⟨g, cap, cur, rfl, hb0, (hb g hb0 (h.2 g rfl)).trans hgg, rest⟩

set_option maxRecDepth 100000 in
set_option maxHeartbeats 8000000 in
theorem FnExactNfaOf_walk (zk : Int) (zs : ByteArray) (kids : Fr (Int × ByteArray)) (A : Option Addr) (c : Nat) (w : World) (hS : Sl rexC w 0 w.heap.size A kids) (hl : kids.len ≤ 9223372036854775807) (hq : FrOk qRex kids) (ht : zs.size ≤ 9223372036854775807) :
    Calls Try.prog 4 #[.agg #[.int .i64 zk, .string zs, .slice A kids.len c]] w fun e w' => e = .returned (.bool true) ∧ Below w.heap.size w w' := by
  have B := Blk.new w 40 #[.int .i64 zk, .string zs, .slice A kids.len c]
  have L0 := bl_alloc (Below.refl w.heap.size w) (.cells #[.int .i64 zk, .string zs, .slice A kids.len c] 40)
  have cZ := fun w h => szRex_of zk zs kids A c 1048576 w ht (by omega) (by omega) h (fun w' left h0 h1 h => szRexS_any kids.size kids (Nat.le_refl _) hl hq A c left w' h0 h1 h)
  obtain ⟨z, hz⟩ : ∃ z, left_ 1048576 (zs.size + wt gRex kids) = z := ⟨_, rfl⟩
  rw [hz] at cZ
  have CZ := Lib.hid cZ
  clear cZ
  by_cases hc : z < 0
  case pos =>
    clear hz
    go_enter Try.func4, Try.ntmps4
    go_wp2_with fail
    refine (CZ.out _ ((hS.below L0 (Nat.le_refl _)).more (Nat.le_refl _) L0.size)).mono ?_; rintro e w1 ⟨rfl, b1⟩
    go_wp2_with fail
    go_ret
    exact ⟨rfl, bl_trans L0 b1⟩
  have hp := left_pos (by rw [hz]; exact hc)
  have hw := size_wt gRex kids
  have hks : kids.size ≤ 1048576 := by omega
  have htt : zs.size ≤ 1048576 := by omega
  have hsm : FrOk qSmall kids := small_of_wt kids (by omega)
  clear hz hp hw
  have CC := Lib.hid fun w h => toRexC_of zk zs kids A c w h (fun w' h' => toRexCS_any kids.size hks kids A c w' (Nat.le_refl _) h')
  have CE := Lib.hid fun A A' c c' w h h' => eqRex_of zk zs kids A A' c c' w h h' (fun w' h h' => eqRexS_any kids.size hks kids (Nat.le_refl _) A A' c c' w' h h')
  have cM := fun lo hi A c w hh hS => markRex_any zk zs kids A c 1 lo hi w hks (by omega) hh hS
  obtain ⟨kq, hkq⟩ : ∃ kq : Int, ((1 + 2 * kids.size : Nat) : Int) = kq := ⟨_, rfl⟩
  rw [hkq] at cM
  have hkq0 : ¬ kq < 0 := by omega
  have CM := Lib.hid cM
  clear hkq cM
  have cS := fun A c w h => sNfaOf zk zs kids A c w hks htt hsm h
  have cI := fun A c w hc h => iNfaOf zk zs kids A c w hks htt hsm hc h
  have hnl := nfaL_len zk zs kids
  generalize nfaL zk zs kids = ns at cS cI hnl
  have CS := Lib.hid cS
  have CI := Lib.hid cI
  clear cS cI
  have CQ := Lib.hid fun A A' c c' w h h' => eqNfa_any A A' c c' ns w h h' (by omega)
  have cG := fun lo hi A c w h => markNfaM lo hi A c ns w h (by omega)
  have cH := fun A c w h => heldNfa_any A c ns.length w (by omega) h
  obtain ⟨mq, hmq⟩ : ∃ mq : Int, ((1 + 4 * ns.length : Nat) : Int) = mq := ⟨_, rfl⟩
  rw [hmq] at cG cH
  have hmq0 : ¬ mq < 0 := by omega
  have CG := Lib.hid cG
  have CH := Lib.hid cH
  clear hmq cG cH hnl
  go_enter Try.func4, Try.ntmps4
  go_wp2_with fail
  refine (CZ.out _ ((hS.below L0 (Nat.le_refl _)).more (Nat.le_refl _) L0.size)).mono ?_; rintro e w1 ⟨rfl, b1⟩
  have s1 := b1.size
  have L1 := bl_trans L0 b1
  replace B := B.keep b1
  have pB := B.cell
  go_wp2_with fail
  clear pB
  refine (CC.out _ ((hS.below L1 (Nat.le_refl _)).more (Nat.le_refl _) L1.size)).mono ?_; rintro e w2 ⟨⟨Ax, cx, rfl, _, Ox⟩, b2⟩
  have s2 := b2.size
  have L2 := bl_trans L1 b2
  replace B := B.keep b2
  go_wp2_with fail
  refine (CS.out _ _ _ (Ox.2.to.more (Nat.zero_le _) (Nat.le_refl _))).mono ?_; rintro e w3 ⟨⟨A0, c0, rfl, Ow⟩, b3⟩
  have s3 := b3.size
  have L3 := bl_trans L2 b3
  replace B := B.keep b3
  clear Ox
  go_upto_region 6 with fail
  have Q := Blk.new w3 30 #[.slice A0 ns.length c0]
  have b4 := bl_alloc (Below.refl w3.heap.size w3) (.cells #[.slice A0 ns.length c0] 30)
  have z4 : w3.heap.size < (w3.alloc (.cells #[.slice A0 ns.length c0] 30)).heap.size := by rw [alloc_size]; exact Nat.lt_succ_self _
  generalize w3.alloc (.cells #[.slice A0 ns.length c0] 30) = w4 at Q b4 z4 ⊢
  have s4 := b4.size
  have L4 := bl_trans L3 b4
  replace B := B.keep b4
  replace Ow := Ow.keep b4
  have pB := B.cell
  go_wp2_with fail
  clear pB
  refine (CC.out _ ((hS.below L4 (Nat.le_refl _)).more (Nat.le_refl _) L4.size)).mono ?_; rintro e w5 ⟨⟨Ap, cp, rfl, hcp, Op⟩, b5⟩
  have s5 := b5.size
  have L5 := bl_trans L4 b5
  replace B := B.keep b5
  replace Q := Q.keep b5
  replace Ow := Ow.keep b5
  go_upto_region 7 with fail
  have P := Blk.new w5 45 #[.int .i64 zk, .string zs, .slice Ap kids.len cp]
  have b6 := bl_alloc (Below.refl w5.heap.size w5) (.cells #[.int .i64 zk, .string zs, .slice Ap kids.len cp] 45)
  have z6 : w5.heap.size < (w5.alloc (.cells #[.int .i64 zk, .string zs, .slice Ap kids.len cp] 45)).heap.size := by rw [alloc_size]; exact Nat.lt_succ_self _
  generalize w5.alloc (.cells #[.int .i64 zk, .string zs, .slice Ap kids.len cp] 45) = w6 at P b6 z6 ⊢
  have s6 := b6.size
  have L6 := bl_trans L5 b6
  replace B := B.keep b6
  replace Q := Q.keep b6
  replace Ow := Ow.keep b6
  replace Op := Op.below b6 (by omega)
  have pP := P.cell
  go_wp2_with fail
  clear pP
  refine (CI.out _ _ _ hcp (Op.2.more (Nat.zero_le _) (by omega))).mono ?_; rintro e w7 ⟨⟨Ag, cg, rfl, Og⟩, b7⟩
  have s7 := b7.size
  have L7 := bl_trans L6 b7
  replace B := B.keep b7
  replace Q := Q.keep b7
  replace P := P.keep b7
  replace Ow := Ow.keep b7
  replace Op := Op.below b7 (by omega)
  go_upto_region 8 with fail
  have G := Blk.new w7 30 #[.slice Ag ns.length cg]
  have b8 := bl_alloc (Below.refl w7.heap.size w7) (.cells #[.slice Ag ns.length cg] 30)
  have z8 : w7.heap.size < (w7.alloc (.cells #[.slice Ag ns.length cg] 30)).heap.size := by rw [alloc_size]; exact Nat.lt_succ_self _
  generalize w7.alloc (.cells #[.slice Ag ns.length cg] 30) = w8 at G b8 z8 ⊢
  have s8 := b8.size
  have L8 := bl_trans L7 b8
  replace B := B.keep b8
  replace Q := Q.keep b8
  replace P := P.keep b8
  replace Ow := Ow.keep b8
  replace Op := Op.below b8 (by omega)
  replace Og := Og.keep b8
  have pG := G.cell
  have pQ := Q.cell
  go_wp2_with fail
  clear pG
  clear pQ
  refine (CQ.out _ _ _ _ _ Og.reads Ow.reads).mono ?_; rintro e w9 ⟨rfl, b9⟩
  have s9 := b9.size
  have L9 := bl_trans L8 b9
  replace B := B.keep b9
  replace Q := Q.keep b9
  replace P := P.keep b9
  replace G := G.keep b9
  replace Ow := Ow.keep b9
  replace Op := Op.below b9 (by omega)
  replace Og := Og.keep b9
  go_wp2_with fail
  refine wp_region_held_drew (S := (fun y => Below w9.heap.size w9 y)) (by kernel_rfl) ?_ (fun hHeld => ?_)
  · exact (Below.refl _ _).drew
  refine wpAnyH_take (i := 0) (oi := ⟨some 27, _, _, _, _, _⟩) (v := ?_) rfl (by kernel_rfl) (by kernel_rfl) (by kernel_rfl) (fun _ _ _ h => h) (Or.inl ⟨by rfl, ?_⟩) (by assumption) ?_
  case refine_2 => (intro w hSw; have p := (P.keep hSw).cell; have q := (B.keep hSw).cell; go_simp; first | done | with_reducible rfl)
  simp only [Act.put, List.setIfInBounds_toArray, List.set_cons_zero, List.set_cons_succ]
  refine wpAnyH_take (i := 1) (oi := ⟨some 28, _, _, _, _, _⟩) (v := ?_) rfl (by kernel_rfl) (by kernel_rfl) (by kernel_rfl) (fun _ _ _ h => h) (Or.inl ⟨by rfl, ?_⟩) (by assumption) ?_
  case refine_2 => (intro w hSw; have p := (P.keep hSw).cell; have q := (B.keep hSw).cell; go_simp; first | done | with_reducible rfl)
  simp only [Act.put, List.setIfInBounds_toArray, List.set_cons_zero, List.set_cons_succ]
  refine wpAnyH_ready (rs := [2]) (by kernel_rfl) (by simp) ?_
  refine AllReadyH.cons (o := ⟨some 29, _, _, _, _, _⟩) rfl (fun K hK => ?_) AllReadyH.nil
  go_simp
  refine (CC.out _ ((hS.below (bl_trans L9 hHeld) (Nat.le_refl _)).more (Nat.le_refl _) (bl_trans L9 hHeld).size)).mono ?_; rintro e u1 ⟨⟨Ae, ce, rfl, _, Xe⟩, bu1⟩
  go_wp2_with fail
  refine hK.out _ _ (bl_trans hHeld bu1) (fun hHeld => ?_)
  clear hK K
  try simp only [Act.put, List.setIfInBounds_toArray, List.set_cons_zero, List.set_cons_succ]
  refine wpAnyH_ready (rs := [3]) (by kernel_rfl) (by simp) ?_
  refine AllReadyH.cons (o := ⟨some 30, _, _, _, _, _⟩) rfl (fun K hK => ?_) AllReadyH.nil
  go_simp
  refine (CE.out _ _ _ _ _ ((Op.1.sl.below hHeld (by omega)).more (Nat.zero_le _) (by have := hHeld.size; omega)) (Xe.1.sl.more (Nat.zero_le _) (Nat.le_refl _))).mono ?_; rintro e w10 ⟨rfl, bu2⟩
  go_wp2_with fail
  refine hK.out _ _ (bl_trans hHeld bu2) (fun hHeld => ?_)
  clear hK K
  try simp only [Act.put, List.setIfInBounds_toArray, List.set_cons_zero, List.set_cons_succ]
  refine wpAnyH_take (i := 4) (oi := ⟨some 31, _, _, _, _, _⟩) (v := ?_) rfl (by kernel_rfl) (by kernel_rfl) (by kernel_rfl) (fun _ _ _ h => h) (Or.inl ⟨by rfl, ?_⟩) (by assumption) ?_
  case refine_2 => (intro w hSw; skip; go_simp; first | done | with_reducible rfl)
  simp only [Act.put, List.setIfInBounds_toArray, List.set_cons_zero, List.set_cons_succ]
  refine wpAnyH_done (by kernel_rfl) ?_ _
  have b10 := hHeld
  clear hHeld
  have s10 := b10.size
  have L10 := bl_trans L9 b10
  replace B := B.keep b10
  replace Q := Q.keep b10
  replace P := P.keep b10
  replace G := G.keep b10
  replace Ow := Ow.keep b10
  replace Op := Op.below b10 (by omega)
  replace Og := Og.keep b10
  have pP := P.cell
  go_wp2_with fail
  clear pP
  refine (CM.out w4.heap.size w5.heap.size Ap cp w10 (by omega) Op.1.sh).mono ?_; rintro e w11 ⟨rfl, M⟩
  have s11 := M.size
  have b11 := M.bl (B := w4.heap.size) (Nat.le_refl _) (by omega)
  have L11 : Below w.heap.size w w11 := L10.trans (b11.mono (by have := L4.size; omega))
  have L4s := L4.size
  have L2s := L2.size
  replace B := B.below b11 (by have := B.lt; have := L3.size; omega)
  replace Q := Q.below b11 (by omega)
  replace G : Blk w11 w7.heap.size _ _ := (M.block w7.heap.size (by omega) (.inr (by omega))).trans G
  replace Ow := row_block (w' := w11) Ow (fun g h1 h2 => M.block g (by omega) (.inl (by omega)))
  replace Og := row_block (w' := w11) Og (fun g h1 h2 => M.block g (by omega) (.inr (by omega)))
  clear Op P M b11
  have pG := G.cell
  have pQ := Q.cell
  go_wp2_with fail
  clear pG
  clear pQ
  refine (CQ.out _ _ _ _ _ Og.reads Ow.reads).mono ?_; rintro e w12 ⟨rfl, b12⟩
  have s12 := b12.size
  have L12 := bl_trans L11 b12
  replace B := B.keep b12
  replace Q := Q.keep b12
  replace G := G.keep b12
  replace Ow := Ow.keep b12
  replace Og := Og.keep b12
  have pG := G.cell
  go_wp2_with fail
  clear pG
  refine (CG.out _ _ _ _ _ Og).mono ?_; rintro e w13 ⟨rfl, g13, Og2⟩
  have hp := fun k h => And.intro (Og.1.lt k h).1 (Og.2 k h)
  have s13 := g13.size
  have L13 := bl_gr L12 g13 (fun k h => by have := hp k h; have := L6.size; omega)
  replace Ow := Ow.far g13 (fun k h => by have := hp k h; omega)
  replace B := B.grown g13 (fun h => by have := hp _ h.symm; have := L6.size; omega)
  replace Q := Q.grown g13 (fun h => by have := hp _ h.symm; omega)
  replace G := G.grown g13 (fun h => by have := hp _ h.symm; omega)
  clear hp Og g13
  have Og := Og2
  clear Og2
  have pG := G.cell
  go_wp2_with fail
  clear pG
  refine (CH.out _ _ _ Og.reads).mono ?_; rintro e w14 ⟨rfl, b14⟩
  have s14 := b14.size
  have L14 := bl_trans L13 b14
  replace B := B.keep b14
  replace Q := Q.keep b14
  replace G := G.keep b14
  replace Ow := Ow.keep b14
  replace Og := Og.keep b14
  have pB := B.cell
  go_wp2_with fail
  clear pB
  refine (CC.out _ ((hS.below L14 (Nat.le_refl _)).more (Nat.le_refl _) L14.size)).mono ?_; rintro e w15 ⟨⟨Ad, cd, rfl, hcd, Od⟩, b15⟩
  have s15 := b15.size
  have L15 := bl_trans L14 b15
  replace B := B.keep b15
  replace Q := Q.keep b15
  replace G := G.keep b15
  replace Ow := Ow.keep b15
  replace Og := Og.keep b15
  go_wp2_with fail
  refine (CI.out _ _ _ hcd (Od.2.more (Nat.zero_le _) (Nat.le_refl _))).mono ?_; rintro e w16 ⟨⟨Ah, ch, rfl, Oh⟩, b16⟩
  have s16 := b16.size
  have L16 := bl_trans L15 b16
  replace B := B.keep b16
  replace Q := Q.keep b16
  replace G := G.keep b16
  replace Ow := Ow.keep b16
  replace Og := Og.keep b16
  clear Od
  go_upto_region 25 with fail
  have H := Blk.new w16 30 #[.slice Ah ns.length ch]
  have b17 := bl_alloc (Below.refl w16.heap.size w16) (.cells #[.slice Ah ns.length ch] 30)
  have z17 : w16.heap.size < (w16.alloc (.cells #[.slice Ah ns.length ch] 30)).heap.size := by rw [alloc_size]; exact Nat.lt_succ_self _
  generalize w16.alloc (.cells #[.slice Ah ns.length ch] 30) = w17 at H b17 z17 ⊢
  have s17 := b17.size
  have L17 := bl_trans L16 b17
  replace B := B.keep b17
  replace Q := Q.keep b17
  replace G := G.keep b17
  replace Ow := Ow.keep b17
  replace Og := Og.keep b17
  replace Oh := Oh.keep b17
  have pH := H.cell
  have pQ := Q.cell
  go_wp2_with fail
  clear pH
  clear pQ
  refine (CQ.out _ _ _ _ _ Oh.reads Ow.reads).mono ?_; rintro e w18 ⟨rfl, b18⟩
  have s18 := b18.size
  have L18 := bl_trans L17 b18
  replace B := B.keep b18
  replace Q := Q.keep b18
  replace G := G.keep b18
  replace H := H.keep b18
  replace Ow := Ow.keep b18
  replace Og := Og.keep b18
  replace Oh := Oh.keep b18
  have pG := G.cell
  go_wp2_with fail
  clear pG
  refine (CH.out _ _ _ Og.reads).mono ?_; rintro e w19 ⟨rfl, b19⟩
  have s19 := b19.size
  have L19 := bl_trans L18 b19
  replace B := B.keep b19
  replace Q := Q.keep b19
  replace G := G.keep b19
  replace H := H.keep b19
  replace Ow := Ow.keep b19
  replace Og := Og.keep b19
  replace Oh := Oh.keep b19
  go_wp2_with fail
  go_ret
  exact ⟨rfl, L19⟩

set_option maxRecDepth 100000 in
theorem FnExactNfaOf_args {H : Type} {enc : TypeId × Value → H} (W : World) (base : Nat) (args : Array Value) (ds : List (DataW H)) (p : List MemPlace)
    (hval : ∀ (j : Nat) t v, Try.f4.params[j]? = some t → args[j]? = some v → Value.okWide Try.checked.prog W .any base t v)
    (hA : DataW.TrodAll enc Try.checked.prog W 0 (fun _ => true) true Try.f4.params.toList args.toList ds p) :
    Calls Try.checked.prog 4 args W fun e W' => e = .returned (.bool true) ∧ Below W.heap.size W W' := by
  rw [Try.params4] at hA hval
  obtain ⟨v0, d0, rfl, rfl, h0⟩ := trodAll_one hA
  obtain ⟨zk, zs, A, c, kids, rfl, hS, hl, hq, ht⟩ := open_trRex W v0 d0 p (hval 0 40 v0 rfl rfl) h0
  exact FnExactNfaOf_walk zk zs kids A c W hS hl hq ht

set_option maxRecDepth 100000 in
theorem FnExactNfaOf_holds : Rows.FnExactNfaOfSaid :=
  OpenClaim.holds_of_wide 4 Try.f4 rfl rfl rfl rfl rfl rfl rfl ⟨rfl, rfl, rfl, rfl, rfl⟩ rfl rfl rfl rfl rfl (by kernel_rfl) Try.func4 (by kernel_rfl)
    (of_decide_eq_true (by kernel_rfl)) (by unfold Func.isWrapper; rw [if_neg (of_decide_eq_false (by kernel_rfl))]; exact ⟨rfl, rfl⟩)
    (fun os started H enc _ => law_lift 4 Try.f4 Rows.fnExactNfaOfSpec 4 own laidOut started (by kernel_rfl) Try.func4 (by kernel_rfl) rfl (by kernel_rfl) Try.underlying4
      (fun ds h => by
        have hl : ds.length = 1 := h.trans (by kernel_rfl)
        obtain ⟨d, rfl⟩ := len1 hl
        rfl)
      (ChangeSpec.witness6 (enc := enc) (C := Try.checked) false ⟨#[], #[.agg #[.int .i64 0, .string ⟨#[]⟩, .slice none 0 0]], []⟩ 8 (by kernel_rfl) (by kernel_rfl) (by kernel_rfl) (by kernel_rfl))
      FnExactNfaOf_args)
#print axioms FnExactNfaOf_holds

end Go.Proofs.Ytnoekbgmhnhneaa
