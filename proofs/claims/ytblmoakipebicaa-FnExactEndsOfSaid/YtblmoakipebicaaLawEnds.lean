/- FnExactEndsOf: the program's returns what the reference's returns, for all arguments, changes no argument, and shares no memory. No condition. -/
import Derived.Test.YtblmoakipebicaaLift
import Derived.Test.YtblmoakipebicaaRexTo
import Derived.Test.YtblmoakipebicaaRexEq
import Derived.Test.YtblmoakipebicaaRexOp
import Derived.Test.YtblmoakipebicaaRexMk
import Derived.Test.YtblmoakipebicaaIntM
import Derived.Deep.RegionHeld3
import Derived.Test.YtblmoakipebicaaEndsL
namespace Go.Proofs.Ytblmoakipebicaa
open Go.ChangeShapes Go.WideShapes Go.ChangeAt Go.RowKit
open Go.ChangeMaps (open_string shut_string)

theorem small_of_wt : ∀ (fr : Fr (Int × ByteArray)), wt gRex fr ≤ 1048576 → FrOk qSmall fr
  | .nil, _ => trivial
  | .cons a k r, h => by
    simp only [wt, gRex] at h
    have := len_wt gRex k
    exact ⟨by show a.2.size ≤ _; omega, by omega, small_of_wt k (by omega), small_of_wt r (by omega)⟩

theorem row_block {w w' : World} {lo hi size n : Nat} {e : TypeId} {v : Value} {xs : List Value} (h : Row w lo hi e size v n xs) (hb : ∀ g, lo ≤ g → g < hi → w'.heap[g]? = w.heap[g]?) : Row w' lo hi e size v n xs := by
  refine ⟨⟨h.1.1, ?_⟩, h.2⟩
  rcases h.1.2 with hn | ⟨g, cap, cur, rfl, hb0, hgg, rest⟩
  · exact .inl hn
  · exact .inr ⟨g, cap, cur, rfl, hb0, (hb g hb0 (h.2 g rfl)).trans hgg, rest⟩

set_option maxRecDepth 20000 in
set_option maxHeartbeats 8000000 in
theorem FnExactEndsOf_walk (zk : Int) (zs : ByteArray) (kids : Fr (Int × ByteArray)) (A : Option Addr) (c : Nat) (s : ByteArray) (a : Int) (w : World) (hS : Sl rexC w 0 w.heap.size A kids) (hl : kids.len ≤ 9223372036854775807) (hq : FrOk qRex kids) (ht : zs.size ≤ 9223372036854775807) (hss : s.size ≤ 9223372036854775807) :
    Calls Try.prog 12 #[.agg #[.int .i64 zk, .string zs, .slice A kids.len c], .string s, .int .i64 a] w fun e w' => e = .returned (.bool true) ∧ Below w.heap.size w w' := by
  have B := Blk.new w 57 #[.int .i64 zk, .string zs, .slice A kids.len c]
  have L0 := bl_alloc (Below.refl w.heap.size w) (.cells #[.int .i64 zk, .string zs, .slice A kids.len c] 57)
  by_cases hs : s.size ≤ 1048576
  case neg =>
    have hgt : (1048576 : Int) < (s.size : Int) := by omega
    go_enter Try.func12, Try.ntmps12
    go_wp2_with fail
    go_ret
    exact ⟨rfl, L0⟩
  have hng : ¬ (1048576 : Int) < (s.size : Int) := by omega
  have cZ := fun w h => szRex_of zk zs kids A c 1048576 w ht (by omega) (by omega) h (fun w' left h0 h1 h => szRexS_any kids.size kids (Nat.le_refl _) hl hq A c left w' h0 h1 h)
  obtain ⟨z, hz⟩ : ∃ z, left_ 1048576 (zs.size + wt gRex kids) = z := ⟨_, rfl⟩
  rw [hz] at cZ
  have CZ := Lib.hid cZ
  clear cZ
  by_cases hc : z < 0
  case pos =>
    clear hz
    go_enter Try.func12, Try.ntmps12
    go_wp2_with fail
    refine (CZ.out _ ((hS.below L0 (Nat.le_refl _)).more (Nat.le_refl _) L0.size)).mono ?_; rintro e w1 ⟨rfl, b1⟩
    go_wp2_with fail
    go_ret
    exact ⟨rfl, bl_trans L0 b1⟩
  have hp := left_pos (by rw [hz]; exact hc)
  have hw := size_wt gRex kids
  have hks : kids.size ≤ 1048576 := by omega
  have htt : zs.size ≤ 1048576 := by omega
  have hwt : zs.size + wt gRex kids ≤ 1048576 := by omega
  have hsm : FrOk qSmall kids := small_of_wt kids (by omega)
  clear hz hp hw
  have CT := Lib.hid fun w h => toRex_of zk zs kids A c w h (fun w' h' => toRexS_any kids.size hks kids A c w' (Nat.le_refl _) h')
  have CO := Lib.hid fun w h => toRexO_of zk zs kids A c w h (fun w' h' => toRexOS_any kids.size hks kids A c w' (Nat.le_refl _) h')
  have CE := Lib.hid fun A A' c c' w h h' => eqRex_of zk zs kids A A' c c' w h h' (fun w' h h' => eqRexS_any kids.size hks kids (Nat.le_refl _) A A' c c' w' h h')
  have cM := fun lo hi A c w hh hS => markRex_any zk zs kids A c 1 lo hi w hks (by omega) hh hS
  obtain ⟨kq, hkq⟩ : ∃ kq : Int, ((1 + 2 * kids.size : Nat) : Int) = kq := ⟨_, rfl⟩
  rw [hkq] at cM
  have hkq0 : ¬ kq < 0 := by omega
  have CM := Lib.hid cM
  clear hkq cM
  have cS := fun A c w h => sEnds zk zs kids A c s a w hks htt hsm hwt hs h
  have cI := fun A c w h => iEnds zk zs kids A c s a w hks htt hsm hwt hs h
  have hlen : (endsB zk zs kids s a).length ≤ s.size + 1 := by
    unfold endsB
    split
    · exact rowI_len _ _
    · exact Nat.zero_le _
  generalize endsB zk zs kids s a = l at cS cI hlen
  have CS := Lib.hid cS
  have CI := Lib.hid cI
  clear cS cI
  have hn : l.length ≤ 1048577 := by omega
  have CQ := Lib.hid fun A A' c c' w h h' => eqIntS_any l A A' c c' w hn h h'
  have cMI := fun A c w lo hi h => markIntS_any l A c 1 lo hi w hn (by omega) h
  have cH := fun A c w h => heldIntS_any l.length 1 c A w hn (by omega) h
  obtain ⟨mq, hmq⟩ : ∃ mq : Int, ((1 + l.length : Nat) : Int) = mq := ⟨_, rfl⟩
  rw [hmq] at cMI cH
  have hmq0 : ¬ mq < 0 := by omega
  have CMI := Lib.hid cMI
  have CH := Lib.hid cH
  clear hmq cMI cH hlen

  go_enter Try.func12, Try.ntmps12
  go_wp2_with fail
  refine (CZ.out _ ((hS.below L0 (Nat.le_refl _)).more (Nat.le_refl _) L0.size)).mono ?_; rintro e w1 ⟨rfl, b1⟩
  have L1 := bl_trans L0 b1
  replace B := B.keep b1
  have pB := B.cell
  go_wp2_with fail
  clear pB
  refine (CT.out _ ((hS.below L1 (Nat.le_refl _)).more (Nat.le_refl _) L1.size)).mono ?_; rintro e w2 ⟨⟨Ax, cx, rfl, Xx⟩, b2⟩
  have L2 := bl_trans L1 b2
  replace B := B.keep b2
  go_wp2_with fail
  refine (CS.out _ _ _ (Xx.more (Nat.zero_le _) (Nat.le_refl _))).mono ?_; rintro e w3 ⟨⟨v0, rfl, O0⟩, b3⟩
  obtain ⟨A0, c0, rfl⟩ := O0.form
  have L3 := bl_trans L2 b3
  replace B := B.keep b3
  have hBlt := B.lt
  have s3 := b3.size
  have R0 := O0.reads
  clear Xx O0
  have pB := B.cell
  go_wp2_with fail
  clear pB
  refine (CO.out _ ((hS.below L3 (Nat.le_refl _)).more (Nat.le_refl _) L3.size)).mono ?_; rintro e w4 ⟨⟨Ap, cp, rfl, OW⟩, b4⟩
  have L4 := bl_trans L3 b4
  replace B := B.keep b4
  have s4 := b4.size
  have R0_4 := R0.below b4
  go_wp2_with fail
  have P := Blk.new w4 62 #[.int .i64 zk, .string zs, .slice Ap kids.len cp]
  have b5 := bl_alloc (Below.refl w4.heap.size w4) (.cells #[.int .i64 zk, .string zs, .slice Ap kids.len cp] 62)
  have hP : w4.heap.size < (w4.alloc (.cells #[.int .i64 zk, .string zs, .slice Ap kids.len cp] 62)).heap.size := by rw [alloc_size]; exact Nat.lt_succ_self _
  generalize w4.alloc (.cells #[.int .i64 zk, .string zs, .slice Ap kids.len cp] 62) = w5 at P b5 hP ⊢
  have L5 := bl_trans L4 b5
  replace B := B.keep b5
  have OW5 := OW.below b5 (Nat.le_refl _)
  have R0_5 := R0_4.below (b5.mono (by omega))
  refine (CI.out _ _ _ (OW5.sl.more (Nat.zero_le _) (by omega))).mono ?_; rintro e w6 ⟨⟨vg, rfl, G6⟩, b6⟩
  obtain ⟨Ag, cg, rfl⟩ := G6.form
  have s6 := b6.size
  have L6 := bl_trans L5 b6
  replace B := B.keep b6
  replace P := P.keep b6
  have OW6 := OW5.below b6 (by omega)
  have R0_6 := R0_5.below (b6.mono (by omega))
  go_wp2_with fail
  refine (CQ.out _ _ _ _ _ G6.reads (R0_6.more (by omega))).mono ?_; rintro e w7 ⟨rfl, b7⟩
  have s7 := b7.size
  have L7 := bl_trans L6 b7
  replace B := B.keep b7
  replace P := P.keep b7
  have OW7 := OW6.below b7 (by omega)
  have R0_7 := R0_6.below (b7.mono (by omega))
  have G7 := G6.keep b7
  go_wp2_with fail
  have hww : w.heap.size ≤ w7.heap.size := L7.size
  refine wp_region_held_drew (S := (fun x => Blk x w4.heap.size 62 #[.int .i64 zk, .string zs, .slice Ap kids.len cp] ∧ Blk x w.heap.size 57 #[.int .i64 zk, .string zs, .slice A kids.len c] ∧ Sl rexC x 0 w.heap.size A kids ∧ Sl rexC x 0 w7.heap.size Ap kids ∧ w7.heap.size ≤ x.heap.size)) (by kernel_rfl) ?_ (fun hHeld => ?_)
  · exact ⟨P.drew, B.drew, (hS.below L7 (Nat.le_refl _)).keep (fun _ _ _ => rfl) (Nat.le_refl _) (Nat.le_refl _), (OW7.sl.more (Nat.zero_le _) (by omega)).keep (fun _ _ _ => rfl) (Nat.le_refl _) (Nat.le_refl _), Nat.le_refl _⟩
  refine wpAnyH_take (i := 0) (oi := ⟨some 38, _, _, _, _, _⟩) (v := ?_) rfl (by kernel_rfl) (by kernel_rfl) (by kernel_rfl) (fun _ _ _ h => h) (Or.inl ⟨by rfl, ?_⟩) (by assumption) ?_
  case refine_2 => (intro w hSw; have p := hSw.1.cell; go_simp; first | done | with_reducible rfl)
  simp only [Act.put, List.setIfInBounds_toArray, List.set_cons_zero, List.set_cons_succ]
  refine wpAnyH_take (i := 1) (oi := ⟨some 39, _, _, _, _, _⟩) (v := ?_) rfl (by kernel_rfl) (by kernel_rfl) (by kernel_rfl) (fun _ _ _ h => h) (Or.inl ⟨by rfl, ?_⟩) (by assumption) ?_
  case refine_2 => (intro w hSw; have p := hSw.2.1.cell; go_simp; first | done | with_reducible rfl)
  simp only [Act.put, List.setIfInBounds_toArray, List.set_cons_zero, List.set_cons_succ]
  refine wpAnyH_ready (rs := [2]) (by kernel_rfl) (by simp) ?_
  refine AllReadyH.cons (o := ⟨some 40, _, _, _, _, _⟩) rfl (fun K hK => ?_) AllReadyH.nil
  go_simp
  refine (CT.out _ (hHeld.2.2.1.more (Nat.le_refl _) (Nat.le_trans hww hHeld.2.2.2.2))).mono ?_; rintro e u1 ⟨⟨Ae, ce, rfl, Xe⟩, bu1⟩
  go_wp2_with fail
  refine hK.out _ _ (⟨hHeld.1.keep bu1, hHeld.2.1.keep bu1, hHeld.2.2.1.below bu1 (Nat.le_trans hww hHeld.2.2.2.2), hHeld.2.2.2.1.below bu1 hHeld.2.2.2.2, Nat.le_trans hHeld.2.2.2.2 bu1.size⟩) (fun hHeld => ?_)
  clear hK K
  try simp only [Act.put, List.setIfInBounds_toArray, List.set_cons_zero, List.set_cons_succ]
  refine wpAnyH_ready (rs := [3]) (by kernel_rfl) (by simp) ?_
  refine AllReadyH.cons (o := ⟨some 41, _, _, _, _, _⟩) rfl (fun K hK => ?_) AllReadyH.nil
  go_simp
  refine (CE.out _ _ _ _ _ (hHeld.2.2.2.1.more (Nat.le_refl _) hHeld.2.2.2.2) (Xe.more (Nat.zero_le _) (Nat.le_refl _))).mono ?_; rintro e w8 ⟨rfl, bu2⟩
  go_wp2_with fail
  refine hK.out _ _ (⟨hHeld.1.keep bu2, hHeld.2.1.keep bu2, hHeld.2.2.1.below bu2 (Nat.le_trans hww hHeld.2.2.2.2), hHeld.2.2.2.1.below bu2 hHeld.2.2.2.2, Nat.le_trans hHeld.2.2.2.2 bu2.size⟩) (fun hHeld => ?_)
  clear hK K
  try simp only [Act.put, List.setIfInBounds_toArray, List.set_cons_zero, List.set_cons_succ]
  refine wpAnyH_take (i := 4) (oi := ⟨some 42, _, _, _, _, _⟩) (v := ?_) rfl (by kernel_rfl) (by kernel_rfl) (by kernel_rfl) (fun _ _ _ h => h) (Or.inl ⟨by rfl, ?_⟩) (by assumption) ?_
  case refine_2 => (intro w hSw; skip; go_simp; first | done | with_reducible rfl)
  simp only [Act.put, List.setIfInBounds_toArray, List.set_cons_zero, List.set_cons_succ]
  refine wpAnyH_done (by kernel_rfl) ?_ _
  have b8 := bl_trans (bl_trans (Below.refl w7.heap.size w7).drew bu1) bu2
  clear hww hHeld
  have s8 := b8.size
  have L8 := bl_trans L7 b8
  replace B := B.keep b8
  replace P := P.keep b8
  have OW8 := OW7.below b8 (by omega)
  have R0_8 := R0_7.below (b8.mono (by omega))
  have G8 := G7.keep b8
  have pP := P.cell
  go_wp2_with fail
  clear pP
  refine (CM.out w3.heap.size w4.heap.size Ap cp w8 (by omega) OW8.sh).mono ?_; rintro e w9 ⟨rfl, M9⟩
  have s9 := M9.size
  have b9 := M9.bl (B := w3.heap.size) (Nat.le_refl _) (by omega)
  have L9 := bl_far L8 b9 (by omega)
  replace B := B.below b9 (by omega)
  have R0_9 := R0_8.below b9
  have G9 := row_block (w' := w9) G8 (fun g h1 h2 => M9.block g (by omega) (.inr (by omega)))
  clear OW OW5 OW6 OW7 OW8 M9 R0_8 R0_7 R0_6 R0_5 R0_4 R0 G8 G7 G6 P
  go_wp2_with fail
  refine (CQ.out _ _ _ _ _ G9.reads (R0_9.more (by omega))).mono ?_; rintro e w10 ⟨rfl, b10⟩
  have s10 := b10.size
  have L10 := bl_trans L9 b10
  replace B := B.keep b10
  have R0_10 := R0_9.below (b10.mono (by omega))
  have G10 := G9.keep b10
  go_wp2_with fail
  refine (CMI.out _ _ w10 _ _ G10).mono ?_; rintro e w11 ⟨⟨rfl, G11⟩, b11⟩
  have s11 := b11.size
  have L11 := bl_far L10 b11 (by omega)
  replace B := B.below b11 (by omega)
  have R0_11 := R0_10.below (b11.mono (by omega))
  clear G9 G10 R0_9 R0_10
  go_wp2_with fail
  refine (CH.out _ _ w11 G11.reads).mono ?_; rintro e w12 ⟨rfl, b12⟩
  have s12 := b12.size
  have L12 := bl_trans L11 b12
  replace B := B.keep b12
  have R0_12 := R0_11.below (b12.mono (by omega))
  have G12 := G11.keep b12
  have pB := B.cell
  go_wp2_with fail
  clear pB
  refine (CT.out _ ((hS.below L12 (Nat.le_refl _)).more (Nat.le_refl _) L12.size)).mono ?_; rintro e w13 ⟨⟨Ay, cy, rfl, Xy⟩, b13⟩
  have s13 := b13.size
  have L13 := bl_trans L12 b13
  have R0_13 := R0_12.below (b13.mono (by omega))
  have G13 := G12.keep b13
  go_wp2_with fail
  refine (CI.out _ _ _ (Xy.more (Nat.zero_le _) (Nat.le_refl _))).mono ?_; rintro e w14 ⟨⟨vh, rfl, H14⟩, b14⟩
  obtain ⟨Ah, ch, rfl⟩ := H14.form
  have s14 := b14.size
  have L14 := bl_trans L13 b14
  have R0_14 := R0_13.below (b14.mono (by omega))
  have G14 := G13.keep b14
  clear Xy
  go_wp2_with fail
  refine (CQ.out _ _ _ _ _ H14.reads (R0_14.more (by omega))).mono ?_; rintro e w15 ⟨rfl, b15⟩
  have L15 := bl_trans L14 b15
  have G15 := G14.keep b15
  go_wp2_with fail
  refine (CH.out _ _ w15 G15.reads).mono ?_; rintro e w16 ⟨rfl, b16⟩
  go_wp2_with fail
  go_ret
  exact ⟨rfl, bl_trans L15 b16⟩

set_option maxRecDepth 100000 in
theorem FnExactEndsOf_args {H : Type} {enc : TypeId × Value → H} (W : World) (base : Nat) (args : Array Value) (ds : List (DataW H)) (p : List MemPlace)
    (hval : ∀ (j : Nat) t v, Try.f12.params[j]? = some t → args[j]? = some v → Value.okWide Try.checked.prog W .any base t v)
    (hA : DataW.TrodAll enc Try.checked.prog W 0 (fun _ => true) true Try.f12.params.toList args.toList ds p) :
    Calls Try.checked.prog 12 args W fun e W' => e = .returned (.bool true) ∧ Below W.heap.size W W' := by
  rw [Try.params12] at hA hval
  obtain ⟨v0, v1, v2, d0, d1, d2, p0, p1, p2, rfl, rfl, rfl, h0, h1, h2⟩ := trodAll_three hA
  obtain ⟨zk, zs, A, c, kids, rfl, hS, hl, hq, ht⟩ := open_trRex W v0 d0 p0 (hval 0 57 v0 rfl rfl) h0
  obtain ⟨s, rfl, rfl, rfl, hs⟩ := open_string Try.underlying9 (hval 1 9 v1 rfl rfl) h1
  obtain ⟨a, rfl, rfl, rfl, _⟩ := open_int Try.underlying3 (hval 2 3 v2 rfl rfl) h2
  exact FnExactEndsOf_walk zk zs kids A c s a W hS hl hq ht hs

set_option maxRecDepth 100000 in
theorem FnExactEndsOf_holds : Rows.FnExactEndsOfSaid :=
  OpenClaim.holds_of_wide 12 Try.f12 rfl rfl rfl rfl rfl rfl rfl ⟨rfl, rfl, rfl, rfl, rfl⟩ rfl rfl rfl rfl rfl (by kernel_rfl) Try.func12 (by kernel_rfl)
    (of_decide_eq_true (by kernel_rfl)) (by unfold Func.isWrapper; rw [if_neg (of_decide_eq_false (by kernel_rfl))]; exact ⟨rfl, rfl⟩)
    (fun os started H enc _ => law_lift 12 Try.f12 Rows.fnExactEndsOfSpec 4 own laidOut started (by kernel_rfl) Try.func12 (by kernel_rfl) rfl (by kernel_rfl) Try.underlying4
      (fun ds h => by
        have hl : ds.length = 3 := h.trans (by kernel_rfl)
        obtain ⟨a, b, c, rfl⟩ := len3 hl
        rfl)
      (ChangeSpec.witness6 (enc := enc) (C := Try.checked) false ⟨#[], #[.agg #[.int .i64 0, .string ⟨#[]⟩, .slice none 0 0], .string ⟨#[]⟩, .int .i64 0], []⟩ 8 (by kernel_rfl) (by kernel_rfl) (by kernel_rfl) (by kernel_rfl))
      FnExactEndsOf_args)
#print axioms FnExactEndsOf_holds

end Go.Proofs.Ytblmoakipebicaa
