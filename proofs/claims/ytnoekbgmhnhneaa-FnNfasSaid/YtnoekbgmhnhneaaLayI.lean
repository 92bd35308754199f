/- Walk over the program's lay: laying a part. -/
import Derived.Test.YtnoekbgmhnhneaaLayV
import Derived.Deep.CutRange
import Derived.Deep.RegionHeld3
import Derived.Deep.RegionWith
namespace Go.Proofs.Ytnoekbgmhnhneaa
open Go.RowKit

set_option maxRecDepth 20000 in
set_option maxHeartbeats 16000000 in
theorem iLay_step (K : Nat) (IHL : LayD 54 K) (kids : Fr (Int × ByteArray)) (hK : kids.size ≤ K) (zk : Int) (zs : ByteArray) (A : Option Addr) (c : Nat) (Ax : Option Addr) (cx : Nat) (xs : List (Int × ByteArray × Int × Int)) (base : Nat) (w : World) (h60 : kids.size ≤ 60) (hx : xs.length + 6 * (kids.size + 1) ≤ 100000) (hh : hereB zk zs kids = true) (hk : lOk kids = true) (hb : base ≤ w.heap.size) (hc : kids.len ≤ c) (hO : w.ownsRow base 76 4 (.slice Ax xs.length cx) xs.length (flat nodeC xs)) (hS : SlC rexC w 0 base A kids) :
    Calls Try.prog 54 #[.slice Ax xs.length cx, .agg #[.int .i64 zk, .string zs, .slice A kids.len c]] w fun e w' => RetL (fun ys => ys = xs ++ layR (zk, zs) kids xs.length) w (Value.slice Ax xs.length cx).ownBlock base e w' := by
  have hlen := kids.len_size
  have hlen' : (kids.len : Int) ≤ 60 := by omega
  have hxl : (xs.length : Int) ≤ 100000 := by omega
  have B := Blk.new w 45 #[.int .i64 zk, .string zs, .slice A kids.len c]
  have b0 := bl_alloc (Below.refl w.heap.size w) (.cells #[.int .i64 zk, .string zs, .slice A kids.len c] 45)
  have L1 := (Lt.start hO).keep b0
  have S1 := hS.keep (w' := w.alloc (.cells #[.int .i64 zk, .string zs, .slice A kids.len c] 45)) (fun p _ hp => b0.cell (by omega)) (Nat.le_refl _) (Nat.le_refl _)
  have IH := Lib.hid IHL
  clear IHL
  go_enter Try.func54, Try.ntmps54
  go_upto_region 1 with fail
  have sz0 := b0.size
  clear hO hS b0
  generalize w.alloc (.cells #[.int .i64 zk, .string zs, .slice A kids.len c] 45) = w0 at B L1 S1 sz0 ⊢
  generalize w.heap.size = g at B ⊢
  have hO1 := L1.own
  rcases here_parts hh with ⟨rfl, ek⟩ | ⟨rfl, ek⟩ | ⟨rfl, ek⟩ | ⟨rfl, ek⟩ | ⟨rfl, ek⟩ | ⟨rfl, ek⟩ | ⟨rfl, ek⟩ | ⟨rfl, ek⟩ | ⟨rfl | rfl | rfl, ek⟩
  · have cb := B.cell
    clear ek hh
    go_wp2_with (at_builtin; refine wpList_node (1, zs, (xs.length : Int) + 1, 0) rfl _ _ rfl base _ _ _ rfl hO1 (by first | rfl | (rw [alloc_size]; rfl)) (by omega) (by omega) ?_)
    intro A2 c2 y2 w2 h2 hl2 t2
    have hL2 := L1.next t2
    go_wp2_with fail
    go_ret
    exact ⟨A2, c2, y2, rfl, by rw [layR_1]; exact h2.out, hL2⟩
  · have cb := B.cell
    clear ek hh
    go_wp2_with (at_builtin; refine wpList_node (2, ⟨#[]⟩, (xs.length : Int) + 1, 0) rfl _ _ rfl base _ _ _ rfl hO1 (by first | rfl | (rw [alloc_size]; rfl)) (by omega) (by omega) ?_)
    intro A2 c2 y2 w2 h2 hl2 t2
    have hL2 := L1.next t2
    go_wp2_with fail
    go_ret
    exact ⟨A2, c2, y2, rfl, by rw [layR_2]; exact h2.out, hL2⟩
  · have cb := B.cell
    clear ek hh
    go_wp2_with (at_builtin; refine wpList_node (3, zs, (xs.length : Int) + 1, 0) rfl _ _ rfl base _ _ _ rfl hO1 (by first | rfl | (rw [alloc_size]; rfl)) (by omega) (by omega) ?_)
    intro A2 c2 y2 w2 h2 hl2 t2
    have hL2 := L1.next t2
    go_wp2_with fail
    go_ret
    exact ⟨A2, c2, y2, rfl, by rw [layR_3]; exact h2.out, hL2⟩
  · have cb := B.cell
    clear ek hh
    go_wp2_with (at_builtin; refine wpList_node (5, ⟨#[]⟩, (xs.length : Int) + 1, 0) rfl _ _ rfl base _ _ _ rfl hO1 (by first | rfl | (rw [alloc_size]; rfl)) (by omega) (by omega) ?_)
    intro A2 c2 y2 w2 h2 hl2 t2
    have hL2 := L1.next t2
    go_wp2_with fail
    go_ret
    exact ⟨A2, c2, y2, rfl, by rw [layR_10]; exact h2.out, hL2⟩
  · have cb := B.cell
    clear ek hh
    go_wp2_with (at_builtin; refine wpList_node (6, ⟨#[]⟩, (xs.length : Int) + 1, 0) rfl _ _ rfl base _ _ _ rfl hO1 (by first | rfl | (rw [alloc_size]; rfl)) (by omega) (by omega) ?_)
    intro A2 c2 y2 w2 h2 hl2 t2
    have hL2 := L1.next t2
    go_wp2_with fail
    go_ret
    exact ⟨A2, c2, y2, rfl, by rw [layR_11]; exact h2.out, hL2⟩
  · have cb := B.cell
    clear ek hh
    go_wp2_with fail
    go_ret
    exact ⟨Ax, cx, xs, rfl, by rw [layR_9, List.append_nil], L1⟩
  · obtain ⟨T, hT⟩ : ∃ T, xs ++ layF kids xs.length = T := ⟨_, rfl⟩
    have HT := Lib.hid hT
    clear hT hh ek
    have hw1 : Hid (xs.length + 6 * kids.size ≤ 100000) := Lib.hid (by omega)
    have cb := B.cell
    go_wp2_with fail
    go_loopw [0, 67] (fun v i wr => ∃ (j : Nat) (Ay : Option Addr) (cy : Nat) (ys : List (Int × ByteArray × Int × Int)), j ≤ kids.len ∧ i = .int .i64 j ∧ v = .slice Ay ys.length cy ∧ Hid (ys ++ layF (kids.drop j) ys.length = T) ∧ Hid (ys.length + 6 * (kids.drop j).size ≤ 100000) ∧ Lt w (Value.slice Ax xs.length cx).ownBlock base wr Ay cy ys ∧ SlC rexC wr 0 base A kids) (fun _ i _ => kids.len - (intOf i).toNat)
    case atStart => exact ⟨0, Ax, cx, xs, Nat.zero_le _, rfl, rfl, by rw [Fr.drop_zero]; exact HT, by rw [Fr.drop_zero]; exact hw1, L1, S1⟩
    case round =>
      clear L1 B S1 hw1 cb hO1
      obtain ⟨j, Ay, cy, ys, hj, rfl, rfl, HI, HX, hL, hS⟩ := hrel
      have hO := hL.own
      have hs := hL.size
      by_cases hlt : j < kids.len
      · have hlt' : (j : Int) < (kids.len : Int) := by omega
        obtain ⟨bb, ob, a, k1, A1, c1, rfl, hbb, hdr, hks, hc1, hSk, q0, q1, q2⟩ := at_RexC hS hlt
        obtain ⟨ha, hka⟩ := lOk_at hk hdr
        obtain ⟨yk, ysx⟩ := a
        simp only at q0 q1 ha
        have hszl := szR_le (yk, ysx) k1
        have HRL := Lib.hid (layR_len (a := (yk, ysx)) ha hka)
        have hI := HI.out
        have hX := HX.out
        rw [hdr] at hI hX
        rw [layF_cons] at hI
        simp only [Fr.size] at hX
        have HI2 := Lib.hid hI
        have b2 := bl_alloc (Below.refl wr.heap.size wr) (.cells #[.int .i64 yk, .string ysx, .slice A1 k1.len c1] 45)
        have hLb := hL.keep b2
        have hOb := hLb.own
        have szb := b2.size
        have hSb := hS.keep (w' := wr.alloc (.cells #[.int .i64 yk, .string ysx, .slice A1 k1.len c1] 45)) (fun p _ hp => b2.cell (by omega)) (Nat.le_refl _) (Nat.le_refl _)
        have hSkb := hSk.keep (w' := wr.alloc (.cells #[.int .i64 yk, .string ysx, .slice A1 k1.len c1] 45)) (fun p _ hp => b2.cell (by omega)) (Nat.le_refl _) (Nat.le_refl _)
        have CL := Lib.hid (IH.out k1 (by omega) yk ysx A1 c1 Ay cy ys base _ (by omega) (by omega) ha hka (by omega) hc1 hOb hSkb)
        clear hI ha hka hdr HI HX
        go_wp2_with fail
        refine CL.out.mono ?_; rintro e w3 ⟨A3, c3, y3, rfl, h3, t3⟩
        have H3 := Lib.hid h3
        have hl3 := congrArg List.length h3
        rw [List.length_append, HRL.out] at hl3
        have hL3 := hLb.next t3
        have hS3 := t3.slc hOb (by omega) hSb
        have e1 : Hid (y3.length = ys.length + szR (yk, ysx) k1) := hl3
        have hrel5 : Hid (y3.length + 6 * (kids.drop (j + 1)).size ≤ 100000) := Lib.hid (by omega)
        have hrel4 : Hid (y3 ++ layF (kids.drop (j + 1)) y3.length = T) := by
          rw [e1.out, H3.out]
          show _ = _
          rw [← HI2.out, List.append_assoc]
        clear h3 hl3 t3
        go_wp2_with fail
        go_roundw
        case rel => exact ⟨j + 1, A3, c3, y3, by omega, by go_num, rfl, hrel4, hrel5, hL3, hS3⟩
        case measure => simp [intOf]; omega
      · obtain rfl : j = kids.len := by omega
        have hI := HI.out
        rw [Fr.drop_all, layF_nil, List.append_nil] at hI
        have HE := Lib.hid (hI.trans HT.out.symm)
        clear hI HI HX
        go_wp2_with fail
        go_ret
        exact ⟨Ay, cy, ys, rfl, by rw [layR_4]; exact HE.out, hL⟩
  · obtain ⟨m1, hm1⟩ : ∃ m1, kids.len = m1 + 1 := ⟨kids.len - 1, by omega⟩
    have HMn := Lib.hid hm1
    have et : ((kids.len : Int) - 1).toNat = m1 := by omega
    have ew : IntKind.i64.wrap ((kids.len : Int) - 1) = (m1 : Int) := by rw [IntKind.wrap_i64]; omega
    have hm1c : m1 ≤ c := by omega
    have hm1i : (m1 : Int) ≤ (c : Int) := by omega
    have hm1b : (m1 : Int) ≤ 60 := by omega
    obtain ⟨j0, hj0, hy0, hy1, hy2⟩ := info_parts info_intz
    obtain ⟨T, hT⟩ : ∃ T, xs ++ (altN 0 kids xs.length ++ lastR kids xs.length) = T := ⟨_, rfl⟩
    have HT := Lib.hid hT
    obtain ⟨E1, hE1⟩ : ∃ E1, endP kids xs.length = E1 := ⟨_, rfl⟩
    have HE1 := Lib.hid hE1
    have hw1 : Hid (xs.length + 6 * kids.size ≤ 100000) := Lib.hid (by omega)
    have hst1 : Hid (xs ++ (altN 0 (kids.drop 0) xs.length ++ lastR (kids.drop 0) xs.length) = T) := by rw [Fr.drop_zero]; exact HT
    have hst2 : Hid (([] : List Int) ++ endP (kids.drop 0) xs.length = E1) := by rw [Fr.drop_zero]; exact HE1
    have hst3 : Hid (xs.length + 6 * (kids.drop 0).size ≤ 100000) := by rw [Fr.drop_zero]; exact hw1
    clear hm1 hT hE1 hh ek hw1
    have cb := B.cell
    go_wp2_with fail
    go_loopw [0, 8, 85] (fun v ev i wr => ∃ (j : Nat) (Ay : Option Addr) (cy : Nat) (ys : List (Int × ByteArray × Int × Int)) (Ae : Option Addr) (ce : Nat) (es : List Int), j ≤ m1 ∧ i = .int .i64 j ∧ v = .slice Ay ys.length cy ∧ ev = .slice Ae es.length ce ∧ Hid (ys ++ (altN 0 (kids.drop j) ys.length ++ lastR (kids.drop j) ys.length) = T) ∧ Hid (es ++ endP (kids.drop j) ys.length = E1) ∧ Hid (ys.length + 6 * (kids.drop j).size ≤ 100000) ∧ Hid (es.length ≤ j) ∧ Lt w (Value.slice Ax xs.length cx).ownBlock base wr Ay cy ys ∧ wr.ownsRow w.heap.size 3 1 (.slice Ae es.length ce) es.length (zints es) ∧ SlC rexC wr 0 base A kids ∧ Blk wr g 45 #[.int .i64 5, .string zs, .slice A kids.len c]) (fun _ _ i _ => m1 - (intOf i).toNat)
    case atStart => exact ⟨0, Ax, cx, xs, none, 0, [], Nat.zero_le _, rfl, rfl, rfl, hst1, hst2, hst3, Nat.le_refl _, L1, World.ownsRow_nil _ _ _ _, S1, B⟩
    case round =>
      clear L1 B S1 cb hO1 hst1 hst2 hst3
      obtain ⟨j, Ay, cy, ys, Ae, ce, es, hj, rfl, rfl, rfl, HI, HJ, HX, HEl, hL, hE, hS, B⟩ := hrel
      have hO := hL.own
      have hs := hL.size
      obtain ⟨bb, ob, a, k1, A1, c1, rfl, hbb, hdr, hks, hc1, hSk, q0, q1, q2⟩ := at_RexC hS (show j < kids.len by have := HMn.out; omega)
      obtain ⟨ha, hka⟩ := lOk_at hk hdr
      obtain ⟨yk, ysx⟩ := a
      simp only at q0 q1 ha
      have hszl := szR_le (yk, ysx) k1
      have HRL := Lib.hid (fun p => layR_len (a := (yk, ysx)) ha hka p)
      have hI := HI.out
      have hJ := HJ.out
      have hX := HX.out
      rw [hdr] at hI hJ hX
      simp only [Fr.size] at hX
      by_cases hlt : j < m1
      · have hlt' : (j : Int) < (m1 : Int) := by omega
        have hdl := kids.drop_len (j + 1)
        have hne : (kids.drop (j + 1)).len ≠ 0 := by have := HMn.out; omega
        rw [altN_cons _ _ _ _ _ hne, lastR, if_neg hne] at hI
        rw [endP_cons _ _ _ _ hne] at hJ
        have HI2 := Lib.hid hI
        have HJ2 := Lib.hid hJ
        have hrs : 1 ≤ (kids.drop (j + 1)).size := by have := (kids.drop (j + 1)).len_size; omega
        have CL := Lib.hid (fun Ax cx xs w h1 h2 h3 h4 => IH.out k1 (by omega) yk ysx A1 c1 Ax cx xs base w (by omega) h1 ha hka h2 hc1 h3 h4)
        have b2 := bl_alloc (Below.refl wr.heap.size wr) (.cells #[.int .i64 yk, .string ysx, .slice A1 k1.len c1] 45)
        have BX := Blk.new wr 45 #[.int .i64 yk, .string ysx, .slice A1 k1.len c1]
        have hLb := hL.keep b2
        have szb := b2.size
        have hSb := hS.keep (w' := wr.alloc (.cells #[.int .i64 yk, .string ysx, .slice A1 k1.len c1] 45)) (fun p _ hp => b2.cell (by omega)) (Nat.le_refl _) (Nat.le_refl _)
        have hSkb := hSk.keep (w' := wr.alloc (.cells #[.int .i64 yk, .string ysx, .slice A1 k1.len c1] 45)) (fun p _ hp => b2.cell (by omega)) (Nat.le_refl _) (Nat.le_refl _)
        have hEb := (Row.keep (Row.mk hE) b2).1
        have Bb := B.keep b2
        have hel : es.length ≤ 60 := by have := HEl.out; omega
        clear hI hJ ha hka hdr HI HJ HX hdl hne
        go_upto_region 25 with fail
        clear hL hS hSk hE B b2 hO q0 q1 q2
        generalize wr.alloc (.cells #[.int .i64 yk, .string ysx, .slice A1 k1.len c1] 45) = wx at BX hLb szb hSb hSkb hEb Bb ⊢
        generalize wr.heap.size = bx at BX szb hs ⊢
        have hOb := hLb.own
        have szx := hLb.size
        have ewy : IntKind.i64.wrap ((ys.length : Int) + 1) = (ys.length : Int) + 1 := by rw [IntKind.wrap_i64]; omega
        go_wp2_with fail
        refine wp_region_held_drew (S := (fun y => Blk y bx 45 #[.int .i64 yk, .string ysx, .slice A1 k1.len c1])) (by kernel_rfl) ?_ (fun hHeld => ?_)
        · exact BX.drew
        refine wpAnyH_take (i := 0) (oi := ⟨some 91, _, _, _, _, _⟩) (v := ?_) rfl (by kernel_rfl) (by kernel_rfl) (by kernel_rfl) (fun _ _ _ h => h) (Or.inl ⟨by rfl, ?_⟩) (by assumption) ?_
        case refine_2 => (intro w hSw; skip; go_simp; first | done | with_reducible rfl)
        simp only [Act.put, List.setIfInBounds_toArray, List.set_cons_zero, List.set_cons_succ]
        refine wpAnyH_take (i := 1) (oi := ⟨some 92, _, _, _, _, _⟩) (v := ?_) rfl (by kernel_rfl) (by kernel_rfl) (by kernel_rfl) (fun _ _ _ h => h) (Or.inl ⟨by rfl, ?_⟩) (by assumption) ?_
        case refine_2 => (intro w hSw; skip; go_simp; first | done | with_reducible rfl)
        simp only [Act.put, List.setIfInBounds_toArray, List.set_cons_zero, List.set_cons_succ]
        refine wpAnyH_take (i := 2) (oi := ⟨some 93, _, _, _, _, _⟩) (v := ?_) rfl (by kernel_rfl) (by kernel_rfl) (by kernel_rfl) (fun _ _ _ h => h) (Or.inl ⟨by rfl, ?_⟩) (by assumption) ?_
        case refine_2 => (intro w hSw; skip; go_simp; first | done | with_reducible rfl)
        simp only [Act.put, List.setIfInBounds_toArray, List.set_cons_zero, List.set_cons_succ]
        refine wpAnyH_take (i := 3) (oi := ⟨some 94, _, _, _, _, _⟩) (v := ?_) rfl (by kernel_rfl) (by kernel_rfl) (by kernel_rfl) (fun _ _ _ h => h) (Or.inl ⟨by rfl, ?_⟩) (by assumption) ?_
        case refine_2 => (intro w hSw; skip; go_simp; first | done | with_reducible rfl)
        simp only [Act.put, List.setIfInBounds_toArray, List.set_cons_zero, List.set_cons_succ]
        refine wpAnyH_take (i := 6) (oi := ⟨some 97, _, _, _, _, _⟩) (v := ?_) rfl (by kernel_rfl) (by kernel_rfl) (by kernel_rfl) (fun _ _ _ h => h) (Or.inl ⟨by rfl, ?_⟩) (by assumption) ?_
        case refine_2 => (intro w hSw; have p := hSw.cell; go_simp; first | done | with_reducible rfl)
        simp only [Act.put, List.setIfInBounds_toArray, List.set_cons_zero, List.set_cons_succ]
        refine wpAnyH_ready (rs := [4]) (by kernel_rfl) (by simp) ?_
        refine AllReadyH.cons (o := ⟨some 95, _, _, _, _, _⟩) rfl (fun K hK => ?_) AllReadyH.nil
        go_simp
        go_wp2_with fail
        refine hK.out _ _ (hHeld.alloc _) (fun hHeld => ?_)
        clear hK K
        try simp only [Act.put, List.setIfInBounds_toArray, List.set_cons_zero, List.set_cons_succ]
        refine wpAnyH_ready (rs := [5]) (by kernel_rfl) (by simp) ?_
        refine AllReadyH.cons (o := ⟨some 96, _, _, _, _, _⟩) rfl (fun K hK => ?_) AllReadyH.nil
        refine step_node (w := wx.drew) (4, ⟨#[]⟩, (ys.length : Int) + 1, 0) rfl _ _ rfl base _ _ _ rfl hOb.drew rfl rfl (by omega) (by show base ≤ wx.heap.size; omega) ?_
        intro A5 c5 y5 w5 h5 hl5 t5
        refine hK.out _ _ (t5.blk hOb.drew BX.drew (by decide)) (fun hHeld => ?_)
        clear hK K
        try simp only [Act.put, List.setIfInBounds_toArray, List.set_cons_zero, List.set_cons_succ]
        refine wpAnyH_ready (rs := [7]) (by kernel_rfl) (by simp) ?_
        refine AllReadyH.cons (o := ⟨some 98, _, _, _, _, _⟩) rfl (fun K hK => ?_) AllReadyH.nil
        go_simp
        refine (CL.out A5 c5 y5 w5 (by have := hl5.out; omega) (by have := t5.size; have e : wx.drew.heap.size = wx.heap.size := rfl; omega) t5.own (t5.slc hOb.drew (by show base ≤ wx.heap.size; omega) (hSkb.keep (w' := wx.drew) (fun _ _ _ => rfl) (Nat.le_refl _) (Nat.le_refl _)))).mono ?_; rintro e w6 ⟨A6, c6, y6, rfl, h6, t6⟩; have H6 := Lib.hid h6; clear h6
        go_wp2_with fail
        refine hK.out _ _ (t6.blk t5.own hHeld (by decide)) (fun hHeld => ?_)
        clear hK K
        try simp only [Act.put, List.setIfInBounds_toArray, List.set_cons_zero, List.set_cons_succ]
        refine wpAnyH_take (i := 8) (oi := ⟨some 0, _, _, _, _, _⟩) (v := ?_) rfl (by kernel_rfl) (by kernel_rfl) (by kernel_rfl) (fun _ _ _ h => h) (Or.inl ⟨by rfl, ?_⟩) (by assumption) ?_
        case refine_2 => (intro w hSw; skip; go_simp; first | done | with_reducible rfl)
        simp only [Act.put, List.setIfInBounds_toArray, List.set_cons_zero]
        refine wpAnyH_done (by kernel_rfl) ?_ _
        have hl6 := congrArg List.length H6.out
        rw [List.length_append, HRL.out, hl5.out] at hl6
        have HL6 := Lib.hid hl6
        have L5 := (hLb.keep (Below.refl _ _).drew).next t5
        have L6 := L5.next t6
        have hS5 := t5.slc hOb.drew (by show base ≤ wx.heap.size; omega) (hSb.keep (w' := wx.drew) (fun _ _ _ => rfl) (Nat.le_refl _) (Nat.le_refl _))
        have sz5 := L5.size
        have hS6 := t6.slc t5.own (by omega) hS5
        have hE5 := t5.row hOb.drew hEb.drew (by decide)
        have hE6 := t6.row t5.own hE5 (by decide)
        have B5 := t5.blk hOb.drew Bb.drew (by decide)
        have B6 := t6.blk t5.own B5 (by decide)
        have sz6 := L6.size
        have h6b : (y6.length : Int) ≤ 100000 := by omega
        clear ewy hl6 t6 t5 hHeld L5 hLb hOb hSb hSkb hEb Bb BX hS5 hE5 B5
        go_wp2_with (at_builtin; refine wpList_push rfl _ _ 25 rfl w.heap.size 3 j0 (.int .i64 0) 1 8 Try.underlying25 hj0 hy0 hy1 hy2 rfl (by decide) _ _ _ rfl hE6 _ rfl (by first | rfl | (rw [alloc_size]; rfl)) rfl (by omega) (by omega) (by omega) ?_)
        intro v7 w7 hE7 hg7
        have L7 := L6.other hE6 (by decide) hg7
        have hS7 := hS6.keep (w' := w7) (fun p _ hp => World.cell?_of_block (hg7.block p.block (by omega) (fun e => by have := (hE6.lt _ e.symm).1; omega))) (Nat.le_refl _) (Nat.le_refl _)
        have B7 := B6.grown hg7 (fun e => own_blk_ne hE6 B6 (by decide) e.symm)
        obtain ⟨e7, he7⟩ : ∃ e7, e7 = es ++ [(y6.length : Int)] := ⟨_, rfl⟩
        have hle7 : e7.length = es.length + 1 := by rw [he7, List.length_append]; rfl
        rw [show es.length + 1 = e7.length from hle7.symm, zints_snoc, ← he7] at hE7
        obtain ⟨Ae7, ce7, rfl⟩ := (Row.mk hE7).form
        have HE7 := Lib.hid he7
        have HLE7 := Lib.hid hle7
        have hO7 := L7.own
        have sz7 := L7.size
        clear he7 hle7 hg7 hE6 B6 hS6 L6
        go_wp2_with (at_builtin; refine wpList_node (4, ⟨#[]⟩, 0, 0) rfl _ _ rfl base _ _ _ rfl hO7 (by first | rfl | (rw [alloc_size]; rfl)) (by omega) (by omega) ?_)
        intro A8 c8 y8 w8 h8 hl8 t8
        have L8 := L7.next t8
        have hO8 := L8.own
        have hS8 := t8.slc hO7 (by omega) hS7
        have hE8 := t8.row hO7 hE7 (by decide)
        have B8 := t8.blk hO7 B7 (by decide)
        have h8b : (ys.length : Int) < (y8.length : Int) := by have := HL6.out; have := hl8.out; omega
        obtain ⟨gg, rfl, ⟨uu, pc⟩, pf, hOs, hgs⟩ := own_setN hO8 (k := ys.length) (j := 3) (by omega) (.inr rfl) (y8.length : Int)
        have L9 := L8.set_ hOs hgs
        have sz8 := L8.size
        have hgg : base ≤ gg := (hO8.lt gg rfl).1
        have hS9 := hS8.setb (b := gg) (j := ys.length * 4 + 3) (.inr hgg) (.int .i64 (y8.length : Int))
        have hE9 := hE8.kept hgs (by
          cases hq : (Value.slice Ae7 e7.length ce7).ownBlock with
          | none => exact .inl rfl
          | some x => exact .inr (fun e' => own_neT hO8 hE8 (by decide) hq e'))
        have B9 := B8.grown hgs (fun e => own_blk_ne hO8 B8 (by decide) e.symm)
        have HLn := Lib.hid (setN_len y8 ys.length 3 (y8.length : Int))
        have HY : Hid (setN y8 ys.length 3 (y8.length : Int) = ys ++ (4, ⟨#[]⟩, (ys.length : Int) + 1, (ys.length : Int) + 2 + (szR (yk, ysx) k1 : Nat)) :: (layR (yk, ysx) k1 (ys.length + 1) ++ [(4, ⟨#[]⟩, 0, 0)])) := Lib.hid (by
          have e1 : (y8.length : Int) = (ys.length : Int) + 2 + (szR (yk, ysx) k1 : Nat) := by rw [hl8.out, HL6.out]; simp; omega
          rw [e1, h8.out, H6.out, hl5.out, h5.out, show ys ++ [((4 : Int), (⟨#[]⟩ : ByteArray), (ys.length : Int) + 1, (0 : Int))] ++ layR (yk, ysx) k1 (ys.length + 1) ++ [(4, ⟨#[]⟩, 0, 0)] = ys ++ (4, ⟨#[]⟩, (ys.length : Int) + 1, 0) :: (layR (yk, ysx) k1 (ys.length + 1) ++ [(4, ⟨#[]⟩, 0, 0)]) by simp only [List.append_assoc, List.cons_append, List.nil_append], setN_at, if_neg (by omega)])
        have HLy : Hid (y8.length = ys.length + szR (yk, ysx) k1 + 2) := Lib.hid (by rw [hl8.out, HL6.out]; omega)
        generalize hy9 : setN y8 ys.length 3 (y8.length : Int) = y9 at L9 HLn HY
        have hrel1 : Hid (y9 ++ (altN 0 (kids.drop (j + 1)) y9.length ++ lastR (kids.drop (j + 1)) y9.length) = T) := Lib.hid (by
          rw [HLn.out, HLy.out, HY.out, ← HI2.out]
          simp only [List.append_assoc, List.cons_append, List.nil_append])
        have hrel2 : Hid (e7 ++ endP (kids.drop (j + 1)) y9.length = E1) := Lib.hid (by
          rw [HLn.out, HLy.out, HE7.out, HL6.out, ← HJ2.out, List.append_assoc]
          congr 2
          show _ :: _ = _
          congr 2
          omega)
        have hrel3 : Hid (y9.length + 6 * (kids.drop (j + 1)).size ≤ 100000) := Lib.hid (by rw [HLn.out, HLy.out]; omega)
        have hrel4 : Hid (e7.length ≤ j + 1) := Lib.hid (by rw [HLE7.out]; have := HEl.out; omega)
        clear hy9 hOs hgs hO8 hS8 hE8 B8 L8 t8 hO7 hS7 hE7 B7 L7
        go_wp2_with fail
        go_roundw
        case rel => exact ⟨j + 1, _, c8, y9, Ae7, ce7, e7, by omega, by go_num, by rw [HLn.out], rfl, hrel1, hrel2, hrel3, hrel4, L9, hE9, hS9, B9⟩
        case measure => simp [intOf]; omega
      · obtain rfl : j = m1 := by omega
        have er : kids.drop (j + 1) = .nil := by rw [← HMn.out, Fr.drop_all]
        rw [er, altN_last, lastR_last, List.nil_append] at hI
        rw [er, endP_last, List.append_nil] at hJ
        have HI2 := Lib.hid hI
        have HJ2 := Lib.hid hJ
        have hjl : (j : Int) < (kids.len : Int) := by have := HMn.out; omega
        have hjn : j < kids.len := by omega
        have hel : es.length ≤ 60 := by have := HEl.out; omega
        have CL := Lib.hid (IH.out k1 (by omega) yk ysx A1 c1 Ay cy ys base wr (by omega) (by omega) ha hka (by omega) hc1 hO hSk)
        have cb := B.cell
        have HIN := Lib.hid (endP_lt kids xs.length hk)
        clear hI hJ ha hka hdr HI HJ HX er
        go_wp2_with fail
        refine CL.out.mono ?_; rintro e w3 ⟨A3, c3, y3, rfl, h3, t3⟩
        have hl3 := congrArg List.length h3
        rw [List.length_append, HRL.out] at hl3
        have hy3 := h3.trans HI2.out
        have H3 := Lib.hid hy3
        have L3 := hL.next t3
        have hE3 := t3.row hO hE (by decide)
        have h3b : (y3.length : Int) ≤ 100000 := by omega
        have hes : (es.length : Int) ≤ 60 := by omega
        have e0 : Hid (y3 = patch (y3.length : Int) y3 (es.take 0)) := rfl
        have HLP := Lib.hid (fun ks => patch_len (y3.length : Int) ks y3)
        have hT3 := congrArg List.length HT.out
        rw [← hy3, List.length_append, List.length_append] at hT3
        have HT3 := Lib.hid hT3
        clear h3 hl3 t3 hy3 hT3 cb hL hE hS hO hSk B CL
        go_wp2_with fail
        go_loopw [127] (fun i wq => ∃ (n : Nat) (zs2 : List (Int × ByteArray × Int × Int)), n ≤ es.length ∧ i = .int .i64 n ∧ Hid (zs2 = patch (y3.length : Int) y3 (es.take n)) ∧ Hid (zs2.length = y3.length) ∧ Lt w (Value.slice Ax xs.length cx).ownBlock base wq A3 c3 zs2 ∧ wq.ownsRow w.heap.size 3 1 (.slice Ae es.length ce) es.length (zints es)) (fun i _ => es.length - (intOf i).toNat)
        case atStart => exact ⟨0, y3, Nat.zero_le _, rfl, e0, rfl, L3, hE3⟩
        case round =>
          clear L3 hE3
          obtain ⟨n, zs2, hn, rfl, HZ, HZL, hL, hE⟩ := hrel
          have hO := hL.own
          by_cases hlt : n < es.length
          · have hlt' : (n : Int) < (es.length : Int) := by omega
            obtain ⟨be, oe, hAe, hbe0, hce⟩ := (Reads.of_own hE).2 (by omega)
            subst hAe
            have q0 := hce n _ (zints_get es hlt)
            have hpt := patch_take (y3.length : Int) y3 es hlt
            obtain ⟨x, hx, hxl⟩ := HIN.out es[n] (by rw [HE1.out, ← HJ2.out]; exact List.getElem_mem hlt)
            rw [hx] at q0 hpt
            rw [Int.toNat_natCast] at hpt
            have hxz : x < zs2.length := by rw [HZL.out, ← HT3.out]; omega
            have hxz' : (x : Int) < (y3.length : Int) := by have := HZL.out; omega
            have HPT := Lib.hid hpt
            clear hpt hx
            obtain ⟨gg, rfl, ⟨uu, pc⟩, pf, hOs, hgs⟩ := own_setN hO (k := x) (j := 2) hxz (.inl rfl) (y3.length : Int)
            obtain ⟨_, e, ⟨u3, pc3⟩, pf3, _, _⟩ := own_setN hO (k := x) (j := 3) hxz (.inr rfl) (y3.length : Int)
            cases e
            have L2 := hL.set_ hOs hgs
            obtain ⟨_, e, _, _, hOt, hgt⟩ := own_setN hOs (k := x) (j := 3) (by rw [setN_len]; exact hxz) (.inr rfl) (y3.length : Int)
            cases e
            have L4 := L2.set_ hOt hgt
            have hE2 := hE.kept hgs (by
              cases hq : (Value.slice (some ⟨be, oe, none⟩) es.length ce).ownBlock with
              | none => exact .inl rfl
              | some y => exact .inr (fun e' => own_neT hO hE (by decide) hq e'))
            have hE4 := hE2.kept hgt (by
              cases hq : (Value.slice (some ⟨be, oe, none⟩) es.length ce).ownBlock with
              | none => exact .inl rfl
              | some y => exact .inr (fun e' => own_neT hOs hE2 (by decide) hq e'))
            have HLn := Lib.hid ((setN_len (setN zs2 x 2 (y3.length : Int)) x 3 (y3.length : Int)).trans (setN_len zs2 x 2 (y3.length : Int)))
            have hrel1 : Hid (setN (setN zs2 x 2 (y3.length : Int)) x 3 (y3.length : Int) = patch (y3.length : Int) y3 (es.take (n + 1))) := Lib.hid (by rw [HPT.out, HZ.out])
            generalize setN (setN zs2 x 2 (y3.length : Int)) x 3 (y3.length : Int) = z9 at L4 HLn hrel1
            have hrel2 : Hid (z9.length = y3.length) := Lib.hid (HLn.out.trans HZL.out)
            clear hOs hgs hOt hgt hE hE2 hL L2 hO hce
            go_wp2_with fail
            go_roundw
            case rel => exact ⟨n + 1, z9, by omega, by go_num, hrel1, hrel2, L4, hE4⟩
            case measure => simp [intOf]; omega
          · obtain rfl : n = es.length := by omega
            have hfin : Hid (zs2 = xs ++ layR (5, zs) kids xs.length) := Lib.hid (by
              have hZ := HZ.out
              rw [List.take_length] at hZ
              have e1 : (y3.length : Int) = (xs.length : Int) + (szR (5, zs) kids : Nat) := by
                have e2 : szR (5, zs) kids = szF kids + 2 * (kids.len - 1) := rfl
                have e3 := altN_len 0 kids xs.length hk
                rw [← HT3.out, e3, e2]
                simp
              rw [hZ, e1, H3.out, ← HT.out, HJ2.out, ← HE1.out, patch_alt _ _ _ _ _ rfl hk, layR_5, layA_alt])
            go_wp2_with fail
            go_ret
            exact ⟨A3, c3, zs2, by rw [HZL.out]; rfl, hfin.out, hL⟩
  · have h1' : (0 : Int) < (kids.len : Int) := by omega
    obtain ⟨bb, ob, a, k1, A1, c1, rfl, hbb, hdr, hks, hc1, hSk, q0, q1, q2⟩ := at_RexC S1 (show 0 < kids.len by omega)
    simp only [Nat.zero_mul, Nat.add_zero] at q0 q1 q2
    obtain ⟨ha, hka⟩ := lOk_at hk hdr
    have hso := size_one hdr
    have HF := Lib.hid (fun p => layF_one ek hdr p)
    obtain ⟨yk, ysx⟩ := a
    simp only at q0 q1 ha
    have hszl := szR_le (yk, ysx) k1
    have HRL := Lib.hid (fun p => layR_len (a := (yk, ysx)) ha hka p)
    have CL := Lib.hid (fun Ax cx xs w h1 h2 h3 h4 => IH.out k1 (by omega) yk ysx A1 c1 Ax cx xs base w (by omega) h1 ha hka h2 hc1 h3 h4)
    have HSZ := Lib.hid (show szF kids = szR (yk, ysx) k1 by
      have e1 := (lay_len hk).1 0
      rw [HF.out, HRL.out] at e1
      exact e1.symm)
    clear ha hka hdr ek hh
    have cb := B.cell
    go_wp2_with fail
    clear cb
    have ew : IntKind.i64.wrap ((xs.length : Int) + 1) = (xs.length : Int) + 1 := by rw [IntKind.wrap_i64]; omega
    refine wp_region_held_drew (S := (fun y => Blk y g 45 #[.int .i64 6, .string zs, .slice (some ⟨bb, ob, none⟩) kids.len c] ∧ ∀ p : Addr, p.block < base → y.cell? p = w0.cell? p)) (by kernel_rfl) ?_ (fun hHeld => ?_)
    · exact ⟨B.drew, fun _ _ => rfl⟩
    refine wpAnyH_take (i := 0) (oi := ⟨some 146, _, _, _, _, _⟩) (v := ?_) rfl (by kernel_rfl) (by kernel_rfl) (by kernel_rfl) (fun _ _ _ h => h) (Or.inl ⟨by rfl, ?_⟩) (by assumption) ?_
    case refine_2 => (intro w hSw; skip; go_simp; first | done | with_reducible rfl)
    simp only [Act.put, List.setIfInBounds_toArray, List.set_cons_zero, List.set_cons_succ]
    refine wpAnyH_take (i := 1) (oi := ⟨some 147, _, _, _, _, _⟩) (v := ?_) rfl (by kernel_rfl) (by kernel_rfl) (by kernel_rfl) (fun _ _ _ h => h) (Or.inl ⟨by rfl, ?_⟩) (by assumption) ?_
    case refine_2 => (intro w hSw; skip; go_simp; first | done | with_reducible rfl)
    simp only [Act.put, List.setIfInBounds_toArray, List.set_cons_zero, List.set_cons_succ]
    refine wpAnyH_take (i := 2) (oi := ⟨some 148, _, _, _, _, _⟩) (v := ?_) rfl (by kernel_rfl) (by kernel_rfl) (by kernel_rfl) (fun _ _ _ h => h) (Or.inl ⟨by rfl, ?_⟩) (by assumption) ?_
    case refine_2 => (intro w hSw; skip; go_simp; first | done | with_reducible rfl)
    simp only [Act.put, List.setIfInBounds_toArray, List.set_cons_zero, List.set_cons_succ]
    refine wpAnyH_take (i := 3) (oi := ⟨some 149, _, _, _, _, _⟩) (v := ?_) rfl (by kernel_rfl) (by kernel_rfl) (by kernel_rfl) (fun _ _ _ h => h) (Or.inl ⟨by rfl, ?_⟩) (by assumption) ?_
    case refine_2 => (intro w hSw; skip; go_simp; first | done | with_reducible rfl)
    simp only [Act.put, List.setIfInBounds_toArray, List.set_cons_zero, List.set_cons_succ]
    refine wpAnyH_take (i := 6) (oi := ⟨some 152, _, _, _, _, _⟩) (v := ?_) rfl (by kernel_rfl) (by kernel_rfl) (by kernel_rfl) (fun _ _ _ h => h) (Or.inl ⟨by rfl, ?_⟩) (by assumption) ?_
    case refine_2 => (intro w hSw; skip; go_simp; first | done | with_reducible rfl)
    simp only [Act.put, List.setIfInBounds_toArray, List.set_cons_zero, List.set_cons_succ]
    refine wpAnyH_take (i := 7) (oi := ⟨some 153, _, _, _, _, _⟩) (v := ?_) rfl (by kernel_rfl) (by kernel_rfl) (by kernel_rfl) (fun _ _ _ h => h) (Or.inl ⟨by rfl, ?_⟩) (by assumption) ?_
    case refine_2 => (intro w hSw; have p := hSw.1.cell; have v0 := (hSw.2 ⟨bb, ob, none⟩ hbb).trans q0; have v1 := (hSw.2 ⟨bb, ob + 1, none⟩ hbb).trans q1; have v2 := (hSw.2 ⟨bb, ob + 2, none⟩ hbb).trans q2; go_simp; first | done | with_reducible rfl)
    simp only [Act.put, List.setIfInBounds_toArray, List.set_cons_zero, List.set_cons_succ]
    refine wpAnyH_take (i := 8) (oi := ⟨some 154, _, _, _, _, _⟩) (v := ?_) rfl (by kernel_rfl) (by kernel_rfl) (by kernel_rfl) (fun _ _ _ h => h) (Or.inl ⟨by rfl, ?_⟩) (by assumption) ?_
    case refine_2 => (intro w hSw; skip; go_simp; (try rw [if_pos (by omega)]); first | done | with_reducible rfl)
    simp only [Act.put, List.setIfInBounds_toArray, List.set_cons_zero, List.set_cons_succ]
    refine wpAnyH_take (i := 9) (oi := ⟨some 155, _, _, _, _, _⟩) (v := ?_) rfl (by kernel_rfl) (by kernel_rfl) (by kernel_rfl) (fun _ _ _ h => h) (Or.inl ⟨by rfl, ?_⟩) (by assumption) ?_
    case refine_2 => (intro w hSw; have p := hSw.1.cell; have v0 := (hSw.2 ⟨bb, ob, none⟩ hbb).trans q0; have v1 := (hSw.2 ⟨bb, ob + 1, none⟩ hbb).trans q1; have v2 := (hSw.2 ⟨bb, ob + 2, none⟩ hbb).trans q2; go_simp; first | done | with_reducible rfl)
    simp only [Act.put, List.setIfInBounds_toArray, List.set_cons_zero, List.set_cons_succ]
    refine wpAnyH_ready (rs := [4]) (by kernel_rfl) (by simp) ?_
    refine AllReadyH.cons (o := ⟨some 150, _, _, _, _, _⟩) rfl (fun K hK => ?_) AllReadyH.nil
    go_simp
    go_wp2_with fail
    refine hK.out _ _ (⟨hHeld.1.alloc _, fun p hp => (World.cell?_alloc_lt _ _ _ (by show p.block < w0.heap.size; omega)).trans (hHeld.2 p hp)⟩) (fun hHeld => ?_)
    clear hK K
    try simp only [Act.put, List.setIfInBounds_toArray, List.set_cons_zero, List.set_cons_succ]
    refine wpAnyH_ready (rs := [5]) (by kernel_rfl) (by simp) ?_
    refine AllReadyH.cons (o := ⟨some 151, _, _, _, _, _⟩) rfl (fun K hK => ?_) AllReadyH.nil
    refine step_node (w := w0.drew) (4, ⟨#[]⟩, (xs.length : Int) + 1, 0) rfl _ _ rfl base _ _ _ rfl hO1.drew rfl rfl (by omega) (by show base ≤ w0.heap.size; omega) ?_
    intro A5 c5 y5 w5 h5 hl5 t5
    have hS5 : Blk w5 g 45 #[.int .i64 6, .string zs, .slice (some ⟨bb, ob, none⟩) kids.len c] ∧ ∀ p : Addr, p.block < base → w5.cell? p = w0.cell? p := ⟨t5.blk hO1.drew B.drew (by decide), fun p hp => t5.cell hO1.drew (by show base ≤ w0.heap.size; omega) hp⟩
    refine hK.out _ _ (hS5) (fun hHeld => ?_)
    clear hK K
    try simp only [Act.put, List.setIfInBounds_toArray, List.set_cons_zero, List.set_cons_succ]
    refine wpAnyH_ready (rs := [10]) (by kernel_rfl) (by simp) ?_
    refine AllReadyH.cons (o := ⟨some 156, _, _, _, _, _⟩) rfl (fun K hK => ?_) AllReadyH.nil
    go_simp
    refine (CL.out A5 c5 y5 w5 (by have := hl5.out; omega) (by have := t5.size; have e : w0.drew.heap.size = w0.heap.size := rfl; omega) t5.own (hSk.keep (fun p _ hp => hS5.2 p hp) (Nat.le_refl _) (Nat.le_refl _))).mono ?_; rintro e w6 ⟨A6, c6, y6, rfl, h6, t6⟩; have H6 := Lib.hid h6; clear h6
    go_wp2_with fail
    refine hK.out _ _ (⟨t6.blk t5.own hS5.1 (by decide), fun p hp => (t6.cell t5.own (by have := t5.size; have e : w0.drew.heap.size = w0.heap.size := rfl; omega) hp).trans (hS5.2 p hp)⟩) (fun hHeld => ?_)
    clear hK K
    try simp only [Act.put, List.setIfInBounds_toArray, List.set_cons_zero, List.set_cons_succ]
    refine wpAnyH_take (i := 11) (oi := ⟨some 0, _, _, _, _, _⟩) (v := ?_) rfl (by kernel_rfl) (by kernel_rfl) (by kernel_rfl) (fun _ _ _ h => h) (Or.inl ⟨by rfl, ?_⟩) (by assumption) ?_
    case refine_2 => (intro w hSw; skip; go_simp; first | done | with_reducible rfl)
    simp only [Act.put, List.setIfInBounds_toArray, List.set_cons_zero]
    refine wpAnyH_done (by kernel_rfl) ?_ _
    have hl6 := congrArg List.length H6.out
    rw [List.length_append, HRL.out, hl5.out] at hl6
    have HL6 := Lib.hid hl6
    have L5 := (L1.keep (Below.refl _ _).drew).next t5
    have L6 := L5.next t6
    have hO6 := L6.own
    have sz6 := L6.size
    have h6b : y6.length ≤ 100000 := by omega
    clear ew hl6 t6 t5 hS5 hHeld L5 L1 hO1
    go_wp2_with (at_builtin; refine wpList_node (4, ⟨#[]⟩, (xs.length : Int), (xs.length : Int)) rfl _ _ rfl base _ _ _ rfl hO6 (by first | rfl | (rw [alloc_size]; rfl)) (by omega) (by omega) ?_)
    intro A7 c7 y7 w7 h7 hl7 t7
    have L7 := L6.next t7
    have hO7 := L7.own
    have h7b : (xs.length : Int) < (y7.length : Int) := by have := HL6.out; have := hl7.out; omega
    obtain ⟨gg, rfl, ⟨uu, pc⟩, pf, hOs, hgs⟩ := own_setN hO7 (k := xs.length) (j := 3) (by omega) (.inr rfl) (y7.length : Int)
    have L8 := L7.set_ hOs hgs
    have HE : Hid (setN y7 xs.length 3 (y7.length : Int) = xs ++ layR (6, zs) kids xs.length) := Lib.hid (by
      rw [layR_6, HF.out, h7.out, H6.out, hl5.out, h5.out, show xs ++ [((4 : Int), (⟨#[]⟩ : ByteArray), (xs.length : Int) + 1, (0 : Int))] ++ layR (yk, ysx) k1 (xs.length + 1) ++ [(4, ⟨#[]⟩, (xs.length : Int), (xs.length : Int))] = xs ++ (4, ⟨#[]⟩, (xs.length : Int) + 1, 0) :: (layR (yk, ysx) k1 (xs.length + 1) ++ [(4, ⟨#[]⟩, (xs.length : Int), (xs.length : Int))]) by simp only [List.append_assoc, List.cons_append, List.nil_append], setN_at, if_neg (by omega)]
      have e : ((xs ++ (4, ⟨#[]⟩, (xs.length : Int) + 1, 0) :: (layR (yk, ysx) k1 (xs.length + 1) ++ [(4, ⟨#[]⟩, (xs.length : Int), (xs.length : Int))]) : List (Int × ByteArray × Int × Int)).length : Int) = (xs.length : Int) + (szR (6, zs) kids : Nat) := by
        have e2 : szR (6, zs) kids = szF kids + 2 := rfl
        rw [e2, HSZ.out, List.length_append, List.length_cons, List.length_append, HRL.out]
        simp <;> omega
      rw [e])
    have HLn := Lib.hid (setN_len y7 xs.length 3 (y7.length : Int))
    go_wp2_with fail
    go_ret
    exact ⟨_, c7, setN y7 xs.length 3 (y7.length : Int), by rw [HLn.out]; rfl, HE.out, L8⟩
  · have h1' : (0 : Int) < (kids.len : Int) := by omega
    obtain ⟨bb, ob, a, k1, A1, c1, rfl, hbb, hdr, hks, hc1, hSk, q0, q1, q2⟩ := at_RexC S1 (show 0 < kids.len by omega)
    simp only [Nat.zero_mul, Nat.add_zero] at q0 q1 q2
    obtain ⟨ha, hka⟩ := lOk_at hk hdr
    have hso := size_one hdr
    have HF := Lib.hid (fun p => layF_one ek hdr p)
    obtain ⟨yk, ysx⟩ := a
    simp only at q0 q1 ha
    have hszl := szR_le (yk, ysx) k1
    have HRL := Lib.hid (fun p => layR_len (a := (yk, ysx)) ha hka p)
    have CL := Lib.hid (fun Ax cx xs w h1 h2 h3 h4 => IH.out k1 (by omega) yk ysx A1 c1 Ax cx xs base w (by omega) h1 ha hka h2 hc1 h3 h4)
    have HSZ := Lib.hid (show szF kids = szR (yk, ysx) k1 by
      have e1 := (lay_len hk).1 0
      rw [HF.out, HRL.out] at e1
      exact e1.symm)
    clear ha hka hdr ek hh
    have cb := B.cell
    have CK := Lib.hid (CL.out Ax cx xs _ (by omega) (by omega) hO1 hSk)
    go_wp2_with fail
    refine CK.out.mono ?_; rintro e w3 ⟨A3, c3, y3, rfl, h3, t3⟩
    have H3 := Lib.hid h3
    have hL3 := L1.next t3
    have hs3 := hL3.size
    have hO3 := hL3.own
    have hl3 := congrArg List.length h3
    rw [List.length_append, HRL.out] at hl3
    have HL3 := Lib.hid hl3
    have h3b : y3.length ≤ 100000 := by omega
    clear h3 hl3 t3
    go_wp2_with (at_builtin; refine wpList_node (4, ⟨#[]⟩, (xs.length : Int), (y3.length : Int) + 1) rfl _ _ rfl base _ _ _ rfl hO3 (by first | rfl | (rw [alloc_size]; rfl)) (by omega) (by omega) ?_)
    intro A4 c4 y4 w4 h4 hl4 t4
    have hL4 := hL3.next t4
    have HE : Hid (y4 = xs ++ layR (7, zs) kids xs.length) := Lib.hid (by
      have e : (y3.length : Int) + 1 = (xs.length : Int) + (szR (7, zs) kids : Nat) := by
        have e2 : szR (7, zs) kids = szF kids + 1 := rfl
        rw [e2, HSZ.out, HL3.out]
        simp <;> omega
      rw [layR_7, HF.out, h4.out, e, H3.out, List.append_assoc])
    go_wp2_with fail
    go_ret
    exact ⟨A4, c4, y4, rfl, HE.out, hL4⟩
  · have h1' : (0 : Int) < (kids.len : Int) := by omega
    obtain ⟨bb, ob, a, k1, A1, c1, rfl, hbb, hdr, hks, hc1, hSk, q0, q1, q2⟩ := at_RexC S1 (show 0 < kids.len by omega)
    simp only [Nat.zero_mul, Nat.add_zero] at q0 q1 q2
    obtain ⟨ha, hka⟩ := lOk_at hk hdr
    have hso := size_one hdr
    have HF := Lib.hid (fun p => layF_one ek hdr p)
    obtain ⟨yk, ysx⟩ := a
    simp only at q0 q1 ha
    have hszl := szR_le (yk, ysx) k1
    have HRL := Lib.hid (fun p => layR_len (a := (yk, ysx)) ha hka p)
    have CL := Lib.hid (fun Ax cx xs w h1 h2 h3 h4 => IH.out k1 (by omega) yk ysx A1 c1 Ax cx xs base w (by omega) h1 ha hka h2 hc1 h3 h4)
    have HSZ := Lib.hid (show szF kids = szR (yk, ysx) k1 by
      have e1 := (lay_len hk).1 0
      rw [HF.out, HRL.out] at e1
      exact e1.symm)
    clear ha hka hdr ek hh
    have cb := B.cell
    go_wp2_with fail
    clear cb
    have ew : IntKind.i64.wrap ((xs.length : Int) + 1) = (xs.length : Int) + 1 := by rw [IntKind.wrap_i64]; omega
    refine wp_region_held_drew (S := (fun y => Blk y g 45 #[.int .i64 8, .string zs, .slice (some ⟨bb, ob, none⟩) kids.len c] ∧ ∀ p : Addr, p.block < base → y.cell? p = w0.cell? p)) (by kernel_rfl) ?_ (fun hHeld => ?_)
    · exact ⟨B.drew, fun _ _ => rfl⟩
    refine wpAnyH_take (i := 0) (oi := ⟨some 187, _, _, _, _, _⟩) (v := ?_) rfl (by kernel_rfl) (by kernel_rfl) (by kernel_rfl) (fun _ _ _ h => h) (Or.inl ⟨by rfl, ?_⟩) (by assumption) ?_
    case refine_2 => (intro w hSw; skip; go_simp; first | done | with_reducible rfl)
    simp only [Act.put, List.setIfInBounds_toArray, List.set_cons_zero, List.set_cons_succ]
    refine wpAnyH_take (i := 1) (oi := ⟨some 188, _, _, _, _, _⟩) (v := ?_) rfl (by kernel_rfl) (by kernel_rfl) (by kernel_rfl) (fun _ _ _ h => h) (Or.inl ⟨by rfl, ?_⟩) (by assumption) ?_
    case refine_2 => (intro w hSw; skip; go_simp; first | done | with_reducible rfl)
    simp only [Act.put, List.setIfInBounds_toArray, List.set_cons_zero, List.set_cons_succ]
    refine wpAnyH_take (i := 2) (oi := ⟨some 189, _, _, _, _, _⟩) (v := ?_) rfl (by kernel_rfl) (by kernel_rfl) (by kernel_rfl) (fun _ _ _ h => h) (Or.inl ⟨by rfl, ?_⟩) (by assumption) ?_
    case refine_2 => (intro w hSw; skip; go_simp; first | done | with_reducible rfl)
    simp only [Act.put, List.setIfInBounds_toArray, List.set_cons_zero, List.set_cons_succ]
    refine wpAnyH_take (i := 3) (oi := ⟨some 190, _, _, _, _, _⟩) (v := ?_) rfl (by kernel_rfl) (by kernel_rfl) (by kernel_rfl) (fun _ _ _ h => h) (Or.inl ⟨by rfl, ?_⟩) (by assumption) ?_
    case refine_2 => (intro w hSw; skip; go_simp; first | done | with_reducible rfl)
    simp only [Act.put, List.setIfInBounds_toArray, List.set_cons_zero, List.set_cons_succ]
    refine wpAnyH_take (i := 6) (oi := ⟨some 193, _, _, _, _, _⟩) (v := ?_) rfl (by kernel_rfl) (by kernel_rfl) (by kernel_rfl) (fun _ _ _ h => h) (Or.inl ⟨by rfl, ?_⟩) (by assumption) ?_
    case refine_2 => (intro w hSw; skip; go_simp; first | done | with_reducible rfl)
    simp only [Act.put, List.setIfInBounds_toArray, List.set_cons_zero, List.set_cons_succ]
    refine wpAnyH_take (i := 7) (oi := ⟨some 194, _, _, _, _, _⟩) (v := ?_) rfl (by kernel_rfl) (by kernel_rfl) (by kernel_rfl) (fun _ _ _ h => h) (Or.inl ⟨by rfl, ?_⟩) (by assumption) ?_
    case refine_2 => (intro w hSw; have p := hSw.1.cell; have v0 := (hSw.2 ⟨bb, ob, none⟩ hbb).trans q0; have v1 := (hSw.2 ⟨bb, ob + 1, none⟩ hbb).trans q1; have v2 := (hSw.2 ⟨bb, ob + 2, none⟩ hbb).trans q2; go_simp; first | done | with_reducible rfl)
    simp only [Act.put, List.setIfInBounds_toArray, List.set_cons_zero, List.set_cons_succ]
    refine wpAnyH_take (i := 8) (oi := ⟨some 195, _, _, _, _, _⟩) (v := ?_) rfl (by kernel_rfl) (by kernel_rfl) (by kernel_rfl) (fun _ _ _ h => h) (Or.inl ⟨by rfl, ?_⟩) (by assumption) ?_
    case refine_2 => (intro w hSw; skip; go_simp; (try rw [if_pos (by omega)]); first | done | with_reducible rfl)
    simp only [Act.put, List.setIfInBounds_toArray, List.set_cons_zero, List.set_cons_succ]
    refine wpAnyH_take (i := 9) (oi := ⟨some 196, _, _, _, _, _⟩) (v := ?_) rfl (by kernel_rfl) (by kernel_rfl) (by kernel_rfl) (fun _ _ _ h => h) (Or.inl ⟨by rfl, ?_⟩) (by assumption) ?_
    case refine_2 => (intro w hSw; have p := hSw.1.cell; have v0 := (hSw.2 ⟨bb, ob, none⟩ hbb).trans q0; have v1 := (hSw.2 ⟨bb, ob + 1, none⟩ hbb).trans q1; have v2 := (hSw.2 ⟨bb, ob + 2, none⟩ hbb).trans q2; go_simp; first | done | with_reducible rfl)
    simp only [Act.put, List.setIfInBounds_toArray, List.set_cons_zero, List.set_cons_succ]
    refine wpAnyH_ready (rs := [4]) (by kernel_rfl) (by simp) ?_
    refine AllReadyH.cons (o := ⟨some 191, _, _, _, _, _⟩) rfl (fun K hK => ?_) AllReadyH.nil
    go_simp
    go_wp2_with fail
    refine hK.out _ _ (⟨hHeld.1.alloc _, fun p hp => (World.cell?_alloc_lt _ _ _ (by show p.block < w0.heap.size; omega)).trans (hHeld.2 p hp)⟩) (fun hHeld => ?_)
    clear hK K
    try simp only [Act.put, List.setIfInBounds_toArray, List.set_cons_zero, List.set_cons_succ]
    refine wpAnyH_ready (rs := [5]) (by kernel_rfl) (by simp) ?_
    refine AllReadyH.cons (o := ⟨some 192, _, _, _, _, _⟩) rfl (fun K hK => ?_) AllReadyH.nil
    refine step_node (w := w0.drew) (4, ⟨#[]⟩, (xs.length : Int) + 1, 0) rfl _ _ rfl base _ _ _ rfl hO1.drew rfl rfl (by omega) (by show base ≤ w0.heap.size; omega) ?_
    intro A5 c5 y5 w5 h5 hl5 t5
    have hS5 : Blk w5 g 45 #[.int .i64 8, .string zs, .slice (some ⟨bb, ob, none⟩) kids.len c] ∧ ∀ p : Addr, p.block < base → w5.cell? p = w0.cell? p := ⟨t5.blk hO1.drew B.drew (by decide), fun p hp => t5.cell hO1.drew (by show base ≤ w0.heap.size; omega) hp⟩
    refine hK.out _ _ (hS5) (fun hHeld => ?_)
    clear hK K
    try simp only [Act.put, List.setIfInBounds_toArray, List.set_cons_zero, List.set_cons_succ]
    refine wpAnyH_ready (rs := [10]) (by kernel_rfl) (by simp) ?_
    refine AllReadyH.cons (o := ⟨some 197, _, _, _, _, _⟩) rfl (fun K hK => ?_) AllReadyH.nil
    go_simp
    refine (CL.out A5 c5 y5 w5 (by have := hl5.out; omega) (by have := t5.size; have e : w0.drew.heap.size = w0.heap.size := rfl; omega) t5.own (hSk.keep (fun p _ hp => hS5.2 p hp) (Nat.le_refl _) (Nat.le_refl _))).mono ?_; rintro e w6 ⟨A6, c6, y6, rfl, h6, t6⟩; have H6 := Lib.hid h6; clear h6
    go_wp2_with fail
    refine hK.out _ _ (⟨t6.blk t5.own hS5.1 (by decide), fun p hp => (t6.cell t5.own (by have := t5.size; have e : w0.drew.heap.size = w0.heap.size := rfl; omega) hp).trans (hS5.2 p hp)⟩) (fun hHeld => ?_)
    clear hK K
    try simp only [Act.put, List.setIfInBounds_toArray, List.set_cons_zero, List.set_cons_succ]
    refine wpAnyH_take (i := 11) (oi := ⟨some 0, _, _, _, _, _⟩) (v := ?_) rfl (by kernel_rfl) (by kernel_rfl) (by kernel_rfl) (fun _ _ _ h => h) (Or.inl ⟨by rfl, ?_⟩) (by assumption) ?_
    case refine_2 => (intro w hSw; skip; go_simp; first | done | with_reducible rfl)
    simp only [Act.put, List.setIfInBounds_toArray, List.set_cons_zero]
    refine wpAnyH_done (by kernel_rfl) ?_ _
    have hl6 := congrArg List.length H6.out
    rw [List.length_append, HRL.out, hl5.out] at hl6
    have HL6 := Lib.hid hl6
    have L5 := (L1.keep (Below.refl _ _).drew).next t5
    have L6 := L5.next t6
    have hO6 := L6.own
    have sz6 := L6.size
    have h6b : y6.length ≤ 100000 := by omega
    clear ew hl6 t6 t5 hS5 hHeld L5 L1 hO1
    have h6c : (xs.length : Int) < (y6.length : Int) := by have := HL6.out; omega
    obtain ⟨gg, rfl, ⟨uu, pc⟩, pf, hOs, hgs⟩ := own_setN hO6 (k := xs.length) (j := 3) (by omega) (.inr rfl) (y6.length : Int)
    have L8 := L6.set_ hOs hgs
    have HE : Hid (setN y6 xs.length 3 (y6.length : Int) = xs ++ layR (8, zs) kids xs.length) := Lib.hid (by
      rw [layR_8, HF.out, H6.out, hl5.out, h5.out, show xs ++ [((4 : Int), (⟨#[]⟩ : ByteArray), (xs.length : Int) + 1, (0 : Int))] ++ layR (yk, ysx) k1 (xs.length + 1) = xs ++ (4, ⟨#[]⟩, (xs.length : Int) + 1, 0) :: layR (yk, ysx) k1 (xs.length + 1) by simp only [List.append_assoc, List.cons_append, List.nil_append], setN_at, if_neg (by omega)]
      have e : ((xs ++ (4, ⟨#[]⟩, (xs.length : Int) + 1, 0) :: layR (yk, ysx) k1 (xs.length + 1) : List (Int × ByteArray × Int × Int)).length : Int) = (xs.length : Int) + (szR (8, zs) kids : Nat) := by
        have e2 : szR (8, zs) kids = szF kids + 1 := rfl
        rw [e2, HSZ.out, List.length_append, List.length_cons, HRL.out]
        simp <;> omega
      rw [e])
    have HLn := Lib.hid (setN_len y6 xs.length 3 (y6.length : Int))
    go_wp2_with fail
    go_ret
    exact ⟨_, c6, setN y6 xs.length 3 (y6.length : Int), by rw [HLn.out]; rfl, HE.out, L8⟩

theorem iLay (K : Nat) : LayD 54 K := by
  induction K with
  | zero => exact fun kids h => absurd h (Nat.not_lt_zero _)
  | succ K ih => exact fun kids h zk zs A c Ax cx xs base w h60 hx hh hk hb hc hO hS => iLay_step K ih kids (by omega) zk zs A c Ax cx xs base w h60 hx hh hk hb hc hO hS

end Go.Proofs.Ytnoekbgmhnhneaa
