/- Walk over the reference's DrawSameProg: two programs. -/
import Derived.Test.YtalnkdbmbjplpaaP10d
import Derived.Test.YtalnkdbmbjplpaaP10e
namespace Go.Proofs.Ytalnkdbmbjplpaa
open Go.RowKit

set_option maxRecDepth 20000 in
set_option maxHeartbeats 8000000 in
theorem dDrawSameProg (A0 : Option Addr) (n0 c0 : Nat) (bs : List Int) (w : World) (hR : Reads w w.heap.size 1 A0 n0 (u8s bs)) (hZ : Byt bs) (hn : n0 ≤ 1048576) :
    Calls Try.prog 7 #[.slice A0 n0 c0] w fun e w' => R2P w e w' := by
  have B2 := (Blk.new w 37 #[.slice none 0 0, .slice none 0 0]).alloc (.cells #[.slice none 0 0, .slice none 0 0] 37)
  have B3 := Blk.new2 w (.cells #[.slice none 0 0, .slice none 0 0] 37) 37 #[.slice none 0 0, .slice none 0 0]
  have L0 := bl_alloc (bl_alloc (Below.refl w.heap.size w) (.cells #[.slice none 0 0, .slice none 0 0] 37)) (.cells #[.slice none 0 0, .slice none 0 0] 37)
  have hz2 : ((w.alloc (.cells #[.slice none 0 0, .slice none 0 0] 37)).alloc (.cells #[.slice none 0 0, .slice none 0 0] 37)).heap.size = w.heap.size + 2 := by rw [alloc_size, alloc_size]
  go_enter Try.func7, Try.ntmps7
  go_wp2_with fail
  generalize (w.alloc (.cells #[.slice none 0 0, .slice none 0 0] 37)).alloc (.cells #[.slice none 0 0, .slice none 0 0] 37) = wz at B2 B3 L0 hz2 ⊢
  refine (dNew w.heap.size n0 c0 A0 bs wz (hR.below L0) hZ (by omega) hn).mono ?_; rintro e w1 ⟨g, rfl, hc1, hg1, b1⟩
  have L1 := bl_trans L0 b1
  replace B2 := B2.keep b1
  replace B3 := B3.keep b1
  have C1 : Cu w.heap.size g (fun _ => False) w1 := ⟨hc1, id, fun b h => h.elim⟩
  have hw1 : w.heap.size + 2 ≤ w1.heap.size := by have := b1.size; omega
  replace hg1 : w.heap.size + 2 ≤ g := by omega
  clear L0 hz2 b1 hc1
  go_wp2_with fail
  refine (dAny10 _ g _ _ C1).mono ?_; rintro e w2 ⟨AR, AF, cR, cF, L, M, U2, rfl, PR, PF, hks, C, G⟩
  replace B2 := B2.grown G.grown (fun e => by injection e with e; omega)
  replace B3 := B3.grown G.grown (fun e => by injection e with e; omega)
  have hrb0 := G.sz
  go_wp2_with fail
  have Rb := Bx.new C 37 #[.slice AR L.length cR, .slice AF M.length cF]
  replace B2 := B2.alloc (.cells #[.slice AR L.length cR, .slice AF M.length cF] 37)
  replace B3 := B3.alloc (.cells #[.slice AR L.length cR, .slice AF M.length cF] 37)
  replace PR := PR.alloc C (.cells #[.slice AR L.length cR, .slice AF M.length cF] 37)
  replace PF := PF.alloc C (.cells #[.slice AR L.length cR, .slice AF M.length cF] 37)
  replace G := G.alloc (.cells #[.slice AR L.length cR, .slice AF M.length cF] 37)
  replace C := C.alloc (.cells #[.slice AR L.length cR, .slice AF M.length cF] 37)
  generalize w2.alloc (.cells #[.slice AR L.length cR, .slice AF M.length cF] 37) = w3 at PR PF B2 B3 Rb G C ⊢
  generalize w2.heap.size = rb at Rb hrb0 ⊢
  refine (cOnce 2 C (by omega)).mono ?_; rintro e w4 ⟨⟨bo, rfl⟩, C4, G4⟩
  replace B2 := B2.grown G4.grown (fun e => by injection e with e; omega)
  replace B3 := B3.grown G4.grown (fun e => by injection e with e; omega)
  replace Rb := Rb.gro G4
  replace PR := PR.gro C G4
  replace PF := PF.gro C G4
  replace G := G.trans G4
  clear C
  have C := C4
  clear C4 G4
  cases bo
  · have RB := Rb.1
    have hgrb := Rb.2.2
    go_wp2_with fail
    refine ((dDraw10 _ g _ _ C).mono fun _ _ h => h.close).mono ?_; rintro e w5 ⟨AR', AF', cR', cF', L', M', U5, rfl, PR2, PF2, hks2, C5, G5⟩
    replace B2 := B2.grown G5.grown (fun e => by injection e with e; omega)
    replace B3 := B3.grown G5.grown (fun e => by injection e with e; omega)
    replace RB := RB.grown G5.grown (fun e => by injection e with e; omega)
    replace PR := PR.gro C G5
    replace PF := PF.gro C G5
    replace G := G.trans G5
    clear C Rb
    have C := C5
    clear C5 G5
    have hrbl := RB.lt
    have hgs5 := G.sz
    have pa := RB.alloc (.cells #[.slice AR' L'.length cR', .slice AF' M'.length cF'] 37)
    have pc0 := pa.cell
    go_upto_region 7 with fail
    clear pc0 pa
    have RC := Blk.new w5 37 #[.slice AR' L'.length cR', .slice AF M.length cF]
    replace B2 := B2.alloc (.cells #[.slice AR' L'.length cR', .slice AF M.length cF] 37)
    replace B3 := B3.alloc (.cells #[.slice AR' L'.length cR', .slice AF M.length cF] 37)
    replace RB := RB.alloc (.cells #[.slice AR' L'.length cR', .slice AF M.length cF] 37)
    replace PR := PR.alloc C (.cells #[.slice AR' L'.length cR', .slice AF M.length cF] 37)
    replace PF := PF.alloc C (.cells #[.slice AR' L'.length cR', .slice AF M.length cF] 37)
    replace PR2 := PR2.alloc C (.cells #[.slice AR' L'.length cR', .slice AF M.length cF] 37)
    replace G := G.alloc (.cells #[.slice AR' L'.length cR', .slice AF M.length cF] 37)
    replace C := C.alloc (.cells #[.slice AR' L'.length cR', .slice AF M.length cF] 37)
    generalize w5.alloc (.cells #[.slice AR' L'.length cR', .slice AF M.length cF] 37) = w6 at PR PF PR2 B2 B3 RB RC G C ⊢
    generalize w5.heap.size = rc at RC hgs5 hrbl ⊢
    have hbnd := fun b hb => (show w1.heap.size ≤ b ∧ b < w6.heap.size from ⟨(G.new b hb).resolve_left id, C.2.2 b hb⟩)
    replace PR := PR.more (U' := fun b => w1.heap.size ≤ b ∧ b < w6.heap.size) (fun b hb => hbnd b hb)
    replace PF := PF.more (U' := fun b => w1.heap.size ≤ b ∧ b < w6.heap.size) (fun b hb => hbnd b hb)
    replace PR2 := PR2.more (U' := fun b => w1.heap.size ≤ b ∧ b < w6.heap.size) (fun b hb => hbnd b hb)
    have BL := bl_gr L1 G.grown (fun k e => by injection e with e; omega)
    clear hbnd G C PF2
    refine wp_region_any (by kernel_rfl) ?_
    change wpAny _ _ _ _ (3 + 1) _ _ (World.drew _)
    have bd := (Below.refl w6.heap.size w6).drew
    replace PR := PR.keep (w' := w6.drew) (fun _ _ => rfl) (fun _ h => h)
    replace PF := PF.keep (w' := w6.drew) (fun _ _ => rfl) (fun _ h => h)
    replace PR2 := PR2.keep (w' := w6.drew) (fun _ _ => rfl) (fun _ h => h)
    replace B2 := B2.below bd B2.lt
    replace B3 := B3.below bd B3.lt
    replace RB := RB.below bd RB.lt
    replace RC := RC.below bd RC.lt
    replace BL := bl_trans BL (Below.drew (Below.refl w6.heap.size w6))
    clear bd
    have h6d : w6.drew.heap.size = w6.heap.size := rfl
    generalize w6.drew = wd at PR PF PR2 B2 B3 RB RC BL h6d ⊢
    refine wpAny_last 3 _ rfl (by kernel_rfl) (by kernel_rfl) (by kernel_rfl) (by kernel_rfl) 3 _ _ _ (by kernel_rfl) (by kernel_rfl) ?_
    simp only [List.setIfInBounds_toArray, List.set_cons_succ, List.set_cons_zero]
    refine wpAny_of_held (S := fun y => Blk y rb 37 #[.slice AR L.length cR, .slice AF M.length cF] ∧ Blk y rc 37 #[.slice AR' L'.length cR', .slice AF M.length cF]) _ _ _ _ ?_
    have hHeld : (fun y => Blk y rb 37 #[.slice AR L.length cR, .slice AF M.length cF] ∧ Blk y rc 37 #[.slice AR' L'.length cR', .slice AF M.length cF] : World → Prop) wd := ⟨RB, RC⟩
    refine wpAnyH_take (i := 0) (oi := ⟨some 20, _, _, _, _, _⟩) (v := ?_) rfl (by kernel_rfl) (by kernel_rfl) (by kernel_rfl) (fun _ _ _ h => h) (Or.inl ⟨by rfl, ?_⟩) (by assumption) ?_
    case refine_2 => (intro w hSw; have p := hSw.1.cell; go_simp; first | done | with_reducible rfl)
    simp only [Act.put, List.setIfInBounds_toArray, List.set_cons_zero, List.set_cons_succ]
    refine wpAnyH_take (i := 1) (oi := ⟨some 21, _, _, _, _, _⟩) (v := ?_) rfl (by kernel_rfl) (by kernel_rfl) (by kernel_rfl) (fun _ _ _ h => h) (Or.inl ⟨by rfl, ?_⟩) (by assumption) ?_
    case refine_2 => (intro w hSw; have p := hSw.2.cell; go_simp; first | done | with_reducible rfl)
    simp only [Act.put, List.setIfInBounds_toArray, List.set_cons_zero, List.set_cons_succ]
    refine wpAnyH_ready (rs := [2]) (by kernel_rfl) (by simp) ?_
    refine AllReadyH.cons (o := ⟨none, _, _, _, _, _⟩) rfl (fun K hK => ?_) AllReadyH.nil
    have pc0 := B2.cell
    have pf0 := B2.frozen
    go_simp
    go_wp2_with fail
    clear pc0 pf0
    refine hK.out _ _ (⟨((hHeld.1.farb (b := w.heap.size) (j := 0) (by omega) (.slice AR L.length cR)).farb (b := w.heap.size) (j := 1) (by omega) (.slice AF M.length cF)), ((hHeld.2.farb (b := w.heap.size) (j := 0) (by omega) (.slice AR L.length cR)).farb (b := w.heap.size) (j := 1) (by omega) (.slice AF M.length cF))⟩) (fun hHeld => ?_)
    clear hK K
    replace PR := PR.setb (b := w.heap.size) (j := 0) (fun e => by have := e.1; omega) (.slice AR L.length cR)
    replace PF := PF.setb (b := w.heap.size) (j := 0) (fun e => by have := e.1; omega) (.slice AR L.length cR)
    replace PR2 := PR2.setb (b := w.heap.size) (j := 0) (fun e => by have := e.1; omega) (.slice AR L.length cR)
    replace B3 := B3.farb (b := w.heap.size) (j := 0) (by omega) (.slice AR L.length cR)
    replace BL := bl_setb (b := w.heap.size) (j := 0) BL (by omega) (.slice AR L.length cR)
    replace B2 := B2.set_ 0 (.slice AR L.length cR)
    replace PR := PR.setb (b := w.heap.size) (j := 1) (fun e => by have := e.1; omega) (.slice AF M.length cF)
    replace PF := PF.setb (b := w.heap.size) (j := 1) (fun e => by have := e.1; omega) (.slice AF M.length cF)
    replace PR2 := PR2.setb (b := w.heap.size) (j := 1) (fun e => by have := e.1; omega) (.slice AF M.length cF)
    replace B3 := B3.farb (b := w.heap.size) (j := 1) (by omega) (.slice AF M.length cF)
    replace BL := bl_setb (b := w.heap.size) (j := 1) BL (by omega) (.slice AF M.length cF)
    replace B2 := B2.set_ 1 (.slice AF M.length cF)
    simp only [List.setIfInBounds_toArray, List.set_cons_succ, List.set_cons_zero] at B2
    try simp only [Act.put, List.setIfInBounds_toArray, List.set_cons_zero, List.set_cons_succ]
    refine wpAnyH_done (by kernel_rfl) ?_ _
    refine relQ_normal ?_
    refine wpOp_step (o := ⟨none, _, _, _, _, _⟩) rfl (fun K hK => ?_)
    have pc0 := B3.cell
    have pf0 := B3.frozen
    have pc1 := B2.cell
    go_simp
    go_wp2_with fail
    replace PR := PR.setb (b := (w.heap.size + 1)) (j := 0) (fun e => by have := e.1; omega) (.slice AR' L'.length cR')
    replace PF := PF.setb (b := (w.heap.size + 1)) (j := 0) (fun e => by have := e.1; omega) (.slice AR' L'.length cR')
    replace PR2 := PR2.setb (b := (w.heap.size + 1)) (j := 0) (fun e => by have := e.1; omega) (.slice AR' L'.length cR')
    replace B2 := B2.farb (b := (w.heap.size + 1)) (j := 0) (by omega) (.slice AR' L'.length cR')
    replace BL := bl_setb (b := (w.heap.size + 1)) (j := 0) BL (by omega) (.slice AR' L'.length cR')
    replace B3 := B3.set_ 0 (.slice AR' L'.length cR')
    replace PR := PR.setb (b := (w.heap.size + 1)) (j := 1) (fun e => by have := e.1; omega) (.slice AF M.length cF)
    replace PF := PF.setb (b := (w.heap.size + 1)) (j := 1) (fun e => by have := e.1; omega) (.slice AF M.length cF)
    replace PR2 := PR2.setb (b := (w.heap.size + 1)) (j := 1) (fun e => by have := e.1; omega) (.slice AF M.length cF)
    replace B2 := B2.farb (b := (w.heap.size + 1)) (j := 1) (by omega) (.slice AF M.length cF)
    replace BL := bl_setb (b := (w.heap.size + 1)) (j := 1) BL (by omega) (.slice AF M.length cF)
    replace B3 := B3.set_ 1 (.slice AF M.length cF)
    simp only [List.setIfInBounds_toArray, List.set_cons_succ, List.set_cons_zero] at B3
    have hsz : w6.heap.size ≤ ((((wd.setCell ⟨w.heap.size, 0, none⟩ (.slice AR L.length cR)).setCell ⟨w.heap.size, 1, none⟩ (.slice AF M.length cF)).setCell ⟨(w.heap.size + 1), 0, none⟩ (.slice AR' L'.length cR')).setCell ⟨(w.heap.size + 1), 1, none⟩ (.slice AF M.length cF)).heap.size := by simp; omega
    exact bodyPost_ret (res_cell2 rfl _ _ _ _ _ _ _ _ _ rfl rfl B2 B3 Try.underlying37 (by kernel_rfl) (by kernel_rfl)) rfl ⟨AR, AF, cR, cF, L, M, AR', AF, cR', cF, L', M, rfl, hks, ⟨hks2.1, hks.2.1, hks2.2.2.1, hks.2.2.2⟩, ⟨PR.more (fun b hb => by have := hb.2; have := hsz; omega), PF.more (fun b hb => by have := hb.2; have := hsz; omega)⟩, ⟨PR2.more (fun b hb => by have := hb.2; have := hsz; omega), PF.more (fun b hb => by have := hb.2; have := hsz; omega)⟩, BL⟩
  · have RB := Rb.1
    have hbnd := fun b hb => (show w1.heap.size ≤ b ∧ b < w4.heap.size from ⟨(G.new b hb).resolve_left id, C.2.2 b hb⟩)
    replace PR := PR.more (U' := fun b => w1.heap.size ≤ b ∧ b < w4.heap.size) (fun b hb => hbnd b hb)
    replace PF := PF.more (U' := fun b => w1.heap.size ≤ b ∧ b < w4.heap.size) (fun b hb => hbnd b hb)
    have BL := bl_gr L1 G.grown (fun k e => by injection e with e; omega)
    clear hbnd Rb C G
    go_upto_region 4 with fail
    refine wp_region_any (by kernel_rfl) ?_
    change wpAny _ _ _ _ (3 + 1) _ _ (World.drew _)
    have bd := (Below.refl w4.heap.size w4).drew
    replace PR := PR.keep (w' := w4.drew) (fun _ _ => rfl) (fun _ h => h)
    replace PF := PF.keep (w' := w4.drew) (fun _ _ => rfl) (fun _ h => h)
    replace B2 := B2.below bd B2.lt
    replace B3 := B3.below bd B3.lt
    replace RB := RB.below bd RB.lt
    replace BL := bl_trans BL (Below.drew (Below.refl w4.heap.size w4))
    clear bd
    have h4d : w4.drew.heap.size = w4.heap.size := rfl
    generalize w4.drew = wd at PR PF B2 B3 RB BL h4d ⊢
    refine wpAny_last 3 _ rfl (by kernel_rfl) (by kernel_rfl) (by kernel_rfl) (by kernel_rfl) 3 _ _ _ (by kernel_rfl) (by kernel_rfl) ?_
    simp only [List.setIfInBounds_toArray, List.set_cons_succ, List.set_cons_zero]
    refine wpAny_of_held (S := fun y => Blk y rb 37 #[.slice AR L.length cR, .slice AF M.length cF]) _ _ _ _ ?_
    have hHeld : (fun y => Blk y rb 37 #[.slice AR L.length cR, .slice AF M.length cF] : World → Prop) wd := RB
    refine wpAnyH_take (i := 0) (oi := ⟨some 13, _, _, _, _, _⟩) (v := ?_) rfl (by kernel_rfl) (by kernel_rfl) (by kernel_rfl) (fun _ _ _ h => h) (Or.inl ⟨by rfl, ?_⟩) (by assumption) ?_
    case refine_2 => (intro w hSw; have p := hSw.cell; go_simp; first | done | with_reducible rfl)
    simp only [Act.put, List.setIfInBounds_toArray, List.set_cons_zero, List.set_cons_succ]
    refine wpAnyH_take (i := 1) (oi := ⟨some 14, _, _, _, _, _⟩) (v := ?_) rfl (by kernel_rfl) (by kernel_rfl) (by kernel_rfl) (fun _ _ _ h => h) (Or.inl ⟨by rfl, ?_⟩) (by assumption) ?_
    case refine_2 => (intro w hSw; have p := hSw.cell; go_simp; first | done | with_reducible rfl)
    simp only [Act.put, List.setIfInBounds_toArray, List.set_cons_zero, List.set_cons_succ]
    refine wpAnyH_ready (rs := [2]) (by kernel_rfl) (by simp) ?_
    refine AllReadyH.cons (o := ⟨none, _, _, _, _, _⟩) rfl (fun K hK => ?_) AllReadyH.nil
    have pc0 := B2.cell
    have pf0 := B2.frozen
    go_simp
    go_wp2_with fail
    clear pc0 pf0
    refine hK.out _ _ (((hHeld.farb (b := w.heap.size) (j := 0) (by omega) (.slice AR L.length cR)).farb (b := w.heap.size) (j := 1) (by omega) (.slice AF M.length cF))) (fun hHeld => ?_)
    clear hK K
    replace PR := PR.setb (b := w.heap.size) (j := 0) (fun e => by have := e.1; omega) (.slice AR L.length cR)
    replace PF := PF.setb (b := w.heap.size) (j := 0) (fun e => by have := e.1; omega) (.slice AR L.length cR)
    replace B3 := B3.farb (b := w.heap.size) (j := 0) (by omega) (.slice AR L.length cR)
    replace BL := bl_setb (b := w.heap.size) (j := 0) BL (by omega) (.slice AR L.length cR)
    replace B2 := B2.set_ 0 (.slice AR L.length cR)
    replace PR := PR.setb (b := w.heap.size) (j := 1) (fun e => by have := e.1; omega) (.slice AF M.length cF)
    replace PF := PF.setb (b := w.heap.size) (j := 1) (fun e => by have := e.1; omega) (.slice AF M.length cF)
    replace B3 := B3.farb (b := w.heap.size) (j := 1) (by omega) (.slice AF M.length cF)
    replace BL := bl_setb (b := w.heap.size) (j := 1) BL (by omega) (.slice AF M.length cF)
    replace B2 := B2.set_ 1 (.slice AF M.length cF)
    simp only [List.setIfInBounds_toArray, List.set_cons_succ, List.set_cons_zero] at B2
    try simp only [Act.put, List.setIfInBounds_toArray, List.set_cons_zero, List.set_cons_succ]
    refine wpAnyH_done (by kernel_rfl) ?_ _
    refine relQ_normal ?_
    refine wpOp_step (o := ⟨none, _, _, _, _, _⟩) rfl (fun K hK => ?_)
    have pc0 := B3.cell
    have pf0 := B3.frozen
    have pc1 := B2.cell
    go_simp
    go_wp2_with fail
    replace PR := PR.setb (b := (w.heap.size + 1)) (j := 0) (fun e => by have := e.1; omega) (.slice AR L.length cR)
    replace PF := PF.setb (b := (w.heap.size + 1)) (j := 0) (fun e => by have := e.1; omega) (.slice AR L.length cR)
    replace B2 := B2.farb (b := (w.heap.size + 1)) (j := 0) (by omega) (.slice AR L.length cR)
    replace BL := bl_setb (b := (w.heap.size + 1)) (j := 0) BL (by omega) (.slice AR L.length cR)
    replace B3 := B3.set_ 0 (.slice AR L.length cR)
    replace PR := PR.setb (b := (w.heap.size + 1)) (j := 1) (fun e => by have := e.1; omega) (.slice AF M.length cF)
    replace PF := PF.setb (b := (w.heap.size + 1)) (j := 1) (fun e => by have := e.1; omega) (.slice AF M.length cF)
    replace B2 := B2.farb (b := (w.heap.size + 1)) (j := 1) (by omega) (.slice AF M.length cF)
    replace BL := bl_setb (b := (w.heap.size + 1)) (j := 1) BL (by omega) (.slice AF M.length cF)
    replace B3 := B3.set_ 1 (.slice AF M.length cF)
    simp only [List.setIfInBounds_toArray, List.set_cons_succ, List.set_cons_zero] at B3
    have hsz : w4.heap.size ≤ ((((wd.setCell ⟨w.heap.size, 0, none⟩ (.slice AR L.length cR)).setCell ⟨w.heap.size, 1, none⟩ (.slice AF M.length cF)).setCell ⟨(w.heap.size + 1), 0, none⟩ (.slice AR L.length cR)).setCell ⟨(w.heap.size + 1), 1, none⟩ (.slice AF M.length cF)).heap.size := by simp; omega
    exact bodyPost_ret (res_cell2 rfl _ _ _ _ _ _ _ _ _ rfl rfl B2 B3 Try.underlying37 (by kernel_rfl) (by kernel_rfl)) rfl ⟨AR, AF, cR, cF, L, M, AR, AF, cR, cF, L, M, rfl, hks, hks, ⟨PR.more (fun b hb => by have := hb.2; have := hsz; omega), PF.more (fun b hb => by have := hb.2; have := hsz; omega)⟩, ⟨PR.more (fun b hb => by have := hb.2; have := hsz; omega), PF.more (fun b hb => by have := hb.2; have := hsz; omega)⟩, BL⟩

end Go.Proofs.Ytalnkdbmbjplpaa
