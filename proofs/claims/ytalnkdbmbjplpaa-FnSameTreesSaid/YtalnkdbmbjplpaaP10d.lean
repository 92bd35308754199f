/- Walk over the reference's draws of programs: l10Any. -/
import Derived.Test.YtalnkdbmbjplpaaP10p
import Derived.Deep.CutRange
import Derived.Deep.CutBlock
namespace Go.Proofs.Ytalnkdbmbjplpaa
open Go.RowKit

set_option maxRecDepth 20000 in
set_option maxHeartbeats 16000000 in
theorem dAny10 (B g : Nat) (U : Nat → Prop) (w : World) (hC : Cu B g U w) :
    Calls Try.prog 18 #[.pointer (some ⟨g, 0, none⟩)] w fun e w' => RPr B g U w e w' := by
  have R0 := Bx.new hC 37 #[.slice none 0 0, .slice none 0 0]
  have C0 := hC.alloc (.cells #[.slice none 0 0, .slice none 0 0] 37)
  have G0 := (Gro.refl g U w).alloc (.cells #[.slice none 0 0, .slice none 0 0] 37)
  go_enter Try.func18, Try.ntmps18
  go_wp2_with fail
  refine (dDraw10 B g U _ C0).mono ?_; rintro e w1 ⟨vR, vF, n, mid, M, m, U1, rfl, hn0, hn3, RR, FF, hmid, hM2, C, G⟩
  have hws := Nat.le_of_eq (alloc_size w (.cells #[.slice none 0 0, .slice none 0 0] 37)).symm
  replace hmid : w.heap.size < mid := by omega
  replace FF : FU g U1 w1 (w.heap.size + 1) mid vF M m := by rw [alloc_size] at FF; exact FF
  have HM2 := Lib.hid hM2
  clear hM2
  rcases RR with ⟨rfl, _⟩ | ⟨k0, a0, x0, X0, cx0, v0, LA0, la0, Lr, lr, rfl, ⟨hRw, hRh⟩, S0, ⟨O0, h0h⟩, FR, hd0, hx0, hA0, hLr⟩
  · exact absurd hn0 (Nat.lt_irrefl 0)
  obtain ⟨AV, cV, rfl⟩ := hRw.form
  obtain ⟨AF, cF, rfl⟩ := FF.form
  obtain ⟨gR, rfl, hgR, hgR2⟩ := own_blk hRw.1 (Nat.succ_pos _)
  have R := R0.gro G
  have hw1 := R.lt
  replace G := G0.trans G
  clear C0 G0 R0 hws
  have hFm := FF.1.2
  go_wp2_with fail
  have Rb := Bx.new C 37 #[(Value.slice (some ⟨gR, 0, none⟩) (lr.length + 1) cV), (Value.slice AF m.length cF)]
  replace R := R.alloc (.cells #[(Value.slice (some ⟨gR, 0, none⟩) (lr.length + 1) cV), (Value.slice AF m.length cF)] 37)
  replace hRw := hRw.alloc (.cells #[(Value.slice (some ⟨gR, 0, none⟩) (lr.length + 1) cV), (Value.slice AF m.length cF)] 37)
  replace S0 := S0.alloc C (.cells #[(Value.slice (some ⟨gR, 0, none⟩) (lr.length + 1) cV), (Value.slice AF m.length cF)] 37)
  replace O0 := O0.alloc C (.cells #[(Value.slice (some ⟨gR, 0, none⟩) (lr.length + 1) cV), (Value.slice AF m.length cF)] 37)
  replace FR := FR.alloc C (.cells #[(Value.slice (some ⟨gR, 0, none⟩) (lr.length + 1) cV), (Value.slice AF m.length cF)] 37)
  replace FF := FF.alloc C (.cells #[(Value.slice (some ⟨gR, 0, none⟩) (lr.length + 1) cV), (Value.slice AF m.length cF)] 37)
  replace G := G.alloc (.cells #[(Value.slice (some ⟨gR, 0, none⟩) (lr.length + 1) cV), (Value.slice AF m.length cF)] 37)
  replace C := C.alloc (.cells #[(Value.slice (some ⟨gR, 0, none⟩) (lr.length + 1) cV), (Value.slice AF m.length cF)] 37)
  generalize w1.alloc (.cells #[(Value.slice (some ⟨gR, 0, none⟩) (lr.length + 1) cV), (Value.slice AF m.length cF)] 37) = w3 at Rb R hRw S0 O0 FR FF G C ⊢
  generalize w1.heap.size = rb at Rb hw1 hRh h0h hgR2 ⊢
  refine (cBelow 12 C (by omega)).mono ?_; rintro e w4 ⟨⟨xx, rfl, hx0', hx1', _⟩, C4, G4⟩
  clear hx0' hx1'
  replace R := R.gro G4
  replace Rb := Rb.gro G4
  replace hRw := hRw.gro G4
  replace S0 := S0.gro C G4
  replace O0 := O0.gro C G4
  replace FR := FR.gro C G4
  replace FF := FF.gro C G4
  replace G := G.trans G4
  clear C
  have C := C4
  clear C4
  clear G4
  have hFr : mid ≤ rb := by have := hRw.lt gR rfl; omega
  go_upto_block 0 with fail
  go_cut [] from 8 to 79 (fun wx => ∃ (AR AF : Option Addr) (cR cF : Nat) (L : List TR) (M : List TF) (U1 : Nat → Prop), Cu B g U1 wx ∧ Gro g U w U1 wx ∧ Bx g U1 wx w.heap.size 37 #[.slice none 0 0, .slice none 0 0] ∧ Bx g U1 wx rb 37 #[.slice AR L.length cR, .slice AF M.length cF] ∧ RulP wx U1 AR L ∧ FunP wx U1 AF M ∧ PBnd L M)
  case first =>
    by_cases xq0 : xx = 0
    · subst xq0
      have hgl := hRw.lt gR rfl
      have hug := hRw.2.1 gR rfl
      have hgg := FF.1.1.2.2
      go_upto_region 4 with fail
      refine wp_region_any (by kernel_rfl) ?_
      change wpAny _ _ _ _ (6 + 1) _ _ (World.drew _)
      have bd := (Below.refl w4.heap.size w4).drew
      replace R := R.below bd
      replace Rb := Rb.below bd
      replace hRw := hRw.below bd
      replace S0 := S0.below C bd
      replace O0 := O0.below C bd
      replace FR := FR.below C bd
      replace FF := FF.below C bd
      replace G := G.below bd
      replace C := C.below bd
      clear bd
      generalize w4.drew = wd at R Rb hRw S0 O0 FR FF G C ⊢
      refine wpAny_last 6 _ rfl (by kernel_rfl) (by kernel_rfl) (by kernel_rfl) (by kernel_rfl) 6 _ _ _ (by kernel_rfl) (by kernel_rfl) ?_
      simp only [List.setIfInBounds_toArray, List.set_cons_succ, List.set_cons_zero]
      refine wpAny_of_held (S := fun y => Blk y rb 37 #[(Value.slice (some ⟨gR, 0, none⟩) (lr.length + 1) cV), (Value.slice AF m.length cF)]) _ _ _ _ ?_
      have hHeld : (fun y => Blk y rb 37 #[(Value.slice (some ⟨gR, 0, none⟩) (lr.length + 1) cV), (Value.slice AF m.length cF)] : World → Prop) wd := Rb.1
      refine wpAnyH_take (i := 0) (oi := ⟨some 10, _, _, _, _, _⟩) (v := ?_) rfl (by kernel_rfl) (by kernel_rfl) (by kernel_rfl) (fun _ _ _ h => h) (Or.inl ⟨by rfl, ?_⟩) (by assumption) ?_
      case refine_2 => (intro w hSw; skip; go_simp; first | done | with_reducible rfl)
      simp only [Act.put, List.setIfInBounds_toArray, List.set_cons_zero, List.set_cons_succ]
      refine wpAnyH_take (i := 1) (oi := ⟨some 11, _, _, _, _, _⟩) (v := ?_) rfl (by kernel_rfl) (by kernel_rfl) (by kernel_rfl) (fun _ _ _ h => h) (Or.inl ⟨by rfl, ?_⟩) (by assumption) ?_
      case refine_2 => (intro w hSw; have p := hSw.cell; go_simp; first | done | with_reducible rfl)
      simp only [Act.put, List.setIfInBounds_toArray, List.set_cons_zero, List.set_cons_succ]
      refine wpAnyH_take (i := 2) (oi := ⟨some 12, _, _, _, _, _⟩) (v := ?_) rfl (by kernel_rfl) (by kernel_rfl) (by kernel_rfl) (fun _ _ _ h => h) (Or.inl ⟨by rfl, ?_⟩) (by assumption) ?_
      case refine_2 => (intro w hSw; skip; go_simp; first | done | with_reducible rfl)
      simp only [Act.put, List.setIfInBounds_toArray, List.set_cons_zero, List.set_cons_succ]
      refine wpAnyH_ready (rs := [3]) (by kernel_rfl) (by simp) ?_
      refine AllReadyH.cons (o := ⟨some 13, _, _, _, _, _⟩) rfl (fun K hK => ?_) AllReadyH.nil
      go_simp
      refine (cBelow 6 C (by omega)).mono ?_; rintro e w5 ⟨⟨z, rfl, _⟩, C5, G5⟩
      go_wp2_with fail
      refine hK.out _ _ ((Rb.gro G5).1) (fun hHeld => ?_)
      clear hK K
      replace R := R.gro G5
      replace Rb := Rb.gro G5
      replace hRw := hRw.gro G5
      replace S0 := S0.gro C G5
      replace O0 := O0.gro C G5
      replace FR := FR.gro C G5
      replace FF := FF.gro C G5
      replace G := G.trans G5
      clear C
      have C := C5
      clear C5
      clear G5
      try simp only [Act.put, List.setIfInBounds_toArray, List.set_cons_zero, List.set_cons_succ]
      refine wpAnyH_take (i := 4) (oi := ⟨some 14, _, _, _, _, _⟩) (v := ?_) rfl (by kernel_rfl) (by kernel_rfl) (by kernel_rfl) (fun _ _ _ h => h) (Or.inl ⟨by rfl, ?_⟩) (by assumption) ?_
      case refine_2 => (intro w hSw; skip; go_simp; (try rw [if_pos (by omega)]); first | done | with_reducible rfl)
      simp only [Act.put, List.setIfInBounds_toArray, List.set_cons_zero, List.set_cons_succ]
      refine wpAnyH_take (i := 5) (oi := ⟨some 15, _, _, _, _, _⟩) (v := ?_) rfl (by kernel_rfl) (by kernel_rfl) (by kernel_rfl) (fun _ _ _ h => h) (Or.inl ⟨by rfl, ?_⟩) (by assumption) ?_
      case refine_2 => (intro w hSw; skip; go_simp; first | done | with_reducible rfl)
      simp only [Act.put, List.setIfInBounds_toArray, List.set_cons_zero, List.set_cons_succ]
      refine wpAnyH_done (by kernel_rfl) ?_ _
      refine relQ_normal ?_
      refine wpOp_step (o := ⟨none, _, _, _, _, _⟩) rfl (fun K hK => ?_)
      have q0 := hRw.1.cellAt 0 (by omega)
      have q1 := hRw.1.frozenAt 0
      simp only [flat_cons, rlC, List.cons_append, List.getElem?_cons_zero] at q0
      go_simp
      go_wp2_with fail
      replace hRw : Rw g U1 (w5.setCell ⟨gR, 0, none⟩ (.int .i64 z)) mid 54 6 (Value.slice (some ⟨gR, 0, none⟩) (lr.length + 1) cV) (lr.length + 1) (flat rlC ((z, a0, Value.slice X0 x0.len cx0, v0) :: lr)) := ⟨(hRw.1.stored 0 (.int .i64 z)).1, hRw.2⟩
      replace R := R.far (b := gR) (j := 0) (by omega) (.int .i64 z)
      replace Rb := Rb.far (b := gR) (j := 0) (by omega) (.int .i64 z)
      replace S0 := S0.setb (b := gR) (j := 0) hug (.int .i64 z)
      replace O0 := O0.setb (b := gR) (j := 0) (fun e => hd0 gR e rfl) hug (.int .i64 z)
      replace FR := FR.setb (b := gR) (j := 0) hug (.int .i64 z)
      replace FF := FF.setb (b := gR) (j := 0) (.inr (by omega)) hug (.int .i64 z)
      replace G := G.setb (b := gR) (j := 0) (by omega) (.int .i64 z)
      replace C := C.setb (b := gR) (j := 0) (by omega) (.int .i64 z)
      have n1 : (Value.slice (some ⟨gR, 0, none⟩) (lr.length + 1) cV).ownBlock ≠ some w.heap.size := fun e => by injection e with e; have e2 : gR = w.heap.size := e; omega
      have n2 : v0.ownBlock ≠ some w.heap.size := fun e => by have := (O0.1.lt _ e).1; omega
      have n3 : (Value.slice AF m.length cF).ownBlock ≠ some w.heap.size := fun e => by have := (FF.1.1.lt _ e).1; omega
      have m1 : (Value.slice (some ⟨gR, 0, none⟩) (lr.length + 1) cV).ownBlock ≠ some rb := fun e => by injection e with e; have e2 : gR = rb := e; omega
      have m2 : v0.ownBlock ≠ some rb := fun e => by have := h0h _ e; omega
      have m3 : (Value.slice AF m.length cF).ownBlock ≠ some rb := fun e => by have := FF.1.2 _ e; omega
      obtain ⟨AR, cR, AF1, cF1, U9, eR, eF, PR, PF, C9, G9, R9, Rb9⟩ := closeP hRw S0 O0 FR FF C G (by omega) (by omega) (by omega) R Rb n1 n2 n3 m1 m2 m3
      rw [eR, eF] at Rb9
      go_meet
      exact ⟨AR, AF1, cR, cF1, (z, a0, x0, mkSt LA0) :: Lr, M, U9, C9, G9, R9, Rb9, PR, PF, pbnd_of (by have := FR.1; omega) (by omega) (by omega) hLr FF⟩
    have b0 : (xx == 0) = false := by simp [xq0]
    by_cases xq1 : xx = 1
    · subst xq1
      go_upto_region 6 with fail
      refine wp_region_any (by kernel_rfl) ?_
      change wpAny _ _ _ _ _ _ _ (World.drew _)
      have bd := (Below.refl w4.heap.size w4).drew
      replace R := R.below bd
      replace Rb := Rb.below bd
      replace hRw := hRw.below bd
      replace S0 := S0.below C bd
      replace O0 := O0.below C bd
      replace FR := FR.below C bd
      replace FF := FF.below C bd
      replace G := G.below bd
      replace C := C.below bd
      clear bd
      generalize w4.drew = wd at R Rb hRw S0 O0 FR FF G C ⊢
      refine wpAny_ready (rs := [0]) (by kernel_rfl) (by simp) ?_
      refine AllReady.cons (o := ⟨some 18, _, _, _, _, _⟩) rfl (fun K hK => ?_) AllReady.nil
      go_simp
      go_wp2_with fail
      try (refine hK _ _ ?_; clear hK K)
      try simp only [Act.put, List.setIfInBounds_toArray, List.set_cons_zero, List.set_cons_succ]
      have Bb := Bx.new C 4 #[.bool false]
      have hrbb := Rb.lt
      have hbbR := R.lt
      have hbO := fun k e => (O0.1.lt k e).2
      have hbF := fun k e => (FF.1.1.lt k e).2
      have hbG := (hRw.lt gR rfl).2
      replace R := R.alloc (.cells #[.bool false] 4)
      replace Rb := Rb.alloc (.cells #[.bool false] 4)
      replace hRw := hRw.alloc (.cells #[.bool false] 4)
      replace S0 := S0.alloc C (.cells #[.bool false] 4)
      replace O0 := O0.alloc C (.cells #[.bool false] 4)
      replace FR := FR.alloc C (.cells #[.bool false] 4)
      replace FF := FF.alloc C (.cells #[.bool false] 4)
      replace G := G.alloc (.cells #[.bool false] 4)
      replace C := C.alloc (.cells #[.bool false] 4)
      generalize wd.alloc (.cells #[.bool false] 4) = wa at R Rb hRw S0 O0 FR FF G Bb C ⊢
      generalize wd.heap.size = bb at Bb hrbb hbbR hbO hbF hbG ⊢
      refine wpAny_ready (rs := [1, 2]) (by kernel_rfl) (by simp) ?_
      refine AllReady.cons (o := ⟨none, _, _, _, _, _⟩) rfl (fun K hK => ?_) (AllReady.cons (o := ⟨none, _, _, _, _, _⟩) rfl (fun K hK => ?_) AllReady.nil)
      · have pc0 := Bb.cell
        have pf0 := Bb.frozen
        go_simp
        go_wp2_with fail
        clear pc0 pf0
        try (refine hK _ _ ?_; clear hK K)
        try simp only [Act.put, List.setIfInBounds_toArray, List.set_cons_zero, List.set_cons_succ]
        replace R := R.far (b := bb) (j := 0) (by omega) (.bool true)
        replace Rb := Rb.far (b := bb) (j := 0) (by omega) (.bool true)
        replace hRw := hRw.setb (b := bb) (j := 0) (fun e => by injection e with e; have e2 : gR = bb := e; omega) (.bool true)
        replace S0 := S0.setb (b := bb) (j := 0) Bb.2.1 (.bool true)
        replace O0 := O0.setb (b := bb) (j := 0) (fun e => by have := hbO _ e; omega) Bb.2.1 (.bool true)
        replace FR := FR.setb (b := bb) (j := 0) Bb.2.1 (.bool true)
        replace FF := FF.setb (b := bb) (j := 0) (.inr (by omega)) Bb.2.1 (.bool true)
        replace G := G.setb (b := bb) (j := 0) (by omega) (.bool true)
        replace C := C.setb (b := bb) (j := 0) Bb.2.2 (.bool true)
        replace Bb := Bb.set_ 0 (.bool true)
        simp only [List.setIfInBounds_toArray, List.set_cons_zero] at Bb
        generalize wa.setCell ⟨bb, 0, none⟩ (.bool true) = wt at R Rb hRw S0 O0 FR FF G Bb C ⊢
        refine wpAny_ready (rs := [2]) (by kernel_rfl) (by simp) ?_
        refine AllReady.cons (o := ⟨none, _, _, _, _, _⟩) rfl (fun K hK => ?_) AllReady.nil
        have pc0 := Bb.cell
        have pf0 := Bb.frozen
        go_simp
        go_wp2_with fail
        clear pc0 pf0
        try (refine hK _ _ ?_; clear hK K)
        try simp only [Act.put, List.setIfInBounds_toArray, List.set_cons_zero, List.set_cons_succ]
        replace R := R.far (b := bb) (j := 0) (by omega) (.bool false)
        replace Rb := Rb.far (b := bb) (j := 0) (by omega) (.bool false)
        replace hRw := hRw.setb (b := bb) (j := 0) (fun e => by injection e with e; have e2 : gR = bb := e; omega) (.bool false)
        replace S0 := S0.setb (b := bb) (j := 0) Bb.2.1 (.bool false)
        replace O0 := O0.setb (b := bb) (j := 0) (fun e => by have := hbO _ e; omega) Bb.2.1 (.bool false)
        replace FR := FR.setb (b := bb) (j := 0) Bb.2.1 (.bool false)
        replace FF := FF.setb (b := bb) (j := 0) (.inr (by omega)) Bb.2.1 (.bool false)
        replace G := G.setb (b := bb) (j := 0) (by omega) (.bool false)
        replace C := C.setb (b := bb) (j := 0) Bb.2.2 (.bool false)
        replace Bb := Bb.set_ 0 (.bool false)
        simp only [List.setIfInBounds_toArray, List.set_cons_zero] at Bb
        generalize wt.setCell ⟨bb, 0, none⟩ (.bool false) = wb at R Rb hRw S0 O0 FR FF G Bb C ⊢
        refine wpAny_ready (rs := [3]) (by kernel_rfl) (by simp) ?_
        refine AllReady.cons (o := ⟨some 19, _, _, _, _, _⟩) rfl (fun K hK => ?_) AllReady.nil
        have pc0 := Bb.cell
        have pf0 := Bb.frozen
        go_simp
        go_wp2_with fail
        clear pc0 pf0
        try (refine hK _ _ ?_; clear hK K)
        try simp only [Act.put, List.setIfInBounds_toArray, List.set_cons_zero, List.set_cons_succ]
        refine wpAny_done (by kernel_rfl) ?_ _
        clear Bb hbO hbF hbG hrbb hbbR
        have hgl := hRw.lt gR rfl
        have hug := hRw.2.1 gR rfl
        have hgg := FF.1.1.2.2
        obtain ⟨j0, hj, hy0, hy1, hy2⟩ := info_parts info_St9
        obtain ⟨A0, c0, rfl⟩ := O0.form
        go_upto_region 9 with fail
        have hc5 := hRw.1.cellAt 5 (by omega)
        simp only [flat_cons, rlC, List.cons_append, List.getElem?_cons_zero, List.getElem?_cons_succ] at hc5
        refine wp_region_any (by kernel_rfl) ?_
        change wpAny _ _ _ _ (13 + 1) _ _ (World.drew _)
        have bd := (Below.refl wb.heap.size wb).drew
        replace R := R.below bd
        replace Rb := Rb.below bd
        replace hRw := hRw.below bd
        replace S0 := S0.below C bd
        replace O0 := O0.below C bd
        replace FR := FR.below C bd
        replace FF := FF.below C bd
        replace G := G.below bd
        replace C := C.below bd
        clear bd
        generalize wb.drew = wd at R Rb hRw S0 O0 FR FF G C ⊢
        refine wpAny_last 13 _ rfl (by kernel_rfl) (by kernel_rfl) (by kernel_rfl) (by kernel_rfl) 13 _ _ _ (by kernel_rfl) (by kernel_rfl) ?_
        simp only [List.setIfInBounds_toArray, List.set_cons_succ, List.set_cons_zero]
        refine wpAny_of_held (S := fun y => Blk y rb 37 #[(Value.slice (some ⟨gR, 0, none⟩) (lr.length + 1) cV), (Value.slice AF m.length cF)] ∧ y.cell? ⟨gR, 5, none⟩ = some (Value.slice A0 la0.length c0)) _ _ _ _ ?_
        have hHeld : (fun y => Blk y rb 37 #[(Value.slice (some ⟨gR, 0, none⟩) (lr.length + 1) cV), (Value.slice AF m.length cF)] ∧ y.cell? ⟨gR, 5, none⟩ = some (Value.slice A0 la0.length c0) : World → Prop) wd := ⟨Rb.1, (hRw.1.cellAt 5 (by omega)).trans rfl⟩
        refine wpAnyH_take (i := 0) (oi := ⟨some 33, _, _, _, _, _⟩) (v := ?_) rfl (by kernel_rfl) (by kernel_rfl) (by kernel_rfl) (fun _ _ _ h => h) (Or.inl ⟨by rfl, ?_⟩) (by assumption) ?_
        case refine_2 => (intro w hSw; skip; go_simp; first | done | with_reducible rfl)
        simp only [Act.put, List.setIfInBounds_toArray, List.set_cons_zero, List.set_cons_succ]
        refine wpAnyH_take (i := 1) (oi := ⟨some 34, _, _, _, _, _⟩) (v := ?_) rfl (by kernel_rfl) (by kernel_rfl) (by kernel_rfl) (fun _ _ _ h => h) (Or.inl ⟨by rfl, ?_⟩) (by assumption) ?_
        case refine_2 => (intro w hSw; have p := hSw.1.cell; have p2 := hSw.2; go_simp; first | done | with_reducible rfl)
        simp only [Act.put, List.setIfInBounds_toArray, List.set_cons_zero, List.set_cons_succ]
        refine wpAnyH_take (i := 2) (oi := ⟨some 35, _, _, _, _, _⟩) (v := ?_) rfl (by kernel_rfl) (by kernel_rfl) (by kernel_rfl) (fun _ _ _ h => h) (Or.inl ⟨by rfl, ?_⟩) (by assumption) ?_
        case refine_2 => (intro w hSw; skip; go_simp; first | done | with_reducible rfl)
        simp only [Act.put, List.setIfInBounds_toArray, List.set_cons_zero, List.set_cons_succ]
        refine wpAnyH_take (i := 3) (oi := ⟨some 36, _, _, _, _, _⟩) (v := ?_) rfl (by kernel_rfl) (by kernel_rfl) (by kernel_rfl) (fun _ _ _ h => h) (Or.inl ⟨by rfl, ?_⟩) (by assumption) ?_
        case refine_2 => (intro w hSw; have p := hSw.1.cell; have p2 := hSw.2; go_simp; first | done | with_reducible rfl)
        simp only [Act.put, List.setIfInBounds_toArray, List.set_cons_zero, List.set_cons_succ]
        refine wpAnyH_take (i := 4) (oi := ⟨some 37, _, _, _, _, _⟩) (v := ?_) rfl (by kernel_rfl) (by kernel_rfl) (by kernel_rfl) (fun _ _ _ h => h) (Or.inl ⟨by rfl, ?_⟩) (by assumption) ?_
        case refine_2 => (intro w hSw; skip; go_simp; (try rw [if_pos (by omega)]); first | done | with_reducible rfl)
        simp only [Act.put, List.setIfInBounds_toArray, List.set_cons_zero, List.set_cons_succ]
        refine wpAnyH_take (i := 5) (oi := ⟨some 38, _, _, _, _, _⟩) (v := ?_) rfl (by kernel_rfl) (by kernel_rfl) (by kernel_rfl) (fun _ _ _ h => h) (Or.inl ⟨by rfl, ?_⟩) (by assumption) ?_
        case refine_2 => (intro w hSw; skip; go_simp; first | done | with_reducible rfl)
        simp only [Act.put, List.setIfInBounds_toArray, List.set_cons_zero, List.set_cons_succ]
        refine wpAnyH_take (i := 6) (oi := ⟨some 39, _, _, _, _, _⟩) (v := ?_) rfl (by kernel_rfl) (by kernel_rfl) (by kernel_rfl) (fun _ _ _ h => h) (Or.inl ⟨by rfl, ?_⟩) (by assumption) ?_
        case refine_2 => (intro w hSw; have p := hSw.1.cell; have p2 := hSw.2; go_simp; first | done | with_reducible rfl)
        simp only [Act.put, List.setIfInBounds_toArray, List.set_cons_zero, List.set_cons_succ]
        refine wpAnyH_take (i := 7) (oi := ⟨some 40, _, _, _, _, _⟩) (v := ?_) rfl (by kernel_rfl) (by kernel_rfl) (by kernel_rfl) (fun _ _ _ h => h) (Or.inl ⟨by rfl, ?_⟩) (by assumption) ?_
        case refine_2 => (intro w hSw; skip; go_simp; first | done | with_reducible rfl)
        simp only [Act.put, List.setIfInBounds_toArray, List.set_cons_zero, List.set_cons_succ]
        refine wpAnyH_ready (rs := [8]) (by kernel_rfl) (by simp) ?_
        refine AllReadyH.cons (o := ⟨some 41, _, _, _, _, _⟩) rfl (fun K hK => ?_) AllReadyH.nil
        go_simp
        refine (dAny9 B g _ _ C).mono ?_; rintro e w5 ⟨yk, ys, yt, yx, yp, yq, YX, YA, YQ, ycx, yca, ycq, U5, rfl, hsY, SYX, SYA, SYQ, C5, G5⟩
        go_wp2_with fail
        refine hK.out _ _ (⟨(Rb.gro G5).1, ((hRw.gro G5).1.cellAt 5 (by omega)).trans rfl⟩) (fun hHeld => ?_)
        clear hK K
        replace R := R.gro G5
        replace Rb := Rb.gro G5
        replace hRw := hRw.gro G5
        replace S0 := S0.gro C G5
        replace O0 := O0.gro C G5
        replace FR := FR.gro C G5
        replace FF := FF.gro C G5
        replace G := G.trans G5
        clear C
        have C := C5
        clear C5
        clear G5
        replace hug := hRw.2.1 gR rfl
        try simp only [Act.put, List.setIfInBounds_toArray, List.set_cons_zero, List.set_cons_succ]
        refine wpAnyH_ready (rs := [9]) (by kernel_rfl) (by simp) ?_
        refine AllReadyH.cons (o := ⟨some 42, _, _, _, _, _⟩) rfl (fun K hK => ?_) AllReadyH.nil
        go_simp
        go_wp2_with fail
        refine hK.out _ _ (⟨Rb.1.alloc (.cells #[.int .i64 yk, .string ys, .string yt, .slice YX yx.len ycx, .slice YA yp.len yca, .slice YQ yq.len ycq] 31), (((hRw.alloc (.cells #[.int .i64 yk, .string ys, .string yt, .slice YX yx.len ycx, .slice YA yp.len yca, .slice YQ yq.len ycq] 31)).1.cellAt 5 (by omega)).trans rfl)⟩) (fun hHeld => ?_)
        clear hK K
        try simp only [Act.put, List.setIfInBounds_toArray, List.set_cons_zero, List.set_cons_succ]
        refine wpAnyH_ready (rs := [10]) (by kernel_rfl) (by simp) ?_
        refine AllReadyH.cons (o := ⟨some 43, _, _, _, _, _⟩) rfl (fun K hK => ?_) AllReadyH.nil
        have hrbl2 := Rb.lt
        have hll0 : la0.length ≤ 20000 := by have h1 := mkSt_len LA0; have h2 := (mkSt LA0).len_size; have h3 := O0.2.1; omega
        refine step_pushB (w := w5) rfl (.tmp 39) (.tmp 42) 29 rfl mid 31 j0 (.agg #[.int .i64 0, .string ⟨#[]⟩, .string ⟨#[]⟩, .slice none 0 0, .slice none 0 0, .slice none 0 0]) 6 112 Try.underlying29 hj hy0 hy1 hy2 rfl (by decide) (Value.slice A0 la0.length c0) _ _ rfl O0.1.1 [.int .i64 yk, .string ys, .string yt, .slice YX yx.len ycx, .slice YA yp.len yca, .slice YQ yq.len ycq] rfl rfl rfl (by omega) (by omega) (by omega) ?_
        intro v' w7 hO7 hg7 hv7
        obtain ⟨A7, c7, rfl⟩ := (Row.mk hO7).form
        have hu7 := O0.1.2.1
        have hb7 := fun k e => O0.1.lt k e
        have R7 := R.row hg7 (fun e => by have := hb7 _ e.symm; omega)
        have Rb7 := Rb.row hg7 (fun e => by have := h0h _ e.symm; omega)
        have hRw7 := hRw.row hg7 (fun k e e2 => hd0 k e2 e)
        have S07 := S0.row C hg7 hu7
        have FR7 := FR.row C hg7 hu7
        have FF7 := FF.row C hg7 hu7 (fun k e => (hb7 k e).1)
        have G7 := G.row hg7 (fun k e => by have := hb7 k e; omega)
        have C7 := C.row hg7 (fun k e => by have := hb7 k e; have := hC.lt; omega)
        have hg7s := hg7.size
        have FT7 := (O0.2.snoc (a := (yk, ys, yt)) (cx := ycx) (ca := yca) (cb := ycq) SYX SYA SYQ).row C hg7 hu7
        have O7 := O0.1.push C hO7 hv7
        have hn7 : (Value.slice A7 (la0.length + 1) c7).ownBlock ≠ some rb := fun e => by
          rcases hv7 with h7 | ⟨k7, h7, h8⟩
          · have := h0h _ (h7 ▸ e); omega
          · rw [h7] at e; injection e with e; omega
        have hg7n : (Value.slice A7 (la0.length + 1) c7).ownBlock ≠ some gR := fun e => by
          rcases hv7 with h7 | ⟨k7, h7, h8⟩
          · exact hd0 gR (h7 ▸ e) rfl
          · rw [h7] at e; injection e with e; omega
        refine hK.out _ _ (⟨Rb7.1, (hRw7.1.cellAt 5 (by omega)).trans rfl⟩) (fun hHeld => ?_)
        clear hK K
        try simp only [Act.put, List.setIfInBounds_toArray, List.set_cons_zero, List.set_cons_succ]
        refine wpAnyH_take (i := 11) (oi := ⟨some 44, _, _, _, _, _⟩) (v := ?_) rfl (by kernel_rfl) (by kernel_rfl) (by kernel_rfl) (fun _ _ _ h => h) (Or.inl ⟨by rfl, ?_⟩) (by assumption) ?_
        case refine_2 => (intro w hSw; skip; go_simp; (try rw [if_pos (by omega)]); first | done | with_reducible rfl)
        simp only [Act.put, List.setIfInBounds_toArray, List.set_cons_zero, List.set_cons_succ]
        refine wpAnyH_take (i := 12) (oi := ⟨some 45, _, _, _, _, _⟩) (v := ?_) rfl (by kernel_rfl) (by kernel_rfl) (by kernel_rfl) (fun _ _ _ h => h) (Or.inl ⟨by rfl, ?_⟩) (by assumption) ?_
        case refine_2 => (intro w hSw; skip; go_simp; first | done | with_reducible rfl)
        simp only [Act.put, List.setIfInBounds_toArray, List.set_cons_zero, List.set_cons_succ]
        refine wpAnyH_done (by kernel_rfl) ?_ _
        refine relQ_normal ?_
        refine wpOp_step (o := ⟨none, _, _, _, _, _⟩) rfl (fun K hK => ?_)
        have q0 := hRw7.1.cellAt 5 (by omega)
        have q1 := hRw7.1.frozenAt 5
        simp only [flat_cons, rlC, List.cons_append, List.getElem?_cons_zero, List.getElem?_cons_succ] at q0
        go_simp
        go_wp2_with fail
        go_meet
        have hRw8 : Rw g U5 (w7.setCell ⟨gR, 5, none⟩ (Value.slice A7 (la0.length + 1) c7)) mid 54 6 (Value.slice (some ⟨gR, 0, none⟩) (lr.length + 1) cV) (lr.length + 1) (flat rlC ((k0, a0, Value.slice X0 x0.len cx0, (Value.slice A7 (la0.length + 1) c7)) :: lr)) := ⟨(hRw7.1.stored 5 (Value.slice A7 (la0.length + 1) c7)).1, hRw7.2⟩
        have R8 := R7.far (b := gR) (j := 5) (by omega) (Value.slice A7 (la0.length + 1) c7)
        have Rb8 := Rb7.far (b := gR) (j := 5) (by omega) (Value.slice A7 (la0.length + 1) c7)
        have S08 := S07.setb (b := gR) (j := 5) hug (Value.slice A7 (la0.length + 1) c7)
        have FR8 := FR7.setb (b := gR) (j := 5) hug (Value.slice A7 (la0.length + 1) c7)
        have FF8 := FF7.setb (b := gR) (j := 5) (.inr (by omega)) hug (Value.slice A7 (la0.length + 1) c7)
        have G8 := G7.setb (b := gR) (j := 5) (by omega) (Value.slice A7 (la0.length + 1) c7)
        have C8 := C7.setb (b := gR) (j := 5) (by omega) (Value.slice A7 (la0.length + 1) c7)
        have O8 : RA g U5 (w7.setCell ⟨gR, 5, none⟩ (Value.slice A7 (la0.length + 1) c7)) mid (Value.slice A7 (la0.length + 1) c7) (LA0 ++ [((yk, ys, yt), yx, yp, yq)]) (la0 ++ [((yk, ys, yt), Value.slice YX yx.len ycx, Value.slice YA yp.len yca, Value.slice YQ yq.len ycq)]) := ⟨by
            rw [List.length_append, ← flat_snoc]
            exact O7.setb (b := gR) (j := 5) hg7n (Value.slice A7 (la0.length + 1) c7)
          , FT7.setb (b := gR) (j := 5) hug (Value.slice A7 (la0.length + 1) c7)⟩
        have n1 : (Value.slice (some ⟨gR, 0, none⟩) (lr.length + 1) cV).ownBlock ≠ some w.heap.size := fun e => by injection e with e; have e2 : gR = w.heap.size := e; omega
        have n2 : (Value.slice A7 (la0.length + 1) c7).ownBlock ≠ some w.heap.size := fun e => by have := (O7.lt _ e).1; omega
        have n3 : (Value.slice AF m.length cF).ownBlock ≠ some w.heap.size := fun e => by have := (FF.1.1.lt _ e).1; omega
        have m1 : (Value.slice (some ⟨gR, 0, none⟩) (lr.length + 1) cV).ownBlock ≠ some rb := fun e => by injection e with e; have e2 : gR = rb := e; omega
        have m3 : (Value.slice AF m.length cF).ownBlock ≠ some rb := fun e => by have := FF.1.2 _ e; omega
        have hsz8 := size_snocS LA0 (yk, ys, yt) yx yp yq
        obtain ⟨AR, cR, AF1, cF1, U9, eR, eF, PR, PF, C9, G9, R9, Rb9⟩ := closeP hRw8 S08 O8 FR8 FF8 C8 G8 (by omega) (by omega) (by omega) R8 Rb8 n1 n2 n3 m1 hn7 m3
        rw [eR, eF] at Rb9
        exact ⟨AR, AF1, cR, cF1, (k0, a0, x0, mkSt (LA0 ++ [((yk, ys, yt), yx, yp, yq)])) :: Lr, M, U9, C9, G9, R9, Rb9, PR, PF, pbnd_of (by have := FR.1; omega) (by omega) (by omega) hLr FF⟩
      · have pc0 := Bb.cell
        have pf0 := Bb.frozen
        go_simp
        go_wp2_with fail
        clear pc0 pf0
        try (refine hK _ _ ?_; clear hK K)
        try simp only [Act.put, List.setIfInBounds_toArray, List.set_cons_zero, List.set_cons_succ]
        replace R := R.far (b := bb) (j := 0) (by omega) (.bool false)
        replace Rb := Rb.far (b := bb) (j := 0) (by omega) (.bool false)
        replace hRw := hRw.setb (b := bb) (j := 0) (fun e => by injection e with e; have e2 : gR = bb := e; omega) (.bool false)
        replace S0 := S0.setb (b := bb) (j := 0) Bb.2.1 (.bool false)
        replace O0 := O0.setb (b := bb) (j := 0) (fun e => by have := hbO _ e; omega) Bb.2.1 (.bool false)
        replace FR := FR.setb (b := bb) (j := 0) Bb.2.1 (.bool false)
        replace FF := FF.setb (b := bb) (j := 0) (.inr (by omega)) Bb.2.1 (.bool false)
        replace G := G.setb (b := bb) (j := 0) (by omega) (.bool false)
        replace C := C.setb (b := bb) (j := 0) Bb.2.2 (.bool false)
        replace Bb := Bb.set_ 0 (.bool false)
        simp only [List.setIfInBounds_toArray, List.set_cons_zero] at Bb
        generalize wa.setCell ⟨bb, 0, none⟩ (.bool false) = wt at R Rb hRw S0 O0 FR FF G Bb C ⊢
        refine wpAny_ready (rs := [1]) (by kernel_rfl) (by simp) ?_
        refine AllReady.cons (o := ⟨none, _, _, _, _, _⟩) rfl (fun K hK => ?_) AllReady.nil
        have pc0 := Bb.cell
        have pf0 := Bb.frozen
        go_simp
        go_wp2_with fail
        clear pc0 pf0
        try (refine hK _ _ ?_; clear hK K)
        try simp only [Act.put, List.setIfInBounds_toArray, List.set_cons_zero, List.set_cons_succ]
        replace R := R.far (b := bb) (j := 0) (by omega) (.bool true)
        replace Rb := Rb.far (b := bb) (j := 0) (by omega) (.bool true)
        replace hRw := hRw.setb (b := bb) (j := 0) (fun e => by injection e with e; have e2 : gR = bb := e; omega) (.bool true)
        replace S0 := S0.setb (b := bb) (j := 0) Bb.2.1 (.bool true)
        replace O0 := O0.setb (b := bb) (j := 0) (fun e => by have := hbO _ e; omega) Bb.2.1 (.bool true)
        replace FR := FR.setb (b := bb) (j := 0) Bb.2.1 (.bool true)
        replace FF := FF.setb (b := bb) (j := 0) (.inr (by omega)) Bb.2.1 (.bool true)
        replace G := G.setb (b := bb) (j := 0) (by omega) (.bool true)
        replace C := C.setb (b := bb) (j := 0) Bb.2.2 (.bool true)
        replace Bb := Bb.set_ 0 (.bool true)
        simp only [List.setIfInBounds_toArray, List.set_cons_zero] at Bb
        generalize wt.setCell ⟨bb, 0, none⟩ (.bool true) = wb at R Rb hRw S0 O0 FR FF G Bb C ⊢
        refine wpAny_ready (rs := [3]) (by kernel_rfl) (by simp) ?_
        refine AllReady.cons (o := ⟨some 19, _, _, _, _, _⟩) rfl (fun K hK => ?_) AllReady.nil
        have pc0 := Bb.cell
        have pf0 := Bb.frozen
        go_simp
        go_wp2_with fail
        clear pc0 pf0
        try (refine hK _ _ ?_; clear hK K)
        try simp only [Act.put, List.setIfInBounds_toArray, List.set_cons_zero, List.set_cons_succ]
        refine wpAny_done (by kernel_rfl) ?_ _
        clear Bb hbO hbF hbG hrbb hbbR
        have hgl := hRw.lt gR rfl
        have hug := hRw.2.1 gR rfl
        have hgg := FF.1.1.2.2
        obtain ⟨j0, hj, hy0, hy1, hy2⟩ := info_parts info_St9
        obtain ⟨A0, c0, rfl⟩ := O0.form
        go_upto_region 7 with fail
        have hc5 := hRw.1.cellAt 5 (by omega)
        simp only [flat_cons, rlC, List.cons_append, List.getElem?_cons_zero, List.getElem?_cons_succ] at hc5
        refine wp_region_any (by kernel_rfl) ?_
        change wpAny _ _ _ _ (12 + 1) _ _ (World.drew _)
        have bd := (Below.refl wb.heap.size wb).drew
        replace R := R.below bd
        replace Rb := Rb.below bd
        replace hRw := hRw.below bd
        replace S0 := S0.below C bd
        replace O0 := O0.below C bd
        replace FR := FR.below C bd
        replace FF := FF.below C bd
        replace G := G.below bd
        replace C := C.below bd
        clear bd
        generalize wb.drew = wd at R Rb hRw S0 O0 FR FF G C ⊢
        refine wpAny_last 12 _ rfl (by kernel_rfl) (by kernel_rfl) (by kernel_rfl) (by kernel_rfl) 12 _ _ _ (by kernel_rfl) (by kernel_rfl) ?_
        simp only [List.setIfInBounds_toArray, List.set_cons_succ, List.set_cons_zero]
        refine wpAny_of_held (S := fun y => Blk y rb 37 #[(Value.slice (some ⟨gR, 0, none⟩) (lr.length + 1) cV), (Value.slice AF m.length cF)] ∧ y.cell? ⟨gR, 5, none⟩ = some (Value.slice A0 la0.length c0)) _ _ _ _ ?_
        have hHeld : (fun y => Blk y rb 37 #[(Value.slice (some ⟨gR, 0, none⟩) (lr.length + 1) cV), (Value.slice AF m.length cF)] ∧ y.cell? ⟨gR, 5, none⟩ = some (Value.slice A0 la0.length c0) : World → Prop) wd := ⟨Rb.1, (hRw.1.cellAt 5 (by omega)).trans rfl⟩
        refine wpAnyH_take (i := 0) (oi := ⟨some 20, _, _, _, _, _⟩) (v := ?_) rfl (by kernel_rfl) (by kernel_rfl) (by kernel_rfl) (fun _ _ _ h => h) (Or.inl ⟨by rfl, ?_⟩) (by assumption) ?_
        case refine_2 => (intro w hSw; skip; go_simp; first | done | with_reducible rfl)
        simp only [Act.put, List.setIfInBounds_toArray, List.set_cons_zero, List.set_cons_succ]
        refine wpAnyH_take (i := 1) (oi := ⟨some 21, _, _, _, _, _⟩) (v := ?_) rfl (by kernel_rfl) (by kernel_rfl) (by kernel_rfl) (fun _ _ _ h => h) (Or.inl ⟨by rfl, ?_⟩) (by assumption) ?_
        case refine_2 => (intro w hSw; have p := hSw.1.cell; have p2 := hSw.2; go_simp; first | done | with_reducible rfl)
        simp only [Act.put, List.setIfInBounds_toArray, List.set_cons_zero, List.set_cons_succ]
        refine wpAnyH_take (i := 2) (oi := ⟨some 22, _, _, _, _, _⟩) (v := ?_) rfl (by kernel_rfl) (by kernel_rfl) (by kernel_rfl) (fun _ _ _ h => h) (Or.inl ⟨by rfl, ?_⟩) (by assumption) ?_
        case refine_2 => (intro w hSw; skip; go_simp; (try rw [if_pos (by omega)]); first | done | with_reducible rfl)
        simp only [Act.put, List.setIfInBounds_toArray, List.set_cons_zero, List.set_cons_succ]
        refine wpAnyH_take (i := 3) (oi := ⟨some 23, _, _, _, _, _⟩) (v := ?_) rfl (by kernel_rfl) (by kernel_rfl) (by kernel_rfl) (fun _ _ _ h => h) (Or.inl ⟨by rfl, ?_⟩) (by assumption) ?_
        case refine_2 => (intro w hSw; skip; go_simp; first | done | with_reducible rfl)
        simp only [Act.put, List.setIfInBounds_toArray, List.set_cons_zero, List.set_cons_succ]
        refine wpAnyH_take (i := 4) (oi := ⟨some 24, _, _, _, _, _⟩) (v := ?_) rfl (by kernel_rfl) (by kernel_rfl) (by kernel_rfl) (fun _ _ _ h => h) (Or.inl ⟨by rfl, ?_⟩) (by assumption) ?_
        case refine_2 => (intro w hSw; have p := hSw.1.cell; have p2 := hSw.2; go_simp; first | done | with_reducible rfl)
        simp only [Act.put, List.setIfInBounds_toArray, List.set_cons_zero, List.set_cons_succ]
        refine wpAnyH_take (i := 5) (oi := ⟨some 25, _, _, _, _, _⟩) (v := ?_) rfl (by kernel_rfl) (by kernel_rfl) (by kernel_rfl) (fun _ _ _ h => h) (Or.inl ⟨by rfl, ?_⟩) (by assumption) ?_
        case refine_2 => (intro w hSw; skip; go_simp; first | done | with_reducible rfl)
        simp only [Act.put, List.setIfInBounds_toArray, List.set_cons_zero, List.set_cons_succ]
        refine wpAnyH_take (i := 7) (oi := ⟨some 27, _, _, _, _, _⟩) (v := ?_) rfl (by kernel_rfl) (by kernel_rfl) (by kernel_rfl) (fun _ _ _ h => h) (Or.inl ⟨by rfl, ?_⟩) (by assumption) ?_
        case refine_2 => (intro w hSw; skip; go_simp; first | done | with_reducible rfl)
        simp only [Act.put, List.setIfInBounds_toArray, List.set_cons_zero, List.set_cons_succ]
        refine wpAnyH_ready (rs := [6, 8]) (by kernel_rfl) (by simp) ?_
        refine AllReadyH.cons (o := ⟨some 26, _, _, _, _, _⟩) rfl (fun K hK => ?_) (AllReadyH.cons (o := ⟨some 28, _, _, _, _, _⟩) rfl (fun K hK => ?_) AllReadyH.nil)
        · go_simp
          refine (dAny9 B g _ _ C).mono ?_; rintro e w5 ⟨yk, ys, yt, yx, yp, yq, YX, YA, YQ, ycx, yca, ycq, U5, rfl, hsY, SYX, SYA, SYQ, C5, G5⟩
          go_wp2_with fail
          refine hK.out _ _ (⟨(Rb.gro G5).1, ((hRw.gro G5).1.cellAt 5 (by omega)).trans rfl⟩) (fun hHeld => ?_)
          clear hK K
          replace R := R.gro G5
          replace Rb := Rb.gro G5
          replace hRw := hRw.gro G5
          replace S0 := S0.gro C G5
          replace O0 := O0.gro C G5
          replace FR := FR.gro C G5
          replace FF := FF.gro C G5
          replace G := G.trans G5
          clear C
          have C := C5
          clear C5
          clear G5
          replace hug := hRw.2.1 gR rfl
          try simp only [Act.put, List.setIfInBounds_toArray, List.set_cons_zero, List.set_cons_succ]
          refine wpAnyH_ready (rs := [8]) (by kernel_rfl) (by simp) ?_
          refine AllReadyH.cons (o := ⟨some 28, _, _, _, _, _⟩) rfl (fun K hK => ?_) AllReadyH.nil
          go_simp
          go_wp2_with fail
          refine hK.out _ _ (⟨Rb.1.alloc (.cells #[.int .i64 0, .string ⟨#[]⟩, .string ⟨#[]⟩, .slice none 0 0, .slice none 0 0, .slice none 0 0] 31), ((hRw.alloc (.cells #[.int .i64 0, .string ⟨#[]⟩, .string ⟨#[]⟩, .slice none 0 0, .slice none 0 0, .slice none 0 0] 31)).1.cellAt 5 (by omega)).trans rfl⟩) (fun hHeld => ?_)
          clear hK K
          have KZ := Bx.new C 31 #[.int .i64 0, .string ⟨#[]⟩, .string ⟨#[]⟩, .slice none 0 0, .slice none 0 0, .slice none 0 0]
          replace R := R.alloc (.cells #[.int .i64 0, .string ⟨#[]⟩, .string ⟨#[]⟩, .slice none 0 0, .slice none 0 0, .slice none 0 0] 31)
          replace Rb := Rb.alloc (.cells #[.int .i64 0, .string ⟨#[]⟩, .string ⟨#[]⟩, .slice none 0 0, .slice none 0 0, .slice none 0 0] 31)
          replace hRw := hRw.alloc (.cells #[.int .i64 0, .string ⟨#[]⟩, .string ⟨#[]⟩, .slice none 0 0, .slice none 0 0, .slice none 0 0] 31)
          replace S0 := S0.alloc C (.cells #[.int .i64 0, .string ⟨#[]⟩, .string ⟨#[]⟩, .slice none 0 0, .slice none 0 0, .slice none 0 0] 31)
          replace O0 := O0.alloc C (.cells #[.int .i64 0, .string ⟨#[]⟩, .string ⟨#[]⟩, .slice none 0 0, .slice none 0 0, .slice none 0 0] 31)
          replace FR := FR.alloc C (.cells #[.int .i64 0, .string ⟨#[]⟩, .string ⟨#[]⟩, .slice none 0 0, .slice none 0 0, .slice none 0 0] 31)
          replace FF := FF.alloc C (.cells #[.int .i64 0, .string ⟨#[]⟩, .string ⟨#[]⟩, .slice none 0 0, .slice none 0 0, .slice none 0 0] 31)
          replace G := G.alloc (.cells #[.int .i64 0, .string ⟨#[]⟩, .string ⟨#[]⟩, .slice none 0 0, .slice none 0 0, .slice none 0 0] 31)
          replace SYX := SYX.alloc C (.cells #[.int .i64 0, .string ⟨#[]⟩, .string ⟨#[]⟩, .slice none 0 0, .slice none 0 0, .slice none 0 0] 31)
          replace SYA := SYA.alloc C (.cells #[.int .i64 0, .string ⟨#[]⟩, .string ⟨#[]⟩, .slice none 0 0, .slice none 0 0, .slice none 0 0] 31)
          replace SYQ := SYQ.alloc C (.cells #[.int .i64 0, .string ⟨#[]⟩, .string ⟨#[]⟩, .slice none 0 0, .slice none 0 0, .slice none 0 0] 31)
          replace C := C.alloc (.cells #[.int .i64 0, .string ⟨#[]⟩, .string ⟨#[]⟩, .slice none 0 0, .slice none 0 0, .slice none 0 0] 31)
          generalize w5.alloc (.cells #[.int .i64 0, .string ⟨#[]⟩, .string ⟨#[]⟩, .slice none 0 0, .slice none 0 0, .slice none 0 0] 31) = w5z at R Rb hRw S0 O0 FR FF G SYX SYA SYQ KZ C hHeld ⊢
          try simp only [Act.put, List.setIfInBounds_toArray, List.set_cons_zero, List.set_cons_succ]
          refine wpAnyH_ready (rs := [9]) (by kernel_rfl) (by simp) ?_
          refine AllReadyH.cons (o := ⟨some 29, _, _, _, _, _⟩) rfl (fun K hK => ?_) AllReadyH.nil
          have hrbl2 := Rb.lt
          have hll0 : la0.length ≤ 20000 := by have h1 := mkSt_len LA0; have h2 := (mkSt LA0).len_size; have h3 := O0.2.1; omega
          refine step_append_any _ rfl (.tmp 24) (.tmp 28) 29 rfl mid 31 j0 (.agg #[.int .i64 0, .string ⟨#[]⟩, .string ⟨#[]⟩, .slice none 0 0, .slice none 0 0, .slice none 0 0]) 6 112 Try.underlying29 hj hy0 hy1 hy2 rfl (by decide) (Value.slice A0 la0.length c0) _ _ rfl O0.1.1 w5z.heap.size (some ⟨w5.heap.size, 0, none⟩) 1 1 [Value.int .i64 0, Value.string ⟨#[]⟩, Value.string ⟨#[]⟩, Value.slice none 0 0, Value.slice none 0 0, Value.slice none 0 0] rfl ⟨rfl, fun _ => ⟨_, 0, rfl, KZ.lt, fun j u hu => by rw [Nat.zero_add, KZ.cell]; simpa using hu⟩⟩ (fun u hu => by simp at hu; rcases hu with rfl | rfl | rfl <;> rfl) (by unfold maxLen; omega) (by omega) (by omega) ?_
          intro v' w7 hO7 hg7 hv7
          obtain ⟨A7, c7, rfl⟩ := (Row.mk hO7).form
          have hu7 := O0.1.2.1
          have hb7 := fun k e => O0.1.lt k e
          have R7 := R.row hg7 (fun e => by have := hb7 _ e.symm; omega)
          have Rb7 := Rb.row hg7 (fun e => by have := h0h _ e.symm; omega)
          have hRw7 := hRw.row hg7 (fun k e e2 => hd0 k e2 e)
          have S07 := S0.row C hg7 hu7
          have FR7 := FR.row C hg7 hu7
          have FF7 := FF.row C hg7 hu7 (fun k e => (hb7 k e).1)
          have G7 := G.row hg7 (fun k e => by have := hb7 k e; omega)
          have C7 := C.row hg7 (fun k e => by have := hb7 k e; have := hC.lt; omega)
          have hg7s := hg7.size
          have FT7 := (O0.2.snoc (a := (yk, ys, yt)) (cx := ycx) (ca := yca) (cb := ycq) SYX SYA SYQ).row C hg7 hu7
          have O7 : Rw g U5 w7 mid 31 6 (Value.slice A7 (la0.length + 1) c7) (la0.length + 1) (flat sC la0 ++ [Value.int .i64 0, Value.string ⟨#[]⟩, Value.string ⟨#[]⟩, Value.slice none 0 0, Value.slice none 0 0, Value.slice none 0 0]) := ⟨hO7, fun b hb => by
              rcases hv7 with h7 | h7
              · exact O0.1.2.1 b (h7 ▸ hb)
              · rw [h7] at hb; injection hb with hb; exact C.fresh (by omega)
            , O0.1.2.2⟩
          have hn7 : (Value.slice A7 (la0.length + 1) c7).ownBlock ≠ some rb := fun e => by
            rcases hv7 with h7 | h7
            · have := h0h _ (h7 ▸ e); omega
            · rw [h7] at e; injection e with e; omega
          have hg7n : (Value.slice A7 (la0.length + 1) c7).ownBlock ≠ some gR := fun e => by
            rcases hv7 with h7 | h7
            · exact hd0 gR (h7 ▸ e) rfl
            · rw [h7] at e; injection e with e; omega
          refine hK.out _ _ (⟨Rb7.1, (hRw7.1.cellAt 5 (by omega)).trans rfl⟩) (fun hHeld => ?_)
          clear hK K
          try simp only [Act.put, List.setIfInBounds_toArray, List.set_cons_zero, List.set_cons_succ]
          refine wpAnyH_take (i := 10) (oi := ⟨some 30, _, _, _, _, _⟩) (v := ?_) rfl (by kernel_rfl) (by kernel_rfl) (by kernel_rfl) (fun _ _ _ h => h) (Or.inl ⟨by rfl, ?_⟩) (by assumption) ?_
          case refine_2 => (intro w hSw; skip; go_simp; (try rw [if_pos (by omega)]); first | done | with_reducible rfl)
          simp only [Act.put, List.setIfInBounds_toArray, List.set_cons_zero, List.set_cons_succ]
          refine wpAnyH_take (i := 11) (oi := ⟨some 31, _, _, _, _, _⟩) (v := ?_) rfl (by kernel_rfl) (by kernel_rfl) (by kernel_rfl) (fun _ _ _ h => h) (Or.inl ⟨by rfl, ?_⟩) (by assumption) ?_
          case refine_2 => (intro w hSw; skip; go_simp; first | done | with_reducible rfl)
          simp only [Act.put, List.setIfInBounds_toArray, List.set_cons_zero, List.set_cons_succ]
          refine wpAnyH_done (by kernel_rfl) ?_ _
          refine relQ_normal ?_
          refine wpOp_step (o := ⟨none, _, _, _, _, _⟩) rfl (fun K hK => ?_)
          have q0 := hRw7.1.cellAt 5 (by omega)
          have q1 := hRw7.1.frozenAt 5
          simp only [flat_cons, rlC, List.cons_append, List.getElem?_cons_zero, List.getElem?_cons_succ] at q0
          go_simp
          go_upto_region 8 with fail
          clear q0 q1
          have hRw8 : Rw g U5 (w7.setCell ⟨gR, 5, none⟩ (Value.slice A7 (la0.length + 1) c7)) mid 54 6 (Value.slice (some ⟨gR, 0, none⟩) (lr.length + 1) cV) (lr.length + 1) (flat rlC ((k0, a0, Value.slice X0 x0.len cx0, (Value.slice A7 (la0.length + 1) c7)) :: lr)) := ⟨(hRw7.1.stored 5 (Value.slice A7 (la0.length + 1) c7)).1, hRw7.2⟩
          have R8 := R7.far (b := gR) (j := 5) (by omega) (Value.slice A7 (la0.length + 1) c7)
          have Rb8 := Rb7.far (b := gR) (j := 5) (by omega) (Value.slice A7 (la0.length + 1) c7)
          have S08 := S07.setb (b := gR) (j := 5) hug (Value.slice A7 (la0.length + 1) c7)
          have FR8 := FR7.setb (b := gR) (j := 5) hug (Value.slice A7 (la0.length + 1) c7)
          have FF8 := FF7.setb (b := gR) (j := 5) (.inr (by omega)) hug (Value.slice A7 (la0.length + 1) c7)
          have G8 := G7.setb (b := gR) (j := 5) (by omega) (Value.slice A7 (la0.length + 1) c7)
          have C8 := C7.setb (b := gR) (j := 5) (by omega) (Value.slice A7 (la0.length + 1) c7)
          have FT8 := FT7.setb (b := gR) (j := 5) hug (Value.slice A7 (la0.length + 1) c7)
          have O8 := O7.setb (b := gR) (j := 5) hg7n (Value.slice A7 (la0.length + 1) c7)
          generalize w7.setCell ⟨gR, 5, none⟩ (Value.slice A7 (la0.length + 1) c7) = w8 at hRw8 R8 Rb8 S08 FR8 FF8 G8 C8 FT8 O8 ⊢
          obtain ⟨g0, rfl, hg0m, hg0l⟩ := own_blk O8.1 (Nat.succ_pos _)
          have hug0 := O8.2.1 g0 rfl
          have hgg0 : g0 ≠ gR := fun e => hg7n (by rw [← e]; rfl)
          have hgr0 : g0 ≠ rb := fun e => hn7 (by rw [← e]; rfl)
          have hfl : (flat sC la0).length = la0.length * 6 := flat_len sC_len la0
          have c0 := O8.1.cellAt (la0.length * 6) (by omega)
          rw [List.getElem?_append_right (by rw [hfl]; omega), hfl, Nat.sub_self] at c0
          have d0 := O8.1.frozenAt (la0.length * 6)
          have c1 := O8.1.cellAt (la0.length * 6 + 1) (by omega)
          rw [List.getElem?_append_right (by rw [hfl]; omega), hfl, Nat.add_sub_cancel_left] at c1
          have d1 := O8.1.frozenAt (la0.length * 6 + 1)
          have c2 := O8.1.cellAt (la0.length * 6 + 2) (by omega)
          rw [List.getElem?_append_right (by rw [hfl]; omega), hfl, Nat.add_sub_cancel_left] at c2
          have d2 := O8.1.frozenAt (la0.length * 6 + 2)
          have c3 := O8.1.cellAt (la0.length * 6 + 3) (by omega)
          rw [List.getElem?_append_right (by rw [hfl]; omega), hfl, Nat.add_sub_cancel_left] at c3
          have d3 := O8.1.frozenAt (la0.length * 6 + 3)
          have c4 := O8.1.cellAt (la0.length * 6 + 4) (by omega)
          rw [List.getElem?_append_right (by rw [hfl]; omega), hfl, Nat.add_sub_cancel_left] at c4
          have d4 := O8.1.frozenAt (la0.length * 6 + 4)
          have c5 := O8.1.cellAt (la0.length * 6 + 5) (by omega)
          rw [List.getElem?_append_right (by rw [hfl]; omega), hfl, Nat.add_sub_cancel_left] at c5
          have d5 := O8.1.frozenAt (la0.length * 6 + 5)
          simp only [List.getElem?_cons_zero, List.getElem?_cons_succ] at c0 c1 c2 c3 c4 c5
          have hlt8 : (la0.length : Int) < ((la0.length + 1 : Nat) : Int) := by omega
          clear hfl
          go_wp2_with fail
          have O9 := ((((((O8.1.stored (la0.length * 6) (.int .i64 yk)).1.stored (la0.length * 6 + 1) (.string ys)).1.stored (la0.length * 6 + 2) (.string yt)).1.stored (la0.length * 6 + 3) (.slice YX yx.len ycx)).1.stored (la0.length * 6 + 4) (.slice YA yp.len yca)).1.stored (la0.length * 6 + 5) (.slice YQ yq.len ycq)).1
          have R9 := ((((((R8.far (b := g0) (j := la0.length * 6) (by omega) (.int .i64 yk)).far (b := g0) (j := la0.length * 6 + 1) (by omega) (.string ys)).far (b := g0) (j := la0.length * 6 + 2) (by omega) (.string yt)).far (b := g0) (j := la0.length * 6 + 3) (by omega) (.slice YX yx.len ycx)).far (b := g0) (j := la0.length * 6 + 4) (by omega) (.slice YA yp.len yca)).far (b := g0) (j := la0.length * 6 + 5) (by omega) (.slice YQ yq.len ycq))
          have Rb9 := ((((((Rb8.far (b := g0) (j := la0.length * 6) (fun e => hgr0 e.symm) (.int .i64 yk)).far (b := g0) (j := la0.length * 6 + 1) (fun e => hgr0 e.symm) (.string ys)).far (b := g0) (j := la0.length * 6 + 2) (fun e => hgr0 e.symm) (.string yt)).far (b := g0) (j := la0.length * 6 + 3) (fun e => hgr0 e.symm) (.slice YX yx.len ycx)).far (b := g0) (j := la0.length * 6 + 4) (fun e => hgr0 e.symm) (.slice YA yp.len yca)).far (b := g0) (j := la0.length * 6 + 5) (fun e => hgr0 e.symm) (.slice YQ yq.len ycq))
          have S09 := ((((((S08.setb (b := g0) (j := la0.length * 6) hug0 (.int .i64 yk)).setb (b := g0) (j := la0.length * 6 + 1) hug0 (.string ys)).setb (b := g0) (j := la0.length * 6 + 2) hug0 (.string yt)).setb (b := g0) (j := la0.length * 6 + 3) hug0 (.slice YX yx.len ycx)).setb (b := g0) (j := la0.length * 6 + 4) hug0 (.slice YA yp.len yca)).setb (b := g0) (j := la0.length * 6 + 5) hug0 (.slice YQ yq.len ycq))
          have FR9 := ((((((FR8.setb (b := g0) (j := la0.length * 6) hug0 (.int .i64 yk)).setb (b := g0) (j := la0.length * 6 + 1) hug0 (.string ys)).setb (b := g0) (j := la0.length * 6 + 2) hug0 (.string yt)).setb (b := g0) (j := la0.length * 6 + 3) hug0 (.slice YX yx.len ycx)).setb (b := g0) (j := la0.length * 6 + 4) hug0 (.slice YA yp.len yca)).setb (b := g0) (j := la0.length * 6 + 5) hug0 (.slice YQ yq.len ycq))
          have FF9 := ((((((FF8.setb (b := g0) (j := la0.length * 6) (.inr (by omega)) hug0 (.int .i64 yk)).setb (b := g0) (j := la0.length * 6 + 1) (.inr (by omega)) hug0 (.string ys)).setb (b := g0) (j := la0.length * 6 + 2) (.inr (by omega)) hug0 (.string yt)).setb (b := g0) (j := la0.length * 6 + 3) (.inr (by omega)) hug0 (.slice YX yx.len ycx)).setb (b := g0) (j := la0.length * 6 + 4) (.inr (by omega)) hug0 (.slice YA yp.len yca)).setb (b := g0) (j := la0.length * 6 + 5) (.inr (by omega)) hug0 (.slice YQ yq.len ycq))
          have FT9 := ((((((FT8.setb (b := g0) (j := la0.length * 6) hug0 (.int .i64 yk)).setb (b := g0) (j := la0.length * 6 + 1) hug0 (.string ys)).setb (b := g0) (j := la0.length * 6 + 2) hug0 (.string yt)).setb (b := g0) (j := la0.length * 6 + 3) hug0 (.slice YX yx.len ycx)).setb (b := g0) (j := la0.length * 6 + 4) hug0 (.slice YA yp.len yca)).setb (b := g0) (j := la0.length * 6 + 5) hug0 (.slice YQ yq.len ycq))
          have G9 := ((((((G8.setb (b := g0) (j := la0.length * 6) (by omega) (.int .i64 yk)).setb (b := g0) (j := la0.length * 6 + 1) (by omega) (.string ys)).setb (b := g0) (j := la0.length * 6 + 2) (by omega) (.string yt)).setb (b := g0) (j := la0.length * 6 + 3) (by omega) (.slice YX yx.len ycx)).setb (b := g0) (j := la0.length * 6 + 4) (by omega) (.slice YA yp.len yca)).setb (b := g0) (j := la0.length * 6 + 5) (by omega) (.slice YQ yq.len ycq))
          have C9 := ((((((C8.setb (b := g0) (j := la0.length * 6) (by omega) (.int .i64 yk)).setb (b := g0) (j := la0.length * 6 + 1) (by omega) (.string ys)).setb (b := g0) (j := la0.length * 6 + 2) (by omega) (.string yt)).setb (b := g0) (j := la0.length * 6 + 3) (by omega) (.slice YX yx.len ycx)).setb (b := g0) (j := la0.length * 6 + 4) (by omega) (.slice YA yp.len yca)).setb (b := g0) (j := la0.length * 6 + 5) (by omega) (.slice YQ yq.len ycq))
          have hRw9 := ((((((hRw8.setb (b := g0) (j := la0.length * 6) (fun e => hgg0 (by injection e with e; exact e.symm)) (.int .i64 yk)).setb (b := g0) (j := la0.length * 6 + 1) (fun e => hgg0 (by injection e with e; exact e.symm)) (.string ys)).setb (b := g0) (j := la0.length * 6 + 2) (fun e => hgg0 (by injection e with e; exact e.symm)) (.string yt)).setb (b := g0) (j := la0.length * 6 + 3) (fun e => hgg0 (by injection e with e; exact e.symm)) (.slice YX yx.len ycx)).setb (b := g0) (j := la0.length * 6 + 4) (fun e => hgg0 (by injection e with e; exact e.symm)) (.slice YA yp.len yca)).setb (b := g0) (j := la0.length * 6 + 5) (fun e => hgg0 (by injection e with e; exact e.symm)) (.slice YQ yq.len ycq))
          have e9 : ((((((flat sC la0 ++ [Value.int .i64 0, Value.string ⟨#[]⟩, Value.string ⟨#[]⟩, Value.slice none 0 0, Value.slice none 0 0, Value.slice none 0 0]).set (la0.length * 6) (.int .i64 yk)).set (la0.length * 6 + 1) (.string ys)).set (la0.length * 6 + 2) (.string yt)).set (la0.length * 6 + 3) (.slice YX yx.len ycx)).set (la0.length * 6 + 4) (.slice YA yp.len yca)).set (la0.length * 6 + 5) (.slice YQ yq.len ycq) = flat sC (la0 ++ [((yk, ys, yt), Value.slice YX yx.len ycx, Value.slice YA yp.len yca, Value.slice YQ yq.len ycq)]) := by
            rw [show flat sC la0 ++ [Value.int .i64 0, Value.string ⟨#[]⟩, Value.string ⟨#[]⟩, Value.slice none 0 0, Value.slice none 0 0, Value.slice none 0 0] = flat sC (la0 ++ [((0, ⟨#[]⟩, ⟨#[]⟩), Value.slice none 0 0, Value.slice none 0 0, Value.slice none 0 0)]) from flat_snoc sC la0 ((0, ⟨#[]⟩, ⟨#[]⟩), Value.slice none 0 0, Value.slice none 0 0, Value.slice none 0 0), flat_set6 sC_len ((yk, ys, yt), Value.slice YX yx.len ycx, Value.slice YA yp.len yca, Value.slice YQ yq.len ycq) rfl _ la0.length (by simp)]
            congr 1
            simp
          rw [e9] at O9
          clear e9 c0 c1 c2 c3 c4 c5 d0 d1 d2 d3 d4 d5
          go_meet
          have n1 : (Value.slice (some ⟨gR, 0, none⟩) (lr.length + 1) cV).ownBlock ≠ some w.heap.size := fun e => by injection e with e; have e2 : gR = w.heap.size := e; omega
          have n2 : (Value.slice (some ⟨g0, 0, none⟩) (la0.length + 1) c7).ownBlock ≠ some w.heap.size := fun e => by injection e with e; have e2 : g0 = w.heap.size := e; omega
          have n3 : (Value.slice AF m.length cF).ownBlock ≠ some w.heap.size := fun e => by have := (FF.1.1.lt _ e).1; omega
          have m1 : (Value.slice (some ⟨gR, 0, none⟩) (lr.length + 1) cV).ownBlock ≠ some rb := fun e => by injection e with e; have e2 : gR = rb := e; omega
          have m3 : (Value.slice AF m.length cF).ownBlock ≠ some rb := fun e => by have := FF.1.2 _ e; omega
          have hsz8 := size_snocS LA0 (yk, ys, yt) yx yp yq
          have OA9 : RA g U5 _ mid (Value.slice (some ⟨g0, 0, none⟩) (la0.length + 1) c7) (LA0 ++ [((yk, ys, yt), yx, yp, yq)]) (la0 ++ [((yk, ys, yt), Value.slice YX yx.len ycx, Value.slice YA yp.len yca, Value.slice YQ yq.len ycq)]) := ⟨⟨by rw [List.length_append]; exact O9, O8.2⟩, FT9⟩
          obtain ⟨AR, cR, AF1, cF1, U9, eR, eF, PR, PF, CA, GA, RA9, RbA⟩ := closeP hRw9 S09 OA9 FR9 FF9 C9 G9 (by omega) (by omega) (by omega) R9 Rb9 n1 n2 n3 m1 hn7 m3
          rw [eR, eF] at RbA
          exact ⟨AR, AF1, cR, cF1, (k0, a0, x0, mkSt (LA0 ++ [((yk, ys, yt), yx, yp, yq)])) :: Lr, M, U9, CA, GA, RA9, RbA, PR, PF, pbnd_of (by have := FR.1; omega) (by omega) (by omega) hLr FF⟩
        · go_simp
          go_wp2_with fail
          refine hK.out _ _ (⟨Rb.1.alloc (.cells #[.int .i64 0, .string ⟨#[]⟩, .string ⟨#[]⟩, .slice none 0 0, .slice none 0 0, .slice none 0 0] 31), ((hRw.alloc (.cells #[.int .i64 0, .string ⟨#[]⟩, .string ⟨#[]⟩, .slice none 0 0, .slice none 0 0, .slice none 0 0] 31)).1.cellAt 5 (by omega)).trans rfl⟩) (fun hHeld => ?_)
          clear hK K
          have KZ := Bx.new C 31 #[.int .i64 0, .string ⟨#[]⟩, .string ⟨#[]⟩, .slice none 0 0, .slice none 0 0, .slice none 0 0]
          replace R := R.alloc (.cells #[.int .i64 0, .string ⟨#[]⟩, .string ⟨#[]⟩, .slice none 0 0, .slice none 0 0, .slice none 0 0] 31)
          replace Rb := Rb.alloc (.cells #[.int .i64 0, .string ⟨#[]⟩, .string ⟨#[]⟩, .slice none 0 0, .slice none 0 0, .slice none 0 0] 31)
          replace hRw := hRw.alloc (.cells #[.int .i64 0, .string ⟨#[]⟩, .string ⟨#[]⟩, .slice none 0 0, .slice none 0 0, .slice none 0 0] 31)
          replace S0 := S0.alloc C (.cells #[.int .i64 0, .string ⟨#[]⟩, .string ⟨#[]⟩, .slice none 0 0, .slice none 0 0, .slice none 0 0] 31)
          replace O0 := O0.alloc C (.cells #[.int .i64 0, .string ⟨#[]⟩, .string ⟨#[]⟩, .slice none 0 0, .slice none 0 0, .slice none 0 0] 31)
          replace FR := FR.alloc C (.cells #[.int .i64 0, .string ⟨#[]⟩, .string ⟨#[]⟩, .slice none 0 0, .slice none 0 0, .slice none 0 0] 31)
          replace FF := FF.alloc C (.cells #[.int .i64 0, .string ⟨#[]⟩, .string ⟨#[]⟩, .slice none 0 0, .slice none 0 0, .slice none 0 0] 31)
          replace G := G.alloc (.cells #[.int .i64 0, .string ⟨#[]⟩, .string ⟨#[]⟩, .slice none 0 0, .slice none 0 0, .slice none 0 0] 31)
          replace C := C.alloc (.cells #[.int .i64 0, .string ⟨#[]⟩, .string ⟨#[]⟩, .slice none 0 0, .slice none 0 0, .slice none 0 0] 31)
          generalize wd.alloc (.cells #[.int .i64 0, .string ⟨#[]⟩, .string ⟨#[]⟩, .slice none 0 0, .slice none 0 0, .slice none 0 0] 31) = wdz at R Rb hRw S0 O0 FR FF G KZ C hHeld ⊢
          try simp only [Act.put, List.setIfInBounds_toArray, List.set_cons_zero, List.set_cons_succ]
          refine wpAnyH_ready (rs := [6]) (by kernel_rfl) (by simp) ?_
          refine AllReadyH.cons (o := ⟨some 26, _, _, _, _, _⟩) rfl (fun K hK => ?_) AllReadyH.nil
          go_simp
          refine (dAny9 B g _ _ C).mono ?_; rintro e w5 ⟨yk, ys, yt, yx, yp, yq, YX, YA, YQ, ycx, yca, ycq, U5, rfl, hsY, SYX, SYA, SYQ, C5, G5⟩
          go_wp2_with fail
          refine hK.out _ _ (⟨(Rb.gro G5).1, ((hRw.gro G5).1.cellAt 5 (by omega)).trans rfl⟩) (fun hHeld => ?_)
          clear hK K
          replace R := R.gro G5
          replace Rb := Rb.gro G5
          replace hRw := hRw.gro G5
          replace S0 := S0.gro C G5
          replace O0 := O0.gro C G5
          replace FR := FR.gro C G5
          replace FF := FF.gro C G5
          replace G := G.trans G5
          replace KZ := KZ.gro G5
          clear C
          have C := C5
          clear C5
          clear G5
          replace hug := hRw.2.1 gR rfl
          try simp only [Act.put, List.setIfInBounds_toArray, List.set_cons_zero, List.set_cons_succ]
          refine wpAnyH_ready (rs := [9]) (by kernel_rfl) (by simp) ?_
          refine AllReadyH.cons (o := ⟨some 29, _, _, _, _, _⟩) rfl (fun K hK => ?_) AllReadyH.nil
          have hrbl2 := Rb.lt
          have hll0 : la0.length ≤ 20000 := by have h1 := mkSt_len LA0; have h2 := (mkSt LA0).len_size; have h3 := O0.2.1; omega
          refine step_append_any _ rfl (.tmp 24) (.tmp 28) 29 rfl mid 31 j0 (.agg #[.int .i64 0, .string ⟨#[]⟩, .string ⟨#[]⟩, .slice none 0 0, .slice none 0 0, .slice none 0 0]) 6 112 Try.underlying29 hj hy0 hy1 hy2 rfl (by decide) (Value.slice A0 la0.length c0) _ _ rfl O0.1.1 w5.heap.size (some ⟨wd.heap.size, 0, none⟩) 1 1 [Value.int .i64 0, Value.string ⟨#[]⟩, Value.string ⟨#[]⟩, Value.slice none 0 0, Value.slice none 0 0, Value.slice none 0 0] rfl ⟨rfl, fun _ => ⟨_, 0, rfl, KZ.lt, fun j u hu => by rw [Nat.zero_add, KZ.cell]; simpa using hu⟩⟩ (fun u hu => by simp at hu; rcases hu with rfl | rfl | rfl <;> rfl) (by unfold maxLen; omega) (by omega) (by omega) ?_
          intro v' w7 hO7 hg7 hv7
          obtain ⟨A7, c7, rfl⟩ := (Row.mk hO7).form
          have hu7 := O0.1.2.1
          have hb7 := fun k e => O0.1.lt k e
          have R7 := R.row hg7 (fun e => by have := hb7 _ e.symm; omega)
          have Rb7 := Rb.row hg7 (fun e => by have := h0h _ e.symm; omega)
          have hRw7 := hRw.row hg7 (fun k e e2 => hd0 k e2 e)
          have S07 := S0.row C hg7 hu7
          have FR7 := FR.row C hg7 hu7
          have FF7 := FF.row C hg7 hu7 (fun k e => (hb7 k e).1)
          have G7 := G.row hg7 (fun k e => by have := hb7 k e; omega)
          have C7 := C.row hg7 (fun k e => by have := hb7 k e; have := hC.lt; omega)
          have hg7s := hg7.size
          have FT7 := (O0.2.snoc (a := (yk, ys, yt)) (cx := ycx) (ca := yca) (cb := ycq) SYX SYA SYQ).row C hg7 hu7
          have O7 : Rw g U5 w7 mid 31 6 (Value.slice A7 (la0.length + 1) c7) (la0.length + 1) (flat sC la0 ++ [Value.int .i64 0, Value.string ⟨#[]⟩, Value.string ⟨#[]⟩, Value.slice none 0 0, Value.slice none 0 0, Value.slice none 0 0]) := ⟨hO7, fun b hb => by
              rcases hv7 with h7 | h7
              · exact O0.1.2.1 b (h7 ▸ hb)
              · rw [h7] at hb; injection hb with hb; exact C.fresh (by omega)
            , O0.1.2.2⟩
          have hn7 : (Value.slice A7 (la0.length + 1) c7).ownBlock ≠ some rb := fun e => by
            rcases hv7 with h7 | h7
            · have := h0h _ (h7 ▸ e); omega
            · rw [h7] at e; injection e with e; omega
          have hg7n : (Value.slice A7 (la0.length + 1) c7).ownBlock ≠ some gR := fun e => by
            rcases hv7 with h7 | h7
            · exact hd0 gR (h7 ▸ e) rfl
            · rw [h7] at e; injection e with e; omega
          refine hK.out _ _ (⟨Rb7.1, (hRw7.1.cellAt 5 (by omega)).trans rfl⟩) (fun hHeld => ?_)
          clear hK K
          try simp only [Act.put, List.setIfInBounds_toArray, List.set_cons_zero, List.set_cons_succ]
          refine wpAnyH_take (i := 10) (oi := ⟨some 30, _, _, _, _, _⟩) (v := ?_) rfl (by kernel_rfl) (by kernel_rfl) (by kernel_rfl) (fun _ _ _ h => h) (Or.inl ⟨by rfl, ?_⟩) (by assumption) ?_
          case refine_2 => (intro w hSw; skip; go_simp; (try rw [if_pos (by omega)]); first | done | with_reducible rfl)
          simp only [Act.put, List.setIfInBounds_toArray, List.set_cons_zero, List.set_cons_succ]
          refine wpAnyH_take (i := 11) (oi := ⟨some 31, _, _, _, _, _⟩) (v := ?_) rfl (by kernel_rfl) (by kernel_rfl) (by kernel_rfl) (fun _ _ _ h => h) (Or.inl ⟨by rfl, ?_⟩) (by assumption) ?_
          case refine_2 => (intro w hSw; skip; go_simp; first | done | with_reducible rfl)
          simp only [Act.put, List.setIfInBounds_toArray, List.set_cons_zero, List.set_cons_succ]
          refine wpAnyH_done (by kernel_rfl) ?_ _
          refine relQ_normal ?_
          refine wpOp_step (o := ⟨none, _, _, _, _, _⟩) rfl (fun K hK => ?_)
          have q0 := hRw7.1.cellAt 5 (by omega)
          have q1 := hRw7.1.frozenAt 5
          simp only [flat_cons, rlC, List.cons_append, List.getElem?_cons_zero, List.getElem?_cons_succ] at q0
          go_simp
          go_upto_region 8 with fail
          clear q0 q1
          have hRw8 : Rw g U5 (w7.setCell ⟨gR, 5, none⟩ (Value.slice A7 (la0.length + 1) c7)) mid 54 6 (Value.slice (some ⟨gR, 0, none⟩) (lr.length + 1) cV) (lr.length + 1) (flat rlC ((k0, a0, Value.slice X0 x0.len cx0, (Value.slice A7 (la0.length + 1) c7)) :: lr)) := ⟨(hRw7.1.stored 5 (Value.slice A7 (la0.length + 1) c7)).1, hRw7.2⟩
          have R8 := R7.far (b := gR) (j := 5) (by omega) (Value.slice A7 (la0.length + 1) c7)
          have Rb8 := Rb7.far (b := gR) (j := 5) (by omega) (Value.slice A7 (la0.length + 1) c7)
          have S08 := S07.setb (b := gR) (j := 5) hug (Value.slice A7 (la0.length + 1) c7)
          have FR8 := FR7.setb (b := gR) (j := 5) hug (Value.slice A7 (la0.length + 1) c7)
          have FF8 := FF7.setb (b := gR) (j := 5) (.inr (by omega)) hug (Value.slice A7 (la0.length + 1) c7)
          have G8 := G7.setb (b := gR) (j := 5) (by omega) (Value.slice A7 (la0.length + 1) c7)
          have C8 := C7.setb (b := gR) (j := 5) (by omega) (Value.slice A7 (la0.length + 1) c7)
          have FT8 := FT7.setb (b := gR) (j := 5) hug (Value.slice A7 (la0.length + 1) c7)
          have O8 := O7.setb (b := gR) (j := 5) hg7n (Value.slice A7 (la0.length + 1) c7)
          generalize w7.setCell ⟨gR, 5, none⟩ (Value.slice A7 (la0.length + 1) c7) = w8 at hRw8 R8 Rb8 S08 FR8 FF8 G8 C8 FT8 O8 ⊢
          obtain ⟨g0, rfl, hg0m, hg0l⟩ := own_blk O8.1 (Nat.succ_pos _)
          have hug0 := O8.2.1 g0 rfl
          have hgg0 : g0 ≠ gR := fun e => hg7n (by rw [← e]; rfl)
          have hgr0 : g0 ≠ rb := fun e => hn7 (by rw [← e]; rfl)
          have hfl : (flat sC la0).length = la0.length * 6 := flat_len sC_len la0
          have c0 := O8.1.cellAt (la0.length * 6) (by omega)
          rw [List.getElem?_append_right (by rw [hfl]; omega), hfl, Nat.sub_self] at c0
          have d0 := O8.1.frozenAt (la0.length * 6)
          have c1 := O8.1.cellAt (la0.length * 6 + 1) (by omega)
          rw [List.getElem?_append_right (by rw [hfl]; omega), hfl, Nat.add_sub_cancel_left] at c1
          have d1 := O8.1.frozenAt (la0.length * 6 + 1)
          have c2 := O8.1.cellAt (la0.length * 6 + 2) (by omega)
          rw [List.getElem?_append_right (by rw [hfl]; omega), hfl, Nat.add_sub_cancel_left] at c2
          have d2 := O8.1.frozenAt (la0.length * 6 + 2)
          have c3 := O8.1.cellAt (la0.length * 6 + 3) (by omega)
          rw [List.getElem?_append_right (by rw [hfl]; omega), hfl, Nat.add_sub_cancel_left] at c3
          have d3 := O8.1.frozenAt (la0.length * 6 + 3)
          have c4 := O8.1.cellAt (la0.length * 6 + 4) (by omega)
          rw [List.getElem?_append_right (by rw [hfl]; omega), hfl, Nat.add_sub_cancel_left] at c4
          have d4 := O8.1.frozenAt (la0.length * 6 + 4)
          have c5 := O8.1.cellAt (la0.length * 6 + 5) (by omega)
          rw [List.getElem?_append_right (by rw [hfl]; omega), hfl, Nat.add_sub_cancel_left] at c5
          have d5 := O8.1.frozenAt (la0.length * 6 + 5)
          simp only [List.getElem?_cons_zero, List.getElem?_cons_succ] at c0 c1 c2 c3 c4 c5
          have hlt8 : (la0.length : Int) < ((la0.length + 1 : Nat) : Int) := by omega
          clear hfl
          go_wp2_with fail
          have O9 := ((((((O8.1.stored (la0.length * 6) (.int .i64 yk)).1.stored (la0.length * 6 + 1) (.string ys)).1.stored (la0.length * 6 + 2) (.string yt)).1.stored (la0.length * 6 + 3) (.slice YX yx.len ycx)).1.stored (la0.length * 6 + 4) (.slice YA yp.len yca)).1.stored (la0.length * 6 + 5) (.slice YQ yq.len ycq)).1
          have R9 := ((((((R8.far (b := g0) (j := la0.length * 6) (by omega) (.int .i64 yk)).far (b := g0) (j := la0.length * 6 + 1) (by omega) (.string ys)).far (b := g0) (j := la0.length * 6 + 2) (by omega) (.string yt)).far (b := g0) (j := la0.length * 6 + 3) (by omega) (.slice YX yx.len ycx)).far (b := g0) (j := la0.length * 6 + 4) (by omega) (.slice YA yp.len yca)).far (b := g0) (j := la0.length * 6 + 5) (by omega) (.slice YQ yq.len ycq))
          have Rb9 := ((((((Rb8.far (b := g0) (j := la0.length * 6) (fun e => hgr0 e.symm) (.int .i64 yk)).far (b := g0) (j := la0.length * 6 + 1) (fun e => hgr0 e.symm) (.string ys)).far (b := g0) (j := la0.length * 6 + 2) (fun e => hgr0 e.symm) (.string yt)).far (b := g0) (j := la0.length * 6 + 3) (fun e => hgr0 e.symm) (.slice YX yx.len ycx)).far (b := g0) (j := la0.length * 6 + 4) (fun e => hgr0 e.symm) (.slice YA yp.len yca)).far (b := g0) (j := la0.length * 6 + 5) (fun e => hgr0 e.symm) (.slice YQ yq.len ycq))
          have S09 := ((((((S08.setb (b := g0) (j := la0.length * 6) hug0 (.int .i64 yk)).setb (b := g0) (j := la0.length * 6 + 1) hug0 (.string ys)).setb (b := g0) (j := la0.length * 6 + 2) hug0 (.string yt)).setb (b := g0) (j := la0.length * 6 + 3) hug0 (.slice YX yx.len ycx)).setb (b := g0) (j := la0.length * 6 + 4) hug0 (.slice YA yp.len yca)).setb (b := g0) (j := la0.length * 6 + 5) hug0 (.slice YQ yq.len ycq))
          have FR9 := ((((((FR8.setb (b := g0) (j := la0.length * 6) hug0 (.int .i64 yk)).setb (b := g0) (j := la0.length * 6 + 1) hug0 (.string ys)).setb (b := g0) (j := la0.length * 6 + 2) hug0 (.string yt)).setb (b := g0) (j := la0.length * 6 + 3) hug0 (.slice YX yx.len ycx)).setb (b := g0) (j := la0.length * 6 + 4) hug0 (.slice YA yp.len yca)).setb (b := g0) (j := la0.length * 6 + 5) hug0 (.slice YQ yq.len ycq))
          have FF9 := ((((((FF8.setb (b := g0) (j := la0.length * 6) (.inr (by omega)) hug0 (.int .i64 yk)).setb (b := g0) (j := la0.length * 6 + 1) (.inr (by omega)) hug0 (.string ys)).setb (b := g0) (j := la0.length * 6 + 2) (.inr (by omega)) hug0 (.string yt)).setb (b := g0) (j := la0.length * 6 + 3) (.inr (by omega)) hug0 (.slice YX yx.len ycx)).setb (b := g0) (j := la0.length * 6 + 4) (.inr (by omega)) hug0 (.slice YA yp.len yca)).setb (b := g0) (j := la0.length * 6 + 5) (.inr (by omega)) hug0 (.slice YQ yq.len ycq))
          have FT9 := ((((((FT8.setb (b := g0) (j := la0.length * 6) hug0 (.int .i64 yk)).setb (b := g0) (j := la0.length * 6 + 1) hug0 (.string ys)).setb (b := g0) (j := la0.length * 6 + 2) hug0 (.string yt)).setb (b := g0) (j := la0.length * 6 + 3) hug0 (.slice YX yx.len ycx)).setb (b := g0) (j := la0.length * 6 + 4) hug0 (.slice YA yp.len yca)).setb (b := g0) (j := la0.length * 6 + 5) hug0 (.slice YQ yq.len ycq))
          have G9 := ((((((G8.setb (b := g0) (j := la0.length * 6) (by omega) (.int .i64 yk)).setb (b := g0) (j := la0.length * 6 + 1) (by omega) (.string ys)).setb (b := g0) (j := la0.length * 6 + 2) (by omega) (.string yt)).setb (b := g0) (j := la0.length * 6 + 3) (by omega) (.slice YX yx.len ycx)).setb (b := g0) (j := la0.length * 6 + 4) (by omega) (.slice YA yp.len yca)).setb (b := g0) (j := la0.length * 6 + 5) (by omega) (.slice YQ yq.len ycq))
          have C9 := ((((((C8.setb (b := g0) (j := la0.length * 6) (by omega) (.int .i64 yk)).setb (b := g0) (j := la0.length * 6 + 1) (by omega) (.string ys)).setb (b := g0) (j := la0.length * 6 + 2) (by omega) (.string yt)).setb (b := g0) (j := la0.length * 6 + 3) (by omega) (.slice YX yx.len ycx)).setb (b := g0) (j := la0.length * 6 + 4) (by omega) (.slice YA yp.len yca)).setb (b := g0) (j := la0.length * 6 + 5) (by omega) (.slice YQ yq.len ycq))
          have hRw9 := ((((((hRw8.setb (b := g0) (j := la0.length * 6) (fun e => hgg0 (by injection e with e; exact e.symm)) (.int .i64 yk)).setb (b := g0) (j := la0.length * 6 + 1) (fun e => hgg0 (by injection e with e; exact e.symm)) (.string ys)).setb (b := g0) (j := la0.length * 6 + 2) (fun e => hgg0 (by injection e with e; exact e.symm)) (.string yt)).setb (b := g0) (j := la0.length * 6 + 3) (fun e => hgg0 (by injection e with e; exact e.symm)) (.slice YX yx.len ycx)).setb (b := g0) (j := la0.length * 6 + 4) (fun e => hgg0 (by injection e with e; exact e.symm)) (.slice YA yp.len yca)).setb (b := g0) (j := la0.length * 6 + 5) (fun e => hgg0 (by injection e with e; exact e.symm)) (.slice YQ yq.len ycq))
          have e9 : ((((((flat sC la0 ++ [Value.int .i64 0, Value.string ⟨#[]⟩, Value.string ⟨#[]⟩, Value.slice none 0 0, Value.slice none 0 0, Value.slice none 0 0]).set (la0.length * 6) (.int .i64 yk)).set (la0.length * 6 + 1) (.string ys)).set (la0.length * 6 + 2) (.string yt)).set (la0.length * 6 + 3) (.slice YX yx.len ycx)).set (la0.length * 6 + 4) (.slice YA yp.len yca)).set (la0.length * 6 + 5) (.slice YQ yq.len ycq) = flat sC (la0 ++ [((yk, ys, yt), Value.slice YX yx.len ycx, Value.slice YA yp.len yca, Value.slice YQ yq.len ycq)]) := by
            rw [show flat sC la0 ++ [Value.int .i64 0, Value.string ⟨#[]⟩, Value.string ⟨#[]⟩, Value.slice none 0 0, Value.slice none 0 0, Value.slice none 0 0] = flat sC (la0 ++ [((0, ⟨#[]⟩, ⟨#[]⟩), Value.slice none 0 0, Value.slice none 0 0, Value.slice none 0 0)]) from flat_snoc sC la0 ((0, ⟨#[]⟩, ⟨#[]⟩), Value.slice none 0 0, Value.slice none 0 0, Value.slice none 0 0), flat_set6 sC_len ((yk, ys, yt), Value.slice YX yx.len ycx, Value.slice YA yp.len yca, Value.slice YQ yq.len ycq) rfl _ la0.length (by simp)]
            congr 1
            simp
          rw [e9] at O9
          clear e9 c0 c1 c2 c3 c4 c5 d0 d1 d2 d3 d4 d5
          go_meet
          have n1 : (Value.slice (some ⟨gR, 0, none⟩) (lr.length + 1) cV).ownBlock ≠ some w.heap.size := fun e => by injection e with e; have e2 : gR = w.heap.size := e; omega
          have n2 : (Value.slice (some ⟨g0, 0, none⟩) (la0.length + 1) c7).ownBlock ≠ some w.heap.size := fun e => by injection e with e; have e2 : g0 = w.heap.size := e; omega
          have n3 : (Value.slice AF m.length cF).ownBlock ≠ some w.heap.size := fun e => by have := (FF.1.1.lt _ e).1; omega
          have m1 : (Value.slice (some ⟨gR, 0, none⟩) (lr.length + 1) cV).ownBlock ≠ some rb := fun e => by injection e with e; have e2 : gR = rb := e; omega
          have m3 : (Value.slice AF m.length cF).ownBlock ≠ some rb := fun e => by have := FF.1.2 _ e; omega
          have hsz8 := size_snocS LA0 (yk, ys, yt) yx yp yq
          have OA9 : RA g U5 _ mid (Value.slice (some ⟨g0, 0, none⟩) (la0.length + 1) c7) (LA0 ++ [((yk, ys, yt), yx, yp, yq)]) (la0 ++ [((yk, ys, yt), Value.slice YX yx.len ycx, Value.slice YA yp.len yca, Value.slice YQ yq.len ycq)]) := ⟨⟨by rw [List.length_append]; exact O9, O8.2⟩, FT9⟩
          obtain ⟨AR, cR, AF1, cF1, U9, eR, eF, PR, PF, CA, GA, RA9, RbA⟩ := closeP hRw9 S09 OA9 FR9 FF9 C9 G9 (by omega) (by omega) (by omega) R9 Rb9 n1 n2 n3 m1 hn7 m3
          rw [eR, eF] at RbA
          exact ⟨AR, AF1, cR, cF1, (k0, a0, x0, mkSt (LA0 ++ [((yk, ys, yt), yx, yp, yq)])) :: Lr, M, U9, CA, GA, RA9, RbA, PR, PF, pbnd_of (by have := FR.1; omega) (by omega) (by omega) hLr FF⟩
    have b1 : (xx == 1) = false := by simp [xq1]
    by_cases xq2 : xx = 2
    · subst xq2
      have hgl := hRw.lt gR rfl
      have hug := hRw.2.1 gR rfl
      have hgg := FF.1.1.2.2
      obtain ⟨j0, hj, hy0, hy1, hy2⟩ := info_parts info_Fn
      go_upto_region 11 with fail
      refine wp_region_any (by kernel_rfl) ?_
      change wpAny _ _ _ _ (16 + 1) _ _ (World.drew _)
      have bd := (Below.refl w4.heap.size w4).drew
      replace R := R.below bd
      replace Rb := Rb.below bd
      replace hRw := hRw.below bd
      replace S0 := S0.below C bd
      replace O0 := O0.below C bd
      replace FR := FR.below C bd
      replace FF := FF.below C bd
      replace G := G.below bd
      replace C := C.below bd
      clear bd
      generalize w4.drew = wd at R Rb hRw S0 O0 FR FF G C ⊢
      refine wpAny_last 16 _ rfl (by kernel_rfl) (by kernel_rfl) (by kernel_rfl) (by kernel_rfl) 16 _ _ _ (by kernel_rfl) (by kernel_rfl) ?_
      simp only [List.setIfInBounds_toArray, List.set_cons_succ, List.set_cons_zero]
      refine wpAny_of_held (S := fun y => Blk y rb 37 #[(Value.slice (some ⟨gR, 0, none⟩) (lr.length + 1) cV), (Value.slice AF m.length cF)]) _ _ _ _ ?_
      have hHeld : (fun y => Blk y rb 37 #[(Value.slice (some ⟨gR, 0, none⟩) (lr.length + 1) cV), (Value.slice AF m.length cF)] : World → Prop) wd := Rb.1
      refine wpAnyH_take (i := 0) (oi := ⟨some 48, _, _, _, _, _⟩) (v := ?_) rfl (by kernel_rfl) (by kernel_rfl) (by kernel_rfl) (fun _ _ _ h => h) (Or.inl ⟨by rfl, ?_⟩) (by assumption) ?_
      case refine_2 => (intro w hSw; skip; go_simp; first | done | with_reducible rfl)
      simp only [Act.put, List.setIfInBounds_toArray, List.set_cons_zero, List.set_cons_succ]
      refine wpAnyH_take (i := 1) (oi := ⟨some 49, _, _, _, _, _⟩) (v := ?_) rfl (by kernel_rfl) (by kernel_rfl) (by kernel_rfl) (fun _ _ _ h => h) (Or.inl ⟨by rfl, ?_⟩) (by assumption) ?_
      case refine_2 => (intro w hSw; have p := hSw.cell; go_simp; first | done | with_reducible rfl)
      simp only [Act.put, List.setIfInBounds_toArray, List.set_cons_zero, List.set_cons_succ]
      refine wpAnyH_take (i := 2) (oi := ⟨some 50, _, _, _, _, _⟩) (v := ?_) rfl (by kernel_rfl) (by kernel_rfl) (by kernel_rfl) (fun _ _ _ h => h) (Or.inl ⟨by rfl, ?_⟩) (by assumption) ?_
      case refine_2 => (intro w hSw; skip; go_simp; first | done | with_reducible rfl)
      simp only [Act.put, List.setIfInBounds_toArray, List.set_cons_zero, List.set_cons_succ]
      refine wpAnyH_take (i := 5) (oi := ⟨some 53, _, _, _, _, _⟩) (v := ?_) rfl (by kernel_rfl) (by kernel_rfl) (by kernel_rfl) (fun _ _ _ h => h) (Or.inl ⟨by rfl, ?_⟩) (by assumption) ?_
      case refine_2 => (intro w hSw; skip; go_simp; first | done | with_reducible rfl)
      simp only [Act.put, List.setIfInBounds_toArray, List.set_cons_zero, List.set_cons_succ]
      refine wpAnyH_take (i := 8) (oi := ⟨some 56, _, _, _, _, _⟩) (v := ?_) rfl (by kernel_rfl) (by kernel_rfl) (by kernel_rfl) (fun _ _ _ h => h) (Or.inl ⟨by rfl, ?_⟩) (by assumption) ?_
      case refine_2 => (intro w hSw; skip; go_simp; first | done | with_reducible rfl)
      simp only [Act.put, List.setIfInBounds_toArray, List.set_cons_zero, List.set_cons_succ]
      refine wpAnyH_ready (rs := [3, 6, 9]) (by kernel_rfl) (by simp) ?_
      refine AllReadyH.cons (o := ⟨some 51, _, _, _, _, _⟩) rfl (fun K hK => ?_) (AllReadyH.cons (o := ⟨some 54, _, _, _, _, _⟩) rfl (fun K hK => ?_) (AllReadyH.cons (o := ⟨some 57, _, _, _, _, _⟩) rfl (fun K hK => ?_) AllReadyH.nil))
      · go_simp
        go_wp2_with fail
        refine hK.out _ _ (Rb.1.alloc (.cells #[.string ⟨#[102]⟩, .string ⟨#[104]⟩, .string ⟨#[]⟩, .string ⟨#[112, 114, 105, 110, 116]⟩, .string ⟨#[116]⟩] 9)) (fun hHeld => ?_)
        clear hK K
        have K1 := Bx.new C 9 #[.string ⟨#[102]⟩, .string ⟨#[104]⟩, .string ⟨#[]⟩, .string ⟨#[112, 114, 105, 110, 116]⟩, .string ⟨#[116]⟩]
        replace R := R.alloc (.cells #[.string ⟨#[102]⟩, .string ⟨#[104]⟩, .string ⟨#[]⟩, .string ⟨#[112, 114, 105, 110, 116]⟩, .string ⟨#[116]⟩] 9)
        replace Rb := Rb.alloc (.cells #[.string ⟨#[102]⟩, .string ⟨#[104]⟩, .string ⟨#[]⟩, .string ⟨#[112, 114, 105, 110, 116]⟩, .string ⟨#[116]⟩] 9)
        replace hRw := hRw.alloc (.cells #[.string ⟨#[102]⟩, .string ⟨#[104]⟩, .string ⟨#[]⟩, .string ⟨#[112, 114, 105, 110, 116]⟩, .string ⟨#[116]⟩] 9)
        replace S0 := S0.alloc C (.cells #[.string ⟨#[102]⟩, .string ⟨#[104]⟩, .string ⟨#[]⟩, .string ⟨#[112, 114, 105, 110, 116]⟩, .string ⟨#[116]⟩] 9)
        replace O0 := O0.alloc C (.cells #[.string ⟨#[102]⟩, .string ⟨#[104]⟩, .string ⟨#[]⟩, .string ⟨#[112, 114, 105, 110, 116]⟩, .string ⟨#[116]⟩] 9)
        replace FR := FR.alloc C (.cells #[.string ⟨#[102]⟩, .string ⟨#[104]⟩, .string ⟨#[]⟩, .string ⟨#[112, 114, 105, 110, 116]⟩, .string ⟨#[116]⟩] 9)
        replace FF := FF.alloc C (.cells #[.string ⟨#[102]⟩, .string ⟨#[104]⟩, .string ⟨#[]⟩, .string ⟨#[112, 114, 105, 110, 116]⟩, .string ⟨#[116]⟩] 9)
        replace G := G.alloc (.cells #[.string ⟨#[102]⟩, .string ⟨#[104]⟩, .string ⟨#[]⟩, .string ⟨#[112, 114, 105, 110, 116]⟩, .string ⟨#[116]⟩] 9)
        replace C := C.alloc (.cells #[.string ⟨#[102]⟩, .string ⟨#[104]⟩, .string ⟨#[]⟩, .string ⟨#[112, 114, 105, 110, 116]⟩, .string ⟨#[116]⟩] 9)
        generalize wd.alloc (.cells #[.string ⟨#[102]⟩, .string ⟨#[104]⟩, .string ⟨#[]⟩, .string ⟨#[112, 114, 105, 110, 116]⟩, .string ⟨#[116]⟩] 9) = wd1 at R Rb hRw S0 O0 FR FF G K1 C hHeld ⊢
        try simp only [Act.put, List.setIfInBounds_toArray, List.set_cons_zero, List.set_cons_succ]
        refine wpAnyH_ready (rs := [4, 6, 9]) (by kernel_rfl) (by simp) ?_
        refine AllReadyH.cons (o := ⟨some 52, _, _, _, _, _⟩) rfl (fun K hK => ?_) (AllReadyH.cons (o := ⟨some 54, _, _, _, _, _⟩) rfl (fun K hK => ?_) (AllReadyH.cons (o := ⟨some 57, _, _, _, _, _⟩) rfl (fun K hK => ?_) AllReadyH.nil))
        · go_simp
          refine (cStr wd.heap.size 5 [⟨#[102]⟩, ⟨#[104]⟩, ⟨#[]⟩, ⟨#[112, 114, 105, 110, 116]⟩, ⟨#[116]⟩] C rfl (by omega) (by omega) K1.1 (by have := K1.2.2; omega)).mono ?_; rintro e wd1c ⟨⟨z1, rfl, _⟩, C5, G5⟩
          go_wp2_with fail
          refine hK.out _ _ ((Rb.gro G5).1) (fun hHeld => ?_)
          clear hK K
          clear K1
          replace R := R.gro G5
          replace Rb := Rb.gro G5
          replace hRw := hRw.gro G5
          replace S0 := S0.gro C G5
          replace O0 := O0.gro C G5
          replace FR := FR.gro C G5
          replace FF := FF.gro C G5
          replace G := G.trans G5
          clear C
          have C := C5
          clear C5
          clear G5
          try simp only [Act.put, List.setIfInBounds_toArray, List.set_cons_zero, List.set_cons_succ]
          refine wpAnyH_ready (rs := [6, 9]) (by kernel_rfl) (by simp) ?_
          refine AllReadyH.cons (o := ⟨some 54, _, _, _, _, _⟩) rfl (fun K hK => ?_) (AllReadyH.cons (o := ⟨some 57, _, _, _, _, _⟩) rfl (fun K hK => ?_) AllReadyH.nil)
          · go_simp
            go_wp2_with fail
            refine hK.out _ _ (Rb.1.alloc (.cells #[.string ⟨#[97]⟩, .string ⟨#[116]⟩, .string ⟨#[102]⟩] 9)) (fun hHeld => ?_)
            clear hK K
            have K2 := Bx.new C 9 #[.string ⟨#[97]⟩, .string ⟨#[116]⟩, .string ⟨#[102]⟩]
            replace R := R.alloc (.cells #[.string ⟨#[97]⟩, .string ⟨#[116]⟩, .string ⟨#[102]⟩] 9)
            replace Rb := Rb.alloc (.cells #[.string ⟨#[97]⟩, .string ⟨#[116]⟩, .string ⟨#[102]⟩] 9)
            replace hRw := hRw.alloc (.cells #[.string ⟨#[97]⟩, .string ⟨#[116]⟩, .string ⟨#[102]⟩] 9)
            replace S0 := S0.alloc C (.cells #[.string ⟨#[97]⟩, .string ⟨#[116]⟩, .string ⟨#[102]⟩] 9)
            replace O0 := O0.alloc C (.cells #[.string ⟨#[97]⟩, .string ⟨#[116]⟩, .string ⟨#[102]⟩] 9)
            replace FR := FR.alloc C (.cells #[.string ⟨#[97]⟩, .string ⟨#[116]⟩, .string ⟨#[102]⟩] 9)
            replace FF := FF.alloc C (.cells #[.string ⟨#[97]⟩, .string ⟨#[116]⟩, .string ⟨#[102]⟩] 9)
            replace G := G.alloc (.cells #[.string ⟨#[97]⟩, .string ⟨#[116]⟩, .string ⟨#[102]⟩] 9)
            replace C := C.alloc (.cells #[.string ⟨#[97]⟩, .string ⟨#[116]⟩, .string ⟨#[102]⟩] 9)
            generalize wd1c.alloc (.cells #[.string ⟨#[97]⟩, .string ⟨#[116]⟩, .string ⟨#[102]⟩] 9) = wd1c2 at R Rb hRw S0 O0 FR FF G K2 C hHeld ⊢
            try simp only [Act.put, List.setIfInBounds_toArray, List.set_cons_zero, List.set_cons_succ]
            refine wpAnyH_ready (rs := [7, 9]) (by kernel_rfl) (by simp) ?_
            refine AllReadyH.cons (o := ⟨some 55, _, _, _, _, _⟩) rfl (fun K hK => ?_) (AllReadyH.cons (o := ⟨some 57, _, _, _, _, _⟩) rfl (fun K hK => ?_) AllReadyH.nil)
            · go_simp
              refine (cStr wd1c.heap.size 3 [⟨#[97]⟩, ⟨#[116]⟩, ⟨#[102]⟩] C rfl (by omega) (by omega) K2.1 (by have := K2.2.2; omega)).mono ?_; rintro e wd1c2c ⟨⟨z2, rfl, _⟩, C5, G5⟩
              go_wp2_with fail
              refine hK.out _ _ ((Rb.gro G5).1) (fun hHeld => ?_)
              clear hK K
              clear K2
              replace R := R.gro G5
              replace Rb := Rb.gro G5
              replace hRw := hRw.gro G5
              replace S0 := S0.gro C G5
              replace O0 := O0.gro C G5
              replace FR := FR.gro C G5
              replace FF := FF.gro C G5
              replace G := G.trans G5
              clear C
              have C := C5
              clear C5
              clear G5
              try simp only [Act.put, List.setIfInBounds_toArray, List.set_cons_zero, List.set_cons_succ]
              refine wpAnyH_ready (rs := [9]) (by kernel_rfl) (by simp) ?_
              refine AllReadyH.cons (o := ⟨some 57, _, _, _, _, _⟩) rfl (fun K hK => ?_) AllReadyH.nil
              go_simp
              go_wp2_with fail
              refine hK.out _ _ (Rb.1.alloc (.cells #[.string ⟨#[97]⟩, .string ⟨#[98]⟩] 9)) (fun hHeld => ?_)
              clear hK K
              have K3 := Bx.new C 9 #[.string ⟨#[97]⟩, .string ⟨#[98]⟩]
              replace R := R.alloc (.cells #[.string ⟨#[97]⟩, .string ⟨#[98]⟩] 9)
              replace Rb := Rb.alloc (.cells #[.string ⟨#[97]⟩, .string ⟨#[98]⟩] 9)
              replace hRw := hRw.alloc (.cells #[.string ⟨#[97]⟩, .string ⟨#[98]⟩] 9)
              replace S0 := S0.alloc C (.cells #[.string ⟨#[97]⟩, .string ⟨#[98]⟩] 9)
              replace O0 := O0.alloc C (.cells #[.string ⟨#[97]⟩, .string ⟨#[98]⟩] 9)
              replace FR := FR.alloc C (.cells #[.string ⟨#[97]⟩, .string ⟨#[98]⟩] 9)
              replace FF := FF.alloc C (.cells #[.string ⟨#[97]⟩, .string ⟨#[98]⟩] 9)
              replace G := G.alloc (.cells #[.string ⟨#[97]⟩, .string ⟨#[98]⟩] 9)
              replace C := C.alloc (.cells #[.string ⟨#[97]⟩, .string ⟨#[98]⟩] 9)
              generalize wd1c2c.alloc (.cells #[.string ⟨#[97]⟩, .string ⟨#[98]⟩] 9) = wd1c2c3 at R Rb hRw S0 O0 FR FF G K3 C hHeld ⊢
              try simp only [Act.put, List.setIfInBounds_toArray, List.set_cons_zero, List.set_cons_succ]
              refine wpAnyH_ready (rs := [10]) (by kernel_rfl) (by simp) ?_
              refine AllReadyH.cons (o := ⟨some 58, _, _, _, _, _⟩) rfl (fun K hK => ?_) AllReadyH.nil
              go_simp
              refine (cStr wd1c2c.heap.size 2 [⟨#[97]⟩, ⟨#[98]⟩] C rfl (by omega) (by omega) K3.1 (by have := K3.2.2; omega)).mono ?_; rintro e wd1c2c3c ⟨⟨z3, rfl, _⟩, C5, G5⟩
              go_wp2_with fail
              refine hK.out _ _ ((Rb.gro G5).1) (fun hHeld => ?_)
              clear hK K
              clear K3
              replace R := R.gro G5
              replace Rb := Rb.gro G5
              replace hRw := hRw.gro G5
              replace S0 := S0.gro C G5
              replace O0 := O0.gro C G5
              replace FR := FR.gro C G5
              replace FF := FF.gro C G5
              replace G := G.trans G5
              clear C
              have C := C5
              clear C5
              clear G5
              try simp only [Act.put, List.setIfInBounds_toArray, List.set_cons_zero, List.set_cons_succ]
              refine wpAnyH_ready (rs := [11]) (by kernel_rfl) (by simp) ?_
              refine AllReadyH.cons (o := ⟨some 59, _, _, _, _, _⟩) rfl (fun K hK => ?_) AllReadyH.nil
              go_simp
              go_wp2_with fail
              refine hK.out _ _ (Rb.1.alloc (.cells #[.string z2, .string z3] 9)) (fun hHeld => ?_)
              clear hK K
              have hrbl := Rb.lt
              have K4 := Bx.new C 9 #[.string z2, .string z3]
              replace R := R.alloc (.cells #[.string z2, .string z3] 9)
              replace Rb := Rb.alloc (.cells #[.string z2, .string z3] 9)
              replace hRw := hRw.alloc (.cells #[.string z2, .string z3] 9)
              replace S0 := S0.alloc C (.cells #[.string z2, .string z3] 9)
              replace O0 := O0.alloc C (.cells #[.string z2, .string z3] 9)
              replace FR := FR.alloc C (.cells #[.string z2, .string z3] 9)
              replace FF := FF.alloc C (.cells #[.string z2, .string z3] 9)
              replace G := G.alloc (.cells #[.string z2, .string z3] 9)
              replace C := C.alloc (.cells #[.string z2, .string z3] 9)
              generalize wd1c2c3c.alloc (.cells #[.string z2, .string z3] 9) = wd1c2c3cy at R Rb hRw S0 O0 FR FF G K4 C hHeld ⊢
              try simp only [Act.put, List.setIfInBounds_toArray, List.set_cons_zero, List.set_cons_succ]
              refine wpAnyH_take (i := 12) (oi := ⟨some 60, _, _, _, _, _⟩) (v := ?_) rfl (by kernel_rfl) (by kernel_rfl) (by kernel_rfl) (fun _ _ _ h => h) (Or.inl ⟨by rfl, ?_⟩) (by assumption) ?_
              case refine_2 => (intro w hSw; skip; go_simp; first | done | with_reducible rfl)
              simp only [Act.put, List.setIfInBounds_toArray, List.set_cons_zero, List.set_cons_succ]
              refine wpAnyH_ready (rs := [13]) (by kernel_rfl) (by simp) ?_
              refine AllReadyH.cons (o := ⟨some 61, _, _, _, _, _⟩) rfl (fun K hK => ?_) AllReadyH.nil
              go_simp
              go_wp2_with fail
              refine hK.out _ _ (Rb.1.alloc (.cells #[.string z1, .slice (some ⟨wd1c2c3c.heap.size, 0, none⟩) 2 2, .slice none 0 0] 59)) (fun hHeld => ?_)
              clear hK K
              try simp only [Act.put, List.setIfInBounds_toArray, List.set_cons_zero, List.set_cons_succ]
              refine wpAnyH_ready (rs := [14]) (by kernel_rfl) (by simp) ?_
              refine AllReadyH.cons (o := ⟨some 62, _, _, _, _, _⟩) rfl (fun K hK => ?_) AllReadyH.nil
              have hrbl2 := Rb.lt
              refine step_pushB (w := wd1c2c3cy) rfl (.tmp 49) (.tmp 61) 35 rfl (w.heap.size + 1) 59 j0 (.agg #[.string ⟨#[]⟩, .slice none 0 0, .slice none 0 0]) 3 64 Try.underlying35 hj hy0 hy1 hy2 rfl (by decide) (Value.slice AF m.length cF) _ _ rfl FF.1.1.1 [.string z1, .slice (some ⟨wd1c2c3c.heap.size, 0, none⟩) 2 2, .slice none 0 0] rfl rfl rfl (by have := FF.2.1.1; have := FF.2.2.1; omega) (by omega) (by omega) ?_
              intro v' w7 hO7 hg7 hv7
              obtain ⟨A7, c7, rfl⟩ := (Row.mk hO7).form
              have hu7 := FF.1.1.2.1
              have hb7 := fun k e => FF.1.1.lt k e
              have hm7 := FF.1.2
              have K4l := K4.lt
              have R7 := R.row hg7 (fun e => by have := hb7 _ e.symm; omega)
              have Rb7 := Rb.row hg7 (fun e => by have := hm7 _ e.symm; omega)
              have hRw7 := hRw.row hg7 (fun k e e2 => by have := hm7 _ e2; have := (hRw.lt _ e).1; omega)
              have S07 := S0.row C hg7 hu7
              have O07 := O0.row C hg7 hu7 (fun k e e2 => by have := hm7 _ e2; have := (O0.1.lt _ e).1; omega)
              have FR7 := FR.row C hg7 hu7
              have K47 := K4.row hg7 (fun e => by have := hm7 _ e.symm; omega)
              have FT7 := FF.2.1.row C hg7 hu7
              have O7 := FF.1.1.push C hO7 hv7
              have G7 := G.row hg7 (fun k e => by have := hb7 k e; omega)
              have C7 := C.row hg7 (fun k e => by have := hb7 k e; have := hC.lt; omega)
              have hg7s := hg7.size
              have hn7 : (Value.slice A7 (m.length + 1) c7).ownBlock ≠ some rb := fun e => by
                rcases hv7 with h7 | ⟨k7, h7, h8⟩
                · have := hm7 _ (h7 ▸ e); omega
                · rw [h7] at e; injection e with e; omega
              refine hK.out _ _ (Rb7.1) (fun hHeld => ?_)
              clear hK K
              try simp only [Act.put, List.setIfInBounds_toArray, List.set_cons_zero, List.set_cons_succ]
              refine wpAnyH_take (i := 15) (oi := ⟨some 63, _, _, _, _, _⟩) (v := ?_) rfl (by kernel_rfl) (by kernel_rfl) (by kernel_rfl) (fun _ _ _ h => h) (Or.inl ⟨by rfl, ?_⟩) (by assumption) ?_
              case refine_2 => (intro w hSw; skip; go_simp; first | done | with_reducible rfl)
              simp only [Act.put, List.setIfInBounds_toArray, List.set_cons_zero, List.set_cons_succ]
              refine wpAnyH_done (by kernel_rfl) ?_ _
              refine relQ_normal ?_
              refine wpOp_step (o := ⟨none, _, _, _, _, _⟩) rfl (fun K hK => ?_)
              have pc0 := Rb7.cell
              have pf0 := Rb7.frozen
              go_simp
              go_wp2_with fail
              go_meet
              have hgR7 := hRw7.lt gR rfl
              have hOl7 := fun k e => O7.lt k e
              have hb4R : (Value.slice (some ⟨gR, 0, none⟩) (lr.length + 1) cV).ownBlock ≠ some rb := fun e => by injection e with e; have e2 : gR = rb := e; omega
              exact addFn R7 Rb7 hRw7 S07 O07 FR7 K47 FT7 O7 C7 G7 ⟨by omega, by omega, by omega⟩ ⟨hb4R, fun e => by injection e with e; have e2 : gR = wd1c2c3c.heap.size := e; omega, fun e => by injection e with e; have e2 : gR = w.heap.size := e; omega⟩ ⟨fun e => by have := h0h _ e; omega, fun e => by have := h0h _ e; omega, fun e => by have := (O07.1.lt _ e).1; omega⟩ ⟨hn7, fun e => by rcases hv7 with h7 | ⟨k7, h7, h8⟩; (have := hm7 _ (h7 ▸ e); omega); (rw [h7] at e; injection e with e; omega), fun e => by have := (hOl7 _ e).1; omega⟩ ⟨by omega, by omega, by omega, by have := G.sz; omega, by omega⟩ (by omega) (by have := HM2.out; omega) hx0 hA0 hLr FF.2.2.2
            · go_simp
              go_wp2_with fail
              refine hK.out _ _ (Rb.1.alloc (.cells #[.string ⟨#[97]⟩, .string ⟨#[98]⟩] 9)) (fun hHeld => ?_)
              clear hK K
              have K3 := Bx.new C 9 #[.string ⟨#[97]⟩, .string ⟨#[98]⟩]
              replace R := R.alloc (.cells #[.string ⟨#[97]⟩, .string ⟨#[98]⟩] 9)
              replace Rb := Rb.alloc (.cells #[.string ⟨#[97]⟩, .string ⟨#[98]⟩] 9)
              replace hRw := hRw.alloc (.cells #[.string ⟨#[97]⟩, .string ⟨#[98]⟩] 9)
              replace S0 := S0.alloc C (.cells #[.string ⟨#[97]⟩, .string ⟨#[98]⟩] 9)
              replace O0 := O0.alloc C (.cells #[.string ⟨#[97]⟩, .string ⟨#[98]⟩] 9)
              replace FR := FR.alloc C (.cells #[.string ⟨#[97]⟩, .string ⟨#[98]⟩] 9)
              replace FF := FF.alloc C (.cells #[.string ⟨#[97]⟩, .string ⟨#[98]⟩] 9)
              replace G := G.alloc (.cells #[.string ⟨#[97]⟩, .string ⟨#[98]⟩] 9)
              replace K2 := K2.alloc (.cells #[.string ⟨#[97]⟩, .string ⟨#[98]⟩] 9)
              replace C := C.alloc (.cells #[.string ⟨#[97]⟩, .string ⟨#[98]⟩] 9)
              generalize wd1c2.alloc (.cells #[.string ⟨#[97]⟩, .string ⟨#[98]⟩] 9) = wd1c23 at R Rb hRw S0 O0 FR FF G K2 K3 C hHeld ⊢
              try simp only [Act.put, List.setIfInBounds_toArray, List.set_cons_zero, List.set_cons_succ]
              refine wpAnyH_ready (rs := [7]) (by kernel_rfl) (by simp) ?_
              refine AllReadyH.cons (o := ⟨some 55, _, _, _, _, _⟩) rfl (fun K hK => ?_) AllReadyH.nil
              go_simp
              refine (cStr wd1c.heap.size 3 [⟨#[97]⟩, ⟨#[116]⟩, ⟨#[102]⟩] C rfl (by omega) (by omega) K2.1 (by have := K2.2.2; omega)).mono ?_; rintro e wd1c23c ⟨⟨z2, rfl, _⟩, C5, G5⟩
              go_wp2_with fail
              refine hK.out _ _ ((Rb.gro G5).1) (fun hHeld => ?_)
              clear hK K
              clear K2
              replace R := R.gro G5
              replace Rb := Rb.gro G5
              replace hRw := hRw.gro G5
              replace S0 := S0.gro C G5
              replace O0 := O0.gro C G5
              replace FR := FR.gro C G5
              replace FF := FF.gro C G5
              replace G := G.trans G5
              replace K3 := K3.gro G5
              clear C
              have C := C5
              clear C5
              clear G5
              try simp only [Act.put, List.setIfInBounds_toArray, List.set_cons_zero, List.set_cons_succ]
              refine wpAnyH_ready (rs := [10]) (by kernel_rfl) (by simp) ?_
              refine AllReadyH.cons (o := ⟨some 58, _, _, _, _, _⟩) rfl (fun K hK => ?_) AllReadyH.nil
              go_simp
              refine (cStr wd1c2.heap.size 2 [⟨#[97]⟩, ⟨#[98]⟩] C rfl (by omega) (by omega) K3.1 (by have := K3.2.2; omega)).mono ?_; rintro e wd1c23cc ⟨⟨z3, rfl, _⟩, C5, G5⟩
              go_wp2_with fail
              refine hK.out _ _ ((Rb.gro G5).1) (fun hHeld => ?_)
              clear hK K
              clear K3
              replace R := R.gro G5
              replace Rb := Rb.gro G5
              replace hRw := hRw.gro G5
              replace S0 := S0.gro C G5
              replace O0 := O0.gro C G5
              replace FR := FR.gro C G5
              replace FF := FF.gro C G5
              replace G := G.trans G5
              clear C
              have C := C5
              clear C5
              clear G5
              try simp only [Act.put, List.setIfInBounds_toArray, List.set_cons_zero, List.set_cons_succ]
              refine wpAnyH_ready (rs := [11]) (by kernel_rfl) (by simp) ?_
              refine AllReadyH.cons (o := ⟨some 59, _, _, _, _, _⟩) rfl (fun K hK => ?_) AllReadyH.nil
              go_simp
              go_wp2_with fail
              refine hK.out _ _ (Rb.1.alloc (.cells #[.string z2, .string z3] 9)) (fun hHeld => ?_)
              clear hK K
              have hrbl := Rb.lt
              have K4 := Bx.new C 9 #[.string z2, .string z3]
              replace R := R.alloc (.cells #[.string z2, .string z3] 9)
              replace Rb := Rb.alloc (.cells #[.string z2, .string z3] 9)
              replace hRw := hRw.alloc (.cells #[.string z2, .string z3] 9)
              replace S0 := S0.alloc C (.cells #[.string z2, .string z3] 9)
              replace O0 := O0.alloc C (.cells #[.string z2, .string z3] 9)
              replace FR := FR.alloc C (.cells #[.string z2, .string z3] 9)
              replace FF := FF.alloc C (.cells #[.string z2, .string z3] 9)
              replace G := G.alloc (.cells #[.string z2, .string z3] 9)
              replace C := C.alloc (.cells #[.string z2, .string z3] 9)
              generalize wd1c23cc.alloc (.cells #[.string z2, .string z3] 9) = wd1c23ccy at R Rb hRw S0 O0 FR FF G K4 C hHeld ⊢
              try simp only [Act.put, List.setIfInBounds_toArray, List.set_cons_zero, List.set_cons_succ]
              refine wpAnyH_take (i := 12) (oi := ⟨some 60, _, _, _, _, _⟩) (v := ?_) rfl (by kernel_rfl) (by kernel_rfl) (by kernel_rfl) (fun _ _ _ h => h) (Or.inl ⟨by rfl, ?_⟩) (by assumption) ?_
              case refine_2 => (intro w hSw; skip; go_simp; first | done | with_reducible rfl)
              simp only [Act.put, List.setIfInBounds_toArray, List.set_cons_zero, List.set_cons_succ]
              refine wpAnyH_ready (rs := [13]) (by kernel_rfl) (by simp) ?_
              refine AllReadyH.cons (o := ⟨some 61, _, _, _, _, _⟩) rfl (fun K hK => ?_) AllReadyH.nil
              go_simp
              go_wp2_with fail
              refine hK.out _ _ (Rb.1.alloc (.cells #[.string z1, .slice (some ⟨wd1c23cc.heap.size, 0, none⟩) 2 2, .slice none 0 0] 59)) (fun hHeld => ?_)
              clear hK K
              try simp only [Act.put, List.setIfInBounds_toArray, List.set_cons_zero, List.set_cons_succ]
              refine wpAnyH_ready (rs := [14]) (by kernel_rfl) (by simp) ?_
              refine AllReadyH.cons (o := ⟨some 62, _, _, _, _, _⟩) rfl (fun K hK => ?_) AllReadyH.nil
              have hrbl2 := Rb.lt
              refine step_pushB (w := wd1c23ccy) rfl (.tmp 49) (.tmp 61) 35 rfl (w.heap.size + 1) 59 j0 (.agg #[.string ⟨#[]⟩, .slice none 0 0, .slice none 0 0]) 3 64 Try.underlying35 hj hy0 hy1 hy2 rfl (by decide) (Value.slice AF m.length cF) _ _ rfl FF.1.1.1 [.string z1, .slice (some ⟨wd1c23cc.heap.size, 0, none⟩) 2 2, .slice none 0 0] rfl rfl rfl (by have := FF.2.1.1; have := FF.2.2.1; omega) (by omega) (by omega) ?_
              intro v' w7 hO7 hg7 hv7
              obtain ⟨A7, c7, rfl⟩ := (Row.mk hO7).form
              have hu7 := FF.1.1.2.1
              have hb7 := fun k e => FF.1.1.lt k e
              have hm7 := FF.1.2
              have K4l := K4.lt
              have R7 := R.row hg7 (fun e => by have := hb7 _ e.symm; omega)
              have Rb7 := Rb.row hg7 (fun e => by have := hm7 _ e.symm; omega)
              have hRw7 := hRw.row hg7 (fun k e e2 => by have := hm7 _ e2; have := (hRw.lt _ e).1; omega)
              have S07 := S0.row C hg7 hu7
              have O07 := O0.row C hg7 hu7 (fun k e e2 => by have := hm7 _ e2; have := (O0.1.lt _ e).1; omega)
              have FR7 := FR.row C hg7 hu7
              have K47 := K4.row hg7 (fun e => by have := hm7 _ e.symm; omega)
              have FT7 := FF.2.1.row C hg7 hu7
              have O7 := FF.1.1.push C hO7 hv7
              have G7 := G.row hg7 (fun k e => by have := hb7 k e; omega)
              have C7 := C.row hg7 (fun k e => by have := hb7 k e; have := hC.lt; omega)
              have hg7s := hg7.size
              have hn7 : (Value.slice A7 (m.length + 1) c7).ownBlock ≠ some rb := fun e => by
                rcases hv7 with h7 | ⟨k7, h7, h8⟩
                · have := hm7 _ (h7 ▸ e); omega
                · rw [h7] at e; injection e with e; omega
              refine hK.out _ _ (Rb7.1) (fun hHeld => ?_)
              clear hK K
              try simp only [Act.put, List.setIfInBounds_toArray, List.set_cons_zero, List.set_cons_succ]
              refine wpAnyH_take (i := 15) (oi := ⟨some 63, _, _, _, _, _⟩) (v := ?_) rfl (by kernel_rfl) (by kernel_rfl) (by kernel_rfl) (fun _ _ _ h => h) (Or.inl ⟨by rfl, ?_⟩) (by assumption) ?_
              case refine_2 => (intro w hSw; skip; go_simp; first | done | with_reducible rfl)
              simp only [Act.put, List.setIfInBounds_toArray, List.set_cons_zero, List.set_cons_succ]
              refine wpAnyH_done (by kernel_rfl) ?_ _
              refine relQ_normal ?_
              refine wpOp_step (o := ⟨none, _, _, _, _, _⟩) rfl (fun K hK => ?_)
              have pc0 := Rb7.cell
              have pf0 := Rb7.frozen
              go_simp
              go_wp2_with fail
              go_meet
              have hgR7 := hRw7.lt gR rfl
              have hOl7 := fun k e => O7.lt k e
              have hb4R : (Value.slice (some ⟨gR, 0, none⟩) (lr.length + 1) cV).ownBlock ≠ some rb := fun e => by injection e with e; have e2 : gR = rb := e; omega
              exact addFn R7 Rb7 hRw7 S07 O07 FR7 K47 FT7 O7 C7 G7 ⟨by omega, by omega, by omega⟩ ⟨hb4R, fun e => by injection e with e; have e2 : gR = wd1c23cc.heap.size := e; omega, fun e => by injection e with e; have e2 : gR = w.heap.size := e; omega⟩ ⟨fun e => by have := h0h _ e; omega, fun e => by have := h0h _ e; omega, fun e => by have := (O07.1.lt _ e).1; omega⟩ ⟨hn7, fun e => by rcases hv7 with h7 | ⟨k7, h7, h8⟩; (have := hm7 _ (h7 ▸ e); omega); (rw [h7] at e; injection e with e; omega), fun e => by have := (hOl7 _ e).1; omega⟩ ⟨by omega, by omega, by omega, by have := G.sz; omega, by omega⟩ (by omega) (by have := HM2.out; omega) hx0 hA0 hLr FF.2.2.2
          · go_simp
            go_wp2_with fail
            refine hK.out _ _ (Rb.1.alloc (.cells #[.string ⟨#[97]⟩, .string ⟨#[98]⟩] 9)) (fun hHeld => ?_)
            clear hK K
            have K3 := Bx.new C 9 #[.string ⟨#[97]⟩, .string ⟨#[98]⟩]
            replace R := R.alloc (.cells #[.string ⟨#[97]⟩, .string ⟨#[98]⟩] 9)
            replace Rb := Rb.alloc (.cells #[.string ⟨#[97]⟩, .string ⟨#[98]⟩] 9)
            replace hRw := hRw.alloc (.cells #[.string ⟨#[97]⟩, .string ⟨#[98]⟩] 9)
            replace S0 := S0.alloc C (.cells #[.string ⟨#[97]⟩, .string ⟨#[98]⟩] 9)
            replace O0 := O0.alloc C (.cells #[.string ⟨#[97]⟩, .string ⟨#[98]⟩] 9)
            replace FR := FR.alloc C (.cells #[.string ⟨#[97]⟩, .string ⟨#[98]⟩] 9)
            replace FF := FF.alloc C (.cells #[.string ⟨#[97]⟩, .string ⟨#[98]⟩] 9)
            replace G := G.alloc (.cells #[.string ⟨#[97]⟩, .string ⟨#[98]⟩] 9)
            replace C := C.alloc (.cells #[.string ⟨#[97]⟩, .string ⟨#[98]⟩] 9)
            generalize wd1c.alloc (.cells #[.string ⟨#[97]⟩, .string ⟨#[98]⟩] 9) = wd1c3 at R Rb hRw S0 O0 FR FF G K3 C hHeld ⊢
            try simp only [Act.put, List.setIfInBounds_toArray, List.set_cons_zero, List.set_cons_succ]
            refine wpAnyH_ready (rs := [6]) (by kernel_rfl) (by simp) ?_
            refine AllReadyH.cons (o := ⟨some 54, _, _, _, _, _⟩) rfl (fun K hK => ?_) AllReadyH.nil
            go_simp
            go_wp2_with fail
            refine hK.out _ _ (Rb.1.alloc (.cells #[.string ⟨#[97]⟩, .string ⟨#[116]⟩, .string ⟨#[102]⟩] 9)) (fun hHeld => ?_)
            clear hK K
            have K2 := Bx.new C 9 #[.string ⟨#[97]⟩, .string ⟨#[116]⟩, .string ⟨#[102]⟩]
            replace R := R.alloc (.cells #[.string ⟨#[97]⟩, .string ⟨#[116]⟩, .string ⟨#[102]⟩] 9)
            replace Rb := Rb.alloc (.cells #[.string ⟨#[97]⟩, .string ⟨#[116]⟩, .string ⟨#[102]⟩] 9)
            replace hRw := hRw.alloc (.cells #[.string ⟨#[97]⟩, .string ⟨#[116]⟩, .string ⟨#[102]⟩] 9)
            replace S0 := S0.alloc C (.cells #[.string ⟨#[97]⟩, .string ⟨#[116]⟩, .string ⟨#[102]⟩] 9)
            replace O0 := O0.alloc C (.cells #[.string ⟨#[97]⟩, .string ⟨#[116]⟩, .string ⟨#[102]⟩] 9)
            replace FR := FR.alloc C (.cells #[.string ⟨#[97]⟩, .string ⟨#[116]⟩, .string ⟨#[102]⟩] 9)
            replace FF := FF.alloc C (.cells #[.string ⟨#[97]⟩, .string ⟨#[116]⟩, .string ⟨#[102]⟩] 9)
            replace G := G.alloc (.cells #[.string ⟨#[97]⟩, .string ⟨#[116]⟩, .string ⟨#[102]⟩] 9)
            replace K3 := K3.alloc (.cells #[.string ⟨#[97]⟩, .string ⟨#[116]⟩, .string ⟨#[102]⟩] 9)
            replace C := C.alloc (.cells #[.string ⟨#[97]⟩, .string ⟨#[116]⟩, .string ⟨#[102]⟩] 9)
            generalize wd1c3.alloc (.cells #[.string ⟨#[97]⟩, .string ⟨#[116]⟩, .string ⟨#[102]⟩] 9) = wd1c32 at R Rb hRw S0 O0 FR FF G K3 K2 C hHeld ⊢
            try simp only [Act.put, List.setIfInBounds_toArray, List.set_cons_zero, List.set_cons_succ]
            refine wpAnyH_ready (rs := [7]) (by kernel_rfl) (by simp) ?_
            refine AllReadyH.cons (o := ⟨some 55, _, _, _, _, _⟩) rfl (fun K hK => ?_) AllReadyH.nil
            go_simp
            refine (cStr wd1c3.heap.size 3 [⟨#[97]⟩, ⟨#[116]⟩, ⟨#[102]⟩] C rfl (by omega) (by omega) K2.1 (by have := K2.2.2; omega)).mono ?_; rintro e wd1c32c ⟨⟨z2, rfl, _⟩, C5, G5⟩
            go_wp2_with fail
            refine hK.out _ _ ((Rb.gro G5).1) (fun hHeld => ?_)
            clear hK K
            clear K2
            replace R := R.gro G5
            replace Rb := Rb.gro G5
            replace hRw := hRw.gro G5
            replace S0 := S0.gro C G5
            replace O0 := O0.gro C G5
            replace FR := FR.gro C G5
            replace FF := FF.gro C G5
            replace G := G.trans G5
            replace K3 := K3.gro G5
            clear C
            have C := C5
            clear C5
            clear G5
            try simp only [Act.put, List.setIfInBounds_toArray, List.set_cons_zero, List.set_cons_succ]
            refine wpAnyH_ready (rs := [10]) (by kernel_rfl) (by simp) ?_
            refine AllReadyH.cons (o := ⟨some 58, _, _, _, _, _⟩) rfl (fun K hK => ?_) AllReadyH.nil
            go_simp
            refine (cStr wd1c.heap.size 2 [⟨#[97]⟩, ⟨#[98]⟩] C rfl (by omega) (by omega) K3.1 (by have := K3.2.2; omega)).mono ?_; rintro e wd1c32cc ⟨⟨z3, rfl, _⟩, C5, G5⟩
            go_wp2_with fail
            refine hK.out _ _ ((Rb.gro G5).1) (fun hHeld => ?_)
            clear hK K
            clear K3
            replace R := R.gro G5
            replace Rb := Rb.gro G5
            replace hRw := hRw.gro G5
            replace S0 := S0.gro C G5
            replace O0 := O0.gro C G5
            replace FR := FR.gro C G5
            replace FF := FF.gro C G5
            replace G := G.trans G5
            clear C
            have C := C5
            clear C5
            clear G5
            try simp only [Act.put, List.setIfInBounds_toArray, List.set_cons_zero, List.set_cons_succ]
            refine wpAnyH_ready (rs := [11]) (by kernel_rfl) (by simp) ?_
            refine AllReadyH.cons (o := ⟨some 59, _, _, _, _, _⟩) rfl (fun K hK => ?_) AllReadyH.nil
            go_simp
            go_wp2_with fail
            refine hK.out _ _ (Rb.1.alloc (.cells #[.string z2, .string z3] 9)) (fun hHeld => ?_)
            clear hK K
            have hrbl := Rb.lt
            have K4 := Bx.new C 9 #[.string z2, .string z3]
            replace R := R.alloc (.cells #[.string z2, .string z3] 9)
            replace Rb := Rb.alloc (.cells #[.string z2, .string z3] 9)
            replace hRw := hRw.alloc (.cells #[.string z2, .string z3] 9)
            replace S0 := S0.alloc C (.cells #[.string z2, .string z3] 9)
            replace O0 := O0.alloc C (.cells #[.string z2, .string z3] 9)
            replace FR := FR.alloc C (.cells #[.string z2, .string z3] 9)
            replace FF := FF.alloc C (.cells #[.string z2, .string z3] 9)
            replace G := G.alloc (.cells #[.string z2, .string z3] 9)
            replace C := C.alloc (.cells #[.string z2, .string z3] 9)
            generalize wd1c32cc.alloc (.cells #[.string z2, .string z3] 9) = wd1c32ccy at R Rb hRw S0 O0 FR FF G K4 C hHeld ⊢
            try simp only [Act.put, List.setIfInBounds_toArray, List.set_cons_zero, List.set_cons_succ]
            refine wpAnyH_take (i := 12) (oi := ⟨some 60, _, _, _, _, _⟩) (v := ?_) rfl (by kernel_rfl) (by kernel_rfl) (by kernel_rfl) (fun _ _ _ h => h) (Or.inl ⟨by rfl, ?_⟩) (by assumption) ?_
            case refine_2 => (intro w hSw; skip; go_simp; first | done | with_reducible rfl)
            simp only [Act.put, List.setIfInBounds_toArray, List.set_cons_zero, List.set_cons_succ]
            refine wpAnyH_ready (rs := [13]) (by kernel_rfl) (by simp) ?_
            refine AllReadyH.cons (o := ⟨some 61, _, _, _, _, _⟩) rfl (fun K hK => ?_) AllReadyH.nil
            go_simp
            go_wp2_with fail
            refine hK.out _ _ (Rb.1.alloc (.cells #[.string z1, .slice (some ⟨wd1c32cc.heap.size, 0, none⟩) 2 2, .slice none 0 0] 59)) (fun hHeld => ?_)
            clear hK K
            try simp only [Act.put, List.setIfInBounds_toArray, List.set_cons_zero, List.set_cons_succ]
            refine wpAnyH_ready (rs := [14]) (by kernel_rfl) (by simp) ?_
            refine AllReadyH.cons (o := ⟨some 62, _, _, _, _, _⟩) rfl (fun K hK => ?_) AllReadyH.nil
            have hrbl2 := Rb.lt
            refine step_pushB (w := wd1c32ccy) rfl (.tmp 49) (.tmp 61) 35 rfl (w.heap.size + 1) 59 j0 (.agg #[.string ⟨#[]⟩, .slice none 0 0, .slice none 0 0]) 3 64 Try.underlying35 hj hy0 hy1 hy2 rfl (by decide) (Value.slice AF m.length cF) _ _ rfl FF.1.1.1 [.string z1, .slice (some ⟨wd1c32cc.heap.size, 0, none⟩) 2 2, .slice none 0 0] rfl rfl rfl (by have := FF.2.1.1; have := FF.2.2.1; omega) (by omega) (by omega) ?_
            intro v' w7 hO7 hg7 hv7
            obtain ⟨A7, c7, rfl⟩ := (Row.mk hO7).form
            have hu7 := FF.1.1.2.1
            have hb7 := fun k e => FF.1.1.lt k e
            have hm7 := FF.1.2
            have K4l := K4.lt
            have R7 := R.row hg7 (fun e => by have := hb7 _ e.symm; omega)
            have Rb7 := Rb.row hg7 (fun e => by have := hm7 _ e.symm; omega)
            have hRw7 := hRw.row hg7 (fun k e e2 => by have := hm7 _ e2; have := (hRw.lt _ e).1; omega)
            have S07 := S0.row C hg7 hu7
            have O07 := O0.row C hg7 hu7 (fun k e e2 => by have := hm7 _ e2; have := (O0.1.lt _ e).1; omega)
            have FR7 := FR.row C hg7 hu7
            have K47 := K4.row hg7 (fun e => by have := hm7 _ e.symm; omega)
            have FT7 := FF.2.1.row C hg7 hu7
            have O7 := FF.1.1.push C hO7 hv7
            have G7 := G.row hg7 (fun k e => by have := hb7 k e; omega)
            have C7 := C.row hg7 (fun k e => by have := hb7 k e; have := hC.lt; omega)
            have hg7s := hg7.size
            have hn7 : (Value.slice A7 (m.length + 1) c7).ownBlock ≠ some rb := fun e => by
              rcases hv7 with h7 | ⟨k7, h7, h8⟩
              · have := hm7 _ (h7 ▸ e); omega
              · rw [h7] at e; injection e with e; omega
            refine hK.out _ _ (Rb7.1) (fun hHeld => ?_)
            clear hK K
            try simp only [Act.put, List.setIfInBounds_toArray, List.set_cons_zero, List.set_cons_succ]
            refine wpAnyH_take (i := 15) (oi := ⟨some 63, _, _, _, _, _⟩) (v := ?_) rfl (by kernel_rfl) (by kernel_rfl) (by kernel_rfl) (fun _ _ _ h => h) (Or.inl ⟨by rfl, ?_⟩) (by assumption) ?_
            case refine_2 => (intro w hSw; skip; go_simp; first | done | with_reducible rfl)
            simp only [Act.put, List.setIfInBounds_toArray, List.set_cons_zero, List.set_cons_succ]
            refine wpAnyH_done (by kernel_rfl) ?_ _
            refine relQ_normal ?_
            refine wpOp_step (o := ⟨none, _, _, _, _, _⟩) rfl (fun K hK => ?_)
            have pc0 := Rb7.cell
            have pf0 := Rb7.frozen
            go_simp
            go_wp2_with fail
            go_meet
            have hgR7 := hRw7.lt gR rfl
            have hOl7 := fun k e => O7.lt k e
            have hb4R : (Value.slice (some ⟨gR, 0, none⟩) (lr.length + 1) cV).ownBlock ≠ some rb := fun e => by injection e with e; have e2 : gR = rb := e; omega
            exact addFn R7 Rb7 hRw7 S07 O07 FR7 K47 FT7 O7 C7 G7 ⟨by omega, by omega, by omega⟩ ⟨hb4R, fun e => by injection e with e; have e2 : gR = wd1c32cc.heap.size := e; omega, fun e => by injection e with e; have e2 : gR = w.heap.size := e; omega⟩ ⟨fun e => by have := h0h _ e; omega, fun e => by have := h0h _ e; omega, fun e => by have := (O07.1.lt _ e).1; omega⟩ ⟨hn7, fun e => by rcases hv7 with h7 | ⟨k7, h7, h8⟩; (have := hm7 _ (h7 ▸ e); omega); (rw [h7] at e; injection e with e; omega), fun e => by have := (hOl7 _ e).1; omega⟩ ⟨by omega, by omega, by omega, by have := G.sz; omega, by omega⟩ (by omega) (by have := HM2.out; omega) hx0 hA0 hLr FF.2.2.2
        · go_simp
          go_wp2_with fail
          refine hK.out _ _ (Rb.1.alloc (.cells #[.string ⟨#[97]⟩, .string ⟨#[116]⟩, .string ⟨#[102]⟩] 9)) (fun hHeld => ?_)
          clear hK K
          have K2 := Bx.new C 9 #[.string ⟨#[97]⟩, .string ⟨#[116]⟩, .string ⟨#[102]⟩]
          replace R := R.alloc (.cells #[.string ⟨#[97]⟩, .string ⟨#[116]⟩, .string ⟨#[102]⟩] 9)
          replace Rb := Rb.alloc (.cells #[.string ⟨#[97]⟩, .string ⟨#[116]⟩, .string ⟨#[102]⟩] 9)
          replace hRw := hRw.alloc (.cells #[.string ⟨#[97]⟩, .string ⟨#[116]⟩, .string ⟨#[102]⟩] 9)
          replace S0 := S0.alloc C (.cells #[.string ⟨#[97]⟩, .string ⟨#[116]⟩, .string ⟨#[102]⟩] 9)
          replace O0 := O0.alloc C (.cells #[.string ⟨#[97]⟩, .string ⟨#[116]⟩, .string ⟨#[102]⟩] 9)
          replace FR := FR.alloc C (.cells #[.string ⟨#[97]⟩, .string ⟨#[116]⟩, .string ⟨#[102]⟩] 9)
          replace FF := FF.alloc C (.cells #[.string ⟨#[97]⟩, .string ⟨#[116]⟩, .string ⟨#[102]⟩] 9)
          replace G := G.alloc (.cells #[.string ⟨#[97]⟩, .string ⟨#[116]⟩, .string ⟨#[102]⟩] 9)
          replace K1 := K1.alloc (.cells #[.string ⟨#[97]⟩, .string ⟨#[116]⟩, .string ⟨#[102]⟩] 9)
          replace C := C.alloc (.cells #[.string ⟨#[97]⟩, .string ⟨#[116]⟩, .string ⟨#[102]⟩] 9)
          generalize wd1.alloc (.cells #[.string ⟨#[97]⟩, .string ⟨#[116]⟩, .string ⟨#[102]⟩] 9) = wd12 at R Rb hRw S0 O0 FR FF G K1 K2 C hHeld ⊢
          try simp only [Act.put, List.setIfInBounds_toArray, List.set_cons_zero, List.set_cons_succ]
          refine wpAnyH_ready (rs := [4, 9]) (by kernel_rfl) (by simp) ?_
          refine AllReadyH.cons (o := ⟨some 52, _, _, _, _, _⟩) rfl (fun K hK => ?_) (AllReadyH.cons (o := ⟨some 57, _, _, _, _, _⟩) rfl (fun K hK => ?_) AllReadyH.nil)
          · go_simp
            refine (cStr wd.heap.size 5 [⟨#[102]⟩, ⟨#[104]⟩, ⟨#[]⟩, ⟨#[112, 114, 105, 110, 116]⟩, ⟨#[116]⟩] C rfl (by omega) (by omega) K1.1 (by have := K1.2.2; omega)).mono ?_; rintro e wd12c ⟨⟨z1, rfl, _⟩, C5, G5⟩
            go_wp2_with fail
            refine hK.out _ _ ((Rb.gro G5).1) (fun hHeld => ?_)
            clear hK K
            clear K1
            replace R := R.gro G5
            replace Rb := Rb.gro G5
            replace hRw := hRw.gro G5
            replace S0 := S0.gro C G5
            replace O0 := O0.gro C G5
            replace FR := FR.gro C G5
            replace FF := FF.gro C G5
            replace G := G.trans G5
            replace K2 := K2.gro G5
            clear C
            have C := C5
            clear C5
            clear G5
            try simp only [Act.put, List.setIfInBounds_toArray, List.set_cons_zero, List.set_cons_succ]
            refine wpAnyH_ready (rs := [7, 9]) (by kernel_rfl) (by simp) ?_
            refine AllReadyH.cons (o := ⟨some 55, _, _, _, _, _⟩) rfl (fun K hK => ?_) (AllReadyH.cons (o := ⟨some 57, _, _, _, _, _⟩) rfl (fun K hK => ?_) AllReadyH.nil)
            · go_simp
              refine (cStr wd1.heap.size 3 [⟨#[97]⟩, ⟨#[116]⟩, ⟨#[102]⟩] C rfl (by omega) (by omega) K2.1 (by have := K2.2.2; omega)).mono ?_; rintro e wd12cc ⟨⟨z2, rfl, _⟩, C5, G5⟩
              go_wp2_with fail
              refine hK.out _ _ ((Rb.gro G5).1) (fun hHeld => ?_)
              clear hK K
              clear K2
              replace R := R.gro G5
              replace Rb := Rb.gro G5
              replace hRw := hRw.gro G5
              replace S0 := S0.gro C G5
              replace O0 := O0.gro C G5
              replace FR := FR.gro C G5
              replace FF := FF.gro C G5
              replace G := G.trans G5
              clear C
              have C := C5
              clear C5
              clear G5
              try simp only [Act.put, List.setIfInBounds_toArray, List.set_cons_zero, List.set_cons_succ]
              refine wpAnyH_ready (rs := [9]) (by kernel_rfl) (by simp) ?_
              refine AllReadyH.cons (o := ⟨some 57, _, _, _, _, _⟩) rfl (fun K hK => ?_) AllReadyH.nil
              go_simp
              go_wp2_with fail
              refine hK.out _ _ (Rb.1.alloc (.cells #[.string ⟨#[97]⟩, .string ⟨#[98]⟩] 9)) (fun hHeld => ?_)
              clear hK K
              have K3 := Bx.new C 9 #[.string ⟨#[97]⟩, .string ⟨#[98]⟩]
              replace R := R.alloc (.cells #[.string ⟨#[97]⟩, .string ⟨#[98]⟩] 9)
              replace Rb := Rb.alloc (.cells #[.string ⟨#[97]⟩, .string ⟨#[98]⟩] 9)
              replace hRw := hRw.alloc (.cells #[.string ⟨#[97]⟩, .string ⟨#[98]⟩] 9)
              replace S0 := S0.alloc C (.cells #[.string ⟨#[97]⟩, .string ⟨#[98]⟩] 9)
              replace O0 := O0.alloc C (.cells #[.string ⟨#[97]⟩, .string ⟨#[98]⟩] 9)
              replace FR := FR.alloc C (.cells #[.string ⟨#[97]⟩, .string ⟨#[98]⟩] 9)
              replace FF := FF.alloc C (.cells #[.string ⟨#[97]⟩, .string ⟨#[98]⟩] 9)
              replace G := G.alloc (.cells #[.string ⟨#[97]⟩, .string ⟨#[98]⟩] 9)
              replace C := C.alloc (.cells #[.string ⟨#[97]⟩, .string ⟨#[98]⟩] 9)
              generalize wd12cc.alloc (.cells #[.string ⟨#[97]⟩, .string ⟨#[98]⟩] 9) = wd12cc3 at R Rb hRw S0 O0 FR FF G K3 C hHeld ⊢
              try simp only [Act.put, List.setIfInBounds_toArray, List.set_cons_zero, List.set_cons_succ]
              refine wpAnyH_ready (rs := [10]) (by kernel_rfl) (by simp) ?_
              refine AllReadyH.cons (o := ⟨some 58, _, _, _, _, _⟩) rfl (fun K hK => ?_) AllReadyH.nil
              go_simp
              refine (cStr wd12cc.heap.size 2 [⟨#[97]⟩, ⟨#[98]⟩] C rfl (by omega) (by omega) K3.1 (by have := K3.2.2; omega)).mono ?_; rintro e wd12cc3c ⟨⟨z3, rfl, _⟩, C5, G5⟩
              go_wp2_with fail
              refine hK.out _ _ ((Rb.gro G5).1) (fun hHeld => ?_)
              clear hK K
              clear K3
              replace R := R.gro G5
              replace Rb := Rb.gro G5
              replace hRw := hRw.gro G5
              replace S0 := S0.gro C G5
              replace O0 := O0.gro C G5
              replace FR := FR.gro C G5
              replace FF := FF.gro C G5
              replace G := G.trans G5
              clear C
              have C := C5
              clear C5
              clear G5
              try simp only [Act.put, List.setIfInBounds_toArray, List.set_cons_zero, List.set_cons_succ]
              refine wpAnyH_ready (rs := [11]) (by kernel_rfl) (by simp) ?_
              refine AllReadyH.cons (o := ⟨some 59, _, _, _, _, _⟩) rfl (fun K hK => ?_) AllReadyH.nil
              go_simp
              go_wp2_with fail
              refine hK.out _ _ (Rb.1.alloc (.cells #[.string z2, .string z3] 9)) (fun hHeld => ?_)
              clear hK K
              have hrbl := Rb.lt
              have K4 := Bx.new C 9 #[.string z2, .string z3]
              replace R := R.alloc (.cells #[.string z2, .string z3] 9)
              replace Rb := Rb.alloc (.cells #[.string z2, .string z3] 9)
              replace hRw := hRw.alloc (.cells #[.string z2, .string z3] 9)
              replace S0 := S0.alloc C (.cells #[.string z2, .string z3] 9)
              replace O0 := O0.alloc C (.cells #[.string z2, .string z3] 9)
              replace FR := FR.alloc C (.cells #[.string z2, .string z3] 9)
              replace FF := FF.alloc C (.cells #[.string z2, .string z3] 9)
              replace G := G.alloc (.cells #[.string z2, .string z3] 9)
              replace C := C.alloc (.cells #[.string z2, .string z3] 9)
              generalize wd12cc3c.alloc (.cells #[.string z2, .string z3] 9) = wd12cc3cy at R Rb hRw S0 O0 FR FF G K4 C hHeld ⊢
              try simp only [Act.put, List.setIfInBounds_toArray, List.set_cons_zero, List.set_cons_succ]
              refine wpAnyH_take (i := 12) (oi := ⟨some 60, _, _, _, _, _⟩) (v := ?_) rfl (by kernel_rfl) (by kernel_rfl) (by kernel_rfl) (fun _ _ _ h => h) (Or.inl ⟨by rfl, ?_⟩) (by assumption) ?_
              case refine_2 => (intro w hSw; skip; go_simp; first | done | with_reducible rfl)
              simp only [Act.put, List.setIfInBounds_toArray, List.set_cons_zero, List.set_cons_succ]
              refine wpAnyH_ready (rs := [13]) (by kernel_rfl) (by simp) ?_
              refine AllReadyH.cons (o := ⟨some 61, _, _, _, _, _⟩) rfl (fun K hK => ?_) AllReadyH.nil
              go_simp
              go_wp2_with fail
              refine hK.out _ _ (Rb.1.alloc (.cells #[.string z1, .slice (some ⟨wd12cc3c.heap.size, 0, none⟩) 2 2, .slice none 0 0] 59)) (fun hHeld => ?_)
              clear hK K
              try simp only [Act.put, List.setIfInBounds_toArray, List.set_cons_zero, List.set_cons_succ]
              refine wpAnyH_ready (rs := [14]) (by kernel_rfl) (by simp) ?_
              refine AllReadyH.cons (o := ⟨some 62, _, _, _, _, _⟩) rfl (fun K hK => ?_) AllReadyH.nil
              have hrbl2 := Rb.lt
              refine step_pushB (w := wd12cc3cy) rfl (.tmp 49) (.tmp 61) 35 rfl (w.heap.size + 1) 59 j0 (.agg #[.string ⟨#[]⟩, .slice none 0 0, .slice none 0 0]) 3 64 Try.underlying35 hj hy0 hy1 hy2 rfl (by decide) (Value.slice AF m.length cF) _ _ rfl FF.1.1.1 [.string z1, .slice (some ⟨wd12cc3c.heap.size, 0, none⟩) 2 2, .slice none 0 0] rfl rfl rfl (by have := FF.2.1.1; have := FF.2.2.1; omega) (by omega) (by omega) ?_
              intro v' w7 hO7 hg7 hv7
              obtain ⟨A7, c7, rfl⟩ := (Row.mk hO7).form
              have hu7 := FF.1.1.2.1
              have hb7 := fun k e => FF.1.1.lt k e
              have hm7 := FF.1.2
              have K4l := K4.lt
              have R7 := R.row hg7 (fun e => by have := hb7 _ e.symm; omega)
              have Rb7 := Rb.row hg7 (fun e => by have := hm7 _ e.symm; omega)
              have hRw7 := hRw.row hg7 (fun k e e2 => by have := hm7 _ e2; have := (hRw.lt _ e).1; omega)
              have S07 := S0.row C hg7 hu7
              have O07 := O0.row C hg7 hu7 (fun k e e2 => by have := hm7 _ e2; have := (O0.1.lt _ e).1; omega)
              have FR7 := FR.row C hg7 hu7
              have K47 := K4.row hg7 (fun e => by have := hm7 _ e.symm; omega)
              have FT7 := FF.2.1.row C hg7 hu7
              have O7 := FF.1.1.push C hO7 hv7
              have G7 := G.row hg7 (fun k e => by have := hb7 k e; omega)
              have C7 := C.row hg7 (fun k e => by have := hb7 k e; have := hC.lt; omega)
              have hg7s := hg7.size
              have hn7 : (Value.slice A7 (m.length + 1) c7).ownBlock ≠ some rb := fun e => by
                rcases hv7 with h7 | ⟨k7, h7, h8⟩
                · have := hm7 _ (h7 ▸ e); omega
                · rw [h7] at e; injection e with e; omega
              refine hK.out _ _ (Rb7.1) (fun hHeld => ?_)
              clear hK K
              try simp only [Act.put, List.setIfInBounds_toArray, List.set_cons_zero, List.set_cons_succ]
              refine wpAnyH_take (i := 15) (oi := ⟨some 63, _, _, _, _, _⟩) (v := ?_) rfl (by kernel_rfl) (by kernel_rfl) (by kernel_rfl) (fun _ _ _ h => h) (Or.inl ⟨by rfl, ?_⟩) (by assumption) ?_
              case refine_2 => (intro w hSw; skip; go_simp; first | done | with_reducible rfl)
              simp only [Act.put, List.setIfInBounds_toArray, List.set_cons_zero, List.set_cons_succ]
              refine wpAnyH_done (by kernel_rfl) ?_ _
              refine relQ_normal ?_
              refine wpOp_step (o := ⟨none, _, _, _, _, _⟩) rfl (fun K hK => ?_)
              have pc0 := Rb7.cell
              have pf0 := Rb7.frozen
              go_simp
              go_wp2_with fail
              go_meet
              have hgR7 := hRw7.lt gR rfl
              have hOl7 := fun k e => O7.lt k e
              have hb4R : (Value.slice (some ⟨gR, 0, none⟩) (lr.length + 1) cV).ownBlock ≠ some rb := fun e => by injection e with e; have e2 : gR = rb := e; omega
              exact addFn R7 Rb7 hRw7 S07 O07 FR7 K47 FT7 O7 C7 G7 ⟨by omega, by omega, by omega⟩ ⟨hb4R, fun e => by injection e with e; have e2 : gR = wd12cc3c.heap.size := e; omega, fun e => by injection e with e; have e2 : gR = w.heap.size := e; omega⟩ ⟨fun e => by have := h0h _ e; omega, fun e => by have := h0h _ e; omega, fun e => by have := (O07.1.lt _ e).1; omega⟩ ⟨hn7, fun e => by rcases hv7 with h7 | ⟨k7, h7, h8⟩; (have := hm7 _ (h7 ▸ e); omega); (rw [h7] at e; injection e with e; omega), fun e => by have := (hOl7 _ e).1; omega⟩ ⟨by omega, by omega, by omega, by have := G.sz; omega, by omega⟩ (by omega) (by have := HM2.out; omega) hx0 hA0 hLr FF.2.2.2
            · go_simp
              go_wp2_with fail
              refine hK.out _ _ (Rb.1.alloc (.cells #[.string ⟨#[97]⟩, .string ⟨#[98]⟩] 9)) (fun hHeld => ?_)
              clear hK K
              have K3 := Bx.new C 9 #[.string ⟨#[97]⟩, .string ⟨#[98]⟩]
              replace R := R.alloc (.cells #[.string ⟨#[97]⟩, .string ⟨#[98]⟩] 9)
              replace Rb := Rb.alloc (.cells #[.string ⟨#[97]⟩, .string ⟨#[98]⟩] 9)
              replace hRw := hRw.alloc (.cells #[.string ⟨#[97]⟩, .string ⟨#[98]⟩] 9)
              replace S0 := S0.alloc C (.cells #[.string ⟨#[97]⟩, .string ⟨#[98]⟩] 9)
              replace O0 := O0.alloc C (.cells #[.string ⟨#[97]⟩, .string ⟨#[98]⟩] 9)
              replace FR := FR.alloc C (.cells #[.string ⟨#[97]⟩, .string ⟨#[98]⟩] 9)
              replace FF := FF.alloc C (.cells #[.string ⟨#[97]⟩, .string ⟨#[98]⟩] 9)
              replace G := G.alloc (.cells #[.string ⟨#[97]⟩, .string ⟨#[98]⟩] 9)
              replace K2 := K2.alloc (.cells #[.string ⟨#[97]⟩, .string ⟨#[98]⟩] 9)
              replace C := C.alloc (.cells #[.string ⟨#[97]⟩, .string ⟨#[98]⟩] 9)
              generalize wd12c.alloc (.cells #[.string ⟨#[97]⟩, .string ⟨#[98]⟩] 9) = wd12c3 at R Rb hRw S0 O0 FR FF G K2 K3 C hHeld ⊢
              try simp only [Act.put, List.setIfInBounds_toArray, List.set_cons_zero, List.set_cons_succ]
              refine wpAnyH_ready (rs := [7]) (by kernel_rfl) (by simp) ?_
              refine AllReadyH.cons (o := ⟨some 55, _, _, _, _, _⟩) rfl (fun K hK => ?_) AllReadyH.nil
              go_simp
              refine (cStr wd1.heap.size 3 [⟨#[97]⟩, ⟨#[116]⟩, ⟨#[102]⟩] C rfl (by omega) (by omega) K2.1 (by have := K2.2.2; omega)).mono ?_; rintro e wd12c3c ⟨⟨z2, rfl, _⟩, C5, G5⟩
              go_wp2_with fail
              refine hK.out _ _ ((Rb.gro G5).1) (fun hHeld => ?_)
              clear hK K
              clear K2
              replace R := R.gro G5
              replace Rb := Rb.gro G5
              replace hRw := hRw.gro G5
              replace S0 := S0.gro C G5
              replace O0 := O0.gro C G5
              replace FR := FR.gro C G5
              replace FF := FF.gro C G5
              replace G := G.trans G5
              replace K3 := K3.gro G5
              clear C
              have C := C5
              clear C5
              clear G5
              try simp only [Act.put, List.setIfInBounds_toArray, List.set_cons_zero, List.set_cons_succ]
              refine wpAnyH_ready (rs := [10]) (by kernel_rfl) (by simp) ?_
              refine AllReadyH.cons (o := ⟨some 58, _, _, _, _, _⟩) rfl (fun K hK => ?_) AllReadyH.nil
              go_simp
              refine (cStr wd12c.heap.size 2 [⟨#[97]⟩, ⟨#[98]⟩] C rfl (by omega) (by omega) K3.1 (by have := K3.2.2; omega)).mono ?_; rintro e wd12c3cc ⟨⟨z3, rfl, _⟩, C5, G5⟩
              go_wp2_with fail
              refine hK.out _ _ ((Rb.gro G5).1) (fun hHeld => ?_)
              clear hK K
              clear K3
              replace R := R.gro G5
              replace Rb := Rb.gro G5
              replace hRw := hRw.gro G5
              replace S0 := S0.gro C G5
              replace O0 := O0.gro C G5
              replace FR := FR.gro C G5
              replace FF := FF.gro C G5
              replace G := G.trans G5
              clear C
              have C := C5
              clear C5
              clear G5
              try simp only [Act.put, List.setIfInBounds_toArray, List.set_cons_zero, List.set_cons_succ]
              refine wpAnyH_ready (rs := [11]) (by kernel_rfl) (by simp) ?_
              refine AllReadyH.cons (o := ⟨some 59, _, _, _, _, _⟩) rfl (fun K hK => ?_) AllReadyH.nil
              go_simp
              go_wp2_with fail
              refine hK.out _ _ (Rb.1.alloc (.cells #[.string z2, .string z3] 9)) (fun hHeld => ?_)
              clear hK K
              have hrbl := Rb.lt
              have K4 := Bx.new C 9 #[.string z2, .string z3]
              replace R := R.alloc (.cells #[.string z2, .string z3] 9)
              replace Rb := Rb.alloc (.cells #[.string z2, .string z3] 9)
              replace hRw := hRw.alloc (.cells #[.string z2, .string z3] 9)
              replace S0 := S0.alloc C (.cells #[.string z2, .string z3] 9)
              replace O0 := O0.alloc C (.cells #[.string z2, .string z3] 9)
              replace FR := FR.alloc C (.cells #[.string z2, .string z3] 9)
              replace FF := FF.alloc C (.cells #[.string z2, .string z3] 9)
              replace G := G.alloc (.cells #[.string z2, .string z3] 9)
              replace C := C.alloc (.cells #[.string z2, .string z3] 9)
              generalize wd12c3cc.alloc (.cells #[.string z2, .string z3] 9) = wd12c3ccy at R Rb hRw S0 O0 FR FF G K4 C hHeld ⊢
              try simp only [Act.put, List.setIfInBounds_toArray, List.set_cons_zero, List.set_cons_succ]
              refine wpAnyH_take (i := 12) (oi := ⟨some 60, _, _, _, _, _⟩) (v := ?_) rfl (by kernel_rfl) (by kernel_rfl) (by kernel_rfl) (fun _ _ _ h => h) (Or.inl ⟨by rfl, ?_⟩) (by assumption) ?_
              case refine_2 => (intro w hSw; skip; go_simp; first | done | with_reducible rfl)
              simp only [Act.put, List.setIfInBounds_toArray, List.set_cons_zero, List.set_cons_succ]
              refine wpAnyH_ready (rs := [13]) (by kernel_rfl) (by simp) ?_
              refine AllReadyH.cons (o := ⟨some 61, _, _, _, _, _⟩) rfl (fun K hK => ?_) AllReadyH.nil
              go_simp
              go_wp2_with fail
              refine hK.out _ _ (Rb.1.alloc (.cells #[.string z1, .slice (some ⟨wd12c3cc.heap.size, 0, none⟩) 2 2, .slice none 0 0] 59)) (fun hHeld => ?_)
              clear hK K
              try simp only [Act.put, List.setIfInBounds_toArray, List.set_cons_zero, List.set_cons_succ]
              refine wpAnyH_ready (rs := [14]) (by kernel_rfl) (by simp) ?_
              refine AllReadyH.cons (o := ⟨some 62, _, _, _, _, _⟩) rfl (fun K hK => ?_) AllReadyH.nil
              have hrbl2 := Rb.lt
              refine step_pushB (w := wd12c3ccy) rfl (.tmp 49) (.tmp 61) 35 rfl (w.heap.size + 1) 59 j0 (.agg #[.string ⟨#[]⟩, .slice none 0 0, .slice none 0 0]) 3 64 Try.underlying35 hj hy0 hy1 hy2 rfl (by decide) (Value.slice AF m.length cF) _ _ rfl FF.1.1.1 [.string z1, .slice (some ⟨wd12c3cc.heap.size, 0, none⟩) 2 2, .slice none 0 0] rfl rfl rfl (by have := FF.2.1.1; have := FF.2.2.1; omega) (by omega) (by omega) ?_
              intro v' w7 hO7 hg7 hv7
              obtain ⟨A7, c7, rfl⟩ := (Row.mk hO7).form
              have hu7 := FF.1.1.2.1
              have hb7 := fun k e => FF.1.1.lt k e
              have hm7 := FF.1.2
              have K4l := K4.lt
              have R7 := R.row hg7 (fun e => by have := hb7 _ e.symm; omega)
              have Rb7 := Rb.row hg7 (fun e => by have := hm7 _ e.symm; omega)
              have hRw7 := hRw.row hg7 (fun k e e2 => by have := hm7 _ e2; have := (hRw.lt _ e).1; omega)
              have S07 := S0.row C hg7 hu7
              have O07 := O0.row C hg7 hu7 (fun k e e2 => by have := hm7 _ e2; have := (O0.1.lt _ e).1; omega)
              have FR7 := FR.row C hg7 hu7
              have K47 := K4.row hg7 (fun e => by have := hm7 _ e.symm; omega)
              have FT7 := FF.2.1.row C hg7 hu7
              have O7 := FF.1.1.push C hO7 hv7
              have G7 := G.row hg7 (fun k e => by have := hb7 k e; omega)
              have C7 := C.row hg7 (fun k e => by have := hb7 k e; have := hC.lt; omega)
              have hg7s := hg7.size
              have hn7 : (Value.slice A7 (m.length + 1) c7).ownBlock ≠ some rb := fun e => by
                rcases hv7 with h7 | ⟨k7, h7, h8⟩
                · have := hm7 _ (h7 ▸ e); omega
                · rw [h7] at e; injection e with e; omega
              refine hK.out _ _ (Rb7.1) (fun hHeld => ?_)
              clear hK K
              try simp only [Act.put, List.setIfInBounds_toArray, List.set_cons_zero, List.set_cons_succ]
              refine wpAnyH_take (i := 15) (oi := ⟨some 63, _, _, _, _, _⟩) (v := ?_) rfl (by kernel_rfl) (by kernel_rfl) (by kernel_rfl) (fun _ _ _ h => h) (Or.inl ⟨by rfl, ?_⟩) (by assumption) ?_
              case refine_2 => (intro w hSw; skip; go_simp; first | done | with_reducible rfl)
              simp only [Act.put, List.setIfInBounds_toArray, List.set_cons_zero, List.set_cons_succ]
              refine wpAnyH_done (by kernel_rfl) ?_ _
              refine relQ_normal ?_
              refine wpOp_step (o := ⟨none, _, _, _, _, _⟩) rfl (fun K hK => ?_)
              have pc0 := Rb7.cell
              have pf0 := Rb7.frozen
              go_simp
              go_wp2_with fail
              go_meet
              have hgR7 := hRw7.lt gR rfl
              have hOl7 := fun k e => O7.lt k e
              have hb4R : (Value.slice (some ⟨gR, 0, none⟩) (lr.length + 1) cV).ownBlock ≠ some rb := fun e => by injection e with e; have e2 : gR = rb := e; omega
              exact addFn R7 Rb7 hRw7 S07 O07 FR7 K47 FT7 O7 C7 G7 ⟨by omega, by omega, by omega⟩ ⟨hb4R, fun e => by injection e with e; have e2 : gR = wd12c3cc.heap.size := e; omega, fun e => by injection e with e; have e2 : gR = w.heap.size := e; omega⟩ ⟨fun e => by have := h0h _ e; omega, fun e => by have := h0h _ e; omega, fun e => by have := (O07.1.lt _ e).1; omega⟩ ⟨hn7, fun e => by rcases hv7 with h7 | ⟨k7, h7, h8⟩; (have := hm7 _ (h7 ▸ e); omega); (rw [h7] at e; injection e with e; omega), fun e => by have := (hOl7 _ e).1; omega⟩ ⟨by omega, by omega, by omega, by have := G.sz; omega, by omega⟩ (by omega) (by have := HM2.out; omega) hx0 hA0 hLr FF.2.2.2
          · go_simp
            go_wp2_with fail
            refine hK.out _ _ (Rb.1.alloc (.cells #[.string ⟨#[97]⟩, .string ⟨#[98]⟩] 9)) (fun hHeld => ?_)
            clear hK K
            have K3 := Bx.new C 9 #[.string ⟨#[97]⟩, .string ⟨#[98]⟩]
            replace R := R.alloc (.cells #[.string ⟨#[97]⟩, .string ⟨#[98]⟩] 9)
            replace Rb := Rb.alloc (.cells #[.string ⟨#[97]⟩, .string ⟨#[98]⟩] 9)
            replace hRw := hRw.alloc (.cells #[.string ⟨#[97]⟩, .string ⟨#[98]⟩] 9)
            replace S0 := S0.alloc C (.cells #[.string ⟨#[97]⟩, .string ⟨#[98]⟩] 9)
            replace O0 := O0.alloc C (.cells #[.string ⟨#[97]⟩, .string ⟨#[98]⟩] 9)
            replace FR := FR.alloc C (.cells #[.string ⟨#[97]⟩, .string ⟨#[98]⟩] 9)
            replace FF := FF.alloc C (.cells #[.string ⟨#[97]⟩, .string ⟨#[98]⟩] 9)
            replace G := G.alloc (.cells #[.string ⟨#[97]⟩, .string ⟨#[98]⟩] 9)
            replace K1 := K1.alloc (.cells #[.string ⟨#[97]⟩, .string ⟨#[98]⟩] 9)
            replace K2 := K2.alloc (.cells #[.string ⟨#[97]⟩, .string ⟨#[98]⟩] 9)
            replace C := C.alloc (.cells #[.string ⟨#[97]⟩, .string ⟨#[98]⟩] 9)
            generalize wd12.alloc (.cells #[.string ⟨#[97]⟩, .string ⟨#[98]⟩] 9) = wd123 at R Rb hRw S0 O0 FR FF G K1 K2 K3 C hHeld ⊢
            try simp only [Act.put, List.setIfInBounds_toArray, List.set_cons_zero, List.set_cons_succ]
            refine wpAnyH_ready (rs := [4]) (by kernel_rfl) (by simp) ?_
            refine AllReadyH.cons (o := ⟨some 52, _, _, _, _, _⟩) rfl (fun K hK => ?_) AllReadyH.nil
            go_simp
            refine (cStr wd.heap.size 5 [⟨#[102]⟩, ⟨#[104]⟩, ⟨#[]⟩, ⟨#[112, 114, 105, 110, 116]⟩, ⟨#[116]⟩] C rfl (by omega) (by omega) K1.1 (by have := K1.2.2; omega)).mono ?_; rintro e wd123c ⟨⟨z1, rfl, _⟩, C5, G5⟩
            go_wp2_with fail
            refine hK.out _ _ ((Rb.gro G5).1) (fun hHeld => ?_)
            clear hK K
            clear K1
            replace R := R.gro G5
            replace Rb := Rb.gro G5
            replace hRw := hRw.gro G5
            replace S0 := S0.gro C G5
            replace O0 := O0.gro C G5
            replace FR := FR.gro C G5
            replace FF := FF.gro C G5
            replace G := G.trans G5
            replace K2 := K2.gro G5
            replace K3 := K3.gro G5
            clear C
            have C := C5
            clear C5
            clear G5
            try simp only [Act.put, List.setIfInBounds_toArray, List.set_cons_zero, List.set_cons_succ]
            refine wpAnyH_ready (rs := [7]) (by kernel_rfl) (by simp) ?_
            refine AllReadyH.cons (o := ⟨some 55, _, _, _, _, _⟩) rfl (fun K hK => ?_) AllReadyH.nil
            go_simp
            refine (cStr wd1.heap.size 3 [⟨#[97]⟩, ⟨#[116]⟩, ⟨#[102]⟩] C rfl (by omega) (by omega) K2.1 (by have := K2.2.2; omega)).mono ?_; rintro e wd123cc ⟨⟨z2, rfl, _⟩, C5, G5⟩
            go_wp2_with fail
            refine hK.out _ _ ((Rb.gro G5).1) (fun hHeld => ?_)
            clear hK K
            clear K2
            replace R := R.gro G5
            replace Rb := Rb.gro G5
            replace hRw := hRw.gro G5
            replace S0 := S0.gro C G5
            replace O0 := O0.gro C G5
            replace FR := FR.gro C G5
            replace FF := FF.gro C G5
            replace G := G.trans G5
            replace K3 := K3.gro G5
            clear C
            have C := C5
            clear C5
            clear G5
            try simp only [Act.put, List.setIfInBounds_toArray, List.set_cons_zero, List.set_cons_succ]
            refine wpAnyH_ready (rs := [10]) (by kernel_rfl) (by simp) ?_
            refine AllReadyH.cons (o := ⟨some 58, _, _, _, _, _⟩) rfl (fun K hK => ?_) AllReadyH.nil
            go_simp
            refine (cStr wd12.heap.size 2 [⟨#[97]⟩, ⟨#[98]⟩] C rfl (by omega) (by omega) K3.1 (by have := K3.2.2; omega)).mono ?_; rintro e wd123ccc ⟨⟨z3, rfl, _⟩, C5, G5⟩
            go_wp2_with fail
            refine hK.out _ _ ((Rb.gro G5).1) (fun hHeld => ?_)
            clear hK K
            clear K3
            replace R := R.gro G5
            replace Rb := Rb.gro G5
            replace hRw := hRw.gro G5
            replace S0 := S0.gro C G5
            replace O0 := O0.gro C G5
            replace FR := FR.gro C G5
            replace FF := FF.gro C G5
            replace G := G.trans G5
            clear C
            have C := C5
            clear C5
            clear G5
            try simp only [Act.put, List.setIfInBounds_toArray, List.set_cons_zero, List.set_cons_succ]
            refine wpAnyH_ready (rs := [11]) (by kernel_rfl) (by simp) ?_
            refine AllReadyH.cons (o := ⟨some 59, _, _, _, _, _⟩) rfl (fun K hK => ?_) AllReadyH.nil
            go_simp
            go_wp2_with fail
            refine hK.out _ _ (Rb.1.alloc (.cells #[.string z2, .string z3] 9)) (fun hHeld => ?_)
            clear hK K
            have hrbl := Rb.lt
            have K4 := Bx.new C 9 #[.string z2, .string z3]
            replace R := R.alloc (.cells #[.string z2, .string z3] 9)
            replace Rb := Rb.alloc (.cells #[.string z2, .string z3] 9)
            replace hRw := hRw.alloc (.cells #[.string z2, .string z3] 9)
            replace S0 := S0.alloc C (.cells #[.string z2, .string z3] 9)
            replace O0 := O0.alloc C (.cells #[.string z2, .string z3] 9)
            replace FR := FR.alloc C (.cells #[.string z2, .string z3] 9)
            replace FF := FF.alloc C (.cells #[.string z2, .string z3] 9)
            replace G := G.alloc (.cells #[.string z2, .string z3] 9)
            replace C := C.alloc (.cells #[.string z2, .string z3] 9)
            generalize wd123ccc.alloc (.cells #[.string z2, .string z3] 9) = wd123cccy at R Rb hRw S0 O0 FR FF G K4 C hHeld ⊢
            try simp only [Act.put, List.setIfInBounds_toArray, List.set_cons_zero, List.set_cons_succ]
            refine wpAnyH_take (i := 12) (oi := ⟨some 60, _, _, _, _, _⟩) (v := ?_) rfl (by kernel_rfl) (by kernel_rfl) (by kernel_rfl) (fun _ _ _ h => h) (Or.inl ⟨by rfl, ?_⟩) (by assumption) ?_
            case refine_2 => (intro w hSw; skip; go_simp; first | done | with_reducible rfl)
            simp only [Act.put, List.setIfInBounds_toArray, List.set_cons_zero, List.set_cons_succ]
            refine wpAnyH_ready (rs := [13]) (by kernel_rfl) (by simp) ?_
            refine AllReadyH.cons (o := ⟨some 61, _, _, _, _, _⟩) rfl (fun K hK => ?_) AllReadyH.nil
            go_simp
            go_wp2_with fail
            refine hK.out _ _ (Rb.1.alloc (.cells #[.string z1, .slice (some ⟨wd123ccc.heap.size, 0, none⟩) 2 2, .slice none 0 0] 59)) (fun hHeld => ?_)
            clear hK K
            try simp only [Act.put, List.setIfInBounds_toArray, List.set_cons_zero, List.set_cons_succ]
            refine wpAnyH_ready (rs := [14]) (by kernel_rfl) (by simp) ?_
            refine AllReadyH.cons (o := ⟨some 62, _, _, _, _, _⟩) rfl (fun K hK => ?_) AllReadyH.nil
            have hrbl2 := Rb.lt
            refine step_pushB (w := wd123cccy) rfl (.tmp 49) (.tmp 61) 35 rfl (w.heap.size + 1) 59 j0 (.agg #[.string ⟨#[]⟩, .slice none 0 0, .slice none 0 0]) 3 64 Try.underlying35 hj hy0 hy1 hy2 rfl (by decide) (Value.slice AF m.length cF) _ _ rfl FF.1.1.1 [.string z1, .slice (some ⟨wd123ccc.heap.size, 0, none⟩) 2 2, .slice none 0 0] rfl rfl rfl (by have := FF.2.1.1; have := FF.2.2.1; omega) (by omega) (by omega) ?_
            intro v' w7 hO7 hg7 hv7
            obtain ⟨A7, c7, rfl⟩ := (Row.mk hO7).form
            have hu7 := FF.1.1.2.1
            have hb7 := fun k e => FF.1.1.lt k e
            have hm7 := FF.1.2
            have K4l := K4.lt
            have R7 := R.row hg7 (fun e => by have := hb7 _ e.symm; omega)
            have Rb7 := Rb.row hg7 (fun e => by have := hm7 _ e.symm; omega)
            have hRw7 := hRw.row hg7 (fun k e e2 => by have := hm7 _ e2; have := (hRw.lt _ e).1; omega)
            have S07 := S0.row C hg7 hu7
            have O07 := O0.row C hg7 hu7 (fun k e e2 => by have := hm7 _ e2; have := (O0.1.lt _ e).1; omega)
            have FR7 := FR.row C hg7 hu7
            have K47 := K4.row hg7 (fun e => by have := hm7 _ e.symm; omega)
            have FT7 := FF.2.1.row C hg7 hu7
            have O7 := FF.1.1.push C hO7 hv7
            have G7 := G.row hg7 (fun k e => by have := hb7 k e; omega)
            have C7 := C.row hg7 (fun k e => by have := hb7 k e; have := hC.lt; omega)
            have hg7s := hg7.size
            have hn7 : (Value.slice A7 (m.length + 1) c7).ownBlock ≠ some rb := fun e => by
              rcases hv7 with h7 | ⟨k7, h7, h8⟩
              · have := hm7 _ (h7 ▸ e); omega
              · rw [h7] at e; injection e with e; omega
            refine hK.out _ _ (Rb7.1) (fun hHeld => ?_)
            clear hK K
            try simp only [Act.put, List.setIfInBounds_toArray, List.set_cons_zero, List.set_cons_succ]
            refine wpAnyH_take (i := 15) (oi := ⟨some 63, _, _, _, _, _⟩) (v := ?_) rfl (by kernel_rfl) (by kernel_rfl) (by kernel_rfl) (fun _ _ _ h => h) (Or.inl ⟨by rfl, ?_⟩) (by assumption) ?_
            case refine_2 => (intro w hSw; skip; go_simp; first | done | with_reducible rfl)
            simp only [Act.put, List.setIfInBounds_toArray, List.set_cons_zero, List.set_cons_succ]
            refine wpAnyH_done (by kernel_rfl) ?_ _
            refine relQ_normal ?_
            refine wpOp_step (o := ⟨none, _, _, _, _, _⟩) rfl (fun K hK => ?_)
            have pc0 := Rb7.cell
            have pf0 := Rb7.frozen
            go_simp
            go_wp2_with fail
            go_meet
            have hgR7 := hRw7.lt gR rfl
            have hOl7 := fun k e => O7.lt k e
            have hb4R : (Value.slice (some ⟨gR, 0, none⟩) (lr.length + 1) cV).ownBlock ≠ some rb := fun e => by injection e with e; have e2 : gR = rb := e; omega
            exact addFn R7 Rb7 hRw7 S07 O07 FR7 K47 FT7 O7 C7 G7 ⟨by omega, by omega, by omega⟩ ⟨hb4R, fun e => by injection e with e; have e2 : gR = wd123ccc.heap.size := e; omega, fun e => by injection e with e; have e2 : gR = w.heap.size := e; omega⟩ ⟨fun e => by have := h0h _ e; omega, fun e => by have := h0h _ e; omega, fun e => by have := (O07.1.lt _ e).1; omega⟩ ⟨hn7, fun e => by rcases hv7 with h7 | ⟨k7, h7, h8⟩; (have := hm7 _ (h7 ▸ e); omega); (rw [h7] at e; injection e with e; omega), fun e => by have := (hOl7 _ e).1; omega⟩ ⟨by omega, by omega, by omega, by have := G.sz; omega, by omega⟩ (by omega) (by have := HM2.out; omega) hx0 hA0 hLr FF.2.2.2
        · go_simp
          go_wp2_with fail
          refine hK.out _ _ (Rb.1.alloc (.cells #[.string ⟨#[97]⟩, .string ⟨#[98]⟩] 9)) (fun hHeld => ?_)
          clear hK K
          have K3 := Bx.new C 9 #[.string ⟨#[97]⟩, .string ⟨#[98]⟩]
          replace R := R.alloc (.cells #[.string ⟨#[97]⟩, .string ⟨#[98]⟩] 9)
          replace Rb := Rb.alloc (.cells #[.string ⟨#[97]⟩, .string ⟨#[98]⟩] 9)
          replace hRw := hRw.alloc (.cells #[.string ⟨#[97]⟩, .string ⟨#[98]⟩] 9)
          replace S0 := S0.alloc C (.cells #[.string ⟨#[97]⟩, .string ⟨#[98]⟩] 9)
          replace O0 := O0.alloc C (.cells #[.string ⟨#[97]⟩, .string ⟨#[98]⟩] 9)
          replace FR := FR.alloc C (.cells #[.string ⟨#[97]⟩, .string ⟨#[98]⟩] 9)
          replace FF := FF.alloc C (.cells #[.string ⟨#[97]⟩, .string ⟨#[98]⟩] 9)
          replace G := G.alloc (.cells #[.string ⟨#[97]⟩, .string ⟨#[98]⟩] 9)
          replace K1 := K1.alloc (.cells #[.string ⟨#[97]⟩, .string ⟨#[98]⟩] 9)
          replace C := C.alloc (.cells #[.string ⟨#[97]⟩, .string ⟨#[98]⟩] 9)
          generalize wd1.alloc (.cells #[.string ⟨#[97]⟩, .string ⟨#[98]⟩] 9) = wd13 at R Rb hRw S0 O0 FR FF G K1 K3 C hHeld ⊢
          try simp only [Act.put, List.setIfInBounds_toArray, List.set_cons_zero, List.set_cons_succ]
          refine wpAnyH_ready (rs := [4, 6]) (by kernel_rfl) (by simp) ?_
          refine AllReadyH.cons (o := ⟨some 52, _, _, _, _, _⟩) rfl (fun K hK => ?_) (AllReadyH.cons (o := ⟨some 54, _, _, _, _, _⟩) rfl (fun K hK => ?_) AllReadyH.nil)
          · go_simp
            refine (cStr wd.heap.size 5 [⟨#[102]⟩, ⟨#[104]⟩, ⟨#[]⟩, ⟨#[112, 114, 105, 110, 116]⟩, ⟨#[116]⟩] C rfl (by omega) (by omega) K1.1 (by have := K1.2.2; omega)).mono ?_; rintro e wd13c ⟨⟨z1, rfl, _⟩, C5, G5⟩
            go_wp2_with fail
            refine hK.out _ _ ((Rb.gro G5).1) (fun hHeld => ?_)
            clear hK K
            clear K1
            replace R := R.gro G5
            replace Rb := Rb.gro G5
            replace hRw := hRw.gro G5
            replace S0 := S0.gro C G5
            replace O0 := O0.gro C G5
            replace FR := FR.gro C G5
            replace FF := FF.gro C G5
            replace G := G.trans G5
            replace K3 := K3.gro G5
            clear C
            have C := C5
            clear C5
            clear G5
            try simp only [Act.put, List.setIfInBounds_toArray, List.set_cons_zero, List.set_cons_succ]
            refine wpAnyH_ready (rs := [6]) (by kernel_rfl) (by simp) ?_
            refine AllReadyH.cons (o := ⟨some 54, _, _, _, _, _⟩) rfl (fun K hK => ?_) AllReadyH.nil
            go_simp
            go_wp2_with fail
            refine hK.out _ _ (Rb.1.alloc (.cells #[.string ⟨#[97]⟩, .string ⟨#[116]⟩, .string ⟨#[102]⟩] 9)) (fun hHeld => ?_)
            clear hK K
            have K2 := Bx.new C 9 #[.string ⟨#[97]⟩, .string ⟨#[116]⟩, .string ⟨#[102]⟩]
            replace R := R.alloc (.cells #[.string ⟨#[97]⟩, .string ⟨#[116]⟩, .string ⟨#[102]⟩] 9)
            replace Rb := Rb.alloc (.cells #[.string ⟨#[97]⟩, .string ⟨#[116]⟩, .string ⟨#[102]⟩] 9)
            replace hRw := hRw.alloc (.cells #[.string ⟨#[97]⟩, .string ⟨#[116]⟩, .string ⟨#[102]⟩] 9)
            replace S0 := S0.alloc C (.cells #[.string ⟨#[97]⟩, .string ⟨#[116]⟩, .string ⟨#[102]⟩] 9)
            replace O0 := O0.alloc C (.cells #[.string ⟨#[97]⟩, .string ⟨#[116]⟩, .string ⟨#[102]⟩] 9)
            replace FR := FR.alloc C (.cells #[.string ⟨#[97]⟩, .string ⟨#[116]⟩, .string ⟨#[102]⟩] 9)
            replace FF := FF.alloc C (.cells #[.string ⟨#[97]⟩, .string ⟨#[116]⟩, .string ⟨#[102]⟩] 9)
            replace G := G.alloc (.cells #[.string ⟨#[97]⟩, .string ⟨#[116]⟩, .string ⟨#[102]⟩] 9)
            replace K3 := K3.alloc (.cells #[.string ⟨#[97]⟩, .string ⟨#[116]⟩, .string ⟨#[102]⟩] 9)
            replace C := C.alloc (.cells #[.string ⟨#[97]⟩, .string ⟨#[116]⟩, .string ⟨#[102]⟩] 9)
            generalize wd13c.alloc (.cells #[.string ⟨#[97]⟩, .string ⟨#[116]⟩, .string ⟨#[102]⟩] 9) = wd13c2 at R Rb hRw S0 O0 FR FF G K3 K2 C hHeld ⊢
            try simp only [Act.put, List.setIfInBounds_toArray, List.set_cons_zero, List.set_cons_succ]
            refine wpAnyH_ready (rs := [7]) (by kernel_rfl) (by simp) ?_
            refine AllReadyH.cons (o := ⟨some 55, _, _, _, _, _⟩) rfl (fun K hK => ?_) AllReadyH.nil
            go_simp
            refine (cStr wd13c.heap.size 3 [⟨#[97]⟩, ⟨#[116]⟩, ⟨#[102]⟩] C rfl (by omega) (by omega) K2.1 (by have := K2.2.2; omega)).mono ?_; rintro e wd13c2c ⟨⟨z2, rfl, _⟩, C5, G5⟩
            go_wp2_with fail
            refine hK.out _ _ ((Rb.gro G5).1) (fun hHeld => ?_)
            clear hK K
            clear K2
            replace R := R.gro G5
            replace Rb := Rb.gro G5
            replace hRw := hRw.gro G5
            replace S0 := S0.gro C G5
            replace O0 := O0.gro C G5
            replace FR := FR.gro C G5
            replace FF := FF.gro C G5
            replace G := G.trans G5
            replace K3 := K3.gro G5
            clear C
            have C := C5
            clear C5
            clear G5
            try simp only [Act.put, List.setIfInBounds_toArray, List.set_cons_zero, List.set_cons_succ]
            refine wpAnyH_ready (rs := [10]) (by kernel_rfl) (by simp) ?_
            refine AllReadyH.cons (o := ⟨some 58, _, _, _, _, _⟩) rfl (fun K hK => ?_) AllReadyH.nil
            go_simp
            refine (cStr wd1.heap.size 2 [⟨#[97]⟩, ⟨#[98]⟩] C rfl (by omega) (by omega) K3.1 (by have := K3.2.2; omega)).mono ?_; rintro e wd13c2cc ⟨⟨z3, rfl, _⟩, C5, G5⟩
            go_wp2_with fail
            refine hK.out _ _ ((Rb.gro G5).1) (fun hHeld => ?_)
            clear hK K
            clear K3
            replace R := R.gro G5
            replace Rb := Rb.gro G5
            replace hRw := hRw.gro G5
            replace S0 := S0.gro C G5
            replace O0 := O0.gro C G5
            replace FR := FR.gro C G5
            replace FF := FF.gro C G5
            replace G := G.trans G5
            clear C
            have C := C5
            clear C5
            clear G5
            try simp only [Act.put, List.setIfInBounds_toArray, List.set_cons_zero, List.set_cons_succ]
            refine wpAnyH_ready (rs := [11]) (by kernel_rfl) (by simp) ?_
            refine AllReadyH.cons (o := ⟨some 59, _, _, _, _, _⟩) rfl (fun K hK => ?_) AllReadyH.nil
            go_simp
            go_wp2_with fail
            refine hK.out _ _ (Rb.1.alloc (.cells #[.string z2, .string z3] 9)) (fun hHeld => ?_)
            clear hK K
            have hrbl := Rb.lt
            have K4 := Bx.new C 9 #[.string z2, .string z3]
            replace R := R.alloc (.cells #[.string z2, .string z3] 9)
            replace Rb := Rb.alloc (.cells #[.string z2, .string z3] 9)
            replace hRw := hRw.alloc (.cells #[.string z2, .string z3] 9)
            replace S0 := S0.alloc C (.cells #[.string z2, .string z3] 9)
            replace O0 := O0.alloc C (.cells #[.string z2, .string z3] 9)
            replace FR := FR.alloc C (.cells #[.string z2, .string z3] 9)
            replace FF := FF.alloc C (.cells #[.string z2, .string z3] 9)
            replace G := G.alloc (.cells #[.string z2, .string z3] 9)
            replace C := C.alloc (.cells #[.string z2, .string z3] 9)
            generalize wd13c2cc.alloc (.cells #[.string z2, .string z3] 9) = wd13c2ccy at R Rb hRw S0 O0 FR FF G K4 C hHeld ⊢
            try simp only [Act.put, List.setIfInBounds_toArray, List.set_cons_zero, List.set_cons_succ]
            refine wpAnyH_take (i := 12) (oi := ⟨some 60, _, _, _, _, _⟩) (v := ?_) rfl (by kernel_rfl) (by kernel_rfl) (by kernel_rfl) (fun _ _ _ h => h) (Or.inl ⟨by rfl, ?_⟩) (by assumption) ?_
            case refine_2 => (intro w hSw; skip; go_simp; first | done | with_reducible rfl)
            simp only [Act.put, List.setIfInBounds_toArray, List.set_cons_zero, List.set_cons_succ]
            refine wpAnyH_ready (rs := [13]) (by kernel_rfl) (by simp) ?_
            refine AllReadyH.cons (o := ⟨some 61, _, _, _, _, _⟩) rfl (fun K hK => ?_) AllReadyH.nil
            go_simp
            go_wp2_with fail
            refine hK.out _ _ (Rb.1.alloc (.cells #[.string z1, .slice (some ⟨wd13c2cc.heap.size, 0, none⟩) 2 2, .slice none 0 0] 59)) (fun hHeld => ?_)
            clear hK K
            try simp only [Act.put, List.setIfInBounds_toArray, List.set_cons_zero, List.set_cons_succ]
            refine wpAnyH_ready (rs := [14]) (by kernel_rfl) (by simp) ?_
            refine AllReadyH.cons (o := ⟨some 62, _, _, _, _, _⟩) rfl (fun K hK => ?_) AllReadyH.nil
            have hrbl2 := Rb.lt
            refine step_pushB (w := wd13c2ccy) rfl (.tmp 49) (.tmp 61) 35 rfl (w.heap.size + 1) 59 j0 (.agg #[.string ⟨#[]⟩, .slice none 0 0, .slice none 0 0]) 3 64 Try.underlying35 hj hy0 hy1 hy2 rfl (by decide) (Value.slice AF m.length cF) _ _ rfl FF.1.1.1 [.string z1, .slice (some ⟨wd13c2cc.heap.size, 0, none⟩) 2 2, .slice none 0 0] rfl rfl rfl (by have := FF.2.1.1; have := FF.2.2.1; omega) (by omega) (by omega) ?_
            intro v' w7 hO7 hg7 hv7
            obtain ⟨A7, c7, rfl⟩ := (Row.mk hO7).form
            have hu7 := FF.1.1.2.1
            have hb7 := fun k e => FF.1.1.lt k e
            have hm7 := FF.1.2
            have K4l := K4.lt
            have R7 := R.row hg7 (fun e => by have := hb7 _ e.symm; omega)
            have Rb7 := Rb.row hg7 (fun e => by have := hm7 _ e.symm; omega)
            have hRw7 := hRw.row hg7 (fun k e e2 => by have := hm7 _ e2; have := (hRw.lt _ e).1; omega)
            have S07 := S0.row C hg7 hu7
            have O07 := O0.row C hg7 hu7 (fun k e e2 => by have := hm7 _ e2; have := (O0.1.lt _ e).1; omega)
            have FR7 := FR.row C hg7 hu7
            have K47 := K4.row hg7 (fun e => by have := hm7 _ e.symm; omega)
            have FT7 := FF.2.1.row C hg7 hu7
            have O7 := FF.1.1.push C hO7 hv7
            have G7 := G.row hg7 (fun k e => by have := hb7 k e; omega)
            have C7 := C.row hg7 (fun k e => by have := hb7 k e; have := hC.lt; omega)
            have hg7s := hg7.size
            have hn7 : (Value.slice A7 (m.length + 1) c7).ownBlock ≠ some rb := fun e => by
              rcases hv7 with h7 | ⟨k7, h7, h8⟩
              · have := hm7 _ (h7 ▸ e); omega
              · rw [h7] at e; injection e with e; omega
            refine hK.out _ _ (Rb7.1) (fun hHeld => ?_)
            clear hK K
            try simp only [Act.put, List.setIfInBounds_toArray, List.set_cons_zero, List.set_cons_succ]
            refine wpAnyH_take (i := 15) (oi := ⟨some 63, _, _, _, _, _⟩) (v := ?_) rfl (by kernel_rfl) (by kernel_rfl) (by kernel_rfl) (fun _ _ _ h => h) (Or.inl ⟨by rfl, ?_⟩) (by assumption) ?_
            case refine_2 => (intro w hSw; skip; go_simp; first | done | with_reducible rfl)
            simp only [Act.put, List.setIfInBounds_toArray, List.set_cons_zero, List.set_cons_succ]
            refine wpAnyH_done (by kernel_rfl) ?_ _
            refine relQ_normal ?_
            refine wpOp_step (o := ⟨none, _, _, _, _, _⟩) rfl (fun K hK => ?_)
            have pc0 := Rb7.cell
            have pf0 := Rb7.frozen
            go_simp
            go_wp2_with fail
            go_meet
            have hgR7 := hRw7.lt gR rfl
            have hOl7 := fun k e => O7.lt k e
            have hb4R : (Value.slice (some ⟨gR, 0, none⟩) (lr.length + 1) cV).ownBlock ≠ some rb := fun e => by injection e with e; have e2 : gR = rb := e; omega
            exact addFn R7 Rb7 hRw7 S07 O07 FR7 K47 FT7 O7 C7 G7 ⟨by omega, by omega, by omega⟩ ⟨hb4R, fun e => by injection e with e; have e2 : gR = wd13c2cc.heap.size := e; omega, fun e => by injection e with e; have e2 : gR = w.heap.size := e; omega⟩ ⟨fun e => by have := h0h _ e; omega, fun e => by have := h0h _ e; omega, fun e => by have := (O07.1.lt _ e).1; omega⟩ ⟨hn7, fun e => by rcases hv7 with h7 | ⟨k7, h7, h8⟩; (have := hm7 _ (h7 ▸ e); omega); (rw [h7] at e; injection e with e; omega), fun e => by have := (hOl7 _ e).1; omega⟩ ⟨by omega, by omega, by omega, by have := G.sz; omega, by omega⟩ (by omega) (by have := HM2.out; omega) hx0 hA0 hLr FF.2.2.2
          · go_simp
            go_wp2_with fail
            refine hK.out _ _ (Rb.1.alloc (.cells #[.string ⟨#[97]⟩, .string ⟨#[116]⟩, .string ⟨#[102]⟩] 9)) (fun hHeld => ?_)
            clear hK K
            have K2 := Bx.new C 9 #[.string ⟨#[97]⟩, .string ⟨#[116]⟩, .string ⟨#[102]⟩]
            replace R := R.alloc (.cells #[.string ⟨#[97]⟩, .string ⟨#[116]⟩, .string ⟨#[102]⟩] 9)
            replace Rb := Rb.alloc (.cells #[.string ⟨#[97]⟩, .string ⟨#[116]⟩, .string ⟨#[102]⟩] 9)
            replace hRw := hRw.alloc (.cells #[.string ⟨#[97]⟩, .string ⟨#[116]⟩, .string ⟨#[102]⟩] 9)
            replace S0 := S0.alloc C (.cells #[.string ⟨#[97]⟩, .string ⟨#[116]⟩, .string ⟨#[102]⟩] 9)
            replace O0 := O0.alloc C (.cells #[.string ⟨#[97]⟩, .string ⟨#[116]⟩, .string ⟨#[102]⟩] 9)
            replace FR := FR.alloc C (.cells #[.string ⟨#[97]⟩, .string ⟨#[116]⟩, .string ⟨#[102]⟩] 9)
            replace FF := FF.alloc C (.cells #[.string ⟨#[97]⟩, .string ⟨#[116]⟩, .string ⟨#[102]⟩] 9)
            replace G := G.alloc (.cells #[.string ⟨#[97]⟩, .string ⟨#[116]⟩, .string ⟨#[102]⟩] 9)
            replace K1 := K1.alloc (.cells #[.string ⟨#[97]⟩, .string ⟨#[116]⟩, .string ⟨#[102]⟩] 9)
            replace K3 := K3.alloc (.cells #[.string ⟨#[97]⟩, .string ⟨#[116]⟩, .string ⟨#[102]⟩] 9)
            replace C := C.alloc (.cells #[.string ⟨#[97]⟩, .string ⟨#[116]⟩, .string ⟨#[102]⟩] 9)
            generalize wd13.alloc (.cells #[.string ⟨#[97]⟩, .string ⟨#[116]⟩, .string ⟨#[102]⟩] 9) = wd132 at R Rb hRw S0 O0 FR FF G K1 K3 K2 C hHeld ⊢
            try simp only [Act.put, List.setIfInBounds_toArray, List.set_cons_zero, List.set_cons_succ]
            refine wpAnyH_ready (rs := [4]) (by kernel_rfl) (by simp) ?_
            refine AllReadyH.cons (o := ⟨some 52, _, _, _, _, _⟩) rfl (fun K hK => ?_) AllReadyH.nil
            go_simp
            refine (cStr wd.heap.size 5 [⟨#[102]⟩, ⟨#[104]⟩, ⟨#[]⟩, ⟨#[112, 114, 105, 110, 116]⟩, ⟨#[116]⟩] C rfl (by omega) (by omega) K1.1 (by have := K1.2.2; omega)).mono ?_; rintro e wd132c ⟨⟨z1, rfl, _⟩, C5, G5⟩
            go_wp2_with fail
            refine hK.out _ _ ((Rb.gro G5).1) (fun hHeld => ?_)
            clear hK K
            clear K1
            replace R := R.gro G5
            replace Rb := Rb.gro G5
            replace hRw := hRw.gro G5
            replace S0 := S0.gro C G5
            replace O0 := O0.gro C G5
            replace FR := FR.gro C G5
            replace FF := FF.gro C G5
            replace G := G.trans G5
            replace K3 := K3.gro G5
            replace K2 := K2.gro G5
            clear C
            have C := C5
            clear C5
            clear G5
            try simp only [Act.put, List.setIfInBounds_toArray, List.set_cons_zero, List.set_cons_succ]
            refine wpAnyH_ready (rs := [7]) (by kernel_rfl) (by simp) ?_
            refine AllReadyH.cons (o := ⟨some 55, _, _, _, _, _⟩) rfl (fun K hK => ?_) AllReadyH.nil
            go_simp
            refine (cStr wd13.heap.size 3 [⟨#[97]⟩, ⟨#[116]⟩, ⟨#[102]⟩] C rfl (by omega) (by omega) K2.1 (by have := K2.2.2; omega)).mono ?_; rintro e wd132cc ⟨⟨z2, rfl, _⟩, C5, G5⟩
            go_wp2_with fail
            refine hK.out _ _ ((Rb.gro G5).1) (fun hHeld => ?_)
            clear hK K
            clear K2
            replace R := R.gro G5
            replace Rb := Rb.gro G5
            replace hRw := hRw.gro G5
            replace S0 := S0.gro C G5
            replace O0 := O0.gro C G5
            replace FR := FR.gro C G5
            replace FF := FF.gro C G5
            replace G := G.trans G5
            replace K3 := K3.gro G5
            clear C
            have C := C5
            clear C5
            clear G5
            try simp only [Act.put, List.setIfInBounds_toArray, List.set_cons_zero, List.set_cons_succ]
            refine wpAnyH_ready (rs := [10]) (by kernel_rfl) (by simp) ?_
            refine AllReadyH.cons (o := ⟨some 58, _, _, _, _, _⟩) rfl (fun K hK => ?_) AllReadyH.nil
            go_simp
            refine (cStr wd1.heap.size 2 [⟨#[97]⟩, ⟨#[98]⟩] C rfl (by omega) (by omega) K3.1 (by have := K3.2.2; omega)).mono ?_; rintro e wd132ccc ⟨⟨z3, rfl, _⟩, C5, G5⟩
            go_wp2_with fail
            refine hK.out _ _ ((Rb.gro G5).1) (fun hHeld => ?_)
            clear hK K
            clear K3
            replace R := R.gro G5
            replace Rb := Rb.gro G5
            replace hRw := hRw.gro G5
            replace S0 := S0.gro C G5
            replace O0 := O0.gro C G5
            replace FR := FR.gro C G5
            replace FF := FF.gro C G5
            replace G := G.trans G5
            clear C
            have C := C5
            clear C5
            clear G5
            try simp only [Act.put, List.setIfInBounds_toArray, List.set_cons_zero, List.set_cons_succ]
            refine wpAnyH_ready (rs := [11]) (by kernel_rfl) (by simp) ?_
            refine AllReadyH.cons (o := ⟨some 59, _, _, _, _, _⟩) rfl (fun K hK => ?_) AllReadyH.nil
            go_simp
            go_wp2_with fail
            refine hK.out _ _ (Rb.1.alloc (.cells #[.string z2, .string z3] 9)) (fun hHeld => ?_)
            clear hK K
            have hrbl := Rb.lt
            have K4 := Bx.new C 9 #[.string z2, .string z3]
            replace R := R.alloc (.cells #[.string z2, .string z3] 9)
            replace Rb := Rb.alloc (.cells #[.string z2, .string z3] 9)
            replace hRw := hRw.alloc (.cells #[.string z2, .string z3] 9)
            replace S0 := S0.alloc C (.cells #[.string z2, .string z3] 9)
            replace O0 := O0.alloc C (.cells #[.string z2, .string z3] 9)
            replace FR := FR.alloc C (.cells #[.string z2, .string z3] 9)
            replace FF := FF.alloc C (.cells #[.string z2, .string z3] 9)
            replace G := G.alloc (.cells #[.string z2, .string z3] 9)
            replace C := C.alloc (.cells #[.string z2, .string z3] 9)
            generalize wd132ccc.alloc (.cells #[.string z2, .string z3] 9) = wd132cccy at R Rb hRw S0 O0 FR FF G K4 C hHeld ⊢
            try simp only [Act.put, List.setIfInBounds_toArray, List.set_cons_zero, List.set_cons_succ]
            refine wpAnyH_take (i := 12) (oi := ⟨some 60, _, _, _, _, _⟩) (v := ?_) rfl (by kernel_rfl) (by kernel_rfl) (by kernel_rfl) (fun _ _ _ h => h) (Or.inl ⟨by rfl, ?_⟩) (by assumption) ?_
            case refine_2 => (intro w hSw; skip; go_simp; first | done | with_reducible rfl)
            simp only [Act.put, List.setIfInBounds_toArray, List.set_cons_zero, List.set_cons_succ]
            refine wpAnyH_ready (rs := [13]) (by kernel_rfl) (by simp) ?_
            refine AllReadyH.cons (o := ⟨some 61, _, _, _, _, _⟩) rfl (fun K hK => ?_) AllReadyH.nil
            go_simp
            go_wp2_with fail
            refine hK.out _ _ (Rb.1.alloc (.cells #[.string z1, .slice (some ⟨wd132ccc.heap.size, 0, none⟩) 2 2, .slice none 0 0] 59)) (fun hHeld => ?_)
            clear hK K
            try simp only [Act.put, List.setIfInBounds_toArray, List.set_cons_zero, List.set_cons_succ]
            refine wpAnyH_ready (rs := [14]) (by kernel_rfl) (by simp) ?_
            refine AllReadyH.cons (o := ⟨some 62, _, _, _, _, _⟩) rfl (fun K hK => ?_) AllReadyH.nil
            have hrbl2 := Rb.lt
            refine step_pushB (w := wd132cccy) rfl (.tmp 49) (.tmp 61) 35 rfl (w.heap.size + 1) 59 j0 (.agg #[.string ⟨#[]⟩, .slice none 0 0, .slice none 0 0]) 3 64 Try.underlying35 hj hy0 hy1 hy2 rfl (by decide) (Value.slice AF m.length cF) _ _ rfl FF.1.1.1 [.string z1, .slice (some ⟨wd132ccc.heap.size, 0, none⟩) 2 2, .slice none 0 0] rfl rfl rfl (by have := FF.2.1.1; have := FF.2.2.1; omega) (by omega) (by omega) ?_
            intro v' w7 hO7 hg7 hv7
            obtain ⟨A7, c7, rfl⟩ := (Row.mk hO7).form
            have hu7 := FF.1.1.2.1
            have hb7 := fun k e => FF.1.1.lt k e
            have hm7 := FF.1.2
            have K4l := K4.lt
            have R7 := R.row hg7 (fun e => by have := hb7 _ e.symm; omega)
            have Rb7 := Rb.row hg7 (fun e => by have := hm7 _ e.symm; omega)
            have hRw7 := hRw.row hg7 (fun k e e2 => by have := hm7 _ e2; have := (hRw.lt _ e).1; omega)
            have S07 := S0.row C hg7 hu7
            have O07 := O0.row C hg7 hu7 (fun k e e2 => by have := hm7 _ e2; have := (O0.1.lt _ e).1; omega)
            have FR7 := FR.row C hg7 hu7
            have K47 := K4.row hg7 (fun e => by have := hm7 _ e.symm; omega)
            have FT7 := FF.2.1.row C hg7 hu7
            have O7 := FF.1.1.push C hO7 hv7
            have G7 := G.row hg7 (fun k e => by have := hb7 k e; omega)
            have C7 := C.row hg7 (fun k e => by have := hb7 k e; have := hC.lt; omega)
            have hg7s := hg7.size
            have hn7 : (Value.slice A7 (m.length + 1) c7).ownBlock ≠ some rb := fun e => by
              rcases hv7 with h7 | ⟨k7, h7, h8⟩
              · have := hm7 _ (h7 ▸ e); omega
              · rw [h7] at e; injection e with e; omega
            refine hK.out _ _ (Rb7.1) (fun hHeld => ?_)
            clear hK K
            try simp only [Act.put, List.setIfInBounds_toArray, List.set_cons_zero, List.set_cons_succ]
            refine wpAnyH_take (i := 15) (oi := ⟨some 63, _, _, _, _, _⟩) (v := ?_) rfl (by kernel_rfl) (by kernel_rfl) (by kernel_rfl) (fun _ _ _ h => h) (Or.inl ⟨by rfl, ?_⟩) (by assumption) ?_
            case refine_2 => (intro w hSw; skip; go_simp; first | done | with_reducible rfl)
            simp only [Act.put, List.setIfInBounds_toArray, List.set_cons_zero, List.set_cons_succ]
            refine wpAnyH_done (by kernel_rfl) ?_ _
            refine relQ_normal ?_
            refine wpOp_step (o := ⟨none, _, _, _, _, _⟩) rfl (fun K hK => ?_)
            have pc0 := Rb7.cell
            have pf0 := Rb7.frozen
            go_simp
            go_wp2_with fail
            go_meet
            have hgR7 := hRw7.lt gR rfl
            have hOl7 := fun k e => O7.lt k e
            have hb4R : (Value.slice (some ⟨gR, 0, none⟩) (lr.length + 1) cV).ownBlock ≠ some rb := fun e => by injection e with e; have e2 : gR = rb := e; omega
            exact addFn R7 Rb7 hRw7 S07 O07 FR7 K47 FT7 O7 C7 G7 ⟨by omega, by omega, by omega⟩ ⟨hb4R, fun e => by injection e with e; have e2 : gR = wd132ccc.heap.size := e; omega, fun e => by injection e with e; have e2 : gR = w.heap.size := e; omega⟩ ⟨fun e => by have := h0h _ e; omega, fun e => by have := h0h _ e; omega, fun e => by have := (O07.1.lt _ e).1; omega⟩ ⟨hn7, fun e => by rcases hv7 with h7 | ⟨k7, h7, h8⟩; (have := hm7 _ (h7 ▸ e); omega); (rw [h7] at e; injection e with e; omega), fun e => by have := (hOl7 _ e).1; omega⟩ ⟨by omega, by omega, by omega, by have := G.sz; omega, by omega⟩ (by omega) (by have := HM2.out; omega) hx0 hA0 hLr FF.2.2.2
      · go_simp
        go_wp2_with fail
        refine hK.out _ _ (Rb.1.alloc (.cells #[.string ⟨#[97]⟩, .string ⟨#[116]⟩, .string ⟨#[102]⟩] 9)) (fun hHeld => ?_)
        clear hK K
        have K2 := Bx.new C 9 #[.string ⟨#[97]⟩, .string ⟨#[116]⟩, .string ⟨#[102]⟩]
        replace R := R.alloc (.cells #[.string ⟨#[97]⟩, .string ⟨#[116]⟩, .string ⟨#[102]⟩] 9)
        replace Rb := Rb.alloc (.cells #[.string ⟨#[97]⟩, .string ⟨#[116]⟩, .string ⟨#[102]⟩] 9)
        replace hRw := hRw.alloc (.cells #[.string ⟨#[97]⟩, .string ⟨#[116]⟩, .string ⟨#[102]⟩] 9)
        replace S0 := S0.alloc C (.cells #[.string ⟨#[97]⟩, .string ⟨#[116]⟩, .string ⟨#[102]⟩] 9)
        replace O0 := O0.alloc C (.cells #[.string ⟨#[97]⟩, .string ⟨#[116]⟩, .string ⟨#[102]⟩] 9)
        replace FR := FR.alloc C (.cells #[.string ⟨#[97]⟩, .string ⟨#[116]⟩, .string ⟨#[102]⟩] 9)
        replace FF := FF.alloc C (.cells #[.string ⟨#[97]⟩, .string ⟨#[116]⟩, .string ⟨#[102]⟩] 9)
        replace G := G.alloc (.cells #[.string ⟨#[97]⟩, .string ⟨#[116]⟩, .string ⟨#[102]⟩] 9)
        replace C := C.alloc (.cells #[.string ⟨#[97]⟩, .string ⟨#[116]⟩, .string ⟨#[102]⟩] 9)
        generalize wd.alloc (.cells #[.string ⟨#[97]⟩, .string ⟨#[116]⟩, .string ⟨#[102]⟩] 9) = wd2 at R Rb hRw S0 O0 FR FF G K2 C hHeld ⊢
        try simp only [Act.put, List.setIfInBounds_toArray, List.set_cons_zero, List.set_cons_succ]
        refine wpAnyH_ready (rs := [3, 9]) (by kernel_rfl) (by simp) ?_
        refine AllReadyH.cons (o := ⟨some 51, _, _, _, _, _⟩) rfl (fun K hK => ?_) (AllReadyH.cons (o := ⟨some 57, _, _, _, _, _⟩) rfl (fun K hK => ?_) AllReadyH.nil)
        · go_simp
          go_wp2_with fail
          refine hK.out _ _ (Rb.1.alloc (.cells #[.string ⟨#[102]⟩, .string ⟨#[104]⟩, .string ⟨#[]⟩, .string ⟨#[112, 114, 105, 110, 116]⟩, .string ⟨#[116]⟩] 9)) (fun hHeld => ?_)
          clear hK K
          have K1 := Bx.new C 9 #[.string ⟨#[102]⟩, .string ⟨#[104]⟩, .string ⟨#[]⟩, .string ⟨#[112, 114, 105, 110, 116]⟩, .string ⟨#[116]⟩]
          replace R := R.alloc (.cells #[.string ⟨#[102]⟩, .string ⟨#[104]⟩, .string ⟨#[]⟩, .string ⟨#[112, 114, 105, 110, 116]⟩, .string ⟨#[116]⟩] 9)
          replace Rb := Rb.alloc (.cells #[.string ⟨#[102]⟩, .string ⟨#[104]⟩, .string ⟨#[]⟩, .string ⟨#[112, 114, 105, 110, 116]⟩, .string ⟨#[116]⟩] 9)
          replace hRw := hRw.alloc (.cells #[.string ⟨#[102]⟩, .string ⟨#[104]⟩, .string ⟨#[]⟩, .string ⟨#[112, 114, 105, 110, 116]⟩, .string ⟨#[116]⟩] 9)
          replace S0 := S0.alloc C (.cells #[.string ⟨#[102]⟩, .string ⟨#[104]⟩, .string ⟨#[]⟩, .string ⟨#[112, 114, 105, 110, 116]⟩, .string ⟨#[116]⟩] 9)
          replace O0 := O0.alloc C (.cells #[.string ⟨#[102]⟩, .string ⟨#[104]⟩, .string ⟨#[]⟩, .string ⟨#[112, 114, 105, 110, 116]⟩, .string ⟨#[116]⟩] 9)
          replace FR := FR.alloc C (.cells #[.string ⟨#[102]⟩, .string ⟨#[104]⟩, .string ⟨#[]⟩, .string ⟨#[112, 114, 105, 110, 116]⟩, .string ⟨#[116]⟩] 9)
          replace FF := FF.alloc C (.cells #[.string ⟨#[102]⟩, .string ⟨#[104]⟩, .string ⟨#[]⟩, .string ⟨#[112, 114, 105, 110, 116]⟩, .string ⟨#[116]⟩] 9)
          replace G := G.alloc (.cells #[.string ⟨#[102]⟩, .string ⟨#[104]⟩, .string ⟨#[]⟩, .string ⟨#[112, 114, 105, 110, 116]⟩, .string ⟨#[116]⟩] 9)
          replace K2 := K2.alloc (.cells #[.string ⟨#[102]⟩, .string ⟨#[104]⟩, .string ⟨#[]⟩, .string ⟨#[112, 114, 105, 110, 116]⟩, .string ⟨#[116]⟩] 9)
          replace C := C.alloc (.cells #[.string ⟨#[102]⟩, .string ⟨#[104]⟩, .string ⟨#[]⟩, .string ⟨#[112, 114, 105, 110, 116]⟩, .string ⟨#[116]⟩] 9)
          generalize wd2.alloc (.cells #[.string ⟨#[102]⟩, .string ⟨#[104]⟩, .string ⟨#[]⟩, .string ⟨#[112, 114, 105, 110, 116]⟩, .string ⟨#[116]⟩] 9) = wd21 at R Rb hRw S0 O0 FR FF G K2 K1 C hHeld ⊢
          try simp only [Act.put, List.setIfInBounds_toArray, List.set_cons_zero, List.set_cons_succ]
          refine wpAnyH_ready (rs := [4, 9]) (by kernel_rfl) (by simp) ?_
          refine AllReadyH.cons (o := ⟨some 52, _, _, _, _, _⟩) rfl (fun K hK => ?_) (AllReadyH.cons (o := ⟨some 57, _, _, _, _, _⟩) rfl (fun K hK => ?_) AllReadyH.nil)
          · go_simp
            refine (cStr wd2.heap.size 5 [⟨#[102]⟩, ⟨#[104]⟩, ⟨#[]⟩, ⟨#[112, 114, 105, 110, 116]⟩, ⟨#[116]⟩] C rfl (by omega) (by omega) K1.1 (by have := K1.2.2; omega)).mono ?_; rintro e wd21c ⟨⟨z1, rfl, _⟩, C5, G5⟩
            go_wp2_with fail
            refine hK.out _ _ ((Rb.gro G5).1) (fun hHeld => ?_)
            clear hK K
            clear K1
            replace R := R.gro G5
            replace Rb := Rb.gro G5
            replace hRw := hRw.gro G5
            replace S0 := S0.gro C G5
            replace O0 := O0.gro C G5
            replace FR := FR.gro C G5
            replace FF := FF.gro C G5
            replace G := G.trans G5
            replace K2 := K2.gro G5
            clear C
            have C := C5
            clear C5
            clear G5
            try simp only [Act.put, List.setIfInBounds_toArray, List.set_cons_zero, List.set_cons_succ]
            refine wpAnyH_ready (rs := [7, 9]) (by kernel_rfl) (by simp) ?_
            refine AllReadyH.cons (o := ⟨some 55, _, _, _, _, _⟩) rfl (fun K hK => ?_) (AllReadyH.cons (o := ⟨some 57, _, _, _, _, _⟩) rfl (fun K hK => ?_) AllReadyH.nil)
            · go_simp
              refine (cStr wd.heap.size 3 [⟨#[97]⟩, ⟨#[116]⟩, ⟨#[102]⟩] C rfl (by omega) (by omega) K2.1 (by have := K2.2.2; omega)).mono ?_; rintro e wd21cc ⟨⟨z2, rfl, _⟩, C5, G5⟩
              go_wp2_with fail
              refine hK.out _ _ ((Rb.gro G5).1) (fun hHeld => ?_)
              clear hK K
              clear K2
              replace R := R.gro G5
              replace Rb := Rb.gro G5
              replace hRw := hRw.gro G5
              replace S0 := S0.gro C G5
              replace O0 := O0.gro C G5
              replace FR := FR.gro C G5
              replace FF := FF.gro C G5
              replace G := G.trans G5
              clear C
              have C := C5
              clear C5
              clear G5
              try simp only [Act.put, List.setIfInBounds_toArray, List.set_cons_zero, List.set_cons_succ]
              refine wpAnyH_ready (rs := [9]) (by kernel_rfl) (by simp) ?_
              refine AllReadyH.cons (o := ⟨some 57, _, _, _, _, _⟩) rfl (fun K hK => ?_) AllReadyH.nil
              go_simp
              go_wp2_with fail
              refine hK.out _ _ (Rb.1.alloc (.cells #[.string ⟨#[97]⟩, .string ⟨#[98]⟩] 9)) (fun hHeld => ?_)
              clear hK K
              have K3 := Bx.new C 9 #[.string ⟨#[97]⟩, .string ⟨#[98]⟩]
              replace R := R.alloc (.cells #[.string ⟨#[97]⟩, .string ⟨#[98]⟩] 9)
              replace Rb := Rb.alloc (.cells #[.string ⟨#[97]⟩, .string ⟨#[98]⟩] 9)
              replace hRw := hRw.alloc (.cells #[.string ⟨#[97]⟩, .string ⟨#[98]⟩] 9)
              replace S0 := S0.alloc C (.cells #[.string ⟨#[97]⟩, .string ⟨#[98]⟩] 9)
              replace O0 := O0.alloc C (.cells #[.string ⟨#[97]⟩, .string ⟨#[98]⟩] 9)
              replace FR := FR.alloc C (.cells #[.string ⟨#[97]⟩, .string ⟨#[98]⟩] 9)
              replace FF := FF.alloc C (.cells #[.string ⟨#[97]⟩, .string ⟨#[98]⟩] 9)
              replace G := G.alloc (.cells #[.string ⟨#[97]⟩, .string ⟨#[98]⟩] 9)
              replace C := C.alloc (.cells #[.string ⟨#[97]⟩, .string ⟨#[98]⟩] 9)
              generalize wd21cc.alloc (.cells #[.string ⟨#[97]⟩, .string ⟨#[98]⟩] 9) = wd21cc3 at R Rb hRw S0 O0 FR FF G K3 C hHeld ⊢
              try simp only [Act.put, List.setIfInBounds_toArray, List.set_cons_zero, List.set_cons_succ]
              refine wpAnyH_ready (rs := [10]) (by kernel_rfl) (by simp) ?_
              refine AllReadyH.cons (o := ⟨some 58, _, _, _, _, _⟩) rfl (fun K hK => ?_) AllReadyH.nil
              go_simp
              refine (cStr wd21cc.heap.size 2 [⟨#[97]⟩, ⟨#[98]⟩] C rfl (by omega) (by omega) K3.1 (by have := K3.2.2; omega)).mono ?_; rintro e wd21cc3c ⟨⟨z3, rfl, _⟩, C5, G5⟩
              go_wp2_with fail
              refine hK.out _ _ ((Rb.gro G5).1) (fun hHeld => ?_)
              clear hK K
              clear K3
              replace R := R.gro G5
              replace Rb := Rb.gro G5
              replace hRw := hRw.gro G5
              replace S0 := S0.gro C G5
              replace O0 := O0.gro C G5
              replace FR := FR.gro C G5
              replace FF := FF.gro C G5
              replace G := G.trans G5
              clear C
              have C := C5
              clear C5
              clear G5
              try simp only [Act.put, List.setIfInBounds_toArray, List.set_cons_zero, List.set_cons_succ]
              refine wpAnyH_ready (rs := [11]) (by kernel_rfl) (by simp) ?_
              refine AllReadyH.cons (o := ⟨some 59, _, _, _, _, _⟩) rfl (fun K hK => ?_) AllReadyH.nil
              go_simp
              go_wp2_with fail
              refine hK.out _ _ (Rb.1.alloc (.cells #[.string z2, .string z3] 9)) (fun hHeld => ?_)
              clear hK K
              have hrbl := Rb.lt
              have K4 := Bx.new C 9 #[.string z2, .string z3]
              replace R := R.alloc (.cells #[.string z2, .string z3] 9)
              replace Rb := Rb.alloc (.cells #[.string z2, .string z3] 9)
              replace hRw := hRw.alloc (.cells #[.string z2, .string z3] 9)
              replace S0 := S0.alloc C (.cells #[.string z2, .string z3] 9)
              replace O0 := O0.alloc C (.cells #[.string z2, .string z3] 9)
              replace FR := FR.alloc C (.cells #[.string z2, .string z3] 9)
              replace FF := FF.alloc C (.cells #[.string z2, .string z3] 9)
              replace G := G.alloc (.cells #[.string z2, .string z3] 9)
              replace C := C.alloc (.cells #[.string z2, .string z3] 9)
              generalize wd21cc3c.alloc (.cells #[.string z2, .string z3] 9) = wd21cc3cy at R Rb hRw S0 O0 FR FF G K4 C hHeld ⊢
              try simp only [Act.put, List.setIfInBounds_toArray, List.set_cons_zero, List.set_cons_succ]
              refine wpAnyH_take (i := 12) (oi := ⟨some 60, _, _, _, _, _⟩) (v := ?_) rfl (by kernel_rfl) (by kernel_rfl) (by kernel_rfl) (fun _ _ _ h => h) (Or.inl ⟨by rfl, ?_⟩) (by assumption) ?_
              case refine_2 => (intro w hSw; skip; go_simp; first | done | with_reducible rfl)
              simp only [Act.put, List.setIfInBounds_toArray, List.set_cons_zero, List.set_cons_succ]
              refine wpAnyH_ready (rs := [13]) (by kernel_rfl) (by simp) ?_
              refine AllReadyH.cons (o := ⟨some 61, _, _, _, _, _⟩) rfl (fun K hK => ?_) AllReadyH.nil
              go_simp
              go_wp2_with fail
              refine hK.out _ _ (Rb.1.alloc (.cells #[.string z1, .slice (some ⟨wd21cc3c.heap.size, 0, none⟩) 2 2, .slice none 0 0] 59)) (fun hHeld => ?_)
              clear hK K
              try simp only [Act.put, List.setIfInBounds_toArray, List.set_cons_zero, List.set_cons_succ]
              refine wpAnyH_ready (rs := [14]) (by kernel_rfl) (by simp) ?_
              refine AllReadyH.cons (o := ⟨some 62, _, _, _, _, _⟩) rfl (fun K hK => ?_) AllReadyH.nil
              have hrbl2 := Rb.lt
              refine step_pushB (w := wd21cc3cy) rfl (.tmp 49) (.tmp 61) 35 rfl (w.heap.size + 1) 59 j0 (.agg #[.string ⟨#[]⟩, .slice none 0 0, .slice none 0 0]) 3 64 Try.underlying35 hj hy0 hy1 hy2 rfl (by decide) (Value.slice AF m.length cF) _ _ rfl FF.1.1.1 [.string z1, .slice (some ⟨wd21cc3c.heap.size, 0, none⟩) 2 2, .slice none 0 0] rfl rfl rfl (by have := FF.2.1.1; have := FF.2.2.1; omega) (by omega) (by omega) ?_
              intro v' w7 hO7 hg7 hv7
              obtain ⟨A7, c7, rfl⟩ := (Row.mk hO7).form
              have hu7 := FF.1.1.2.1
              have hb7 := fun k e => FF.1.1.lt k e
              have hm7 := FF.1.2
              have K4l := K4.lt
              have R7 := R.row hg7 (fun e => by have := hb7 _ e.symm; omega)
              have Rb7 := Rb.row hg7 (fun e => by have := hm7 _ e.symm; omega)
              have hRw7 := hRw.row hg7 (fun k e e2 => by have := hm7 _ e2; have := (hRw.lt _ e).1; omega)
              have S07 := S0.row C hg7 hu7
              have O07 := O0.row C hg7 hu7 (fun k e e2 => by have := hm7 _ e2; have := (O0.1.lt _ e).1; omega)
              have FR7 := FR.row C hg7 hu7
              have K47 := K4.row hg7 (fun e => by have := hm7 _ e.symm; omega)
              have FT7 := FF.2.1.row C hg7 hu7
              have O7 := FF.1.1.push C hO7 hv7
              have G7 := G.row hg7 (fun k e => by have := hb7 k e; omega)
              have C7 := C.row hg7 (fun k e => by have := hb7 k e; have := hC.lt; omega)
              have hg7s := hg7.size
              have hn7 : (Value.slice A7 (m.length + 1) c7).ownBlock ≠ some rb := fun e => by
                rcases hv7 with h7 | ⟨k7, h7, h8⟩
                · have := hm7 _ (h7 ▸ e); omega
                · rw [h7] at e; injection e with e; omega
              refine hK.out _ _ (Rb7.1) (fun hHeld => ?_)
              clear hK K
              try simp only [Act.put, List.setIfInBounds_toArray, List.set_cons_zero, List.set_cons_succ]
              refine wpAnyH_take (i := 15) (oi := ⟨some 63, _, _, _, _, _⟩) (v := ?_) rfl (by kernel_rfl) (by kernel_rfl) (by kernel_rfl) (fun _ _ _ h => h) (Or.inl ⟨by rfl, ?_⟩) (by assumption) ?_
              case refine_2 => (intro w hSw; skip; go_simp; first | done | with_reducible rfl)
              simp only [Act.put, List.setIfInBounds_toArray, List.set_cons_zero, List.set_cons_succ]
              refine wpAnyH_done (by kernel_rfl) ?_ _
              refine relQ_normal ?_
              refine wpOp_step (o := ⟨none, _, _, _, _, _⟩) rfl (fun K hK => ?_)
              have pc0 := Rb7.cell
              have pf0 := Rb7.frozen
              go_simp
              go_wp2_with fail
              go_meet
              have hgR7 := hRw7.lt gR rfl
              have hOl7 := fun k e => O7.lt k e
              have hb4R : (Value.slice (some ⟨gR, 0, none⟩) (lr.length + 1) cV).ownBlock ≠ some rb := fun e => by injection e with e; have e2 : gR = rb := e; omega
              exact addFn R7 Rb7 hRw7 S07 O07 FR7 K47 FT7 O7 C7 G7 ⟨by omega, by omega, by omega⟩ ⟨hb4R, fun e => by injection e with e; have e2 : gR = wd21cc3c.heap.size := e; omega, fun e => by injection e with e; have e2 : gR = w.heap.size := e; omega⟩ ⟨fun e => by have := h0h _ e; omega, fun e => by have := h0h _ e; omega, fun e => by have := (O07.1.lt _ e).1; omega⟩ ⟨hn7, fun e => by rcases hv7 with h7 | ⟨k7, h7, h8⟩; (have := hm7 _ (h7 ▸ e); omega); (rw [h7] at e; injection e with e; omega), fun e => by have := (hOl7 _ e).1; omega⟩ ⟨by omega, by omega, by omega, by have := G.sz; omega, by omega⟩ (by omega) (by have := HM2.out; omega) hx0 hA0 hLr FF.2.2.2
            · go_simp
              go_wp2_with fail
              refine hK.out _ _ (Rb.1.alloc (.cells #[.string ⟨#[97]⟩, .string ⟨#[98]⟩] 9)) (fun hHeld => ?_)
              clear hK K
              have K3 := Bx.new C 9 #[.string ⟨#[97]⟩, .string ⟨#[98]⟩]
              replace R := R.alloc (.cells #[.string ⟨#[97]⟩, .string ⟨#[98]⟩] 9)
              replace Rb := Rb.alloc (.cells #[.string ⟨#[97]⟩, .string ⟨#[98]⟩] 9)
              replace hRw := hRw.alloc (.cells #[.string ⟨#[97]⟩, .string ⟨#[98]⟩] 9)
              replace S0 := S0.alloc C (.cells #[.string ⟨#[97]⟩, .string ⟨#[98]⟩] 9)
              replace O0 := O0.alloc C (.cells #[.string ⟨#[97]⟩, .string ⟨#[98]⟩] 9)
              replace FR := FR.alloc C (.cells #[.string ⟨#[97]⟩, .string ⟨#[98]⟩] 9)
              replace FF := FF.alloc C (.cells #[.string ⟨#[97]⟩, .string ⟨#[98]⟩] 9)
              replace G := G.alloc (.cells #[.string ⟨#[97]⟩, .string ⟨#[98]⟩] 9)
              replace K2 := K2.alloc (.cells #[.string ⟨#[97]⟩, .string ⟨#[98]⟩] 9)
              replace C := C.alloc (.cells #[.string ⟨#[97]⟩, .string ⟨#[98]⟩] 9)
              generalize wd21c.alloc (.cells #[.string ⟨#[97]⟩, .string ⟨#[98]⟩] 9) = wd21c3 at R Rb hRw S0 O0 FR FF G K2 K3 C hHeld ⊢
              try simp only [Act.put, List.setIfInBounds_toArray, List.set_cons_zero, List.set_cons_succ]
              refine wpAnyH_ready (rs := [7]) (by kernel_rfl) (by simp) ?_
              refine AllReadyH.cons (o := ⟨some 55, _, _, _, _, _⟩) rfl (fun K hK => ?_) AllReadyH.nil
              go_simp
              refine (cStr wd.heap.size 3 [⟨#[97]⟩, ⟨#[116]⟩, ⟨#[102]⟩] C rfl (by omega) (by omega) K2.1 (by have := K2.2.2; omega)).mono ?_; rintro e wd21c3c ⟨⟨z2, rfl, _⟩, C5, G5⟩
              go_wp2_with fail
              refine hK.out _ _ ((Rb.gro G5).1) (fun hHeld => ?_)
              clear hK K
              clear K2
              replace R := R.gro G5
              replace Rb := Rb.gro G5
              replace hRw := hRw.gro G5
              replace S0 := S0.gro C G5
              replace O0 := O0.gro C G5
              replace FR := FR.gro C G5
              replace FF := FF.gro C G5
              replace G := G.trans G5
              replace K3 := K3.gro G5
              clear C
              have C := C5
              clear C5
              clear G5
              try simp only [Act.put, List.setIfInBounds_toArray, List.set_cons_zero, List.set_cons_succ]
              refine wpAnyH_ready (rs := [10]) (by kernel_rfl) (by simp) ?_
              refine AllReadyH.cons (o := ⟨some 58, _, _, _, _, _⟩) rfl (fun K hK => ?_) AllReadyH.nil
              go_simp
              refine (cStr wd21c.heap.size 2 [⟨#[97]⟩, ⟨#[98]⟩] C rfl (by omega) (by omega) K3.1 (by have := K3.2.2; omega)).mono ?_; rintro e wd21c3cc ⟨⟨z3, rfl, _⟩, C5, G5⟩
              go_wp2_with fail
              refine hK.out _ _ ((Rb.gro G5).1) (fun hHeld => ?_)
              clear hK K
              clear K3
              replace R := R.gro G5
              replace Rb := Rb.gro G5
              replace hRw := hRw.gro G5
              replace S0 := S0.gro C G5
              replace O0 := O0.gro C G5
              replace FR := FR.gro C G5
              replace FF := FF.gro C G5
              replace G := G.trans G5
              clear C
              have C := C5
              clear C5
              clear G5
              try simp only [Act.put, List.setIfInBounds_toArray, List.set_cons_zero, List.set_cons_succ]
              refine wpAnyH_ready (rs := [11]) (by kernel_rfl) (by simp) ?_
              refine AllReadyH.cons (o := ⟨some 59, _, _, _, _, _⟩) rfl (fun K hK => ?_) AllReadyH.nil
              go_simp
              go_wp2_with fail
              refine hK.out _ _ (Rb.1.alloc (.cells #[.string z2, .string z3] 9)) (fun hHeld => ?_)
              clear hK K
              have hrbl := Rb.lt
              have K4 := Bx.new C 9 #[.string z2, .string z3]
              replace R := R.alloc (.cells #[.string z2, .string z3] 9)
              replace Rb := Rb.alloc (.cells #[.string z2, .string z3] 9)
              replace hRw := hRw.alloc (.cells #[.string z2, .string z3] 9)
              replace S0 := S0.alloc C (.cells #[.string z2, .string z3] 9)
              replace O0 := O0.alloc C (.cells #[.string z2, .string z3] 9)
              replace FR := FR.alloc C (.cells #[.string z2, .string z3] 9)
              replace FF := FF.alloc C (.cells #[.string z2, .string z3] 9)
              replace G := G.alloc (.cells #[.string z2, .string z3] 9)
              replace C := C.alloc (.cells #[.string z2, .string z3] 9)
              generalize wd21c3cc.alloc (.cells #[.string z2, .string z3] 9) = wd21c3ccy at R Rb hRw S0 O0 FR FF G K4 C hHeld ⊢
              try simp only [Act.put, List.setIfInBounds_toArray, List.set_cons_zero, List.set_cons_succ]
              refine wpAnyH_take (i := 12) (oi := ⟨some 60, _, _, _, _, _⟩) (v := ?_) rfl (by kernel_rfl) (by kernel_rfl) (by kernel_rfl) (fun _ _ _ h => h) (Or.inl ⟨by rfl, ?_⟩) (by assumption) ?_
              case refine_2 => (intro w hSw; skip; go_simp; first | done | with_reducible rfl)
              simp only [Act.put, List.setIfInBounds_toArray, List.set_cons_zero, List.set_cons_succ]
              refine wpAnyH_ready (rs := [13]) (by kernel_rfl) (by simp) ?_
              refine AllReadyH.cons (o := ⟨some 61, _, _, _, _, _⟩) rfl (fun K hK => ?_) AllReadyH.nil
              go_simp
              go_wp2_with fail
              refine hK.out _ _ (Rb.1.alloc (.cells #[.string z1, .slice (some ⟨wd21c3cc.heap.size, 0, none⟩) 2 2, .slice none 0 0] 59)) (fun hHeld => ?_)
              clear hK K
              try simp only [Act.put, List.setIfInBounds_toArray, List.set_cons_zero, List.set_cons_succ]
              refine wpAnyH_ready (rs := [14]) (by kernel_rfl) (by simp) ?_
              refine AllReadyH.cons (o := ⟨some 62, _, _, _, _, _⟩) rfl (fun K hK => ?_) AllReadyH.nil
              have hrbl2 := Rb.lt
              refine step_pushB (w := wd21c3ccy) rfl (.tmp 49) (.tmp 61) 35 rfl (w.heap.size + 1) 59 j0 (.agg #[.string ⟨#[]⟩, .slice none 0 0, .slice none 0 0]) 3 64 Try.underlying35 hj hy0 hy1 hy2 rfl (by decide) (Value.slice AF m.length cF) _ _ rfl FF.1.1.1 [.string z1, .slice (some ⟨wd21c3cc.heap.size, 0, none⟩) 2 2, .slice none 0 0] rfl rfl rfl (by have := FF.2.1.1; have := FF.2.2.1; omega) (by omega) (by omega) ?_
              intro v' w7 hO7 hg7 hv7
              obtain ⟨A7, c7, rfl⟩ := (Row.mk hO7).form
              have hu7 := FF.1.1.2.1
              have hb7 := fun k e => FF.1.1.lt k e
              have hm7 := FF.1.2
              have K4l := K4.lt
              have R7 := R.row hg7 (fun e => by have := hb7 _ e.symm; omega)
              have Rb7 := Rb.row hg7 (fun e => by have := hm7 _ e.symm; omega)
              have hRw7 := hRw.row hg7 (fun k e e2 => by have := hm7 _ e2; have := (hRw.lt _ e).1; omega)
              have S07 := S0.row C hg7 hu7
              have O07 := O0.row C hg7 hu7 (fun k e e2 => by have := hm7 _ e2; have := (O0.1.lt _ e).1; omega)
              have FR7 := FR.row C hg7 hu7
              have K47 := K4.row hg7 (fun e => by have := hm7 _ e.symm; omega)
              have FT7 := FF.2.1.row C hg7 hu7
              have O7 := FF.1.1.push C hO7 hv7
              have G7 := G.row hg7 (fun k e => by have := hb7 k e; omega)
              have C7 := C.row hg7 (fun k e => by have := hb7 k e; have := hC.lt; omega)
              have hg7s := hg7.size
              have hn7 : (Value.slice A7 (m.length + 1) c7).ownBlock ≠ some rb := fun e => by
                rcases hv7 with h7 | ⟨k7, h7, h8⟩
                · have := hm7 _ (h7 ▸ e); omega
                · rw [h7] at e; injection e with e; omega
              refine hK.out _ _ (Rb7.1) (fun hHeld => ?_)
              clear hK K
              try simp only [Act.put, List.setIfInBounds_toArray, List.set_cons_zero, List.set_cons_succ]
              refine wpAnyH_take (i := 15) (oi := ⟨some 63, _, _, _, _, _⟩) (v := ?_) rfl (by kernel_rfl) (by kernel_rfl) (by kernel_rfl) (fun _ _ _ h => h) (Or.inl ⟨by rfl, ?_⟩) (by assumption) ?_
              case refine_2 => (intro w hSw; skip; go_simp; first | done | with_reducible rfl)
              simp only [Act.put, List.setIfInBounds_toArray, List.set_cons_zero, List.set_cons_succ]
              refine wpAnyH_done (by kernel_rfl) ?_ _
              refine relQ_normal ?_
              refine wpOp_step (o := ⟨none, _, _, _, _, _⟩) rfl (fun K hK => ?_)
              have pc0 := Rb7.cell
              have pf0 := Rb7.frozen
              go_simp
              go_wp2_with fail
              go_meet
              have hgR7 := hRw7.lt gR rfl
              have hOl7 := fun k e => O7.lt k e
              have hb4R : (Value.slice (some ⟨gR, 0, none⟩) (lr.length + 1) cV).ownBlock ≠ some rb := fun e => by injection e with e; have e2 : gR = rb := e; omega
              exact addFn R7 Rb7 hRw7 S07 O07 FR7 K47 FT7 O7 C7 G7 ⟨by omega, by omega, by omega⟩ ⟨hb4R, fun e => by injection e with e; have e2 : gR = wd21c3cc.heap.size := e; omega, fun e => by injection e with e; have e2 : gR = w.heap.size := e; omega⟩ ⟨fun e => by have := h0h _ e; omega, fun e => by have := h0h _ e; omega, fun e => by have := (O07.1.lt _ e).1; omega⟩ ⟨hn7, fun e => by rcases hv7 with h7 | ⟨k7, h7, h8⟩; (have := hm7 _ (h7 ▸ e); omega); (rw [h7] at e; injection e with e; omega), fun e => by have := (hOl7 _ e).1; omega⟩ ⟨by omega, by omega, by omega, by have := G.sz; omega, by omega⟩ (by omega) (by have := HM2.out; omega) hx0 hA0 hLr FF.2.2.2
          · go_simp
            go_wp2_with fail
            refine hK.out _ _ (Rb.1.alloc (.cells #[.string ⟨#[97]⟩, .string ⟨#[98]⟩] 9)) (fun hHeld => ?_)
            clear hK K
            have K3 := Bx.new C 9 #[.string ⟨#[97]⟩, .string ⟨#[98]⟩]
            replace R := R.alloc (.cells #[.string ⟨#[97]⟩, .string ⟨#[98]⟩] 9)
            replace Rb := Rb.alloc (.cells #[.string ⟨#[97]⟩, .string ⟨#[98]⟩] 9)
            replace hRw := hRw.alloc (.cells #[.string ⟨#[97]⟩, .string ⟨#[98]⟩] 9)
            replace S0 := S0.alloc C (.cells #[.string ⟨#[97]⟩, .string ⟨#[98]⟩] 9)
            replace O0 := O0.alloc C (.cells #[.string ⟨#[97]⟩, .string ⟨#[98]⟩] 9)
            replace FR := FR.alloc C (.cells #[.string ⟨#[97]⟩, .string ⟨#[98]⟩] 9)
            replace FF := FF.alloc C (.cells #[.string ⟨#[97]⟩, .string ⟨#[98]⟩] 9)
            replace G := G.alloc (.cells #[.string ⟨#[97]⟩, .string ⟨#[98]⟩] 9)
            replace K2 := K2.alloc (.cells #[.string ⟨#[97]⟩, .string ⟨#[98]⟩] 9)
            replace K1 := K1.alloc (.cells #[.string ⟨#[97]⟩, .string ⟨#[98]⟩] 9)
            replace C := C.alloc (.cells #[.string ⟨#[97]⟩, .string ⟨#[98]⟩] 9)
            generalize wd21.alloc (.cells #[.string ⟨#[97]⟩, .string ⟨#[98]⟩] 9) = wd213 at R Rb hRw S0 O0 FR FF G K2 K1 K3 C hHeld ⊢
            try simp only [Act.put, List.setIfInBounds_toArray, List.set_cons_zero, List.set_cons_succ]
            refine wpAnyH_ready (rs := [4]) (by kernel_rfl) (by simp) ?_
            refine AllReadyH.cons (o := ⟨some 52, _, _, _, _, _⟩) rfl (fun K hK => ?_) AllReadyH.nil
            go_simp
            refine (cStr wd2.heap.size 5 [⟨#[102]⟩, ⟨#[104]⟩, ⟨#[]⟩, ⟨#[112, 114, 105, 110, 116]⟩, ⟨#[116]⟩] C rfl (by omega) (by omega) K1.1 (by have := K1.2.2; omega)).mono ?_; rintro e wd213c ⟨⟨z1, rfl, _⟩, C5, G5⟩
            go_wp2_with fail
            refine hK.out _ _ ((Rb.gro G5).1) (fun hHeld => ?_)
            clear hK K
            clear K1
            replace R := R.gro G5
            replace Rb := Rb.gro G5
            replace hRw := hRw.gro G5
            replace S0 := S0.gro C G5
            replace O0 := O0.gro C G5
            replace FR := FR.gro C G5
            replace FF := FF.gro C G5
            replace G := G.trans G5
            replace K2 := K2.gro G5
            replace K3 := K3.gro G5
            clear C
            have C := C5
            clear C5
            clear G5
            try simp only [Act.put, List.setIfInBounds_toArray, List.set_cons_zero, List.set_cons_succ]
            refine wpAnyH_ready (rs := [7]) (by kernel_rfl) (by simp) ?_
            refine AllReadyH.cons (o := ⟨some 55, _, _, _, _, _⟩) rfl (fun K hK => ?_) AllReadyH.nil
            go_simp
            refine (cStr wd.heap.size 3 [⟨#[97]⟩, ⟨#[116]⟩, ⟨#[102]⟩] C rfl (by omega) (by omega) K2.1 (by have := K2.2.2; omega)).mono ?_; rintro e wd213cc ⟨⟨z2, rfl, _⟩, C5, G5⟩
            go_wp2_with fail
            refine hK.out _ _ ((Rb.gro G5).1) (fun hHeld => ?_)
            clear hK K
            clear K2
            replace R := R.gro G5
            replace Rb := Rb.gro G5
            replace hRw := hRw.gro G5
            replace S0 := S0.gro C G5
            replace O0 := O0.gro C G5
            replace FR := FR.gro C G5
            replace FF := FF.gro C G5
            replace G := G.trans G5
            replace K3 := K3.gro G5
            clear C
            have C := C5
            clear C5
            clear G5
            try simp only [Act.put, List.setIfInBounds_toArray, List.set_cons_zero, List.set_cons_succ]
            refine wpAnyH_ready (rs := [10]) (by kernel_rfl) (by simp) ?_
            refine AllReadyH.cons (o := ⟨some 58, _, _, _, _, _⟩) rfl (fun K hK => ?_) AllReadyH.nil
            go_simp
            refine (cStr wd21.heap.size 2 [⟨#[97]⟩, ⟨#[98]⟩] C rfl (by omega) (by omega) K3.1 (by have := K3.2.2; omega)).mono ?_; rintro e wd213ccc ⟨⟨z3, rfl, _⟩, C5, G5⟩
            go_wp2_with fail
            refine hK.out _ _ ((Rb.gro G5).1) (fun hHeld => ?_)
            clear hK K
            clear K3
            replace R := R.gro G5
            replace Rb := Rb.gro G5
            replace hRw := hRw.gro G5
            replace S0 := S0.gro C G5
            replace O0 := O0.gro C G5
            replace FR := FR.gro C G5
            replace FF := FF.gro C G5
            replace G := G.trans G5
            clear C
            have C := C5
            clear C5
            clear G5
            try simp only [Act.put, List.setIfInBounds_toArray, List.set_cons_zero, List.set_cons_succ]
            refine wpAnyH_ready (rs := [11]) (by kernel_rfl) (by simp) ?_
            refine AllReadyH.cons (o := ⟨some 59, _, _, _, _, _⟩) rfl (fun K hK => ?_) AllReadyH.nil
            go_simp
            go_wp2_with fail
            refine hK.out _ _ (Rb.1.alloc (.cells #[.string z2, .string z3] 9)) (fun hHeld => ?_)
            clear hK K
            have hrbl := Rb.lt
            have K4 := Bx.new C 9 #[.string z2, .string z3]
            replace R := R.alloc (.cells #[.string z2, .string z3] 9)
            replace Rb := Rb.alloc (.cells #[.string z2, .string z3] 9)
            replace hRw := hRw.alloc (.cells #[.string z2, .string z3] 9)
            replace S0 := S0.alloc C (.cells #[.string z2, .string z3] 9)
            replace O0 := O0.alloc C (.cells #[.string z2, .string z3] 9)
            replace FR := FR.alloc C (.cells #[.string z2, .string z3] 9)
            replace FF := FF.alloc C (.cells #[.string z2, .string z3] 9)
            replace G := G.alloc (.cells #[.string z2, .string z3] 9)
            replace C := C.alloc (.cells #[.string z2, .string z3] 9)
            generalize wd213ccc.alloc (.cells #[.string z2, .string z3] 9) = wd213cccy at R Rb hRw S0 O0 FR FF G K4 C hHeld ⊢
            try simp only [Act.put, List.setIfInBounds_toArray, List.set_cons_zero, List.set_cons_succ]
            refine wpAnyH_take (i := 12) (oi := ⟨some 60, _, _, _, _, _⟩) (v := ?_) rfl (by kernel_rfl) (by kernel_rfl) (by kernel_rfl) (fun _ _ _ h => h) (Or.inl ⟨by rfl, ?_⟩) (by assumption) ?_
            case refine_2 => (intro w hSw; skip; go_simp; first | done | with_reducible rfl)
            simp only [Act.put, List.setIfInBounds_toArray, List.set_cons_zero, List.set_cons_succ]
            refine wpAnyH_ready (rs := [13]) (by kernel_rfl) (by simp) ?_
            refine AllReadyH.cons (o := ⟨some 61, _, _, _, _, _⟩) rfl (fun K hK => ?_) AllReadyH.nil
            go_simp
            go_wp2_with fail
            refine hK.out _ _ (Rb.1.alloc (.cells #[.string z1, .slice (some ⟨wd213ccc.heap.size, 0, none⟩) 2 2, .slice none 0 0] 59)) (fun hHeld => ?_)
            clear hK K
            try simp only [Act.put, List.setIfInBounds_toArray, List.set_cons_zero, List.set_cons_succ]
            refine wpAnyH_ready (rs := [14]) (by kernel_rfl) (by simp) ?_
            refine AllReadyH.cons (o := ⟨some 62, _, _, _, _, _⟩) rfl (fun K hK => ?_) AllReadyH.nil
            have hrbl2 := Rb.lt
            refine step_pushB (w := wd213cccy) rfl (.tmp 49) (.tmp 61) 35 rfl (w.heap.size + 1) 59 j0 (.agg #[.string ⟨#[]⟩, .slice none 0 0, .slice none 0 0]) 3 64 Try.underlying35 hj hy0 hy1 hy2 rfl (by decide) (Value.slice AF m.length cF) _ _ rfl FF.1.1.1 [.string z1, .slice (some ⟨wd213ccc.heap.size, 0, none⟩) 2 2, .slice none 0 0] rfl rfl rfl (by have := FF.2.1.1; have := FF.2.2.1; omega) (by omega) (by omega) ?_
            intro v' w7 hO7 hg7 hv7
            obtain ⟨A7, c7, rfl⟩ := (Row.mk hO7).form
            have hu7 := FF.1.1.2.1
            have hb7 := fun k e => FF.1.1.lt k e
            have hm7 := FF.1.2
            have K4l := K4.lt
            have R7 := R.row hg7 (fun e => by have := hb7 _ e.symm; omega)
            have Rb7 := Rb.row hg7 (fun e => by have := hm7 _ e.symm; omega)
            have hRw7 := hRw.row hg7 (fun k e e2 => by have := hm7 _ e2; have := (hRw.lt _ e).1; omega)
            have S07 := S0.row C hg7 hu7
            have O07 := O0.row C hg7 hu7 (fun k e e2 => by have := hm7 _ e2; have := (O0.1.lt _ e).1; omega)
            have FR7 := FR.row C hg7 hu7
            have K47 := K4.row hg7 (fun e => by have := hm7 _ e.symm; omega)
            have FT7 := FF.2.1.row C hg7 hu7
            have O7 := FF.1.1.push C hO7 hv7
            have G7 := G.row hg7 (fun k e => by have := hb7 k e; omega)
            have C7 := C.row hg7 (fun k e => by have := hb7 k e; have := hC.lt; omega)
            have hg7s := hg7.size
            have hn7 : (Value.slice A7 (m.length + 1) c7).ownBlock ≠ some rb := fun e => by
              rcases hv7 with h7 | ⟨k7, h7, h8⟩
              · have := hm7 _ (h7 ▸ e); omega
              · rw [h7] at e; injection e with e; omega
            refine hK.out _ _ (Rb7.1) (fun hHeld => ?_)
            clear hK K
            try simp only [Act.put, List.setIfInBounds_toArray, List.set_cons_zero, List.set_cons_succ]
            refine wpAnyH_take (i := 15) (oi := ⟨some 63, _, _, _, _, _⟩) (v := ?_) rfl (by kernel_rfl) (by kernel_rfl) (by kernel_rfl) (fun _ _ _ h => h) (Or.inl ⟨by rfl, ?_⟩) (by assumption) ?_
            case refine_2 => (intro w hSw; skip; go_simp; first | done | with_reducible rfl)
            simp only [Act.put, List.setIfInBounds_toArray, List.set_cons_zero, List.set_cons_succ]
            refine wpAnyH_done (by kernel_rfl) ?_ _
            refine relQ_normal ?_
            refine wpOp_step (o := ⟨none, _, _, _, _, _⟩) rfl (fun K hK => ?_)
            have pc0 := Rb7.cell
            have pf0 := Rb7.frozen
            go_simp
            go_wp2_with fail
            go_meet
            have hgR7 := hRw7.lt gR rfl
            have hOl7 := fun k e => O7.lt k e
            have hb4R : (Value.slice (some ⟨gR, 0, none⟩) (lr.length + 1) cV).ownBlock ≠ some rb := fun e => by injection e with e; have e2 : gR = rb := e; omega
            exact addFn R7 Rb7 hRw7 S07 O07 FR7 K47 FT7 O7 C7 G7 ⟨by omega, by omega, by omega⟩ ⟨hb4R, fun e => by injection e with e; have e2 : gR = wd213ccc.heap.size := e; omega, fun e => by injection e with e; have e2 : gR = w.heap.size := e; omega⟩ ⟨fun e => by have := h0h _ e; omega, fun e => by have := h0h _ e; omega, fun e => by have := (O07.1.lt _ e).1; omega⟩ ⟨hn7, fun e => by rcases hv7 with h7 | ⟨k7, h7, h8⟩; (have := hm7 _ (h7 ▸ e); omega); (rw [h7] at e; injection e with e; omega), fun e => by have := (hOl7 _ e).1; omega⟩ ⟨by omega, by omega, by omega, by have := G.sz; omega, by omega⟩ (by omega) (by have := HM2.out; omega) hx0 hA0 hLr FF.2.2.2
        · go_simp
          go_wp2_with fail
          refine hK.out _ _ (Rb.1.alloc (.cells #[.string ⟨#[97]⟩, .string ⟨#[98]⟩] 9)) (fun hHeld => ?_)
          clear hK K
          have K3 := Bx.new C 9 #[.string ⟨#[97]⟩, .string ⟨#[98]⟩]
          replace R := R.alloc (.cells #[.string ⟨#[97]⟩, .string ⟨#[98]⟩] 9)
          replace Rb := Rb.alloc (.cells #[.string ⟨#[97]⟩, .string ⟨#[98]⟩] 9)
          replace hRw := hRw.alloc (.cells #[.string ⟨#[97]⟩, .string ⟨#[98]⟩] 9)
          replace S0 := S0.alloc C (.cells #[.string ⟨#[97]⟩, .string ⟨#[98]⟩] 9)
          replace O0 := O0.alloc C (.cells #[.string ⟨#[97]⟩, .string ⟨#[98]⟩] 9)
          replace FR := FR.alloc C (.cells #[.string ⟨#[97]⟩, .string ⟨#[98]⟩] 9)
          replace FF := FF.alloc C (.cells #[.string ⟨#[97]⟩, .string ⟨#[98]⟩] 9)
          replace G := G.alloc (.cells #[.string ⟨#[97]⟩, .string ⟨#[98]⟩] 9)
          replace K2 := K2.alloc (.cells #[.string ⟨#[97]⟩, .string ⟨#[98]⟩] 9)
          replace C := C.alloc (.cells #[.string ⟨#[97]⟩, .string ⟨#[98]⟩] 9)
          generalize wd2.alloc (.cells #[.string ⟨#[97]⟩, .string ⟨#[98]⟩] 9) = wd23 at R Rb hRw S0 O0 FR FF G K2 K3 C hHeld ⊢
          try simp only [Act.put, List.setIfInBounds_toArray, List.set_cons_zero, List.set_cons_succ]
          refine wpAnyH_ready (rs := [3]) (by kernel_rfl) (by simp) ?_
          refine AllReadyH.cons (o := ⟨some 51, _, _, _, _, _⟩) rfl (fun K hK => ?_) AllReadyH.nil
          go_simp
          go_wp2_with fail
          refine hK.out _ _ (Rb.1.alloc (.cells #[.string ⟨#[102]⟩, .string ⟨#[104]⟩, .string ⟨#[]⟩, .string ⟨#[112, 114, 105, 110, 116]⟩, .string ⟨#[116]⟩] 9)) (fun hHeld => ?_)
          clear hK K
          have K1 := Bx.new C 9 #[.string ⟨#[102]⟩, .string ⟨#[104]⟩, .string ⟨#[]⟩, .string ⟨#[112, 114, 105, 110, 116]⟩, .string ⟨#[116]⟩]
          replace R := R.alloc (.cells #[.string ⟨#[102]⟩, .string ⟨#[104]⟩, .string ⟨#[]⟩, .string ⟨#[112, 114, 105, 110, 116]⟩, .string ⟨#[116]⟩] 9)
          replace Rb := Rb.alloc (.cells #[.string ⟨#[102]⟩, .string ⟨#[104]⟩, .string ⟨#[]⟩, .string ⟨#[112, 114, 105, 110, 116]⟩, .string ⟨#[116]⟩] 9)
          replace hRw := hRw.alloc (.cells #[.string ⟨#[102]⟩, .string ⟨#[104]⟩, .string ⟨#[]⟩, .string ⟨#[112, 114, 105, 110, 116]⟩, .string ⟨#[116]⟩] 9)
          replace S0 := S0.alloc C (.cells #[.string ⟨#[102]⟩, .string ⟨#[104]⟩, .string ⟨#[]⟩, .string ⟨#[112, 114, 105, 110, 116]⟩, .string ⟨#[116]⟩] 9)
          replace O0 := O0.alloc C (.cells #[.string ⟨#[102]⟩, .string ⟨#[104]⟩, .string ⟨#[]⟩, .string ⟨#[112, 114, 105, 110, 116]⟩, .string ⟨#[116]⟩] 9)
          replace FR := FR.alloc C (.cells #[.string ⟨#[102]⟩, .string ⟨#[104]⟩, .string ⟨#[]⟩, .string ⟨#[112, 114, 105, 110, 116]⟩, .string ⟨#[116]⟩] 9)
          replace FF := FF.alloc C (.cells #[.string ⟨#[102]⟩, .string ⟨#[104]⟩, .string ⟨#[]⟩, .string ⟨#[112, 114, 105, 110, 116]⟩, .string ⟨#[116]⟩] 9)
          replace G := G.alloc (.cells #[.string ⟨#[102]⟩, .string ⟨#[104]⟩, .string ⟨#[]⟩, .string ⟨#[112, 114, 105, 110, 116]⟩, .string ⟨#[116]⟩] 9)
          replace K2 := K2.alloc (.cells #[.string ⟨#[102]⟩, .string ⟨#[104]⟩, .string ⟨#[]⟩, .string ⟨#[112, 114, 105, 110, 116]⟩, .string ⟨#[116]⟩] 9)
          replace K3 := K3.alloc (.cells #[.string ⟨#[102]⟩, .string ⟨#[104]⟩, .string ⟨#[]⟩, .string ⟨#[112, 114, 105, 110, 116]⟩, .string ⟨#[116]⟩] 9)
          replace C := C.alloc (.cells #[.string ⟨#[102]⟩, .string ⟨#[104]⟩, .string ⟨#[]⟩, .string ⟨#[112, 114, 105, 110, 116]⟩, .string ⟨#[116]⟩] 9)
          generalize wd23.alloc (.cells #[.string ⟨#[102]⟩, .string ⟨#[104]⟩, .string ⟨#[]⟩, .string ⟨#[112, 114, 105, 110, 116]⟩, .string ⟨#[116]⟩] 9) = wd231 at R Rb hRw S0 O0 FR FF G K2 K3 K1 C hHeld ⊢
          try simp only [Act.put, List.setIfInBounds_toArray, List.set_cons_zero, List.set_cons_succ]
          refine wpAnyH_ready (rs := [4]) (by kernel_rfl) (by simp) ?_
          refine AllReadyH.cons (o := ⟨some 52, _, _, _, _, _⟩) rfl (fun K hK => ?_) AllReadyH.nil
          go_simp
          refine (cStr wd23.heap.size 5 [⟨#[102]⟩, ⟨#[104]⟩, ⟨#[]⟩, ⟨#[112, 114, 105, 110, 116]⟩, ⟨#[116]⟩] C rfl (by omega) (by omega) K1.1 (by have := K1.2.2; omega)).mono ?_; rintro e wd231c ⟨⟨z1, rfl, _⟩, C5, G5⟩
          go_wp2_with fail
          refine hK.out _ _ ((Rb.gro G5).1) (fun hHeld => ?_)
          clear hK K
          clear K1
          replace R := R.gro G5
          replace Rb := Rb.gro G5
          replace hRw := hRw.gro G5
          replace S0 := S0.gro C G5
          replace O0 := O0.gro C G5
          replace FR := FR.gro C G5
          replace FF := FF.gro C G5
          replace G := G.trans G5
          replace K2 := K2.gro G5
          replace K3 := K3.gro G5
          clear C
          have C := C5
          clear C5
          clear G5
          try simp only [Act.put, List.setIfInBounds_toArray, List.set_cons_zero, List.set_cons_succ]
          refine wpAnyH_ready (rs := [7]) (by kernel_rfl) (by simp) ?_
          refine AllReadyH.cons (o := ⟨some 55, _, _, _, _, _⟩) rfl (fun K hK => ?_) AllReadyH.nil
          go_simp
          refine (cStr wd.heap.size 3 [⟨#[97]⟩, ⟨#[116]⟩, ⟨#[102]⟩] C rfl (by omega) (by omega) K2.1 (by have := K2.2.2; omega)).mono ?_; rintro e wd231cc ⟨⟨z2, rfl, _⟩, C5, G5⟩
          go_wp2_with fail
          refine hK.out _ _ ((Rb.gro G5).1) (fun hHeld => ?_)
          clear hK K
          clear K2
          replace R := R.gro G5
          replace Rb := Rb.gro G5
          replace hRw := hRw.gro G5
          replace S0 := S0.gro C G5
          replace O0 := O0.gro C G5
          replace FR := FR.gro C G5
          replace FF := FF.gro C G5
          replace G := G.trans G5
          replace K3 := K3.gro G5
          clear C
          have C := C5
          clear C5
          clear G5
          try simp only [Act.put, List.setIfInBounds_toArray, List.set_cons_zero, List.set_cons_succ]
          refine wpAnyH_ready (rs := [10]) (by kernel_rfl) (by simp) ?_
          refine AllReadyH.cons (o := ⟨some 58, _, _, _, _, _⟩) rfl (fun K hK => ?_) AllReadyH.nil
          go_simp
          refine (cStr wd2.heap.size 2 [⟨#[97]⟩, ⟨#[98]⟩] C rfl (by omega) (by omega) K3.1 (by have := K3.2.2; omega)).mono ?_; rintro e wd231ccc ⟨⟨z3, rfl, _⟩, C5, G5⟩
          go_wp2_with fail
          refine hK.out _ _ ((Rb.gro G5).1) (fun hHeld => ?_)
          clear hK K
          clear K3
          replace R := R.gro G5
          replace Rb := Rb.gro G5
          replace hRw := hRw.gro G5
          replace S0 := S0.gro C G5
          replace O0 := O0.gro C G5
          replace FR := FR.gro C G5
          replace FF := FF.gro C G5
          replace G := G.trans G5
          clear C
          have C := C5
          clear C5
          clear G5
          try simp only [Act.put, List.setIfInBounds_toArray, List.set_cons_zero, List.set_cons_succ]
          refine wpAnyH_ready (rs := [11]) (by kernel_rfl) (by simp) ?_
          refine AllReadyH.cons (o := ⟨some 59, _, _, _, _, _⟩) rfl (fun K hK => ?_) AllReadyH.nil
          go_simp
          go_wp2_with fail
          refine hK.out _ _ (Rb.1.alloc (.cells #[.string z2, .string z3] 9)) (fun hHeld => ?_)
          clear hK K
          have hrbl := Rb.lt
          have K4 := Bx.new C 9 #[.string z2, .string z3]
          replace R := R.alloc (.cells #[.string z2, .string z3] 9)
          replace Rb := Rb.alloc (.cells #[.string z2, .string z3] 9)
          replace hRw := hRw.alloc (.cells #[.string z2, .string z3] 9)
          replace S0 := S0.alloc C (.cells #[.string z2, .string z3] 9)
          replace O0 := O0.alloc C (.cells #[.string z2, .string z3] 9)
          replace FR := FR.alloc C (.cells #[.string z2, .string z3] 9)
          replace FF := FF.alloc C (.cells #[.string z2, .string z3] 9)
          replace G := G.alloc (.cells #[.string z2, .string z3] 9)
          replace C := C.alloc (.cells #[.string z2, .string z3] 9)
          generalize wd231ccc.alloc (.cells #[.string z2, .string z3] 9) = wd231cccy at R Rb hRw S0 O0 FR FF G K4 C hHeld ⊢
          try simp only [Act.put, List.setIfInBounds_toArray, List.set_cons_zero, List.set_cons_succ]
          refine wpAnyH_take (i := 12) (oi := ⟨some 60, _, _, _, _, _⟩) (v := ?_) rfl (by kernel_rfl) (by kernel_rfl) (by kernel_rfl) (fun _ _ _ h => h) (Or.inl ⟨by rfl, ?_⟩) (by assumption) ?_
          case refine_2 => (intro w hSw; skip; go_simp; first | done | with_reducible rfl)
          simp only [Act.put, List.setIfInBounds_toArray, List.set_cons_zero, List.set_cons_succ]
          refine wpAnyH_ready (rs := [13]) (by kernel_rfl) (by simp) ?_
          refine AllReadyH.cons (o := ⟨some 61, _, _, _, _, _⟩) rfl (fun K hK => ?_) AllReadyH.nil
          go_simp
          go_wp2_with fail
          refine hK.out _ _ (Rb.1.alloc (.cells #[.string z1, .slice (some ⟨wd231ccc.heap.size, 0, none⟩) 2 2, .slice none 0 0] 59)) (fun hHeld => ?_)
          clear hK K
          try simp only [Act.put, List.setIfInBounds_toArray, List.set_cons_zero, List.set_cons_succ]
          refine wpAnyH_ready (rs := [14]) (by kernel_rfl) (by simp) ?_
          refine AllReadyH.cons (o := ⟨some 62, _, _, _, _, _⟩) rfl (fun K hK => ?_) AllReadyH.nil
          have hrbl2 := Rb.lt
          refine step_pushB (w := wd231cccy) rfl (.tmp 49) (.tmp 61) 35 rfl (w.heap.size + 1) 59 j0 (.agg #[.string ⟨#[]⟩, .slice none 0 0, .slice none 0 0]) 3 64 Try.underlying35 hj hy0 hy1 hy2 rfl (by decide) (Value.slice AF m.length cF) _ _ rfl FF.1.1.1 [.string z1, .slice (some ⟨wd231ccc.heap.size, 0, none⟩) 2 2, .slice none 0 0] rfl rfl rfl (by have := FF.2.1.1; have := FF.2.2.1; omega) (by omega) (by omega) ?_
          intro v' w7 hO7 hg7 hv7
          obtain ⟨A7, c7, rfl⟩ := (Row.mk hO7).form
          have hu7 := FF.1.1.2.1
          have hb7 := fun k e => FF.1.1.lt k e
          have hm7 := FF.1.2
          have K4l := K4.lt
          have R7 := R.row hg7 (fun e => by have := hb7 _ e.symm; omega)
          have Rb7 := Rb.row hg7 (fun e => by have := hm7 _ e.symm; omega)
          have hRw7 := hRw.row hg7 (fun k e e2 => by have := hm7 _ e2; have := (hRw.lt _ e).1; omega)
          have S07 := S0.row C hg7 hu7
          have O07 := O0.row C hg7 hu7 (fun k e e2 => by have := hm7 _ e2; have := (O0.1.lt _ e).1; omega)
          have FR7 := FR.row C hg7 hu7
          have K47 := K4.row hg7 (fun e => by have := hm7 _ e.symm; omega)
          have FT7 := FF.2.1.row C hg7 hu7
          have O7 := FF.1.1.push C hO7 hv7
          have G7 := G.row hg7 (fun k e => by have := hb7 k e; omega)
          have C7 := C.row hg7 (fun k e => by have := hb7 k e; have := hC.lt; omega)
          have hg7s := hg7.size
          have hn7 : (Value.slice A7 (m.length + 1) c7).ownBlock ≠ some rb := fun e => by
            rcases hv7 with h7 | ⟨k7, h7, h8⟩
            · have := hm7 _ (h7 ▸ e); omega
            · rw [h7] at e; injection e with e; omega
          refine hK.out _ _ (Rb7.1) (fun hHeld => ?_)
          clear hK K
          try simp only [Act.put, List.setIfInBounds_toArray, List.set_cons_zero, List.set_cons_succ]
          refine wpAnyH_take (i := 15) (oi := ⟨some 63, _, _, _, _, _⟩) (v := ?_) rfl (by kernel_rfl) (by kernel_rfl) (by kernel_rfl) (fun _ _ _ h => h) (Or.inl ⟨by rfl, ?_⟩) (by assumption) ?_
          case refine_2 => (intro w hSw; skip; go_simp; first | done | with_reducible rfl)
          simp only [Act.put, List.setIfInBounds_toArray, List.set_cons_zero, List.set_cons_succ]
          refine wpAnyH_done (by kernel_rfl) ?_ _
          refine relQ_normal ?_
          refine wpOp_step (o := ⟨none, _, _, _, _, _⟩) rfl (fun K hK => ?_)
          have pc0 := Rb7.cell
          have pf0 := Rb7.frozen
          go_simp
          go_wp2_with fail
          go_meet
          have hgR7 := hRw7.lt gR rfl
          have hOl7 := fun k e => O7.lt k e
          have hb4R : (Value.slice (some ⟨gR, 0, none⟩) (lr.length + 1) cV).ownBlock ≠ some rb := fun e => by injection e with e; have e2 : gR = rb := e; omega
          exact addFn R7 Rb7 hRw7 S07 O07 FR7 K47 FT7 O7 C7 G7 ⟨by omega, by omega, by omega⟩ ⟨hb4R, fun e => by injection e with e; have e2 : gR = wd231ccc.heap.size := e; omega, fun e => by injection e with e; have e2 : gR = w.heap.size := e; omega⟩ ⟨fun e => by have := h0h _ e; omega, fun e => by have := h0h _ e; omega, fun e => by have := (O07.1.lt _ e).1; omega⟩ ⟨hn7, fun e => by rcases hv7 with h7 | ⟨k7, h7, h8⟩; (have := hm7 _ (h7 ▸ e); omega); (rw [h7] at e; injection e with e; omega), fun e => by have := (hOl7 _ e).1; omega⟩ ⟨by omega, by omega, by omega, by have := G.sz; omega, by omega⟩ (by omega) (by have := HM2.out; omega) hx0 hA0 hLr FF.2.2.2
      · go_simp
        go_wp2_with fail
        refine hK.out _ _ (Rb.1.alloc (.cells #[.string ⟨#[97]⟩, .string ⟨#[98]⟩] 9)) (fun hHeld => ?_)
        clear hK K
        have K3 := Bx.new C 9 #[.string ⟨#[97]⟩, .string ⟨#[98]⟩]
        replace R := R.alloc (.cells #[.string ⟨#[97]⟩, .string ⟨#[98]⟩] 9)
        replace Rb := Rb.alloc (.cells #[.string ⟨#[97]⟩, .string ⟨#[98]⟩] 9)
        replace hRw := hRw.alloc (.cells #[.string ⟨#[97]⟩, .string ⟨#[98]⟩] 9)
        replace S0 := S0.alloc C (.cells #[.string ⟨#[97]⟩, .string ⟨#[98]⟩] 9)
        replace O0 := O0.alloc C (.cells #[.string ⟨#[97]⟩, .string ⟨#[98]⟩] 9)
        replace FR := FR.alloc C (.cells #[.string ⟨#[97]⟩, .string ⟨#[98]⟩] 9)
        replace FF := FF.alloc C (.cells #[.string ⟨#[97]⟩, .string ⟨#[98]⟩] 9)
        replace G := G.alloc (.cells #[.string ⟨#[97]⟩, .string ⟨#[98]⟩] 9)
        replace C := C.alloc (.cells #[.string ⟨#[97]⟩, .string ⟨#[98]⟩] 9)
        generalize wd.alloc (.cells #[.string ⟨#[97]⟩, .string ⟨#[98]⟩] 9) = wd3 at R Rb hRw S0 O0 FR FF G K3 C hHeld ⊢
        try simp only [Act.put, List.setIfInBounds_toArray, List.set_cons_zero, List.set_cons_succ]
        refine wpAnyH_ready (rs := [3, 6]) (by kernel_rfl) (by simp) ?_
        refine AllReadyH.cons (o := ⟨some 51, _, _, _, _, _⟩) rfl (fun K hK => ?_) (AllReadyH.cons (o := ⟨some 54, _, _, _, _, _⟩) rfl (fun K hK => ?_) AllReadyH.nil)
        · go_simp
          go_wp2_with fail
          refine hK.out _ _ (Rb.1.alloc (.cells #[.string ⟨#[102]⟩, .string ⟨#[104]⟩, .string ⟨#[]⟩, .string ⟨#[112, 114, 105, 110, 116]⟩, .string ⟨#[116]⟩] 9)) (fun hHeld => ?_)
          clear hK K
          have K1 := Bx.new C 9 #[.string ⟨#[102]⟩, .string ⟨#[104]⟩, .string ⟨#[]⟩, .string ⟨#[112, 114, 105, 110, 116]⟩, .string ⟨#[116]⟩]
          replace R := R.alloc (.cells #[.string ⟨#[102]⟩, .string ⟨#[104]⟩, .string ⟨#[]⟩, .string ⟨#[112, 114, 105, 110, 116]⟩, .string ⟨#[116]⟩] 9)
          replace Rb := Rb.alloc (.cells #[.string ⟨#[102]⟩, .string ⟨#[104]⟩, .string ⟨#[]⟩, .string ⟨#[112, 114, 105, 110, 116]⟩, .string ⟨#[116]⟩] 9)
          replace hRw := hRw.alloc (.cells #[.string ⟨#[102]⟩, .string ⟨#[104]⟩, .string ⟨#[]⟩, .string ⟨#[112, 114, 105, 110, 116]⟩, .string ⟨#[116]⟩] 9)
          replace S0 := S0.alloc C (.cells #[.string ⟨#[102]⟩, .string ⟨#[104]⟩, .string ⟨#[]⟩, .string ⟨#[112, 114, 105, 110, 116]⟩, .string ⟨#[116]⟩] 9)
          replace O0 := O0.alloc C (.cells #[.string ⟨#[102]⟩, .string ⟨#[104]⟩, .string ⟨#[]⟩, .string ⟨#[112, 114, 105, 110, 116]⟩, .string ⟨#[116]⟩] 9)
          replace FR := FR.alloc C (.cells #[.string ⟨#[102]⟩, .string ⟨#[104]⟩, .string ⟨#[]⟩, .string ⟨#[112, 114, 105, 110, 116]⟩, .string ⟨#[116]⟩] 9)
          replace FF := FF.alloc C (.cells #[.string ⟨#[102]⟩, .string ⟨#[104]⟩, .string ⟨#[]⟩, .string ⟨#[112, 114, 105, 110, 116]⟩, .string ⟨#[116]⟩] 9)
          replace G := G.alloc (.cells #[.string ⟨#[102]⟩, .string ⟨#[104]⟩, .string ⟨#[]⟩, .string ⟨#[112, 114, 105, 110, 116]⟩, .string ⟨#[116]⟩] 9)
          replace K3 := K3.alloc (.cells #[.string ⟨#[102]⟩, .string ⟨#[104]⟩, .string ⟨#[]⟩, .string ⟨#[112, 114, 105, 110, 116]⟩, .string ⟨#[116]⟩] 9)
          replace C := C.alloc (.cells #[.string ⟨#[102]⟩, .string ⟨#[104]⟩, .string ⟨#[]⟩, .string ⟨#[112, 114, 105, 110, 116]⟩, .string ⟨#[116]⟩] 9)
          generalize wd3.alloc (.cells #[.string ⟨#[102]⟩, .string ⟨#[104]⟩, .string ⟨#[]⟩, .string ⟨#[112, 114, 105, 110, 116]⟩, .string ⟨#[116]⟩] 9) = wd31 at R Rb hRw S0 O0 FR FF G K3 K1 C hHeld ⊢
          try simp only [Act.put, List.setIfInBounds_toArray, List.set_cons_zero, List.set_cons_succ]
          refine wpAnyH_ready (rs := [4, 6]) (by kernel_rfl) (by simp) ?_
          refine AllReadyH.cons (o := ⟨some 52, _, _, _, _, _⟩) rfl (fun K hK => ?_) (AllReadyH.cons (o := ⟨some 54, _, _, _, _, _⟩) rfl (fun K hK => ?_) AllReadyH.nil)
          · go_simp
            refine (cStr wd3.heap.size 5 [⟨#[102]⟩, ⟨#[104]⟩, ⟨#[]⟩, ⟨#[112, 114, 105, 110, 116]⟩, ⟨#[116]⟩] C rfl (by omega) (by omega) K1.1 (by have := K1.2.2; omega)).mono ?_; rintro e wd31c ⟨⟨z1, rfl, _⟩, C5, G5⟩
            go_wp2_with fail
            refine hK.out _ _ ((Rb.gro G5).1) (fun hHeld => ?_)
            clear hK K
            clear K1
            replace R := R.gro G5
            replace Rb := Rb.gro G5
            replace hRw := hRw.gro G5
            replace S0 := S0.gro C G5
            replace O0 := O0.gro C G5
            replace FR := FR.gro C G5
            replace FF := FF.gro C G5
            replace G := G.trans G5
            replace K3 := K3.gro G5
            clear C
            have C := C5
            clear C5
            clear G5
            try simp only [Act.put, List.setIfInBounds_toArray, List.set_cons_zero, List.set_cons_succ]
            refine wpAnyH_ready (rs := [6]) (by kernel_rfl) (by simp) ?_
            refine AllReadyH.cons (o := ⟨some 54, _, _, _, _, _⟩) rfl (fun K hK => ?_) AllReadyH.nil
            go_simp
            go_wp2_with fail
            refine hK.out _ _ (Rb.1.alloc (.cells #[.string ⟨#[97]⟩, .string ⟨#[116]⟩, .string ⟨#[102]⟩] 9)) (fun hHeld => ?_)
            clear hK K
            have K2 := Bx.new C 9 #[.string ⟨#[97]⟩, .string ⟨#[116]⟩, .string ⟨#[102]⟩]
            replace R := R.alloc (.cells #[.string ⟨#[97]⟩, .string ⟨#[116]⟩, .string ⟨#[102]⟩] 9)
            replace Rb := Rb.alloc (.cells #[.string ⟨#[97]⟩, .string ⟨#[116]⟩, .string ⟨#[102]⟩] 9)
            replace hRw := hRw.alloc (.cells #[.string ⟨#[97]⟩, .string ⟨#[116]⟩, .string ⟨#[102]⟩] 9)
            replace S0 := S0.alloc C (.cells #[.string ⟨#[97]⟩, .string ⟨#[116]⟩, .string ⟨#[102]⟩] 9)
            replace O0 := O0.alloc C (.cells #[.string ⟨#[97]⟩, .string ⟨#[116]⟩, .string ⟨#[102]⟩] 9)
            replace FR := FR.alloc C (.cells #[.string ⟨#[97]⟩, .string ⟨#[116]⟩, .string ⟨#[102]⟩] 9)
            replace FF := FF.alloc C (.cells #[.string ⟨#[97]⟩, .string ⟨#[116]⟩, .string ⟨#[102]⟩] 9)
            replace G := G.alloc (.cells #[.string ⟨#[97]⟩, .string ⟨#[116]⟩, .string ⟨#[102]⟩] 9)
            replace K3 := K3.alloc (.cells #[.string ⟨#[97]⟩, .string ⟨#[116]⟩, .string ⟨#[102]⟩] 9)
            replace C := C.alloc (.cells #[.string ⟨#[97]⟩, .string ⟨#[116]⟩, .string ⟨#[102]⟩] 9)
            generalize wd31c.alloc (.cells #[.string ⟨#[97]⟩, .string ⟨#[116]⟩, .string ⟨#[102]⟩] 9) = wd31c2 at R Rb hRw S0 O0 FR FF G K3 K2 C hHeld ⊢
            try simp only [Act.put, List.setIfInBounds_toArray, List.set_cons_zero, List.set_cons_succ]
            refine wpAnyH_ready (rs := [7]) (by kernel_rfl) (by simp) ?_
            refine AllReadyH.cons (o := ⟨some 55, _, _, _, _, _⟩) rfl (fun K hK => ?_) AllReadyH.nil
            go_simp
            refine (cStr wd31c.heap.size 3 [⟨#[97]⟩, ⟨#[116]⟩, ⟨#[102]⟩] C rfl (by omega) (by omega) K2.1 (by have := K2.2.2; omega)).mono ?_; rintro e wd31c2c ⟨⟨z2, rfl, _⟩, C5, G5⟩
            go_wp2_with fail
            refine hK.out _ _ ((Rb.gro G5).1) (fun hHeld => ?_)
            clear hK K
            clear K2
            replace R := R.gro G5
            replace Rb := Rb.gro G5
            replace hRw := hRw.gro G5
            replace S0 := S0.gro C G5
            replace O0 := O0.gro C G5
            replace FR := FR.gro C G5
            replace FF := FF.gro C G5
            replace G := G.trans G5
            replace K3 := K3.gro G5
            clear C
            have C := C5
            clear C5
            clear G5
            try simp only [Act.put, List.setIfInBounds_toArray, List.set_cons_zero, List.set_cons_succ]
            refine wpAnyH_ready (rs := [10]) (by kernel_rfl) (by simp) ?_
            refine AllReadyH.cons (o := ⟨some 58, _, _, _, _, _⟩) rfl (fun K hK => ?_) AllReadyH.nil
            go_simp
            refine (cStr wd.heap.size 2 [⟨#[97]⟩, ⟨#[98]⟩] C rfl (by omega) (by omega) K3.1 (by have := K3.2.2; omega)).mono ?_; rintro e wd31c2cc ⟨⟨z3, rfl, _⟩, C5, G5⟩
            go_wp2_with fail
            refine hK.out _ _ ((Rb.gro G5).1) (fun hHeld => ?_)
            clear hK K
            clear K3
            replace R := R.gro G5
            replace Rb := Rb.gro G5
            replace hRw := hRw.gro G5
            replace S0 := S0.gro C G5
            replace O0 := O0.gro C G5
            replace FR := FR.gro C G5
            replace FF := FF.gro C G5
            replace G := G.trans G5
            clear C
            have C := C5
            clear C5
            clear G5
            try simp only [Act.put, List.setIfInBounds_toArray, List.set_cons_zero, List.set_cons_succ]
            refine wpAnyH_ready (rs := [11]) (by kernel_rfl) (by simp) ?_
            refine AllReadyH.cons (o := ⟨some 59, _, _, _, _, _⟩) rfl (fun K hK => ?_) AllReadyH.nil
            go_simp
            go_wp2_with fail
            refine hK.out _ _ (Rb.1.alloc (.cells #[.string z2, .string z3] 9)) (fun hHeld => ?_)
            clear hK K
            have hrbl := Rb.lt
            have K4 := Bx.new C 9 #[.string z2, .string z3]
            replace R := R.alloc (.cells #[.string z2, .string z3] 9)
            replace Rb := Rb.alloc (.cells #[.string z2, .string z3] 9)
            replace hRw := hRw.alloc (.cells #[.string z2, .string z3] 9)
            replace S0 := S0.alloc C (.cells #[.string z2, .string z3] 9)
            replace O0 := O0.alloc C (.cells #[.string z2, .string z3] 9)
            replace FR := FR.alloc C (.cells #[.string z2, .string z3] 9)
            replace FF := FF.alloc C (.cells #[.string z2, .string z3] 9)
            replace G := G.alloc (.cells #[.string z2, .string z3] 9)
            replace C := C.alloc (.cells #[.string z2, .string z3] 9)
            generalize wd31c2cc.alloc (.cells #[.string z2, .string z3] 9) = wd31c2ccy at R Rb hRw S0 O0 FR FF G K4 C hHeld ⊢
            try simp only [Act.put, List.setIfInBounds_toArray, List.set_cons_zero, List.set_cons_succ]
            refine wpAnyH_take (i := 12) (oi := ⟨some 60, _, _, _, _, _⟩) (v := ?_) rfl (by kernel_rfl) (by kernel_rfl) (by kernel_rfl) (fun _ _ _ h => h) (Or.inl ⟨by rfl, ?_⟩) (by assumption) ?_
            case refine_2 => (intro w hSw; skip; go_simp; first | done | with_reducible rfl)
            simp only [Act.put, List.setIfInBounds_toArray, List.set_cons_zero, List.set_cons_succ]
            refine wpAnyH_ready (rs := [13]) (by kernel_rfl) (by simp) ?_
            refine AllReadyH.cons (o := ⟨some 61, _, _, _, _, _⟩) rfl (fun K hK => ?_) AllReadyH.nil
            go_simp
            go_wp2_with fail
            refine hK.out _ _ (Rb.1.alloc (.cells #[.string z1, .slice (some ⟨wd31c2cc.heap.size, 0, none⟩) 2 2, .slice none 0 0] 59)) (fun hHeld => ?_)
            clear hK K
            try simp only [Act.put, List.setIfInBounds_toArray, List.set_cons_zero, List.set_cons_succ]
            refine wpAnyH_ready (rs := [14]) (by kernel_rfl) (by simp) ?_
            refine AllReadyH.cons (o := ⟨some 62, _, _, _, _, _⟩) rfl (fun K hK => ?_) AllReadyH.nil
            have hrbl2 := Rb.lt
            refine step_pushB (w := wd31c2ccy) rfl (.tmp 49) (.tmp 61) 35 rfl (w.heap.size + 1) 59 j0 (.agg #[.string ⟨#[]⟩, .slice none 0 0, .slice none 0 0]) 3 64 Try.underlying35 hj hy0 hy1 hy2 rfl (by decide) (Value.slice AF m.length cF) _ _ rfl FF.1.1.1 [.string z1, .slice (some ⟨wd31c2cc.heap.size, 0, none⟩) 2 2, .slice none 0 0] rfl rfl rfl (by have := FF.2.1.1; have := FF.2.2.1; omega) (by omega) (by omega) ?_
            intro v' w7 hO7 hg7 hv7
            obtain ⟨A7, c7, rfl⟩ := (Row.mk hO7).form
            have hu7 := FF.1.1.2.1
            have hb7 := fun k e => FF.1.1.lt k e
            have hm7 := FF.1.2
            have K4l := K4.lt
            have R7 := R.row hg7 (fun e => by have := hb7 _ e.symm; omega)
            have Rb7 := Rb.row hg7 (fun e => by have := hm7 _ e.symm; omega)
            have hRw7 := hRw.row hg7 (fun k e e2 => by have := hm7 _ e2; have := (hRw.lt _ e).1; omega)
            have S07 := S0.row C hg7 hu7
            have O07 := O0.row C hg7 hu7 (fun k e e2 => by have := hm7 _ e2; have := (O0.1.lt _ e).1; omega)
            have FR7 := FR.row C hg7 hu7
            have K47 := K4.row hg7 (fun e => by have := hm7 _ e.symm; omega)
            have FT7 := FF.2.1.row C hg7 hu7
            have O7 := FF.1.1.push C hO7 hv7
            have G7 := G.row hg7 (fun k e => by have := hb7 k e; omega)
            have C7 := C.row hg7 (fun k e => by have := hb7 k e; have := hC.lt; omega)
            have hg7s := hg7.size
            have hn7 : (Value.slice A7 (m.length + 1) c7).ownBlock ≠ some rb := fun e => by
              rcases hv7 with h7 | ⟨k7, h7, h8⟩
              · have := hm7 _ (h7 ▸ e); omega
              · rw [h7] at e; injection e with e; omega
            refine hK.out _ _ (Rb7.1) (fun hHeld => ?_)
            clear hK K
            try simp only [Act.put, List.setIfInBounds_toArray, List.set_cons_zero, List.set_cons_succ]
            refine wpAnyH_take (i := 15) (oi := ⟨some 63, _, _, _, _, _⟩) (v := ?_) rfl (by kernel_rfl) (by kernel_rfl) (by kernel_rfl) (fun _ _ _ h => h) (Or.inl ⟨by rfl, ?_⟩) (by assumption) ?_
            case refine_2 => (intro w hSw; skip; go_simp; first | done | with_reducible rfl)
            simp only [Act.put, List.setIfInBounds_toArray, List.set_cons_zero, List.set_cons_succ]
            refine wpAnyH_done (by kernel_rfl) ?_ _
            refine relQ_normal ?_
            refine wpOp_step (o := ⟨none, _, _, _, _, _⟩) rfl (fun K hK => ?_)
            have pc0 := Rb7.cell
            have pf0 := Rb7.frozen
            go_simp
            go_wp2_with fail
            go_meet
            have hgR7 := hRw7.lt gR rfl
            have hOl7 := fun k e => O7.lt k e
            have hb4R : (Value.slice (some ⟨gR, 0, none⟩) (lr.length + 1) cV).ownBlock ≠ some rb := fun e => by injection e with e; have e2 : gR = rb := e; omega
            exact addFn R7 Rb7 hRw7 S07 O07 FR7 K47 FT7 O7 C7 G7 ⟨by omega, by omega, by omega⟩ ⟨hb4R, fun e => by injection e with e; have e2 : gR = wd31c2cc.heap.size := e; omega, fun e => by injection e with e; have e2 : gR = w.heap.size := e; omega⟩ ⟨fun e => by have := h0h _ e; omega, fun e => by have := h0h _ e; omega, fun e => by have := (O07.1.lt _ e).1; omega⟩ ⟨hn7, fun e => by rcases hv7 with h7 | ⟨k7, h7, h8⟩; (have := hm7 _ (h7 ▸ e); omega); (rw [h7] at e; injection e with e; omega), fun e => by have := (hOl7 _ e).1; omega⟩ ⟨by omega, by omega, by omega, by have := G.sz; omega, by omega⟩ (by omega) (by have := HM2.out; omega) hx0 hA0 hLr FF.2.2.2
          · go_simp
            go_wp2_with fail
            refine hK.out _ _ (Rb.1.alloc (.cells #[.string ⟨#[97]⟩, .string ⟨#[116]⟩, .string ⟨#[102]⟩] 9)) (fun hHeld => ?_)
            clear hK K
            have K2 := Bx.new C 9 #[.string ⟨#[97]⟩, .string ⟨#[116]⟩, .string ⟨#[102]⟩]
            replace R := R.alloc (.cells #[.string ⟨#[97]⟩, .string ⟨#[116]⟩, .string ⟨#[102]⟩] 9)
            replace Rb := Rb.alloc (.cells #[.string ⟨#[97]⟩, .string ⟨#[116]⟩, .string ⟨#[102]⟩] 9)
            replace hRw := hRw.alloc (.cells #[.string ⟨#[97]⟩, .string ⟨#[116]⟩, .string ⟨#[102]⟩] 9)
            replace S0 := S0.alloc C (.cells #[.string ⟨#[97]⟩, .string ⟨#[116]⟩, .string ⟨#[102]⟩] 9)
            replace O0 := O0.alloc C (.cells #[.string ⟨#[97]⟩, .string ⟨#[116]⟩, .string ⟨#[102]⟩] 9)
            replace FR := FR.alloc C (.cells #[.string ⟨#[97]⟩, .string ⟨#[116]⟩, .string ⟨#[102]⟩] 9)
            replace FF := FF.alloc C (.cells #[.string ⟨#[97]⟩, .string ⟨#[116]⟩, .string ⟨#[102]⟩] 9)
            replace G := G.alloc (.cells #[.string ⟨#[97]⟩, .string ⟨#[116]⟩, .string ⟨#[102]⟩] 9)
            replace K3 := K3.alloc (.cells #[.string ⟨#[97]⟩, .string ⟨#[116]⟩, .string ⟨#[102]⟩] 9)
            replace K1 := K1.alloc (.cells #[.string ⟨#[97]⟩, .string ⟨#[116]⟩, .string ⟨#[102]⟩] 9)
            replace C := C.alloc (.cells #[.string ⟨#[97]⟩, .string ⟨#[116]⟩, .string ⟨#[102]⟩] 9)
            generalize wd31.alloc (.cells #[.string ⟨#[97]⟩, .string ⟨#[116]⟩, .string ⟨#[102]⟩] 9) = wd312 at R Rb hRw S0 O0 FR FF G K3 K1 K2 C hHeld ⊢
            try simp only [Act.put, List.setIfInBounds_toArray, List.set_cons_zero, List.set_cons_succ]
            refine wpAnyH_ready (rs := [4]) (by kernel_rfl) (by simp) ?_
            refine AllReadyH.cons (o := ⟨some 52, _, _, _, _, _⟩) rfl (fun K hK => ?_) AllReadyH.nil
            go_simp
            refine (cStr wd3.heap.size 5 [⟨#[102]⟩, ⟨#[104]⟩, ⟨#[]⟩, ⟨#[112, 114, 105, 110, 116]⟩, ⟨#[116]⟩] C rfl (by omega) (by omega) K1.1 (by have := K1.2.2; omega)).mono ?_; rintro e wd312c ⟨⟨z1, rfl, _⟩, C5, G5⟩
            go_wp2_with fail
            refine hK.out _ _ ((Rb.gro G5).1) (fun hHeld => ?_)
            clear hK K
            clear K1
            replace R := R.gro G5
            replace Rb := Rb.gro G5
            replace hRw := hRw.gro G5
            replace S0 := S0.gro C G5
            replace O0 := O0.gro C G5
            replace FR := FR.gro C G5
            replace FF := FF.gro C G5
            replace G := G.trans G5
            replace K3 := K3.gro G5
            replace K2 := K2.gro G5
            clear C
            have C := C5
            clear C5
            clear G5
            try simp only [Act.put, List.setIfInBounds_toArray, List.set_cons_zero, List.set_cons_succ]
            refine wpAnyH_ready (rs := [7]) (by kernel_rfl) (by simp) ?_
            refine AllReadyH.cons (o := ⟨some 55, _, _, _, _, _⟩) rfl (fun K hK => ?_) AllReadyH.nil
            go_simp
            refine (cStr wd31.heap.size 3 [⟨#[97]⟩, ⟨#[116]⟩, ⟨#[102]⟩] C rfl (by omega) (by omega) K2.1 (by have := K2.2.2; omega)).mono ?_; rintro e wd312cc ⟨⟨z2, rfl, _⟩, C5, G5⟩
            go_wp2_with fail
            refine hK.out _ _ ((Rb.gro G5).1) (fun hHeld => ?_)
            clear hK K
            clear K2
            replace R := R.gro G5
            replace Rb := Rb.gro G5
            replace hRw := hRw.gro G5
            replace S0 := S0.gro C G5
            replace O0 := O0.gro C G5
            replace FR := FR.gro C G5
            replace FF := FF.gro C G5
            replace G := G.trans G5
            replace K3 := K3.gro G5
            clear C
            have C := C5
            clear C5
            clear G5
            try simp only [Act.put, List.setIfInBounds_toArray, List.set_cons_zero, List.set_cons_succ]
            refine wpAnyH_ready (rs := [10]) (by kernel_rfl) (by simp) ?_
            refine AllReadyH.cons (o := ⟨some 58, _, _, _, _, _⟩) rfl (fun K hK => ?_) AllReadyH.nil
            go_simp
            refine (cStr wd.heap.size 2 [⟨#[97]⟩, ⟨#[98]⟩] C rfl (by omega) (by omega) K3.1 (by have := K3.2.2; omega)).mono ?_; rintro e wd312ccc ⟨⟨z3, rfl, _⟩, C5, G5⟩
            go_wp2_with fail
            refine hK.out _ _ ((Rb.gro G5).1) (fun hHeld => ?_)
            clear hK K
            clear K3
            replace R := R.gro G5
            replace Rb := Rb.gro G5
            replace hRw := hRw.gro G5
            replace S0 := S0.gro C G5
            replace O0 := O0.gro C G5
            replace FR := FR.gro C G5
            replace FF := FF.gro C G5
            replace G := G.trans G5
            clear C
            have C := C5
            clear C5
            clear G5
            try simp only [Act.put, List.setIfInBounds_toArray, List.set_cons_zero, List.set_cons_succ]
            refine wpAnyH_ready (rs := [11]) (by kernel_rfl) (by simp) ?_
            refine AllReadyH.cons (o := ⟨some 59, _, _, _, _, _⟩) rfl (fun K hK => ?_) AllReadyH.nil
            go_simp
            go_wp2_with fail
            refine hK.out _ _ (Rb.1.alloc (.cells #[.string z2, .string z3] 9)) (fun hHeld => ?_)
            clear hK K
            have hrbl := Rb.lt
            have K4 := Bx.new C 9 #[.string z2, .string z3]
            replace R := R.alloc (.cells #[.string z2, .string z3] 9)
            replace Rb := Rb.alloc (.cells #[.string z2, .string z3] 9)
            replace hRw := hRw.alloc (.cells #[.string z2, .string z3] 9)
            replace S0 := S0.alloc C (.cells #[.string z2, .string z3] 9)
            replace O0 := O0.alloc C (.cells #[.string z2, .string z3] 9)
            replace FR := FR.alloc C (.cells #[.string z2, .string z3] 9)
            replace FF := FF.alloc C (.cells #[.string z2, .string z3] 9)
            replace G := G.alloc (.cells #[.string z2, .string z3] 9)
            replace C := C.alloc (.cells #[.string z2, .string z3] 9)
            generalize wd312ccc.alloc (.cells #[.string z2, .string z3] 9) = wd312cccy at R Rb hRw S0 O0 FR FF G K4 C hHeld ⊢
            try simp only [Act.put, List.setIfInBounds_toArray, List.set_cons_zero, List.set_cons_succ]
            refine wpAnyH_take (i := 12) (oi := ⟨some 60, _, _, _, _, _⟩) (v := ?_) rfl (by kernel_rfl) (by kernel_rfl) (by kernel_rfl) (fun _ _ _ h => h) (Or.inl ⟨by rfl, ?_⟩) (by assumption) ?_
            case refine_2 => (intro w hSw; skip; go_simp; first | done | with_reducible rfl)
            simp only [Act.put, List.setIfInBounds_toArray, List.set_cons_zero, List.set_cons_succ]
            refine wpAnyH_ready (rs := [13]) (by kernel_rfl) (by simp) ?_
            refine AllReadyH.cons (o := ⟨some 61, _, _, _, _, _⟩) rfl (fun K hK => ?_) AllReadyH.nil
            go_simp
            go_wp2_with fail
            refine hK.out _ _ (Rb.1.alloc (.cells #[.string z1, .slice (some ⟨wd312ccc.heap.size, 0, none⟩) 2 2, .slice none 0 0] 59)) (fun hHeld => ?_)
            clear hK K
            try simp only [Act.put, List.setIfInBounds_toArray, List.set_cons_zero, List.set_cons_succ]
            refine wpAnyH_ready (rs := [14]) (by kernel_rfl) (by simp) ?_
            refine AllReadyH.cons (o := ⟨some 62, _, _, _, _, _⟩) rfl (fun K hK => ?_) AllReadyH.nil
            have hrbl2 := Rb.lt
            refine step_pushB (w := wd312cccy) rfl (.tmp 49) (.tmp 61) 35 rfl (w.heap.size + 1) 59 j0 (.agg #[.string ⟨#[]⟩, .slice none 0 0, .slice none 0 0]) 3 64 Try.underlying35 hj hy0 hy1 hy2 rfl (by decide) (Value.slice AF m.length cF) _ _ rfl FF.1.1.1 [.string z1, .slice (some ⟨wd312ccc.heap.size, 0, none⟩) 2 2, .slice none 0 0] rfl rfl rfl (by have := FF.2.1.1; have := FF.2.2.1; omega) (by omega) (by omega) ?_
            intro v' w7 hO7 hg7 hv7
            obtain ⟨A7, c7, rfl⟩ := (Row.mk hO7).form
            have hu7 := FF.1.1.2.1
            have hb7 := fun k e => FF.1.1.lt k e
            have hm7 := FF.1.2
            have K4l := K4.lt
            have R7 := R.row hg7 (fun e => by have := hb7 _ e.symm; omega)
            have Rb7 := Rb.row hg7 (fun e => by have := hm7 _ e.symm; omega)
            have hRw7 := hRw.row hg7 (fun k e e2 => by have := hm7 _ e2; have := (hRw.lt _ e).1; omega)
            have S07 := S0.row C hg7 hu7
            have O07 := O0.row C hg7 hu7 (fun k e e2 => by have := hm7 _ e2; have := (O0.1.lt _ e).1; omega)
            have FR7 := FR.row C hg7 hu7
            have K47 := K4.row hg7 (fun e => by have := hm7 _ e.symm; omega)
            have FT7 := FF.2.1.row C hg7 hu7
            have O7 := FF.1.1.push C hO7 hv7
            have G7 := G.row hg7 (fun k e => by have := hb7 k e; omega)
            have C7 := C.row hg7 (fun k e => by have := hb7 k e; have := hC.lt; omega)
            have hg7s := hg7.size
            have hn7 : (Value.slice A7 (m.length + 1) c7).ownBlock ≠ some rb := fun e => by
              rcases hv7 with h7 | ⟨k7, h7, h8⟩
              · have := hm7 _ (h7 ▸ e); omega
              · rw [h7] at e; injection e with e; omega
            refine hK.out _ _ (Rb7.1) (fun hHeld => ?_)
            clear hK K
            try simp only [Act.put, List.setIfInBounds_toArray, List.set_cons_zero, List.set_cons_succ]
            refine wpAnyH_take (i := 15) (oi := ⟨some 63, _, _, _, _, _⟩) (v := ?_) rfl (by kernel_rfl) (by kernel_rfl) (by kernel_rfl) (fun _ _ _ h => h) (Or.inl ⟨by rfl, ?_⟩) (by assumption) ?_
            case refine_2 => (intro w hSw; skip; go_simp; first | done | with_reducible rfl)
            simp only [Act.put, List.setIfInBounds_toArray, List.set_cons_zero, List.set_cons_succ]
            refine wpAnyH_done (by kernel_rfl) ?_ _
            refine relQ_normal ?_
            refine wpOp_step (o := ⟨none, _, _, _, _, _⟩) rfl (fun K hK => ?_)
            have pc0 := Rb7.cell
            have pf0 := Rb7.frozen
            go_simp
            go_wp2_with fail
            go_meet
            have hgR7 := hRw7.lt gR rfl
            have hOl7 := fun k e => O7.lt k e
            have hb4R : (Value.slice (some ⟨gR, 0, none⟩) (lr.length + 1) cV).ownBlock ≠ some rb := fun e => by injection e with e; have e2 : gR = rb := e; omega
            exact addFn R7 Rb7 hRw7 S07 O07 FR7 K47 FT7 O7 C7 G7 ⟨by omega, by omega, by omega⟩ ⟨hb4R, fun e => by injection e with e; have e2 : gR = wd312ccc.heap.size := e; omega, fun e => by injection e with e; have e2 : gR = w.heap.size := e; omega⟩ ⟨fun e => by have := h0h _ e; omega, fun e => by have := h0h _ e; omega, fun e => by have := (O07.1.lt _ e).1; omega⟩ ⟨hn7, fun e => by rcases hv7 with h7 | ⟨k7, h7, h8⟩; (have := hm7 _ (h7 ▸ e); omega); (rw [h7] at e; injection e with e; omega), fun e => by have := (hOl7 _ e).1; omega⟩ ⟨by omega, by omega, by omega, by have := G.sz; omega, by omega⟩ (by omega) (by have := HM2.out; omega) hx0 hA0 hLr FF.2.2.2
        · go_simp
          go_wp2_with fail
          refine hK.out _ _ (Rb.1.alloc (.cells #[.string ⟨#[97]⟩, .string ⟨#[116]⟩, .string ⟨#[102]⟩] 9)) (fun hHeld => ?_)
          clear hK K
          have K2 := Bx.new C 9 #[.string ⟨#[97]⟩, .string ⟨#[116]⟩, .string ⟨#[102]⟩]
          replace R := R.alloc (.cells #[.string ⟨#[97]⟩, .string ⟨#[116]⟩, .string ⟨#[102]⟩] 9)
          replace Rb := Rb.alloc (.cells #[.string ⟨#[97]⟩, .string ⟨#[116]⟩, .string ⟨#[102]⟩] 9)
          replace hRw := hRw.alloc (.cells #[.string ⟨#[97]⟩, .string ⟨#[116]⟩, .string ⟨#[102]⟩] 9)
          replace S0 := S0.alloc C (.cells #[.string ⟨#[97]⟩, .string ⟨#[116]⟩, .string ⟨#[102]⟩] 9)
          replace O0 := O0.alloc C (.cells #[.string ⟨#[97]⟩, .string ⟨#[116]⟩, .string ⟨#[102]⟩] 9)
          replace FR := FR.alloc C (.cells #[.string ⟨#[97]⟩, .string ⟨#[116]⟩, .string ⟨#[102]⟩] 9)
          replace FF := FF.alloc C (.cells #[.string ⟨#[97]⟩, .string ⟨#[116]⟩, .string ⟨#[102]⟩] 9)
          replace G := G.alloc (.cells #[.string ⟨#[97]⟩, .string ⟨#[116]⟩, .string ⟨#[102]⟩] 9)
          replace K3 := K3.alloc (.cells #[.string ⟨#[97]⟩, .string ⟨#[116]⟩, .string ⟨#[102]⟩] 9)
          replace C := C.alloc (.cells #[.string ⟨#[97]⟩, .string ⟨#[116]⟩, .string ⟨#[102]⟩] 9)
          generalize wd3.alloc (.cells #[.string ⟨#[97]⟩, .string ⟨#[116]⟩, .string ⟨#[102]⟩] 9) = wd32 at R Rb hRw S0 O0 FR FF G K3 K2 C hHeld ⊢
          try simp only [Act.put, List.setIfInBounds_toArray, List.set_cons_zero, List.set_cons_succ]
          refine wpAnyH_ready (rs := [3]) (by kernel_rfl) (by simp) ?_
          refine AllReadyH.cons (o := ⟨some 51, _, _, _, _, _⟩) rfl (fun K hK => ?_) AllReadyH.nil
          go_simp
          go_wp2_with fail
          refine hK.out _ _ (Rb.1.alloc (.cells #[.string ⟨#[102]⟩, .string ⟨#[104]⟩, .string ⟨#[]⟩, .string ⟨#[112, 114, 105, 110, 116]⟩, .string ⟨#[116]⟩] 9)) (fun hHeld => ?_)
          clear hK K
          have K1 := Bx.new C 9 #[.string ⟨#[102]⟩, .string ⟨#[104]⟩, .string ⟨#[]⟩, .string ⟨#[112, 114, 105, 110, 116]⟩, .string ⟨#[116]⟩]
          replace R := R.alloc (.cells #[.string ⟨#[102]⟩, .string ⟨#[104]⟩, .string ⟨#[]⟩, .string ⟨#[112, 114, 105, 110, 116]⟩, .string ⟨#[116]⟩] 9)
          replace Rb := Rb.alloc (.cells #[.string ⟨#[102]⟩, .string ⟨#[104]⟩, .string ⟨#[]⟩, .string ⟨#[112, 114, 105, 110, 116]⟩, .string ⟨#[116]⟩] 9)
          replace hRw := hRw.alloc (.cells #[.string ⟨#[102]⟩, .string ⟨#[104]⟩, .string ⟨#[]⟩, .string ⟨#[112, 114, 105, 110, 116]⟩, .string ⟨#[116]⟩] 9)
          replace S0 := S0.alloc C (.cells #[.string ⟨#[102]⟩, .string ⟨#[104]⟩, .string ⟨#[]⟩, .string ⟨#[112, 114, 105, 110, 116]⟩, .string ⟨#[116]⟩] 9)
          replace O0 := O0.alloc C (.cells #[.string ⟨#[102]⟩, .string ⟨#[104]⟩, .string ⟨#[]⟩, .string ⟨#[112, 114, 105, 110, 116]⟩, .string ⟨#[116]⟩] 9)
          replace FR := FR.alloc C (.cells #[.string ⟨#[102]⟩, .string ⟨#[104]⟩, .string ⟨#[]⟩, .string ⟨#[112, 114, 105, 110, 116]⟩, .string ⟨#[116]⟩] 9)
          replace FF := FF.alloc C (.cells #[.string ⟨#[102]⟩, .string ⟨#[104]⟩, .string ⟨#[]⟩, .string ⟨#[112, 114, 105, 110, 116]⟩, .string ⟨#[116]⟩] 9)
          replace G := G.alloc (.cells #[.string ⟨#[102]⟩, .string ⟨#[104]⟩, .string ⟨#[]⟩, .string ⟨#[112, 114, 105, 110, 116]⟩, .string ⟨#[116]⟩] 9)
          replace K3 := K3.alloc (.cells #[.string ⟨#[102]⟩, .string ⟨#[104]⟩, .string ⟨#[]⟩, .string ⟨#[112, 114, 105, 110, 116]⟩, .string ⟨#[116]⟩] 9)
          replace K2 := K2.alloc (.cells #[.string ⟨#[102]⟩, .string ⟨#[104]⟩, .string ⟨#[]⟩, .string ⟨#[112, 114, 105, 110, 116]⟩, .string ⟨#[116]⟩] 9)
          replace C := C.alloc (.cells #[.string ⟨#[102]⟩, .string ⟨#[104]⟩, .string ⟨#[]⟩, .string ⟨#[112, 114, 105, 110, 116]⟩, .string ⟨#[116]⟩] 9)
          generalize wd32.alloc (.cells #[.string ⟨#[102]⟩, .string ⟨#[104]⟩, .string ⟨#[]⟩, .string ⟨#[112, 114, 105, 110, 116]⟩, .string ⟨#[116]⟩] 9) = wd321 at R Rb hRw S0 O0 FR FF G K3 K2 K1 C hHeld ⊢
          try simp only [Act.put, List.setIfInBounds_toArray, List.set_cons_zero, List.set_cons_succ]
          refine wpAnyH_ready (rs := [4]) (by kernel_rfl) (by simp) ?_
          refine AllReadyH.cons (o := ⟨some 52, _, _, _, _, _⟩) rfl (fun K hK => ?_) AllReadyH.nil
          go_simp
          refine (cStr wd32.heap.size 5 [⟨#[102]⟩, ⟨#[104]⟩, ⟨#[]⟩, ⟨#[112, 114, 105, 110, 116]⟩, ⟨#[116]⟩] C rfl (by omega) (by omega) K1.1 (by have := K1.2.2; omega)).mono ?_; rintro e wd321c ⟨⟨z1, rfl, _⟩, C5, G5⟩
          go_wp2_with fail
          refine hK.out _ _ ((Rb.gro G5).1) (fun hHeld => ?_)
          clear hK K
          clear K1
          replace R := R.gro G5
          replace Rb := Rb.gro G5
          replace hRw := hRw.gro G5
          replace S0 := S0.gro C G5
          replace O0 := O0.gro C G5
          replace FR := FR.gro C G5
          replace FF := FF.gro C G5
          replace G := G.trans G5
          replace K3 := K3.gro G5
          replace K2 := K2.gro G5
          clear C
          have C := C5
          clear C5
          clear G5
          try simp only [Act.put, List.setIfInBounds_toArray, List.set_cons_zero, List.set_cons_succ]
          refine wpAnyH_ready (rs := [7]) (by kernel_rfl) (by simp) ?_
          refine AllReadyH.cons (o := ⟨some 55, _, _, _, _, _⟩) rfl (fun K hK => ?_) AllReadyH.nil
          go_simp
          refine (cStr wd3.heap.size 3 [⟨#[97]⟩, ⟨#[116]⟩, ⟨#[102]⟩] C rfl (by omega) (by omega) K2.1 (by have := K2.2.2; omega)).mono ?_; rintro e wd321cc ⟨⟨z2, rfl, _⟩, C5, G5⟩
          go_wp2_with fail
          refine hK.out _ _ ((Rb.gro G5).1) (fun hHeld => ?_)
          clear hK K
          clear K2
          replace R := R.gro G5
          replace Rb := Rb.gro G5
          replace hRw := hRw.gro G5
          replace S0 := S0.gro C G5
          replace O0 := O0.gro C G5
          replace FR := FR.gro C G5
          replace FF := FF.gro C G5
          replace G := G.trans G5
          replace K3 := K3.gro G5
          clear C
          have C := C5
          clear C5
          clear G5
          try simp only [Act.put, List.setIfInBounds_toArray, List.set_cons_zero, List.set_cons_succ]
          refine wpAnyH_ready (rs := [10]) (by kernel_rfl) (by simp) ?_
          refine AllReadyH.cons (o := ⟨some 58, _, _, _, _, _⟩) rfl (fun K hK => ?_) AllReadyH.nil
          go_simp
          refine (cStr wd.heap.size 2 [⟨#[97]⟩, ⟨#[98]⟩] C rfl (by omega) (by omega) K3.1 (by have := K3.2.2; omega)).mono ?_; rintro e wd321ccc ⟨⟨z3, rfl, _⟩, C5, G5⟩
          go_wp2_with fail
          refine hK.out _ _ ((Rb.gro G5).1) (fun hHeld => ?_)
          clear hK K
          clear K3
          replace R := R.gro G5
          replace Rb := Rb.gro G5
          replace hRw := hRw.gro G5
          replace S0 := S0.gro C G5
          replace O0 := O0.gro C G5
          replace FR := FR.gro C G5
          replace FF := FF.gro C G5
          replace G := G.trans G5
          clear C
          have C := C5
          clear C5
          clear G5
          try simp only [Act.put, List.setIfInBounds_toArray, List.set_cons_zero, List.set_cons_succ]
          refine wpAnyH_ready (rs := [11]) (by kernel_rfl) (by simp) ?_
          refine AllReadyH.cons (o := ⟨some 59, _, _, _, _, _⟩) rfl (fun K hK => ?_) AllReadyH.nil
          go_simp
          go_wp2_with fail
          refine hK.out _ _ (Rb.1.alloc (.cells #[.string z2, .string z3] 9)) (fun hHeld => ?_)
          clear hK K
          have hrbl := Rb.lt
          have K4 := Bx.new C 9 #[.string z2, .string z3]
          replace R := R.alloc (.cells #[.string z2, .string z3] 9)
          replace Rb := Rb.alloc (.cells #[.string z2, .string z3] 9)
          replace hRw := hRw.alloc (.cells #[.string z2, .string z3] 9)
          replace S0 := S0.alloc C (.cells #[.string z2, .string z3] 9)
          replace O0 := O0.alloc C (.cells #[.string z2, .string z3] 9)
          replace FR := FR.alloc C (.cells #[.string z2, .string z3] 9)
          replace FF := FF.alloc C (.cells #[.string z2, .string z3] 9)
          replace G := G.alloc (.cells #[.string z2, .string z3] 9)
          replace C := C.alloc (.cells #[.string z2, .string z3] 9)
          generalize wd321ccc.alloc (.cells #[.string z2, .string z3] 9) = wd321cccy at R Rb hRw S0 O0 FR FF G K4 C hHeld ⊢
          try simp only [Act.put, List.setIfInBounds_toArray, List.set_cons_zero, List.set_cons_succ]
          refine wpAnyH_take (i := 12) (oi := ⟨some 60, _, _, _, _, _⟩) (v := ?_) rfl (by kernel_rfl) (by kernel_rfl) (by kernel_rfl) (fun _ _ _ h => h) (Or.inl ⟨by rfl, ?_⟩) (by assumption) ?_
          case refine_2 => (intro w hSw; skip; go_simp; first | done | with_reducible rfl)
          simp only [Act.put, List.setIfInBounds_toArray, List.set_cons_zero, List.set_cons_succ]
          refine wpAnyH_ready (rs := [13]) (by kernel_rfl) (by simp) ?_
          refine AllReadyH.cons (o := ⟨some 61, _, _, _, _, _⟩) rfl (fun K hK => ?_) AllReadyH.nil
          go_simp
          go_wp2_with fail
          refine hK.out _ _ (Rb.1.alloc (.cells #[.string z1, .slice (some ⟨wd321ccc.heap.size, 0, none⟩) 2 2, .slice none 0 0] 59)) (fun hHeld => ?_)
          clear hK K
          try simp only [Act.put, List.setIfInBounds_toArray, List.set_cons_zero, List.set_cons_succ]
          refine wpAnyH_ready (rs := [14]) (by kernel_rfl) (by simp) ?_
          refine AllReadyH.cons (o := ⟨some 62, _, _, _, _, _⟩) rfl (fun K hK => ?_) AllReadyH.nil
          have hrbl2 := Rb.lt
          refine step_pushB (w := wd321cccy) rfl (.tmp 49) (.tmp 61) 35 rfl (w.heap.size + 1) 59 j0 (.agg #[.string ⟨#[]⟩, .slice none 0 0, .slice none 0 0]) 3 64 Try.underlying35 hj hy0 hy1 hy2 rfl (by decide) (Value.slice AF m.length cF) _ _ rfl FF.1.1.1 [.string z1, .slice (some ⟨wd321ccc.heap.size, 0, none⟩) 2 2, .slice none 0 0] rfl rfl rfl (by have := FF.2.1.1; have := FF.2.2.1; omega) (by omega) (by omega) ?_
          intro v' w7 hO7 hg7 hv7
          obtain ⟨A7, c7, rfl⟩ := (Row.mk hO7).form
          have hu7 := FF.1.1.2.1
          have hb7 := fun k e => FF.1.1.lt k e
          have hm7 := FF.1.2
          have K4l := K4.lt
          have R7 := R.row hg7 (fun e => by have := hb7 _ e.symm; omega)
          have Rb7 := Rb.row hg7 (fun e => by have := hm7 _ e.symm; omega)
          have hRw7 := hRw.row hg7 (fun k e e2 => by have := hm7 _ e2; have := (hRw.lt _ e).1; omega)
          have S07 := S0.row C hg7 hu7
          have O07 := O0.row C hg7 hu7 (fun k e e2 => by have := hm7 _ e2; have := (O0.1.lt _ e).1; omega)
          have FR7 := FR.row C hg7 hu7
          have K47 := K4.row hg7 (fun e => by have := hm7 _ e.symm; omega)
          have FT7 := FF.2.1.row C hg7 hu7
          have O7 := FF.1.1.push C hO7 hv7
          have G7 := G.row hg7 (fun k e => by have := hb7 k e; omega)
          have C7 := C.row hg7 (fun k e => by have := hb7 k e; have := hC.lt; omega)
          have hg7s := hg7.size
          have hn7 : (Value.slice A7 (m.length + 1) c7).ownBlock ≠ some rb := fun e => by
            rcases hv7 with h7 | ⟨k7, h7, h8⟩
            · have := hm7 _ (h7 ▸ e); omega
            · rw [h7] at e; injection e with e; omega
          refine hK.out _ _ (Rb7.1) (fun hHeld => ?_)
          clear hK K
          try simp only [Act.put, List.setIfInBounds_toArray, List.set_cons_zero, List.set_cons_succ]
          refine wpAnyH_take (i := 15) (oi := ⟨some 63, _, _, _, _, _⟩) (v := ?_) rfl (by kernel_rfl) (by kernel_rfl) (by kernel_rfl) (fun _ _ _ h => h) (Or.inl ⟨by rfl, ?_⟩) (by assumption) ?_
          case refine_2 => (intro w hSw; skip; go_simp; first | done | with_reducible rfl)
          simp only [Act.put, List.setIfInBounds_toArray, List.set_cons_zero, List.set_cons_succ]
          refine wpAnyH_done (by kernel_rfl) ?_ _
          refine relQ_normal ?_
          refine wpOp_step (o := ⟨none, _, _, _, _, _⟩) rfl (fun K hK => ?_)
          have pc0 := Rb7.cell
          have pf0 := Rb7.frozen
          go_simp
          go_wp2_with fail
          go_meet
          have hgR7 := hRw7.lt gR rfl
          have hOl7 := fun k e => O7.lt k e
          have hb4R : (Value.slice (some ⟨gR, 0, none⟩) (lr.length + 1) cV).ownBlock ≠ some rb := fun e => by injection e with e; have e2 : gR = rb := e; omega
          exact addFn R7 Rb7 hRw7 S07 O07 FR7 K47 FT7 O7 C7 G7 ⟨by omega, by omega, by omega⟩ ⟨hb4R, fun e => by injection e with e; have e2 : gR = wd321ccc.heap.size := e; omega, fun e => by injection e with e; have e2 : gR = w.heap.size := e; omega⟩ ⟨fun e => by have := h0h _ e; omega, fun e => by have := h0h _ e; omega, fun e => by have := (O07.1.lt _ e).1; omega⟩ ⟨hn7, fun e => by rcases hv7 with h7 | ⟨k7, h7, h8⟩; (have := hm7 _ (h7 ▸ e); omega); (rw [h7] at e; injection e with e; omega), fun e => by have := (hOl7 _ e).1; omega⟩ ⟨by omega, by omega, by omega, by have := G.sz; omega, by omega⟩ (by omega) (by have := HM2.out; omega) hx0 hA0 hLr FF.2.2.2
    have b2 : (xx == 2) = false := by simp [xq2]
    by_cases xq3 : xx = 3
    · subst xq3
      have hgl := hRw.lt gR rfl
      have hug := hRw.2.1 gR rfl
      have hgg := FF.1.1.2.2
      go_upto_region 13 with fail
      refine wp_region_any (by kernel_rfl) ?_
      change wpAny _ _ _ _ (6 + 1) _ _ (World.drew _)
      have bd := (Below.refl w4.heap.size w4).drew
      replace R := R.below bd
      replace Rb := Rb.below bd
      replace hRw := hRw.below bd
      replace S0 := S0.below C bd
      replace O0 := O0.below C bd
      replace FR := FR.below C bd
      replace FF := FF.below C bd
      replace G := G.below bd
      replace C := C.below bd
      clear bd
      generalize w4.drew = wd at R Rb hRw S0 O0 FR FF G C ⊢
      refine wpAny_last 6 _ rfl (by kernel_rfl) (by kernel_rfl) (by kernel_rfl) (by kernel_rfl) 6 _ _ _ (by kernel_rfl) (by kernel_rfl) ?_
      simp only [List.setIfInBounds_toArray, List.set_cons_succ, List.set_cons_zero]
      refine wpAny_of_held (S := fun y => Blk y rb 37 #[(Value.slice (some ⟨gR, 0, none⟩) (lr.length + 1) cV), (Value.slice AF m.length cF)]) _ _ _ _ ?_
      have hHeld : (fun y => Blk y rb 37 #[(Value.slice (some ⟨gR, 0, none⟩) (lr.length + 1) cV), (Value.slice AF m.length cF)] : World → Prop) wd := Rb.1
      refine wpAnyH_take (i := 0) (oi := ⟨some 66, _, _, _, _, _⟩) (v := ?_) rfl (by kernel_rfl) (by kernel_rfl) (by kernel_rfl) (fun _ _ _ h => h) (Or.inl ⟨by rfl, ?_⟩) (by assumption) ?_
      case refine_2 => (intro w hSw; skip; go_simp; first | done | with_reducible rfl)
      simp only [Act.put, List.setIfInBounds_toArray, List.set_cons_zero, List.set_cons_succ]
      refine wpAnyH_take (i := 1) (oi := ⟨some 67, _, _, _, _, _⟩) (v := ?_) rfl (by kernel_rfl) (by kernel_rfl) (by kernel_rfl) (fun _ _ _ h => h) (Or.inl ⟨by rfl, ?_⟩) (by assumption) ?_
      case refine_2 => (intro w hSw; have p := hSw.cell; go_simp; first | done | with_reducible rfl)
      simp only [Act.put, List.setIfInBounds_toArray, List.set_cons_zero, List.set_cons_succ]
      refine wpAnyH_take (i := 2) (oi := ⟨some 68, _, _, _, _, _⟩) (v := ?_) rfl (by kernel_rfl) (by kernel_rfl) (by kernel_rfl) (fun _ _ _ h => h) (Or.inl ⟨by rfl, ?_⟩) (by assumption) ?_
      case refine_2 => (intro w hSw; skip; go_simp; first | done | with_reducible rfl)
      simp only [Act.put, List.setIfInBounds_toArray, List.set_cons_zero, List.set_cons_succ]
      refine wpAnyH_ready (rs := [3]) (by kernel_rfl) (by simp) ?_
      refine AllReadyH.cons (o := ⟨some 69, _, _, _, _, _⟩) rfl (fun K hK => ?_) AllReadyH.nil
      go_simp
      refine (dAny8 B g _ _ C).mono ?_; rintro e w5 ⟨y, yn, ys, ky, Ay, cy, U5, rfl, hky, SY, C5, G5⟩
      go_wp2_with fail
      refine hK.out _ _ ((Rb.gro G5).1) (fun hHeld => ?_)
      clear hK K
      replace R := R.gro G5
      replace Rb := Rb.gro G5
      replace hRw := hRw.gro G5
      replace S0 := S0.gro C G5
      replace O0 := O0.gro C G5
      replace FR := FR.gro C G5
      replace FF := FF.gro C G5
      replace G := G.trans G5
      clear C
      have C := C5
      clear C5
      clear G5
      replace hug := hRw.2.1 gR rfl
      try simp only [Act.put, List.setIfInBounds_toArray, List.set_cons_zero, List.set_cons_succ]
      refine wpAnyH_take (i := 4) (oi := ⟨some 70, _, _, _, _, _⟩) (v := ?_) rfl (by kernel_rfl) (by kernel_rfl) (by kernel_rfl) (fun _ _ _ h => h) (Or.inl ⟨by rfl, ?_⟩) (by assumption) ?_
      case refine_2 => (intro w hSw; skip; go_simp; (try rw [if_pos (by omega)]); first | done | with_reducible rfl)
      simp only [Act.put, List.setIfInBounds_toArray, List.set_cons_zero, List.set_cons_succ]
      refine wpAnyH_take (i := 5) (oi := ⟨some 71, _, _, _, _, _⟩) (v := ?_) rfl (by kernel_rfl) (by kernel_rfl) (by kernel_rfl) (fun _ _ _ h => h) (Or.inl ⟨by rfl, ?_⟩) (by assumption) ?_
      case refine_2 => (intro w hSw; skip; go_simp; first | done | with_reducible rfl)
      simp only [Act.put, List.setIfInBounds_toArray, List.set_cons_zero, List.set_cons_succ]
      refine wpAnyH_done (by kernel_rfl) ?_ _
      refine relQ_normal ?_
      refine wpOp_step (o := ⟨none, _, _, _, _, _⟩) rfl (fun K hK => ?_)
      have q1 := hRw.1.cellAt 1 (by omega)
      have q2 := hRw.1.cellAt 2 (by omega)
      have q3 := hRw.1.cellAt 3 (by omega)
      have q4 := hRw.1.cellAt 4 (by omega)
      have qf := fun j => hRw.1.frozenAt j
      simp only [flat_cons, rlC, List.cons_append, List.getElem?_cons_zero, List.getElem?_cons_succ] at q1 q2 q3 q4
      go_simp
      go_wp2_with fail
      have O9 : Rw g U5 _ mid 54 6 (Value.slice (some ⟨gR, 0, none⟩) (lr.length + 1) cV) (lr.length + 1) (flat rlC ((k0, (y, yn, ys), Value.slice Ay ky.len cy, v0) :: lr)) := ⟨((((hRw.1.stored 1 (.int .i64 y)).1.stored 2 (.int .i64 yn)).1.stored 3 (.string ys)).1.stored 4 (.slice Ay ky.len cy)).1, hRw.2⟩
      clear hRw
      have hRw := O9
      clear S0
      have S0 := SY
      replace R := R.far (b := gR) (j := 1) (by omega) (.int .i64 y)
      replace Rb := Rb.far (b := gR) (j := 1) (by omega) (.int .i64 y)
      replace S0 := S0.setb (b := gR) (j := 1) hug (.int .i64 y)
      replace O0 := O0.setb (b := gR) (j := 1) (fun e => hd0 gR e rfl) hug (.int .i64 y)
      replace FR := FR.setb (b := gR) (j := 1) hug (.int .i64 y)
      replace FF := FF.setb (b := gR) (j := 1) (.inr (by omega)) hug (.int .i64 y)
      replace G := G.setb (b := gR) (j := 1) (by omega) (.int .i64 y)
      replace C := C.setb (b := gR) (j := 1) (by omega) (.int .i64 y)
      replace R := R.far (b := gR) (j := 2) (by omega) (.int .i64 yn)
      replace Rb := Rb.far (b := gR) (j := 2) (by omega) (.int .i64 yn)
      replace S0 := S0.setb (b := gR) (j := 2) hug (.int .i64 yn)
      replace O0 := O0.setb (b := gR) (j := 2) (fun e => hd0 gR e rfl) hug (.int .i64 yn)
      replace FR := FR.setb (b := gR) (j := 2) hug (.int .i64 yn)
      replace FF := FF.setb (b := gR) (j := 2) (.inr (by omega)) hug (.int .i64 yn)
      replace G := G.setb (b := gR) (j := 2) (by omega) (.int .i64 yn)
      replace C := C.setb (b := gR) (j := 2) (by omega) (.int .i64 yn)
      replace R := R.far (b := gR) (j := 3) (by omega) (.string ys)
      replace Rb := Rb.far (b := gR) (j := 3) (by omega) (.string ys)
      replace S0 := S0.setb (b := gR) (j := 3) hug (.string ys)
      replace O0 := O0.setb (b := gR) (j := 3) (fun e => hd0 gR e rfl) hug (.string ys)
      replace FR := FR.setb (b := gR) (j := 3) hug (.string ys)
      replace FF := FF.setb (b := gR) (j := 3) (.inr (by omega)) hug (.string ys)
      replace G := G.setb (b := gR) (j := 3) (by omega) (.string ys)
      replace C := C.setb (b := gR) (j := 3) (by omega) (.string ys)
      replace R := R.far (b := gR) (j := 4) (by omega) (.slice Ay ky.len cy)
      replace Rb := Rb.far (b := gR) (j := 4) (by omega) (.slice Ay ky.len cy)
      replace S0 := S0.setb (b := gR) (j := 4) hug (.slice Ay ky.len cy)
      replace O0 := O0.setb (b := gR) (j := 4) (fun e => hd0 gR e rfl) hug (.slice Ay ky.len cy)
      replace FR := FR.setb (b := gR) (j := 4) hug (.slice Ay ky.len cy)
      replace FF := FF.setb (b := gR) (j := 4) (.inr (by omega)) hug (.slice Ay ky.len cy)
      replace G := G.setb (b := gR) (j := 4) (by omega) (.slice Ay ky.len cy)
      replace C := C.setb (b := gR) (j := 4) (by omega) (.slice Ay ky.len cy)
      have n1 : (Value.slice (some ⟨gR, 0, none⟩) (lr.length + 1) cV).ownBlock ≠ some w.heap.size := fun e => by injection e with e; have e2 : gR = w.heap.size := e; omega
      have n2 : v0.ownBlock ≠ some w.heap.size := fun e => by have := (O0.1.lt _ e).1; omega
      have n3 : (Value.slice AF m.length cF).ownBlock ≠ some w.heap.size := fun e => by have := (FF.1.1.lt _ e).1; omega
      have m1 : (Value.slice (some ⟨gR, 0, none⟩) (lr.length + 1) cV).ownBlock ≠ some rb := fun e => by injection e with e; have e2 : gR = rb := e; omega
      have m2 : v0.ownBlock ≠ some rb := fun e => by have := h0h _ e; omega
      have m3 : (Value.slice AF m.length cF).ownBlock ≠ some rb := fun e => by have := FF.1.2 _ e; omega
      obtain ⟨AR, cR, AF1, cF1, U9, eR, eF, PR, PF, C9, G9, R9, Rb9⟩ := closeP hRw S0 O0 FR FF C G (by omega) (by omega) (by omega) R Rb n1 n2 n3 m1 m2 m3
      rw [eR, eF] at Rb9
      go_meet
      exact ⟨AR, AF1, cR, cF1, (k0, (y, yn, ys), ky, mkSt LA0) :: Lr, M, U9, C9, G9, R9, Rb9, PR, PF, pbnd_of (by have := FR.1; omega) (by omega) (by omega) hLr FF⟩
    have b3 : (xx == 3) = false := by simp [xq3]
    by_cases xq4 : xx = 4
    · subst xq4
      have hgl := hRw.lt gR rfl
      have hug := hRw.2.1 gR rfl
      have hgg := FF.1.1.2.2
      have hcap := (Row.mk FF.1.1.1).cap
      go_upto_region 15 with fail
      refine wp_region_any (by kernel_rfl) ?_
      change wpAny _ _ _ _ (6 + 1) _ _ (World.drew _)
      have bd := (Below.refl w4.heap.size w4).drew
      replace R := R.below bd
      replace Rb := Rb.below bd
      replace hRw := hRw.below bd
      replace S0 := S0.below C bd
      replace O0 := O0.below C bd
      replace FR := FR.below C bd
      replace FF := FF.below C bd
      replace G := G.below bd
      replace C := C.below bd
      clear bd
      generalize w4.drew = wd at R Rb hRw S0 O0 FR FF G C ⊢
      refine wpAny_last 6 _ rfl (by kernel_rfl) (by kernel_rfl) (by kernel_rfl) (by kernel_rfl) 6 _ _ _ (by kernel_rfl) (by kernel_rfl) ?_
      simp only [List.setIfInBounds_toArray, List.set_cons_succ, List.set_cons_zero]
      refine wpAny_of_held (S := fun y => Blk y rb 37 #[(Value.slice (some ⟨gR, 0, none⟩) (lr.length + 1) cV), (Value.slice AF m.length cF)]) _ _ _ _ ?_
      have hHeld : (fun y => Blk y rb 37 #[(Value.slice (some ⟨gR, 0, none⟩) (lr.length + 1) cV), (Value.slice AF m.length cF)] : World → Prop) wd := Rb.1
      refine wpAnyH_take (i := 0) (oi := ⟨some 74, _, _, _, _, _⟩) (v := ?_) rfl (by kernel_rfl) (by kernel_rfl) (by kernel_rfl) (fun _ _ _ h => h) (Or.inl ⟨by rfl, ?_⟩) (by assumption) ?_
      case refine_2 => (intro w hSw; skip; go_simp; first | done | with_reducible rfl)
      simp only [Act.put, List.setIfInBounds_toArray, List.set_cons_zero, List.set_cons_succ]
      refine wpAnyH_take (i := 1) (oi := ⟨some 75, _, _, _, _, _⟩) (v := ?_) rfl (by kernel_rfl) (by kernel_rfl) (by kernel_rfl) (fun _ _ _ h => h) (Or.inl ⟨by rfl, ?_⟩) (by assumption) ?_
      case refine_2 => (intro w hSw; have p := hSw.cell; go_simp; first | done | with_reducible rfl)
      simp only [Act.put, List.setIfInBounds_toArray, List.set_cons_zero, List.set_cons_succ]
      refine wpAnyH_take (i := 2) (oi := ⟨some 76, _, _, _, _, _⟩) (v := ?_) rfl (by kernel_rfl) (by kernel_rfl) (by kernel_rfl) (fun _ _ _ h => h) (Or.inl ⟨by rfl, ?_⟩) (by assumption) ?_
      case refine_2 => (intro w hSw; skip; go_simp; first | done | with_reducible rfl)
      simp only [Act.put, List.setIfInBounds_toArray, List.set_cons_zero, List.set_cons_succ]
      refine wpAnyH_ready (rs := [3]) (by kernel_rfl) (by simp) ?_
      refine AllReadyH.cons (o := ⟨some 77, _, _, _, _, _⟩) rfl (fun K hK => ?_) AllReadyH.nil
      go_simp
      refine (cBelow 2 C (by omega)).mono ?_; rintro e w5 ⟨⟨z, rfl, hz0, hz1, _⟩, C5, G5⟩
      have hz2 := hz1 (by omega)
      clear hz1
      go_wp2_with fail
      refine hK.out _ _ ((Rb.gro G5).1) (fun hHeld => ?_)
      clear hK K
      replace R := R.gro G5
      replace Rb := Rb.gro G5
      replace hRw := hRw.gro G5
      replace S0 := S0.gro C G5
      replace O0 := O0.gro C G5
      replace FR := FR.gro C G5
      replace FF := FF.gro C G5
      replace G := G.trans G5
      clear C
      have C := C5
      clear C5
      clear G5
      obtain ⟨zz, rfl⟩ := Int.eq_ofNat_of_zero_le hz0
      clear hz0
      have hzc : zz ≤ cF := by have h1 := FF.2.1.1; have h2 := HM2.out; omega
      have hzc' : (zz : Int) ≤ (cF : Int) := by omega
      try simp only [Act.put, List.setIfInBounds_toArray, List.set_cons_zero, List.set_cons_succ]
      refine wpAnyH_take (i := 4) (oi := ⟨some 78, _, _, _, _, _⟩) (v := .slice AF zz cF) rfl (by kernel_rfl) (by kernel_rfl) (by kernel_rfl) (fun _ _ _ h => h) (Or.inl ⟨by rfl, ?_⟩) (by assumption) ?_
      case refine_1 => (intro w hSw; go_simp; first | done | (simp; done) | with_reducible rfl)
      simp only [Act.put, List.setIfInBounds_toArray, List.set_cons_zero, List.set_cons_succ]
      refine wpAnyH_take (i := 5) (oi := ⟨some 79, _, _, _, _, _⟩) (v := ?_) rfl (by kernel_rfl) (by kernel_rfl) (by kernel_rfl) (fun _ _ _ h => h) (Or.inl ⟨by rfl, ?_⟩) (by assumption) ?_
      case refine_2 => (intro w hSw; skip; go_simp; first | done | with_reducible rfl)
      simp only [Act.put, List.setIfInBounds_toArray, List.set_cons_zero, List.set_cons_succ]
      refine wpAnyH_done (by kernel_rfl) ?_ _
      refine relQ_normal ?_
      refine wpOp_step (o := ⟨none, _, _, _, _, _⟩) rfl (fun K hK => ?_)
      have pc0 := Rb.cell
      have pf0 := Rb.frozen
      go_simp
      go_wp2_with fail
      go_meet
      have n1 : (Value.slice (some ⟨gR, 0, none⟩) (lr.length + 1) cV).ownBlock ≠ some w.heap.size := fun e => by injection e with e; have e2 : gR = w.heap.size := e; omega
      have n2 : v0.ownBlock ≠ some w.heap.size := fun e => by have := (O0.1.lt _ e).1; omega
      have n3 : (Value.slice AF m.length cF).ownBlock ≠ some w.heap.size := fun e => by have := (FF.1.1.lt _ e).1; omega
      have m1 : (Value.slice (some ⟨gR, 0, none⟩) (lr.length + 1) cV).ownBlock ≠ some rb := fun e => by injection e with e; have e2 : gR = rb := e; omega
      have m2 : v0.ownBlock ≠ some rb := fun e => by have := h0h _ e; omega
      have m3 : (Value.slice AF m.length cF).ownBlock ≠ some rb := fun e => by have := FF.1.2 _ e; omega
      obtain ⟨AR, cR, AF1, cF1, U9, eR, eF, PR, PF, C9, G9, R9, Rb9⟩ := closeP hRw S0 O0 FR FF C G (by omega) (by omega) (by omega) R Rb n1 n2 n3 m1 m2 m3
      rw [eR] at Rb9
      injection eF with e1 e2 e3
      subst e1
      have H := Rb9.set_ 1 (.slice AF zz cF)
      simp only [List.setIfInBounds_toArray, List.set_cons_succ, List.set_cons_zero] at H
      have hzl : (M.take zz).length = zz := by rw [List.length_take]; have h2 := HM2.out; omega
      have PB : PBnd ((k0, a0, x0, mkSt LA0) :: Lr) (M.take zz) := ⟨by have := FR.1; simp; omega, by omega, (pbnd_of (k0 := k0) (a0 := a0) (by have := FR.1; omega) (by omega) (by omega) hLr FF).2.2.1, fun y hy => (pbnd_of (k0 := k0) (a0 := a0) (x0 := x0) (LA0 := LA0) (by have := FR.1; omega) (by omega) (by omega) hLr FF).2.2.2 y (List.mem_of_mem_take hy)⟩
      refine ⟨AR, AF, cR, cF, _, M.take zz, U9, C9.setb Rb9.2.2 _, G9.setb (by omega) _, R9.far (by omega) _, ?_, PR.setb Rb9.2.1 _, (PF.take zz).setb Rb9.2.1 _, PB⟩
      rw [hzl]
      exact H
    have b4 : (xx == 4) = false := by simp [xq4]
    have hgl := hRw.lt gR rfl
    have hug := hRw.2.1 gR rfl
    have hgg := FF.1.1.2.2
    go_wp2_with fail
    have n1 : (Value.slice (some ⟨gR, 0, none⟩) (lr.length + 1) cV).ownBlock ≠ some w.heap.size := fun e => by injection e with e; have e2 : gR = w.heap.size := e; omega
    have n2 : v0.ownBlock ≠ some w.heap.size := fun e => by have := (O0.1.lt _ e).1; omega
    have n3 : (Value.slice AF m.length cF).ownBlock ≠ some w.heap.size := fun e => by have := (FF.1.1.lt _ e).1; omega
    have m1 : (Value.slice (some ⟨gR, 0, none⟩) (lr.length + 1) cV).ownBlock ≠ some rb := fun e => by injection e with e; have e2 : gR = rb := e; omega
    have m2 : v0.ownBlock ≠ some rb := fun e => by have := h0h _ e; omega
    have m3 : (Value.slice AF m.length cF).ownBlock ≠ some rb := fun e => by have := FF.1.2 _ e; omega
    obtain ⟨AR, cR, AF1, cF1, U9, eR, eF, PR, PF, C9, G9, R9, Rb9⟩ := closeP hRw S0 O0 FR FF C G (by omega) (by omega) (by omega) R Rb n1 n2 n3 m1 m2 m3
    rw [eR, eF] at Rb9
    go_meet
    exact ⟨AR, AF1, cR, cF1, (k0, a0, x0, mkSt LA0) :: Lr, M, U9, C9, G9, R9, Rb9, PR, PF, pbnd_of (by have := FR.1; omega) (by omega) (by omega) hLr FF⟩
  case rest =>
    clear Rb R hRw S0 O0 FR FF C G
    obtain ⟨AR, AF, cR, cF, L, M, U1, C, G, R, Rb, PR, PF, PB⟩ := hcut
    have pc0 := Rb.cell
    have pf0 := Rb.frozen
    have pc1 := R.cell
    have pf1 := R.frozen
    go_wp2_with fail
    exact bodyPost_ret (res_cell1 rfl _ _ _ _ _ _ rfl ((R.1.set_ 0 _).set_ 1 _) Try.underlying37 (by kernel_rfl)) rfl ⟨AR, AF, cR, cF, L, M, U1, rfl, (PR.setb R.2.1 _).setb R.2.1 _, (PF.setb R.2.1 _).setb R.2.1 _, PB, (C.setb R.2.2 _).setb R.2.2 _, (G.setb (Nat.le_refl _) _).setb (Nat.le_refl _) _⟩

end Go.Proofs.Ytalnkdbmbjplpaa
