/- Walk over the reference's draws of statements: l9Draw. -/
import Derived.Test.YtalnkdbmbjplpaaS9b
import Derived.Deep.CutRange
import Derived.Deep.CutBlock
import Derived.Deep.RegionHeld3
namespace Go.Proofs.Ytalnkdbmbjplpaa
open Go.RowKit

section
variable {g b base c : Nat} {U : Nat → Prop} {w : World} {k n k' n' : Int} {s s' : ByteArray} {v v' : Value}
theorem Rw.one4 (O : Rw g U w base 26 4 (.slice (some ⟨b, 0, none⟩) 1 c) 1 (flat (rC exprC) [((k, n, s), v)])) : w.cell? ⟨b, 0, none⟩ = some (.int .i64 k) ∧ w.cell? ⟨b, 1, none⟩ = some (.int .i64 n) ∧ w.cell? ⟨b, 2, none⟩ = some (.string s) ∧ w.cell? ⟨b, 3, none⟩ = some v :=
  ⟨O.1.cellAt 0 (by decide), O.1.cellAt 1 (by decide), O.1.cellAt 2 (by decide), O.1.cellAt 3 (by decide)⟩
theorem Rw.call1 (O : Rw g U w base 26 4 (.slice (some ⟨b, 0, none⟩) 1 c) 1 (flat (rC exprC) [((k, n, s), v)])) :
    Rw g U ((((w.setCell ⟨b, 0, none⟩ (.int .i64 k')).setCell ⟨b, 1, none⟩ (.int .i64 n')).setCell ⟨b, 2, none⟩ (.string s')).setCell ⟨b, 3, none⟩ v') base 26 4 (.slice (some ⟨b, 0, none⟩) 1 c) 1 (flat (rC exprC) [((k', n', s'), v')]) :=
  ⟨((((O.1.stored 0 (.int .i64 k')).1.stored 1 (.int .i64 n')).1.stored 2 (.string s')).1.stored 3 v').1, O.2⟩
theorem Blk.new_set (w : World) (p : Addr) (u : Value) (t : TypeId) (cs : Array Value) : Blk ((w.setCell p u).alloc (.cells cs t)) w.heap.size t cs := by
  have := Blk.new (w.setCell p u) t cs
  simpa using this
theorem Rw.freeze {size : Nat} {e : TypeId} {xs : List Value} (h : Rw g U w base e size v c xs) {V : Nat → Prop} (hV : ∀ b, v.ownBlock = some b → ¬ V b) : Rw g (fun b => U b ∨ V b) w base e size v c xs := ⟨h.1, fun b hb e => e.elim (h.2.1 b hb) (hV b hb), h.2.2⟩
theorem Fit.one {α : Type} {f : α → List Value} {a : α} {A : Option Addr} {kids : Fr α} {cc : Nat} (hS : SlP f w U A kids) : Fit f w U [(a, kids)] [(a, .slice A kids.len cc)] := (Fit.nil f w U).snoc hS
end

set_option maxRecDepth 20000 in
set_option maxHeartbeats 16000000 in
theorem dDraw9_step (D : Nat) (hD : D ≤ 4) (fn : Bool) (B g : Nat) (U : Nat → Prop) (w : World) (hC : Cu B g U w)
    (ih : ∀ D', D = D' + 1 → ∀ (U : Nat → Prop) w, Cu B g U w → Calls Try.prog 34 #[.pointer (some ⟨g, 0, none⟩), .int .i64 D', .bool fn] w fun e w' => ROpL (3 * (nS D' + 1)) B g U w e w') :
    Calls Try.prog 32 #[.pointer (some ⟨g, 0, none⟩), .int .i64 D, .bool fn] w fun e w' => ROpS (nS D) B g U w e w' := by
  have IH := Lib.hid ih
  clear ih
  obtain ⟨j0, hj, hy0, hy1, hy2⟩ := info_parts info_Expr
  have R := Bx.new hC 31 #[.int .i64 0, .string ⟨#[]⟩, .string ⟨#[]⟩, .slice none 0 0, .slice none 0 0, .slice none 0 0]
  have C := hC.alloc (.cells #[.int .i64 0, .string ⟨#[]⟩, .string ⟨#[]⟩, .slice none 0 0, .slice none 0 0, .slice none 0 0] 31)
  have G := (Gro.refl g U w).alloc (.cells #[.int .i64 0, .string ⟨#[]⟩, .string ⟨#[]⟩, .slice none 0 0, .slice none 0 0, .slice none 0 0] 31)
  obtain ⟨E, hE⟩ : ∃ E : Int, (D : Int) = E := ⟨_, rfl⟩
  rw [hE]
  go_enter Try.func32, Try.ntmps32
  go_wp2_with fail
  refine (cInt (w.heap.size + 1) 17 [1, 1, 2, 2, 2, 3, 3, 4, 5, 5, 6, 7, 8, 9, 10, 11, 12] (C.alloc _) rfl (by omega) (by omega) (Blk.new2 w _ _ _) (by have := hC.lt; omega)).mono ?_; rintro e w2 ⟨⟨k, rfl, hz⟩, C2, G2⟩
  have hk := (show ∀ z ∈ ([1, 1, 2, 2, 2, 3, 3, 4, 5, 5, 6, 7, 8, 9, 10, 11, 12] : List Int), z = 1 ∨ z = 2 ∨ z = 3 ∨ z = 4 ∨ z = 5 ∨ z = 6 ∨ z = 7 ∨ z = 8 ∨ z = 9 ∨ z = 10 ∨ z = 11 ∨ z = 12 by decide) k hz
  replace R := (R.alloc _).gro G2
  replace G := (G.alloc _).trans G2
  clear hz C
  have C := C2
  clear C2 G2
  go_upto_region 2 with fail
  go_cut [28] from 14 to 28 (fun c wx => ∃ b : Bool, c = .bool b ∧ (b = false → D = 0 → ¬ (5 ≤ k ∧ k ≤ 7)) ∧ Cu B g U wx ∧ Gro g U w U wx ∧ Bx g U wx w.heap.size 31 #[.int .i64 0, .string ⟨#[]⟩, .string ⟨#[]⟩, .slice none 0 0, .slice none 0 0, .slice none 0 0])
  case first =>
    have hcin : ∃ c, (decide ((5 : Int) ≤ k) && decide (k ≤ 7)) = c ∧ (c = false → ¬ (5 ≤ k ∧ k ≤ 7)) := ⟨_, rfl, fun h hh => by simp [hh.1, hh.2] at h⟩
    obtain ⟨c, hc, hcf⟩ := hcin
    have cI := fun w => cIn k 5 7 w
    rw [hc] at cI
    have CI := Lib.hid cI
    have HCF := Lib.hid hcf
    clear cI hc hcf
    by_cases h0 : D = 0
    · subst h0
      obtain rfl : E = 0 := hE.symm
      clear hE
      cases c
      · by_cases h9 : k = 9
        · have b9 : (k == 9) = true := by simp [h9]
          clear h9
          go_wp2_with fail
          refine (CI.out _).mono ?_; rintro e wz ⟨rfl, rfl⟩
          go_wp2_with fail
          refine (cOnce 4 C (by omega)).mono ?_; rintro e w3 ⟨⟨bo, rfl⟩, C3, G3⟩
          go_wp2_with fail
          go_meet
          exact ⟨_, rfl, fun _ _ => HCF.out (by first | rfl | trivial), C3, G.trans G3, R.gro G3⟩
        · have b9 : (k == 9) = false := by simp [h9]
          clear h9
          go_wp2_with fail
          refine (CI.out _).mono ?_; rintro e wz ⟨rfl, rfl⟩
          go_wp2_with fail
          go_meet
          exact ⟨_, rfl, fun _ _ => HCF.out (by first | rfl | trivial), C, G, R⟩
      · go_wp2_with fail
        refine (CI.out _).mono ?_; rintro e wz ⟨rfl, rfl⟩
        go_wp2_with fail
        go_meet
        exact ⟨true, rfl, fun h => (by cases h), C, G, R⟩
    · have e0 : (E == 0) = false := beq_eq_false_iff_ne.2 (by omega)
      by_cases h9 : k = 9
      · have b9 : (k == 9) = true := by simp [h9]
        clear h9
        go_wp2_with fail
        refine (cOnce 4 C (by omega)).mono ?_; rintro e w3 ⟨⟨bo, rfl⟩, C3, G3⟩
        go_wp2_with fail
        go_meet
        exact ⟨_, rfl, fun _ h => absurd h h0, C3, G.trans G3, R.gro G3⟩
      · have b9 : (k == 9) = false := by simp [h9]
        clear h9
        go_wp2_with fail
        go_meet
        exact ⟨false, rfl, fun _ h => absurd h h0, C, G, R⟩
  case rest =>
    clear R C G
    obtain ⟨b, rfl, hb, C, G, R⟩ := hcut
    have HB := Lib.hid hb
    clear hb
    cases b
    · have hbk := Lib.hid (HB.out rfl)
      clear HB
      by_cases h8 : k = 8 ∨ k = 10
      · cases fn
        · rcases h8 with rfl | rfl
          · have hrb0 := R.lt
            have Rb := Bx.new C 31 #[.int .i64 8, .string ⟨#[]⟩, .string ⟨#[]⟩, .slice none 0 0, .slice none 0 0, .slice none 0 0]
            replace R := R.alloc (.cells #[.int .i64 8, .string ⟨#[]⟩, .string ⟨#[]⟩, .slice none 0 0, .slice none 0 0, .slice none 0 0] 31)
            replace G := G.alloc (.cells #[.int .i64 8, .string ⟨#[]⟩, .string ⟨#[]⟩, .slice none 0 0, .slice none 0 0, .slice none 0 0] 31)
            replace C := C.alloc (.cells #[.int .i64 8, .string ⟨#[]⟩, .string ⟨#[]⟩, .slice none 0 0, .slice none 0 0, .slice none 0 0] 31)
            go_upto_block 0 with fail
            generalize wc.alloc (.cells #[.int .i64 8, .string ⟨#[]⟩, .string ⟨#[]⟩, .slice none 0 0, .slice none 0 0, .slice none 0 0] 31) = w4 at Rb R C G ⊢
            generalize wc.heap.size = rb at Rb hrb0 ⊢
            go_wp2_with fail
            go_loopw [10] (fun i wr => ∃ (q : Nat) (L : List ((Int × Int × ByteArray) × Fr (Int × Int × ByteArray))) (l : List ((Int × Int × ByteArray) × Value)) (v : Value) (U1 : Nat → Prop), q ≤ 0 ∧ i = .int .i64 q ∧ Bx g U1 wr rb 31 #[.int .i64 8, .string ⟨#[]⟩, .string ⟨#[]⟩, v, .slice none 0 0, .slice none 0 0] ∧ Bx g U1 wr w.heap.size 31 #[.int .i64 0, .string ⟨#[]⟩, .string ⟨#[]⟩, .slice none 0 0, .slice none 0 0, .slice none 0 0] ∧ Rw g U1 wr (rb + 1) 26 4 v l.length (flat (rC exprC) l) ∧ Fit exprC wr U1 L l ∧ L.length = q ∧ Hid (∀ x ∈ L, x.2.size ≤ 21) ∧ Cu B g U1 wr ∧ Gro g U w U1 wr) (fun i _ => 0 - (intOf i).toNat)
            case atStart => exact ⟨0, [], [], .slice none 0 0, U, Nat.zero_le _, rfl, Rb, R, Rw.nil (by have := Rb.2.2; omega), Fit.nil _ _ _, rfl, fun x hx => (by cases hx), C, G⟩
            case round =>
              clear Rb R C G
              obtain ⟨q, L, l, v, U1, hq, rfl, Rb, R, O, F, hLq0, HL, C, G⟩ := hrel
              obtain ⟨Av, cv, rfl⟩ := O.form
              have hLq := Lib.hid hLq0
              have hll : l.length ≤ 2 := by rw [F.1, hLq0]; omega
              clear hLq0
              by_cases hlt : q < 0
              · have hlt' : (q : Int) < (0 : Int) := by omega
                go_upto_region 31 with fail
                refine wp_region_any (by kernel_rfl) ?_
                change wpAny _ _ _ _ _ _ _ (World.drew _)
                have bd := (Below.refl wr.heap.size wr).drew
                replace F := F.below C bd
                replace O := O.below bd
                replace Rb := Rb.below bd
                replace R := R.below bd
                replace G := G.below bd
                replace C := C.below bd
                clear bd
                generalize wr.drew = wd at F O Rb R G C ⊢
                refine wpAny_take (i := 0) (oi := ⟨some 81, _, _, _, _, _⟩) (v := ?_) rfl (by kernel_rfl) (by kernel_rfl) (by kernel_rfl) (fun _ _ _ h => h) (Or.inl ⟨by rfl, ?_⟩) ?_
                case refine_2 => (intro w; go_simp; first | done | with_reducible rfl)
                simp only [Act.put, List.setIfInBounds_toArray, List.set_cons_zero, List.set_cons_succ]
                refine wpAny_take (i := 2) (oi := ⟨some 83, _, _, _, _, _⟩) (v := ?_) rfl (by kernel_rfl) (by kernel_rfl) (by kernel_rfl) (fun _ _ _ h => h) (Or.inl ⟨by rfl, ?_⟩) ?_
                case refine_2 => (intro w; go_simp; first | done | with_reducible rfl)
                simp only [Act.put, List.setIfInBounds_toArray, List.set_cons_zero, List.set_cons_succ]
                refine wpAny_ready (rs := [1, 3]) (by kernel_rfl) (by simp) ?_
                refine AllReady.cons (o := ⟨some 82, _, _, _, _, _⟩) rfl (fun K hK => ?_) (AllReady.cons (o := ⟨some 84, _, _, _, _, _⟩) rfl (fun K hK => ?_) AllReady.nil)
                · have pc0 := Rb.cell
                  have pf0 := Rb.frozen
                  try have pc1 := (Rb.alloc (.cells #[.int .i64 y, .int .i64 yn, .string ys, .slice Ay ky.len cy] 26)).cell
                  try have pf1 := (Rb.alloc (.cells #[.int .i64 y, .int .i64 yn, .string ys, .slice Ay ky.len cy] 26)).frozen
                  go_simp
                  go_wp2_with fail
                  clear pc0 pf0
                  try clear pc1 pf1
                  try (refine hK _ _ ?_; clear hK K)
                  try simp only [Act.put, List.setIfInBounds_toArray, List.set_cons_zero, List.set_cons_succ]
                  refine wpAny_ready (rs := [3]) (by kernel_rfl) (by simp) ?_
                  refine AllReady.cons (o := ⟨some 84, _, _, _, _, _⟩) rfl (fun K hK => ?_) AllReady.nil
                  go_simp
                  refine (dDraw8 B g 2 (by omega) _ _ C).mono ?_; rintro e w5 ⟨y, yn, ys, ky, Ay, cy, U5, rfl, hky, hSy, C5, G5⟩
                  have HKY := Lib.hid (show ky.size ≤ 21 from hky)
                  clear hky
                  replace Rb := Rb.gro G5
                  replace R := R.gro G5
                  replace O := O.gro G5
                  replace F := F.gro C G5
                  replace G := G.trans G5
                  clear C
                  have C := C5
                  clear C5
                  go_wp2_with fail
                  try (refine hK _ _ ?_; clear hK K)
                  try simp only [Act.put, List.setIfInBounds_toArray, List.set_cons_zero, List.set_cons_succ]
                  refine wpAny_ready (rs := [4]) (by kernel_rfl) (by simp) ?_
                  refine AllReady.cons (o := ⟨some 85, _, _, _, _, _⟩) rfl (fun K hK => ?_) AllReady.nil
                  go_simp
                  go_wp2_with fail
                  try (refine hK _ _ ?_; clear hK K)
                  try simp only [Act.put, List.setIfInBounds_toArray, List.set_cons_zero, List.set_cons_succ]
                  refine wpAny_ready (rs := [5]) (by kernel_rfl) (by simp) ?_
                  refine AllReady.cons (o := ⟨some 86, _, _, _, _, _⟩) rfl (fun K hK => ?_) AllReady.nil
                  refine step_pushB rfl (.tmp 82) (.tmp 85) 24 rfl (rb + 1) 26 j0 (.agg #[.int .i64 0, .int .i64 0, .string ⟨#[]⟩, .slice none 0 0]) 4 56 Try.underlying24 hj hy0 hy1 hy2 rfl (by decide) (Value.slice Av l.length cv) _ _ rfl O.1 [.int .i64 y, .int .i64 yn, .string ys, .slice Ay ky.len cy] rfl rfl rfl (by omega) (by omega) (by have := Rb.lt; omega) ?_
                  intro v' w7 hO7 hg7 hv7
                  obtain ⟨A7, c7, rfl⟩ := (Row.mk hO7).form
                  have hb7 := fun k e => (O.lt k e).1
                  have F7 := (F.snoc (a := (y, yn, ys)) (c := cy) hSy).row C hg7 O.2.1
                  have Rb7 := Rb.row hg7 (fun e => by have := hb7 _ e.symm; omega)
                  have R7 := R.row hg7 (fun e => by have := hb7 _ e.symm; omega)
                  have hgr := Rb.2.2
                  have G7 := G.row hg7 (fun k e => by have := hb7 k e; omega)
                  have O7 := O.push C hO7 hv7
                  have C7 := C.row hg7 (fun k e => by have := hb7 k e; omega)
                  try (refine hK _ _ ?_; clear hK K)
                  try simp only [Act.put, List.setIfInBounds_toArray, List.set_cons_zero, List.set_cons_succ]
                  refine wpAny_take (i := 6) (oi := ⟨some 87, _, _, _, _, _⟩) (v := ?_) rfl (by kernel_rfl) (by kernel_rfl) (by kernel_rfl) (fun _ _ _ h => h) (Or.inl ⟨by rfl, ?_⟩) ?_
                  case refine_2 => (intro w; go_simp; first | done | with_reducible rfl)
                  simp only [Act.put, List.setIfInBounds_toArray, List.set_cons_zero, List.set_cons_succ]
                  refine wpAny_ready (rs := [7]) (by kernel_rfl) (by simp) ?_
                  refine AllReady.cons (o := ⟨none, _, _, _, _, _⟩) rfl (fun K hK => ?_) AllReady.nil
                  have pc0 := Rb7.cell
                  have pf0 := Rb7.frozen
                  go_simp
                  go_wp2_with fail
                  clear pc0 pf0
                  try (refine hK _ _ ?_; clear hK K)
                  try simp only [Act.put, List.setIfInBounds_toArray, List.set_cons_zero, List.set_cons_succ]
                  refine wpAny_done (by kernel_rfl) ?_ _
                  go_wp2_with fail
                  have O8 : Rw g U5 w7 (rb + 1) 26 4 (Value.slice A7 (l.length + 1) c7) (l ++ [((y, yn, ys), Value.slice Ay ky.len cy)]).length (flat (rC exprC) (l ++ [((y, yn, ys), Value.slice Ay ky.len cy)])) := by
                    rw [List.length_append, ← flat_snoc]
                    exact O7
                  have Rb8 := Rb7.set_ 3 (Value.slice A7 (l.length + 1) c7)
                  simp only [List.setIfInBounds_toArray, List.set_cons_succ, List.set_cons_zero] at Rb8
                  go_roundw
                  case rel => exact ⟨q + 1, _, _, _, U5, by omega, by go_num, Rb8, R7.far (by omega) _, O8.setl (Nat.lt_succ_self _) _, F7.setb Rb7.2.1 _, by rw [List.length_append, hLq.out]; rfl, fun x hx => by rcases List.mem_append.1 hx with h | h; exact HL.out x h; (rw [List.mem_singleton.1 h]; exact HKY.out), C7.setb Rb7.2.2 _, G7.setb (by omega) _⟩
                  case measure => (simp [intOf] <;> omega)
                · go_simp
                  refine (dDraw8 B g 2 (by omega) _ _ C).mono ?_; rintro e w5 ⟨y, yn, ys, ky, Ay, cy, U5, rfl, hky, hSy, C5, G5⟩
                  have HKY := Lib.hid (show ky.size ≤ 21 from hky)
                  clear hky
                  replace Rb := Rb.gro G5
                  replace R := R.gro G5
                  replace O := O.gro G5
                  replace F := F.gro C G5
                  replace G := G.trans G5
                  clear C
                  have C := C5
                  clear C5
                  go_wp2_with fail
                  try (refine hK _ _ ?_; clear hK K)
                  try simp only [Act.put, List.setIfInBounds_toArray, List.set_cons_zero, List.set_cons_succ]
                  refine wpAny_ready (rs := [1, 4]) (by kernel_rfl) (by simp) ?_
                  refine AllReady.cons (o := ⟨some 82, _, _, _, _, _⟩) rfl (fun K hK => ?_) (AllReady.cons (o := ⟨some 85, _, _, _, _, _⟩) rfl (fun K hK => ?_) AllReady.nil)
                  · have pc0 := Rb.cell
                    have pf0 := Rb.frozen
                    try have pc1 := (Rb.alloc (.cells #[.int .i64 y, .int .i64 yn, .string ys, .slice Ay ky.len cy] 26)).cell
                    try have pf1 := (Rb.alloc (.cells #[.int .i64 y, .int .i64 yn, .string ys, .slice Ay ky.len cy] 26)).frozen
                    go_simp
                    go_wp2_with fail
                    clear pc0 pf0
                    try clear pc1 pf1
                    try (refine hK _ _ ?_; clear hK K)
                    try simp only [Act.put, List.setIfInBounds_toArray, List.set_cons_zero, List.set_cons_succ]
                    refine wpAny_ready (rs := [4]) (by kernel_rfl) (by simp) ?_
                    refine AllReady.cons (o := ⟨some 85, _, _, _, _, _⟩) rfl (fun K hK => ?_) AllReady.nil
                    go_simp
                    go_wp2_with fail
                    try (refine hK _ _ ?_; clear hK K)
                    try simp only [Act.put, List.setIfInBounds_toArray, List.set_cons_zero, List.set_cons_succ]
                    refine wpAny_ready (rs := [5]) (by kernel_rfl) (by simp) ?_
                    refine AllReady.cons (o := ⟨some 86, _, _, _, _, _⟩) rfl (fun K hK => ?_) AllReady.nil
                    refine step_pushB rfl (.tmp 82) (.tmp 85) 24 rfl (rb + 1) 26 j0 (.agg #[.int .i64 0, .int .i64 0, .string ⟨#[]⟩, .slice none 0 0]) 4 56 Try.underlying24 hj hy0 hy1 hy2 rfl (by decide) (Value.slice Av l.length cv) _ _ rfl O.1 [.int .i64 y, .int .i64 yn, .string ys, .slice Ay ky.len cy] rfl rfl rfl (by omega) (by omega) (by have := Rb.lt; omega) ?_
                    intro v' w7 hO7 hg7 hv7
                    obtain ⟨A7, c7, rfl⟩ := (Row.mk hO7).form
                    have hb7 := fun k e => (O.lt k e).1
                    have F7 := (F.snoc (a := (y, yn, ys)) (c := cy) hSy).row C hg7 O.2.1
                    have Rb7 := Rb.row hg7 (fun e => by have := hb7 _ e.symm; omega)
                    have R7 := R.row hg7 (fun e => by have := hb7 _ e.symm; omega)
                    have hgr := Rb.2.2
                    have G7 := G.row hg7 (fun k e => by have := hb7 k e; omega)
                    have O7 := O.push C hO7 hv7
                    have C7 := C.row hg7 (fun k e => by have := hb7 k e; omega)
                    try (refine hK _ _ ?_; clear hK K)
                    try simp only [Act.put, List.setIfInBounds_toArray, List.set_cons_zero, List.set_cons_succ]
                    refine wpAny_take (i := 6) (oi := ⟨some 87, _, _, _, _, _⟩) (v := ?_) rfl (by kernel_rfl) (by kernel_rfl) (by kernel_rfl) (fun _ _ _ h => h) (Or.inl ⟨by rfl, ?_⟩) ?_
                    case refine_2 => (intro w; go_simp; first | done | with_reducible rfl)
                    simp only [Act.put, List.setIfInBounds_toArray, List.set_cons_zero, List.set_cons_succ]
                    refine wpAny_ready (rs := [7]) (by kernel_rfl) (by simp) ?_
                    refine AllReady.cons (o := ⟨none, _, _, _, _, _⟩) rfl (fun K hK => ?_) AllReady.nil
                    have pc0 := Rb7.cell
                    have pf0 := Rb7.frozen
                    go_simp
                    go_wp2_with fail
                    clear pc0 pf0
                    try (refine hK _ _ ?_; clear hK K)
                    try simp only [Act.put, List.setIfInBounds_toArray, List.set_cons_zero, List.set_cons_succ]
                    refine wpAny_done (by kernel_rfl) ?_ _
                    go_wp2_with fail
                    have O8 : Rw g U5 w7 (rb + 1) 26 4 (Value.slice A7 (l.length + 1) c7) (l ++ [((y, yn, ys), Value.slice Ay ky.len cy)]).length (flat (rC exprC) (l ++ [((y, yn, ys), Value.slice Ay ky.len cy)])) := by
                      rw [List.length_append, ← flat_snoc]
                      exact O7
                    have Rb8 := Rb7.set_ 3 (Value.slice A7 (l.length + 1) c7)
                    simp only [List.setIfInBounds_toArray, List.set_cons_succ, List.set_cons_zero] at Rb8
                    go_roundw
                    case rel => exact ⟨q + 1, _, _, _, U5, by omega, by go_num, Rb8, R7.far (by omega) _, O8.setl (Nat.lt_succ_self _) _, F7.setb Rb7.2.1 _, by rw [List.length_append, hLq.out]; rfl, fun x hx => by rcases List.mem_append.1 hx with h | h; exact HL.out x h; (rw [List.mem_singleton.1 h]; exact HKY.out), C7.setb Rb7.2.2 _, G7.setb (by omega) _⟩
                    case measure => (simp [intOf] <;> omega)
                  · go_simp
                    go_wp2_with fail
                    try (refine hK _ _ ?_; clear hK K)
                    try simp only [Act.put, List.setIfInBounds_toArray, List.set_cons_zero, List.set_cons_succ]
                    refine wpAny_ready (rs := [1]) (by kernel_rfl) (by simp) ?_
                    refine AllReady.cons (o := ⟨some 82, _, _, _, _, _⟩) rfl (fun K hK => ?_) AllReady.nil
                    have pc0 := Rb.cell
                    have pf0 := Rb.frozen
                    try have pc1 := (Rb.alloc (.cells #[.int .i64 y, .int .i64 yn, .string ys, .slice Ay ky.len cy] 26)).cell
                    try have pf1 := (Rb.alloc (.cells #[.int .i64 y, .int .i64 yn, .string ys, .slice Ay ky.len cy] 26)).frozen
                    go_simp
                    go_wp2_with fail
                    clear pc0 pf0
                    try clear pc1 pf1
                    try (refine hK _ _ ?_; clear hK K)
                    try simp only [Act.put, List.setIfInBounds_toArray, List.set_cons_zero, List.set_cons_succ]
                    refine wpAny_ready (rs := [5]) (by kernel_rfl) (by simp) ?_
                    refine AllReady.cons (o := ⟨some 86, _, _, _, _, _⟩) rfl (fun K hK => ?_) AllReady.nil
                    refine step_pushB rfl (.tmp 82) (.tmp 85) 24 rfl (rb + 1) 26 j0 (.agg #[.int .i64 0, .int .i64 0, .string ⟨#[]⟩, .slice none 0 0]) 4 56 Try.underlying24 hj hy0 hy1 hy2 rfl (by decide) (Value.slice Av l.length cv) _ _ rfl O.1 [.int .i64 y, .int .i64 yn, .string ys, .slice Ay ky.len cy] rfl rfl rfl (by omega) (by omega) (by have := Rb.lt; omega) ?_
                    intro v' w7 hO7 hg7 hv7
                    obtain ⟨A7, c7, rfl⟩ := (Row.mk hO7).form
                    have hb7 := fun k e => (O.lt k e).1
                    have F7 := (F.snoc (a := (y, yn, ys)) (c := cy) hSy).row C hg7 O.2.1
                    have Rb7 := Rb.row hg7 (fun e => by have := hb7 _ e.symm; omega)
                    have R7 := R.row hg7 (fun e => by have := hb7 _ e.symm; omega)
                    have hgr := Rb.2.2
                    have G7 := G.row hg7 (fun k e => by have := hb7 k e; omega)
                    have O7 := O.push C hO7 hv7
                    have C7 := C.row hg7 (fun k e => by have := hb7 k e; omega)
                    try (refine hK _ _ ?_; clear hK K)
                    try simp only [Act.put, List.setIfInBounds_toArray, List.set_cons_zero, List.set_cons_succ]
                    refine wpAny_take (i := 6) (oi := ⟨some 87, _, _, _, _, _⟩) (v := ?_) rfl (by kernel_rfl) (by kernel_rfl) (by kernel_rfl) (fun _ _ _ h => h) (Or.inl ⟨by rfl, ?_⟩) ?_
                    case refine_2 => (intro w; go_simp; first | done | with_reducible rfl)
                    simp only [Act.put, List.setIfInBounds_toArray, List.set_cons_zero, List.set_cons_succ]
                    refine wpAny_ready (rs := [7]) (by kernel_rfl) (by simp) ?_
                    refine AllReady.cons (o := ⟨none, _, _, _, _, _⟩) rfl (fun K hK => ?_) AllReady.nil
                    have pc0 := Rb7.cell
                    have pf0 := Rb7.frozen
                    go_simp
                    go_wp2_with fail
                    clear pc0 pf0
                    try (refine hK _ _ ?_; clear hK K)
                    try simp only [Act.put, List.setIfInBounds_toArray, List.set_cons_zero, List.set_cons_succ]
                    refine wpAny_done (by kernel_rfl) ?_ _
                    go_wp2_with fail
                    have O8 : Rw g U5 w7 (rb + 1) 26 4 (Value.slice A7 (l.length + 1) c7) (l ++ [((y, yn, ys), Value.slice Ay ky.len cy)]).length (flat (rC exprC) (l ++ [((y, yn, ys), Value.slice Ay ky.len cy)])) := by
                      rw [List.length_append, ← flat_snoc]
                      exact O7
                    have Rb8 := Rb7.set_ 3 (Value.slice A7 (l.length + 1) c7)
                    simp only [List.setIfInBounds_toArray, List.set_cons_succ, List.set_cons_zero] at Rb8
                    go_roundw
                    case rel => exact ⟨q + 1, _, _, _, U5, by omega, by go_num, Rb8, R7.far (by omega) _, O8.setl (Nat.lt_succ_self _) _, F7.setb Rb7.2.1 _, by rw [List.length_append, hLq.out]; rfl, fun x hx => by rcases List.mem_append.1 hx with h | h; exact HL.out x h; (rw [List.mem_singleton.1 h]; exact HKY.out), C7.setb Rb7.2.2 _, G7.setb (by omega) _⟩
                    case measure => (simp [intOf] <;> omega)
              · obtain rfl : q = 0 := by omega
                have HS := Lib.hid (show (mkFr L).size ≤ 44 from Nat.le_trans (size_mkE L HL.out) (Nat.le_trans (Nat.mul_le_mul_right 22 (show L.length ≤ 2 by have := hLq.out; omega)) (by decide)))
                have cI := fun w => cIn 8 5 7 w
                rw [show (decide ((5 : Int) ≤ 8) && decide ((8 : Int) ≤ 7)) = false from (by decide)] at cI
                have CI := Lib.hid cI
                clear cI
                go_wp2_with fail
                refine (CI.out _).mono ?_; rintro e wz ⟨rfl, rfl⟩
                have pc0 := Rb.cell
                have pf0 := Rb.frozen
                have pc1 := R.cell
                have pf1 := R.frozen
                go_wp2_with fail
                have hx : (Value.slice Av l.length cv).ownBlock ≠ some w.heap.size := fun e => by have := (O.lt _ e).1; omega
                have ha : (Value.slice none 0 0).ownBlock ≠ some w.heap.size := fun e => (by simp [Value.ownBlock] at e)
                have E9 := (show OS (nS D) B g U w _ wz wz.heap.size (.slice Av l.length cv) L l (.slice none 0 0) [] [] none .nil from ⟨by have h1 := HS.out; have h2 := nS_pos D; show (mkFr L).size + 0 + 0 ≤ _; omega, (show RX g _ wz (rb + 1) (.slice Av l.length cv) L l from ⟨O, F⟩).base_ (by omega) hC.lt, fun k e => (O.lt k e).2, G.sz, RA.nil C.lt, SlSP.nil_ _ _, C, G⟩)
                refine bodyPost_ret (res_cell1 rfl _ _ _ _ _ _ rfl ((((((R.1.set_ 0 _).set_ 1 _).set_ 2 _).set_ 3 _).set_ 4 _).set_ 5 _) Try.underlying31 (by kernel_rfl)) rfl ?_
                exact ⟨8, ⟨#[]⟩, ⟨#[]⟩, (.slice Av l.length cv), .slice none 0 0, none, 0, wz.heap.size, L, l, [], [], .nil, _, rfl, ((((((E9.setb R.2 (Nat.le_refl _) hx ha _ _).setb R.2 (Nat.le_refl _) hx ha _ _).setb R.2 (Nat.le_refl _) hx ha _ _).setb R.2 (Nat.le_refl _) hx ha _ _).setb R.2 (Nat.le_refl _) hx ha _ _).setb R.2 (Nat.le_refl _) hx ha _ _)⟩
          · have hrb0 := R.lt
            have Rb := Bx.new C 31 #[.int .i64 8, .string ⟨#[]⟩, .string ⟨#[]⟩, .slice none 0 0, .slice none 0 0, .slice none 0 0]
            replace R := R.alloc (.cells #[.int .i64 8, .string ⟨#[]⟩, .string ⟨#[]⟩, .slice none 0 0, .slice none 0 0, .slice none 0 0] 31)
            replace G := G.alloc (.cells #[.int .i64 8, .string ⟨#[]⟩, .string ⟨#[]⟩, .slice none 0 0, .slice none 0 0, .slice none 0 0] 31)
            replace C := C.alloc (.cells #[.int .i64 8, .string ⟨#[]⟩, .string ⟨#[]⟩, .slice none 0 0, .slice none 0 0, .slice none 0 0] 31)
            go_upto_block 0 with fail
            generalize wc.alloc (.cells #[.int .i64 8, .string ⟨#[]⟩, .string ⟨#[]⟩, .slice none 0 0, .slice none 0 0, .slice none 0 0] 31) = w4 at Rb R C G ⊢
            generalize wc.heap.size = rb at Rb hrb0 ⊢
            go_wp2_with fail
            go_loopw [10] (fun i wr => ∃ (q : Nat) (L : List ((Int × Int × ByteArray) × Fr (Int × Int × ByteArray))) (l : List ((Int × Int × ByteArray) × Value)) (v : Value) (U1 : Nat → Prop), q ≤ 0 ∧ i = .int .i64 q ∧ Bx g U1 wr rb 31 #[.int .i64 8, .string ⟨#[]⟩, .string ⟨#[]⟩, v, .slice none 0 0, .slice none 0 0] ∧ Bx g U1 wr w.heap.size 31 #[.int .i64 0, .string ⟨#[]⟩, .string ⟨#[]⟩, .slice none 0 0, .slice none 0 0, .slice none 0 0] ∧ Rw g U1 wr (rb + 1) 26 4 v l.length (flat (rC exprC) l) ∧ Fit exprC wr U1 L l ∧ L.length = q ∧ Hid (∀ x ∈ L, x.2.size ≤ 21) ∧ Cu B g U1 wr ∧ Gro g U w U1 wr) (fun i _ => 0 - (intOf i).toNat)
            case atStart => exact ⟨0, [], [], .slice none 0 0, U, Nat.zero_le _, rfl, Rb, R, Rw.nil (by have := Rb.2.2; omega), Fit.nil _ _ _, rfl, fun x hx => (by cases hx), C, G⟩
            case round =>
              clear Rb R C G
              obtain ⟨q, L, l, v, U1, hq, rfl, Rb, R, O, F, hLq0, HL, C, G⟩ := hrel
              obtain ⟨Av, cv, rfl⟩ := O.form
              have hLq := Lib.hid hLq0
              have hll : l.length ≤ 2 := by rw [F.1, hLq0]; omega
              clear hLq0
              by_cases hlt : q < 0
              · have hlt' : (q : Int) < (0 : Int) := by omega
                go_upto_region 31 with fail
                refine wp_region_any (by kernel_rfl) ?_
                change wpAny _ _ _ _ _ _ _ (World.drew _)
                have bd := (Below.refl wr.heap.size wr).drew
                replace F := F.below C bd
                replace O := O.below bd
                replace Rb := Rb.below bd
                replace R := R.below bd
                replace G := G.below bd
                replace C := C.below bd
                clear bd
                generalize wr.drew = wd at F O Rb R G C ⊢
                refine wpAny_take (i := 0) (oi := ⟨some 81, _, _, _, _, _⟩) (v := ?_) rfl (by kernel_rfl) (by kernel_rfl) (by kernel_rfl) (fun _ _ _ h => h) (Or.inl ⟨by rfl, ?_⟩) ?_
                case refine_2 => (intro w; go_simp; first | done | with_reducible rfl)
                simp only [Act.put, List.setIfInBounds_toArray, List.set_cons_zero, List.set_cons_succ]
                refine wpAny_take (i := 2) (oi := ⟨some 83, _, _, _, _, _⟩) (v := ?_) rfl (by kernel_rfl) (by kernel_rfl) (by kernel_rfl) (fun _ _ _ h => h) (Or.inl ⟨by rfl, ?_⟩) ?_
                case refine_2 => (intro w; go_simp; first | done | with_reducible rfl)
                simp only [Act.put, List.setIfInBounds_toArray, List.set_cons_zero, List.set_cons_succ]
                refine wpAny_ready (rs := [1, 3]) (by kernel_rfl) (by simp) ?_
                refine AllReady.cons (o := ⟨some 82, _, _, _, _, _⟩) rfl (fun K hK => ?_) (AllReady.cons (o := ⟨some 84, _, _, _, _, _⟩) rfl (fun K hK => ?_) AllReady.nil)
                · have pc0 := Rb.cell
                  have pf0 := Rb.frozen
                  try have pc1 := (Rb.alloc (.cells #[.int .i64 y, .int .i64 yn, .string ys, .slice Ay ky.len cy] 26)).cell
                  try have pf1 := (Rb.alloc (.cells #[.int .i64 y, .int .i64 yn, .string ys, .slice Ay ky.len cy] 26)).frozen
                  go_simp
                  go_wp2_with fail
                  clear pc0 pf0
                  try clear pc1 pf1
                  try (refine hK _ _ ?_; clear hK K)
                  try simp only [Act.put, List.setIfInBounds_toArray, List.set_cons_zero, List.set_cons_succ]
                  refine wpAny_ready (rs := [3]) (by kernel_rfl) (by simp) ?_
                  refine AllReady.cons (o := ⟨some 84, _, _, _, _, _⟩) rfl (fun K hK => ?_) AllReady.nil
                  go_simp
                  refine (dDraw8 B g 2 (by omega) _ _ C).mono ?_; rintro e w5 ⟨y, yn, ys, ky, Ay, cy, U5, rfl, hky, hSy, C5, G5⟩
                  have HKY := Lib.hid (show ky.size ≤ 21 from hky)
                  clear hky
                  replace Rb := Rb.gro G5
                  replace R := R.gro G5
                  replace O := O.gro G5
                  replace F := F.gro C G5
                  replace G := G.trans G5
                  clear C
                  have C := C5
                  clear C5
                  go_wp2_with fail
                  try (refine hK _ _ ?_; clear hK K)
                  try simp only [Act.put, List.setIfInBounds_toArray, List.set_cons_zero, List.set_cons_succ]
                  refine wpAny_ready (rs := [4]) (by kernel_rfl) (by simp) ?_
                  refine AllReady.cons (o := ⟨some 85, _, _, _, _, _⟩) rfl (fun K hK => ?_) AllReady.nil
                  go_simp
                  go_wp2_with fail
                  try (refine hK _ _ ?_; clear hK K)
                  try simp only [Act.put, List.setIfInBounds_toArray, List.set_cons_zero, List.set_cons_succ]
                  refine wpAny_ready (rs := [5]) (by kernel_rfl) (by simp) ?_
                  refine AllReady.cons (o := ⟨some 86, _, _, _, _, _⟩) rfl (fun K hK => ?_) AllReady.nil
                  refine step_pushB rfl (.tmp 82) (.tmp 85) 24 rfl (rb + 1) 26 j0 (.agg #[.int .i64 0, .int .i64 0, .string ⟨#[]⟩, .slice none 0 0]) 4 56 Try.underlying24 hj hy0 hy1 hy2 rfl (by decide) (Value.slice Av l.length cv) _ _ rfl O.1 [.int .i64 y, .int .i64 yn, .string ys, .slice Ay ky.len cy] rfl rfl rfl (by omega) (by omega) (by have := Rb.lt; omega) ?_
                  intro v' w7 hO7 hg7 hv7
                  obtain ⟨A7, c7, rfl⟩ := (Row.mk hO7).form
                  have hb7 := fun k e => (O.lt k e).1
                  have F7 := (F.snoc (a := (y, yn, ys)) (c := cy) hSy).row C hg7 O.2.1
                  have Rb7 := Rb.row hg7 (fun e => by have := hb7 _ e.symm; omega)
                  have R7 := R.row hg7 (fun e => by have := hb7 _ e.symm; omega)
                  have hgr := Rb.2.2
                  have G7 := G.row hg7 (fun k e => by have := hb7 k e; omega)
                  have O7 := O.push C hO7 hv7
                  have C7 := C.row hg7 (fun k e => by have := hb7 k e; omega)
                  try (refine hK _ _ ?_; clear hK K)
                  try simp only [Act.put, List.setIfInBounds_toArray, List.set_cons_zero, List.set_cons_succ]
                  refine wpAny_take (i := 6) (oi := ⟨some 87, _, _, _, _, _⟩) (v := ?_) rfl (by kernel_rfl) (by kernel_rfl) (by kernel_rfl) (fun _ _ _ h => h) (Or.inl ⟨by rfl, ?_⟩) ?_
                  case refine_2 => (intro w; go_simp; first | done | with_reducible rfl)
                  simp only [Act.put, List.setIfInBounds_toArray, List.set_cons_zero, List.set_cons_succ]
                  refine wpAny_ready (rs := [7]) (by kernel_rfl) (by simp) ?_
                  refine AllReady.cons (o := ⟨none, _, _, _, _, _⟩) rfl (fun K hK => ?_) AllReady.nil
                  have pc0 := Rb7.cell
                  have pf0 := Rb7.frozen
                  go_simp
                  go_wp2_with fail
                  clear pc0 pf0
                  try (refine hK _ _ ?_; clear hK K)
                  try simp only [Act.put, List.setIfInBounds_toArray, List.set_cons_zero, List.set_cons_succ]
                  refine wpAny_done (by kernel_rfl) ?_ _
                  go_wp2_with fail
                  have O8 : Rw g U5 w7 (rb + 1) 26 4 (Value.slice A7 (l.length + 1) c7) (l ++ [((y, yn, ys), Value.slice Ay ky.len cy)]).length (flat (rC exprC) (l ++ [((y, yn, ys), Value.slice Ay ky.len cy)])) := by
                    rw [List.length_append, ← flat_snoc]
                    exact O7
                  have Rb8 := Rb7.set_ 3 (Value.slice A7 (l.length + 1) c7)
                  simp only [List.setIfInBounds_toArray, List.set_cons_succ, List.set_cons_zero] at Rb8
                  go_roundw
                  case rel => exact ⟨q + 1, _, _, _, U5, by omega, by go_num, Rb8, R7.far (by omega) _, O8.setl (Nat.lt_succ_self _) _, F7.setb Rb7.2.1 _, by rw [List.length_append, hLq.out]; rfl, fun x hx => by rcases List.mem_append.1 hx with h | h; exact HL.out x h; (rw [List.mem_singleton.1 h]; exact HKY.out), C7.setb Rb7.2.2 _, G7.setb (by omega) _⟩
                  case measure => (simp [intOf] <;> omega)
                · go_simp
                  refine (dDraw8 B g 2 (by omega) _ _ C).mono ?_; rintro e w5 ⟨y, yn, ys, ky, Ay, cy, U5, rfl, hky, hSy, C5, G5⟩
                  have HKY := Lib.hid (show ky.size ≤ 21 from hky)
                  clear hky
                  replace Rb := Rb.gro G5
                  replace R := R.gro G5
                  replace O := O.gro G5
                  replace F := F.gro C G5
                  replace G := G.trans G5
                  clear C
                  have C := C5
                  clear C5
                  go_wp2_with fail
                  try (refine hK _ _ ?_; clear hK K)
                  try simp only [Act.put, List.setIfInBounds_toArray, List.set_cons_zero, List.set_cons_succ]
                  refine wpAny_ready (rs := [1, 4]) (by kernel_rfl) (by simp) ?_
                  refine AllReady.cons (o := ⟨some 82, _, _, _, _, _⟩) rfl (fun K hK => ?_) (AllReady.cons (o := ⟨some 85, _, _, _, _, _⟩) rfl (fun K hK => ?_) AllReady.nil)
                  · have pc0 := Rb.cell
                    have pf0 := Rb.frozen
                    try have pc1 := (Rb.alloc (.cells #[.int .i64 y, .int .i64 yn, .string ys, .slice Ay ky.len cy] 26)).cell
                    try have pf1 := (Rb.alloc (.cells #[.int .i64 y, .int .i64 yn, .string ys, .slice Ay ky.len cy] 26)).frozen
                    go_simp
                    go_wp2_with fail
                    clear pc0 pf0
                    try clear pc1 pf1
                    try (refine hK _ _ ?_; clear hK K)
                    try simp only [Act.put, List.setIfInBounds_toArray, List.set_cons_zero, List.set_cons_succ]
                    refine wpAny_ready (rs := [4]) (by kernel_rfl) (by simp) ?_
                    refine AllReady.cons (o := ⟨some 85, _, _, _, _, _⟩) rfl (fun K hK => ?_) AllReady.nil
                    go_simp
                    go_wp2_with fail
                    try (refine hK _ _ ?_; clear hK K)
                    try simp only [Act.put, List.setIfInBounds_toArray, List.set_cons_zero, List.set_cons_succ]
                    refine wpAny_ready (rs := [5]) (by kernel_rfl) (by simp) ?_
                    refine AllReady.cons (o := ⟨some 86, _, _, _, _, _⟩) rfl (fun K hK => ?_) AllReady.nil
                    refine step_pushB rfl (.tmp 82) (.tmp 85) 24 rfl (rb + 1) 26 j0 (.agg #[.int .i64 0, .int .i64 0, .string ⟨#[]⟩, .slice none 0 0]) 4 56 Try.underlying24 hj hy0 hy1 hy2 rfl (by decide) (Value.slice Av l.length cv) _ _ rfl O.1 [.int .i64 y, .int .i64 yn, .string ys, .slice Ay ky.len cy] rfl rfl rfl (by omega) (by omega) (by have := Rb.lt; omega) ?_
                    intro v' w7 hO7 hg7 hv7
                    obtain ⟨A7, c7, rfl⟩ := (Row.mk hO7).form
                    have hb7 := fun k e => (O.lt k e).1
                    have F7 := (F.snoc (a := (y, yn, ys)) (c := cy) hSy).row C hg7 O.2.1
                    have Rb7 := Rb.row hg7 (fun e => by have := hb7 _ e.symm; omega)
                    have R7 := R.row hg7 (fun e => by have := hb7 _ e.symm; omega)
                    have hgr := Rb.2.2
                    have G7 := G.row hg7 (fun k e => by have := hb7 k e; omega)
                    have O7 := O.push C hO7 hv7
                    have C7 := C.row hg7 (fun k e => by have := hb7 k e; omega)
                    try (refine hK _ _ ?_; clear hK K)
                    try simp only [Act.put, List.setIfInBounds_toArray, List.set_cons_zero, List.set_cons_succ]
                    refine wpAny_take (i := 6) (oi := ⟨some 87, _, _, _, _, _⟩) (v := ?_) rfl (by kernel_rfl) (by kernel_rfl) (by kernel_rfl) (fun _ _ _ h => h) (Or.inl ⟨by rfl, ?_⟩) ?_
                    case refine_2 => (intro w; go_simp; first | done | with_reducible rfl)
                    simp only [Act.put, List.setIfInBounds_toArray, List.set_cons_zero, List.set_cons_succ]
                    refine wpAny_ready (rs := [7]) (by kernel_rfl) (by simp) ?_
                    refine AllReady.cons (o := ⟨none, _, _, _, _, _⟩) rfl (fun K hK => ?_) AllReady.nil
                    have pc0 := Rb7.cell
                    have pf0 := Rb7.frozen
                    go_simp
                    go_wp2_with fail
                    clear pc0 pf0
                    try (refine hK _ _ ?_; clear hK K)
                    try simp only [Act.put, List.setIfInBounds_toArray, List.set_cons_zero, List.set_cons_succ]
                    refine wpAny_done (by kernel_rfl) ?_ _
                    go_wp2_with fail
                    have O8 : Rw g U5 w7 (rb + 1) 26 4 (Value.slice A7 (l.length + 1) c7) (l ++ [((y, yn, ys), Value.slice Ay ky.len cy)]).length (flat (rC exprC) (l ++ [((y, yn, ys), Value.slice Ay ky.len cy)])) := by
                      rw [List.length_append, ← flat_snoc]
                      exact O7
                    have Rb8 := Rb7.set_ 3 (Value.slice A7 (l.length + 1) c7)
                    simp only [List.setIfInBounds_toArray, List.set_cons_succ, List.set_cons_zero] at Rb8
                    go_roundw
                    case rel => exact ⟨q + 1, _, _, _, U5, by omega, by go_num, Rb8, R7.far (by omega) _, O8.setl (Nat.lt_succ_self _) _, F7.setb Rb7.2.1 _, by rw [List.length_append, hLq.out]; rfl, fun x hx => by rcases List.mem_append.1 hx with h | h; exact HL.out x h; (rw [List.mem_singleton.1 h]; exact HKY.out), C7.setb Rb7.2.2 _, G7.setb (by omega) _⟩
                    case measure => (simp [intOf] <;> omega)
                  · go_simp
                    go_wp2_with fail
                    try (refine hK _ _ ?_; clear hK K)
                    try simp only [Act.put, List.setIfInBounds_toArray, List.set_cons_zero, List.set_cons_succ]
                    refine wpAny_ready (rs := [1]) (by kernel_rfl) (by simp) ?_
                    refine AllReady.cons (o := ⟨some 82, _, _, _, _, _⟩) rfl (fun K hK => ?_) AllReady.nil
                    have pc0 := Rb.cell
                    have pf0 := Rb.frozen
                    try have pc1 := (Rb.alloc (.cells #[.int .i64 y, .int .i64 yn, .string ys, .slice Ay ky.len cy] 26)).cell
                    try have pf1 := (Rb.alloc (.cells #[.int .i64 y, .int .i64 yn, .string ys, .slice Ay ky.len cy] 26)).frozen
                    go_simp
                    go_wp2_with fail
                    clear pc0 pf0
                    try clear pc1 pf1
                    try (refine hK _ _ ?_; clear hK K)
                    try simp only [Act.put, List.setIfInBounds_toArray, List.set_cons_zero, List.set_cons_succ]
                    refine wpAny_ready (rs := [5]) (by kernel_rfl) (by simp) ?_
                    refine AllReady.cons (o := ⟨some 86, _, _, _, _, _⟩) rfl (fun K hK => ?_) AllReady.nil
                    refine step_pushB rfl (.tmp 82) (.tmp 85) 24 rfl (rb + 1) 26 j0 (.agg #[.int .i64 0, .int .i64 0, .string ⟨#[]⟩, .slice none 0 0]) 4 56 Try.underlying24 hj hy0 hy1 hy2 rfl (by decide) (Value.slice Av l.length cv) _ _ rfl O.1 [.int .i64 y, .int .i64 yn, .string ys, .slice Ay ky.len cy] rfl rfl rfl (by omega) (by omega) (by have := Rb.lt; omega) ?_
                    intro v' w7 hO7 hg7 hv7
                    obtain ⟨A7, c7, rfl⟩ := (Row.mk hO7).form
                    have hb7 := fun k e => (O.lt k e).1
                    have F7 := (F.snoc (a := (y, yn, ys)) (c := cy) hSy).row C hg7 O.2.1
                    have Rb7 := Rb.row hg7 (fun e => by have := hb7 _ e.symm; omega)
                    have R7 := R.row hg7 (fun e => by have := hb7 _ e.symm; omega)
                    have hgr := Rb.2.2
                    have G7 := G.row hg7 (fun k e => by have := hb7 k e; omega)
                    have O7 := O.push C hO7 hv7
                    have C7 := C.row hg7 (fun k e => by have := hb7 k e; omega)
                    try (refine hK _ _ ?_; clear hK K)
                    try simp only [Act.put, List.setIfInBounds_toArray, List.set_cons_zero, List.set_cons_succ]
                    refine wpAny_take (i := 6) (oi := ⟨some 87, _, _, _, _, _⟩) (v := ?_) rfl (by kernel_rfl) (by kernel_rfl) (by kernel_rfl) (fun _ _ _ h => h) (Or.inl ⟨by rfl, ?_⟩) ?_
                    case refine_2 => (intro w; go_simp; first | done | with_reducible rfl)
                    simp only [Act.put, List.setIfInBounds_toArray, List.set_cons_zero, List.set_cons_succ]
                    refine wpAny_ready (rs := [7]) (by kernel_rfl) (by simp) ?_
                    refine AllReady.cons (o := ⟨none, _, _, _, _, _⟩) rfl (fun K hK => ?_) AllReady.nil
                    have pc0 := Rb7.cell
                    have pf0 := Rb7.frozen
                    go_simp
                    go_wp2_with fail
                    clear pc0 pf0
                    try (refine hK _ _ ?_; clear hK K)
                    try simp only [Act.put, List.setIfInBounds_toArray, List.set_cons_zero, List.set_cons_succ]
                    refine wpAny_done (by kernel_rfl) ?_ _
                    go_wp2_with fail
                    have O8 : Rw g U5 w7 (rb + 1) 26 4 (Value.slice A7 (l.length + 1) c7) (l ++ [((y, yn, ys), Value.slice Ay ky.len cy)]).length (flat (rC exprC) (l ++ [((y, yn, ys), Value.slice Ay ky.len cy)])) := by
                      rw [List.length_append, ← flat_snoc]
                      exact O7
                    have Rb8 := Rb7.set_ 3 (Value.slice A7 (l.length + 1) c7)
                    simp only [List.setIfInBounds_toArray, List.set_cons_succ, List.set_cons_zero] at Rb8
                    go_roundw
                    case rel => exact ⟨q + 1, _, _, _, U5, by omega, by go_num, Rb8, R7.far (by omega) _, O8.setl (Nat.lt_succ_self _) _, F7.setb Rb7.2.1 _, by rw [List.length_append, hLq.out]; rfl, fun x hx => by rcases List.mem_append.1 hx with h | h; exact HL.out x h; (rw [List.mem_singleton.1 h]; exact HKY.out), C7.setb Rb7.2.2 _, G7.setb (by omega) _⟩
                    case measure => (simp [intOf] <;> omega)
              · obtain rfl : q = 0 := by omega
                have HS := Lib.hid (show (mkFr L).size ≤ 44 from Nat.le_trans (size_mkE L HL.out) (Nat.le_trans (Nat.mul_le_mul_right 22 (show L.length ≤ 2 by have := hLq.out; omega)) (by decide)))
                have cI := fun w => cIn 8 5 7 w
                rw [show (decide ((5 : Int) ≤ 8) && decide ((8 : Int) ≤ 7)) = false from (by decide)] at cI
                have CI := Lib.hid cI
                clear cI
                go_wp2_with fail
                refine (CI.out _).mono ?_; rintro e wz ⟨rfl, rfl⟩
                have pc0 := Rb.cell
                have pf0 := Rb.frozen
                have pc1 := R.cell
                have pf1 := R.frozen
                go_wp2_with fail
                have hx : (Value.slice Av l.length cv).ownBlock ≠ some w.heap.size := fun e => by have := (O.lt _ e).1; omega
                have ha : (Value.slice none 0 0).ownBlock ≠ some w.heap.size := fun e => (by simp [Value.ownBlock] at e)
                have E9 := (show OS (nS D) B g U w _ wz wz.heap.size (.slice Av l.length cv) L l (.slice none 0 0) [] [] none .nil from ⟨by have h1 := HS.out; have h2 := nS_pos D; show (mkFr L).size + 0 + 0 ≤ _; omega, (show RX g _ wz (rb + 1) (.slice Av l.length cv) L l from ⟨O, F⟩).base_ (by omega) hC.lt, fun k e => (O.lt k e).2, G.sz, RA.nil C.lt, SlSP.nil_ _ _, C, G⟩)
                refine bodyPost_ret (res_cell1 rfl _ _ _ _ _ _ rfl ((((((R.1.set_ 0 _).set_ 1 _).set_ 2 _).set_ 3 _).set_ 4 _).set_ 5 _) Try.underlying31 (by kernel_rfl)) rfl ?_
                exact ⟨8, ⟨#[]⟩, ⟨#[]⟩, (.slice Av l.length cv), .slice none 0 0, none, 0, wz.heap.size, L, l, [], [], .nil, _, rfl, ((((((E9.setb R.2 (Nat.le_refl _) hx ha _ _).setb R.2 (Nat.le_refl _) hx ha _ _).setb R.2 (Nat.le_refl _) hx ha _ _).setb R.2 (Nat.le_refl _) hx ha _ _).setb R.2 (Nat.le_refl _) hx ha _ _).setb R.2 (Nat.le_refl _) hx ha _ _)⟩
        · rcases h8 with rfl | rfl
          · have hrb0 := R.lt
            have Rb := Bx.new C 31 #[.int .i64 10, .string ⟨#[]⟩, .string ⟨#[]⟩, .slice none 0 0, .slice none 0 0, .slice none 0 0]
            replace R := R.alloc (.cells #[.int .i64 10, .string ⟨#[]⟩, .string ⟨#[]⟩, .slice none 0 0, .slice none 0 0, .slice none 0 0] 31)
            replace G := G.alloc (.cells #[.int .i64 10, .string ⟨#[]⟩, .string ⟨#[]⟩, .slice none 0 0, .slice none 0 0, .slice none 0 0] 31)
            replace C := C.alloc (.cells #[.int .i64 10, .string ⟨#[]⟩, .string ⟨#[]⟩, .slice none 0 0, .slice none 0 0, .slice none 0 0] 31)
            go_upto_block 0 with fail
            generalize wc.alloc (.cells #[.int .i64 10, .string ⟨#[]⟩, .string ⟨#[]⟩, .slice none 0 0, .slice none 0 0, .slice none 0 0] 31) = w4 at Rb R C G ⊢
            generalize wc.heap.size = rb at Rb hrb0 ⊢
            go_wp2_with fail
            go_loopw [10] (fun i wr => ∃ (q : Nat) (L : List ((Int × Int × ByteArray) × Fr (Int × Int × ByteArray))) (l : List ((Int × Int × ByteArray) × Value)) (v : Value) (U1 : Nat → Prop), q ≤ 1 ∧ i = .int .i64 q ∧ Bx g U1 wr rb 31 #[.int .i64 10, .string ⟨#[]⟩, .string ⟨#[]⟩, v, .slice none 0 0, .slice none 0 0] ∧ Bx g U1 wr w.heap.size 31 #[.int .i64 0, .string ⟨#[]⟩, .string ⟨#[]⟩, .slice none 0 0, .slice none 0 0, .slice none 0 0] ∧ Rw g U1 wr (rb + 1) 26 4 v l.length (flat (rC exprC) l) ∧ Fit exprC wr U1 L l ∧ L.length = q ∧ Hid (∀ x ∈ L, x.2.size ≤ 21) ∧ Cu B g U1 wr ∧ Gro g U w U1 wr) (fun i _ => 1 - (intOf i).toNat)
            case atStart => exact ⟨0, [], [], .slice none 0 0, U, Nat.zero_le _, rfl, Rb, R, Rw.nil (by have := Rb.2.2; omega), Fit.nil _ _ _, rfl, fun x hx => (by cases hx), C, G⟩
            case round =>
              clear Rb R C G
              obtain ⟨q, L, l, v, U1, hq, rfl, Rb, R, O, F, hLq0, HL, C, G⟩ := hrel
              obtain ⟨Av, cv, rfl⟩ := O.form
              have hLq := Lib.hid hLq0
              have hll : l.length ≤ 2 := by rw [F.1, hLq0]; omega
              clear hLq0
              by_cases hlt : q < 1
              · have hlt' : (q : Int) < (1 : Int) := by omega
                go_upto_region 31 with fail
                refine wp_region_any (by kernel_rfl) ?_
                change wpAny _ _ _ _ _ _ _ (World.drew _)
                have bd := (Below.refl wr.heap.size wr).drew
                replace F := F.below C bd
                replace O := O.below bd
                replace Rb := Rb.below bd
                replace R := R.below bd
                replace G := G.below bd
                replace C := C.below bd
                clear bd
                generalize wr.drew = wd at F O Rb R G C ⊢
                refine wpAny_take (i := 0) (oi := ⟨some 81, _, _, _, _, _⟩) (v := ?_) rfl (by kernel_rfl) (by kernel_rfl) (by kernel_rfl) (fun _ _ _ h => h) (Or.inl ⟨by rfl, ?_⟩) ?_
                case refine_2 => (intro w; go_simp; first | done | with_reducible rfl)
                simp only [Act.put, List.setIfInBounds_toArray, List.set_cons_zero, List.set_cons_succ]
                refine wpAny_take (i := 2) (oi := ⟨some 83, _, _, _, _, _⟩) (v := ?_) rfl (by kernel_rfl) (by kernel_rfl) (by kernel_rfl) (fun _ _ _ h => h) (Or.inl ⟨by rfl, ?_⟩) ?_
                case refine_2 => (intro w; go_simp; first | done | with_reducible rfl)
                simp only [Act.put, List.setIfInBounds_toArray, List.set_cons_zero, List.set_cons_succ]
                refine wpAny_ready (rs := [1, 3]) (by kernel_rfl) (by simp) ?_
                refine AllReady.cons (o := ⟨some 82, _, _, _, _, _⟩) rfl (fun K hK => ?_) (AllReady.cons (o := ⟨some 84, _, _, _, _, _⟩) rfl (fun K hK => ?_) AllReady.nil)
                · have pc0 := Rb.cell
                  have pf0 := Rb.frozen
                  try have pc1 := (Rb.alloc (.cells #[.int .i64 y, .int .i64 yn, .string ys, .slice Ay ky.len cy] 26)).cell
                  try have pf1 := (Rb.alloc (.cells #[.int .i64 y, .int .i64 yn, .string ys, .slice Ay ky.len cy] 26)).frozen
                  go_simp
                  go_wp2_with fail
                  clear pc0 pf0
                  try clear pc1 pf1
                  try (refine hK _ _ ?_; clear hK K)
                  try simp only [Act.put, List.setIfInBounds_toArray, List.set_cons_zero, List.set_cons_succ]
                  refine wpAny_ready (rs := [3]) (by kernel_rfl) (by simp) ?_
                  refine AllReady.cons (o := ⟨some 84, _, _, _, _, _⟩) rfl (fun K hK => ?_) AllReady.nil
                  go_simp
                  refine (dDraw8 B g 2 (by omega) _ _ C).mono ?_; rintro e w5 ⟨y, yn, ys, ky, Ay, cy, U5, rfl, hky, hSy, C5, G5⟩
                  have HKY := Lib.hid (show ky.size ≤ 21 from hky)
                  clear hky
                  replace Rb := Rb.gro G5
                  replace R := R.gro G5
                  replace O := O.gro G5
                  replace F := F.gro C G5
                  replace G := G.trans G5
                  clear C
                  have C := C5
                  clear C5
                  go_wp2_with fail
                  try (refine hK _ _ ?_; clear hK K)
                  try simp only [Act.put, List.setIfInBounds_toArray, List.set_cons_zero, List.set_cons_succ]
                  refine wpAny_ready (rs := [4]) (by kernel_rfl) (by simp) ?_
                  refine AllReady.cons (o := ⟨some 85, _, _, _, _, _⟩) rfl (fun K hK => ?_) AllReady.nil
                  go_simp
                  go_wp2_with fail
                  try (refine hK _ _ ?_; clear hK K)
                  try simp only [Act.put, List.setIfInBounds_toArray, List.set_cons_zero, List.set_cons_succ]
                  refine wpAny_ready (rs := [5]) (by kernel_rfl) (by simp) ?_
                  refine AllReady.cons (o := ⟨some 86, _, _, _, _, _⟩) rfl (fun K hK => ?_) AllReady.nil
                  refine step_pushB rfl (.tmp 82) (.tmp 85) 24 rfl (rb + 1) 26 j0 (.agg #[.int .i64 0, .int .i64 0, .string ⟨#[]⟩, .slice none 0 0]) 4 56 Try.underlying24 hj hy0 hy1 hy2 rfl (by decide) (Value.slice Av l.length cv) _ _ rfl O.1 [.int .i64 y, .int .i64 yn, .string ys, .slice Ay ky.len cy] rfl rfl rfl (by omega) (by omega) (by have := Rb.lt; omega) ?_
                  intro v' w7 hO7 hg7 hv7
                  obtain ⟨A7, c7, rfl⟩ := (Row.mk hO7).form
                  have hb7 := fun k e => (O.lt k e).1
                  have F7 := (F.snoc (a := (y, yn, ys)) (c := cy) hSy).row C hg7 O.2.1
                  have Rb7 := Rb.row hg7 (fun e => by have := hb7 _ e.symm; omega)
                  have R7 := R.row hg7 (fun e => by have := hb7 _ e.symm; omega)
                  have hgr := Rb.2.2
                  have G7 := G.row hg7 (fun k e => by have := hb7 k e; omega)
                  have O7 := O.push C hO7 hv7
                  have C7 := C.row hg7 (fun k e => by have := hb7 k e; omega)
                  try (refine hK _ _ ?_; clear hK K)
                  try simp only [Act.put, List.setIfInBounds_toArray, List.set_cons_zero, List.set_cons_succ]
                  refine wpAny_take (i := 6) (oi := ⟨some 87, _, _, _, _, _⟩) (v := ?_) rfl (by kernel_rfl) (by kernel_rfl) (by kernel_rfl) (fun _ _ _ h => h) (Or.inl ⟨by rfl, ?_⟩) ?_
                  case refine_2 => (intro w; go_simp; first | done | with_reducible rfl)
                  simp only [Act.put, List.setIfInBounds_toArray, List.set_cons_zero, List.set_cons_succ]
                  refine wpAny_ready (rs := [7]) (by kernel_rfl) (by simp) ?_
                  refine AllReady.cons (o := ⟨none, _, _, _, _, _⟩) rfl (fun K hK => ?_) AllReady.nil
                  have pc0 := Rb7.cell
                  have pf0 := Rb7.frozen
                  go_simp
                  go_wp2_with fail
                  clear pc0 pf0
                  try (refine hK _ _ ?_; clear hK K)
                  try simp only [Act.put, List.setIfInBounds_toArray, List.set_cons_zero, List.set_cons_succ]
                  refine wpAny_done (by kernel_rfl) ?_ _
                  go_wp2_with fail
                  have O8 : Rw g U5 w7 (rb + 1) 26 4 (Value.slice A7 (l.length + 1) c7) (l ++ [((y, yn, ys), Value.slice Ay ky.len cy)]).length (flat (rC exprC) (l ++ [((y, yn, ys), Value.slice Ay ky.len cy)])) := by
                    rw [List.length_append, ← flat_snoc]
                    exact O7
                  have Rb8 := Rb7.set_ 3 (Value.slice A7 (l.length + 1) c7)
                  simp only [List.setIfInBounds_toArray, List.set_cons_succ, List.set_cons_zero] at Rb8
                  go_roundw
                  case rel => exact ⟨q + 1, _, _, _, U5, by omega, by go_num, Rb8, R7.far (by omega) _, O8.setl (Nat.lt_succ_self _) _, F7.setb Rb7.2.1 _, by rw [List.length_append, hLq.out]; rfl, fun x hx => by rcases List.mem_append.1 hx with h | h; exact HL.out x h; (rw [List.mem_singleton.1 h]; exact HKY.out), C7.setb Rb7.2.2 _, G7.setb (by omega) _⟩
                  case measure => (simp [intOf] <;> omega)
                · go_simp
                  refine (dDraw8 B g 2 (by omega) _ _ C).mono ?_; rintro e w5 ⟨y, yn, ys, ky, Ay, cy, U5, rfl, hky, hSy, C5, G5⟩
                  have HKY := Lib.hid (show ky.size ≤ 21 from hky)
                  clear hky
                  replace Rb := Rb.gro G5
                  replace R := R.gro G5
                  replace O := O.gro G5
                  replace F := F.gro C G5
                  replace G := G.trans G5
                  clear C
                  have C := C5
                  clear C5
                  go_wp2_with fail
                  try (refine hK _ _ ?_; clear hK K)
                  try simp only [Act.put, List.setIfInBounds_toArray, List.set_cons_zero, List.set_cons_succ]
                  refine wpAny_ready (rs := [1, 4]) (by kernel_rfl) (by simp) ?_
                  refine AllReady.cons (o := ⟨some 82, _, _, _, _, _⟩) rfl (fun K hK => ?_) (AllReady.cons (o := ⟨some 85, _, _, _, _, _⟩) rfl (fun K hK => ?_) AllReady.nil)
                  · have pc0 := Rb.cell
                    have pf0 := Rb.frozen
                    try have pc1 := (Rb.alloc (.cells #[.int .i64 y, .int .i64 yn, .string ys, .slice Ay ky.len cy] 26)).cell
                    try have pf1 := (Rb.alloc (.cells #[.int .i64 y, .int .i64 yn, .string ys, .slice Ay ky.len cy] 26)).frozen
                    go_simp
                    go_wp2_with fail
                    clear pc0 pf0
                    try clear pc1 pf1
                    try (refine hK _ _ ?_; clear hK K)
                    try simp only [Act.put, List.setIfInBounds_toArray, List.set_cons_zero, List.set_cons_succ]
                    refine wpAny_ready (rs := [4]) (by kernel_rfl) (by simp) ?_
                    refine AllReady.cons (o := ⟨some 85, _, _, _, _, _⟩) rfl (fun K hK => ?_) AllReady.nil
                    go_simp
                    go_wp2_with fail
                    try (refine hK _ _ ?_; clear hK K)
                    try simp only [Act.put, List.setIfInBounds_toArray, List.set_cons_zero, List.set_cons_succ]
                    refine wpAny_ready (rs := [5]) (by kernel_rfl) (by simp) ?_
                    refine AllReady.cons (o := ⟨some 86, _, _, _, _, _⟩) rfl (fun K hK => ?_) AllReady.nil
                    refine step_pushB rfl (.tmp 82) (.tmp 85) 24 rfl (rb + 1) 26 j0 (.agg #[.int .i64 0, .int .i64 0, .string ⟨#[]⟩, .slice none 0 0]) 4 56 Try.underlying24 hj hy0 hy1 hy2 rfl (by decide) (Value.slice Av l.length cv) _ _ rfl O.1 [.int .i64 y, .int .i64 yn, .string ys, .slice Ay ky.len cy] rfl rfl rfl (by omega) (by omega) (by have := Rb.lt; omega) ?_
                    intro v' w7 hO7 hg7 hv7
                    obtain ⟨A7, c7, rfl⟩ := (Row.mk hO7).form
                    have hb7 := fun k e => (O.lt k e).1
                    have F7 := (F.snoc (a := (y, yn, ys)) (c := cy) hSy).row C hg7 O.2.1
                    have Rb7 := Rb.row hg7 (fun e => by have := hb7 _ e.symm; omega)
                    have R7 := R.row hg7 (fun e => by have := hb7 _ e.symm; omega)
                    have hgr := Rb.2.2
                    have G7 := G.row hg7 (fun k e => by have := hb7 k e; omega)
                    have O7 := O.push C hO7 hv7
                    have C7 := C.row hg7 (fun k e => by have := hb7 k e; omega)
                    try (refine hK _ _ ?_; clear hK K)
                    try simp only [Act.put, List.setIfInBounds_toArray, List.set_cons_zero, List.set_cons_succ]
                    refine wpAny_take (i := 6) (oi := ⟨some 87, _, _, _, _, _⟩) (v := ?_) rfl (by kernel_rfl) (by kernel_rfl) (by kernel_rfl) (fun _ _ _ h => h) (Or.inl ⟨by rfl, ?_⟩) ?_
                    case refine_2 => (intro w; go_simp; first | done | with_reducible rfl)
                    simp only [Act.put, List.setIfInBounds_toArray, List.set_cons_zero, List.set_cons_succ]
                    refine wpAny_ready (rs := [7]) (by kernel_rfl) (by simp) ?_
                    refine AllReady.cons (o := ⟨none, _, _, _, _, _⟩) rfl (fun K hK => ?_) AllReady.nil
                    have pc0 := Rb7.cell
                    have pf0 := Rb7.frozen
                    go_simp
                    go_wp2_with fail
                    clear pc0 pf0
                    try (refine hK _ _ ?_; clear hK K)
                    try simp only [Act.put, List.setIfInBounds_toArray, List.set_cons_zero, List.set_cons_succ]
                    refine wpAny_done (by kernel_rfl) ?_ _
                    go_wp2_with fail
                    have O8 : Rw g U5 w7 (rb + 1) 26 4 (Value.slice A7 (l.length + 1) c7) (l ++ [((y, yn, ys), Value.slice Ay ky.len cy)]).length (flat (rC exprC) (l ++ [((y, yn, ys), Value.slice Ay ky.len cy)])) := by
                      rw [List.length_append, ← flat_snoc]
                      exact O7
                    have Rb8 := Rb7.set_ 3 (Value.slice A7 (l.length + 1) c7)
                    simp only [List.setIfInBounds_toArray, List.set_cons_succ, List.set_cons_zero] at Rb8
                    go_roundw
                    case rel => exact ⟨q + 1, _, _, _, U5, by omega, by go_num, Rb8, R7.far (by omega) _, O8.setl (Nat.lt_succ_self _) _, F7.setb Rb7.2.1 _, by rw [List.length_append, hLq.out]; rfl, fun x hx => by rcases List.mem_append.1 hx with h | h; exact HL.out x h; (rw [List.mem_singleton.1 h]; exact HKY.out), C7.setb Rb7.2.2 _, G7.setb (by omega) _⟩
                    case measure => (simp [intOf] <;> omega)
                  · go_simp
                    go_wp2_with fail
                    try (refine hK _ _ ?_; clear hK K)
                    try simp only [Act.put, List.setIfInBounds_toArray, List.set_cons_zero, List.set_cons_succ]
                    refine wpAny_ready (rs := [1]) (by kernel_rfl) (by simp) ?_
                    refine AllReady.cons (o := ⟨some 82, _, _, _, _, _⟩) rfl (fun K hK => ?_) AllReady.nil
                    have pc0 := Rb.cell
                    have pf0 := Rb.frozen
                    try have pc1 := (Rb.alloc (.cells #[.int .i64 y, .int .i64 yn, .string ys, .slice Ay ky.len cy] 26)).cell
                    try have pf1 := (Rb.alloc (.cells #[.int .i64 y, .int .i64 yn, .string ys, .slice Ay ky.len cy] 26)).frozen
                    go_simp
                    go_wp2_with fail
                    clear pc0 pf0
                    try clear pc1 pf1
                    try (refine hK _ _ ?_; clear hK K)
                    try simp only [Act.put, List.setIfInBounds_toArray, List.set_cons_zero, List.set_cons_succ]
                    refine wpAny_ready (rs := [5]) (by kernel_rfl) (by simp) ?_
                    refine AllReady.cons (o := ⟨some 86, _, _, _, _, _⟩) rfl (fun K hK => ?_) AllReady.nil
                    refine step_pushB rfl (.tmp 82) (.tmp 85) 24 rfl (rb + 1) 26 j0 (.agg #[.int .i64 0, .int .i64 0, .string ⟨#[]⟩, .slice none 0 0]) 4 56 Try.underlying24 hj hy0 hy1 hy2 rfl (by decide) (Value.slice Av l.length cv) _ _ rfl O.1 [.int .i64 y, .int .i64 yn, .string ys, .slice Ay ky.len cy] rfl rfl rfl (by omega) (by omega) (by have := Rb.lt; omega) ?_
                    intro v' w7 hO7 hg7 hv7
                    obtain ⟨A7, c7, rfl⟩ := (Row.mk hO7).form
                    have hb7 := fun k e => (O.lt k e).1
                    have F7 := (F.snoc (a := (y, yn, ys)) (c := cy) hSy).row C hg7 O.2.1
                    have Rb7 := Rb.row hg7 (fun e => by have := hb7 _ e.symm; omega)
                    have R7 := R.row hg7 (fun e => by have := hb7 _ e.symm; omega)
                    have hgr := Rb.2.2
                    have G7 := G.row hg7 (fun k e => by have := hb7 k e; omega)
                    have O7 := O.push C hO7 hv7
                    have C7 := C.row hg7 (fun k e => by have := hb7 k e; omega)
                    try (refine hK _ _ ?_; clear hK K)
                    try simp only [Act.put, List.setIfInBounds_toArray, List.set_cons_zero, List.set_cons_succ]
                    refine wpAny_take (i := 6) (oi := ⟨some 87, _, _, _, _, _⟩) (v := ?_) rfl (by kernel_rfl) (by kernel_rfl) (by kernel_rfl) (fun _ _ _ h => h) (Or.inl ⟨by rfl, ?_⟩) ?_
                    case refine_2 => (intro w; go_simp; first | done | with_reducible rfl)
                    simp only [Act.put, List.setIfInBounds_toArray, List.set_cons_zero, List.set_cons_succ]
                    refine wpAny_ready (rs := [7]) (by kernel_rfl) (by simp) ?_
                    refine AllReady.cons (o := ⟨none, _, _, _, _, _⟩) rfl (fun K hK => ?_) AllReady.nil
                    have pc0 := Rb7.cell
                    have pf0 := Rb7.frozen
                    go_simp
                    go_wp2_with fail
                    clear pc0 pf0
                    try (refine hK _ _ ?_; clear hK K)
                    try simp only [Act.put, List.setIfInBounds_toArray, List.set_cons_zero, List.set_cons_succ]
                    refine wpAny_done (by kernel_rfl) ?_ _
                    go_wp2_with fail
                    have O8 : Rw g U5 w7 (rb + 1) 26 4 (Value.slice A7 (l.length + 1) c7) (l ++ [((y, yn, ys), Value.slice Ay ky.len cy)]).length (flat (rC exprC) (l ++ [((y, yn, ys), Value.slice Ay ky.len cy)])) := by
                      rw [List.length_append, ← flat_snoc]
                      exact O7
                    have Rb8 := Rb7.set_ 3 (Value.slice A7 (l.length + 1) c7)
                    simp only [List.setIfInBounds_toArray, List.set_cons_succ, List.set_cons_zero] at Rb8
                    go_roundw
                    case rel => exact ⟨q + 1, _, _, _, U5, by omega, by go_num, Rb8, R7.far (by omega) _, O8.setl (Nat.lt_succ_self _) _, F7.setb Rb7.2.1 _, by rw [List.length_append, hLq.out]; rfl, fun x hx => by rcases List.mem_append.1 hx with h | h; exact HL.out x h; (rw [List.mem_singleton.1 h]; exact HKY.out), C7.setb Rb7.2.2 _, G7.setb (by omega) _⟩
                    case measure => (simp [intOf] <;> omega)
              · obtain rfl : q = 1 := by omega
                have HS := Lib.hid (show (mkFr L).size ≤ 44 from Nat.le_trans (size_mkE L HL.out) (Nat.le_trans (Nat.mul_le_mul_right 22 (show L.length ≤ 2 by have := hLq.out; omega)) (by decide)))
                have cI := fun w => cIn 10 5 7 w
                rw [show (decide ((5 : Int) ≤ 10) && decide ((10 : Int) ≤ 7)) = false from (by decide)] at cI
                have CI := Lib.hid cI
                clear cI
                go_wp2_with fail
                refine (CI.out _).mono ?_; rintro e wz ⟨rfl, rfl⟩
                have pc0 := Rb.cell
                have pf0 := Rb.frozen
                have pc1 := R.cell
                have pf1 := R.frozen
                go_wp2_with fail
                have hx : (Value.slice Av l.length cv).ownBlock ≠ some w.heap.size := fun e => by have := (O.lt _ e).1; omega
                have ha : (Value.slice none 0 0).ownBlock ≠ some w.heap.size := fun e => (by simp [Value.ownBlock] at e)
                have E9 := (show OS (nS D) B g U w _ wz wz.heap.size (.slice Av l.length cv) L l (.slice none 0 0) [] [] none .nil from ⟨by have h1 := HS.out; have h2 := nS_pos D; show (mkFr L).size + 0 + 0 ≤ _; omega, (show RX g _ wz (rb + 1) (.slice Av l.length cv) L l from ⟨O, F⟩).base_ (by omega) hC.lt, fun k e => (O.lt k e).2, G.sz, RA.nil C.lt, SlSP.nil_ _ _, C, G⟩)
                refine bodyPost_ret (res_cell1 rfl _ _ _ _ _ _ rfl ((((((R.1.set_ 0 _).set_ 1 _).set_ 2 _).set_ 3 _).set_ 4 _).set_ 5 _) Try.underlying31 (by kernel_rfl)) rfl ?_
                exact ⟨10, ⟨#[]⟩, ⟨#[]⟩, (.slice Av l.length cv), .slice none 0 0, none, 0, wz.heap.size, L, l, [], [], .nil, _, rfl, ((((((E9.setb R.2 (Nat.le_refl _) hx ha _ _).setb R.2 (Nat.le_refl _) hx ha _ _).setb R.2 (Nat.le_refl _) hx ha _ _).setb R.2 (Nat.le_refl _) hx ha _ _).setb R.2 (Nat.le_refl _) hx ha _ _).setb R.2 (Nat.le_refl _) hx ha _ _)⟩
          · have hrb0 := R.lt
            have Rb := Bx.new C 31 #[.int .i64 10, .string ⟨#[]⟩, .string ⟨#[]⟩, .slice none 0 0, .slice none 0 0, .slice none 0 0]
            replace R := R.alloc (.cells #[.int .i64 10, .string ⟨#[]⟩, .string ⟨#[]⟩, .slice none 0 0, .slice none 0 0, .slice none 0 0] 31)
            replace G := G.alloc (.cells #[.int .i64 10, .string ⟨#[]⟩, .string ⟨#[]⟩, .slice none 0 0, .slice none 0 0, .slice none 0 0] 31)
            replace C := C.alloc (.cells #[.int .i64 10, .string ⟨#[]⟩, .string ⟨#[]⟩, .slice none 0 0, .slice none 0 0, .slice none 0 0] 31)
            go_upto_block 0 with fail
            generalize wc.alloc (.cells #[.int .i64 10, .string ⟨#[]⟩, .string ⟨#[]⟩, .slice none 0 0, .slice none 0 0, .slice none 0 0] 31) = w4 at Rb R C G ⊢
            generalize wc.heap.size = rb at Rb hrb0 ⊢
            go_wp2_with fail
            go_loopw [10] (fun i wr => ∃ (q : Nat) (L : List ((Int × Int × ByteArray) × Fr (Int × Int × ByteArray))) (l : List ((Int × Int × ByteArray) × Value)) (v : Value) (U1 : Nat → Prop), q ≤ 1 ∧ i = .int .i64 q ∧ Bx g U1 wr rb 31 #[.int .i64 10, .string ⟨#[]⟩, .string ⟨#[]⟩, v, .slice none 0 0, .slice none 0 0] ∧ Bx g U1 wr w.heap.size 31 #[.int .i64 0, .string ⟨#[]⟩, .string ⟨#[]⟩, .slice none 0 0, .slice none 0 0, .slice none 0 0] ∧ Rw g U1 wr (rb + 1) 26 4 v l.length (flat (rC exprC) l) ∧ Fit exprC wr U1 L l ∧ L.length = q ∧ Hid (∀ x ∈ L, x.2.size ≤ 21) ∧ Cu B g U1 wr ∧ Gro g U w U1 wr) (fun i _ => 1 - (intOf i).toNat)
            case atStart => exact ⟨0, [], [], .slice none 0 0, U, Nat.zero_le _, rfl, Rb, R, Rw.nil (by have := Rb.2.2; omega), Fit.nil _ _ _, rfl, fun x hx => (by cases hx), C, G⟩
            case round =>
              clear Rb R C G
              obtain ⟨q, L, l, v, U1, hq, rfl, Rb, R, O, F, hLq0, HL, C, G⟩ := hrel
              obtain ⟨Av, cv, rfl⟩ := O.form
              have hLq := Lib.hid hLq0
              have hll : l.length ≤ 2 := by rw [F.1, hLq0]; omega
              clear hLq0
              by_cases hlt : q < 1
              · have hlt' : (q : Int) < (1 : Int) := by omega
                go_upto_region 31 with fail
                refine wp_region_any (by kernel_rfl) ?_
                change wpAny _ _ _ _ _ _ _ (World.drew _)
                have bd := (Below.refl wr.heap.size wr).drew
                replace F := F.below C bd
                replace O := O.below bd
                replace Rb := Rb.below bd
                replace R := R.below bd
                replace G := G.below bd
                replace C := C.below bd
                clear bd
                generalize wr.drew = wd at F O Rb R G C ⊢
                refine wpAny_take (i := 0) (oi := ⟨some 81, _, _, _, _, _⟩) (v := ?_) rfl (by kernel_rfl) (by kernel_rfl) (by kernel_rfl) (fun _ _ _ h => h) (Or.inl ⟨by rfl, ?_⟩) ?_
                case refine_2 => (intro w; go_simp; first | done | with_reducible rfl)
                simp only [Act.put, List.setIfInBounds_toArray, List.set_cons_zero, List.set_cons_succ]
                refine wpAny_take (i := 2) (oi := ⟨some 83, _, _, _, _, _⟩) (v := ?_) rfl (by kernel_rfl) (by kernel_rfl) (by kernel_rfl) (fun _ _ _ h => h) (Or.inl ⟨by rfl, ?_⟩) ?_
                case refine_2 => (intro w; go_simp; first | done | with_reducible rfl)
                simp only [Act.put, List.setIfInBounds_toArray, List.set_cons_zero, List.set_cons_succ]
                refine wpAny_ready (rs := [1, 3]) (by kernel_rfl) (by simp) ?_
                refine AllReady.cons (o := ⟨some 82, _, _, _, _, _⟩) rfl (fun K hK => ?_) (AllReady.cons (o := ⟨some 84, _, _, _, _, _⟩) rfl (fun K hK => ?_) AllReady.nil)
                · have pc0 := Rb.cell
                  have pf0 := Rb.frozen
                  try have pc1 := (Rb.alloc (.cells #[.int .i64 y, .int .i64 yn, .string ys, .slice Ay ky.len cy] 26)).cell
                  try have pf1 := (Rb.alloc (.cells #[.int .i64 y, .int .i64 yn, .string ys, .slice Ay ky.len cy] 26)).frozen
                  go_simp
                  go_wp2_with fail
                  clear pc0 pf0
                  try clear pc1 pf1
                  try (refine hK _ _ ?_; clear hK K)
                  try simp only [Act.put, List.setIfInBounds_toArray, List.set_cons_zero, List.set_cons_succ]
                  refine wpAny_ready (rs := [3]) (by kernel_rfl) (by simp) ?_
                  refine AllReady.cons (o := ⟨some 84, _, _, _, _, _⟩) rfl (fun K hK => ?_) AllReady.nil
                  go_simp
                  refine (dDraw8 B g 2 (by omega) _ _ C).mono ?_; rintro e w5 ⟨y, yn, ys, ky, Ay, cy, U5, rfl, hky, hSy, C5, G5⟩
                  have HKY := Lib.hid (show ky.size ≤ 21 from hky)
                  clear hky
                  replace Rb := Rb.gro G5
                  replace R := R.gro G5
                  replace O := O.gro G5
                  replace F := F.gro C G5
                  replace G := G.trans G5
                  clear C
                  have C := C5
                  clear C5
                  go_wp2_with fail
                  try (refine hK _ _ ?_; clear hK K)
                  try simp only [Act.put, List.setIfInBounds_toArray, List.set_cons_zero, List.set_cons_succ]
                  refine wpAny_ready (rs := [4]) (by kernel_rfl) (by simp) ?_
                  refine AllReady.cons (o := ⟨some 85, _, _, _, _, _⟩) rfl (fun K hK => ?_) AllReady.nil
                  go_simp
                  go_wp2_with fail
                  try (refine hK _ _ ?_; clear hK K)
                  try simp only [Act.put, List.setIfInBounds_toArray, List.set_cons_zero, List.set_cons_succ]
                  refine wpAny_ready (rs := [5]) (by kernel_rfl) (by simp) ?_
                  refine AllReady.cons (o := ⟨some 86, _, _, _, _, _⟩) rfl (fun K hK => ?_) AllReady.nil
                  refine step_pushB rfl (.tmp 82) (.tmp 85) 24 rfl (rb + 1) 26 j0 (.agg #[.int .i64 0, .int .i64 0, .string ⟨#[]⟩, .slice none 0 0]) 4 56 Try.underlying24 hj hy0 hy1 hy2 rfl (by decide) (Value.slice Av l.length cv) _ _ rfl O.1 [.int .i64 y, .int .i64 yn, .string ys, .slice Ay ky.len cy] rfl rfl rfl (by omega) (by omega) (by have := Rb.lt; omega) ?_
                  intro v' w7 hO7 hg7 hv7
                  obtain ⟨A7, c7, rfl⟩ := (Row.mk hO7).form
                  have hb7 := fun k e => (O.lt k e).1
                  have F7 := (F.snoc (a := (y, yn, ys)) (c := cy) hSy).row C hg7 O.2.1
                  have Rb7 := Rb.row hg7 (fun e => by have := hb7 _ e.symm; omega)
                  have R7 := R.row hg7 (fun e => by have := hb7 _ e.symm; omega)
                  have hgr := Rb.2.2
                  have G7 := G.row hg7 (fun k e => by have := hb7 k e; omega)
                  have O7 := O.push C hO7 hv7
                  have C7 := C.row hg7 (fun k e => by have := hb7 k e; omega)
                  try (refine hK _ _ ?_; clear hK K)
                  try simp only [Act.put, List.setIfInBounds_toArray, List.set_cons_zero, List.set_cons_succ]
                  refine wpAny_take (i := 6) (oi := ⟨some 87, _, _, _, _, _⟩) (v := ?_) rfl (by kernel_rfl) (by kernel_rfl) (by kernel_rfl) (fun _ _ _ h => h) (Or.inl ⟨by rfl, ?_⟩) ?_
                  case refine_2 => (intro w; go_simp; first | done | with_reducible rfl)
                  simp only [Act.put, List.setIfInBounds_toArray, List.set_cons_zero, List.set_cons_succ]
                  refine wpAny_ready (rs := [7]) (by kernel_rfl) (by simp) ?_
                  refine AllReady.cons (o := ⟨none, _, _, _, _, _⟩) rfl (fun K hK => ?_) AllReady.nil
                  have pc0 := Rb7.cell
                  have pf0 := Rb7.frozen
                  go_simp
                  go_wp2_with fail
                  clear pc0 pf0
                  try (refine hK _ _ ?_; clear hK K)
                  try simp only [Act.put, List.setIfInBounds_toArray, List.set_cons_zero, List.set_cons_succ]
                  refine wpAny_done (by kernel_rfl) ?_ _
                  go_wp2_with fail
                  have O8 : Rw g U5 w7 (rb + 1) 26 4 (Value.slice A7 (l.length + 1) c7) (l ++ [((y, yn, ys), Value.slice Ay ky.len cy)]).length (flat (rC exprC) (l ++ [((y, yn, ys), Value.slice Ay ky.len cy)])) := by
                    rw [List.length_append, ← flat_snoc]
                    exact O7
                  have Rb8 := Rb7.set_ 3 (Value.slice A7 (l.length + 1) c7)
                  simp only [List.setIfInBounds_toArray, List.set_cons_succ, List.set_cons_zero] at Rb8
                  go_roundw
                  case rel => exact ⟨q + 1, _, _, _, U5, by omega, by go_num, Rb8, R7.far (by omega) _, O8.setl (Nat.lt_succ_self _) _, F7.setb Rb7.2.1 _, by rw [List.length_append, hLq.out]; rfl, fun x hx => by rcases List.mem_append.1 hx with h | h; exact HL.out x h; (rw [List.mem_singleton.1 h]; exact HKY.out), C7.setb Rb7.2.2 _, G7.setb (by omega) _⟩
                  case measure => (simp [intOf] <;> omega)
                · go_simp
                  refine (dDraw8 B g 2 (by omega) _ _ C).mono ?_; rintro e w5 ⟨y, yn, ys, ky, Ay, cy, U5, rfl, hky, hSy, C5, G5⟩
                  have HKY := Lib.hid (show ky.size ≤ 21 from hky)
                  clear hky
                  replace Rb := Rb.gro G5
                  replace R := R.gro G5
                  replace O := O.gro G5
                  replace F := F.gro C G5
                  replace G := G.trans G5
                  clear C
                  have C := C5
                  clear C5
                  go_wp2_with fail
                  try (refine hK _ _ ?_; clear hK K)
                  try simp only [Act.put, List.setIfInBounds_toArray, List.set_cons_zero, List.set_cons_succ]
                  refine wpAny_ready (rs := [1, 4]) (by kernel_rfl) (by simp) ?_
                  refine AllReady.cons (o := ⟨some 82, _, _, _, _, _⟩) rfl (fun K hK => ?_) (AllReady.cons (o := ⟨some 85, _, _, _, _, _⟩) rfl (fun K hK => ?_) AllReady.nil)
                  · have pc0 := Rb.cell
                    have pf0 := Rb.frozen
                    try have pc1 := (Rb.alloc (.cells #[.int .i64 y, .int .i64 yn, .string ys, .slice Ay ky.len cy] 26)).cell
                    try have pf1 := (Rb.alloc (.cells #[.int .i64 y, .int .i64 yn, .string ys, .slice Ay ky.len cy] 26)).frozen
                    go_simp
                    go_wp2_with fail
                    clear pc0 pf0
                    try clear pc1 pf1
                    try (refine hK _ _ ?_; clear hK K)
                    try simp only [Act.put, List.setIfInBounds_toArray, List.set_cons_zero, List.set_cons_succ]
                    refine wpAny_ready (rs := [4]) (by kernel_rfl) (by simp) ?_
                    refine AllReady.cons (o := ⟨some 85, _, _, _, _, _⟩) rfl (fun K hK => ?_) AllReady.nil
                    go_simp
                    go_wp2_with fail
                    try (refine hK _ _ ?_; clear hK K)
                    try simp only [Act.put, List.setIfInBounds_toArray, List.set_cons_zero, List.set_cons_succ]
                    refine wpAny_ready (rs := [5]) (by kernel_rfl) (by simp) ?_
                    refine AllReady.cons (o := ⟨some 86, _, _, _, _, _⟩) rfl (fun K hK => ?_) AllReady.nil
                    refine step_pushB rfl (.tmp 82) (.tmp 85) 24 rfl (rb + 1) 26 j0 (.agg #[.int .i64 0, .int .i64 0, .string ⟨#[]⟩, .slice none 0 0]) 4 56 Try.underlying24 hj hy0 hy1 hy2 rfl (by decide) (Value.slice Av l.length cv) _ _ rfl O.1 [.int .i64 y, .int .i64 yn, .string ys, .slice Ay ky.len cy] rfl rfl rfl (by omega) (by omega) (by have := Rb.lt; omega) ?_
                    intro v' w7 hO7 hg7 hv7
                    obtain ⟨A7, c7, rfl⟩ := (Row.mk hO7).form
                    have hb7 := fun k e => (O.lt k e).1
                    have F7 := (F.snoc (a := (y, yn, ys)) (c := cy) hSy).row C hg7 O.2.1
                    have Rb7 := Rb.row hg7 (fun e => by have := hb7 _ e.symm; omega)
                    have R7 := R.row hg7 (fun e => by have := hb7 _ e.symm; omega)
                    have hgr := Rb.2.2
                    have G7 := G.row hg7 (fun k e => by have := hb7 k e; omega)
                    have O7 := O.push C hO7 hv7
                    have C7 := C.row hg7 (fun k e => by have := hb7 k e; omega)
                    try (refine hK _ _ ?_; clear hK K)
                    try simp only [Act.put, List.setIfInBounds_toArray, List.set_cons_zero, List.set_cons_succ]
                    refine wpAny_take (i := 6) (oi := ⟨some 87, _, _, _, _, _⟩) (v := ?_) rfl (by kernel_rfl) (by kernel_rfl) (by kernel_rfl) (fun _ _ _ h => h) (Or.inl ⟨by rfl, ?_⟩) ?_
                    case refine_2 => (intro w; go_simp; first | done | with_reducible rfl)
                    simp only [Act.put, List.setIfInBounds_toArray, List.set_cons_zero, List.set_cons_succ]
                    refine wpAny_ready (rs := [7]) (by kernel_rfl) (by simp) ?_
                    refine AllReady.cons (o := ⟨none, _, _, _, _, _⟩) rfl (fun K hK => ?_) AllReady.nil
                    have pc0 := Rb7.cell
                    have pf0 := Rb7.frozen
                    go_simp
                    go_wp2_with fail
                    clear pc0 pf0
                    try (refine hK _ _ ?_; clear hK K)
                    try simp only [Act.put, List.setIfInBounds_toArray, List.set_cons_zero, List.set_cons_succ]
                    refine wpAny_done (by kernel_rfl) ?_ _
                    go_wp2_with fail
                    have O8 : Rw g U5 w7 (rb + 1) 26 4 (Value.slice A7 (l.length + 1) c7) (l ++ [((y, yn, ys), Value.slice Ay ky.len cy)]).length (flat (rC exprC) (l ++ [((y, yn, ys), Value.slice Ay ky.len cy)])) := by
                      rw [List.length_append, ← flat_snoc]
                      exact O7
                    have Rb8 := Rb7.set_ 3 (Value.slice A7 (l.length + 1) c7)
                    simp only [List.setIfInBounds_toArray, List.set_cons_succ, List.set_cons_zero] at Rb8
                    go_roundw
                    case rel => exact ⟨q + 1, _, _, _, U5, by omega, by go_num, Rb8, R7.far (by omega) _, O8.setl (Nat.lt_succ_self _) _, F7.setb Rb7.2.1 _, by rw [List.length_append, hLq.out]; rfl, fun x hx => by rcases List.mem_append.1 hx with h | h; exact HL.out x h; (rw [List.mem_singleton.1 h]; exact HKY.out), C7.setb Rb7.2.2 _, G7.setb (by omega) _⟩
                    case measure => (simp [intOf] <;> omega)
                  · go_simp
                    go_wp2_with fail
                    try (refine hK _ _ ?_; clear hK K)
                    try simp only [Act.put, List.setIfInBounds_toArray, List.set_cons_zero, List.set_cons_succ]
                    refine wpAny_ready (rs := [1]) (by kernel_rfl) (by simp) ?_
                    refine AllReady.cons (o := ⟨some 82, _, _, _, _, _⟩) rfl (fun K hK => ?_) AllReady.nil
                    have pc0 := Rb.cell
                    have pf0 := Rb.frozen
                    try have pc1 := (Rb.alloc (.cells #[.int .i64 y, .int .i64 yn, .string ys, .slice Ay ky.len cy] 26)).cell
                    try have pf1 := (Rb.alloc (.cells #[.int .i64 y, .int .i64 yn, .string ys, .slice Ay ky.len cy] 26)).frozen
                    go_simp
                    go_wp2_with fail
                    clear pc0 pf0
                    try clear pc1 pf1
                    try (refine hK _ _ ?_; clear hK K)
                    try simp only [Act.put, List.setIfInBounds_toArray, List.set_cons_zero, List.set_cons_succ]
                    refine wpAny_ready (rs := [5]) (by kernel_rfl) (by simp) ?_
                    refine AllReady.cons (o := ⟨some 86, _, _, _, _, _⟩) rfl (fun K hK => ?_) AllReady.nil
                    refine step_pushB rfl (.tmp 82) (.tmp 85) 24 rfl (rb + 1) 26 j0 (.agg #[.int .i64 0, .int .i64 0, .string ⟨#[]⟩, .slice none 0 0]) 4 56 Try.underlying24 hj hy0 hy1 hy2 rfl (by decide) (Value.slice Av l.length cv) _ _ rfl O.1 [.int .i64 y, .int .i64 yn, .string ys, .slice Ay ky.len cy] rfl rfl rfl (by omega) (by omega) (by have := Rb.lt; omega) ?_
                    intro v' w7 hO7 hg7 hv7
                    obtain ⟨A7, c7, rfl⟩ := (Row.mk hO7).form
                    have hb7 := fun k e => (O.lt k e).1
                    have F7 := (F.snoc (a := (y, yn, ys)) (c := cy) hSy).row C hg7 O.2.1
                    have Rb7 := Rb.row hg7 (fun e => by have := hb7 _ e.symm; omega)
                    have R7 := R.row hg7 (fun e => by have := hb7 _ e.symm; omega)
                    have hgr := Rb.2.2
                    have G7 := G.row hg7 (fun k e => by have := hb7 k e; omega)
                    have O7 := O.push C hO7 hv7
                    have C7 := C.row hg7 (fun k e => by have := hb7 k e; omega)
                    try (refine hK _ _ ?_; clear hK K)
                    try simp only [Act.put, List.setIfInBounds_toArray, List.set_cons_zero, List.set_cons_succ]
                    refine wpAny_take (i := 6) (oi := ⟨some 87, _, _, _, _, _⟩) (v := ?_) rfl (by kernel_rfl) (by kernel_rfl) (by kernel_rfl) (fun _ _ _ h => h) (Or.inl ⟨by rfl, ?_⟩) ?_
                    case refine_2 => (intro w; go_simp; first | done | with_reducible rfl)
                    simp only [Act.put, List.setIfInBounds_toArray, List.set_cons_zero, List.set_cons_succ]
                    refine wpAny_ready (rs := [7]) (by kernel_rfl) (by simp) ?_
                    refine AllReady.cons (o := ⟨none, _, _, _, _, _⟩) rfl (fun K hK => ?_) AllReady.nil
                    have pc0 := Rb7.cell
                    have pf0 := Rb7.frozen
                    go_simp
                    go_wp2_with fail
                    clear pc0 pf0
                    try (refine hK _ _ ?_; clear hK K)
                    try simp only [Act.put, List.setIfInBounds_toArray, List.set_cons_zero, List.set_cons_succ]
                    refine wpAny_done (by kernel_rfl) ?_ _
                    go_wp2_with fail
                    have O8 : Rw g U5 w7 (rb + 1) 26 4 (Value.slice A7 (l.length + 1) c7) (l ++ [((y, yn, ys), Value.slice Ay ky.len cy)]).length (flat (rC exprC) (l ++ [((y, yn, ys), Value.slice Ay ky.len cy)])) := by
                      rw [List.length_append, ← flat_snoc]
                      exact O7
                    have Rb8 := Rb7.set_ 3 (Value.slice A7 (l.length + 1) c7)
                    simp only [List.setIfInBounds_toArray, List.set_cons_succ, List.set_cons_zero] at Rb8
                    go_roundw
                    case rel => exact ⟨q + 1, _, _, _, U5, by omega, by go_num, Rb8, R7.far (by omega) _, O8.setl (Nat.lt_succ_self _) _, F7.setb Rb7.2.1 _, by rw [List.length_append, hLq.out]; rfl, fun x hx => by rcases List.mem_append.1 hx with h | h; exact HL.out x h; (rw [List.mem_singleton.1 h]; exact HKY.out), C7.setb Rb7.2.2 _, G7.setb (by omega) _⟩
                    case measure => (simp [intOf] <;> omega)
              · obtain rfl : q = 1 := by omega
                have HS := Lib.hid (show (mkFr L).size ≤ 44 from Nat.le_trans (size_mkE L HL.out) (Nat.le_trans (Nat.mul_le_mul_right 22 (show L.length ≤ 2 by have := hLq.out; omega)) (by decide)))
                have cI := fun w => cIn 10 5 7 w
                rw [show (decide ((5 : Int) ≤ 10) && decide ((10 : Int) ≤ 7)) = false from (by decide)] at cI
                have CI := Lib.hid cI
                clear cI
                go_wp2_with fail
                refine (CI.out _).mono ?_; rintro e wz ⟨rfl, rfl⟩
                have pc0 := Rb.cell
                have pf0 := Rb.frozen
                have pc1 := R.cell
                have pf1 := R.frozen
                go_wp2_with fail
                have hx : (Value.slice Av l.length cv).ownBlock ≠ some w.heap.size := fun e => by have := (O.lt _ e).1; omega
                have ha : (Value.slice none 0 0).ownBlock ≠ some w.heap.size := fun e => (by simp [Value.ownBlock] at e)
                have E9 := (show OS (nS D) B g U w _ wz wz.heap.size (.slice Av l.length cv) L l (.slice none 0 0) [] [] none .nil from ⟨by have h1 := HS.out; have h2 := nS_pos D; show (mkFr L).size + 0 + 0 ≤ _; omega, (show RX g _ wz (rb + 1) (.slice Av l.length cv) L l from ⟨O, F⟩).base_ (by omega) hC.lt, fun k e => (O.lt k e).2, G.sz, RA.nil C.lt, SlSP.nil_ _ _, C, G⟩)
                refine bodyPost_ret (res_cell1 rfl _ _ _ _ _ _ rfl ((((((R.1.set_ 0 _).set_ 1 _).set_ 2 _).set_ 3 _).set_ 4 _).set_ 5 _) Try.underlying31 (by kernel_rfl)) rfl ?_
                exact ⟨10, ⟨#[]⟩, ⟨#[]⟩, (.slice Av l.length cv), .slice none 0 0, none, 0, wz.heap.size, L, l, [], [], .nil, _, rfl, ((((((E9.setb R.2 (Nat.le_refl _) hx ha _ _).setb R.2 (Nat.le_refl _) hx ha _ _).setb R.2 (Nat.le_refl _) hx ha _ _).setb R.2 (Nat.le_refl _) hx ha _ _).setb R.2 (Nat.le_refl _) hx ha _ _).setb R.2 (Nat.le_refl _) hx ha _ _)⟩
      · have b8 : (k == 8) = false := by simp; omega
        have b10 : (k == 10) = false := by simp; omega
        have hk10 : k = 1 ∨ k = 2 ∨ k = 3 ∨ k = 4 ∨ k = 5 ∨ k = 6 ∨ k = 7 ∨ k = 9 ∨ k = 11 ∨ k = 12 := by omega
        have hkk : k = 12 ∨ k = 5 ∨ k = 6 ∨ k = 7 ∨ ((k == 12) = false ∧ (k == 5) = false ∧ (decide ((5 : Int) ≤ k) && decide (k ≤ 7)) = false) := by
          rcases hk10 with rfl | rfl | rfl | rfl | rfl | rfl | rfl | rfl | rfl | rfl <;> first | (right; right; right; right; decide) | omega
        have HKK := Lib.hid hkk
        have H57 := Lib.hid (show D = 0 → ¬ (5 ≤ k ∧ k ≤ 7) from hbk.out)
        have H10 := Lib.hid hk10
        clear hkk hbk hk h8 hk10
        have hrb0 := R.lt
        have Rb := Bx.new C 31 #[.int .i64 k, .string ⟨#[]⟩, .string ⟨#[]⟩, .slice none 0 0, .slice none 0 0, .slice none 0 0]
        replace R := R.alloc (.cells #[.int .i64 k, .string ⟨#[]⟩, .string ⟨#[]⟩, .slice none 0 0, .slice none 0 0, .slice none 0 0] 31)
        replace G := G.alloc (.cells #[.int .i64 k, .string ⟨#[]⟩, .string ⟨#[]⟩, .slice none 0 0, .slice none 0 0, .slice none 0 0] 31)
        replace C := C.alloc (.cells #[.int .i64 k, .string ⟨#[]⟩, .string ⟨#[]⟩, .slice none 0 0, .slice none 0 0, .slice none 0 0] 31)
        go_upto_block 0 with fail
        generalize wc.alloc (.cells #[.int .i64 k, .string ⟨#[]⟩, .string ⟨#[]⟩, .slice none 0 0, .slice none 0 0, .slice none 0 0] 31) = w4 at Rb R C G ⊢
        generalize wc.heap.size = rb at Rb hrb0 ⊢
        go_cut [9] from 39 to 75 (fun n wx => ∃ (N : Nat) (s t : ByteArray), n = .int .i64 N ∧ N ≤ 2 ∧ (k = 12 → N = 1) ∧ Cu B g U wx ∧ Gro g U w U wx ∧ Bx g U wx w.heap.size 31 #[.int .i64 0, .string ⟨#[]⟩, .string ⟨#[]⟩, .slice none 0 0, .slice none 0 0, .slice none 0 0] ∧ Bx g U wx rb 31 #[.int .i64 k, .string s, .string t, .slice none 0 0, .slice none 0 0, .slice none 0 0])
        case first =>
          have hk10 := H10.out
          clear H10 HKK H57
          rcases hk10 with rfl | rfl | rfl | rfl | rfl | rfl | rfl | rfl | rfl | rfl
          · go_wp2_with fail
            refine (cBelow 2 C (by omega)).mono ?_; rintro e w5 ⟨⟨x, rfl, hx0, hx1, _⟩, C5, G5⟩
            have hx2 := hx1 (by omega)
            obtain ⟨x0, rfl⟩ := Int.eq_ofNat_of_zero_le hx0
            clear hx0 hx1
            have ew : IntKind.i64.wrap (1 + (x0 : Int)) = ((x0 + 1 : Nat) : Int) := by rw [IntKind.wrap_i64]; omega
            replace Rb := Rb.gro G5
            replace R := R.gro G5
            replace G := G.trans G5
            clear C
            have C := C5
            clear C5
            go_wp2_with fail
            go_meet
            exact ⟨x0 + 1, ⟨#[]⟩, ⟨#[]⟩, rfl, by omega, (fun h => by first | rfl | omega), C, G, R, Rb⟩
          · go_wp2_with fail
            refine (cStr w4.heap.size 2 [⟨#[120]⟩, ⟨#[121]⟩] (C.alloc _) rfl (by omega) (by omega) (Blk.new w4 _ _) (by have := C.lt; omega)).mono ?_; rintro e w5z ⟨⟨z, rfl, _⟩, C5, G5⟩
            replace Rb := (Rb.alloc _).gro G5
            replace R := (R.alloc _).gro G5
            replace G := (G.alloc _).trans G5
            clear C
            have C := C5
            clear C5 G5
            have pc0 := Rb.cell
            have pf0 := Rb.frozen
            go_wp2_with fail
            clear pc0 pf0
            replace R := R.far (b := rb) (j := 1) (by omega) (.string z)
            replace G := G.setb (b := rb) (j := 1) (by omega) (.string z)
            replace C := C.setb (b := rb) (j := 1) Rb.2.2 (.string z)
            replace Rb := Rb.set_ 1 (.string z)
            simp only [List.setIfInBounds_toArray, List.set_cons_succ, List.set_cons_zero] at Rb
            go_meet
            exact ⟨1, z, ⟨#[]⟩, rfl, by omega, (fun h => by first | rfl | omega), C, G, R, Rb⟩
          · go_wp2_with fail
            refine (cStr w4.heap.size 2 [⟨#[116]⟩, ⟨#[117]⟩] (C.alloc _) rfl (by omega) (by omega) (Blk.new w4 _ _) (by have := C.lt; omega)).mono ?_; rintro e w5z ⟨⟨z, rfl, _⟩, C5, G5⟩
            replace Rb := (Rb.alloc _).gro G5
            replace R := (R.alloc _).gro G5
            replace G := (G.alloc _).trans G5
            clear C
            have C := C5
            clear C5 G5
            have pc0 := Rb.cell
            have pf0 := Rb.frozen
            go_wp2_with fail
            clear pc0 pf0
            replace R := R.far (b := rb) (j := 1) (by omega) (.string z)
            replace G := G.setb (b := rb) (j := 1) (by omega) (.string z)
            replace C := C.setb (b := rb) (j := 1) Rb.2.2 (.string z)
            replace Rb := Rb.set_ 1 (.string z)
            simp only [List.setIfInBounds_toArray, List.set_cons_succ, List.set_cons_zero] at Rb
            go_meet
            exact ⟨2, z, ⟨#[]⟩, rfl, by omega, (fun h => by first | rfl | omega), C, G, R, Rb⟩
          · go_wp2_with fail
            go_meet
            exact ⟨2, ⟨#[]⟩, ⟨#[]⟩, rfl, by omega, (fun h => by first | rfl | omega), C, G, R, Rb⟩
          · go_wp2_with fail
            go_meet
            exact ⟨1, ⟨#[]⟩, ⟨#[]⟩, rfl, by omega, (fun h => by first | rfl | omega), C, G, R, Rb⟩
          · go_wp2_with fail
            go_meet
            exact ⟨1, ⟨#[]⟩, ⟨#[]⟩, rfl, by omega, (fun h => by first | rfl | omega), C, G, R, Rb⟩
          · go_wp2_with fail
            refine (cStr w4.heap.size 2 [⟨#[120]⟩, ⟨#[121]⟩] (C.alloc _) rfl (by omega) (by omega) (Blk.new w4 _ _) (by have := C.lt; omega)).mono ?_; rintro e w5z ⟨⟨z, rfl, _⟩, C5, G5⟩
            replace Rb := (Rb.alloc _).gro G5
            replace R := (R.alloc _).gro G5
            replace G := (G.alloc _).trans G5
            have hcl := C5.lt
            clear C
            have C := C5
            clear C5 G5
            have pc0 := Rb.cell
            have pf0 := Rb.frozen
            go_wp2_with fail
            clear pc0 pf0
            replace R := R.far (b := rb) (j := 1) (by omega) (.string z)
            replace G := G.setb (b := rb) (j := 1) (by omega) (.string z)
            replace C := C.setb (b := rb) (j := 1) Rb.2.2 (.string z)
            replace Rb := Rb.set_ 1 (.string z)
            simp only [List.setIfInBounds_toArray, List.set_cons_succ, List.set_cons_zero] at Rb
            refine (cStr w5z.heap.size 2 [⟨#[116]⟩, ⟨#[117]⟩] (C.alloc _) rfl (by omega) (by omega) (Blk.new_set w5z ⟨rb, 1, none⟩ (.string z) _ _) (by omega)).mono ?_; rintro e w5z2 ⟨⟨z2, rfl, _⟩, C5, G5⟩
            replace Rb := (Rb.alloc _).gro G5
            replace R := (R.alloc _).gro G5
            replace G := (G.alloc _).trans G5
            clear C
            have C := C5
            clear C5 G5
            have pc0 := Rb.cell
            have pf0 := Rb.frozen
            go_wp2_with fail
            clear pc0 pf0
            replace R := R.far (b := rb) (j := 2) (by omega) (.string z2)
            replace G := G.setb (b := rb) (j := 2) (by omega) (.string z2)
            replace C := C.setb (b := rb) (j := 2) Rb.2.2 (.string z2)
            replace Rb := Rb.set_ 2 (.string z2)
            simp only [List.setIfInBounds_toArray, List.set_cons_succ, List.set_cons_zero] at Rb
            go_meet
            exact ⟨0, z, z2, rfl, by omega, (fun h => by first | rfl | omega), C, G, R, Rb⟩
          · go_wp2_with fail
            go_meet
            exact ⟨1, ⟨#[]⟩, ⟨#[]⟩, rfl, by omega, (fun h => by first | rfl | omega), C, G, R, Rb⟩
          · go_wp2_with fail
            refine (cStr w4.heap.size 2 [⟨#[116]⟩, ⟨#[117]⟩] (C.alloc _) rfl (by omega) (by omega) (Blk.new w4 _ _) (by have := C.lt; omega)).mono ?_; rintro e w5z ⟨⟨z, rfl, _⟩, C5, G5⟩
            replace Rb := (Rb.alloc _).gro G5
            replace R := (R.alloc _).gro G5
            replace G := (G.alloc _).trans G5
            clear C
            have C := C5
            clear C5 G5
            have pc0 := Rb.cell
            have pf0 := Rb.frozen
            go_wp2_with fail
            clear pc0 pf0
            replace R := R.far (b := rb) (j := 1) (by omega) (.string z)
            replace G := G.setb (b := rb) (j := 1) (by omega) (.string z)
            replace C := C.setb (b := rb) (j := 1) Rb.2.2 (.string z)
            replace Rb := Rb.set_ 1 (.string z)
            simp only [List.setIfInBounds_toArray, List.set_cons_succ, List.set_cons_zero] at Rb
            go_meet
            exact ⟨1, z, ⟨#[]⟩, rfl, by omega, (fun h => by first | rfl | omega), C, G, R, Rb⟩
          · go_wp2_with fail
            go_meet
            exact ⟨1, ⟨#[]⟩, ⟨#[]⟩, rfl, by omega, (fun h => by first | rfl | omega), C, G, R, Rb⟩
        case rest =>
          clear Rb R C G
          obtain ⟨N, s, t, rfl, hN, hN12, C, G, R, Rb⟩ := hcut
          have HN := Lib.hid hN12
          clear hN12
          go_wp2_with fail
          go_loopw [10] (fun i wr => ∃ (q : Nat) (L : List ((Int × Int × ByteArray) × Fr (Int × Int × ByteArray))) (l : List ((Int × Int × ByteArray) × Value)) (v : Value) (U1 : Nat → Prop), q ≤ N ∧ i = .int .i64 q ∧ Bx g U1 wr rb 31 #[.int .i64 k, .string s, .string t, v, .slice none 0 0, .slice none 0 0] ∧ Bx g U1 wr w.heap.size 31 #[.int .i64 0, .string ⟨#[]⟩, .string ⟨#[]⟩, .slice none 0 0, .slice none 0 0, .slice none 0 0] ∧ Rw g U1 wr (rb + 1) 26 4 v l.length (flat (rC exprC) l) ∧ Fit exprC wr U1 L l ∧ L.length = q ∧ Hid (∀ x ∈ L, x.2.size ≤ 21) ∧ Cu B g U1 wr ∧ Gro g U w U1 wr) (fun i _ => N - (intOf i).toNat)
          case atStart => exact ⟨0, [], [], .slice none 0 0, U, Nat.zero_le _, rfl, Rb, R, Rw.nil (by have := Rb.2.2; omega), Fit.nil _ _ _, rfl, fun x hx => (by cases hx), C, G⟩
          case round =>
            clear Rb R C G
            obtain ⟨q, L, l, v, U1, hq, rfl, Rb, R, O, F, hLq0, HL, C, G⟩ := hrel
            obtain ⟨Av, cv, rfl⟩ := O.form
            have hLq := Lib.hid hLq0
            have hll : l.length ≤ 2 := by rw [F.1, hLq0]; omega
            clear hLq0
            by_cases hlt : q < N
            · have hlt' : (q : Int) < (N : Int) := by omega
              go_upto_region 31 with fail
              refine wp_region_any (by kernel_rfl) ?_
              change wpAny _ _ _ _ _ _ _ (World.drew _)
              have bd := (Below.refl wr.heap.size wr).drew
              replace F := F.below C bd
              replace O := O.below bd
              replace Rb := Rb.below bd
              replace R := R.below bd
              replace G := G.below bd
              replace C := C.below bd
              clear bd
              generalize wr.drew = wd at F O Rb R G C ⊢
              refine wpAny_take (i := 0) (oi := ⟨some 81, _, _, _, _, _⟩) (v := ?_) rfl (by kernel_rfl) (by kernel_rfl) (by kernel_rfl) (fun _ _ _ h => h) (Or.inl ⟨by rfl, ?_⟩) ?_
              case refine_2 => (intro w; go_simp; first | done | with_reducible rfl)
              simp only [Act.put, List.setIfInBounds_toArray, List.set_cons_zero, List.set_cons_succ]
              refine wpAny_take (i := 2) (oi := ⟨some 83, _, _, _, _, _⟩) (v := ?_) rfl (by kernel_rfl) (by kernel_rfl) (by kernel_rfl) (fun _ _ _ h => h) (Or.inl ⟨by rfl, ?_⟩) ?_
              case refine_2 => (intro w; go_simp; first | done | with_reducible rfl)
              simp only [Act.put, List.setIfInBounds_toArray, List.set_cons_zero, List.set_cons_succ]
              refine wpAny_ready (rs := [1, 3]) (by kernel_rfl) (by simp) ?_
              refine AllReady.cons (o := ⟨some 82, _, _, _, _, _⟩) rfl (fun K hK => ?_) (AllReady.cons (o := ⟨some 84, _, _, _, _, _⟩) rfl (fun K hK => ?_) AllReady.nil)
              · have pc0 := Rb.cell
                have pf0 := Rb.frozen
                try have pc1 := (Rb.alloc (.cells #[.int .i64 y, .int .i64 yn, .string ys, .slice Ay ky.len cy] 26)).cell
                try have pf1 := (Rb.alloc (.cells #[.int .i64 y, .int .i64 yn, .string ys, .slice Ay ky.len cy] 26)).frozen
                go_simp
                go_wp2_with fail
                clear pc0 pf0
                try clear pc1 pf1
                try (refine hK _ _ ?_; clear hK K)
                try simp only [Act.put, List.setIfInBounds_toArray, List.set_cons_zero, List.set_cons_succ]
                refine wpAny_ready (rs := [3]) (by kernel_rfl) (by simp) ?_
                refine AllReady.cons (o := ⟨some 84, _, _, _, _, _⟩) rfl (fun K hK => ?_) AllReady.nil
                go_simp
                refine (dDraw8 B g 2 (by omega) _ _ C).mono ?_; rintro e w5 ⟨y, yn, ys, ky, Ay, cy, U5, rfl, hky, hSy, C5, G5⟩
                have HKY := Lib.hid (show ky.size ≤ 21 from hky)
                clear hky
                replace Rb := Rb.gro G5
                replace R := R.gro G5
                replace O := O.gro G5
                replace F := F.gro C G5
                replace G := G.trans G5
                clear C
                have C := C5
                clear C5
                go_wp2_with fail
                try (refine hK _ _ ?_; clear hK K)
                try simp only [Act.put, List.setIfInBounds_toArray, List.set_cons_zero, List.set_cons_succ]
                refine wpAny_ready (rs := [4]) (by kernel_rfl) (by simp) ?_
                refine AllReady.cons (o := ⟨some 85, _, _, _, _, _⟩) rfl (fun K hK => ?_) AllReady.nil
                go_simp
                go_wp2_with fail
                try (refine hK _ _ ?_; clear hK K)
                try simp only [Act.put, List.setIfInBounds_toArray, List.set_cons_zero, List.set_cons_succ]
                refine wpAny_ready (rs := [5]) (by kernel_rfl) (by simp) ?_
                refine AllReady.cons (o := ⟨some 86, _, _, _, _, _⟩) rfl (fun K hK => ?_) AllReady.nil
                refine step_pushB rfl (.tmp 82) (.tmp 85) 24 rfl (rb + 1) 26 j0 (.agg #[.int .i64 0, .int .i64 0, .string ⟨#[]⟩, .slice none 0 0]) 4 56 Try.underlying24 hj hy0 hy1 hy2 rfl (by decide) (Value.slice Av l.length cv) _ _ rfl O.1 [.int .i64 y, .int .i64 yn, .string ys, .slice Ay ky.len cy] rfl rfl rfl (by omega) (by omega) (by have := Rb.lt; omega) ?_
                intro v' w7 hO7 hg7 hv7
                obtain ⟨A7, c7, rfl⟩ := (Row.mk hO7).form
                have hb7 := fun k e => (O.lt k e).1
                have F7 := (F.snoc (a := (y, yn, ys)) (c := cy) hSy).row C hg7 O.2.1
                have Rb7 := Rb.row hg7 (fun e => by have := hb7 _ e.symm; omega)
                have R7 := R.row hg7 (fun e => by have := hb7 _ e.symm; omega)
                have hgr := Rb.2.2
                have G7 := G.row hg7 (fun k e => by have := hb7 k e; omega)
                have O7 := O.push C hO7 hv7
                have C7 := C.row hg7 (fun k e => by have := hb7 k e; omega)
                try (refine hK _ _ ?_; clear hK K)
                try simp only [Act.put, List.setIfInBounds_toArray, List.set_cons_zero, List.set_cons_succ]
                refine wpAny_take (i := 6) (oi := ⟨some 87, _, _, _, _, _⟩) (v := ?_) rfl (by kernel_rfl) (by kernel_rfl) (by kernel_rfl) (fun _ _ _ h => h) (Or.inl ⟨by rfl, ?_⟩) ?_
                case refine_2 => (intro w; go_simp; first | done | with_reducible rfl)
                simp only [Act.put, List.setIfInBounds_toArray, List.set_cons_zero, List.set_cons_succ]
                refine wpAny_ready (rs := [7]) (by kernel_rfl) (by simp) ?_
                refine AllReady.cons (o := ⟨none, _, _, _, _, _⟩) rfl (fun K hK => ?_) AllReady.nil
                have pc0 := Rb7.cell
                have pf0 := Rb7.frozen
                go_simp
                go_wp2_with fail
                clear pc0 pf0
                try (refine hK _ _ ?_; clear hK K)
                try simp only [Act.put, List.setIfInBounds_toArray, List.set_cons_zero, List.set_cons_succ]
                refine wpAny_done (by kernel_rfl) ?_ _
                go_wp2_with fail
                have O8 : Rw g U5 w7 (rb + 1) 26 4 (Value.slice A7 (l.length + 1) c7) (l ++ [((y, yn, ys), Value.slice Ay ky.len cy)]).length (flat (rC exprC) (l ++ [((y, yn, ys), Value.slice Ay ky.len cy)])) := by
                  rw [List.length_append, ← flat_snoc]
                  exact O7
                have Rb8 := Rb7.set_ 3 (Value.slice A7 (l.length + 1) c7)
                simp only [List.setIfInBounds_toArray, List.set_cons_succ, List.set_cons_zero] at Rb8
                go_roundw
                case rel => exact ⟨q + 1, _, _, _, U5, by omega, by go_num, Rb8, R7.far (by omega) _, O8.setl (Nat.lt_succ_self _) _, F7.setb Rb7.2.1 _, by rw [List.length_append, hLq.out]; rfl, fun x hx => by rcases List.mem_append.1 hx with h | h; exact HL.out x h; (rw [List.mem_singleton.1 h]; exact HKY.out), C7.setb Rb7.2.2 _, G7.setb (by omega) _⟩
                case measure => (simp [intOf] <;> omega)
              · go_simp
                refine (dDraw8 B g 2 (by omega) _ _ C).mono ?_; rintro e w5 ⟨y, yn, ys, ky, Ay, cy, U5, rfl, hky, hSy, C5, G5⟩
                have HKY := Lib.hid (show ky.size ≤ 21 from hky)
                clear hky
                replace Rb := Rb.gro G5
                replace R := R.gro G5
                replace O := O.gro G5
                replace F := F.gro C G5
                replace G := G.trans G5
                clear C
                have C := C5
                clear C5
                go_wp2_with fail
                try (refine hK _ _ ?_; clear hK K)
                try simp only [Act.put, List.setIfInBounds_toArray, List.set_cons_zero, List.set_cons_succ]
                refine wpAny_ready (rs := [1, 4]) (by kernel_rfl) (by simp) ?_
                refine AllReady.cons (o := ⟨some 82, _, _, _, _, _⟩) rfl (fun K hK => ?_) (AllReady.cons (o := ⟨some 85, _, _, _, _, _⟩) rfl (fun K hK => ?_) AllReady.nil)
                · have pc0 := Rb.cell
                  have pf0 := Rb.frozen
                  try have pc1 := (Rb.alloc (.cells #[.int .i64 y, .int .i64 yn, .string ys, .slice Ay ky.len cy] 26)).cell
                  try have pf1 := (Rb.alloc (.cells #[.int .i64 y, .int .i64 yn, .string ys, .slice Ay ky.len cy] 26)).frozen
                  go_simp
                  go_wp2_with fail
                  clear pc0 pf0
                  try clear pc1 pf1
                  try (refine hK _ _ ?_; clear hK K)
                  try simp only [Act.put, List.setIfInBounds_toArray, List.set_cons_zero, List.set_cons_succ]
                  refine wpAny_ready (rs := [4]) (by kernel_rfl) (by simp) ?_
                  refine AllReady.cons (o := ⟨some 85, _, _, _, _, _⟩) rfl (fun K hK => ?_) AllReady.nil
                  go_simp
                  go_wp2_with fail
                  try (refine hK _ _ ?_; clear hK K)
                  try simp only [Act.put, List.setIfInBounds_toArray, List.set_cons_zero, List.set_cons_succ]
                  refine wpAny_ready (rs := [5]) (by kernel_rfl) (by simp) ?_
                  refine AllReady.cons (o := ⟨some 86, _, _, _, _, _⟩) rfl (fun K hK => ?_) AllReady.nil
                  refine step_pushB rfl (.tmp 82) (.tmp 85) 24 rfl (rb + 1) 26 j0 (.agg #[.int .i64 0, .int .i64 0, .string ⟨#[]⟩, .slice none 0 0]) 4 56 Try.underlying24 hj hy0 hy1 hy2 rfl (by decide) (Value.slice Av l.length cv) _ _ rfl O.1 [.int .i64 y, .int .i64 yn, .string ys, .slice Ay ky.len cy] rfl rfl rfl (by omega) (by omega) (by have := Rb.lt; omega) ?_
                  intro v' w7 hO7 hg7 hv7
                  obtain ⟨A7, c7, rfl⟩ := (Row.mk hO7).form
                  have hb7 := fun k e => (O.lt k e).1
                  have F7 := (F.snoc (a := (y, yn, ys)) (c := cy) hSy).row C hg7 O.2.1
                  have Rb7 := Rb.row hg7 (fun e => by have := hb7 _ e.symm; omega)
                  have R7 := R.row hg7 (fun e => by have := hb7 _ e.symm; omega)
                  have hgr := Rb.2.2
                  have G7 := G.row hg7 (fun k e => by have := hb7 k e; omega)
                  have O7 := O.push C hO7 hv7
                  have C7 := C.row hg7 (fun k e => by have := hb7 k e; omega)
                  try (refine hK _ _ ?_; clear hK K)
                  try simp only [Act.put, List.setIfInBounds_toArray, List.set_cons_zero, List.set_cons_succ]
                  refine wpAny_take (i := 6) (oi := ⟨some 87, _, _, _, _, _⟩) (v := ?_) rfl (by kernel_rfl) (by kernel_rfl) (by kernel_rfl) (fun _ _ _ h => h) (Or.inl ⟨by rfl, ?_⟩) ?_
                  case refine_2 => (intro w; go_simp; first | done | with_reducible rfl)
                  simp only [Act.put, List.setIfInBounds_toArray, List.set_cons_zero, List.set_cons_succ]
                  refine wpAny_ready (rs := [7]) (by kernel_rfl) (by simp) ?_
                  refine AllReady.cons (o := ⟨none, _, _, _, _, _⟩) rfl (fun K hK => ?_) AllReady.nil
                  have pc0 := Rb7.cell
                  have pf0 := Rb7.frozen
                  go_simp
                  go_wp2_with fail
                  clear pc0 pf0
                  try (refine hK _ _ ?_; clear hK K)
                  try simp only [Act.put, List.setIfInBounds_toArray, List.set_cons_zero, List.set_cons_succ]
                  refine wpAny_done (by kernel_rfl) ?_ _
                  go_wp2_with fail
                  have O8 : Rw g U5 w7 (rb + 1) 26 4 (Value.slice A7 (l.length + 1) c7) (l ++ [((y, yn, ys), Value.slice Ay ky.len cy)]).length (flat (rC exprC) (l ++ [((y, yn, ys), Value.slice Ay ky.len cy)])) := by
                    rw [List.length_append, ← flat_snoc]
                    exact O7
                  have Rb8 := Rb7.set_ 3 (Value.slice A7 (l.length + 1) c7)
                  simp only [List.setIfInBounds_toArray, List.set_cons_succ, List.set_cons_zero] at Rb8
                  go_roundw
                  case rel => exact ⟨q + 1, _, _, _, U5, by omega, by go_num, Rb8, R7.far (by omega) _, O8.setl (Nat.lt_succ_self _) _, F7.setb Rb7.2.1 _, by rw [List.length_append, hLq.out]; rfl, fun x hx => by rcases List.mem_append.1 hx with h | h; exact HL.out x h; (rw [List.mem_singleton.1 h]; exact HKY.out), C7.setb Rb7.2.2 _, G7.setb (by omega) _⟩
                  case measure => (simp [intOf] <;> omega)
                · go_simp
                  go_wp2_with fail
                  try (refine hK _ _ ?_; clear hK K)
                  try simp only [Act.put, List.setIfInBounds_toArray, List.set_cons_zero, List.set_cons_succ]
                  refine wpAny_ready (rs := [1]) (by kernel_rfl) (by simp) ?_
                  refine AllReady.cons (o := ⟨some 82, _, _, _, _, _⟩) rfl (fun K hK => ?_) AllReady.nil
                  have pc0 := Rb.cell
                  have pf0 := Rb.frozen
                  try have pc1 := (Rb.alloc (.cells #[.int .i64 y, .int .i64 yn, .string ys, .slice Ay ky.len cy] 26)).cell
                  try have pf1 := (Rb.alloc (.cells #[.int .i64 y, .int .i64 yn, .string ys, .slice Ay ky.len cy] 26)).frozen
                  go_simp
                  go_wp2_with fail
                  clear pc0 pf0
                  try clear pc1 pf1
                  try (refine hK _ _ ?_; clear hK K)
                  try simp only [Act.put, List.setIfInBounds_toArray, List.set_cons_zero, List.set_cons_succ]
                  refine wpAny_ready (rs := [5]) (by kernel_rfl) (by simp) ?_
                  refine AllReady.cons (o := ⟨some 86, _, _, _, _, _⟩) rfl (fun K hK => ?_) AllReady.nil
                  refine step_pushB rfl (.tmp 82) (.tmp 85) 24 rfl (rb + 1) 26 j0 (.agg #[.int .i64 0, .int .i64 0, .string ⟨#[]⟩, .slice none 0 0]) 4 56 Try.underlying24 hj hy0 hy1 hy2 rfl (by decide) (Value.slice Av l.length cv) _ _ rfl O.1 [.int .i64 y, .int .i64 yn, .string ys, .slice Ay ky.len cy] rfl rfl rfl (by omega) (by omega) (by have := Rb.lt; omega) ?_
                  intro v' w7 hO7 hg7 hv7
                  obtain ⟨A7, c7, rfl⟩ := (Row.mk hO7).form
                  have hb7 := fun k e => (O.lt k e).1
                  have F7 := (F.snoc (a := (y, yn, ys)) (c := cy) hSy).row C hg7 O.2.1
                  have Rb7 := Rb.row hg7 (fun e => by have := hb7 _ e.symm; omega)
                  have R7 := R.row hg7 (fun e => by have := hb7 _ e.symm; omega)
                  have hgr := Rb.2.2
                  have G7 := G.row hg7 (fun k e => by have := hb7 k e; omega)
                  have O7 := O.push C hO7 hv7
                  have C7 := C.row hg7 (fun k e => by have := hb7 k e; omega)
                  try (refine hK _ _ ?_; clear hK K)
                  try simp only [Act.put, List.setIfInBounds_toArray, List.set_cons_zero, List.set_cons_succ]
                  refine wpAny_take (i := 6) (oi := ⟨some 87, _, _, _, _, _⟩) (v := ?_) rfl (by kernel_rfl) (by kernel_rfl) (by kernel_rfl) (fun _ _ _ h => h) (Or.inl ⟨by rfl, ?_⟩) ?_
                  case refine_2 => (intro w; go_simp; first | done | with_reducible rfl)
                  simp only [Act.put, List.setIfInBounds_toArray, List.set_cons_zero, List.set_cons_succ]
                  refine wpAny_ready (rs := [7]) (by kernel_rfl) (by simp) ?_
                  refine AllReady.cons (o := ⟨none, _, _, _, _, _⟩) rfl (fun K hK => ?_) AllReady.nil
                  have pc0 := Rb7.cell
                  have pf0 := Rb7.frozen
                  go_simp
                  go_wp2_with fail
                  clear pc0 pf0
                  try (refine hK _ _ ?_; clear hK K)
                  try simp only [Act.put, List.setIfInBounds_toArray, List.set_cons_zero, List.set_cons_succ]
                  refine wpAny_done (by kernel_rfl) ?_ _
                  go_wp2_with fail
                  have O8 : Rw g U5 w7 (rb + 1) 26 4 (Value.slice A7 (l.length + 1) c7) (l ++ [((y, yn, ys), Value.slice Ay ky.len cy)]).length (flat (rC exprC) (l ++ [((y, yn, ys), Value.slice Ay ky.len cy)])) := by
                    rw [List.length_append, ← flat_snoc]
                    exact O7
                  have Rb8 := Rb7.set_ 3 (Value.slice A7 (l.length + 1) c7)
                  simp only [List.setIfInBounds_toArray, List.set_cons_succ, List.set_cons_zero] at Rb8
                  go_roundw
                  case rel => exact ⟨q + 1, _, _, _, U5, by omega, by go_num, Rb8, R7.far (by omega) _, O8.setl (Nat.lt_succ_self _) _, F7.setb Rb7.2.1 _, by rw [List.length_append, hLq.out]; rfl, fun x hx => by rcases List.mem_append.1 hx with h | h; exact HL.out x h; (rw [List.mem_singleton.1 h]; exact HKY.out), C7.setb Rb7.2.2 _, G7.setb (by omega) _⟩
                  case measure => (simp [intOf] <;> omega)
            · obtain rfl : q = N := by omega
              have HS := Lib.hid (show (mkFr L).size ≤ 44 from Nat.le_trans (size_mkE L HL.out) (Nat.le_trans (Nat.mul_le_mul_right 22 (show L.length ≤ 2 by have := hLq.out; omega)) (by decide)))
              have hkk := HKK.out
              have h57 := H57.out
              clear HKK H57 H10
              rcases hkk with rfl | rfl | rfl | rfl | ⟨k12, k5, k57⟩
              · obtain ⟨x0, rfl⟩ := List.length_eq_one_iff.1 (show L.length = 1 by rw [hLq.out]; exact HN.out rfl)
                obtain ⟨⟨ak, an, az⟩, k0⟩ := x0
                obtain ⟨y0, rfl⟩ := List.length_eq_one_iff.1 (show l.length = 1 from F.1)
                obtain ⟨A0, c0, e0, S0⟩ := F.2 0 Nat.zero_lt_one
                simp only [List.getElem?_cons_zero, List.getElem_cons_zero, Option.some.injEq] at e0 S0
                subst e0
                have hk0 : k0.size ≤ 21 := HL.out _ (List.mem_singleton.2 rfl)
                clear F HS
                obtain ⟨g0, rfl, hg0, _⟩ := own_blk O.1 Nat.zero_lt_one
                have hrbl := R.2.2
                replace O : Rw g U1 wr (rb + 1) 26 4 (Value.slice (some ⟨g0, 0, none⟩) 1 cv) 1 (flat (rC exprC) [((ak, an, az), Value.slice A0 k0.len c0)]) := O
                replace Rb : Bx g U1 wr rb 31 #[.int .i64 12, .string s, .string t, (Value.slice (some ⟨g0, 0, none⟩) 1 cv), .slice none 0 0, .slice none 0 0] := Rb
                go_upto_region 33 with fail
                go_cut [] from 90 to 101 (fun wx => ∃ (z : ByteArray) (k1 : Fr (Int × Int × ByteArray)) (A1 : Option Addr) (c1 : Nat) (U2 : Nat → Prop), k1.size ≤ 43 ∧ Cu B g U2 wx ∧ Gro g U w U2 wx ∧ Bx g U2 wx w.heap.size 31 #[.int .i64 0, .string ⟨#[]⟩, .string ⟨#[]⟩, .slice none 0 0, .slice none 0 0, .slice none 0 0] ∧ Bx g U2 wx rb 31 #[.int .i64 12, .string s, .string t, (Value.slice (some ⟨g0, 0, none⟩) 1 cv), .slice none 0 0, .slice none 0 0] ∧ Rw g U2 wx (rb + 1) 26 4 (Value.slice (some ⟨g0, 0, none⟩) 1 cv) 1 (flat (rC exprC) [((11, 0, z), Value.slice A1 k1.len c1)]) ∧ SlP exprC wx U2 A1 k1)
                case first =>
                  refine wp_region_held_drew (S := (fun y => Blk y rb 31 #[.int .i64 12, .string s, .string t, (Value.slice (some ⟨g0, 0, none⟩) 1 cv), .slice none 0 0, .slice none 0 0])) (by kernel_rfl) ?_ (fun hHeld => ?_)
                  · exact Rb.1.drew
                  have bd := (Below.refl wr.heap.size wr).drew
                  replace Rb := Rb.below bd
                  replace R := R.below bd
                  replace O := O.below bd
                  replace S0 := S0.below C bd
                  replace G := G.below bd
                  replace C := C.below bd
                  clear bd
                  generalize wr.drew = wd at Rb R O S0 G C hHeld ⊢
                  refine wpAnyH_take (i := 0) (oi := ⟨some 90, _, _, _, _, _⟩) (v := ?_) rfl (by kernel_rfl) (by kernel_rfl) (by kernel_rfl) (fun _ _ _ h => h) (Or.inl ⟨by rfl, ?_⟩) (by assumption) ?_
                  case refine_2 => (intro w hSw; skip; go_simp; first | done | with_reducible rfl)
                  simp only [Act.put, List.setIfInBounds_toArray, List.set_cons_zero, List.set_cons_succ]
                  refine wpAnyH_take (i := 1) (oi := ⟨some 91, _, _, _, _, _⟩) (v := ?_) rfl (by kernel_rfl) (by kernel_rfl) (by kernel_rfl) (fun _ _ _ h => h) (Or.inl ⟨by rfl, ?_⟩) (by assumption) ?_
                  case refine_2 => (intro w hSw; have p := hSw.cell; go_simp; first | done | with_reducible rfl)
                  simp only [Act.put, List.setIfInBounds_toArray, List.set_cons_zero, List.set_cons_succ]
                  refine wpAnyH_take (i := 2) (oi := ⟨some 92, _, _, _, _, _⟩) (v := ?_) rfl (by kernel_rfl) (by kernel_rfl) (by kernel_rfl) (fun _ _ _ h => h) (Or.inl ⟨by rfl, ?_⟩) (by assumption) ?_
                  case refine_2 => (intro w hSw; skip; go_simp; first | done | with_reducible rfl)
                  simp only [Act.put, List.setIfInBounds_toArray, List.set_cons_zero, List.set_cons_succ]
                  refine wpAnyH_take (i := 5) (oi := ⟨some 95, _, _, _, _, _⟩) (v := ?_) rfl (by kernel_rfl) (by kernel_rfl) (by kernel_rfl) (fun _ _ _ h => h) (Or.inl ⟨by rfl, ?_⟩) (by assumption) ?_
                  case refine_2 => (intro w hSw; skip; go_simp; first | done | with_reducible rfl)
                  simp only [Act.put, List.setIfInBounds_toArray, List.set_cons_zero, List.set_cons_succ]
                  refine wpAnyH_take (i := 6) (oi := ⟨some 96, _, _, _, _, _⟩) (v := ?_) rfl (by kernel_rfl) (by kernel_rfl) (by kernel_rfl) (fun _ _ _ h => h) (Or.inl ⟨by rfl, ?_⟩) (by assumption) ?_
                  case refine_2 => (intro w hSw; have p := hSw.cell; go_simp; first | done | with_reducible rfl)
                  simp only [Act.put, List.setIfInBounds_toArray, List.set_cons_zero, List.set_cons_succ]
                  refine wpAnyH_take (i := 7) (oi := ⟨some 97, _, _, _, _, _⟩) (v := ?_) rfl (by kernel_rfl) (by kernel_rfl) (by kernel_rfl) (fun _ _ _ h => h) (Or.inl ⟨by rfl, ?_⟩) (by assumption) ?_
                  case refine_2 => (intro w hSw; skip; go_simp; (try rw [if_pos (by omega)]); first | done | with_reducible rfl)
                  simp only [Act.put, List.setIfInBounds_toArray, List.set_cons_zero, List.set_cons_succ]
                  refine wpAnyH_ready (rs := [3, 8]) (by kernel_rfl) (by simp) ?_
                  refine AllReadyH.cons (o := ⟨some 93, _, _, _, _, _⟩) rfl (fun K hK => ?_) (AllReadyH.cons (o := ⟨some 98, _, _, _, _, _⟩) rfl (fun K hK => ?_) AllReadyH.nil)
                  · go_simp
                    go_wp2_with fail
                    refine hK.out _ _ (Rb.1.alloc (.cells #[.string ⟨#[102]⟩, .string ⟨#[103]⟩] 9)) (fun hHeld => ?_)
                    clear hK K
                    replace hHeld : Blk (wd.alloc (.cells #[.string ⟨#[102]⟩, .string ⟨#[103]⟩] 9)) rb 31 #[.int .i64 12, .string s, .string t, (Value.slice (some ⟨g0, 0, none⟩) 1 cv), .slice none 0 0, .slice none 0 0] := hHeld
                    have Bs := Blk.new wd 9 #[.string ⟨#[102]⟩, .string ⟨#[103]⟩]
                    have hgsC := C.lt
                    replace Rb := Rb.alloc (.cells #[.string ⟨#[102]⟩, .string ⟨#[103]⟩] 9)
                    replace R := R.alloc (.cells #[.string ⟨#[102]⟩, .string ⟨#[103]⟩] 9)
                    replace O := O.alloc (.cells #[.string ⟨#[102]⟩, .string ⟨#[103]⟩] 9)
                    replace S0 := S0.alloc C (.cells #[.string ⟨#[102]⟩, .string ⟨#[103]⟩] 9)
                    replace G := G.alloc (.cells #[.string ⟨#[102]⟩, .string ⟨#[103]⟩] 9)
                    replace C := C.alloc (.cells #[.string ⟨#[102]⟩, .string ⟨#[103]⟩] 9)
                    generalize wd.alloc (.cells #[.string ⟨#[102]⟩, .string ⟨#[103]⟩] 9) = wds at Rb R O S0 G Bs C hHeld ⊢
                    try simp only [Act.put, List.setIfInBounds_toArray, List.set_cons_zero, List.set_cons_succ]
                    refine wpAnyH_ready (rs := [4, 8]) (by kernel_rfl) (by simp) ?_
                    refine AllReadyH.cons (o := ⟨some 94, _, _, _, _, _⟩) rfl (fun K hK => ?_) (AllReadyH.cons (o := ⟨some 98, _, _, _, _, _⟩) rfl (fun K hK => ?_) AllReadyH.nil)
                    · go_simp
                      refine (cStr wd.heap.size 2 [⟨#[102]⟩, ⟨#[103]⟩] C rfl (by omega) (by omega) Bs (by omega)).mono ?_; rintro e wdsc ⟨⟨z, rfl, _⟩, C5, G5⟩
                      go_wp2_with fail
                      refine hK.out _ _ ((Rb.gro G5).1) (fun hHeld => ?_)
                      clear hK K
                      clear Bs
                      replace Rb := Rb.gro G5
                      replace R := R.gro G5
                      replace O := O.gro G5
                      replace S0 := S0.gro C G5
                      replace G := G.trans G5
                      replace C := C5
                      clear C5 G5
                      try simp only [Act.put, List.setIfInBounds_toArray, List.set_cons_zero, List.set_cons_succ]
                      refine wpAnyH_ready (rs := [8]) (by kernel_rfl) (by simp) ?_
                      refine AllReadyH.cons (o := ⟨some 98, _, _, _, _, _⟩) rfl (fun K hK => ?_) AllReadyH.nil
                      obtain ⟨q0, q1, q2, q3⟩ := O.one4
                      have q4 := O.1.frozenAt 0
                      go_simp
                      go_wp2_with fail
                      clear q0 q1 q2 q3 q4
                      refine hK.out _ _ (hHeld) (fun hHeld => ?_)
                      clear hK K
                      try simp only [Act.put, List.setIfInBounds_toArray, List.set_cons_zero, List.set_cons_succ]
                      refine wpAnyH_ready (rs := [9]) (by kernel_rfl) (by simp) ?_
                      refine AllReadyH.cons (o := ⟨some 99, _, _, _, _, _⟩) rfl (fun K hK => ?_) AllReadyH.nil
                      go_simp
                      go_wp2_with fail
                      refine hK.out _ _ (Rb.1.alloc (.cells #[.int .i64 ak, .int .i64 an, .string az, .slice A0 k0.len c0] 26)) (fun hHeld => ?_)
                      clear hK K
                      have X0 := Bx.new C 26 #[.int .i64 ak, .int .i64 an, .string az, .slice A0 k0.len c0]
                      have hgx := G.sz
                      have hO0 := O.lt g0 rfl
                      have hrx0 := R.lt
                      have hrx1 := Rb.lt
                      replace Rb := Rb.alloc (.cells #[.int .i64 ak, .int .i64 an, .string az, .slice A0 k0.len c0] 26)
                      replace R := R.alloc (.cells #[.int .i64 ak, .int .i64 an, .string az, .slice A0 k0.len c0] 26)
                      replace O := O.alloc (.cells #[.int .i64 ak, .int .i64 an, .string az, .slice A0 k0.len c0] 26)
                      replace S0 := S0.alloc C (.cells #[.int .i64 ak, .int .i64 an, .string az, .slice A0 k0.len c0] 26)
                      replace G := G.alloc (.cells #[.int .i64 ak, .int .i64 an, .string az, .slice A0 k0.len c0] 26)
                      replace C := C.alloc (.cells #[.int .i64 ak, .int .i64 an, .string az, .slice A0 k0.len c0] 26)
                      have X := X0
                      clear X0
                      generalize wdsc.alloc (.cells #[.int .i64 ak, .int .i64 an, .string az, .slice A0 k0.len c0] 26) = wdscx at Rb R O S0 X G C hHeld ⊢
                      try simp only [Act.put, List.setIfInBounds_toArray, List.set_cons_zero, List.set_cons_succ]
                      refine wpAnyH_take (i := 10) (oi := ⟨some 100, _, _, _, _, _⟩) (v := ?_) rfl (by kernel_rfl) (by kernel_rfl) (by kernel_rfl) (fun _ _ _ h => h) (Or.inl ⟨by rfl, ?_⟩) (by assumption) ?_
                      case refine_2 => (intro w hSw; skip; go_simp; first | done | with_reducible rfl)
                      simp only [Act.put, List.setIfInBounds_toArray, List.set_cons_zero, List.set_cons_succ]
                      refine wpAnyH_take (i := 11) (oi := ⟨some 101, _, _, _, _, _⟩) (v := ?_) rfl (by kernel_rfl) (by kernel_rfl) (by kernel_rfl) (fun _ _ _ h => h) (Or.inl ⟨by rfl, ?_⟩) (by assumption) ?_
                      case refine_2 => (intro w hSw; skip; go_simp; (try rw [if_pos (by omega)]); first | done | with_reducible rfl)
                      simp only [Act.put, List.setIfInBounds_toArray, List.set_cons_zero, List.set_cons_succ]
                      refine wpAnyH_ready (rs := [12]) (by kernel_rfl) (by simp) ?_
                      refine AllReadyH.cons (o := ⟨none, _, _, _, _, _⟩) rfl (fun K hK => ?_) AllReadyH.nil
                      obtain ⟨q0, q1, q2, q3⟩ := O.one4
                      have q4 := fun j => O.1.frozenAt j
                      have hne1 : rb ≠ g0 := by omega
                      go_simp
                      go_wp2_with fail
                      clear q0 q1 q2 q3 q4
                      refine hK.out _ _ ((((hHeld.farb (j := 0) hne1 (.int .i64 11)).farb (j := 1) hne1 (.int .i64 0)).farb (j := 2) hne1 (.string z)).farb (j := 3) hne1 (.slice (some ⟨wdsc.heap.size, 0, none⟩) 1 1)) (fun hHeld => ?_)
                      clear hK K
                      have hne2 : w.heap.size ≠ g0 := by omega
                      have hne3 : wdsc.heap.size ≠ g0 := by omega
                      have hug := O.2.1 g0 rfl
                      have hgg : g < g0 := by have := O.2.2; omega
                      have hwg : w.heap.size ≤ g0 := by omega
                      have Rb9 := (((Rb.far (j := 0) hne1 (.int .i64 11)).far (j := 1) hne1 (.int .i64 0)).far (j := 2) hne1 (.string z)).far (j := 3) hne1 (.slice (some ⟨wdsc.heap.size, 0, none⟩) 1 1)
                      have R9 := (((R.far (j := 0) hne2 (.int .i64 11)).far (j := 1) hne2 (.int .i64 0)).far (j := 2) hne2 (.string z)).far (j := 3) hne2 (.slice (some ⟨wdsc.heap.size, 0, none⟩) 1 1)
                      have X9 := (((X.far (j := 0) hne3 (.int .i64 11)).far (j := 1) hne3 (.int .i64 0)).far (j := 2) hne3 (.string z)).far (j := 3) hne3 (.slice (some ⟨wdsc.heap.size, 0, none⟩) 1 1)
                      have S9 := (((S0.setb (j := 0) hug (.int .i64 11)).setb (j := 1) hug (.int .i64 0)).setb (j := 2) hug (.string z)).setb (j := 3) hug (.slice (some ⟨wdsc.heap.size, 0, none⟩) 1 1)
                      have C9 := (((C.setb (j := 0) hgg (.int .i64 11)).setb (j := 1) hgg (.int .i64 0)).setb (j := 2) hgg (.string z)).setb (j := 3) hgg (.slice (some ⟨wdsc.heap.size, 0, none⟩) 1 1)
                      have G9 := (((G.setb (j := 0) hwg (.int .i64 11)).setb (j := 1) hwg (.int .i64 0)).setb (j := 2) hwg (.string z)).setb (j := 3) hwg (.slice (some ⟨wdsc.heap.size, 0, none⟩) 1 1)
                      have O9 := O.call1 (k' := 11) (n' := 0) (s' := z) (v' := (.slice (some ⟨wdsc.heap.size, 0, none⟩) 1 1))
                      have SX := SlP.one X9.1 S9
                      have hwb : w.heap.size ≤ wdsc.heap.size := hgx
                      have hrx : ¬ rb = wdsc.heap.size := by omega
                      try simp only [Act.put, List.setIfInBounds_toArray, List.set_cons_zero, List.set_cons_succ]
                      refine wpAnyH_done (by kernel_rfl) ?_ _
                      go_wp2_with fail
                      go_meet
                      exact ⟨z, .cons (ak, an, az) k0 .nil, some ⟨wdsc.heap.size, 0, none⟩, 1, _, by show k0.size + 0 + 1 ≤ 43; omega, C9.freeze (V := fun x => x = wdsc.heap.size) (fun x e => by subst e; exact ⟨X9.2.2, X9.lt⟩), G9.freeze (V := fun x => x = wdsc.heap.size) (fun x e => by subst e; exact hwb), R9.freeze (V := fun x => x = wdsc.heap.size) (by omega), Rb9.freeze (V := fun x => x = wdsc.heap.size) hrx, O9.freeze (V := fun x => x = wdsc.heap.size) (fun b hb e => hne3 ((show b = wdsc.heap.size from e).symm.trans (by injection hb with hb; exact hb.symm))), SX⟩
                    · obtain ⟨q0, q1, q2, q3⟩ := O.one4
                      have q4 := O.1.frozenAt 0
                      go_simp
                      go_wp2_with fail
                      clear q0 q1 q2 q3 q4
                      refine hK.out _ _ (hHeld) (fun hHeld => ?_)
                      clear hK K
                      try simp only [Act.put, List.setIfInBounds_toArray, List.set_cons_zero, List.set_cons_succ]
                      refine wpAnyH_ready (rs := [4, 9]) (by kernel_rfl) (by simp) ?_
                      refine AllReadyH.cons (o := ⟨some 94, _, _, _, _, _⟩) rfl (fun K hK => ?_) (AllReadyH.cons (o := ⟨some 99, _, _, _, _, _⟩) rfl (fun K hK => ?_) AllReadyH.nil)
                      · go_simp
                        refine (cStr wd.heap.size 2 [⟨#[102]⟩, ⟨#[103]⟩] C rfl (by omega) (by omega) Bs (by omega)).mono ?_; rintro e wdsc ⟨⟨z, rfl, _⟩, C5, G5⟩
                        go_wp2_with fail
                        refine hK.out _ _ ((Rb.gro G5).1) (fun hHeld => ?_)
                        clear hK K
                        clear Bs
                        replace Rb := Rb.gro G5
                        replace R := R.gro G5
                        replace O := O.gro G5
                        replace S0 := S0.gro C G5
                        replace G := G.trans G5
                        replace C := C5
                        clear C5 G5
                        try simp only [Act.put, List.setIfInBounds_toArray, List.set_cons_zero, List.set_cons_succ]
                        refine wpAnyH_ready (rs := [9]) (by kernel_rfl) (by simp) ?_
                        refine AllReadyH.cons (o := ⟨some 99, _, _, _, _, _⟩) rfl (fun K hK => ?_) AllReadyH.nil
                        go_simp
                        go_wp2_with fail
                        refine hK.out _ _ (Rb.1.alloc (.cells #[.int .i64 ak, .int .i64 an, .string az, .slice A0 k0.len c0] 26)) (fun hHeld => ?_)
                        clear hK K
                        have X0 := Bx.new C 26 #[.int .i64 ak, .int .i64 an, .string az, .slice A0 k0.len c0]
                        have hgx := G.sz
                        have hO0 := O.lt g0 rfl
                        have hrx0 := R.lt
                        have hrx1 := Rb.lt
                        replace Rb := Rb.alloc (.cells #[.int .i64 ak, .int .i64 an, .string az, .slice A0 k0.len c0] 26)
                        replace R := R.alloc (.cells #[.int .i64 ak, .int .i64 an, .string az, .slice A0 k0.len c0] 26)
                        replace O := O.alloc (.cells #[.int .i64 ak, .int .i64 an, .string az, .slice A0 k0.len c0] 26)
                        replace S0 := S0.alloc C (.cells #[.int .i64 ak, .int .i64 an, .string az, .slice A0 k0.len c0] 26)
                        replace G := G.alloc (.cells #[.int .i64 ak, .int .i64 an, .string az, .slice A0 k0.len c0] 26)
                        replace C := C.alloc (.cells #[.int .i64 ak, .int .i64 an, .string az, .slice A0 k0.len c0] 26)
                        have X := X0
                        clear X0
                        generalize wdsc.alloc (.cells #[.int .i64 ak, .int .i64 an, .string az, .slice A0 k0.len c0] 26) = wdscx at Rb R O S0 X G C hHeld ⊢
                        try simp only [Act.put, List.setIfInBounds_toArray, List.set_cons_zero, List.set_cons_succ]
                        refine wpAnyH_take (i := 10) (oi := ⟨some 100, _, _, _, _, _⟩) (v := ?_) rfl (by kernel_rfl) (by kernel_rfl) (by kernel_rfl) (fun _ _ _ h => h) (Or.inl ⟨by rfl, ?_⟩) (by assumption) ?_
                        case refine_2 => (intro w hSw; skip; go_simp; first | done | with_reducible rfl)
                        simp only [Act.put, List.setIfInBounds_toArray, List.set_cons_zero, List.set_cons_succ]
                        refine wpAnyH_take (i := 11) (oi := ⟨some 101, _, _, _, _, _⟩) (v := ?_) rfl (by kernel_rfl) (by kernel_rfl) (by kernel_rfl) (fun _ _ _ h => h) (Or.inl ⟨by rfl, ?_⟩) (by assumption) ?_
                        case refine_2 => (intro w hSw; skip; go_simp; (try rw [if_pos (by omega)]); first | done | with_reducible rfl)
                        simp only [Act.put, List.setIfInBounds_toArray, List.set_cons_zero, List.set_cons_succ]
                        refine wpAnyH_ready (rs := [12]) (by kernel_rfl) (by simp) ?_
                        refine AllReadyH.cons (o := ⟨none, _, _, _, _, _⟩) rfl (fun K hK => ?_) AllReadyH.nil
                        obtain ⟨q0, q1, q2, q3⟩ := O.one4
                        have q4 := fun j => O.1.frozenAt j
                        have hne1 : rb ≠ g0 := by omega
                        go_simp
                        go_wp2_with fail
                        clear q0 q1 q2 q3 q4
                        refine hK.out _ _ ((((hHeld.farb (j := 0) hne1 (.int .i64 11)).farb (j := 1) hne1 (.int .i64 0)).farb (j := 2) hne1 (.string z)).farb (j := 3) hne1 (.slice (some ⟨wdsc.heap.size, 0, none⟩) 1 1)) (fun hHeld => ?_)
                        clear hK K
                        have hne2 : w.heap.size ≠ g0 := by omega
                        have hne3 : wdsc.heap.size ≠ g0 := by omega
                        have hug := O.2.1 g0 rfl
                        have hgg : g < g0 := by have := O.2.2; omega
                        have hwg : w.heap.size ≤ g0 := by omega
                        have Rb9 := (((Rb.far (j := 0) hne1 (.int .i64 11)).far (j := 1) hne1 (.int .i64 0)).far (j := 2) hne1 (.string z)).far (j := 3) hne1 (.slice (some ⟨wdsc.heap.size, 0, none⟩) 1 1)
                        have R9 := (((R.far (j := 0) hne2 (.int .i64 11)).far (j := 1) hne2 (.int .i64 0)).far (j := 2) hne2 (.string z)).far (j := 3) hne2 (.slice (some ⟨wdsc.heap.size, 0, none⟩) 1 1)
                        have X9 := (((X.far (j := 0) hne3 (.int .i64 11)).far (j := 1) hne3 (.int .i64 0)).far (j := 2) hne3 (.string z)).far (j := 3) hne3 (.slice (some ⟨wdsc.heap.size, 0, none⟩) 1 1)
                        have S9 := (((S0.setb (j := 0) hug (.int .i64 11)).setb (j := 1) hug (.int .i64 0)).setb (j := 2) hug (.string z)).setb (j := 3) hug (.slice (some ⟨wdsc.heap.size, 0, none⟩) 1 1)
                        have C9 := (((C.setb (j := 0) hgg (.int .i64 11)).setb (j := 1) hgg (.int .i64 0)).setb (j := 2) hgg (.string z)).setb (j := 3) hgg (.slice (some ⟨wdsc.heap.size, 0, none⟩) 1 1)
                        have G9 := (((G.setb (j := 0) hwg (.int .i64 11)).setb (j := 1) hwg (.int .i64 0)).setb (j := 2) hwg (.string z)).setb (j := 3) hwg (.slice (some ⟨wdsc.heap.size, 0, none⟩) 1 1)
                        have O9 := O.call1 (k' := 11) (n' := 0) (s' := z) (v' := (.slice (some ⟨wdsc.heap.size, 0, none⟩) 1 1))
                        have SX := SlP.one X9.1 S9
                        have hwb : w.heap.size ≤ wdsc.heap.size := hgx
                        have hrx : ¬ rb = wdsc.heap.size := by omega
                        try simp only [Act.put, List.setIfInBounds_toArray, List.set_cons_zero, List.set_cons_succ]
                        refine wpAnyH_done (by kernel_rfl) ?_ _
                        go_wp2_with fail
                        go_meet
                        exact ⟨z, .cons (ak, an, az) k0 .nil, some ⟨wdsc.heap.size, 0, none⟩, 1, _, by show k0.size + 0 + 1 ≤ 43; omega, C9.freeze (V := fun x => x = wdsc.heap.size) (fun x e => by subst e; exact ⟨X9.2.2, X9.lt⟩), G9.freeze (V := fun x => x = wdsc.heap.size) (fun x e => by subst e; exact hwb), R9.freeze (V := fun x => x = wdsc.heap.size) (by omega), Rb9.freeze (V := fun x => x = wdsc.heap.size) hrx, O9.freeze (V := fun x => x = wdsc.heap.size) (fun b hb e => hne3 ((show b = wdsc.heap.size from e).symm.trans (by injection hb with hb; exact hb.symm))), SX⟩
                      · go_simp
                        go_wp2_with fail
                        refine hK.out _ _ (Rb.1.alloc (.cells #[.int .i64 ak, .int .i64 an, .string az, .slice A0 k0.len c0] 26)) (fun hHeld => ?_)
                        clear hK K
                        have X0 := Bx.new C 26 #[.int .i64 ak, .int .i64 an, .string az, .slice A0 k0.len c0]
                        have hgx := G.sz
                        have hO0 := O.lt g0 rfl
                        have hrx0 := R.lt
                        have hrx1 := Rb.lt
                        replace Rb := Rb.alloc (.cells #[.int .i64 ak, .int .i64 an, .string az, .slice A0 k0.len c0] 26)
                        replace R := R.alloc (.cells #[.int .i64 ak, .int .i64 an, .string az, .slice A0 k0.len c0] 26)
                        replace O := O.alloc (.cells #[.int .i64 ak, .int .i64 an, .string az, .slice A0 k0.len c0] 26)
                        replace S0 := S0.alloc C (.cells #[.int .i64 ak, .int .i64 an, .string az, .slice A0 k0.len c0] 26)
                        replace G := G.alloc (.cells #[.int .i64 ak, .int .i64 an, .string az, .slice A0 k0.len c0] 26)
                        replace Bs := Bs.alloc (.cells #[.int .i64 ak, .int .i64 an, .string az, .slice A0 k0.len c0] 26)
                        replace C := C.alloc (.cells #[.int .i64 ak, .int .i64 an, .string az, .slice A0 k0.len c0] 26)
                        have X := X0
                        clear X0
                        generalize wds.alloc (.cells #[.int .i64 ak, .int .i64 an, .string az, .slice A0 k0.len c0] 26) = wdsx at Rb R O S0 X G Bs C hHeld ⊢
                        try simp only [Act.put, List.setIfInBounds_toArray, List.set_cons_zero, List.set_cons_succ]
                        refine wpAnyH_ready (rs := [4]) (by kernel_rfl) (by simp) ?_
                        refine AllReadyH.cons (o := ⟨some 94, _, _, _, _, _⟩) rfl (fun K hK => ?_) AllReadyH.nil
                        go_simp
                        refine (cStr wd.heap.size 2 [⟨#[102]⟩, ⟨#[103]⟩] C rfl (by omega) (by omega) Bs (by omega)).mono ?_; rintro e wdsxc ⟨⟨z, rfl, _⟩, C5, G5⟩
                        go_wp2_with fail
                        refine hK.out _ _ ((Rb.gro G5).1) (fun hHeld => ?_)
                        clear hK K
                        clear Bs
                        replace Rb := Rb.gro G5
                        replace R := R.gro G5
                        replace O := O.gro G5
                        replace S0 := S0.gro C G5
                        replace X := X.gro G5
                        replace G := G.trans G5
                        replace C := C5
                        clear C5 G5
                        try simp only [Act.put, List.setIfInBounds_toArray, List.set_cons_zero, List.set_cons_succ]
                        refine wpAnyH_take (i := 10) (oi := ⟨some 100, _, _, _, _, _⟩) (v := ?_) rfl (by kernel_rfl) (by kernel_rfl) (by kernel_rfl) (fun _ _ _ h => h) (Or.inl ⟨by rfl, ?_⟩) (by assumption) ?_
                        case refine_2 => (intro w hSw; skip; go_simp; first | done | with_reducible rfl)
                        simp only [Act.put, List.setIfInBounds_toArray, List.set_cons_zero, List.set_cons_succ]
                        refine wpAnyH_take (i := 11) (oi := ⟨some 101, _, _, _, _, _⟩) (v := ?_) rfl (by kernel_rfl) (by kernel_rfl) (by kernel_rfl) (fun _ _ _ h => h) (Or.inl ⟨by rfl, ?_⟩) (by assumption) ?_
                        case refine_2 => (intro w hSw; skip; go_simp; (try rw [if_pos (by omega)]); first | done | with_reducible rfl)
                        simp only [Act.put, List.setIfInBounds_toArray, List.set_cons_zero, List.set_cons_succ]
                        refine wpAnyH_ready (rs := [12]) (by kernel_rfl) (by simp) ?_
                        refine AllReadyH.cons (o := ⟨none, _, _, _, _, _⟩) rfl (fun K hK => ?_) AllReadyH.nil
                        obtain ⟨q0, q1, q2, q3⟩ := O.one4
                        have q4 := fun j => O.1.frozenAt j
                        have hne1 : rb ≠ g0 := by omega
                        go_simp
                        go_wp2_with fail
                        clear q0 q1 q2 q3 q4
                        refine hK.out _ _ ((((hHeld.farb (j := 0) hne1 (.int .i64 11)).farb (j := 1) hne1 (.int .i64 0)).farb (j := 2) hne1 (.string z)).farb (j := 3) hne1 (.slice (some ⟨wds.heap.size, 0, none⟩) 1 1)) (fun hHeld => ?_)
                        clear hK K
                        have hne2 : w.heap.size ≠ g0 := by omega
                        have hne3 : wds.heap.size ≠ g0 := by omega
                        have hug := O.2.1 g0 rfl
                        have hgg : g < g0 := by have := O.2.2; omega
                        have hwg : w.heap.size ≤ g0 := by omega
                        have Rb9 := (((Rb.far (j := 0) hne1 (.int .i64 11)).far (j := 1) hne1 (.int .i64 0)).far (j := 2) hne1 (.string z)).far (j := 3) hne1 (.slice (some ⟨wds.heap.size, 0, none⟩) 1 1)
                        have R9 := (((R.far (j := 0) hne2 (.int .i64 11)).far (j := 1) hne2 (.int .i64 0)).far (j := 2) hne2 (.string z)).far (j := 3) hne2 (.slice (some ⟨wds.heap.size, 0, none⟩) 1 1)
                        have X9 := (((X.far (j := 0) hne3 (.int .i64 11)).far (j := 1) hne3 (.int .i64 0)).far (j := 2) hne3 (.string z)).far (j := 3) hne3 (.slice (some ⟨wds.heap.size, 0, none⟩) 1 1)
                        have S9 := (((S0.setb (j := 0) hug (.int .i64 11)).setb (j := 1) hug (.int .i64 0)).setb (j := 2) hug (.string z)).setb (j := 3) hug (.slice (some ⟨wds.heap.size, 0, none⟩) 1 1)
                        have C9 := (((C.setb (j := 0) hgg (.int .i64 11)).setb (j := 1) hgg (.int .i64 0)).setb (j := 2) hgg (.string z)).setb (j := 3) hgg (.slice (some ⟨wds.heap.size, 0, none⟩) 1 1)
                        have G9 := (((G.setb (j := 0) hwg (.int .i64 11)).setb (j := 1) hwg (.int .i64 0)).setb (j := 2) hwg (.string z)).setb (j := 3) hwg (.slice (some ⟨wds.heap.size, 0, none⟩) 1 1)
                        have O9 := O.call1 (k' := 11) (n' := 0) (s' := z) (v' := (.slice (some ⟨wds.heap.size, 0, none⟩) 1 1))
                        have SX := SlP.one X9.1 S9
                        have hwb : w.heap.size ≤ wds.heap.size := hgx
                        have hrx : ¬ rb = wds.heap.size := by omega
                        try simp only [Act.put, List.setIfInBounds_toArray, List.set_cons_zero, List.set_cons_succ]
                        refine wpAnyH_done (by kernel_rfl) ?_ _
                        go_wp2_with fail
                        go_meet
                        exact ⟨z, .cons (ak, an, az) k0 .nil, some ⟨wds.heap.size, 0, none⟩, 1, _, by show k0.size + 0 + 1 ≤ 43; omega, C9.freeze (V := fun x => x = wds.heap.size) (fun x e => by subst e; exact ⟨X9.2.2, X9.lt⟩), G9.freeze (V := fun x => x = wds.heap.size) (fun x e => by subst e; exact hwb), R9.freeze (V := fun x => x = wds.heap.size) (by omega), Rb9.freeze (V := fun x => x = wds.heap.size) hrx, O9.freeze (V := fun x => x = wds.heap.size) (fun b hb e => hne3 ((show b = wds.heap.size from e).symm.trans (by injection hb with hb; exact hb.symm))), SX⟩
                  · obtain ⟨q0, q1, q2, q3⟩ := O.one4
                    have q4 := O.1.frozenAt 0
                    go_simp
                    go_wp2_with fail
                    clear q0 q1 q2 q3 q4
                    refine hK.out _ _ (hHeld) (fun hHeld => ?_)
                    clear hK K
                    try simp only [Act.put, List.setIfInBounds_toArray, List.set_cons_zero, List.set_cons_succ]
                    refine wpAnyH_ready (rs := [3, 9]) (by kernel_rfl) (by simp) ?_
                    refine AllReadyH.cons (o := ⟨some 93, _, _, _, _, _⟩) rfl (fun K hK => ?_) (AllReadyH.cons (o := ⟨some 99, _, _, _, _, _⟩) rfl (fun K hK => ?_) AllReadyH.nil)
                    · go_simp
                      go_wp2_with fail
                      refine hK.out _ _ (Rb.1.alloc (.cells #[.string ⟨#[102]⟩, .string ⟨#[103]⟩] 9)) (fun hHeld => ?_)
                      clear hK K
                      replace hHeld : Blk (wd.alloc (.cells #[.string ⟨#[102]⟩, .string ⟨#[103]⟩] 9)) rb 31 #[.int .i64 12, .string s, .string t, (Value.slice (some ⟨g0, 0, none⟩) 1 cv), .slice none 0 0, .slice none 0 0] := hHeld
                      have Bs := Blk.new wd 9 #[.string ⟨#[102]⟩, .string ⟨#[103]⟩]
                      have hgsC := C.lt
                      replace Rb := Rb.alloc (.cells #[.string ⟨#[102]⟩, .string ⟨#[103]⟩] 9)
                      replace R := R.alloc (.cells #[.string ⟨#[102]⟩, .string ⟨#[103]⟩] 9)
                      replace O := O.alloc (.cells #[.string ⟨#[102]⟩, .string ⟨#[103]⟩] 9)
                      replace S0 := S0.alloc C (.cells #[.string ⟨#[102]⟩, .string ⟨#[103]⟩] 9)
                      replace G := G.alloc (.cells #[.string ⟨#[102]⟩, .string ⟨#[103]⟩] 9)
                      replace C := C.alloc (.cells #[.string ⟨#[102]⟩, .string ⟨#[103]⟩] 9)
                      generalize wd.alloc (.cells #[.string ⟨#[102]⟩, .string ⟨#[103]⟩] 9) = wds at Rb R O S0 G Bs C hHeld ⊢
                      try simp only [Act.put, List.setIfInBounds_toArray, List.set_cons_zero, List.set_cons_succ]
                      refine wpAnyH_ready (rs := [4, 9]) (by kernel_rfl) (by simp) ?_
                      refine AllReadyH.cons (o := ⟨some 94, _, _, _, _, _⟩) rfl (fun K hK => ?_) (AllReadyH.cons (o := ⟨some 99, _, _, _, _, _⟩) rfl (fun K hK => ?_) AllReadyH.nil)
                      · go_simp
                        refine (cStr wd.heap.size 2 [⟨#[102]⟩, ⟨#[103]⟩] C rfl (by omega) (by omega) Bs (by omega)).mono ?_; rintro e wdsc ⟨⟨z, rfl, _⟩, C5, G5⟩
                        go_wp2_with fail
                        refine hK.out _ _ ((Rb.gro G5).1) (fun hHeld => ?_)
                        clear hK K
                        clear Bs
                        replace Rb := Rb.gro G5
                        replace R := R.gro G5
                        replace O := O.gro G5
                        replace S0 := S0.gro C G5
                        replace G := G.trans G5
                        replace C := C5
                        clear C5 G5
                        try simp only [Act.put, List.setIfInBounds_toArray, List.set_cons_zero, List.set_cons_succ]
                        refine wpAnyH_ready (rs := [9]) (by kernel_rfl) (by simp) ?_
                        refine AllReadyH.cons (o := ⟨some 99, _, _, _, _, _⟩) rfl (fun K hK => ?_) AllReadyH.nil
                        go_simp
                        go_wp2_with fail
                        refine hK.out _ _ (Rb.1.alloc (.cells #[.int .i64 ak, .int .i64 an, .string az, .slice A0 k0.len c0] 26)) (fun hHeld => ?_)
                        clear hK K
                        have X0 := Bx.new C 26 #[.int .i64 ak, .int .i64 an, .string az, .slice A0 k0.len c0]
                        have hgx := G.sz
                        have hO0 := O.lt g0 rfl
                        have hrx0 := R.lt
                        have hrx1 := Rb.lt
                        replace Rb := Rb.alloc (.cells #[.int .i64 ak, .int .i64 an, .string az, .slice A0 k0.len c0] 26)
                        replace R := R.alloc (.cells #[.int .i64 ak, .int .i64 an, .string az, .slice A0 k0.len c0] 26)
                        replace O := O.alloc (.cells #[.int .i64 ak, .int .i64 an, .string az, .slice A0 k0.len c0] 26)
                        replace S0 := S0.alloc C (.cells #[.int .i64 ak, .int .i64 an, .string az, .slice A0 k0.len c0] 26)
                        replace G := G.alloc (.cells #[.int .i64 ak, .int .i64 an, .string az, .slice A0 k0.len c0] 26)
                        replace C := C.alloc (.cells #[.int .i64 ak, .int .i64 an, .string az, .slice A0 k0.len c0] 26)
                        have X := X0
                        clear X0
                        generalize wdsc.alloc (.cells #[.int .i64 ak, .int .i64 an, .string az, .slice A0 k0.len c0] 26) = wdscx at Rb R O S0 X G C hHeld ⊢
                        try simp only [Act.put, List.setIfInBounds_toArray, List.set_cons_zero, List.set_cons_succ]
                        refine wpAnyH_take (i := 10) (oi := ⟨some 100, _, _, _, _, _⟩) (v := ?_) rfl (by kernel_rfl) (by kernel_rfl) (by kernel_rfl) (fun _ _ _ h => h) (Or.inl ⟨by rfl, ?_⟩) (by assumption) ?_
                        case refine_2 => (intro w hSw; skip; go_simp; first | done | with_reducible rfl)
                        simp only [Act.put, List.setIfInBounds_toArray, List.set_cons_zero, List.set_cons_succ]
                        refine wpAnyH_take (i := 11) (oi := ⟨some 101, _, _, _, _, _⟩) (v := ?_) rfl (by kernel_rfl) (by kernel_rfl) (by kernel_rfl) (fun _ _ _ h => h) (Or.inl ⟨by rfl, ?_⟩) (by assumption) ?_
                        case refine_2 => (intro w hSw; skip; go_simp; (try rw [if_pos (by omega)]); first | done | with_reducible rfl)
                        simp only [Act.put, List.setIfInBounds_toArray, List.set_cons_zero, List.set_cons_succ]
                        refine wpAnyH_ready (rs := [12]) (by kernel_rfl) (by simp) ?_
                        refine AllReadyH.cons (o := ⟨none, _, _, _, _, _⟩) rfl (fun K hK => ?_) AllReadyH.nil
                        obtain ⟨q0, q1, q2, q3⟩ := O.one4
                        have q4 := fun j => O.1.frozenAt j
                        have hne1 : rb ≠ g0 := by omega
                        go_simp
                        go_wp2_with fail
                        clear q0 q1 q2 q3 q4
                        refine hK.out _ _ ((((hHeld.farb (j := 0) hne1 (.int .i64 11)).farb (j := 1) hne1 (.int .i64 0)).farb (j := 2) hne1 (.string z)).farb (j := 3) hne1 (.slice (some ⟨wdsc.heap.size, 0, none⟩) 1 1)) (fun hHeld => ?_)
                        clear hK K
                        have hne2 : w.heap.size ≠ g0 := by omega
                        have hne3 : wdsc.heap.size ≠ g0 := by omega
                        have hug := O.2.1 g0 rfl
                        have hgg : g < g0 := by have := O.2.2; omega
                        have hwg : w.heap.size ≤ g0 := by omega
                        have Rb9 := (((Rb.far (j := 0) hne1 (.int .i64 11)).far (j := 1) hne1 (.int .i64 0)).far (j := 2) hne1 (.string z)).far (j := 3) hne1 (.slice (some ⟨wdsc.heap.size, 0, none⟩) 1 1)
                        have R9 := (((R.far (j := 0) hne2 (.int .i64 11)).far (j := 1) hne2 (.int .i64 0)).far (j := 2) hne2 (.string z)).far (j := 3) hne2 (.slice (some ⟨wdsc.heap.size, 0, none⟩) 1 1)
                        have X9 := (((X.far (j := 0) hne3 (.int .i64 11)).far (j := 1) hne3 (.int .i64 0)).far (j := 2) hne3 (.string z)).far (j := 3) hne3 (.slice (some ⟨wdsc.heap.size, 0, none⟩) 1 1)
                        have S9 := (((S0.setb (j := 0) hug (.int .i64 11)).setb (j := 1) hug (.int .i64 0)).setb (j := 2) hug (.string z)).setb (j := 3) hug (.slice (some ⟨wdsc.heap.size, 0, none⟩) 1 1)
                        have C9 := (((C.setb (j := 0) hgg (.int .i64 11)).setb (j := 1) hgg (.int .i64 0)).setb (j := 2) hgg (.string z)).setb (j := 3) hgg (.slice (some ⟨wdsc.heap.size, 0, none⟩) 1 1)
                        have G9 := (((G.setb (j := 0) hwg (.int .i64 11)).setb (j := 1) hwg (.int .i64 0)).setb (j := 2) hwg (.string z)).setb (j := 3) hwg (.slice (some ⟨wdsc.heap.size, 0, none⟩) 1 1)
                        have O9 := O.call1 (k' := 11) (n' := 0) (s' := z) (v' := (.slice (some ⟨wdsc.heap.size, 0, none⟩) 1 1))
                        have SX := SlP.one X9.1 S9
                        have hwb : w.heap.size ≤ wdsc.heap.size := hgx
                        have hrx : ¬ rb = wdsc.heap.size := by omega
                        try simp only [Act.put, List.setIfInBounds_toArray, List.set_cons_zero, List.set_cons_succ]
                        refine wpAnyH_done (by kernel_rfl) ?_ _
                        go_wp2_with fail
                        go_meet
                        exact ⟨z, .cons (ak, an, az) k0 .nil, some ⟨wdsc.heap.size, 0, none⟩, 1, _, by show k0.size + 0 + 1 ≤ 43; omega, C9.freeze (V := fun x => x = wdsc.heap.size) (fun x e => by subst e; exact ⟨X9.2.2, X9.lt⟩), G9.freeze (V := fun x => x = wdsc.heap.size) (fun x e => by subst e; exact hwb), R9.freeze (V := fun x => x = wdsc.heap.size) (by omega), Rb9.freeze (V := fun x => x = wdsc.heap.size) hrx, O9.freeze (V := fun x => x = wdsc.heap.size) (fun b hb e => hne3 ((show b = wdsc.heap.size from e).symm.trans (by injection hb with hb; exact hb.symm))), SX⟩
                      · go_simp
                        go_wp2_with fail
                        refine hK.out _ _ (Rb.1.alloc (.cells #[.int .i64 ak, .int .i64 an, .string az, .slice A0 k0.len c0] 26)) (fun hHeld => ?_)
                        clear hK K
                        have X0 := Bx.new C 26 #[.int .i64 ak, .int .i64 an, .string az, .slice A0 k0.len c0]
                        have hgx := G.sz
                        have hO0 := O.lt g0 rfl
                        have hrx0 := R.lt
                        have hrx1 := Rb.lt
                        replace Rb := Rb.alloc (.cells #[.int .i64 ak, .int .i64 an, .string az, .slice A0 k0.len c0] 26)
                        replace R := R.alloc (.cells #[.int .i64 ak, .int .i64 an, .string az, .slice A0 k0.len c0] 26)
                        replace O := O.alloc (.cells #[.int .i64 ak, .int .i64 an, .string az, .slice A0 k0.len c0] 26)
                        replace S0 := S0.alloc C (.cells #[.int .i64 ak, .int .i64 an, .string az, .slice A0 k0.len c0] 26)
                        replace G := G.alloc (.cells #[.int .i64 ak, .int .i64 an, .string az, .slice A0 k0.len c0] 26)
                        replace Bs := Bs.alloc (.cells #[.int .i64 ak, .int .i64 an, .string az, .slice A0 k0.len c0] 26)
                        replace C := C.alloc (.cells #[.int .i64 ak, .int .i64 an, .string az, .slice A0 k0.len c0] 26)
                        have X := X0
                        clear X0
                        generalize wds.alloc (.cells #[.int .i64 ak, .int .i64 an, .string az, .slice A0 k0.len c0] 26) = wdsx at Rb R O S0 X G Bs C hHeld ⊢
                        try simp only [Act.put, List.setIfInBounds_toArray, List.set_cons_zero, List.set_cons_succ]
                        refine wpAnyH_ready (rs := [4]) (by kernel_rfl) (by simp) ?_
                        refine AllReadyH.cons (o := ⟨some 94, _, _, _, _, _⟩) rfl (fun K hK => ?_) AllReadyH.nil
                        go_simp
                        refine (cStr wd.heap.size 2 [⟨#[102]⟩, ⟨#[103]⟩] C rfl (by omega) (by omega) Bs (by omega)).mono ?_; rintro e wdsxc ⟨⟨z, rfl, _⟩, C5, G5⟩
                        go_wp2_with fail
                        refine hK.out _ _ ((Rb.gro G5).1) (fun hHeld => ?_)
                        clear hK K
                        clear Bs
                        replace Rb := Rb.gro G5
                        replace R := R.gro G5
                        replace O := O.gro G5
                        replace S0 := S0.gro C G5
                        replace X := X.gro G5
                        replace G := G.trans G5
                        replace C := C5
                        clear C5 G5
                        try simp only [Act.put, List.setIfInBounds_toArray, List.set_cons_zero, List.set_cons_succ]
                        refine wpAnyH_take (i := 10) (oi := ⟨some 100, _, _, _, _, _⟩) (v := ?_) rfl (by kernel_rfl) (by kernel_rfl) (by kernel_rfl) (fun _ _ _ h => h) (Or.inl ⟨by rfl, ?_⟩) (by assumption) ?_
                        case refine_2 => (intro w hSw; skip; go_simp; first | done | with_reducible rfl)
                        simp only [Act.put, List.setIfInBounds_toArray, List.set_cons_zero, List.set_cons_succ]
                        refine wpAnyH_take (i := 11) (oi := ⟨some 101, _, _, _, _, _⟩) (v := ?_) rfl (by kernel_rfl) (by kernel_rfl) (by kernel_rfl) (fun _ _ _ h => h) (Or.inl ⟨by rfl, ?_⟩) (by assumption) ?_
                        case refine_2 => (intro w hSw; skip; go_simp; (try rw [if_pos (by omega)]); first | done | with_reducible rfl)
                        simp only [Act.put, List.setIfInBounds_toArray, List.set_cons_zero, List.set_cons_succ]
                        refine wpAnyH_ready (rs := [12]) (by kernel_rfl) (by simp) ?_
                        refine AllReadyH.cons (o := ⟨none, _, _, _, _, _⟩) rfl (fun K hK => ?_) AllReadyH.nil
                        obtain ⟨q0, q1, q2, q3⟩ := O.one4
                        have q4 := fun j => O.1.frozenAt j
                        have hne1 : rb ≠ g0 := by omega
                        go_simp
                        go_wp2_with fail
                        clear q0 q1 q2 q3 q4
                        refine hK.out _ _ ((((hHeld.farb (j := 0) hne1 (.int .i64 11)).farb (j := 1) hne1 (.int .i64 0)).farb (j := 2) hne1 (.string z)).farb (j := 3) hne1 (.slice (some ⟨wds.heap.size, 0, none⟩) 1 1)) (fun hHeld => ?_)
                        clear hK K
                        have hne2 : w.heap.size ≠ g0 := by omega
                        have hne3 : wds.heap.size ≠ g0 := by omega
                        have hug := O.2.1 g0 rfl
                        have hgg : g < g0 := by have := O.2.2; omega
                        have hwg : w.heap.size ≤ g0 := by omega
                        have Rb9 := (((Rb.far (j := 0) hne1 (.int .i64 11)).far (j := 1) hne1 (.int .i64 0)).far (j := 2) hne1 (.string z)).far (j := 3) hne1 (.slice (some ⟨wds.heap.size, 0, none⟩) 1 1)
                        have R9 := (((R.far (j := 0) hne2 (.int .i64 11)).far (j := 1) hne2 (.int .i64 0)).far (j := 2) hne2 (.string z)).far (j := 3) hne2 (.slice (some ⟨wds.heap.size, 0, none⟩) 1 1)
                        have X9 := (((X.far (j := 0) hne3 (.int .i64 11)).far (j := 1) hne3 (.int .i64 0)).far (j := 2) hne3 (.string z)).far (j := 3) hne3 (.slice (some ⟨wds.heap.size, 0, none⟩) 1 1)
                        have S9 := (((S0.setb (j := 0) hug (.int .i64 11)).setb (j := 1) hug (.int .i64 0)).setb (j := 2) hug (.string z)).setb (j := 3) hug (.slice (some ⟨wds.heap.size, 0, none⟩) 1 1)
                        have C9 := (((C.setb (j := 0) hgg (.int .i64 11)).setb (j := 1) hgg (.int .i64 0)).setb (j := 2) hgg (.string z)).setb (j := 3) hgg (.slice (some ⟨wds.heap.size, 0, none⟩) 1 1)
                        have G9 := (((G.setb (j := 0) hwg (.int .i64 11)).setb (j := 1) hwg (.int .i64 0)).setb (j := 2) hwg (.string z)).setb (j := 3) hwg (.slice (some ⟨wds.heap.size, 0, none⟩) 1 1)
                        have O9 := O.call1 (k' := 11) (n' := 0) (s' := z) (v' := (.slice (some ⟨wds.heap.size, 0, none⟩) 1 1))
                        have SX := SlP.one X9.1 S9
                        have hwb : w.heap.size ≤ wds.heap.size := hgx
                        have hrx : ¬ rb = wds.heap.size := by omega
                        try simp only [Act.put, List.setIfInBounds_toArray, List.set_cons_zero, List.set_cons_succ]
                        refine wpAnyH_done (by kernel_rfl) ?_ _
                        go_wp2_with fail
                        go_meet
                        exact ⟨z, .cons (ak, an, az) k0 .nil, some ⟨wds.heap.size, 0, none⟩, 1, _, by show k0.size + 0 + 1 ≤ 43; omega, C9.freeze (V := fun x => x = wds.heap.size) (fun x e => by subst e; exact ⟨X9.2.2, X9.lt⟩), G9.freeze (V := fun x => x = wds.heap.size) (fun x e => by subst e; exact hwb), R9.freeze (V := fun x => x = wds.heap.size) (by omega), Rb9.freeze (V := fun x => x = wds.heap.size) hrx, O9.freeze (V := fun x => x = wds.heap.size) (fun b hb e => hne3 ((show b = wds.heap.size from e).symm.trans (by injection hb with hb; exact hb.symm))), SX⟩
                    · go_simp
                      go_wp2_with fail
                      refine hK.out _ _ (Rb.1.alloc (.cells #[.int .i64 ak, .int .i64 an, .string az, .slice A0 k0.len c0] 26)) (fun hHeld => ?_)
                      clear hK K
                      have X0 := Bx.new C 26 #[.int .i64 ak, .int .i64 an, .string az, .slice A0 k0.len c0]
                      have hgx := G.sz
                      have hO0 := O.lt g0 rfl
                      have hrx0 := R.lt
                      have hrx1 := Rb.lt
                      replace Rb := Rb.alloc (.cells #[.int .i64 ak, .int .i64 an, .string az, .slice A0 k0.len c0] 26)
                      replace R := R.alloc (.cells #[.int .i64 ak, .int .i64 an, .string az, .slice A0 k0.len c0] 26)
                      replace O := O.alloc (.cells #[.int .i64 ak, .int .i64 an, .string az, .slice A0 k0.len c0] 26)
                      replace S0 := S0.alloc C (.cells #[.int .i64 ak, .int .i64 an, .string az, .slice A0 k0.len c0] 26)
                      replace G := G.alloc (.cells #[.int .i64 ak, .int .i64 an, .string az, .slice A0 k0.len c0] 26)
                      replace C := C.alloc (.cells #[.int .i64 ak, .int .i64 an, .string az, .slice A0 k0.len c0] 26)
                      have X := X0
                      clear X0
                      generalize wd.alloc (.cells #[.int .i64 ak, .int .i64 an, .string az, .slice A0 k0.len c0] 26) = wdx at Rb R O S0 X G C hHeld ⊢
                      try simp only [Act.put, List.setIfInBounds_toArray, List.set_cons_zero, List.set_cons_succ]
                      refine wpAnyH_ready (rs := [3]) (by kernel_rfl) (by simp) ?_
                      refine AllReadyH.cons (o := ⟨some 93, _, _, _, _, _⟩) rfl (fun K hK => ?_) AllReadyH.nil
                      go_simp
                      go_wp2_with fail
                      refine hK.out _ _ (Rb.1.alloc (.cells #[.string ⟨#[102]⟩, .string ⟨#[103]⟩] 9)) (fun hHeld => ?_)
                      clear hK K
                      replace hHeld : Blk (wdx.alloc (.cells #[.string ⟨#[102]⟩, .string ⟨#[103]⟩] 9)) rb 31 #[.int .i64 12, .string s, .string t, (Value.slice (some ⟨g0, 0, none⟩) 1 cv), .slice none 0 0, .slice none 0 0] := hHeld
                      have Bs := Blk.new wdx 9 #[.string ⟨#[102]⟩, .string ⟨#[103]⟩]
                      have hgsC := C.lt
                      replace Rb := Rb.alloc (.cells #[.string ⟨#[102]⟩, .string ⟨#[103]⟩] 9)
                      replace R := R.alloc (.cells #[.string ⟨#[102]⟩, .string ⟨#[103]⟩] 9)
                      replace O := O.alloc (.cells #[.string ⟨#[102]⟩, .string ⟨#[103]⟩] 9)
                      replace S0 := S0.alloc C (.cells #[.string ⟨#[102]⟩, .string ⟨#[103]⟩] 9)
                      replace X := X.alloc (.cells #[.string ⟨#[102]⟩, .string ⟨#[103]⟩] 9)
                      replace G := G.alloc (.cells #[.string ⟨#[102]⟩, .string ⟨#[103]⟩] 9)
                      replace C := C.alloc (.cells #[.string ⟨#[102]⟩, .string ⟨#[103]⟩] 9)
                      generalize wdx.alloc (.cells #[.string ⟨#[102]⟩, .string ⟨#[103]⟩] 9) = wdxs at Rb R O S0 X G Bs C hHeld ⊢
                      try simp only [Act.put, List.setIfInBounds_toArray, List.set_cons_zero, List.set_cons_succ]
                      refine wpAnyH_ready (rs := [4]) (by kernel_rfl) (by simp) ?_
                      refine AllReadyH.cons (o := ⟨some 94, _, _, _, _, _⟩) rfl (fun K hK => ?_) AllReadyH.nil
                      go_simp
                      refine (cStr wdx.heap.size 2 [⟨#[102]⟩, ⟨#[103]⟩] C rfl (by omega) (by omega) Bs (by omega)).mono ?_; rintro e wdxsc ⟨⟨z, rfl, _⟩, C5, G5⟩
                      go_wp2_with fail
                      refine hK.out _ _ ((Rb.gro G5).1) (fun hHeld => ?_)
                      clear hK K
                      clear Bs
                      replace Rb := Rb.gro G5
                      replace R := R.gro G5
                      replace O := O.gro G5
                      replace S0 := S0.gro C G5
                      replace X := X.gro G5
                      replace G := G.trans G5
                      replace C := C5
                      clear C5 G5
                      try simp only [Act.put, List.setIfInBounds_toArray, List.set_cons_zero, List.set_cons_succ]
                      refine wpAnyH_take (i := 10) (oi := ⟨some 100, _, _, _, _, _⟩) (v := ?_) rfl (by kernel_rfl) (by kernel_rfl) (by kernel_rfl) (fun _ _ _ h => h) (Or.inl ⟨by rfl, ?_⟩) (by assumption) ?_
                      case refine_2 => (intro w hSw; skip; go_simp; first | done | with_reducible rfl)
                      simp only [Act.put, List.setIfInBounds_toArray, List.set_cons_zero, List.set_cons_succ]
                      refine wpAnyH_take (i := 11) (oi := ⟨some 101, _, _, _, _, _⟩) (v := ?_) rfl (by kernel_rfl) (by kernel_rfl) (by kernel_rfl) (fun _ _ _ h => h) (Or.inl ⟨by rfl, ?_⟩) (by assumption) ?_
                      case refine_2 => (intro w hSw; skip; go_simp; (try rw [if_pos (by omega)]); first | done | with_reducible rfl)
                      simp only [Act.put, List.setIfInBounds_toArray, List.set_cons_zero, List.set_cons_succ]
                      refine wpAnyH_ready (rs := [12]) (by kernel_rfl) (by simp) ?_
                      refine AllReadyH.cons (o := ⟨none, _, _, _, _, _⟩) rfl (fun K hK => ?_) AllReadyH.nil
                      obtain ⟨q0, q1, q2, q3⟩ := O.one4
                      have q4 := fun j => O.1.frozenAt j
                      have hne1 : rb ≠ g0 := by omega
                      go_simp
                      go_wp2_with fail
                      clear q0 q1 q2 q3 q4
                      refine hK.out _ _ ((((hHeld.farb (j := 0) hne1 (.int .i64 11)).farb (j := 1) hne1 (.int .i64 0)).farb (j := 2) hne1 (.string z)).farb (j := 3) hne1 (.slice (some ⟨wd.heap.size, 0, none⟩) 1 1)) (fun hHeld => ?_)
                      clear hK K
                      have hne2 : w.heap.size ≠ g0 := by omega
                      have hne3 : wd.heap.size ≠ g0 := by omega
                      have hug := O.2.1 g0 rfl
                      have hgg : g < g0 := by have := O.2.2; omega
                      have hwg : w.heap.size ≤ g0 := by omega
                      have Rb9 := (((Rb.far (j := 0) hne1 (.int .i64 11)).far (j := 1) hne1 (.int .i64 0)).far (j := 2) hne1 (.string z)).far (j := 3) hne1 (.slice (some ⟨wd.heap.size, 0, none⟩) 1 1)
                      have R9 := (((R.far (j := 0) hne2 (.int .i64 11)).far (j := 1) hne2 (.int .i64 0)).far (j := 2) hne2 (.string z)).far (j := 3) hne2 (.slice (some ⟨wd.heap.size, 0, none⟩) 1 1)
                      have X9 := (((X.far (j := 0) hne3 (.int .i64 11)).far (j := 1) hne3 (.int .i64 0)).far (j := 2) hne3 (.string z)).far (j := 3) hne3 (.slice (some ⟨wd.heap.size, 0, none⟩) 1 1)
                      have S9 := (((S0.setb (j := 0) hug (.int .i64 11)).setb (j := 1) hug (.int .i64 0)).setb (j := 2) hug (.string z)).setb (j := 3) hug (.slice (some ⟨wd.heap.size, 0, none⟩) 1 1)
                      have C9 := (((C.setb (j := 0) hgg (.int .i64 11)).setb (j := 1) hgg (.int .i64 0)).setb (j := 2) hgg (.string z)).setb (j := 3) hgg (.slice (some ⟨wd.heap.size, 0, none⟩) 1 1)
                      have G9 := (((G.setb (j := 0) hwg (.int .i64 11)).setb (j := 1) hwg (.int .i64 0)).setb (j := 2) hwg (.string z)).setb (j := 3) hwg (.slice (some ⟨wd.heap.size, 0, none⟩) 1 1)
                      have O9 := O.call1 (k' := 11) (n' := 0) (s' := z) (v' := (.slice (some ⟨wd.heap.size, 0, none⟩) 1 1))
                      have SX := SlP.one X9.1 S9
                      have hwb : w.heap.size ≤ wd.heap.size := hgx
                      have hrx : ¬ rb = wd.heap.size := by omega
                      try simp only [Act.put, List.setIfInBounds_toArray, List.set_cons_zero, List.set_cons_succ]
                      refine wpAnyH_done (by kernel_rfl) ?_ _
                      go_wp2_with fail
                      go_meet
                      exact ⟨z, .cons (ak, an, az) k0 .nil, some ⟨wd.heap.size, 0, none⟩, 1, _, by show k0.size + 0 + 1 ≤ 43; omega, C9.freeze (V := fun x => x = wd.heap.size) (fun x e => by subst e; exact ⟨X9.2.2, X9.lt⟩), G9.freeze (V := fun x => x = wd.heap.size) (fun x e => by subst e; exact hwb), R9.freeze (V := fun x => x = wd.heap.size) (by omega), Rb9.freeze (V := fun x => x = wd.heap.size) hrx, O9.freeze (V := fun x => x = wd.heap.size) (fun b hb e => hne3 ((show b = wd.heap.size from e).symm.trans (by injection hb with hb; exact hb.symm))), SX⟩
                case rest =>
                  clear Rb R O S0 C G
                  obtain ⟨z, k1, A1, c1, U2, hk1, C, G, R, Rb, O, SX⟩ := hcut
                  have F := Fit.one (a := ((11 : Int), (0 : Int), z)) (cc := c1) SX
                  have HS := Lib.hid (show (mkFr [(((11 : Int), (0 : Int), z), k1)]).size ≤ 44 by show k1.size + 0 + 1 ≤ 44; omega)
                  have cI := fun w => cIn 12 5 7 w
                  rw [show (decide ((5 : Int) ≤ 12) && decide ((12 : Int) ≤ 7)) = false from (by decide)] at cI
                  have CI := Lib.hid cI
                  clear cI
                  go_wp2_with fail
                  refine (CI.out _).mono ?_; rintro e wz ⟨rfl, rfl⟩
                  have pc0 := Rb.cell
                  have pf0 := Rb.frozen
                  have pc1 := R.cell
                  have pf1 := R.frozen
                  go_wp2_with fail
                  have hx : (Value.slice (some ⟨g0, 0, none⟩) 1 cv).ownBlock ≠ some w.heap.size := fun e => by have := (O.lt _ e).1; omega
                  have ha : (Value.slice none 0 0).ownBlock ≠ some w.heap.size := fun e => (by simp [Value.ownBlock] at e)
                  have E9 := (show OS (nS D) B g U w _ wz wz.heap.size (.slice (some ⟨g0, 0, none⟩) 1 cv) [(((11 : Int), (0 : Int), z), k1)] [(((11 : Int), (0 : Int), z), Value.slice A1 k1.len c1)] (.slice none 0 0) [] [] none .nil from ⟨by have h1 := HS.out; have h2 := nS_pos D; show (mkFr [(((11 : Int), (0 : Int), z), k1)]).size + 0 + 0 ≤ _; omega, (show RX g _ wz (rb + 1) (.slice (some ⟨g0, 0, none⟩) 1 cv) [(((11 : Int), (0 : Int), z), k1)] [(((11 : Int), (0 : Int), z), Value.slice A1 k1.len c1)] from ⟨O, F⟩).base_ (by omega) hC.lt, fun k e => (O.lt k e).2, G.sz, RA.nil C.lt, SlSP.nil_ _ _, C, G⟩)
                  refine bodyPost_ret (res_cell1 rfl _ _ _ _ _ _ rfl ((((((R.1.set_ 0 _).set_ 1 _).set_ 2 _).set_ 3 _).set_ 4 _).set_ 5 _) Try.underlying31 (by kernel_rfl)) rfl ?_
                  exact ⟨12, s, t, (.slice (some ⟨g0, 0, none⟩) 1 cv), .slice none 0 0, none, 0, wz.heap.size, [((11, 0, z), k1)], [((11, 0, z), Value.slice A1 k1.len c1)], [], [], .nil, _, rfl, ((((((E9.setb R.2 (Nat.le_refl _) hx ha _ _).setb R.2 (Nat.le_refl _) hx ha _ _).setb R.2 (Nat.le_refl _) hx ha _ _).setb R.2 (Nat.le_refl _) hx ha _ _).setb R.2 (Nat.le_refl _) hx ha _ _).setb R.2 (Nat.le_refl _) hx ha _ _)⟩
              · cases D with
                | zero => exact absurd (h57 rfl) (by omega)
                | succ D' =>
                  have cI := fun w => cIn 5 5 7 w
                  rw [show (decide ((5 : Int) ≤ 5) && decide ((5 : Int) ≤ 7)) = true from (by decide)] at cI
                  have CI := Lib.hid cI
                  clear cI
                  have ew : IntKind.i64.wrap (E - 1) = (D' : Int) := by rw [IntWalk.i64_in _ (by omega)]; omega
                  have IHL := Lib.hid (IH.out D' rfl)
                  have hns : nS (D' + 1) = 44 + 6 * (nS D' + 1) := rfl
                  have hgs := G.sz
                  have hOl := fun k e => (O.lt k e)
                  have hra := R.2.2
                  have hrb9 := Rb.lt
                  have pc0 := Rb.cell
                  have pf0 := Rb.frozen
                  go_wp2_with fail
                  refine (CI.out _).mono ?_; rintro e wz ⟨rfl, rfl⟩
                  go_wp2_with fail
                  refine (IHL.out _ _ C).mono ?_; rintro e w5 ⟨vA, LA, la, U5, rfl, hsA, OA, C5, G5⟩
                  have HSA := Lib.hid hsA
                  clear hsA pc0 pf0
                  replace Rb := Rb.gro G5
                  replace R := R.gro G5
                  replace O := O.gro G5
                  replace F := F.gro C G5
                  replace G := G.trans G5
                  clear C
                  have C := C5
                  clear C5
                  obtain ⟨Aa, ca, rfl⟩ := OA.form
                  have hrbw := Rb.lt
                  have pc0 := Rb.cell
                  have pf0 := Rb.frozen
                  go_wp2_with fail
                  clear pc0 pf0
                  have hxb : (Value.slice Av l.length cv).ownBlock ≠ some rb := fun e => by have := (hOl _ e).1; omega
                  have hab : (Value.slice Aa la.length ca).ownBlock ≠ some rb := OA.not (.inl hrb9)
                  replace O := O.setb (j := 4) hxb (.slice Aa la.length ca)
                  replace F := F.setb (j := 4) Rb.2.1 (.slice Aa la.length ca)
                  replace OA := OA.setb (j := 4) hab Rb.2.1 (.slice Aa la.length ca)
                  replace R := R.far (b := rb) (j := 4) (by omega) (.slice Aa la.length ca)
                  replace C := C.setb (b := rb) (j := 4) Rb.2.2 (.slice Aa la.length ca)
                  replace G := G.setb (b := rb) (j := 4) (by omega) (.slice Aa la.length ca)
                  replace Rb := Rb.set_ 4 (.slice Aa la.length ca)
                  simp only [List.setIfInBounds_toArray, List.set_cons_succ, List.set_cons_zero] at Rb
                  generalize w5.setCell ⟨rb, 4, none⟩ (.slice Aa la.length ca) = w6 at Rb R O F OA C G ⊢
                  go_wp2_with fail
                  refine (cOnce 2 C (by omega)).mono ?_; rintro e w8 ⟨⟨bo, rfl⟩, C8, G8⟩
                  replace Rb := Rb.gro G8
                  replace R := R.gro G8
                  replace O := O.gro G8
                  replace F := F.gro C G8
                  replace OA := OA.gro C G8
                  replace G := G.trans G8
                  clear C
                  have C := C8
                  clear C8
                  cases bo
                  · have pc0 := Rb.cell
                    have pf0 := Rb.frozen
                    have pc1 := R.cell
                    have pf1 := R.frozen
                    go_wp2_with fail
                    have hx : (Value.slice Av l.length cv).ownBlock ≠ some w.heap.size := fun e => by have := (O.lt _ e).1; omega
                    have ha : (Value.slice Aa la.length ca).ownBlock ≠ some w.heap.size := OA.not (.inl (by omega))
                    have E9 := (show OS (nS (D' + 1)) B g U w _ w8 wz.heap.size (.slice Av l.length cv) L l (.slice Aa la.length ca) LA la none .nil from ⟨by have h1 := HS.out; have h2 := HSA.out; show (mkFr L).size + (mkSt LA).size + 0 ≤ _; omega, (show RX g _ w8 (rb + 1) (.slice Av l.length cv) L l from ⟨O, F⟩).base_ (by omega) hC.lt, fun k e => (hOl k e).2, hgs, OA, SlSP.nil_ _ _, C, G⟩)
                    refine bodyPost_ret (res_cell1 rfl _ _ _ _ _ _ rfl ((((((R.1.set_ 0 _).set_ 1 _).set_ 2 _).set_ 3 _).set_ 4 _).set_ 5 _) Try.underlying31 (by kernel_rfl)) rfl ?_
                    exact ⟨5, s, t, .slice Av l.length cv, .slice Aa la.length ca, none, 0, wz.heap.size, L, l, LA, la, .nil, _, rfl, ((((((E9.setb R.2 (Nat.le_refl _) hx ha _ _).setb R.2 (Nat.le_refl _) hx ha _ _).setb R.2 (Nat.le_refl _) hx ha _ _).setb R.2 (Nat.le_refl _) hx ha _ _).setb R.2 (Nat.le_refl _) hx ha _ _).setb R.2 (Nat.le_refl _) hx ha _ _)⟩
                  · go_wp2_with fail
                    refine (IHL.out _ _ C).mono ?_; rintro e w9 hr9
                    obtain ⟨Aq, cq, qs, U9, rfl, hsq, SQ, C9, G9⟩ := hr9.close
                    have HSQ := Lib.hid hsq
                    clear hsq hr9
                    replace Rb := Rb.gro G9
                    replace R := R.gro G9
                    replace O := O.gro G9
                    replace F := F.gro C G9
                    replace OA := OA.gro C G9
                    replace G := G.trans G9
                    clear C
                    have C := C9
                    clear C9
                    have pc0 := Rb.cell
                    have pf0 := Rb.frozen
                    have pc1 := R.cell
                    have pf1 := R.frozen
                    go_wp2_with fail
                    clear pc0 pf0 pc1 pf1
                    replace O := O.setb (j := 5) hxb (.slice Aq qs.len cq)
                    replace F := F.setb (j := 5) Rb.2.1 (.slice Aq qs.len cq)
                    replace OA := OA.setb (j := 5) hab Rb.2.1 (.slice Aq qs.len cq)
                    replace SQ := SQ.setb (j := 5) Rb.2.1 (.slice Aq qs.len cq)
                    replace R := R.far (b := rb) (j := 5) (by omega) (.slice Aq qs.len cq)
                    replace C := C.setb (b := rb) (j := 5) Rb.2.2 (.slice Aq qs.len cq)
                    replace G := G.setb (b := rb) (j := 5) (by omega) (.slice Aq qs.len cq)
                    replace Rb := Rb.set_ 5 (.slice Aq qs.len cq)
                    simp only [List.setIfInBounds_toArray, List.set_cons_succ, List.set_cons_zero] at Rb
                    generalize w9.setCell ⟨rb, 5, none⟩ (.slice Aq qs.len cq) = wA at Rb R O F OA SQ C G ⊢
                    have hx : (Value.slice Av l.length cv).ownBlock ≠ some w.heap.size := fun e => by have := (O.lt _ e).1; omega
                    have ha : (Value.slice Aa la.length ca).ownBlock ≠ some w.heap.size := OA.not (.inl (by omega))
                    have E9 := (show OS (nS (D' + 1)) B g U w _ wA wz.heap.size (.slice Av l.length cv) L l (.slice Aa la.length ca) LA la Aq qs from ⟨by have h1 := HS.out; have h2 := HSA.out; have h3 := HSQ.out; omega, (show RX g _ wA (rb + 1) (.slice Av l.length cv) L l from ⟨O, F⟩).base_ (by omega) hC.lt, fun k e => (hOl k e).2, hgs, OA, SQ, C, G⟩)
                    refine bodyPost_ret (res_cell1 rfl _ _ _ _ _ _ rfl ((((((R.1.set_ 0 _).set_ 1 _).set_ 2 _).set_ 3 _).set_ 4 _).set_ 5 _) Try.underlying31 (by kernel_rfl)) rfl ?_
                    exact ⟨5, s, t, .slice Av l.length cv, .slice Aa la.length ca, Aq, cq, wz.heap.size, L, l, LA, la, qs, _, rfl, ((((((E9.setb R.2 (Nat.le_refl _) hx ha _ _).setb R.2 (Nat.le_refl _) hx ha _ _).setb R.2 (Nat.le_refl _) hx ha _ _).setb R.2 (Nat.le_refl _) hx ha _ _).setb R.2 (Nat.le_refl _) hx ha _ _).setb R.2 (Nat.le_refl _) hx ha _ _)⟩
              · cases D with
                | zero => exact absurd (h57 rfl) (by omega)
                | succ D' =>
                  have cI := fun w => cIn 6 5 7 w
                  rw [show (decide ((5 : Int) ≤ 6) && decide ((6 : Int) ≤ 7)) = true from (by decide)] at cI
                  have CI := Lib.hid cI
                  clear cI
                  have ew : IntKind.i64.wrap (E - 1) = (D' : Int) := by rw [IntWalk.i64_in _ (by omega)]; omega
                  have IHL := Lib.hid (IH.out D' rfl)
                  have hns : nS (D' + 1) = 44 + 6 * (nS D' + 1) := rfl
                  have hgs := G.sz
                  have hOl := fun k e => (O.lt k e)
                  have hra := R.2.2
                  have hrb9 := Rb.lt
                  have pc0 := Rb.cell
                  have pf0 := Rb.frozen
                  go_wp2_with fail
                  refine (CI.out _).mono ?_; rintro e wz ⟨rfl, rfl⟩
                  go_wp2_with fail
                  refine (IHL.out _ _ C).mono ?_; rintro e w5 ⟨vA, LA, la, U5, rfl, hsA, OA, C5, G5⟩
                  have HSA := Lib.hid hsA
                  clear hsA pc0 pf0
                  replace Rb := Rb.gro G5
                  replace R := R.gro G5
                  replace O := O.gro G5
                  replace F := F.gro C G5
                  replace G := G.trans G5
                  clear C
                  have C := C5
                  clear C5
                  obtain ⟨Aa, ca, rfl⟩ := OA.form
                  have hrbw := Rb.lt
                  have pc0 := Rb.cell
                  have pf0 := Rb.frozen
                  have pc1 := R.cell
                  have pf1 := R.frozen
                  go_wp2_with fail
                  clear pc0 pf0 pc1 pf1
                  have hxb : (Value.slice Av l.length cv).ownBlock ≠ some rb := fun e => by have := (hOl _ e).1; omega
                  have hab : (Value.slice Aa la.length ca).ownBlock ≠ some rb := OA.not (.inl hrb9)
                  replace O := O.setb (j := 4) hxb (.slice Aa la.length ca)
                  replace F := F.setb (j := 4) Rb.2.1 (.slice Aa la.length ca)
                  replace OA := OA.setb (j := 4) hab Rb.2.1 (.slice Aa la.length ca)
                  replace R := R.far (b := rb) (j := 4) (by omega) (.slice Aa la.length ca)
                  replace C := C.setb (b := rb) (j := 4) Rb.2.2 (.slice Aa la.length ca)
                  replace G := G.setb (b := rb) (j := 4) (by omega) (.slice Aa la.length ca)
                  replace Rb := Rb.set_ 4 (.slice Aa la.length ca)
                  simp only [List.setIfInBounds_toArray, List.set_cons_succ, List.set_cons_zero] at Rb
                  generalize w5.setCell ⟨rb, 4, none⟩ (.slice Aa la.length ca) = w6 at Rb R O F OA C G ⊢
                  have hx : (Value.slice Av l.length cv).ownBlock ≠ some w.heap.size := fun e => by have := (O.lt _ e).1; omega
                  have ha : (Value.slice Aa la.length ca).ownBlock ≠ some w.heap.size := OA.not (.inl (by omega))
                  have E9 := (show OS (nS (D' + 1)) B g U w _ w6 wz.heap.size (.slice Av l.length cv) L l (.slice Aa la.length ca) LA la none .nil from ⟨by have h1 := HS.out; have h2 := HSA.out; show (mkFr L).size + (mkSt LA).size + 0 ≤ _; omega, (show RX g _ w6 (rb + 1) (.slice Av l.length cv) L l from ⟨O, F⟩).base_ (by omega) hC.lt, fun k e => (hOl k e).2, hgs, OA, SlSP.nil_ _ _, C, G⟩)
                  refine bodyPost_ret (res_cell1 rfl _ _ _ _ _ _ rfl ((((((R.1.set_ 0 _).set_ 1 _).set_ 2 _).set_ 3 _).set_ 4 _).set_ 5 _) Try.underlying31 (by kernel_rfl)) rfl ?_
                  exact ⟨6, s, t, .slice Av l.length cv, .slice Aa la.length ca, none, 0, wz.heap.size, L, l, LA, la, .nil, _, rfl, ((((((E9.setb R.2 (Nat.le_refl _) hx ha _ _).setb R.2 (Nat.le_refl _) hx ha _ _).setb R.2 (Nat.le_refl _) hx ha _ _).setb R.2 (Nat.le_refl _) hx ha _ _).setb R.2 (Nat.le_refl _) hx ha _ _).setb R.2 (Nat.le_refl _) hx ha _ _)⟩
              · cases D with
                | zero => exact absurd (h57 rfl) (by omega)
                | succ D' =>
                  have cI := fun w => cIn 7 5 7 w
                  rw [show (decide ((5 : Int) ≤ 7) && decide ((7 : Int) ≤ 7)) = true from (by decide)] at cI
                  have CI := Lib.hid cI
                  clear cI
                  have ew : IntKind.i64.wrap (E - 1) = (D' : Int) := by rw [IntWalk.i64_in _ (by omega)]; omega
                  have IHL := Lib.hid (IH.out D' rfl)
                  have hns : nS (D' + 1) = 44 + 6 * (nS D' + 1) := rfl
                  have hgs := G.sz
                  have hOl := fun k e => (O.lt k e)
                  have hra := R.2.2
                  have hrb9 := Rb.lt
                  have pc0 := Rb.cell
                  have pf0 := Rb.frozen
                  go_wp2_with fail
                  refine (CI.out _).mono ?_; rintro e wz ⟨rfl, rfl⟩
                  go_wp2_with fail
                  refine (IHL.out _ _ C).mono ?_; rintro e w5 ⟨vA, LA, la, U5, rfl, hsA, OA, C5, G5⟩
                  have HSA := Lib.hid hsA
                  clear hsA pc0 pf0
                  replace Rb := Rb.gro G5
                  replace R := R.gro G5
                  replace O := O.gro G5
                  replace F := F.gro C G5
                  replace G := G.trans G5
                  clear C
                  have C := C5
                  clear C5
                  obtain ⟨Aa, ca, rfl⟩ := OA.form
                  have hrbw := Rb.lt
                  have pc0 := Rb.cell
                  have pf0 := Rb.frozen
                  have pc1 := R.cell
                  have pf1 := R.frozen
                  go_wp2_with fail
                  clear pc0 pf0 pc1 pf1
                  have hxb : (Value.slice Av l.length cv).ownBlock ≠ some rb := fun e => by have := (hOl _ e).1; omega
                  have hab : (Value.slice Aa la.length ca).ownBlock ≠ some rb := OA.not (.inl hrb9)
                  replace O := O.setb (j := 4) hxb (.slice Aa la.length ca)
                  replace F := F.setb (j := 4) Rb.2.1 (.slice Aa la.length ca)
                  replace OA := OA.setb (j := 4) hab Rb.2.1 (.slice Aa la.length ca)
                  replace R := R.far (b := rb) (j := 4) (by omega) (.slice Aa la.length ca)
                  replace C := C.setb (b := rb) (j := 4) Rb.2.2 (.slice Aa la.length ca)
                  replace G := G.setb (b := rb) (j := 4) (by omega) (.slice Aa la.length ca)
                  replace Rb := Rb.set_ 4 (.slice Aa la.length ca)
                  simp only [List.setIfInBounds_toArray, List.set_cons_succ, List.set_cons_zero] at Rb
                  generalize w5.setCell ⟨rb, 4, none⟩ (.slice Aa la.length ca) = w6 at Rb R O F OA C G ⊢
                  have hx : (Value.slice Av l.length cv).ownBlock ≠ some w.heap.size := fun e => by have := (O.lt _ e).1; omega
                  have ha : (Value.slice Aa la.length ca).ownBlock ≠ some w.heap.size := OA.not (.inl (by omega))
                  have E9 := (show OS (nS (D' + 1)) B g U w _ w6 wz.heap.size (.slice Av l.length cv) L l (.slice Aa la.length ca) LA la none .nil from ⟨by have h1 := HS.out; have h2 := HSA.out; show (mkFr L).size + (mkSt LA).size + 0 ≤ _; omega, (show RX g _ w6 (rb + 1) (.slice Av l.length cv) L l from ⟨O, F⟩).base_ (by omega) hC.lt, fun k e => (hOl k e).2, hgs, OA, SlSP.nil_ _ _, C, G⟩)
                  refine bodyPost_ret (res_cell1 rfl _ _ _ _ _ _ rfl ((((((R.1.set_ 0 _).set_ 1 _).set_ 2 _).set_ 3 _).set_ 4 _).set_ 5 _) Try.underlying31 (by kernel_rfl)) rfl ?_
                  exact ⟨7, s, t, .slice Av l.length cv, .slice Aa la.length ca, none, 0, wz.heap.size, L, l, LA, la, .nil, _, rfl, ((((((E9.setb R.2 (Nat.le_refl _) hx ha _ _).setb R.2 (Nat.le_refl _) hx ha _ _).setb R.2 (Nat.le_refl _) hx ha _ _).setb R.2 (Nat.le_refl _) hx ha _ _).setb R.2 (Nat.le_refl _) hx ha _ _).setb R.2 (Nat.le_refl _) hx ha _ _)⟩
              · have cI := fun w => cIn k 5 7 w
                rw [show (decide ((5 : Int) ≤ k) && decide ((k : Int) ≤ 7)) = false from k57] at cI
                have CI := Lib.hid cI
                clear cI
                clear k57 h57
                go_wp2_with fail
                refine (CI.out _).mono ?_; rintro e wz ⟨rfl, rfl⟩
                have pc0 := Rb.cell
                have pf0 := Rb.frozen
                have pc1 := R.cell
                have pf1 := R.frozen
                go_wp2_with fail
                have hx : (Value.slice Av l.length cv).ownBlock ≠ some w.heap.size := fun e => by have := (O.lt _ e).1; omega
                have ha : (Value.slice none 0 0).ownBlock ≠ some w.heap.size := fun e => (by simp [Value.ownBlock] at e)
                have E9 := (show OS (nS D) B g U w _ wz wz.heap.size (.slice Av l.length cv) L l (.slice none 0 0) [] [] none .nil from ⟨by have h1 := HS.out; have h2 := nS_pos D; show (mkFr L).size + 0 + 0 ≤ _; omega, (show RX g _ wz (rb + 1) (.slice Av l.length cv) L l from ⟨O, F⟩).base_ (by omega) hC.lt, fun k e => (O.lt k e).2, G.sz, RA.nil C.lt, SlSP.nil_ _ _, C, G⟩)
                refine bodyPost_ret (res_cell1 rfl _ _ _ _ _ _ rfl ((((((R.1.set_ 0 _).set_ 1 _).set_ 2 _).set_ 3 _).set_ 4 _).set_ 5 _) Try.underlying31 (by kernel_rfl)) rfl ?_
                exact ⟨k, s, t, (.slice Av l.length cv), .slice none 0 0, none, 0, wz.heap.size, L, l, [], [], .nil, _, rfl, ((((((E9.setb R.2 (Nat.le_refl _) hx ha _ _).setb R.2 (Nat.le_refl _) hx ha _ _).setb R.2 (Nat.le_refl _) hx ha _ _).setb R.2 (Nat.le_refl _) hx ha _ _).setb R.2 (Nat.le_refl _) hx ha _ _).setb R.2 (Nat.le_refl _) hx ha _ _)⟩
    · clear HB
      have hrb0 := R.lt
      have Rb := Bx.new C 31 #[.int .i64 2, .string ⟨#[]⟩, .string ⟨#[]⟩, .slice none 0 0, .slice none 0 0, .slice none 0 0]
      replace R := R.alloc (.cells #[.int .i64 2, .string ⟨#[]⟩, .string ⟨#[]⟩, .slice none 0 0, .slice none 0 0, .slice none 0 0] 31)
      replace G := G.alloc (.cells #[.int .i64 2, .string ⟨#[]⟩, .string ⟨#[]⟩, .slice none 0 0, .slice none 0 0, .slice none 0 0] 31)
      replace C := C.alloc (.cells #[.int .i64 2, .string ⟨#[]⟩, .string ⟨#[]⟩, .slice none 0 0, .slice none 0 0, .slice none 0 0] 31)
      go_upto_block 0 with fail
      generalize wc.alloc (.cells #[.int .i64 2, .string ⟨#[]⟩, .string ⟨#[]⟩, .slice none 0 0, .slice none 0 0, .slice none 0 0] 31) = w4 at Rb R C G ⊢
      generalize wc.heap.size = rb at Rb hrb0 ⊢
      go_wp2_with fail
      refine (cStr w4.heap.size 2 [⟨#[120]⟩, ⟨#[121]⟩] (C.alloc _) rfl (by omega) (by omega) (Blk.new w4 _ _) (by have := C.lt; omega)).mono ?_; rintro e w5z ⟨⟨z, rfl, _⟩, C5, G5⟩
      replace Rb := (Rb.alloc _).gro G5
      replace R := (R.alloc _).gro G5
      replace G := (G.alloc _).trans G5
      clear C
      have C := C5
      clear C5 G5
      have pc0 := Rb.cell
      have pf0 := Rb.frozen
      go_wp2_with fail
      clear pc0 pf0
      replace R := R.far (b := rb) (j := 1) (by omega) (.string z)
      replace G := G.setb (b := rb) (j := 1) (by omega) (.string z)
      replace C := C.setb (b := rb) (j := 1) Rb.2.2 (.string z)
      replace Rb := Rb.set_ 1 (.string z)
      simp only [List.setIfInBounds_toArray, List.set_cons_succ, List.set_cons_zero] at Rb
      generalize w5z.setCell ⟨rb, 1, none⟩ (.string z) = w6 at Rb R C G ⊢
      go_wp2_with fail
      go_loopw [10] (fun i wr => ∃ (q : Nat) (L : List ((Int × Int × ByteArray) × Fr (Int × Int × ByteArray))) (l : List ((Int × Int × ByteArray) × Value)) (v : Value) (U1 : Nat → Prop), q ≤ 1 ∧ i = .int .i64 q ∧ Bx g U1 wr rb 31 #[.int .i64 2, .string z, .string ⟨#[]⟩, v, .slice none 0 0, .slice none 0 0] ∧ Bx g U1 wr w.heap.size 31 #[.int .i64 0, .string ⟨#[]⟩, .string ⟨#[]⟩, .slice none 0 0, .slice none 0 0, .slice none 0 0] ∧ Rw g U1 wr (rb + 1) 26 4 v l.length (flat (rC exprC) l) ∧ Fit exprC wr U1 L l ∧ L.length = q ∧ Hid (∀ x ∈ L, x.2.size ≤ 21) ∧ Cu B g U1 wr ∧ Gro g U w U1 wr) (fun i _ => 1 - (intOf i).toNat)
      case atStart => exact ⟨0, [], [], .slice none 0 0, U, Nat.zero_le _, rfl, Rb, R, Rw.nil (by have := Rb.2.2; omega), Fit.nil _ _ _, rfl, fun x hx => (by cases hx), C, G⟩
      case round =>
        clear Rb R C G
        obtain ⟨q, L, l, v, U1, hq, rfl, Rb, R, O, F, hLq0, HL, C, G⟩ := hrel
        obtain ⟨Av, cv, rfl⟩ := O.form
        have hLq := Lib.hid hLq0
        have hll : l.length ≤ 2 := by rw [F.1, hLq0]; omega
        clear hLq0
        by_cases hlt : q < 1
        · have hlt' : (q : Int) < (1 : Int) := by omega
          go_upto_region 31 with fail
          refine wp_region_any (by kernel_rfl) ?_
          change wpAny _ _ _ _ _ _ _ (World.drew _)
          have bd := (Below.refl wr.heap.size wr).drew
          replace F := F.below C bd
          replace O := O.below bd
          replace Rb := Rb.below bd
          replace R := R.below bd
          replace G := G.below bd
          replace C := C.below bd
          clear bd
          generalize wr.drew = wd at F O Rb R G C ⊢
          refine wpAny_take (i := 0) (oi := ⟨some 81, _, _, _, _, _⟩) (v := ?_) rfl (by kernel_rfl) (by kernel_rfl) (by kernel_rfl) (fun _ _ _ h => h) (Or.inl ⟨by rfl, ?_⟩) ?_
          case refine_2 => (intro w; go_simp; first | done | with_reducible rfl)
          simp only [Act.put, List.setIfInBounds_toArray, List.set_cons_zero, List.set_cons_succ]
          refine wpAny_take (i := 2) (oi := ⟨some 83, _, _, _, _, _⟩) (v := ?_) rfl (by kernel_rfl) (by kernel_rfl) (by kernel_rfl) (fun _ _ _ h => h) (Or.inl ⟨by rfl, ?_⟩) ?_
          case refine_2 => (intro w; go_simp; first | done | with_reducible rfl)
          simp only [Act.put, List.setIfInBounds_toArray, List.set_cons_zero, List.set_cons_succ]
          refine wpAny_ready (rs := [1, 3]) (by kernel_rfl) (by simp) ?_
          refine AllReady.cons (o := ⟨some 82, _, _, _, _, _⟩) rfl (fun K hK => ?_) (AllReady.cons (o := ⟨some 84, _, _, _, _, _⟩) rfl (fun K hK => ?_) AllReady.nil)
          · have pc0 := Rb.cell
            have pf0 := Rb.frozen
            try have pc1 := (Rb.alloc (.cells #[.int .i64 y, .int .i64 yn, .string ys, .slice Ay ky.len cy] 26)).cell
            try have pf1 := (Rb.alloc (.cells #[.int .i64 y, .int .i64 yn, .string ys, .slice Ay ky.len cy] 26)).frozen
            go_simp
            go_wp2_with fail
            clear pc0 pf0
            try clear pc1 pf1
            try (refine hK _ _ ?_; clear hK K)
            try simp only [Act.put, List.setIfInBounds_toArray, List.set_cons_zero, List.set_cons_succ]
            refine wpAny_ready (rs := [3]) (by kernel_rfl) (by simp) ?_
            refine AllReady.cons (o := ⟨some 84, _, _, _, _, _⟩) rfl (fun K hK => ?_) AllReady.nil
            go_simp
            refine (dDraw8 B g 2 (by omega) _ _ C).mono ?_; rintro e w5 ⟨y, yn, ys, ky, Ay, cy, U5, rfl, hky, hSy, C5, G5⟩
            have HKY := Lib.hid (show ky.size ≤ 21 from hky)
            clear hky
            replace Rb := Rb.gro G5
            replace R := R.gro G5
            replace O := O.gro G5
            replace F := F.gro C G5
            replace G := G.trans G5
            clear C
            have C := C5
            clear C5
            go_wp2_with fail
            try (refine hK _ _ ?_; clear hK K)
            try simp only [Act.put, List.setIfInBounds_toArray, List.set_cons_zero, List.set_cons_succ]
            refine wpAny_ready (rs := [4]) (by kernel_rfl) (by simp) ?_
            refine AllReady.cons (o := ⟨some 85, _, _, _, _, _⟩) rfl (fun K hK => ?_) AllReady.nil
            go_simp
            go_wp2_with fail
            try (refine hK _ _ ?_; clear hK K)
            try simp only [Act.put, List.setIfInBounds_toArray, List.set_cons_zero, List.set_cons_succ]
            refine wpAny_ready (rs := [5]) (by kernel_rfl) (by simp) ?_
            refine AllReady.cons (o := ⟨some 86, _, _, _, _, _⟩) rfl (fun K hK => ?_) AllReady.nil
            refine step_pushB rfl (.tmp 82) (.tmp 85) 24 rfl (rb + 1) 26 j0 (.agg #[.int .i64 0, .int .i64 0, .string ⟨#[]⟩, .slice none 0 0]) 4 56 Try.underlying24 hj hy0 hy1 hy2 rfl (by decide) (Value.slice Av l.length cv) _ _ rfl O.1 [.int .i64 y, .int .i64 yn, .string ys, .slice Ay ky.len cy] rfl rfl rfl (by omega) (by omega) (by have := Rb.lt; omega) ?_
            intro v' w7 hO7 hg7 hv7
            obtain ⟨A7, c7, rfl⟩ := (Row.mk hO7).form
            have hb7 := fun k e => (O.lt k e).1
            have F7 := (F.snoc (a := (y, yn, ys)) (c := cy) hSy).row C hg7 O.2.1
            have Rb7 := Rb.row hg7 (fun e => by have := hb7 _ e.symm; omega)
            have R7 := R.row hg7 (fun e => by have := hb7 _ e.symm; omega)
            have hgr := Rb.2.2
            have G7 := G.row hg7 (fun k e => by have := hb7 k e; omega)
            have O7 := O.push C hO7 hv7
            have C7 := C.row hg7 (fun k e => by have := hb7 k e; omega)
            try (refine hK _ _ ?_; clear hK K)
            try simp only [Act.put, List.setIfInBounds_toArray, List.set_cons_zero, List.set_cons_succ]
            refine wpAny_take (i := 6) (oi := ⟨some 87, _, _, _, _, _⟩) (v := ?_) rfl (by kernel_rfl) (by kernel_rfl) (by kernel_rfl) (fun _ _ _ h => h) (Or.inl ⟨by rfl, ?_⟩) ?_
            case refine_2 => (intro w; go_simp; first | done | with_reducible rfl)
            simp only [Act.put, List.setIfInBounds_toArray, List.set_cons_zero, List.set_cons_succ]
            refine wpAny_ready (rs := [7]) (by kernel_rfl) (by simp) ?_
            refine AllReady.cons (o := ⟨none, _, _, _, _, _⟩) rfl (fun K hK => ?_) AllReady.nil
            have pc0 := Rb7.cell
            have pf0 := Rb7.frozen
            go_simp
            go_wp2_with fail
            clear pc0 pf0
            try (refine hK _ _ ?_; clear hK K)
            try simp only [Act.put, List.setIfInBounds_toArray, List.set_cons_zero, List.set_cons_succ]
            refine wpAny_done (by kernel_rfl) ?_ _
            go_wp2_with fail
            have O8 : Rw g U5 w7 (rb + 1) 26 4 (Value.slice A7 (l.length + 1) c7) (l ++ [((y, yn, ys), Value.slice Ay ky.len cy)]).length (flat (rC exprC) (l ++ [((y, yn, ys), Value.slice Ay ky.len cy)])) := by
              rw [List.length_append, ← flat_snoc]
              exact O7
            have Rb8 := Rb7.set_ 3 (Value.slice A7 (l.length + 1) c7)
            simp only [List.setIfInBounds_toArray, List.set_cons_succ, List.set_cons_zero] at Rb8
            go_roundw
            case rel => exact ⟨q + 1, _, _, _, U5, by omega, by go_num, Rb8, R7.far (by omega) _, O8.setl (Nat.lt_succ_self _) _, F7.setb Rb7.2.1 _, by rw [List.length_append, hLq.out]; rfl, fun x hx => by rcases List.mem_append.1 hx with h | h; exact HL.out x h; (rw [List.mem_singleton.1 h]; exact HKY.out), C7.setb Rb7.2.2 _, G7.setb (by omega) _⟩
            case measure => (simp [intOf] <;> omega)
          · go_simp
            refine (dDraw8 B g 2 (by omega) _ _ C).mono ?_; rintro e w5 ⟨y, yn, ys, ky, Ay, cy, U5, rfl, hky, hSy, C5, G5⟩
            have HKY := Lib.hid (show ky.size ≤ 21 from hky)
            clear hky
            replace Rb := Rb.gro G5
            replace R := R.gro G5
            replace O := O.gro G5
            replace F := F.gro C G5
            replace G := G.trans G5
            clear C
            have C := C5
            clear C5
            go_wp2_with fail
            try (refine hK _ _ ?_; clear hK K)
            try simp only [Act.put, List.setIfInBounds_toArray, List.set_cons_zero, List.set_cons_succ]
            refine wpAny_ready (rs := [1, 4]) (by kernel_rfl) (by simp) ?_
            refine AllReady.cons (o := ⟨some 82, _, _, _, _, _⟩) rfl (fun K hK => ?_) (AllReady.cons (o := ⟨some 85, _, _, _, _, _⟩) rfl (fun K hK => ?_) AllReady.nil)
            · have pc0 := Rb.cell
              have pf0 := Rb.frozen
              try have pc1 := (Rb.alloc (.cells #[.int .i64 y, .int .i64 yn, .string ys, .slice Ay ky.len cy] 26)).cell
              try have pf1 := (Rb.alloc (.cells #[.int .i64 y, .int .i64 yn, .string ys, .slice Ay ky.len cy] 26)).frozen
              go_simp
              go_wp2_with fail
              clear pc0 pf0
              try clear pc1 pf1
              try (refine hK _ _ ?_; clear hK K)
              try simp only [Act.put, List.setIfInBounds_toArray, List.set_cons_zero, List.set_cons_succ]
              refine wpAny_ready (rs := [4]) (by kernel_rfl) (by simp) ?_
              refine AllReady.cons (o := ⟨some 85, _, _, _, _, _⟩) rfl (fun K hK => ?_) AllReady.nil
              go_simp
              go_wp2_with fail
              try (refine hK _ _ ?_; clear hK K)
              try simp only [Act.put, List.setIfInBounds_toArray, List.set_cons_zero, List.set_cons_succ]
              refine wpAny_ready (rs := [5]) (by kernel_rfl) (by simp) ?_
              refine AllReady.cons (o := ⟨some 86, _, _, _, _, _⟩) rfl (fun K hK => ?_) AllReady.nil
              refine step_pushB rfl (.tmp 82) (.tmp 85) 24 rfl (rb + 1) 26 j0 (.agg #[.int .i64 0, .int .i64 0, .string ⟨#[]⟩, .slice none 0 0]) 4 56 Try.underlying24 hj hy0 hy1 hy2 rfl (by decide) (Value.slice Av l.length cv) _ _ rfl O.1 [.int .i64 y, .int .i64 yn, .string ys, .slice Ay ky.len cy] rfl rfl rfl (by omega) (by omega) (by have := Rb.lt; omega) ?_
              intro v' w7 hO7 hg7 hv7
              obtain ⟨A7, c7, rfl⟩ := (Row.mk hO7).form
              have hb7 := fun k e => (O.lt k e).1
              have F7 := (F.snoc (a := (y, yn, ys)) (c := cy) hSy).row C hg7 O.2.1
              have Rb7 := Rb.row hg7 (fun e => by have := hb7 _ e.symm; omega)
              have R7 := R.row hg7 (fun e => by have := hb7 _ e.symm; omega)
              have hgr := Rb.2.2
              have G7 := G.row hg7 (fun k e => by have := hb7 k e; omega)
              have O7 := O.push C hO7 hv7
              have C7 := C.row hg7 (fun k e => by have := hb7 k e; omega)
              try (refine hK _ _ ?_; clear hK K)
              try simp only [Act.put, List.setIfInBounds_toArray, List.set_cons_zero, List.set_cons_succ]
              refine wpAny_take (i := 6) (oi := ⟨some 87, _, _, _, _, _⟩) (v := ?_) rfl (by kernel_rfl) (by kernel_rfl) (by kernel_rfl) (fun _ _ _ h => h) (Or.inl ⟨by rfl, ?_⟩) ?_
              case refine_2 => (intro w; go_simp; first | done | with_reducible rfl)
              simp only [Act.put, List.setIfInBounds_toArray, List.set_cons_zero, List.set_cons_succ]
              refine wpAny_ready (rs := [7]) (by kernel_rfl) (by simp) ?_
              refine AllReady.cons (o := ⟨none, _, _, _, _, _⟩) rfl (fun K hK => ?_) AllReady.nil
              have pc0 := Rb7.cell
              have pf0 := Rb7.frozen
              go_simp
              go_wp2_with fail
              clear pc0 pf0
              try (refine hK _ _ ?_; clear hK K)
              try simp only [Act.put, List.setIfInBounds_toArray, List.set_cons_zero, List.set_cons_succ]
              refine wpAny_done (by kernel_rfl) ?_ _
              go_wp2_with fail
              have O8 : Rw g U5 w7 (rb + 1) 26 4 (Value.slice A7 (l.length + 1) c7) (l ++ [((y, yn, ys), Value.slice Ay ky.len cy)]).length (flat (rC exprC) (l ++ [((y, yn, ys), Value.slice Ay ky.len cy)])) := by
                rw [List.length_append, ← flat_snoc]
                exact O7
              have Rb8 := Rb7.set_ 3 (Value.slice A7 (l.length + 1) c7)
              simp only [List.setIfInBounds_toArray, List.set_cons_succ, List.set_cons_zero] at Rb8
              go_roundw
              case rel => exact ⟨q + 1, _, _, _, U5, by omega, by go_num, Rb8, R7.far (by omega) _, O8.setl (Nat.lt_succ_self _) _, F7.setb Rb7.2.1 _, by rw [List.length_append, hLq.out]; rfl, fun x hx => by rcases List.mem_append.1 hx with h | h; exact HL.out x h; (rw [List.mem_singleton.1 h]; exact HKY.out), C7.setb Rb7.2.2 _, G7.setb (by omega) _⟩
              case measure => (simp [intOf] <;> omega)
            · go_simp
              go_wp2_with fail
              try (refine hK _ _ ?_; clear hK K)
              try simp only [Act.put, List.setIfInBounds_toArray, List.set_cons_zero, List.set_cons_succ]
              refine wpAny_ready (rs := [1]) (by kernel_rfl) (by simp) ?_
              refine AllReady.cons (o := ⟨some 82, _, _, _, _, _⟩) rfl (fun K hK => ?_) AllReady.nil
              have pc0 := Rb.cell
              have pf0 := Rb.frozen
              try have pc1 := (Rb.alloc (.cells #[.int .i64 y, .int .i64 yn, .string ys, .slice Ay ky.len cy] 26)).cell
              try have pf1 := (Rb.alloc (.cells #[.int .i64 y, .int .i64 yn, .string ys, .slice Ay ky.len cy] 26)).frozen
              go_simp
              go_wp2_with fail
              clear pc0 pf0
              try clear pc1 pf1
              try (refine hK _ _ ?_; clear hK K)
              try simp only [Act.put, List.setIfInBounds_toArray, List.set_cons_zero, List.set_cons_succ]
              refine wpAny_ready (rs := [5]) (by kernel_rfl) (by simp) ?_
              refine AllReady.cons (o := ⟨some 86, _, _, _, _, _⟩) rfl (fun K hK => ?_) AllReady.nil
              refine step_pushB rfl (.tmp 82) (.tmp 85) 24 rfl (rb + 1) 26 j0 (.agg #[.int .i64 0, .int .i64 0, .string ⟨#[]⟩, .slice none 0 0]) 4 56 Try.underlying24 hj hy0 hy1 hy2 rfl (by decide) (Value.slice Av l.length cv) _ _ rfl O.1 [.int .i64 y, .int .i64 yn, .string ys, .slice Ay ky.len cy] rfl rfl rfl (by omega) (by omega) (by have := Rb.lt; omega) ?_
              intro v' w7 hO7 hg7 hv7
              obtain ⟨A7, c7, rfl⟩ := (Row.mk hO7).form
              have hb7 := fun k e => (O.lt k e).1
              have F7 := (F.snoc (a := (y, yn, ys)) (c := cy) hSy).row C hg7 O.2.1
              have Rb7 := Rb.row hg7 (fun e => by have := hb7 _ e.symm; omega)
              have R7 := R.row hg7 (fun e => by have := hb7 _ e.symm; omega)
              have hgr := Rb.2.2
              have G7 := G.row hg7 (fun k e => by have := hb7 k e; omega)
              have O7 := O.push C hO7 hv7
              have C7 := C.row hg7 (fun k e => by have := hb7 k e; omega)
              try (refine hK _ _ ?_; clear hK K)
              try simp only [Act.put, List.setIfInBounds_toArray, List.set_cons_zero, List.set_cons_succ]
              refine wpAny_take (i := 6) (oi := ⟨some 87, _, _, _, _, _⟩) (v := ?_) rfl (by kernel_rfl) (by kernel_rfl) (by kernel_rfl) (fun _ _ _ h => h) (Or.inl ⟨by rfl, ?_⟩) ?_
              case refine_2 => (intro w; go_simp; first | done | with_reducible rfl)
              simp only [Act.put, List.setIfInBounds_toArray, List.set_cons_zero, List.set_cons_succ]
              refine wpAny_ready (rs := [7]) (by kernel_rfl) (by simp) ?_
              refine AllReady.cons (o := ⟨none, _, _, _, _, _⟩) rfl (fun K hK => ?_) AllReady.nil
              have pc0 := Rb7.cell
              have pf0 := Rb7.frozen
              go_simp
              go_wp2_with fail
              clear pc0 pf0
              try (refine hK _ _ ?_; clear hK K)
              try simp only [Act.put, List.setIfInBounds_toArray, List.set_cons_zero, List.set_cons_succ]
              refine wpAny_done (by kernel_rfl) ?_ _
              go_wp2_with fail
              have O8 : Rw g U5 w7 (rb + 1) 26 4 (Value.slice A7 (l.length + 1) c7) (l ++ [((y, yn, ys), Value.slice Ay ky.len cy)]).length (flat (rC exprC) (l ++ [((y, yn, ys), Value.slice Ay ky.len cy)])) := by
                rw [List.length_append, ← flat_snoc]
                exact O7
              have Rb8 := Rb7.set_ 3 (Value.slice A7 (l.length + 1) c7)
              simp only [List.setIfInBounds_toArray, List.set_cons_succ, List.set_cons_zero] at Rb8
              go_roundw
              case rel => exact ⟨q + 1, _, _, _, U5, by omega, by go_num, Rb8, R7.far (by omega) _, O8.setl (Nat.lt_succ_self _) _, F7.setb Rb7.2.1 _, by rw [List.length_append, hLq.out]; rfl, fun x hx => by rcases List.mem_append.1 hx with h | h; exact HL.out x h; (rw [List.mem_singleton.1 h]; exact HKY.out), C7.setb Rb7.2.2 _, G7.setb (by omega) _⟩
              case measure => (simp [intOf] <;> omega)
        · obtain rfl : q = 1 := by omega
          have HS := Lib.hid (show (mkFr L).size ≤ 44 from Nat.le_trans (size_mkE L HL.out) (Nat.le_trans (Nat.mul_le_mul_right 22 (show L.length ≤ 2 by have := hLq.out; omega)) (by decide)))
          have cI := fun w => cIn 2 5 7 w
          rw [show (decide ((5 : Int) ≤ 2) && decide ((2 : Int) ≤ 7)) = false from (by decide)] at cI
          have CI := Lib.hid cI
          clear cI
          go_wp2_with fail
          refine (CI.out _).mono ?_; rintro e wz ⟨rfl, rfl⟩
          have pc0 := Rb.cell
          have pf0 := Rb.frozen
          have pc1 := R.cell
          have pf1 := R.frozen
          go_wp2_with fail
          have hx : (Value.slice Av l.length cv).ownBlock ≠ some w.heap.size := fun e => by have := (O.lt _ e).1; omega
          have ha : (Value.slice none 0 0).ownBlock ≠ some w.heap.size := fun e => (by simp [Value.ownBlock] at e)
          have E9 := (show OS (nS D) B g U w _ wz wz.heap.size (.slice Av l.length cv) L l (.slice none 0 0) [] [] none .nil from ⟨by have h1 := HS.out; have h2 := nS_pos D; show (mkFr L).size + 0 + 0 ≤ _; omega, (show RX g _ wz (rb + 1) (.slice Av l.length cv) L l from ⟨O, F⟩).base_ (by omega) hC.lt, fun k e => (O.lt k e).2, G.sz, RA.nil C.lt, SlSP.nil_ _ _, C, G⟩)
          refine bodyPost_ret (res_cell1 rfl _ _ _ _ _ _ rfl ((((((R.1.set_ 0 _).set_ 1 _).set_ 2 _).set_ 3 _).set_ 4 _).set_ 5 _) Try.underlying31 (by kernel_rfl)) rfl ?_
          exact ⟨2, z, ⟨#[]⟩, (.slice Av l.length cv), .slice none 0 0, none, 0, wz.heap.size, L, l, [], [], .nil, _, rfl, ((((((E9.setb R.2 (Nat.le_refl _) hx ha _ _).setb R.2 (Nat.le_refl _) hx ha _ _).setb R.2 (Nat.le_refl _) hx ha _ _).setb R.2 (Nat.le_refl _) hx ha _ _).setb R.2 (Nat.le_refl _) hx ha _ _).setb R.2 (Nat.le_refl _) hx ha _ _)⟩

set_option maxRecDepth 20000 in
theorem dDraw9 (B g : Nat) (fn : Bool) : ∀ (D : Nat), D ≤ 2 → ∀ (U : Nat → Prop) w, Cu B g U w → Calls Try.prog 32 #[.pointer (some ⟨g, 0, none⟩), .int .i64 D, .bool fn] w fun e w' => ROpS (nS D) B g U w e w'
  | 0, _, U, w, hc => dDraw9_step 0 (by omega) fn B g U w hc (fun D' h => by omega)
  | D + 1, h, U, w, hc => dDraw9_step (D + 1) (by omega) fn B g U w hc (fun D' h' U w hc => by
      obtain rfl : D' = D := by omega
      have hb : ∀ D, D ≤ 2 → nS D ≤ 100000 := by decide
      exact dList9_of (nS D') (hb D' (by omega)) D' fn B g U w hc (fun U w hc => (dDraw9 B g fn D' (by omega) U w hc).mono fun _ _ h => h.close))
theorem dList9 (B g : Nat) (fn : Bool) (D : Nat) (hD : D ≤ 2) (U : Nat → Prop) (w : World) (hc : Cu B g U w) : Calls Try.prog 34 #[.pointer (some ⟨g, 0, none⟩), .int .i64 D, .bool fn] w fun e w' => ROpL (3 * (nS D + 1)) B g U w e w' := by
  have hb : ∀ D, D ≤ 2 → nS D ≤ 100000 := by decide
  exact dList9_of (nS D) (hb D hD) D fn B g U w hc (fun U w hc => (dDraw9 B g fn D hD U w hc).mono fun _ _ h => h.close)

end Go.Proofs.Ytalnkdbmbjplpaa
