/- Walks over the reference's draws of terms: l8Draw. -/
import Derived.Test.YtalnkdbmbjplpaaE8a
import Derived.Deep.CutRange
import Derived.Deep.CutBlock
namespace Go.Proofs.Ytalnkdbmbjplpaa
open Go.RowKit

/-- How many parts are within a drawn term at most. -/
def nE : Nat → Nat
  | 0 => 1
  | D + 1 => 3 * (nE D + 1)
theorem nE_pos : ∀ D, 1 ≤ nE D
  | 0 => Nat.le_refl _
  | D + 1 => by show 1 ≤ 3 * (nE D + 1); omega
theorem size_mkE {m : Nat} : ∀ (L : List ((Int × Int × ByteArray) × Fr (Int × Int × ByteArray))), (∀ x ∈ L, x.2.size ≤ m) → (mkFr L).size ≤ L.length * (m + 1)
  | [], _ => Nat.zero_le _
  | x :: r, h => by
    have h1 := size_mkE r (fun y hy => h y (List.mem_cons_of_mem _ hy))
    have h2 := h x (List.mem_cons_self ..)
    show x.2.size + (mkFr r).size + 1 ≤ (r.length + 1) * (m + 1)
    rw [Nat.succ_mul]
    omega
section
variable {n m B g : Nat} {U U1 U' : Nat → Prop} {w w1 w' : World} {A : Option Addr} {kids : Fr (Int × Int × ByteArray)}
theorem EO.trans (h : EO n B g U1 w1 U' w' A kids) (G : Gro g U w U1 w1) (hm : n ≤ m) : EO m B g U w U' w' A kids := ⟨Nat.le_trans h.1 hm, h.2.1, h.2.2.1, G.trans h.2.2.2⟩
end

set_option maxRecDepth 20000 in
set_option maxHeartbeats 8000000 in
theorem dDraw8_step (D : Nat) (hD : D ≤ 4) (B g : Nat) (U : Nat → Prop) (w : World) (hC : Cu B g U w)
    (ih : ∀ (U : Nat → Prop) w, Cu B g U w → Calls Try.prog 27 #[.pointer (some ⟨g, 0, none⟩), .int .i64 D] w fun e w' => REx (nE D) B g U w e w') :
    Calls Try.prog 27 #[.pointer (some ⟨g, 0, none⟩), .int .i64 ((D + 1 : Nat) : Int)] w fun e w' => REx (nE (D + 1)) B g U w e w' := by
  have IH := Lib.hid ih
  clear ih
  obtain ⟨j0, hj, hy0, hy1, hy2⟩ := info_parts info_Expr
  have R0 := Bx.new hC 26 #[.int .i64 0, .int .i64 0, .string ⟨#[]⟩, .slice none 0 0]
  have C0 := hC.alloc (.cells #[.int .i64 0, .int .i64 0, .string ⟨#[]⟩, .slice none 0 0] 26)
  have G0 := (Gro.refl g U w).alloc (.cells #[.int .i64 0, .int .i64 0, .string ⟨#[]⟩, .slice none 0 0] 26)
  have hr := Nat.le_refl w.heap.size
  obtain ⟨E, hE⟩ : ∃ E : Int, ((D + 1 : Nat) : Int) = E := ⟨_, rfl⟩
  rw [hE]
  have e0 : (E == 0) = false := beq_eq_false_iff_ne.2 (by omega)
  have ew : IntKind.i64.wrap (E - 1) = (D : Int) := by rw [IntWalk.i64_in _ (by omega)]; omega
  clear hE
  go_enter Try.func27, Try.ntmps27
  go_wp2_with fail
  refine (cOnce 4 C0 (by omega)).mono ?_; rintro e w1 ⟨⟨bo, rfl⟩, C1, G1⟩
  have R1 := R0.gro G1
  replace G1 := G0.trans G1
  clear R0 C0 G0
  cases bo
  case true =>
    go_wp2_with fail
    refine (dLeaf8 B g U _ C1).mono ?_; rintro e w9 ⟨zk, zn, zs, kids, A, c, U9, rfl, E9⟩
    have R9 := R1.gro E9.2.2.2
    have pc0 := R9.cell
    have pf0 := R9.frozen
    go_wp2_with fail
    exact bodyPost_ret (res_cell1 rfl _ _ _ _ _ _ rfl ((((R9.1.set_ 0 _).set_ 1 _).set_ 2 _).set_ 3 _) Try.underlying26 (by kernel_rfl)) rfl ⟨zk, zn, zs, kids, A, c, U9, rfl, ((((E9.trans G1 (nE_pos _)).setb R9.2 hr _ _).setb R9.2 hr _ _).setb R9.2 hr _ _).setb R9.2 hr _ _⟩
  go_wp2_with fail
  refine (cInt w1.heap.size 16 [6, 6, 6, 6, 4, 5, 7, 8, 9, 10, 11, 12, 13, 16, 17, 18] (C1.alloc _) rfl (by omega) (by omega) (Blk.new w1 _ _) (by have := C1.lt; omega)).mono ?_; rintro e w2 ⟨⟨k, rfl, hz⟩, C2, G2⟩
  have hk := (show ∀ z ∈ ([6, 6, 6, 6, 4, 5, 7, 8, 9, 10, 11, 12, 13, 16, 17, 18] : List Int), z = 6 ∨ z = 4 ∨ z = 5 ∨ z = 7 ∨ z = 8 ∨ z = 9 ∨ z = 10 ∨ z = 11 ∨ z = 12 ∨ z = 13 ∨ z = 16 ∨ z = 17 ∨ z = 18 by decide) k hz
  have R2 := (R1.alloc _).gro G2
  replace G2 := (G1.alloc _).trans G2
  clear hz R1 G1 C1
  go_upto_block 0 with fail
  have Rb := Bx.new C2 26 #[.int .i64 k, .int .i64 0, .string ⟨#[]⟩, .slice none 0 0]
  have R := R2.alloc (.cells #[.int .i64 k, .int .i64 0, .string ⟨#[]⟩, .slice none 0 0] 26)
  have C := C2.alloc (.cells #[.int .i64 k, .int .i64 0, .string ⟨#[]⟩, .slice none 0 0] 26)
  have G := G2.alloc (.cells #[.int .i64 k, .int .i64 0, .string ⟨#[]⟩, .slice none 0 0] 26)
  have hrb0 := R2.lt
  generalize w2.alloc (.cells #[.int .i64 k, .int .i64 0, .string ⟨#[]⟩, .slice none 0 0] 26) = w4 at Rb R C G ⊢
  generalize w2.heap.size = rb at Rb hrb0 ⊢
  clear R2 G2 C2
  go_cut [7] from 23 to 57 (fun n wx => ∃ (N : Nat) (s : ByteArray), n = .int .i64 N ∧ N ≤ 3 ∧ Cu B g U wx ∧ Gro g U w U wx ∧ Bx g U wx w.heap.size 26 #[.int .i64 0, .int .i64 0, .string ⟨#[]⟩, .slice none 0 0] ∧ Bx g U wx rb 26 #[.int .i64 k, .int .i64 0, .string s, .slice none 0 0])
  case first =>
    rcases hk with rfl | rfl | rfl | rfl | rfl | rfl | rfl | rfl | rfl | rfl | rfl | rfl | rfl
    · go_wp2_with fail
      refine (sOps8 _).mono ?_; rintro e w6 ⟨rfl, hb6, b6⟩
      go_wp2_with fail
      refine (cStr w4.heap.size 14 opsL (C.below b6) rfl (by omega) (by omega) hb6 (by have := C.lt; omega)).mono ?_; rintro e w5 ⟨⟨z, rfl, _⟩, C5, G5⟩
      have Rb5 := (Rb.below b6).gro G5
      have R5 := (R.below b6).gro G5
      replace G5 := (G.below b6).trans G5
      have pc0 := Rb5.cell
      have pf0 := Rb5.frozen
      go_wp2_with fail
      go_meet
      have Q := Rb5.set_ 2 (.string z)
      simp only [List.setIfInBounds_toArray, List.set_cons_succ, List.set_cons_zero] at Q
      exact ⟨2, z, rfl, by omega, C5.setb Rb5.2.2 _, G5.setb (by omega) _, R5.far (by omega) _, Q⟩
    · go_wp2_with fail
      refine (cStr w4.heap.size 2 [⟨#[116]⟩, ⟨#[117]⟩] (C.alloc _) rfl (by omega) (by omega) (Blk.new w4 _ _) (by have := C.lt; omega)).mono ?_; rintro e w5 ⟨⟨z, rfl, _⟩, C5, G5⟩
      have Rb5 := (Rb.alloc _).gro G5
      have R5 := (R.alloc _).gro G5
      replace G5 := (G.alloc _).trans G5
      have pc0 := Rb5.cell
      have pf0 := Rb5.frozen
      go_wp2_with fail
      go_meet
      have Q := Rb5.set_ 2 (.string z)
      simp only [List.setIfInBounds_toArray, List.set_cons_succ, List.set_cons_zero] at Q
      exact ⟨1, z, rfl, by omega, C5.setb Rb5.2.2 _, G5.setb (by omega) _, R5.far (by omega) _, Q⟩
    · go_wp2_with fail
      go_meet
      exact ⟨1, ⟨#[]⟩, rfl, by omega, C, G, R, Rb⟩
    · go_wp2_with fail
      go_meet
      exact ⟨1, ⟨#[]⟩, rfl, by omega, C, G, R, Rb⟩
    · go_wp2_with fail
      go_meet
      exact ⟨1, ⟨#[]⟩, rfl, by omega, C, G, R, Rb⟩
    · go_wp2_with fail
      refine (cStr w4.heap.size 2 [⟨#[116]⟩, ⟨#[117]⟩] (C.alloc _) rfl (by omega) (by omega) (Blk.new w4 _ _) (by have := C.lt; omega)).mono ?_; rintro e w5 ⟨⟨z, rfl, _⟩, C5, G5⟩
      have Rb5 := (Rb.alloc _).gro G5
      have R5 := (R.alloc _).gro G5
      replace G5 := (G.alloc _).trans G5
      have pc0 := Rb5.cell
      have pf0 := Rb5.frozen
      go_wp2_with fail
      go_meet
      have Q := Rb5.set_ 2 (.string z)
      simp only [List.setIfInBounds_toArray, List.set_cons_succ, List.set_cons_zero] at Q
      exact ⟨1, z, rfl, by omega, C5.setb Rb5.2.2 _, G5.setb (by omega) _, R5.far (by omega) _, Q⟩
    · go_wp2_with fail
      refine (dRexText8 B g U _ C).mono ?_; rintro e w5 ⟨⟨z, rfl, _⟩, C5, G5⟩
      have Rb5 := Rb.gro G5
      have R5 := R.gro G5
      replace G5 := G.trans G5
      have pc0 := Rb5.cell
      have pf0 := Rb5.frozen
      go_wp2_with fail
      go_meet
      have Q := Rb5.set_ 2 (.string z)
      simp only [List.setIfInBounds_toArray, List.set_cons_succ, List.set_cons_zero] at Q
      exact ⟨1, z, rfl, by omega, C5.setb Rb5.2.2 _, G5.setb (by omega) _, R5.far (by omega) _, Q⟩
    · go_wp2_with fail
      refine (cStr w4.heap.size 2 [⟨#[102]⟩, ⟨#[103]⟩] (C.alloc _) rfl (by omega) (by omega) (Blk.new w4 _ _) (by have := C.lt; omega)).mono ?_; rintro e w5 ⟨⟨z, rfl, _⟩, C5, G5⟩
      have Rb5 := (Rb.alloc _).gro G5
      have R5 := (R.alloc _).gro G5
      replace G5 := (G.alloc _).trans G5
      have pc0 := Rb5.cell
      have pf0 := Rb5.frozen
      go_wp2_with fail
      have Rb6 := Rb5.set_ 2 (.string z)
      simp only [List.setIfInBounds_toArray, List.set_cons_succ, List.set_cons_zero] at Rb6
      refine (cBelow 3 (C5.setb Rb5.2.2 _) (by omega)).mono ?_; rintro e w7 ⟨⟨x, rfl, hx0, hx1, _⟩, C7, G7⟩
      have hx2 := hx1 (by omega)
      obtain ⟨N, rfl⟩ := Int.eq_ofNat_of_zero_le hx0
      clear hx0 hx1
      have Rb7 := Rb6.gro G7
      have R7 := (R5.far (b := rb) (j := 2) (by omega) (.string z)).gro G7
      replace G7 := (G5.setb (b := rb) (j := 2) (by omega) (.string z)).trans G7
      go_wp2_with fail
      go_meet
      exact ⟨N, z, rfl, by omega, C7, G7, R7, Rb7⟩
    · go_wp2_with fail
      go_meet
      exact ⟨1, ⟨#[]⟩, rfl, by omega, C, G, R, Rb⟩
    · go_wp2_with fail
      go_meet
      exact ⟨3, ⟨#[]⟩, rfl, by omega, C, G, R, Rb⟩
    · go_wp2_with fail
      go_meet
      exact ⟨2, ⟨#[]⟩, rfl, by omega, C, G, R, Rb⟩
    · go_wp2_with fail
      go_meet
      exact ⟨1, ⟨#[]⟩, rfl, by omega, C, G, R, Rb⟩
    · go_wp2_with fail
      refine (dRexText8 B g U _ C).mono ?_; rintro e w5 ⟨⟨z, rfl, _⟩, C5, G5⟩
      have Rb5 := Rb.gro G5
      have R5 := R.gro G5
      replace G5 := G.trans G5
      have pc0 := Rb5.cell
      have pf0 := Rb5.frozen
      go_wp2_with fail
      go_meet
      have Q := Rb5.set_ 2 (.string z)
      simp only [List.setIfInBounds_toArray, List.set_cons_succ, List.set_cons_zero] at Q
      exact ⟨2, z, rfl, by omega, C5.setb Rb5.2.2 _, G5.setb (by omega) _, R5.far (by omega) _, Q⟩
  case rest =>
    clear Rb R C G hk
    obtain ⟨N, s, rfl, hN, C, G, R, Rb⟩ := hcut
    go_wp2_with fail
    go_loopw [8] (fun i wr => ∃ (q : Nat) (L : List ((Int × Int × ByteArray) × Fr (Int × Int × ByteArray))) (l : List ((Int × Int × ByteArray) × Value)) (v : Value) (U1 : Nat → Prop), q ≤ N ∧ i = .int .i64 q ∧ Bx g U1 wr rb 26 #[.int .i64 k, .int .i64 0, .string s, v] ∧ Bx g U1 wr w.heap.size 26 #[.int .i64 0, .int .i64 0, .string ⟨#[]⟩, .slice none 0 0] ∧ Rw g U1 wr (rb + 1) 26 4 v l.length (flat (rC exprC) l) ∧ Fit exprC wr U1 L l ∧ L.length = q ∧ (∀ x ∈ L, x.2.size ≤ nE D) ∧ Cu B g U1 wr ∧ Gro g U w U1 wr) (fun i _ => N - (intOf i).toNat)
    case atStart => exact ⟨0, [], [], .slice none 0 0, U, Nat.zero_le _, rfl, Rb, R, Rw.nil (by have := Rb.2.2; omega), Fit.nil _ _ _, rfl, fun x hx => (by cases hx), C, G⟩
    case round =>
      clear Rb R C G
      obtain ⟨q, L, l, v, U1, hq, rfl, Rb, R, O, F, hLq0, hL, C, G⟩ := hrel
      obtain ⟨Av, cv, rfl⟩ := O.form
      have hLq := Lib.hid hLq0
      have hll : l.length ≤ 3 := by rw [F.1, hLq0]; omega
      clear hLq0
      by_cases hlt : q < N
      · have hlt' : (q : Int) < (N : Int) := by omega
        go_upto_region 28 with fail
        refine wp_region_any (by kernel_rfl) ?_
        change wpAny _ _ _ _ _ _ _ (World.drew _)
        have bd := (Below.refl wr.heap.size wr).drew
        replace F := F.below C bd
        replace O := O.below bd
        replace Rb := Rb.below bd
        replace R := R.below bd
        replace G := G.below bd
        replace C := C.below bd
        clear bd
        generalize wr.drew = wd at F O Rb R G C ⊢
        refine wpAny_take (i := 0) (oi := ⟨some 63, _, _, _, _, _⟩) (v := ?_) rfl (by kernel_rfl) (by kernel_rfl) (by kernel_rfl) (fun _ _ _ h => h) (Or.inl ⟨by rfl, ?_⟩) ?_
        case refine_2 => (intro w; go_simp; first | done | with_reducible rfl)
        simp only [Act.put, List.setIfInBounds_toArray, List.set_cons_zero, List.set_cons_succ]
        refine wpAny_take (i := 2) (oi := ⟨some 65, _, _, _, _, _⟩) (v := ?_) rfl (by kernel_rfl) (by kernel_rfl) (by kernel_rfl) (fun _ _ _ h => h) (Or.inl ⟨by rfl, ?_⟩) ?_
        case refine_2 => (intro w; go_simp; first | done | with_reducible rfl)
        simp only [Act.put, List.setIfInBounds_toArray, List.set_cons_zero, List.set_cons_succ]
        refine wpAny_take (i := 3) (oi := ⟨some 66, _, _, _, _, _⟩) (v := ?_) rfl (by kernel_rfl) (by kernel_rfl) (by kernel_rfl) (fun _ _ _ h => h) (Or.inl ⟨by rfl, ?_⟩) ?_
        case refine_2 => (intro w; go_simp; first | done | with_reducible rfl)
        simp only [Act.put, List.setIfInBounds_toArray, List.set_cons_zero, List.set_cons_succ]
        refine wpAny_take (i := 4) (oi := ⟨some 67, _, _, _, _, _⟩) (v := ?_) rfl (by kernel_rfl) (by kernel_rfl) (by kernel_rfl) (fun _ _ _ h => h) (Or.inl ⟨by rfl, ?_⟩) ?_
        case refine_2 => (intro w; go_simp; first | done | with_reducible rfl)
        simp only [Act.put, List.setIfInBounds_toArray, List.set_cons_zero, List.set_cons_succ]
        refine wpAny_ready (rs := [1, 5]) (by kernel_rfl) (by simp) ?_
        refine AllReady.cons (o := ⟨some 64, _, _, _, _, _⟩) rfl (fun K hK => ?_) (AllReady.cons (o := ⟨some 68, _, _, _, _, _⟩) rfl (fun K hK => ?_) AllReady.nil)
        · have pc0 := Rb.cell
          have pf0 := Rb.frozen
          try have pc1 := (Rb.alloc (.cells #[.int .i64 y, .int .i64 yn, .string ys, .slice Ay ky.len cy] 26)).cell
          try have pf1 := (Rb.alloc (.cells #[.int .i64 y, .int .i64 yn, .string ys, .slice Ay ky.len cy] 26)).frozen
          go_simp
          go_wp2_with fail
          clear pc0 pf0
          try clear pc1 pf1
          try (refine hK _ _ ?_; clear hK K)
          try simp only [Act.put, List.setIfInBounds_toArray, List.set_cons_zero, List.set_cons_succ]
          refine wpAny_ready (rs := [5]) (by kernel_rfl) (by simp) ?_
          refine AllReady.cons (o := ⟨some 68, _, _, _, _, _⟩) rfl (fun K hK => ?_) AllReady.nil
          go_simp
          refine (IH.out _ _ C).mono ?_; rintro e w5 ⟨y, yn, ys, ky, Ay, cy, U5, rfl, hky, hSy, C5, G5⟩
          replace Rb := Rb.gro G5
          replace R := R.gro G5
          replace O := O.gro G5
          replace F := F.gro C G5
          replace G := G.trans G5
          clear C
          have C := C5
          clear C5
          go_wp2_with fail
          try (refine hK _ _ ?_; clear hK K)
          try simp only [Act.put, List.setIfInBounds_toArray, List.set_cons_zero, List.set_cons_succ]
          refine wpAny_ready (rs := [6]) (by kernel_rfl) (by simp) ?_
          refine AllReady.cons (o := ⟨some 69, _, _, _, _, _⟩) rfl (fun K hK => ?_) AllReady.nil
          go_simp
          go_wp2_with fail
          try (refine hK _ _ ?_; clear hK K)
          try simp only [Act.put, List.setIfInBounds_toArray, List.set_cons_zero, List.set_cons_succ]
          refine wpAny_ready (rs := [7]) (by kernel_rfl) (by simp) ?_
          refine AllReady.cons (o := ⟨some 70, _, _, _, _, _⟩) rfl (fun K hK => ?_) AllReady.nil
          refine step_pushB rfl (.tmp 64) (.tmp 69) 24 rfl (rb + 1) 26 j0 (.agg #[.int .i64 0, .int .i64 0, .string ⟨#[]⟩, .slice none 0 0]) 4 56 Try.underlying24 hj hy0 hy1 hy2 rfl (by decide) (Value.slice Av l.length cv) _ _ rfl O.1 [.int .i64 y, .int .i64 yn, .string ys, .slice Ay ky.len cy] rfl rfl rfl (by omega) (by omega) (by have := Rb.lt; omega) ?_
          intro v' w7 hO7 hg7 hv7
          obtain ⟨A7, c7, rfl⟩ := (Row.mk hO7).form
          have hb7 := fun k e => (O.lt k e).1
          have F7 := (F.snoc (a := (y, yn, ys)) (c := cy) hSy).row C hg7 O.2.1
          have Rb7 := Rb.row hg7 (fun e => by have := hb7 _ e.symm; omega)
          have R7 := R.row hg7 (fun e => by have := hb7 _ e.symm; omega)
          have hgr := Rb.2.2
          have G7 := G.row hg7 (fun k e => by have := hb7 k e; omega)
          have O7 := O.push C hO7 hv7
          have C7 := C.row hg7 (fun k e => by have := hb7 k e; omega)
          try (refine hK _ _ ?_; clear hK K)
          try simp only [Act.put, List.setIfInBounds_toArray, List.set_cons_zero, List.set_cons_succ]
          refine wpAny_take (i := 8) (oi := ⟨some 71, _, _, _, _, _⟩) (v := ?_) rfl (by kernel_rfl) (by kernel_rfl) (by kernel_rfl) (fun _ _ _ h => h) (Or.inl ⟨by rfl, ?_⟩) ?_
          case refine_2 => (intro w; go_simp; first | done | with_reducible rfl)
          simp only [Act.put, List.setIfInBounds_toArray, List.set_cons_zero, List.set_cons_succ]
          refine wpAny_ready (rs := [9]) (by kernel_rfl) (by simp) ?_
          refine AllReady.cons (o := ⟨none, _, _, _, _, _⟩) rfl (fun K hK => ?_) AllReady.nil
          have pc0 := Rb7.cell
          have pf0 := Rb7.frozen
          go_simp
          go_wp2_with fail
          clear pc0 pf0
          try (refine hK _ _ ?_; clear hK K)
          try simp only [Act.put, List.setIfInBounds_toArray, List.set_cons_zero, List.set_cons_succ]
          refine wpAny_done (by kernel_rfl) ?_ _
          go_wp2_with fail
          have O8 : Rw g U5 w7 (rb + 1) 26 4 (Value.slice A7 (l.length + 1) c7) (l ++ [((y, yn, ys), Value.slice Ay ky.len cy)]).length (flat (rC exprC) (l ++ [((y, yn, ys), Value.slice Ay ky.len cy)])) := by
            rw [List.length_append, ← flat_snoc]
            exact O7
          have Rb8 := Rb7.set_ 3 (Value.slice A7 (l.length + 1) c7)
          simp only [List.setIfInBounds_toArray, List.set_cons_succ, List.set_cons_zero] at Rb8
          go_roundw
          case rel => exact ⟨q + 1, _, _, _, U5, by omega, by go_num, Rb8, R7.far (by omega) _, O8.setl (Nat.lt_succ_self _) _, F7.setb Rb7.2.1 _, by rw [List.length_append, hLq.out]; rfl, fun x hx => by rcases List.mem_append.1 hx with h | h; exact hL x h; (rw [List.mem_singleton.1 h]; exact hky), C7.setb Rb7.2.2 _, G7.setb (by omega) _⟩
          case measure => (simp [intOf] <;> omega)
        · go_simp
          refine (IH.out _ _ C).mono ?_; rintro e w5 ⟨y, yn, ys, ky, Ay, cy, U5, rfl, hky, hSy, C5, G5⟩
          replace Rb := Rb.gro G5
          replace R := R.gro G5
          replace O := O.gro G5
          replace F := F.gro C G5
          replace G := G.trans G5
          clear C
          have C := C5
          clear C5
          go_wp2_with fail
          try (refine hK _ _ ?_; clear hK K)
          try simp only [Act.put, List.setIfInBounds_toArray, List.set_cons_zero, List.set_cons_succ]
          refine wpAny_ready (rs := [1, 6]) (by kernel_rfl) (by simp) ?_
          refine AllReady.cons (o := ⟨some 64, _, _, _, _, _⟩) rfl (fun K hK => ?_) (AllReady.cons (o := ⟨some 69, _, _, _, _, _⟩) rfl (fun K hK => ?_) AllReady.nil)
          · have pc0 := Rb.cell
            have pf0 := Rb.frozen
            try have pc1 := (Rb.alloc (.cells #[.int .i64 y, .int .i64 yn, .string ys, .slice Ay ky.len cy] 26)).cell
            try have pf1 := (Rb.alloc (.cells #[.int .i64 y, .int .i64 yn, .string ys, .slice Ay ky.len cy] 26)).frozen
            go_simp
            go_wp2_with fail
            clear pc0 pf0
            try clear pc1 pf1
            try (refine hK _ _ ?_; clear hK K)
            try simp only [Act.put, List.setIfInBounds_toArray, List.set_cons_zero, List.set_cons_succ]
            refine wpAny_ready (rs := [6]) (by kernel_rfl) (by simp) ?_
            refine AllReady.cons (o := ⟨some 69, _, _, _, _, _⟩) rfl (fun K hK => ?_) AllReady.nil
            go_simp
            go_wp2_with fail
            try (refine hK _ _ ?_; clear hK K)
            try simp only [Act.put, List.setIfInBounds_toArray, List.set_cons_zero, List.set_cons_succ]
            refine wpAny_ready (rs := [7]) (by kernel_rfl) (by simp) ?_
            refine AllReady.cons (o := ⟨some 70, _, _, _, _, _⟩) rfl (fun K hK => ?_) AllReady.nil
            refine step_pushB rfl (.tmp 64) (.tmp 69) 24 rfl (rb + 1) 26 j0 (.agg #[.int .i64 0, .int .i64 0, .string ⟨#[]⟩, .slice none 0 0]) 4 56 Try.underlying24 hj hy0 hy1 hy2 rfl (by decide) (Value.slice Av l.length cv) _ _ rfl O.1 [.int .i64 y, .int .i64 yn, .string ys, .slice Ay ky.len cy] rfl rfl rfl (by omega) (by omega) (by have := Rb.lt; omega) ?_
            intro v' w7 hO7 hg7 hv7
            obtain ⟨A7, c7, rfl⟩ := (Row.mk hO7).form
            have hb7 := fun k e => (O.lt k e).1
            have F7 := (F.snoc (a := (y, yn, ys)) (c := cy) hSy).row C hg7 O.2.1
            have Rb7 := Rb.row hg7 (fun e => by have := hb7 _ e.symm; omega)
            have R7 := R.row hg7 (fun e => by have := hb7 _ e.symm; omega)
            have hgr := Rb.2.2
            have G7 := G.row hg7 (fun k e => by have := hb7 k e; omega)
            have O7 := O.push C hO7 hv7
            have C7 := C.row hg7 (fun k e => by have := hb7 k e; omega)
            try (refine hK _ _ ?_; clear hK K)
            try simp only [Act.put, List.setIfInBounds_toArray, List.set_cons_zero, List.set_cons_succ]
            refine wpAny_take (i := 8) (oi := ⟨some 71, _, _, _, _, _⟩) (v := ?_) rfl (by kernel_rfl) (by kernel_rfl) (by kernel_rfl) (fun _ _ _ h => h) (Or.inl ⟨by rfl, ?_⟩) ?_
            case refine_2 => (intro w; go_simp; first | done | with_reducible rfl)
            simp only [Act.put, List.setIfInBounds_toArray, List.set_cons_zero, List.set_cons_succ]
            refine wpAny_ready (rs := [9]) (by kernel_rfl) (by simp) ?_
            refine AllReady.cons (o := ⟨none, _, _, _, _, _⟩) rfl (fun K hK => ?_) AllReady.nil
            have pc0 := Rb7.cell
            have pf0 := Rb7.frozen
            go_simp
            go_wp2_with fail
            clear pc0 pf0
            try (refine hK _ _ ?_; clear hK K)
            try simp only [Act.put, List.setIfInBounds_toArray, List.set_cons_zero, List.set_cons_succ]
            refine wpAny_done (by kernel_rfl) ?_ _
            go_wp2_with fail
            have O8 : Rw g U5 w7 (rb + 1) 26 4 (Value.slice A7 (l.length + 1) c7) (l ++ [((y, yn, ys), Value.slice Ay ky.len cy)]).length (flat (rC exprC) (l ++ [((y, yn, ys), Value.slice Ay ky.len cy)])) := by
              rw [List.length_append, ← flat_snoc]
              exact O7
            have Rb8 := Rb7.set_ 3 (Value.slice A7 (l.length + 1) c7)
            simp only [List.setIfInBounds_toArray, List.set_cons_succ, List.set_cons_zero] at Rb8
            go_roundw
            case rel => exact ⟨q + 1, _, _, _, U5, by omega, by go_num, Rb8, R7.far (by omega) _, O8.setl (Nat.lt_succ_self _) _, F7.setb Rb7.2.1 _, by rw [List.length_append, hLq.out]; rfl, fun x hx => by rcases List.mem_append.1 hx with h | h; exact hL x h; (rw [List.mem_singleton.1 h]; exact hky), C7.setb Rb7.2.2 _, G7.setb (by omega) _⟩
            case measure => (simp [intOf] <;> omega)
          · go_simp
            go_wp2_with fail
            try (refine hK _ _ ?_; clear hK K)
            try simp only [Act.put, List.setIfInBounds_toArray, List.set_cons_zero, List.set_cons_succ]
            refine wpAny_ready (rs := [1]) (by kernel_rfl) (by simp) ?_
            refine AllReady.cons (o := ⟨some 64, _, _, _, _, _⟩) rfl (fun K hK => ?_) AllReady.nil
            have pc0 := Rb.cell
            have pf0 := Rb.frozen
            try have pc1 := (Rb.alloc (.cells #[.int .i64 y, .int .i64 yn, .string ys, .slice Ay ky.len cy] 26)).cell
            try have pf1 := (Rb.alloc (.cells #[.int .i64 y, .int .i64 yn, .string ys, .slice Ay ky.len cy] 26)).frozen
            go_simp
            go_wp2_with fail
            clear pc0 pf0
            try clear pc1 pf1
            try (refine hK _ _ ?_; clear hK K)
            try simp only [Act.put, List.setIfInBounds_toArray, List.set_cons_zero, List.set_cons_succ]
            refine wpAny_ready (rs := [7]) (by kernel_rfl) (by simp) ?_
            refine AllReady.cons (o := ⟨some 70, _, _, _, _, _⟩) rfl (fun K hK => ?_) AllReady.nil
            refine step_pushB rfl (.tmp 64) (.tmp 69) 24 rfl (rb + 1) 26 j0 (.agg #[.int .i64 0, .int .i64 0, .string ⟨#[]⟩, .slice none 0 0]) 4 56 Try.underlying24 hj hy0 hy1 hy2 rfl (by decide) (Value.slice Av l.length cv) _ _ rfl O.1 [.int .i64 y, .int .i64 yn, .string ys, .slice Ay ky.len cy] rfl rfl rfl (by omega) (by omega) (by have := Rb.lt; omega) ?_
            intro v' w7 hO7 hg7 hv7
            obtain ⟨A7, c7, rfl⟩ := (Row.mk hO7).form
            have hb7 := fun k e => (O.lt k e).1
            have F7 := (F.snoc (a := (y, yn, ys)) (c := cy) hSy).row C hg7 O.2.1
            have Rb7 := Rb.row hg7 (fun e => by have := hb7 _ e.symm; omega)
            have R7 := R.row hg7 (fun e => by have := hb7 _ e.symm; omega)
            have hgr := Rb.2.2
            have G7 := G.row hg7 (fun k e => by have := hb7 k e; omega)
            have O7 := O.push C hO7 hv7
            have C7 := C.row hg7 (fun k e => by have := hb7 k e; omega)
            try (refine hK _ _ ?_; clear hK K)
            try simp only [Act.put, List.setIfInBounds_toArray, List.set_cons_zero, List.set_cons_succ]
            refine wpAny_take (i := 8) (oi := ⟨some 71, _, _, _, _, _⟩) (v := ?_) rfl (by kernel_rfl) (by kernel_rfl) (by kernel_rfl) (fun _ _ _ h => h) (Or.inl ⟨by rfl, ?_⟩) ?_
            case refine_2 => (intro w; go_simp; first | done | with_reducible rfl)
            simp only [Act.put, List.setIfInBounds_toArray, List.set_cons_zero, List.set_cons_succ]
            refine wpAny_ready (rs := [9]) (by kernel_rfl) (by simp) ?_
            refine AllReady.cons (o := ⟨none, _, _, _, _, _⟩) rfl (fun K hK => ?_) AllReady.nil
            have pc0 := Rb7.cell
            have pf0 := Rb7.frozen
            go_simp
            go_wp2_with fail
            clear pc0 pf0
            try (refine hK _ _ ?_; clear hK K)
            try simp only [Act.put, List.setIfInBounds_toArray, List.set_cons_zero, List.set_cons_succ]
            refine wpAny_done (by kernel_rfl) ?_ _
            go_wp2_with fail
            have O8 : Rw g U5 w7 (rb + 1) 26 4 (Value.slice A7 (l.length + 1) c7) (l ++ [((y, yn, ys), Value.slice Ay ky.len cy)]).length (flat (rC exprC) (l ++ [((y, yn, ys), Value.slice Ay ky.len cy)])) := by
              rw [List.length_append, ← flat_snoc]
              exact O7
            have Rb8 := Rb7.set_ 3 (Value.slice A7 (l.length + 1) c7)
            simp only [List.setIfInBounds_toArray, List.set_cons_succ, List.set_cons_zero] at Rb8
            go_roundw
            case rel => exact ⟨q + 1, _, _, _, U5, by omega, by go_num, Rb8, R7.far (by omega) _, O8.setl (Nat.lt_succ_self _) _, F7.setb Rb7.2.1 _, by rw [List.length_append, hLq.out]; rfl, fun x hx => by rcases List.mem_append.1 hx with h | h; exact hL x h; (rw [List.mem_singleton.1 h]; exact hky), C7.setb Rb7.2.2 _, G7.setb (by omega) _⟩
            case measure => (simp [intOf] <;> omega)
      · obtain rfl : q = N := by omega
        have hlen := hLq.out
        have HS := Lib.hid (show (mkFr L).size ≤ nE (D + 1) by have h1 := size_mkE L hL; have h2 : L.length * (nE D + 1) ≤ 3 * (nE D + 1) := Nat.mul_le_mul_right _ (by omega); exact Nat.le_trans h1 h2)
        clear hlen hL
        have hO9 := fun k e => (O.lt k e)
        obtain ⟨Aw, cw, hvw, hS⟩ := SlP.of_rw O F
        have R9 := R.freeze (V := fun x => (Value.slice Av l.length cv).ownBlock = some x) (fun e => by have := (hO9 _ e).1; omega)
        have C9 := C.freeze (V := fun x => (Value.slice Av l.length cv).ownBlock = some x) (fun x e => by have h1 := hO9 _ e; have h2 := Rb.2.2; exact ⟨by omega, h1.2⟩)
        have G9 := G.freeze (V := fun x => (Value.slice Av l.length cv).ownBlock = some x) (fun x e => by have := (hO9 _ e).1; omega)
        have E9 : EO (nE (D + 1)) B g U w _ wr Aw (mkFr L) := ⟨HS.out, hS, C9, G9⟩
        rw [hvw] at Rb
        clear hvw hO9
        have pc0 := Rb.cell
        have pf0 := Rb.frozen
        have pc1 := R9.cell
        have pf1 := R9.frozen
        go_wp2_with fail
        exact bodyPost_ret (res_cell1 rfl _ _ _ _ _ _ rfl ((((R9.1.set_ 0 _).set_ 1 _).set_ 2 _).set_ 3 _) Try.underlying26 (by kernel_rfl)) rfl ⟨k, 0, s, mkFr L, Aw, cw, _, rfl, ((((E9).setb R9.2 (Nat.le_refl _) _ _).setb R9.2 (Nat.le_refl _) _ _).setb R9.2 (Nat.le_refl _) _ _).setb R9.2 (Nat.le_refl _) _ _⟩

set_option maxRecDepth 20000 in
theorem dDraw8_zero (B g : Nat) (U : Nat → Prop) (w : World) (hC : Cu B g U w) : Calls Try.prog 27 #[.pointer (some ⟨g, 0, none⟩), .int .i64 ((0 : Nat) : Int)] w fun e w' => REx (nE 0) B g U w e w' := by
  have R0 := Bx.new hC 26 #[.int .i64 0, .int .i64 0, .string ⟨#[]⟩, .slice none 0 0]
  have C0 := hC.alloc (.cells #[.int .i64 0, .int .i64 0, .string ⟨#[]⟩, .slice none 0 0] 26)
  have G0 := (Gro.refl g U w).alloc (.cells #[.int .i64 0, .int .i64 0, .string ⟨#[]⟩, .slice none 0 0] 26)
  have hr := Nat.le_refl w.heap.size
  go_enter Try.func27, Try.ntmps27
  go_wp2_with fail
  refine (dLeaf8 B g U _ C0).mono ?_; rintro e w9 ⟨zk, zn, zs, kids, A, c, U9, rfl, E9⟩
  have R9 := R0.gro E9.2.2.2
  have pc0 := R9.cell
  have pf0 := R9.frozen
  go_wp2_with fail
  exact bodyPost_ret (res_cell1 rfl _ _ _ _ _ _ rfl ((((R9.1.set_ 0 _).set_ 1 _).set_ 2 _).set_ 3 _) Try.underlying26 (by kernel_rfl)) rfl ⟨zk, zn, zs, kids, A, c, U9, rfl, ((((E9.trans G0 (nE_pos _)).setb R9.2 hr _ _).setb R9.2 hr _ _).setb R9.2 hr _ _).setb R9.2 hr _ _⟩
theorem dDraw8 (B g : Nat) : ∀ (D : Nat), D ≤ 5 → ∀ (U : Nat → Prop) w, Cu B g U w → Calls Try.prog 27 #[.pointer (some ⟨g, 0, none⟩), .int .i64 D] w fun e w' => REx (nE D) B g U w e w'
  | 0, _, U, w, hc => dDraw8_zero B g U w hc
  | D + 1, h, U, w, hc => dDraw8_step D (by omega) B g U w hc (dDraw8 B g D (by omega))

end Go.Proofs.Ytalnkdbmbjplpaa
