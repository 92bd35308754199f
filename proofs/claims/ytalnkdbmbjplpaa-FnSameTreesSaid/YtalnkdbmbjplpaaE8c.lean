/- Walks over the reference's draws of terms: l8Any. -/
import Derived.Test.YtalnkdbmbjplpaaE8b
namespace Go.Proofs.Ytalnkdbmbjplpaa
open Go.RowKit

set_option maxRecDepth 20000 in
set_option maxHeartbeats 8000000 in
theorem dAny8 (B g : Nat) (U : Nat → Prop) (w : World) (hC : Cu B g U w) :
    Calls Try.prog 15 #[.pointer (some ⟨g, 0, none⟩)] w fun e w' => REx 77 B g U w e w' := by
  have R0 := Bx.new hC 26 #[.int .i64 0, .int .i64 0, .string ⟨#[]⟩, .slice none 0 0]
  have C0 := hC.alloc (.cells #[.int .i64 0, .int .i64 0, .string ⟨#[]⟩, .slice none 0 0] 26)
  have G0 := (Gro.refl g U w).alloc (.cells #[.int .i64 0, .int .i64 0, .string ⟨#[]⟩, .slice none 0 0] 26)
  have hr := Nat.le_refl w.heap.size
  go_enter Try.func15, Try.ntmps15
  go_wp2_with fail
  refine (dDraw8 B g 3 (by omega) U _ C0).mono ?_; rintro e w1 ⟨zk, zn, zs, kids, A, c, U1, rfl, hks, S, C, G⟩
  replace hks : kids.size ≤ 66 := hks
  have R := R0.gro G
  have hrb0 := R.lt
  replace G := G0.trans G
  clear R0 C0 G0
  go_wp2_with fail
  have Rb := Bx.new C 26 #[.int .i64 zk, .int .i64 zn, .string zs, .slice A kids.len c]
  replace R := R.alloc (.cells #[.int .i64 zk, .int .i64 zn, .string zs, .slice A kids.len c] 26)
  replace S := S.alloc C (.cells #[.int .i64 zk, .int .i64 zn, .string zs, .slice A kids.len c] 26)
  replace G := G.alloc (.cells #[.int .i64 zk, .int .i64 zn, .string zs, .slice A kids.len c] 26)
  replace C := C.alloc (.cells #[.int .i64 zk, .int .i64 zn, .string zs, .slice A kids.len c] 26)
  generalize w1.alloc (.cells #[.int .i64 zk, .int .i64 zn, .string zs, .slice A kids.len c] 26) = w3 at Rb R C G S ⊢
  generalize w1.heap.size = rb at Rb hrb0 ⊢
  refine (cBelow 14 C (by omega)).mono ?_; rintro e w4 ⟨⟨x, rfl, hx0, hx1, _⟩, C4, G4⟩
  clear hx0 hx1
  replace Rb := Rb.gro G4
  replace R := R.gro G4
  replace S := S.gro C G4
  replace G := G.trans G4
  clear C
  have C := C4
  clear C4 G4
  go_upto_block 0 with fail
  go_cut [] from 9 to 36 (fun wx => ∃ (zk zn : Int) (zs : ByteArray) (kids : Fr (Int × Int × ByteArray)) (A : Option Addr) (c : Nat) (U1 : Nat → Prop), Cu B g U1 wx ∧ Gro g U w U1 wx ∧ Bx g U1 wx w.heap.size 26 #[.int .i64 0, .int .i64 0, .string ⟨#[]⟩, .slice none 0 0] ∧ Bx g U1 wx rb 26 #[.int .i64 zk, .int .i64 zn, .string zs, .slice A kids.len c] ∧ SlP exprC wx U1 A kids ∧ kids.size  ≤ 77)
  case first =>
    by_cases x0 : x = 0
    · subst x0
      go_wp2_with fail
      refine (cBelow 20 C (by omega)).mono ?_; rintro e w5 ⟨⟨z, rfl, _⟩, C5, G5⟩
      have Rb5 := Rb.gro G5
      have R5 := R.gro G5
      have S5 := S.gro C G5
      replace G5 := G.trans G5
      have pc0 := Rb5.cell
      have pf0 := Rb5.frozen
      go_wp2_with fail
      have Q := Rb5.set_ 0 (.int .i64 z)
      simp only [List.setIfInBounds_toArray, List.set_cons_zero] at Q
      go_meet
      exact ⟨z, zn, zs, kids, A, c, _, C5.setb Rb5.2.2 _, G5.setb (by omega) _, R5.far (by omega) _, Q, S5.setb Rb5.2.1 _, by omega⟩
    have b0 : (x == 0) = false := by simp [x0]
    by_cases x1 : x = 1
    · subst x1
      go_wp2_with fail
      refine (cStr w4.heap.size 6 [⟨#[]⟩, ⟨#[97]⟩, ⟨#[112, 114, 105, 110, 116]⟩, ⟨#[61, 61]⟩, ⟨#[97, 42, 42]⟩, ⟨#[120, 39, 121]⟩] (C.alloc _) rfl (by omega) (by omega) (Blk.new w4 _ _) (by have := C.lt; omega)).mono ?_; rintro e w5 ⟨⟨z, rfl, _⟩, C5, G5⟩
      have Rb5 := (Rb.alloc _).gro G5
      have R5 := (R.alloc _).gro G5
      have S5 := (S.alloc C _).gro (C.alloc _) G5
      replace G5 := (G.alloc _).trans G5
      have pc0 := Rb5.cell
      have pf0 := Rb5.frozen
      go_wp2_with fail
      have Q := Rb5.set_ 2 (.string z)
      simp only [List.setIfInBounds_toArray, List.set_cons_succ, List.set_cons_zero] at Q
      go_meet
      exact ⟨zk, zn, z, kids, A, c, _, C5.setb Rb5.2.2 _, G5.setb (by omega) _, R5.far (by omega) _, Q, S5.setb Rb5.2.1 _, by omega⟩
    have b1 : (x == 1) = false := by simp [x1]
    by_cases x2 : x = 2
    · subst x2
      go_wp2_with fail
      refine (cInt w4.heap.size 3 [-1, 5, 2147483648] (C.alloc _) rfl (by omega) (by omega) (Blk.new w4 _ _) (by have := C.lt; omega)).mono ?_; rintro e w5 ⟨⟨z, rfl, _⟩, C5, G5⟩
      have Rb5 := (Rb.alloc _).gro G5
      have R5 := (R.alloc _).gro G5
      have S5 := (S.alloc C _).gro (C.alloc _) G5
      replace G5 := (G.alloc _).trans G5
      have pc0 := Rb5.cell
      have pf0 := Rb5.frozen
      go_wp2_with fail
      have Q := Rb5.set_ 1 (.int .i64 z)
      simp only [List.setIfInBounds_toArray, List.set_cons_succ, List.set_cons_zero] at Q
      go_meet
      exact ⟨zk, z, zs, kids, A, c, _, C5.setb Rb5.2.2 _, G5.setb (by omega) _, R5.far (by omega) _, Q, S5.setb Rb5.2.1 _, by omega⟩
    have b2 : (x == 2) = false := by simp [x2]
    by_cases x3 : x = 3
    · subst x3
      go_wp2_with fail
      refine (cBelow 12 C (by omega)).mono ?_; rintro e w5 ⟨⟨z, rfl, hz0, hz1, _⟩, C5, G5⟩
      have hz2 := hz1 (by omega)
      obtain ⟨q0, rfl⟩ := Int.eq_ofNat_of_zero_le hz0
      clear hz0 hz1
      have Rb5 := Rb.gro G5
      have R5 := R.gro G5
      have S5 := S.gro C G5
      replace G5 := G.trans G5
      go_wp2_with fail
      go_loopw [4] (fun i wr => ∃ (q : Nat), i = .int .i64 q ∧ q ≤ 11 ∧ ∃ (zk zn : Int) (zs : ByteArray) (kids : Fr (Int × Int × ByteArray)) (A : Option Addr) (c : Nat) (U1 : Nat → Prop), Cu B g U1 wr ∧ Gro g U w U1 wr ∧ Bx g U1 wr w.heap.size 26 #[.int .i64 0, .int .i64 0, .string ⟨#[]⟩, .slice none 0 0] ∧ Bx g U1 wr rb 26 #[.int .i64 zk, .int .i64 zn, .string zs, .slice A kids.len c] ∧ SlP exprC wr U1 A kids ∧ kids.size + q ≤ 77) (fun i _ => (intOf i).toNat)
      case atStart => exact ⟨q0, rfl, by omega, zk, zn, zs, kids, A, c, _, C5, G5, R5, Rb5, S5, by omega⟩
      case round =>
        clear Rb5 R5 S5 G5 C5 Rb R S G C
        obtain ⟨q, rfl, hq, zk, zn, zs, kids, A, c, U1, C, G, R, Rb, S, hks⟩ := hrel
        by_cases h0 : q = 0
        · subst h0
          go_wp2_with fail
          go_meet
          exact ⟨zk, zn, zs, kids, A, c, U1, C, G, R, Rb, S, by omega⟩
        · have hq0 : (0 : Int) < (q : Int) := by omega
          have hqw : IntKind.i64.wrap ((q : Int) - 1) = ((q - 1 : Nat) : Int) := by rw [IntKind.wrap_i64]; omega
          have hrl := Rb.lt
          have pc0 := Rb.cell
          have pf0 := Rb.frozen
          go_wp2_with fail
          clear pc0 pf0
          have X := Bx.new C 26 #[.int .i64 zk, .int .i64 zn, .string zs, .slice A kids.len c]
          replace S := S.alloc C (.cells #[.int .i64 zk, .int .i64 zn, .string zs, .slice A kids.len c] 26)
          replace Rb := Rb.alloc (.cells #[.int .i64 zk, .int .i64 zn, .string zs, .slice A kids.len c] 26)
          replace R := R.alloc (.cells #[.int .i64 zk, .int .i64 zn, .string zs, .slice A kids.len c] 26)
          have hgs := G.sz
          replace G := G.alloc (.cells #[.int .i64 zk, .int .i64 zn, .string zs, .slice A kids.len c] 26)
          replace C := C.alloc (.cells #[.int .i64 zk, .int .i64 zn, .string zs, .slice A kids.len c] 26)
          refine (sOf8 8 (some ⟨wr.heap.size, 0, none⟩) 1 1 _).mono ?_; rintro e w6 ⟨rfl, b6⟩
          replace S := S.below C b6
          replace X := X.below b6
          replace Rb := Rb.below b6
          replace R := R.below b6
          replace G := G.below b6
          replace C := C.below b6
          have E := EO.one (n := 77) ⟨by omega, S, C, G⟩ X hgs
          have hne : ¬ rb = wr.heap.size := by omega
          have hne0 : ¬ w.heap.size = wr.heap.size := by omega
          replace Rb := Rb.freeze (V := fun x => x = wr.heap.size) hne
          replace R := R.freeze (V := fun x => x = wr.heap.size) hne0
          clear S X C G
          have pc0 := Rb.cell
          have pf0 := Rb.frozen
          go_wp2_with fail
          have Q := (((Rb.set_ 0 (.int .i64 8)).set_ 1 (.int .i64 0)).set_ 2 (.string ⟨#[]⟩)).set_ 3 (.slice (some ⟨wr.heap.size, 0, none⟩) 1 1)
          simp only [List.setIfInBounds_toArray, List.set_cons_succ, List.set_cons_zero] at Q
          have T := (((E.setb Rb.2 (by omega) 0 (.int .i64 8)).setb Rb.2 (by omega) 1 (.int .i64 0)).setb Rb.2 (by omega) 2 (.string ⟨#[]⟩)).setb Rb.2 (by omega) 3 (.slice (some ⟨wr.heap.size, 0, none⟩) 1 1)
          go_roundw
          case rel => exact ⟨q - 1, by go_num, by omega, 8, 0, ⟨#[]⟩, .cons (zk, zn, zs) kids .nil, _, 1, _, T.2.2.1, T.2.2.2, (((R.far (by omega) _).far (by omega) _).far (by omega) _).far (by omega) _, Q, T.2.1, by simp only [Fr.size]; omega⟩
          case measure => (simp [intOf] <;> omega)
    have b3 : (x == 3) = false := by simp [x3]
    go_wp2_with fail
    go_meet
    exact ⟨zk, zn, zs, kids, A, c, U1, C, G, R, Rb, S, by omega⟩
  case rest =>
    clear Rb R S C G hks
    obtain ⟨zk, zn, zs, kids, A, c, U1, C, G, R, Rb, S, hks⟩ := hcut
    have pc0 := Rb.cell
    have pf0 := Rb.frozen
    have pc1 := R.cell
    have pf1 := R.frozen
    go_wp2_with fail
    exact bodyPost_ret (res_cell1 rfl _ _ _ _ _ _ rfl ((((R.1.set_ 0 _).set_ 1 _).set_ 2 _).set_ 3 _) Try.underlying26 (by kernel_rfl)) rfl ⟨zk, zn, zs, kids, A, c, U1, rfl, ((((show EO 77 B g U w U1 wc A kids from ⟨hks, S, C, G⟩).setb R.2 hr _ _).setb R.2 hr _ _).setb R.2 hr _ _).setb R.2 hr _ _⟩

end Go.Proofs.Ytalnkdbmbjplpaa
