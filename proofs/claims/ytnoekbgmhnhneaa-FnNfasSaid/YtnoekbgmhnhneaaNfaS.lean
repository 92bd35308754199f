/- Walk over the reference's NfaOk: is a machine right. It has at most 1048576 nodes. -/
import Derived.Test.YtnoekbgmhnhneaaNfaNs
import Derived.Test.YtnoekbgmhnhneaaNfaB
import Derived.Deep.RegionHeld3
namespace Go.Proofs.Ytnoekbgmhnhneaa
open Go.RowKit

set_option maxHeartbeats 4000000 in
theorem sNfaOk (A : Option Addr) (c : Nat) (zs : List (Int × ByteArray × Int × Int)) (w : World) (hR : Reads w w.heap.size 4 A zs.length (flat nodeC zs)) (hx : ∀ z ∈ zs, z.2.1.size ≤ 9223372036854775807) (hn : zs.length ≤ 1048576) : Calls Try.prog 34 #[.agg #[.slice A zs.length c]] w fun e w' => e = .returned (.bool (nfaB zs)) ∧ Below w.heap.size w w' := by
  have B := Blk.new w 30 #[.slice A zs.length c]
  have L0 := bl_alloc (Below.refl w.heap.size w) (.cells #[.slice A zs.length c] 30)
  obtain ⟨R, hRR⟩ : ∃ R, zs.all (nodeB zs.length) = R := ⟨_, rfl⟩
  have hnfa : nfaB zs = (R && (inI zs.length 1 300 && lastB zs)) := by unfold nfaB; rw [hRR]
  rw [hnfa]
  have HR := Lib.hid hRR
  have HX := Lib.hid hx
  clear hRR hx hnfa
  obtain ⟨i, hi⟩ : ∃ i, inI zs.length 1 300 = i := ⟨_, rfl⟩
  obtain ⟨l, hl⟩ : ∃ l, lastB zs = l := ⟨_, rfl⟩
  rw [hi, hl]
  have cI := fun w => sIn zs.length 1 300 w
  rw [hi] at cI
  have CI := Lib.hid cI
  clear cI
  go_enter Try.func34, Try.ntmps34
  go_wp2_with fail
  go_loopw [3] (fun i wr => ∃ k : Nat, k ≤ zs.length ∧ i = .int .i64 k ∧ (zs.drop k).all (nodeB zs.length) = R ∧ Blk wr w.heap.size 30 #[.slice A zs.length c] ∧ Below w.heap.size w wr) (fun i _ => zs.length - (intOf i).toNat)
  case atStart => exact ⟨0, Nat.zero_le _, rfl, by rw [List.drop_zero]; exact HR.out, B, L0⟩
  case round =>
    obtain ⟨k, hk, rfl, hE, hB, hL⟩ := hrel
    have cb := hB.cell
    by_cases hlt : k < zs.length
    · obtain ⟨b, off, rfl, hb, q0, q1, q2, q3⟩ := rd_node (hR.below hL) hlt
      have hlt' : (k : Int) < (zs.length : Int) := by omega
      have hbb : b < wr.drew.heap.size := Nat.lt_of_lt_of_le hb hL.size
      have hz := HX.out _ (List.getElem_mem hlt)
      rw [all_step hlt] at hE
      generalize zs[k] = z at q0 q1 q2 q3 hz hE
      obtain ⟨xk, xs, xa, xb⟩ := z
      have cc := fun w => sNode xk xs xa xb zs.length w (by omega) (by omega) hz
      obtain ⟨v, hv⟩ : ∃ v, nodeB zs.length (xk, xs, xa, xb) = v := ⟨_, rfl⟩
      rw [hv] at cc hE
      have CC := Lib.hid cc
      clear cc hv HR
      cases v
      · have hE' : false = R := hE
        subst hE'
        clear hE
        go_wp2_with fail
        refine wp_region_held_drew (S := (fun x => Blk x w.heap.size 30 #[.slice (some ⟨b, off, none⟩) zs.length c] ∧ x.cell? ⟨b, off + k * 4, none⟩ = some (.int .i64 xk) ∧ x.cell? ⟨b, off + k * 4 + 1, none⟩ = some (.string xs) ∧ x.cell? ⟨b, off + k * 4 + 2, none⟩ = some (.int .i64 xa) ∧ x.cell? ⟨b, off + k * 4 + 3, none⟩ = some (.int .i64 xb))) (by kernel_rfl) ?_ (fun hHeld => ?_)
        · exact ⟨hB.drew, q0, q1, q2, q3⟩
        refine wpAnyH_take (i := 0) (oi := ⟨some 11, _, _, _, _, _⟩) (v := ?_) rfl (by kernel_rfl) (by kernel_rfl) (by kernel_rfl) (fun _ _ _ h => h) (Or.inl ⟨by rfl, ?_⟩) (by assumption) ?_
        case refine_2 => (intro w hSw; obtain ⟨hx1, p0, p1, p2, p3⟩ := hSw; have d1 := hx1.cell; go_simp; first | done | with_reducible rfl)
        simp only [Act.put, List.setIfInBounds_toArray, List.set_cons_zero, List.set_cons_succ]
        refine wpAnyH_take (i := 1) (oi := ⟨some 12, _, _, _, _, _⟩) (v := ?_) rfl (by kernel_rfl) (by kernel_rfl) (by kernel_rfl) (fun _ _ _ h => h) (Or.inl ⟨by rfl, ?_⟩) (by assumption) ?_
        case refine_2 => (intro w hSw; obtain ⟨hx1, p0, p1, p2, p3⟩ := hSw; have d1 := hx1.cell; go_simp; first | done | with_reducible rfl)
        simp only [Act.put, List.setIfInBounds_toArray, List.set_cons_zero, List.set_cons_succ]
        refine wpAnyH_take (i := 2) (oi := ⟨some 13, _, _, _, _, _⟩) (v := ?_) rfl (by kernel_rfl) (by kernel_rfl) (by kernel_rfl) (fun _ _ _ h => h) (Or.inl ⟨by rfl, ?_⟩) (by assumption) ?_
        case refine_2 => (intro w hSw; obtain ⟨hx1, p0, p1, p2, p3⟩ := hSw; have d1 := hx1.cell; go_simp; first | done | with_reducible rfl)
        simp only [Act.put, List.setIfInBounds_toArray, List.set_cons_zero, List.set_cons_succ]
        refine wpAnyH_take (i := 3) (oi := ⟨some 14, _, _, _, _, _⟩) (v := ?_) rfl (by kernel_rfl) (by kernel_rfl) (by kernel_rfl) (fun _ _ _ h => h) (Or.inl ⟨by rfl, ?_⟩) (by assumption) ?_
        case refine_2 => (intro w hSw; obtain ⟨hx1, p0, p1, p2, p3⟩ := hSw; have d1 := hx1.cell; go_simp; first | done | with_reducible rfl)
        simp only [Act.put, List.setIfInBounds_toArray, List.set_cons_zero, List.set_cons_succ]
        refine wpAnyH_take (i := 4) (oi := ⟨some 15, _, _, _, _, _⟩) (v := ?_) rfl (by kernel_rfl) (by kernel_rfl) (by kernel_rfl) (fun _ _ _ h => h) (Or.inl ⟨by rfl, ?_⟩) (by assumption) ?_
        case refine_2 => (intro w hSw; obtain ⟨hx1, p0, p1, p2, p3⟩ := hSw; have d1 := hx1.cell; go_simp; first | done | with_reducible rfl)
        simp only [Act.put, List.setIfInBounds_toArray, List.set_cons_zero, List.set_cons_succ]
        refine wpAnyH_take (i := 5) (oi := ⟨some 16, _, _, _, _, _⟩) (v := ?_) rfl (by kernel_rfl) (by kernel_rfl) (by kernel_rfl) (fun _ _ _ h => h) (Or.inl ⟨by rfl, ?_⟩) (by assumption) ?_
        case refine_2 => (intro w hSw; obtain ⟨hx1, p0, p1, p2, p3⟩ := hSw; have d1 := hx1.cell; go_simp; first | done | with_reducible rfl)
        simp only [Act.put, List.setIfInBounds_toArray, List.set_cons_zero, List.set_cons_succ]
        refine wpAnyH_take (i := 6) (oi := ⟨some 17, _, _, _, _, _⟩) (v := ?_) rfl (by kernel_rfl) (by kernel_rfl) (by kernel_rfl) (fun _ _ _ h => h) (Or.inl ⟨by rfl, ?_⟩) (by assumption) ?_
        case refine_2 => (intro w hSw; obtain ⟨hx1, p0, p1, p2, p3⟩ := hSw; have d1 := hx1.cell; go_simp; first | done | with_reducible rfl)
        simp only [Act.put, List.setIfInBounds_toArray, List.set_cons_zero, List.set_cons_succ]
        refine wpAnyH_take (i := 7) (oi := ⟨some 18, _, _, _, _, _⟩) (v := ?_) rfl (by kernel_rfl) (by kernel_rfl) (by kernel_rfl) (fun _ _ _ h => h) (Or.inl ⟨by rfl, ?_⟩) (by assumption) ?_
        case refine_2 => (intro w hSw; obtain ⟨hx1, p0, p1, p2, p3⟩ := hSw; have d1 := hx1.cell; go_simp; first | done | with_reducible rfl)
        simp only [Act.put, List.setIfInBounds_toArray, List.set_cons_zero, List.set_cons_succ]
        refine wpAnyH_ready (rs := [8]) (by kernel_rfl) (by simp) ?_
        refine AllReadyH.cons (o := ⟨some 19, _, _, _, _, _⟩) rfl (fun K hK => ?_) AllReadyH.nil
        go_simp
        refine (CC.out _).mono ?_; rintro e w1 ⟨rfl, b1⟩
        go_wp2_with fail
        refine hK.out _ _ (⟨hHeld.1.keep b1, (b1.cell hbb).trans hHeld.2.1, (b1.cell hbb).trans hHeld.2.2.1, (b1.cell hbb).trans hHeld.2.2.2.1, (b1.cell hbb).trans hHeld.2.2.2.2⟩) (fun hHeld => ?_)
        clear hK K
        try simp only [Act.put, List.setIfInBounds_toArray, List.set_cons_zero, List.set_cons_succ]
        refine wpAnyH_take (i := 9) (oi := ⟨some 20, _, _, _, _, _⟩) (v := ?_) rfl (by kernel_rfl) (by kernel_rfl) (by kernel_rfl) (fun _ _ _ h => h) (Or.inl ⟨by rfl, ?_⟩) (by assumption) ?_
        case refine_2 => (intro w hSw; obtain ⟨hx1, p0, p1, p2, p3⟩ := hSw; have d1 := hx1.cell; go_simp; first | done | with_reducible rfl)
        simp only [Act.put, List.setIfInBounds_toArray, List.set_cons_zero, List.set_cons_succ]
        refine wpAnyH_done (by kernel_rfl) ?_ _
        go_wp2_with fail
        go_ret
        exact ⟨rfl, bl_trans hL.drew b1⟩
      · rw [Bool.true_and] at hE
        have HE := Lib.hid hE
        clear hE
        go_wp2_with fail
        refine wp_region_held_drew (S := (fun x => Blk x w.heap.size 30 #[.slice (some ⟨b, off, none⟩) zs.length c] ∧ x.cell? ⟨b, off + k * 4, none⟩ = some (.int .i64 xk) ∧ x.cell? ⟨b, off + k * 4 + 1, none⟩ = some (.string xs) ∧ x.cell? ⟨b, off + k * 4 + 2, none⟩ = some (.int .i64 xa) ∧ x.cell? ⟨b, off + k * 4 + 3, none⟩ = some (.int .i64 xb))) (by kernel_rfl) ?_ (fun hHeld => ?_)
        · exact ⟨hB.drew, q0, q1, q2, q3⟩
        refine wpAnyH_take (i := 0) (oi := ⟨some 11, _, _, _, _, _⟩) (v := ?_) rfl (by kernel_rfl) (by kernel_rfl) (by kernel_rfl) (fun _ _ _ h => h) (Or.inl ⟨by rfl, ?_⟩) (by assumption) ?_
        case refine_2 => (intro w hSw; obtain ⟨hx1, p0, p1, p2, p3⟩ := hSw; have d1 := hx1.cell; go_simp; first | done | with_reducible rfl)
        simp only [Act.put, List.setIfInBounds_toArray, List.set_cons_zero, List.set_cons_succ]
        refine wpAnyH_take (i := 1) (oi := ⟨some 12, _, _, _, _, _⟩) (v := ?_) rfl (by kernel_rfl) (by kernel_rfl) (by kernel_rfl) (fun _ _ _ h => h) (Or.inl ⟨by rfl, ?_⟩) (by assumption) ?_
        case refine_2 => (intro w hSw; obtain ⟨hx1, p0, p1, p2, p3⟩ := hSw; have d1 := hx1.cell; go_simp; first | done | with_reducible rfl)
        simp only [Act.put, List.setIfInBounds_toArray, List.set_cons_zero, List.set_cons_succ]
        refine wpAnyH_take (i := 2) (oi := ⟨some 13, _, _, _, _, _⟩) (v := ?_) rfl (by kernel_rfl) (by kernel_rfl) (by kernel_rfl) (fun _ _ _ h => h) (Or.inl ⟨by rfl, ?_⟩) (by assumption) ?_
        case refine_2 => (intro w hSw; obtain ⟨hx1, p0, p1, p2, p3⟩ := hSw; have d1 := hx1.cell; go_simp; first | done | with_reducible rfl)
        simp only [Act.put, List.setIfInBounds_toArray, List.set_cons_zero, List.set_cons_succ]
        refine wpAnyH_take (i := 3) (oi := ⟨some 14, _, _, _, _, _⟩) (v := ?_) rfl (by kernel_rfl) (by kernel_rfl) (by kernel_rfl) (fun _ _ _ h => h) (Or.inl ⟨by rfl, ?_⟩) (by assumption) ?_
        case refine_2 => (intro w hSw; obtain ⟨hx1, p0, p1, p2, p3⟩ := hSw; have d1 := hx1.cell; go_simp; first | done | with_reducible rfl)
        simp only [Act.put, List.setIfInBounds_toArray, List.set_cons_zero, List.set_cons_succ]
        refine wpAnyH_take (i := 4) (oi := ⟨some 15, _, _, _, _, _⟩) (v := ?_) rfl (by kernel_rfl) (by kernel_rfl) (by kernel_rfl) (fun _ _ _ h => h) (Or.inl ⟨by rfl, ?_⟩) (by assumption) ?_
        case refine_2 => (intro w hSw; obtain ⟨hx1, p0, p1, p2, p3⟩ := hSw; have d1 := hx1.cell; go_simp; first | done | with_reducible rfl)
        simp only [Act.put, List.setIfInBounds_toArray, List.set_cons_zero, List.set_cons_succ]
        refine wpAnyH_take (i := 5) (oi := ⟨some 16, _, _, _, _, _⟩) (v := ?_) rfl (by kernel_rfl) (by kernel_rfl) (by kernel_rfl) (fun _ _ _ h => h) (Or.inl ⟨by rfl, ?_⟩) (by assumption) ?_
        case refine_2 => (intro w hSw; obtain ⟨hx1, p0, p1, p2, p3⟩ := hSw; have d1 := hx1.cell; go_simp; first | done | with_reducible rfl)
        simp only [Act.put, List.setIfInBounds_toArray, List.set_cons_zero, List.set_cons_succ]
        refine wpAnyH_take (i := 6) (oi := ⟨some 17, _, _, _, _, _⟩) (v := ?_) rfl (by kernel_rfl) (by kernel_rfl) (by kernel_rfl) (fun _ _ _ h => h) (Or.inl ⟨by rfl, ?_⟩) (by assumption) ?_
        case refine_2 => (intro w hSw; obtain ⟨hx1, p0, p1, p2, p3⟩ := hSw; have d1 := hx1.cell; go_simp; first | done | with_reducible rfl)
        simp only [Act.put, List.setIfInBounds_toArray, List.set_cons_zero, List.set_cons_succ]
        refine wpAnyH_take (i := 7) (oi := ⟨some 18, _, _, _, _, _⟩) (v := ?_) rfl (by kernel_rfl) (by kernel_rfl) (by kernel_rfl) (fun _ _ _ h => h) (Or.inl ⟨by rfl, ?_⟩) (by assumption) ?_
        case refine_2 => (intro w hSw; obtain ⟨hx1, p0, p1, p2, p3⟩ := hSw; have d1 := hx1.cell; go_simp; first | done | with_reducible rfl)
        simp only [Act.put, List.setIfInBounds_toArray, List.set_cons_zero, List.set_cons_succ]
        refine wpAnyH_ready (rs := [8]) (by kernel_rfl) (by simp) ?_
        refine AllReadyH.cons (o := ⟨some 19, _, _, _, _, _⟩) rfl (fun K hK => ?_) AllReadyH.nil
        go_simp
        refine (CC.out _).mono ?_; rintro e w1 ⟨rfl, b1⟩
        go_wp2_with fail
        refine hK.out _ _ (⟨hHeld.1.keep b1, (b1.cell hbb).trans hHeld.2.1, (b1.cell hbb).trans hHeld.2.2.1, (b1.cell hbb).trans hHeld.2.2.2.1, (b1.cell hbb).trans hHeld.2.2.2.2⟩) (fun hHeld => ?_)
        clear hK K
        try simp only [Act.put, List.setIfInBounds_toArray, List.set_cons_zero, List.set_cons_succ]
        refine wpAnyH_take (i := 9) (oi := ⟨some 20, _, _, _, _, _⟩) (v := ?_) rfl (by kernel_rfl) (by kernel_rfl) (by kernel_rfl) (fun _ _ _ h => h) (Or.inl ⟨by rfl, ?_⟩) (by assumption) ?_
        case refine_2 => (intro w hSw; obtain ⟨hx1, p0, p1, p2, p3⟩ := hSw; have d1 := hx1.cell; go_simp; first | done | with_reducible rfl)
        simp only [Act.put, List.setIfInBounds_toArray, List.set_cons_zero, List.set_cons_succ]
        refine wpAnyH_done (by kernel_rfl) ?_ _
        go_wp2_with fail
        go_roundw
        case rel => exact ⟨k + 1, by omega, by go_num, HE.out, hHeld.1, bl_trans hL.drew b1⟩
        case measure => simp [intOf]; omega
    · obtain rfl : k = zs.length := by omega
      rw [List.drop_length] at hE
      have hE' : true = R := hE
      subst hE'
      clear hE HR
      cases i
      · go_wp2_with fail
        refine (CI.out _).mono ?_; rintro e w1 ⟨rfl, rfl⟩
        go_wp2_with fail
        go_ret
        exact ⟨rfl, hL⟩
      · have hlen : 0 < zs.length := by have := inI_iff.1 hi; omega
        obtain ⟨b, off, rfl, hb, q0, q1, q2, q3⟩ := rd_node (hR.below hL) (i := zs.length - 1) (by omega)
        have hl7 := lastB_is hlen
        have e1 : ((zs.length : Int) - 1).toNat = zs.length - 1 := by omega
        have e0 : (0 : Int) ≤ (zs.length : Int) - 1 := by omega
        have e2 : (1 : Int) ≤ zs.length := by omega
        have e3 : 1 ≤ zs.length := hlen
        have ew : IntKind.i64.wrap ((zs.length : Int) - 1) = (zs.length : Int) - 1 := IntWalk.i64_in _ (by omega)
        have e5 : (zs.length : Int) - 1 < zs.length := by omega
        generalize (zs[zs.length - 1]'(by omega)).1 = lk at q0 hl7
        clear q1 q2 q3
        have HL7 := Lib.hid (hl7.symm.trans hl)
        clear hl7 hl hi
        go_wp2_with fail
        refine (CI.out _).mono ?_; rintro e w1 ⟨rfl, rfl⟩
        go_wp2_with fail
        go_ret
        exact ⟨ret_bool (by rw [← HL7.out]; rfl), hL⟩

end Go.Proofs.Ytnoekbgmhnhneaa
