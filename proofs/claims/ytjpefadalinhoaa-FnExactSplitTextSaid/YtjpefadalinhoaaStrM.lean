/- Walks over the laws' marks on lists of texts: markStringS, heldStringS. Lengths are at most 2 to the 29th. -/
import Derived.Test.YtjpefadalinhoaaStrS
import Derived.Test.YtjpefadalinhoaaMarkText
import Derived.Deep.RegionHeld3
namespace Go.Proofs.Ytjpefadalinhoaa
open Go.RowKit

/-- The texts that marking writes. -/
def marksS (k n : Nat) : List ByteArray := (List.range n).map fun i => mtS (k + i)
theorem marksS_len (k n : Nat) : (marksS k n).length = n := by simp [marksS]
theorem marksS_get (k n j : Nat) (h : j < n) : (marksS k n)[j]'(by rw [marksS_len]; exact h) = mtS (k + j) := by simp [marksS]

set_option maxHeartbeats 1000000 in
theorem markStringS_any (lo hi : Nat) (A : Option Addr) (c k : Nat) (zs : List ByteArray) (w : World) (hO : Row w lo hi 9 1 (.slice A zs.length c) zs.length (sVs zs)) (_hhi : hi ≤ w.heap.size) (hn : zs.length ≤ 536870912) (hk : k ≤ 536870912) :
    Calls Try.prog 17 #[.slice A zs.length c, .int .i64 k] w fun e w' => e = .returned (.int .i64 ((k : Int) + zs.length)) ∧ Row w' lo hi 9 1 (.slice A zs.length c) zs.length (sVs (marksS k zs.length)) ∧ w.grownBy w' (Value.slice A zs.length c).ownBlock := by
  have hn' : (zs.length : Int) ≤ 536870912 := by omega
  have hk' : (k : Int) ≤ 536870912 := by omega
  go_enter Try.func17, Try.ntmps17
  go_wp2_with fail
  go_loopw [1, 5] (fun kv i wr => ∃ j : Nat, j ≤ zs.length ∧ i = .int .i64 j ∧ kv = .int .i64 ((k : Int) + j) ∧ Row wr lo hi 9 1 (.slice A zs.length c) zs.length (sVs (uptoS (marksS k zs.length) zs j)) ∧ w.grownBy wr (Value.slice A zs.length c).ownBlock) (fun _ i _ => zs.length - (intOf i).toNat)
  case atStart => exact ⟨0, Nat.zero_le _, rfl, by simp, by rw [uptoS_zero]; exact hO, gr_refl _ _⟩
  case round =>
    obtain ⟨j, hj, rfl, rfl, hOr, hG⟩ := hrel
    by_cases hlt : j < zs.length
    · have hlt' : (j : Int) < (zs.length : Int) := by omega
      go_wp2_with fail
      have C := markText_any (k + j) wr (by omega)
      rw [show ((k + j : Nat) : Int) = (k : Int) + j by omega] at C
      refine C.mono ?_; rintro e w1 ⟨rfl, b1⟩
      clear C
      have hO1 := hOr.keep b1
      have hG1 := gr_below hG b1
      obtain ⟨g, rfl, hg1, hg2, hc, hf⟩ := own_at hO1.1 hlt
      rw [uptoS_get _ _ j (marksS_len _ _) (by rw [marksS_len]; exact hlt)] at hc
      have HS := Lib.hid (hO1.1.stored j (.string (mtS (k + j)))).1
      have hsucc := uptoS_succ (marksS k zs.length) zs j (marksS_len _ _) (by rw [marksS_len]; exact hlt)
      rw [marksS_get k zs.length j hlt] at hsucc
      rw [hsucc] at HS
      clear hsucc
      generalize zs[j] = y at *
      generalize mtS (k + j) = t at *
      go_wp2_with fail
      go_roundw
      case rel => exact ⟨j + 1, by omega, by go_num, by go_num, ⟨HS.out, hO1.2⟩, gr_set (g := g) (p := ⟨g, j, none⟩) hG1 (.inl rfl) _⟩
      case measure => simp [intOf]; omega
    · obtain rfl : j = zs.length := by omega
      have e : uptoS (marksS k zs.length) zs zs.length = marksS k zs.length := by
        have := uptoS_all (marksS k zs.length) zs (by rw [marksS_len]; omega) (marksS_len _ _)
        rw [marksS_len] at this
        exact this
      rw [e] at hOr
      have H := Lib.hid hOr
      clear hOr e
      go_wp2_with fail
      go_ret
      exact ⟨rfl, H.out, hG⟩

set_option maxHeartbeats 1000000 in
theorem heldStringS_any (A : Option Addr) (c k n : Nat) (w : World) (hR : Reads w w.heap.size 1 A n (sVs (marksS k n))) (hn : n ≤ 536870912) (hk : k ≤ 536870912) :
    Calls Try.prog 18 #[.slice A n c, .int .i64 k] w fun e w' => e = .returned (.int .i64 ((k : Int) + n)) ∧ Below w.heap.size w w' := by
  have hn' : (n : Int) ≤ 536870912 := by omega
  have hk' : (k : Int) ≤ 536870912 := by omega
  go_enter Try.func18, Try.ntmps18
  go_wp2_with fail
  go_loopw [1, 5] (fun kv i wr => ∃ j : Nat, j ≤ n ∧ i = .int .i64 j ∧ kv = .int .i64 ((k : Int) + j) ∧ Below w.heap.size w wr) (fun _ i _ => n - (intOf i).toNat)
  case atStart => exact ⟨0, Nat.zero_le _, rfl, by simp, Below.refl _ _⟩
  case round =>
    obtain ⟨j, hj, rfl, rfl, hL⟩ := hrel
    by_cases hlt : j < n
    · have hR2 := hR.below hL
      have hml := marksS_len k n
      rw [← hml] at hR2
      obtain ⟨b, off, rfl, hb, hcell⟩ := rd_atS (zs := marksS k n) (by simpa [hml] using hR2) (k := j) (by rw [hml]; exact hlt)
      rw [marksS_get k n j hlt] at hcell
      have hlt' : (j : Int) < (n : Int) := by omega
      have hbb : b < wr.drew.heap.size := Nat.lt_of_lt_of_le hb hL.size
      have C := fun w => markText_any (k + j) w (by omega)
      rw [show ((k + j : Nat) : Int) = (k : Int) + j by omega] at C
      have CC := Lib.hid C
      generalize mtS (k + j) = t at hcell C CC
      clear hml hR2 C
      have hs : wr.heap.size = wr.drew.heap.size := rfl
      go_wp2_with fail
      refine wp_region_held_drew (S := (fun x => x.cell? ⟨b, off + j, none⟩ = some (.string t))) (by kernel_rfl) ?_ (fun hHeld => ?_)
      · exact hcell
      refine wpAnyH_take (i := 0) (oi := ⟨some 12, _, _, _, _, _⟩) (v := ?_) rfl (by kernel_rfl) (by kernel_rfl) (by kernel_rfl) (fun _ _ _ h => h) (Or.inl ⟨by rfl, ?_⟩) (by assumption) ?_
      case refine_2 => (intro w hSw; have p := hSw; go_simp; first | done | with_reducible rfl)
      simp only [Act.put, List.setIfInBounds_toArray, List.set_cons_zero, List.set_cons_succ]
      refine wpAnyH_take (i := 1) (oi := ⟨some 13, _, _, _, _, _⟩) (v := ?_) rfl (by kernel_rfl) (by kernel_rfl) (by kernel_rfl) (fun _ _ _ h => h) (Or.inl ⟨by rfl, ?_⟩) (by assumption) ?_
      case refine_2 => (intro w hSw; have p := hSw; go_simp; first | done | with_reducible rfl)
      simp only [Act.put, List.setIfInBounds_toArray, List.set_cons_zero, List.set_cons_succ]
      refine wpAnyH_take (i := 2) (oi := ⟨some 14, _, _, _, _, _⟩) (v := ?_) rfl (by kernel_rfl) (by kernel_rfl) (by kernel_rfl) (fun _ _ _ h => h) (Or.inl ⟨by rfl, ?_⟩) (by assumption) ?_
      case refine_2 => (intro w hSw; have p := hSw; go_simp; first | done | with_reducible rfl)
      simp only [Act.put, List.setIfInBounds_toArray, List.set_cons_zero, List.set_cons_succ]
      refine wpAnyH_take (i := 3) (oi := ⟨some 15, _, _, _, _, _⟩) (v := ?_) rfl (by kernel_rfl) (by kernel_rfl) (by kernel_rfl) (fun _ _ _ h => h) (Or.inl ⟨by rfl, ?_⟩) (by assumption) ?_
      case refine_2 => (intro w hSw; have p := hSw; go_simp; first | done | with_reducible rfl)
      simp only [Act.put, List.setIfInBounds_toArray, List.set_cons_zero, List.set_cons_succ]
      refine wpAnyH_take (i := 4) (oi := ⟨some 16, _, _, _, _, _⟩) (v := ?_) rfl (by kernel_rfl) (by kernel_rfl) (by kernel_rfl) (fun _ _ _ h => h) (Or.inl ⟨by rfl, ?_⟩) (by assumption) ?_
      case refine_2 => (intro w hSw; have p := hSw; go_simp; first | done | with_reducible rfl)
      simp only [Act.put, List.setIfInBounds_toArray, List.set_cons_zero, List.set_cons_succ]
      refine wpAnyH_ready (rs := [5]) (by kernel_rfl) (by simp) ?_
      refine AllReadyH.cons (o := ⟨some 17, _, _, _, _, _⟩) rfl (fun K hK => ?_) AllReadyH.nil
      go_simp
      refine (CC.out _).mono ?_; rintro e w1 ⟨rfl, b1⟩
      go_wp2_with fail
      refine hK.out _ _ ((b1.cell hbb).trans hHeld) (fun hHeld => ?_)
      clear hK K
      try simp only [Act.put, List.setIfInBounds_toArray, List.set_cons_zero, List.set_cons_succ]
      refine wpAnyH_take (i := 6) (oi := ⟨some 18, _, _, _, _, _⟩) (v := ?_) rfl (by kernel_rfl) (by kernel_rfl) (by kernel_rfl) (fun _ _ _ h => h) (Or.inl ⟨by rfl, ?_⟩) (by assumption) ?_
      case refine_2 => (intro w hSw; skip; go_simp; first | done | with_reducible rfl)
      simp only [Act.put, List.setIfInBounds_toArray, List.set_cons_zero, List.set_cons_succ]
      refine wpAnyH_done (by kernel_rfl) ?_ _
      go_wp2_with fail
      go_roundw
      case rel => exact ⟨j + 1, by omega, by go_num, by go_num, bl_trans hL.drew b1⟩
      case measure => simp [intOf]; omega
    · obtain rfl : j = n := by omega
      go_wp2_with fail
      go_ret
      exact ⟨rfl, hL⟩

end Go.Proofs.Ytjpefadalinhoaa
