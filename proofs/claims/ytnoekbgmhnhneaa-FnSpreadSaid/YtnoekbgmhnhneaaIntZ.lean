/- Walks over the laws' helpers on rows of numbers: sameInts, rises, has. A row has at most 1048577 numbers. -/
import Derived.Test.YtnoekbgmhnhneaaQ0
import Derived.BigQuiet
namespace Go.Proofs.Ytnoekbgmhnhneaa
open Go.RowKit

theorem zints_at {w : World} {B : Nat} {A : Option Addr} {l : List Int} (h : Reads w B 1 A l.length (zints l)) {k : Nat} (hk : k < l.length) : ∃ b off, A = some ⟨b, off, none⟩ ∧ b < B ∧ w.cell? ⟨b, off + k, none⟩ = some (.int .i64 l[k]) := by
  obtain ⟨b, off, e, hb, hc⟩ := h.2 (by omega)
  exact ⟨b, off, e, hb, hc k _ (zints_get l hk)⟩
set_option maxHeartbeats 1000000 in
theorem sameIZ (l : List Int) (A A' : Option Addr) (c c' : Nat) (w : World) (hn : l.length ≤ 1048577) (hR : Reads w w.heap.size 1 A l.length (zints l)) (hR' : Reads w w.heap.size 1 A' l.length (zints l)) :
    Calls Try.prog 32 #[.slice A l.length c, .slice A' l.length c'] w fun e w' => e = .returned (.bool true) ∧ Below w.heap.size w w' := by
  have hn' : (l.length : Int) ≤ 1048577 := by omega
  go_enter Try.func32, Try.ntmps32
  go_wp2_with fail
  go_loopw [5] (fun i wr => ∃ k : Nat, k ≤ l.length ∧ i = .int .i64 k ∧ Below w.heap.size w wr) (fun i _ => l.length - (intOf i).toNat)
  case atStart => exact ⟨0, Nat.zero_le _, rfl, Below.refl _ _⟩
  case round =>
    obtain ⟨k, hk, rfl, hL⟩ := hrel
    by_cases hlt : k < l.length
    · have hlt' : (k : Int) < (l.length : Int) := by omega
      obtain ⟨b, off, rfl, _, p1⟩ := zints_at (hR.below hL) hlt
      obtain ⟨b', off', rfl, _, p2⟩ := zints_at (hR'.below hL) hlt
      generalize l[k] = y at p1 p2
      go_wp2_with fail
      go_quiet (fail)
      go_wp2_with fail
      go_roundw
      case rel => exact ⟨k + 1, by omega, by go_num, bl_drewN hL _⟩
      case measure => (simp [intOf] <;> omega)
    · obtain rfl : k = l.length := by omega
      go_wp2_with fail
      go_ret
      exact ⟨rfl, hL⟩

set_option maxHeartbeats 1000000 in
theorem risesZ (l : List Int) (A : Option Addr) (c : Nat) (w : World) (hn : l.length ≤ 1048577) (hA : Ris l) (hR : Reads w w.heap.size 1 A l.length (zints l)) :
    Calls Try.prog 35 #[.slice A l.length c] w fun e w' => e = .returned (.bool true) ∧ Below w.heap.size w w' := by
  have hn' : (l.length : Int) ≤ 1048577 := by omega
  have HA := Lib.hid hA
  clear hA
  go_enter Try.func35, Try.ntmps35
  go_wp2_with fail
  go_loopw [3] (fun i wr => ∃ k : Nat, 1 ≤ k ∧ (k ≤ l.length ∨ k = 1) ∧ i = .int .i64 k ∧ Below w.heap.size w wr) (fun i _ => l.length + 1 - (intOf i).toNat)
  case atStart => exact ⟨1, Nat.le_refl _, .inr rfl, rfl, Below.refl _ _⟩
  case round =>
    obtain ⟨k, hk1, hk, rfl, hL⟩ := hrel
    by_cases hlt : k < l.length
    · have hlt' : (k : Int) < (l.length : Int) := by omega
      obtain ⟨b, off, rfl, _, hc⟩ := (hR.below hL).2 (by omega)
      have p1 := hc k _ (zints_get l hlt)
      have p2 := hc (k - 1) _ (zints_get l (by omega))
      have hs := ris_get HA.out (i := k - 1) (j := k) (by omega) hlt
      have hs2 : ¬ l[k] ≤ l[k - 1]'(by omega) := by omega
      have ew : IntKind.i64.wrap ((k : Int) - 1) = (k : Int) - 1 := IntWalk.i64_in _ (by omega)
      have e1 : ((k : Int) - 1).toNat = k - 1 := by omega
      have e2 : 0 ≤ (k : Int) - 1 := by omega
      have e3 : (k : Int) - 1 < (l.length : Int) := by omega
      have e4 : (1 : Int) ≤ (k : Int) := by omega
      have e5 : k - 1 < l.length := by omega
      generalize l[k] = y at p1 hs2
      generalize l[k - 1]'(by omega) = x at p2 hs2
      clear hc hs hk
      go_wp2_with fail
      go_quiet (fail)
      go_wp2_with fail
      go_roundw
      case rel => exact ⟨k + 1, by omega, by omega, by go_num, bl_drewN hL _⟩
      case measure => (simp [intOf] <;> omega)
    · have hge : ¬ (k : Int) < (l.length : Int) := by omega
      go_wp2_with fail
      go_ret
      exact ⟨rfl, hL⟩
set_option maxHeartbeats 1000000 in
theorem hasZ (l : List Int) (A : Option Addr) (c : Nat) (x : Int) (w : World) (hn : l.length ≤ 1048577) (hR : Reads w w.heap.size 1 A l.length (zints l)) :
    Calls Try.prog 36 #[.slice A l.length c, .int .i64 x] w fun e w' => e = .returned (.bool (decide (x ∈ l))) ∧ w' = w := by
  have hn' : (l.length : Int) ≤ 1048577 := by omega
  have E1 := fun (h : ∀ k (hk : k < l.length), l[k] ≠ x) => Lib.hid (show decide (x ∈ l) = false from decide_eq_false (fun hm => by
    obtain ⟨k, hk, e⟩ := List.mem_iff_getElem.1 hm
    exact h k hk e))
  have E2 := fun (k : Nat) (hk : k < l.length) (e : l[k] = x) => Lib.hid (show decide (x ∈ l) = true from decide_eq_true (List.mem_iff_getElem.2 ⟨k, hk, e⟩))
  generalize decide (x ∈ l) = R at E1 E2 ⊢
  go_enter Try.func36, Try.ntmps36
  go_wp2_with fail
  go_loop [5] (fun i => ∃ k : Nat, k ≤ l.length ∧ i = .int .i64 k ∧ Hid (∀ j (hj : j < l.length), j < k → l[j] ≠ x)) (fun i => l.length - (intOf i).toNat)
  case atStart => exact ⟨0, Nat.zero_le _, rfl, fun j hj h => absurd h (Nat.not_lt_zero _)⟩
  case round =>
    obtain ⟨k, hk, rfl, H⟩ := hrel
    by_cases hlt : k < l.length
    · have hlt' : (k : Int) < (l.length : Int) := by omega
      obtain ⟨b, off, rfl, _, p1⟩ := zints_at hR hlt
      cases he : (l[k] == x)
      · have hne : l[k] ≠ x := fun e => by rw [e] at he; simp at he
        have HN := Lib.hid (show ∀ j (hj : j < l.length), j < k + 1 → l[j] ≠ x from fun j hj hjk => by
          rcases Nat.lt_or_ge j k with h | h
          · exact H.out j hj h
          · have : j = k := by omega
            subst this
            exact hne)
        clear E1 E2 hne
        generalize l[k] = y at p1 he
        go_wp2_with fail
        go_round
        case rel => exact ⟨k + 1, by omega, by go_num, HN⟩
        case measure => (simp [intOf] <;> omega)
      · have E := E2 k hlt (by simpa using he)
        clear E1 E2
        generalize l[k] = y at p1 he
        go_wp2_with fail
        go_ret
        exact ⟨ret_bool (by rw [E.out]), rfl⟩
    · obtain rfl : k = l.length := by omega
      have E := E1 fun j hj => H.out j hj hj
      clear E1 E2
      go_wp2_with fail
      go_ret
      exact ⟨ret_bool (by rw [E.out]), rfl⟩

end Go.Proofs.Ytnoekbgmhnhneaa
