/- Walks over letters, digits, names: isLetter, isDigit, wordLength, isName of the program, l7Small, l2Digit, l7Word of the reference. A text's length is at most 1048576. -/
import Derived.Test.YtjpefadalinhoaaDoorIn
namespace Go.Proofs.YtjpefadalinhoaaDoor
open Go.RowKit

set_option maxHeartbeats 400000 in
theorem iLetter (c : Int) (w : World) :
    Calls Tryd.prog 35 #[.int .u8 c] w fun e w' => e = .returned (.bool (inI c 97 122)) ∧ w' = w := by
  by_cases c1 : 97 ≤ c
  · by_cases c2 : c ≤ 122
    · go_enter Tryd.func35, Tryd.ntmps35
      go_wp2_with fail
      go_ret
      exact ⟨ret_bool (by rw [inI_true c1 c2]), rfl⟩
    · go_enter Tryd.func35, Tryd.ntmps35
      go_wp2_with fail
      go_ret
      exact ⟨ret_bool (by rw [inI_false (by omega)]), rfl⟩
  · go_enter Tryd.func35, Tryd.ntmps35
    go_wp2_with fail
    go_ret
    exact ⟨ret_bool (by rw [inI_false (by omega)]), rfl⟩

set_option maxHeartbeats 400000 in
theorem iDigit (c : Int) (w : World) :
    Calls Tryd.prog 43 #[.int .u8 c] w fun e w' => e = .returned (.bool (inI c 48 57)) ∧ w' = w := by
  by_cases c1 : 48 ≤ c
  · by_cases c2 : c ≤ 57
    · go_enter Tryd.func43, Tryd.ntmps43
      go_wp2_with fail
      go_ret
      exact ⟨ret_bool (by rw [inI_true c1 c2]), rfl⟩
    · go_enter Tryd.func43, Tryd.ntmps43
      go_wp2_with fail
      go_ret
      exact ⟨ret_bool (by rw [inI_false (by omega)]), rfl⟩
  · go_enter Tryd.func43, Tryd.ntmps43
    go_wp2_with fail
    go_ret
    exact ⟨ret_bool (by rw [inI_false (by omega)]), rfl⟩

set_option maxHeartbeats 400000 in
theorem sSmall (c : Int) (w : World) (h0 : 0 ≤ c) (h1 : c < 256) :
    Calls Tryd.prog 33 #[.int .u8 c] w fun e w' => e = .returned (.bool (inI c 97 122)) ∧ w' = w := by
  go_enter Tryd.func33, Tryd.ntmps33
  go_wp2_with fail
  refine (sIn _ _ _ _).mono ?_; rintro e w1 ⟨rfl, rfl⟩
  go_wp2_with fail
  go_ret
  exact ⟨rfl, rfl⟩

set_option maxHeartbeats 400000 in
theorem sDigit (c : Int) (w : World) (h0 : 0 ≤ c) (h1 : c < 256) :
    Calls Tryd.prog 34 #[.int .u8 c] w fun e w' => e = .returned (.bool (inI c 48 57)) ∧ w' = w := by
  go_enter Tryd.func34, Tryd.ntmps34
  go_wp2_with fail
  refine (sIn _ _ _ _).mono ?_; rintro e w1 ⟨rfl, rfl⟩
  go_wp2_with fail
  go_ret
  exact ⟨rfl, rfl⟩

set_option maxHeartbeats 400000 in
theorem iWithin (x lo hi : Int) (w : World) :
    Calls Tryd.prog 24 #[.int .i64 x, .int .i64 lo, .int .i64 hi] w fun e w' => e = .returned (.bool (inI x lo hi)) ∧ w' = w := by
  by_cases c1 : lo ≤ x
  · by_cases c2 : x ≤ hi
    · go_enter Tryd.func24, Tryd.ntmps24
      go_wp2_with fail
      go_ret
      exact ⟨ret_bool (by rw [inI_true c1 c2]), rfl⟩
    · go_enter Tryd.func24, Tryd.ntmps24
      go_wp2_with fail
      go_ret
      exact ⟨ret_bool (by rw [inI_false (by omega)]), rfl⟩
  · go_enter Tryd.func24, Tryd.ntmps24
    go_wp2_with fail
    go_ret
    exact ⟨ret_bool (by rw [inI_false (by omega)]), rfl⟩

/-- A small letter or a digit. -/
def wdB (c : Int) : Bool := inI c 97 122 || inI c 48 57
/-- All bytes from k on are such. -/
def wdAll (s : ByteArray) (k : Nat) : Prop := ∀ i, i < k → ∀ h : i < s.size, wdB s[i].toNat = true
theorem wdAll.zero (s : ByteArray) : wdAll s 0 := fun i h => by omega
theorem wdAll.succ {s : ByteArray} {k : Nat} (h : wdAll s k) (hk : k < s.size) (hw : wdB s[k].toNat = true) : wdAll s (k + 1) := fun i hi hs => by
  rcases Nat.lt_or_ge i k with h1 | h1
  · exact h i h1 hs
  · obtain rfl : i = k := by omega
    exact hw
open Classical in
/-- Is a text a name: a small letter, then small letters and digits, at most eight. -/
noncomputable def nameB (s : ByteArray) : Bool := decide (∃ h : 0 < s.size, s.size ≤ 8 ∧ inI s[0].toNat 97 122 = true ∧ wdAll s s.size)
open Classical in
theorem nameB_true {s : ByteArray} (h : 0 < s.size) (h1 : s.size ≤ 8) (h2 : inI s[0].toNat 97 122 = true) (h3 : wdAll s s.size) : nameB s = true := by
  unfold nameB; exact decide_eq_true ⟨h, h1, h2, h3⟩
open Classical in
theorem nameB_size {s : ByteArray} (h : s.size = 0 ∨ 8 < s.size) : nameB s = false := by
  unfold nameB; refine decide_eq_false ?_; rintro ⟨h0, h1, _⟩; omega
open Classical in
theorem nameB_head {s : ByteArray} (h : 0 < s.size) (h2 : inI s[0].toNat 97 122 = false) : nameB s = false := by
  unfold nameB; refine decide_eq_false ?_; rintro ⟨h0, _, h1, _⟩; rw [h1] at h2; cases h2
open Classical in
theorem nameB_at {s : ByteArray} {k : Nat} (h : k < s.size) (h2 : wdB s[k].toNat = false) : nameB s = false := by
  unfold nameB; refine decide_eq_false ?_; rintro ⟨h0, _, _, h1⟩; have := h1 k h h; rw [this] at h2; cases h2

set_option maxHeartbeats 1000000 in
theorem iWordLen (s : ByteArray) (w : World) (hs : s.size ≤ 1048576) :
    Calls Tryd.prog 36 #[.string s] w fun e w' => (∃ k : Nat, e = .returned (.int .i64 k) ∧ k ≤ s.size ∧ wdAll s k ∧ ∀ h : k < s.size, wdB s[k].toNat = false) ∧ w' = w := by
  go_enter Tryd.func36, Tryd.ntmps36
  go_wp2_with fail
  go_loop [3] (fun i => ∃ k : Nat, k ≤ s.size ∧ i = .int .i64 k ∧ wdAll s k) (fun i => s.size - (intOf i).toNat)
  case atStart => exact ⟨0, Nat.zero_le _, rfl, wdAll.zero s⟩
  case round =>
    obtain ⟨k, hk, rfl, hA⟩ := hrel
    by_cases hlt : (k : Int) < s.size
    · have hkn : k < s.size := by omega
      have hx := s[k].toNat_lt
      have hx' : (s[k].toNat : Int) < 256 := by omega
      have HA := Lib.hid hA
      cases h1 : inI s[k].toNat 97 122
      · cases h2 : inI s[k].toNat 48 57
        · go_wp2_with fail
          refine (iLetter _ _).mono ?_; rintro e w1 ⟨rfl, rfl⟩
          rw [h1]
          go_wp2_with fail
          refine (iDigit _ _).mono ?_; rintro e w1 ⟨rfl, rfl⟩
          rw [h2]
          go_wp2_with fail
          go_ret
          exact ⟨⟨k, rfl, hk, HA.out, fun _ => by unfold wdB; rw [h1, h2]; rfl⟩, rfl⟩
        · go_wp2_with fail
          refine (iLetter _ _).mono ?_; rintro e w1 ⟨rfl, rfl⟩
          rw [h1]
          go_wp2_with fail
          refine (iDigit _ _).mono ?_; rintro e w1 ⟨rfl, rfl⟩
          rw [h2]
          go_wp2_with fail
          go_round
          case rel => exact ⟨k + 1, by omega, by go_num, HA.out.succ hkn (by unfold wdB; rw [h1, h2]; rfl)⟩
          case measure => simp [intOf]; omega
      · go_wp2_with fail
        refine (iLetter _ _).mono ?_; rintro e w1 ⟨rfl, rfl⟩
        rw [h1]
        go_wp2_with fail
        go_round
        case rel => exact ⟨k + 1, by omega, by go_num, HA.out.succ hkn (by unfold wdB; rw [h1]; rfl)⟩
        case measure => simp [intOf]; omega
    · go_wp2_with fail
      go_ret
      exact ⟨⟨k, rfl, hk, hA, fun h => by omega⟩, rfl⟩

set_option maxHeartbeats 1000000 in
theorem iName (s : ByteArray) (w : World) (hs : s.size ≤ 1048576) :
    Calls Tryd.prog 25 #[.string s] w fun e w' => e = .returned (.bool (nameB s)) ∧ w' = w := by
  by_cases h8 : 1 ≤ (s.size : Int) ∧ (s.size : Int) ≤ 8
  · have hI := inI_true h8.1 h8.2
    have h0 : 0 < s.size := by omega
    have hx := s[0].toNat_lt
    have hx' : (s[0].toNat : Int) < 256 := by omega
    have h0' : (0 : Int) < s.size := by omega
    cases h1 : inI s[0].toNat 97 122
    · have E := nameB_head h0 h1
      rw [E]
      go_enter Tryd.func25, Tryd.ntmps25
      go_wp2_with fail
      refine (iWithin _ _ _ _).mono ?_; rintro e w1 ⟨rfl, rfl⟩
      rw [hI]
      go_wp2_with fail
      refine (iLetter _ _).mono ?_; rintro e w1 ⟨rfl, rfl⟩
      rw [h1]
      go_wp2_with fail
      go_ret
      exact ⟨rfl, rfl⟩
    · have E1 := fun h3 => Lib.hid (nameB_true h0 (by omega) h1 h3)
      have E2 := fun (k : Nat) h (h2 : wdB s[k].toNat = false) => Lib.hid (nameB_at h h2)
      generalize nameB s = R at E1 E2 ⊢
      go_enter Tryd.func25, Tryd.ntmps25
      go_wp2_with fail
      refine (iWithin _ _ _ _).mono ?_; rintro e w1 ⟨rfl, rfl⟩
      rw [hI]
      go_wp2_with fail
      refine (iLetter _ _).mono ?_; rintro e w1 ⟨rfl, rfl⟩
      rw [h1]
      go_wp2_with fail
      refine (iWordLen s _ hs).mono ?_; rintro e w1 ⟨⟨k, rfl, hk, hA, hB⟩, rfl⟩
      by_cases hl : k = s.size
      · have E := E1 (by rw [← hl]; exact hA)
        have hb : ((k : Int) == (s.size : Int)) = true := by simp [hl]
        have HB := Lib.hid hb
        clear E1 E2 hA hB hl hI hb
        go_wp2_with (rw [HB.out])
        go_ret
        exact ⟨ret_bool E.out.symm, rfl⟩
      · have E := E2 k (by omega) (hB (by omega))
        have hb : ((k : Int) == (s.size : Int)) = false := by simp; omega
        clear E1 E2 hA hB hI
        go_wp2_with fail
        go_ret
        exact ⟨ret_bool E.out.symm, rfl⟩
  · have hI : inI (s.size : Int) 1 8 = false := inI_false (by omega)
    rw [nameB_size (by omega)]
    go_enter Tryd.func25, Tryd.ntmps25
    go_wp2_with fail
    refine (iWithin _ _ _ _).mono ?_; rintro e w1 ⟨rfl, rfl⟩
    rw [hI]
    go_wp2_with fail
    go_ret
    exact ⟨rfl, rfl⟩

set_option maxHeartbeats 1000000 in
theorem sWord (s : ByteArray) (w : World) (hs : s.size ≤ 1048576) :
    Calls Tryd.prog 21 #[.string s] w fun e w' => e = .returned (.bool (nameB s)) ∧ w' = w := by
  have E0 := fun (h : s.size = 0 ∨ 8 < s.size) => Lib.hid (nameB_size h)
  have E1 := fun h0 h8 h1 h3 => Lib.hid (nameB_true (s := s) h0 h8 h1 h3)
  have E2 := fun (k : Nat) h (h2 : wdB s[k].toNat = false) => Lib.hid (nameB_at h h2)
  have E3 := fun h0 h2 => Lib.hid (nameB_head (s := s) h0 h2)
  generalize nameB s = R at E0 E1 E2 E3 ⊢
  go_enter Tryd.func21, Tryd.ntmps21
  go_wp2_with fail
  go_loop [3] (fun i => ∃ k : Nat, k ≤ s.size ∧ i = .int .i64 k ∧ wdAll s k ∧ ∀ h : 0 < s.size, 0 < k → inI s[0].toNat 97 122 = true) (fun i => s.size - (intOf i).toNat)
  case atStart => exact ⟨0, Nat.zero_le _, rfl, wdAll.zero s, fun _ h => by omega⟩
  case round =>
    obtain ⟨k, hk, rfl, hA, hH⟩ := hrel
    by_cases hlt : (k : Int) < s.size
    · have hkn : k < s.size := by omega
      have hx := s[k].toNat_lt
      have hx' : (s[k].toNat : Int) < 256 := by omega
      have HA := Lib.hid hA
      have HH := Lib.hid hH
      clear hA hH E0 E1
      cases h1 : inI s[k].toNat 97 122
      · by_cases hz : k = 0
        · subst hz
          have E := E3 hkn h1
          clear E2 E3
          go_wp2_with fail
          refine (sSmall _ _ (by omega) hx').mono ?_; rintro e w1 ⟨rfl, rfl⟩
          rw [h1]
          go_wp2_with fail
          go_ret
          exact ⟨ret_bool E.out.symm, rfl⟩
        · have hzb : ((k : Int) == 0) = false := by simp; omega
          cases h2 : inI s[k].toNat 48 57
          · have E := E2 k hkn (by unfold wdB; rw [h1, h2]; rfl)
            clear E2 E3
            go_wp2_with fail
            refine (sSmall _ _ (by omega) hx').mono ?_; rintro e w1 ⟨rfl, rfl⟩
            rw [h1]
            go_wp2_with fail
            refine (sDigit _ _ (by omega) hx').mono ?_; rintro e w1 ⟨rfl, rfl⟩
            rw [h2]
            go_wp2_with fail
            go_ret
            exact ⟨ret_bool E.out.symm, rfl⟩
          · clear E2 E3
            go_wp2_with fail
            refine (sSmall _ _ (by omega) hx').mono ?_; rintro e w1 ⟨rfl, rfl⟩
            rw [h1]
            go_wp2_with fail
            refine (sDigit _ _ (by omega) hx').mono ?_; rintro e w1 ⟨rfl, rfl⟩
            rw [h2]
            go_wp2_with fail
            go_round
            case rel => exact ⟨k + 1, by omega, by go_num, HA.out.succ hkn (by unfold wdB; rw [h1, h2]; rfl), fun h _ => HH.out h (by omega)⟩
            case measure => simp [intOf]; omega
      · clear E2 E3
        go_wp2_with fail
        refine (sSmall _ _ (by omega) hx').mono ?_; rintro e w1 ⟨rfl, rfl⟩
        rw [h1]
        go_wp2_with fail
        go_round
        case rel => exact ⟨k + 1, by omega, by go_num, HA.out.succ hkn (by unfold wdB; rw [h1]; rfl), fun h _ => by
          by_cases hz : k = 0
          · subst hz; exact h1
          · exact HH.out h (by omega)⟩
        case measure => simp [intOf]; omega
    · obtain rfl : k = s.size := by omega
      by_cases h8 : 1 ≤ (s.size : Int) ∧ (s.size : Int) ≤ 8
      · have hI := inI_true h8.1 h8.2
        have E := E1 (by omega) (by omega) (hH (by omega) (by omega)) hA
        clear E0 E1 E2 E3 hA hH
        go_wp2_with fail
        refine (sIn _ _ _ _).mono ?_; rintro e w1 ⟨rfl, rfl⟩
        rw [hI]
        go_wp2_with fail
        go_ret
        exact ⟨ret_bool E.out.symm, rfl⟩
      · have hI : inI (s.size : Int) 1 8 = false := inI_false (by omega)
        have E := E0 (by omega)
        clear E0 E1 E2 E3 hA hH
        go_wp2_with fail
        refine (sIn _ _ _ _).mono ?_; rintro e w1 ⟨rfl, rfl⟩
        rw [hI]
        go_wp2_with fail
        go_ret
        exact ⟨ret_bool E.out.symm, rfl⟩

end Go.Proofs.YtjpefadalinhoaaDoor
