/- Walks over lists of texts and NameOk, the program's and the reference's. A text's length is at most 1048576. -/
import Derived.Test.YtjpefadalinhoaaName
import Derived.Test.YtjpefadalinhoaaMem
namespace Go.Proofs.Ytjpefadalinhoaa
open Go.RowKit

/-- Is a text among these. -/
def hasB (xs : List ByteArray) (s : ByteArray) : Bool := xs.any fun x => x.toList == s.toList
theorem hasB_at {xs : List ByteArray} {s : ByteArray} {k : Nat} (hk : k < xs.length) (h : (xs[k].toList == s.toList) = true) : hasB xs s = true := List.any_eq_true.2 ⟨xs[k], List.getElem_mem hk, h⟩
/-- The first k of these are other texts. -/
def noneOf (xs : List ByteArray) (s : ByteArray) (k : Nat) : Prop := ∀ i, i < k → ∀ h : i < xs.length, (xs[i].toList == s.toList) = false
theorem noneOf.zero (xs : List ByteArray) (s : ByteArray) : noneOf xs s 0 := fun i h => by omega
theorem noneOf.succ {xs : List ByteArray} {s : ByteArray} {k : Nat} (h : noneOf xs s k) (hk : k < xs.length) (hw : (xs[k].toList == s.toList) = false) : noneOf xs s (k + 1) := fun i hi hs => by
  rcases Nat.lt_or_ge i k with h1 | h1
  · exact h i h1 hs
  · obtain rfl : i = k := by omega
    exact hw
theorem noneOf.all {xs : List ByteArray} {s : ByteArray} (h : noneOf xs s xs.length) : hasB xs s = false := by
  refine List.any_eq_false.2 fun x hx => ?_
  obtain ⟨i, hi, rfl⟩ := List.getElem_of_mem hx
  rw [h i hi hi]
  exact Bool.false_ne_true
/-- The cells of a row of texts. -/
def strs (xs : List ByteArray) : Array Value := (xs.map Value.string).toArray
theorem strs_at {w : World} {b : Nat} {xs : List ByteArray} (h : Blk w b 9 (strs xs)) {k : Nat} (hk : k < xs.length) : w.cell? ⟨b, k, none⟩ = some (.string xs[k]) := by
  have := h.cell k
  unfold strs at this
  rw [List.getElem?_toArray, List.getElem?_map, List.getElem?_eq_getElem hk] at this
  exact this

set_option maxHeartbeats 1000000 in
theorem sHas (b n : Nat) (xs : List ByteArray) (s : ByteArray) (w : World) (hb : Blk w b 9 (strs xs)) (hl : xs.length = n) (hn : n ≤ 1000) :
    Calls Try.prog 40 #[.slice (some ⟨b, 0, none⟩) n n, .string s] w fun e w' => e = .returned (.bool (hasB xs s)) ∧ w' = w := by
  subst hl
  have E1 := fun k hk h => Lib.hid (hasB_at (xs := xs) (s := s) (k := k) hk h)
  have E2 := fun h => Lib.hid (noneOf.all (xs := xs) (s := s) h)
  generalize hasB xs s = R at E1 E2 ⊢
  go_enter Try.func40, Try.ntmps40
  go_wp2_with fail
  go_loop [5] (fun i => ∃ k : Nat, k ≤ xs.length ∧ i = .int .i64 k ∧ noneOf xs s k) (fun i => xs.length - (intOf i).toNat)
  case atStart => exact ⟨0, Nat.zero_le _, rfl, noneOf.zero _ _⟩
  case round =>
    obtain ⟨k, hk, rfl, hN⟩ := hrel
    by_cases hlt : (k : Int) < xs.length
    · have hkn : k < xs.length := by omega
      have hc := strs_at hb hkn
      have HN := Lib.hid hN
      clear hN E2
      cases h1 : (xs[k].toList == s.toList)
      · have H := Lib.hid (HN.out.succ hkn h1)
        clear E1 HN
        generalize xs[k] = x at hc h1
        go_wp2_with fail
        go_round
        case rel => exact ⟨k + 1, by omega, by go_num, H.out⟩
        case measure => simp [intOf]; omega
      · have E := E1 k hkn h1
        clear E1 HN
        generalize xs[k] = x at hc h1
        go_wp2_with fail
        go_ret
        exact ⟨ret_bool E.out.symm, rfl⟩
    · obtain rfl : k = xs.length := by omega
      have E := E2 hN
      clear E1 E2 hN
      go_wp2_with fail
      go_ret
      exact ⟨ret_bool E.out.symm, rfl⟩

set_option maxHeartbeats 1000000 in
theorem iIndex (b n : Nat) (xs : List ByteArray) (s : ByteArray) (w : World) (hb : Blk w b 9 (strs xs)) (hl : xs.length = n) (hn : n ≤ 1000) :
    Calls Try.prog 68 #[.slice (some ⟨b, 0, none⟩) n n, .string s] w fun e w' => (∃ x : Int, e = .returned (.int .i64 x) ∧ decide (0 ≤ x) = hasB xs s) ∧ w' = w := by
  subst hl
  have E1 := fun k hk h => Lib.hid (hasB_at (xs := xs) (s := s) (k := k) hk h)
  have E2 := fun h => Lib.hid (noneOf.all (xs := xs) (s := s) h)
  generalize hasB xs s = R at E1 E2 ⊢
  go_enter Try.func68, Try.ntmps68
  go_wp2_with fail
  go_loop [5, 8] (fun _ i => ∃ k : Nat, k ≤ xs.length ∧ i = .int .i64 k ∧ noneOf xs s k) (fun _ i => xs.length - (intOf i).toNat)
  case atStart => exact ⟨0, Nat.zero_le _, rfl, noneOf.zero _ _⟩
  case round =>
    obtain ⟨k, hk, rfl, hN⟩ := hrel
    by_cases hlt : (k : Int) < xs.length
    · have hkn : k < xs.length := by omega
      have hc := strs_at hb hkn
      have HN := Lib.hid hN
      clear hN E2
      cases h1 : (xs[k].toList == s.toList)
      · have h2 : (s.toList == xs[k].toList) = false := by rw [Bool.beq_comm]; exact h1
        have H := Lib.hid (HN.out.succ hkn h1)
        clear E1 HN h1
        generalize xs[k] = x at hc h2
        go_wp2_with fail
        go_round
        case rel => exact ⟨k + 1, by omega, by go_num, H.out⟩
        case measure => simp [intOf]; omega
      · have h2 : (s.toList == xs[k].toList) = true := by rw [Bool.beq_comm]; exact h1
        have E := E1 k hkn h1
        clear E1 HN h1
        generalize xs[k] = x at hc h2
        go_wp2_with fail
        go_ret
        exact ⟨⟨k, rfl, by rw [E.out]; simp⟩, rfl⟩
    · obtain rfl : k = xs.length := by omega
      have E := E2 hN
      clear E1 E2 hN
      go_wp2_with fail
      go_ret
      exact ⟨⟨-1, rfl, by rw [E.out]; rfl⟩, rfl⟩

set_option maxHeartbeats 1000000 in
theorem iContains (b n : Nat) (xs : List ByteArray) (s : ByteArray) (w : World) (hb : Blk w b 9 (strs xs)) (hl : xs.length = n) (hn : n ≤ 1000) :
    Calls Try.prog 43 #[.slice (some ⟨b, 0, none⟩) n n, .string s] w fun e w' => e = .returned (.bool (hasB xs s)) ∧ w' = w := by
  go_enter Try.func43, Try.ntmps43
  go_wp2_with fail
  refine (iIndex b n xs s _ hb hl hn).mono ?_; rintro e w1 ⟨⟨x, rfl, hx⟩, rfl⟩
  have HX := Lib.hid hx
  clear hx
  go_wp2_with fail
  go_ret
  exact ⟨ret_bool HX.out, rfl⟩

/-- The words that are no names. -/
def words : List ByteArray := [⟨#[98, 101, 103, 105, 110]⟩, ⟨#[101, 110, 100]⟩, ⟨#[102, 117, 110, 99]⟩, ⟨#[112, 114, 105, 110, 116]⟩, ⟨#[105, 102]⟩, ⟨#[101, 108, 115, 101]⟩, ⟨#[119, 104, 105, 108, 101]⟩, ⟨#[102, 111, 114]⟩, ⟨#[105, 110]⟩, ⟨#[110, 101, 120, 116]⟩, ⟨#[101, 120, 105, 116]⟩, ⟨#[114, 101, 116, 117, 114, 110]⟩, ⟨#[100, 101, 108, 101, 116, 101]⟩, ⟨#[108, 101, 110, 103, 116, 104]⟩, ⟨#[115, 117, 98, 115, 116, 114]⟩, ⟨#[105, 110, 100, 101, 120]⟩, ⟨#[117, 112, 112, 101, 114]⟩, ⟨#[103, 115, 117, 98]⟩, ⟨#[110, 114]⟩, ⟨#[110, 102]⟩]
set_option maxHeartbeats 400000 in
theorem sWords (w : World) :
    Calls Try.prog 41 #[] w fun e w' => e = .returned (.slice (some ⟨w.heap.size, 0, none⟩) 20 20) ∧ w' = w.alloc (.cells (strs words) 9) := by
  go_enter Try.func41, Try.ntmps41
  go_wp2_with fail
  go_ret
  exact ⟨rfl, rfl⟩

/-- Is it a name, and no word of the language's own. -/
noncomputable def nameOkB (s : ByteArray) : Bool := nameB s && !hasB words s
set_option maxHeartbeats 1000000 in
theorem iNameOk (s : ByteArray) (w : World) (hs : s.size ≤ 1048576) :
    Calls Try.prog 13 #[.string s] w fun e w' => e = .returned (.bool (nameOkB s)) ∧ Below w.heap.size w w' := by
  unfold nameOkB
  have hB : Blk (w.alloc (.cells (strs words) 9)) w.heap.size 9 (strs words) := Blk.new w _ _
  go_enter Try.func13, Try.ntmps13
  go_wp2_with fail
  refine (iName s _ hs).mono ?_; rintro e w1 ⟨rfl, rfl⟩
  cases h : nameB s
  · go_wp2_with fail
    go_ret
    exact ⟨ret_bool (by rw [h]; rfl), by repeat (first | exact Below.refl _ _ | refine bl_drewN ?_ _ | refine Below.drew ?_ | refine bl_alloc ?_ _ | refine bl_set ?_ (by simp) _ | refine bl_trans ?_ (by assumption))⟩
  · go_wp2_with fail
    refine (iContains w.heap.size 20 words s _ hB rfl (by omega)).mono ?_; rintro e w1 ⟨rfl, rfl⟩
    generalize hR : hasB words s = R
    go_wp2_with fail
    go_ret
    exact ⟨ret_bool (by rw [h, hR]; rfl), by repeat (first | exact Below.refl _ _ | refine bl_drewN ?_ _ | refine Below.drew ?_ | refine bl_alloc ?_ _ | refine bl_set ?_ (by simp) _ | refine bl_trans ?_ (by assumption))⟩
set_option maxHeartbeats 1000000 in
theorem sNameOk (s : ByteArray) (w : World) (hs : s.size ≤ 1048576) :
    Calls Try.prog 12 #[.string s] w fun e w' => e = .returned (.bool (nameOkB s)) ∧ Below w.heap.size w w' := by
  unfold nameOkB
  have hB : Blk (w.alloc (.cells (strs words) 9)) w.heap.size 9 (strs words) := Blk.new w _ _
  go_enter Try.func12, Try.ntmps12
  go_wp2_with fail
  refine (sWord s _ hs).mono ?_; rintro e w1 ⟨rfl, rfl⟩
  cases h : nameB s
  · go_wp2_with fail
    go_ret
    exact ⟨ret_bool (by rw [h]; rfl), by repeat (first | exact Below.refl _ _ | refine bl_drewN ?_ _ | refine Below.drew ?_ | refine bl_alloc ?_ _ | refine bl_set ?_ (by simp) _ | refine bl_trans ?_ (by assumption))⟩
  · go_wp2_with fail
    refine (sWords _).mono ?_; rintro e w2 ⟨rfl, rfl⟩
    go_wp2_with fail
    refine (sHas w1.heap.size 20 words s _ hB rfl (by omega)).mono ?_; rintro e w3 ⟨rfl, rfl⟩
    generalize hR : hasB words s = R
    go_wp2_with fail
    go_ret
    exact ⟨ret_bool (by rw [h, hR]; rfl), by repeat (first | exact Below.refl _ _ | refine bl_drewN ?_ _ | refine Below.drew ?_ | refine bl_alloc ?_ _ | refine bl_set ?_ (by simp) _ | refine bl_trans ?_ (by assumption))⟩

end Go.Proofs.Ytjpefadalinhoaa
