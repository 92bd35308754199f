import Derived.Test.YtemlnpncljomgaaGreatDoorQ0
import Derived.Laws.IdiomStrings
import Derived.Laws.BytesArg
import Derived.Test.YtemlnpncljomgaaGreatDoorShelf
import Derived.Deep.RegionWith
import Derived.Deep.RegionHeld3
namespace Go.Proofs.YtemlnpncljomgaaGreatDoor
open Go.RowKit

def prB (c b : Int) : Bool := inI c 32 126 && !(c == b)
def prAll (s : ByteArray) (b : Int) (k : Nat) : Prop := ∀ i, i < k → ∀ h : i < s.size, prB s[i].toNat b = true
theorem prAll.zero (s : ByteArray) (b : Int) : prAll s b 0 := fun i h => by omega
theorem prAll.succ {s : ByteArray} {b : Int} {k : Nat} (h : prAll s b k) (hk : k < s.size) (hw : prB s[k].toNat b = true) : prAll s b (k + 1) := fun i hi hs => by
  rcases Nat.lt_or_ge i k with h1 | h1
  · exact h i h1 hs
  · obtain rfl : i = k := by omega
    exact hw
open Classical in
noncomputable def plainB (s : ByteArray) (b : Int) : Bool := decide (prAll s b s.size)
open Classical in
theorem plainB_true {s : ByteArray} {b : Int} (h : prAll s b s.size) : plainB s b = true := by unfold plainB; exact decide_eq_true h
open Classical in
theorem plainB_at {s : ByteArray} {b : Int} {k : Nat} (h : k < s.size) (h2 : prB s[k].toNat b = false) : plainB s b = false := by
  unfold plainB; refine decide_eq_false ?_; intro h1; have := h1 k h h; rw [this] at h2; cases h2

set_option maxHeartbeats 1000000 in
theorem iPlain (s : ByteArray) (b : Int) (w : World) (hs : s.size ≤ 1048576) :
    Calls Tryz.prog 72 #[.string s, .int .u8 b] w fun e w' => e = .returned (.bool (plainB s b)) ∧ w' = w := by
  have E1 := fun h => Lib.hid (plainB_true (s := s) (b := b) h)
  have E2 := fun (k : Nat) h (h2 : prB s[k].toNat b = false) => Lib.hid (plainB_at h h2)
  generalize plainB s b = R at E1 E2 ⊢
  go_enter Tryz.func72, Tryz.ntmps72
  go_wp2_with fail
  go_loop [5] (fun i => ∃ k : Nat, k ≤ s.size ∧ i = .int .i64 k ∧ prAll s b k) (fun i => s.size - (intOf i).toNat)
  case atStart => exact ⟨0, Nat.zero_le _, rfl, prAll.zero s b⟩
  case round =>
    obtain ⟨k, hk, rfl, hA⟩ := hrel
    by_cases hlt : (k : Int) < s.size
    · have hkn : k < s.size := by omega
      have hx := s[k].toNat_lt
      have hx' : (s[k].toNat : Int) < 256 := by omega
      have HA := Lib.hid hA
      clear hA E1
      cases h1 : inI s[k].toNat 32 126
      · have E := E2 k hkn (by unfold prB; rw [h1]; rfl)
        clear E2 HA
        go_wp2_with fail
        refine (iWithin _ _ _ _).mono ?_; rintro e w1 ⟨rfl, rfl⟩
        rw [h1]
        go_wp2_with fail
        go_ret
        exact ⟨ret_bool (by rw [E.out]), rfl⟩
      · cases h2 : ((s[k].toNat : Int) == b)
        · clear E2
          go_wp2_with fail
          refine (iWithin _ _ _ _).mono ?_; rintro e w1 ⟨rfl, rfl⟩
          rw [h1]
          go_wp2_with fail
          go_round
          case rel => exact ⟨k + 1, by omega, by go_num, HA.out.succ hkn (by unfold prB; rw [h1, h2]; rfl)⟩
          case measure => simp [intOf]; omega
        · have E := E2 k hkn (by unfold prB; rw [h1, h2]; rfl)
          clear E2 HA
          go_wp2_with fail
          refine (iWithin _ _ _ _).mono ?_; rintro e w1 ⟨rfl, rfl⟩
          rw [h1]
          go_wp2_with fail
          go_ret
          exact ⟨ret_bool (by rw [E.out]), rfl⟩
    · obtain rfl : k = s.size := by omega
      have E := E1 hA
      clear E1 E2 hA
      go_wp2_with fail
      go_ret
      exact ⟨ret_bool (by rw [E.out]), rfl⟩

set_option maxHeartbeats 1000000 in
theorem sPrint (s : ByteArray) (b : Int) (w : World) (hs : s.size ≤ 1048576) :
    Calls Tryz.prog 52 #[.string s, .int .u8 b] w fun e w' => e = .returned (.bool (plainB s b && decide (s.size ≤ 200))) ∧ w' = w := by
  have E1 := fun h => Lib.hid (plainB_true (s := s) (b := b) h)
  have E2 := fun (k : Nat) h (h2 : prB s[k].toNat b = false) => Lib.hid (plainB_at h h2)
  generalize plainB s b = R at E1 E2 ⊢
  go_enter Tryz.func52, Tryz.ntmps52
  go_wp2_with fail
  go_loop [5] (fun i => ∃ k : Nat, k ≤ s.size ∧ i = .int .i64 k ∧ prAll s b k) (fun i => s.size - (intOf i).toNat)
  case atStart => exact ⟨0, Nat.zero_le _, rfl, prAll.zero s b⟩
  case round =>
    obtain ⟨k, hk, rfl, hA⟩ := hrel
    by_cases hlt : (k : Int) < s.size
    · have hkn : k < s.size := by omega
      have hx := s[k].toNat_lt
      have hx' : (s[k].toNat : Int) < 256 := by omega
      have HA := Lib.hid hA
      clear hA E1
      cases h1 : inI s[k].toNat 32 126
      · have E := E2 k hkn (by unfold prB; rw [h1]; rfl)
        clear E2 HA
        go_wp2_with fail
        refine (sIn _ _ _ _).mono ?_; rintro e w1 ⟨rfl, rfl⟩
        rw [h1]
        go_wp2_with fail
        go_ret
        exact ⟨ret_bool (by rw [E.out]; rfl), rfl⟩
      · cases h2 : ((s[k].toNat : Int) == b)
        · clear E2
          go_wp2_with fail
          refine (sIn _ _ _ _).mono ?_; rintro e w1 ⟨rfl, rfl⟩
          rw [h1]
          go_wp2_with fail
          go_round
          case rel => exact ⟨k + 1, by omega, by go_num, HA.out.succ hkn (by unfold prB; rw [h1, h2]; rfl)⟩
          case measure => simp [intOf]; omega
        · have E := E2 k hkn (by unfold prB; rw [h1, h2]; rfl)
          clear E2 HA
          go_wp2_with fail
          refine (sIn _ _ _ _).mono ?_; rintro e w1 ⟨rfl, rfl⟩
          rw [h1]
          go_wp2_with fail
          go_ret
          exact ⟨ret_bool (by rw [E.out]; rfl), rfl⟩
    · obtain rfl : k = s.size := by omega
      have E := E1 hA
      clear E1 E2 hA
      go_wp2_with fail
      go_ret
      exact ⟨ret_bool (by rw [E.out]; simp; omega), rfl⟩

set_option maxHeartbeats 400000 in
theorem iTextOk (s : ByteArray) (w : World) (hs : s.size ≤ 1048576) :
    Calls Tryz.prog 59 #[.string s] w fun e w' => e = .returned (.bool (plainB s 39 && decide (s.size ≤ 200))) ∧ w' = w := by
  by_cases h : (s.size : Int) ≤ 200
  · have hd : decide (s.size ≤ 200) = true := by simp; omega
    rw [hd]
    go_enter Tryz.func59, Tryz.ntmps59
    go_wp2_with fail
    refine (iPlain s 39 _ hs).mono ?_; rintro e w1 ⟨rfl, rfl⟩
    generalize hR : plainB s 39 = R
    go_wp2_with fail
    go_ret
    exact ⟨ret_bool (by rw [hR]; simp), rfl⟩
  · have hd : decide (s.size ≤ 200) = false := by simp; omega
    rw [hd]
    go_enter Tryz.func59, Tryz.ntmps59
    go_wp2_with fail
    go_ret
    exact ⟨ret_bool (by simp), rfl⟩

end Go.Proofs.YtemlnpncljomgaaGreatDoor
namespace Go.Proofs.YtemlnpncljomgaaGreatDoor
open Go.RowKit

def strs (xs : List ByteArray) : Array Value := (xs.map Value.string).toArray
theorem strs_at {w : World} {b : Nat} {xs : List ByteArray} (h : Blk w b 9 (strs xs)) {k : Nat} (hk : k < xs.length) : w.cell? ⟨b, k, none⟩ = some (.string xs[k]) := by
  have := h.cell k
  unfold strs at this
  rw [List.getElem?_toArray, List.getElem?_map, List.getElem?_eq_getElem hk] at this
  exact this

end Go.Proofs.YtemlnpncljomgaaGreatDoor
namespace Go.Proofs.YtemlnpncljomgaaGreatDoor
open Go.RowKit

def hasB (xs : List ByteArray) (s : ByteArray) : Bool := xs.any fun x => x.toList == s.toList
theorem hasB_at {xs : List ByteArray} {s : ByteArray} {k : Nat} (hk : k < xs.length) (h : (xs[k].toList == s.toList) = true) : hasB xs s = true := List.any_eq_true.2 ⟨xs[k], List.getElem_mem hk, h⟩
def noneOf (xs : List ByteArray) (s : ByteArray) (k : Nat) : Prop := ∀ i, i < k → ∀ h : i < xs.length, (xs[i].toList == s.toList) = false
theorem noneOf.zero (xs : List ByteArray) (s : ByteArray) : noneOf xs s 0 := fun i h => by omega
theorem noneOf.succ {xs : List ByteArray} {s : ByteArray} {k : Nat} (h : noneOf xs s k) (hk : k < xs.length) (hw : (xs[k].toList == s.toList) = false) : noneOf xs s (k + 1) := fun i hi hs => by
  rcases Nat.lt_or_ge i k with h1 | h1
  · exact h i h1 hs
  · obtain rfl : i = k := by omega
    exact hw
theorem noneOf.all {xs : List ByteArray} {s : ByteArray} (h : noneOf xs s xs.length) : hasB xs s = false := by
  refine List.any_eq_false.2 fun x hx => ?_
  obtain ⟨i, hi, rfl⟩ := List.getElem_of_mem hx
  rw [h i hi hi]
  exact Bool.false_ne_true
set_option maxHeartbeats 1000000 in
theorem sHas (b n : Nat) (xs : List ByteArray) (s : ByteArray) (w : World) (hb : Blk w b 9 (strs xs)) (hl : xs.length = n) (hn : n ≤ 1000) :
    Calls Tryz.prog 54 #[.slice (some ⟨b, 0, none⟩) n n, .string s] w fun e w' => e = .returned (.bool (hasB xs s)) ∧ w' = w := by
  subst hl
  have E1 := fun k hk h => Lib.hid (hasB_at (xs := xs) (s := s) (k := k) hk h)
  have E2 := fun h => Lib.hid (noneOf.all (xs := xs) (s := s) h)
  generalize hasB xs s = R at E1 E2 ⊢
  go_enter Tryz.func54, Tryz.ntmps54
  go_wp2_with fail
  go_loop [5] (fun i => ∃ k : Nat, k ≤ xs.length ∧ i = .int .i64 k ∧ noneOf xs s k) (fun i => xs.length - (intOf i).toNat)
  case atStart => exact ⟨0, Nat.zero_le _, rfl, noneOf.zero _ _⟩
  case round =>
    obtain ⟨k, hk, rfl, hN⟩ := hrel
    by_cases hlt : (k : Int) < xs.length
    · have hkn : k < xs.length := by omega
      have hc := strs_at hb hkn
      have HN := Lib.hid hN
      clear hN E2
      cases h1 : (xs[k].toList == s.toList)
      · have H := Lib.hid (HN.out.succ hkn h1)
        clear E1 HN
        generalize xs[k] = x at hc h1
        go_wp2_with fail
        go_round
        case rel => exact ⟨k + 1, by omega, by go_num, H.out⟩
        case measure => simp [intOf]; omega
      · have E := E1 k hkn h1
        clear E1 HN
        generalize xs[k] = x at hc h1
        go_wp2_with fail
        go_ret
        exact ⟨ret_bool E.out.symm, rfl⟩
    · obtain rfl : k = xs.length := by omega
      have E := E2 hN
      clear E1 E2 hN
      go_wp2_with fail
      go_ret
      exact ⟨ret_bool E.out.symm, rfl⟩

set_option maxHeartbeats 1000000 in
theorem iIndex (b n : Nat) (xs : List ByteArray) (s : ByteArray) (w : World) (hb : Blk w b 9 (strs xs)) (hl : xs.length = n) (hn : n ≤ 1000) :
    Calls Tryz.prog 74 #[.slice (some ⟨b, 0, none⟩) n n, .string s] w fun e w' => (∃ x : Int, e = .returned (.int .i64 x) ∧ decide (0 ≤ x) = hasB xs s) ∧ w' = w := by
  subst hl
  have E1 := fun k hk h => Lib.hid (hasB_at (xs := xs) (s := s) (k := k) hk h)
  have E2 := fun h => Lib.hid (noneOf.all (xs := xs) (s := s) h)
  generalize hasB xs s = R at E1 E2 ⊢
  go_enter Tryz.func74, Tryz.ntmps74
  go_wp2_with fail
  go_loop [5, 8] (fun _ i => ∃ k : Nat, k ≤ xs.length ∧ i = .int .i64 k ∧ noneOf xs s k) (fun _ i => xs.length - (intOf i).toNat)
  case atStart => exact ⟨0, Nat.zero_le _, rfl, noneOf.zero _ _⟩
  case round =>
    obtain ⟨k, hk, rfl, hN⟩ := hrel
    by_cases hlt : (k : Int) < xs.length
    · have hkn : k < xs.length := by omega
      have hc := strs_at hb hkn
      have HN := Lib.hid hN
      clear hN E2
      cases h1 : (xs[k].toList == s.toList)
      · have h2 : (s.toList == xs[k].toList) = false := by rw [Bool.beq_comm]; exact h1
        have H := Lib.hid (HN.out.succ hkn h1)
        clear E1 HN h1
        generalize xs[k] = x at hc h2
        go_wp2_with fail
        go_round
        case rel => exact ⟨k + 1, by omega, by go_num, H.out⟩
        case measure => simp [intOf]; omega
      · have h2 : (s.toList == xs[k].toList) = true := by rw [Bool.beq_comm]; exact h1
        have E := E1 k hkn h1
        clear E1 HN h1
        generalize xs[k] = x at hc h2
        go_wp2_with fail
        go_ret
        exact ⟨⟨k, rfl, by rw [E.out]; simp⟩, rfl⟩
    · obtain rfl : k = xs.length := by omega
      have E := E2 hN
      clear E1 E2 hN
      go_wp2_with fail
      go_ret
      exact ⟨⟨-1, rfl, by rw [E.out]; rfl⟩, rfl⟩

set_option maxHeartbeats 1000000 in
theorem iContains (b n : Nat) (xs : List ByteArray) (s : ByteArray) (w : World) (hb : Blk w b 9 (strs xs)) (hl : xs.length = n) (hn : n ≤ 1000) :
    Calls Tryz.prog 61 #[.slice (some ⟨b, 0, none⟩) n n, .string s] w fun e w' => e = .returned (.bool (hasB xs s)) ∧ w' = w := by
  go_enter Tryz.func61, Tryz.ntmps61
  go_wp2_with fail
  refine (iIndex b n xs s _ hb hl hn).mono ?_; rintro e w1 ⟨⟨x, rfl, hx⟩, rfl⟩
  have HX := Lib.hid hx
  clear hx
  go_wp2_with fail
  go_ret
  exact ⟨ret_bool HX.out, rfl⟩

def words : List ByteArray := [⟨#[98, 101, 103, 105, 110]⟩, ⟨#[101, 110, 100]⟩, ⟨#[102, 117, 110, 99]⟩, ⟨#[112, 114, 105, 110, 116]⟩, ⟨#[105, 102]⟩, ⟨#[101, 108, 115, 101]⟩, ⟨#[119, 104, 105, 108, 101]⟩, ⟨#[102, 111, 114]⟩, ⟨#[105, 110]⟩, ⟨#[110, 101, 120, 116]⟩, ⟨#[101, 120, 105, 116]⟩, ⟨#[114, 101, 116, 117, 114, 110]⟩, ⟨#[100, 101, 108, 101, 116, 101]⟩, ⟨#[108, 101, 110, 103, 116, 104]⟩, ⟨#[115, 117, 98, 115, 116, 114]⟩, ⟨#[105, 110, 100, 101, 120]⟩, ⟨#[117, 112, 112, 101, 114]⟩, ⟨#[103, 115, 117, 98]⟩, ⟨#[110, 114]⟩, ⟨#[110, 102]⟩]
set_option maxHeartbeats 400000 in
theorem sWords (w : World) :
    Calls Tryz.prog 70 #[] w fun e w' => e = .returned (.slice (some ⟨w.heap.size, 0, none⟩) 20 20) ∧ w' = w.alloc (.cells (strs words) 9) := by
  go_enter Tryz.func70, Tryz.ntmps70
  go_wp2_with fail
  go_ret
  exact ⟨rfl, rfl⟩

noncomputable def nameOkB (s : ByteArray) : Bool := nameB s && !hasB words s
set_option maxHeartbeats 1000000 in
theorem iNameOk (s : ByteArray) (w : World) (hs : s.size ≤ 1048576) :
    Calls Tryz.prog 60 #[.string s] w fun e w' => e = .returned (.bool (nameOkB s)) ∧ Below w.heap.size w w' := by
  unfold nameOkB
  have hB : Blk (w.alloc (.cells (strs words) 9)) w.heap.size 9 (strs words) := Blk.new w _ _
  go_enter Tryz.func60, Tryz.ntmps60
  go_wp2_with fail
  refine (iName s _ hs).mono ?_; rintro e w1 ⟨rfl, rfl⟩
  cases h : nameB s
  · go_wp2_with fail
    go_ret
    exact ⟨ret_bool (by rw [h]; rfl), by repeat (first | exact Below.refl _ _ | refine bl_drewN ?_ _ | refine Below.drew ?_ | refine bl_alloc ?_ _ | refine bl_set ?_ (by simp) _ | refine bl_trans ?_ (by assumption))⟩
  · go_wp2_with fail
    refine (iContains w.heap.size 20 words s _ hB rfl (by omega)).mono ?_; rintro e w1 ⟨rfl, rfl⟩
    generalize hR : hasB words s = R
    go_wp2_with fail
    go_ret
    exact ⟨ret_bool (by rw [h, hR]; rfl), by repeat (first | exact Below.refl _ _ | refine bl_drewN ?_ _ | refine Below.drew ?_ | refine bl_alloc ?_ _ | refine bl_set ?_ (by simp) _ | refine bl_trans ?_ (by assumption))⟩
set_option maxHeartbeats 1000000 in
theorem sNameOk (s : ByteArray) (w : World) (hs : s.size ≤ 1048576) :
    Calls Tryz.prog 53 #[.string s] w fun e w' => e = .returned (.bool (nameOkB s)) ∧ Below w.heap.size w w' := by
  unfold nameOkB
  have hB : Blk (w.alloc (.cells (strs words) 9)) w.heap.size 9 (strs words) := Blk.new w _ _
  go_enter Tryz.func53, Tryz.ntmps53
  go_wp2_with fail
  refine (sWord s _ hs).mono ?_; rintro e w1 ⟨rfl, rfl⟩
  cases h : nameB s
  · go_wp2_with fail
    go_ret
    exact ⟨ret_bool (by rw [h]; rfl), by repeat (first | exact Below.refl _ _ | refine bl_drewN ?_ _ | refine Below.drew ?_ | refine bl_alloc ?_ _ | refine bl_set ?_ (by simp) _ | refine bl_trans ?_ (by assumption))⟩
  · go_wp2_with fail
    refine (sWords _).mono ?_; rintro e w2 ⟨rfl, rfl⟩
    go_wp2_with fail
    refine (sHas w1.heap.size 20 words s _ hB rfl (by omega)).mono ?_; rintro e w3 ⟨rfl, rfl⟩
    generalize hR : hasB words s = R
    go_wp2_with fail
    go_ret
    exact ⟨ret_bool (by rw [h, hR]; rfl), by repeat (first | exact Below.refl _ _ | refine bl_drewN ?_ _ | refine Below.drew ?_ | refine bl_alloc ?_ _ | refine bl_set ?_ (by simp) _ | refine bl_trans ?_ (by assumption))⟩

end Go.Proofs.YtemlnpncljomgaaGreatDoor
namespace Go.Proofs.YtemlnpncljomgaaGreatDoor
open Go.RowKit

def rexC (a : (Int × ByteArray)) : List Value := [.int .i64 a.1, .string a.2]
theorem rexC_len (a : (Int × ByteArray)) : (rexC a).length + 1 = 3 := rfl
theorem info_Rex : (Tryz.prog.info? 82).map (fun i => (i.zero, i.size, i.bytes)) = some (some (.agg #[.int .i64 0, .string ⟨#[]⟩, .slice none 0 0]), 3, 48) := by kernel_rfl
theorem at_Rex {w : World} {lo hi : Nat} {A : Option Addr} {fr : Fr (Int × ByteArray)} (h : Sl rexC w lo hi A fr) {i : Nat} (hi' : i < fr.len) :
    ∃ b o a kids A' c', A = some ⟨b, o, none⟩ ∧ b < hi ∧ fr.drop i = .cons a kids (fr.drop (i + 1)) ∧ kids.size < fr.size ∧ Sl rexC w lo hi A' kids ∧
      w.cell? ⟨b, o + i * 3, none⟩ = some (.int .i64 a.1) ∧ w.cell? ⟨b, o + i * 3 + 1, none⟩ = some (.string a.2) ∧ w.cell? ⟨b, o + i * 3 + 2, none⟩ = some (.slice A' kids.len c') := by
  obtain ⟨b, o, a, kids, A', c', e, _, h2, hd, hs, hc, hS⟩ := h.at_ rexC_len hi'
  exact ⟨b, o, a, kids, A', c', e, h2, hd, hs, hS, hc 0 _ rfl, hc 1 _ rfl, hc 2 _ rfl⟩
end Go.Proofs.YtemlnpncljomgaaGreatDoor
namespace Go.Proofs.YtemlnpncljomgaaGreatDoor
open Go.RowKit

def sVs (xs : List ByteArray) : List Value := xs.map Value.string
theorem info_str : (Tryz.prog.info? 9).map (fun i => (i.zero, i.size, i.bytes)) = some (some (.string ⟨#[]⟩), 1, 16) := by kernel_rfl
theorem sVs_get (zs : List ByteArray) (k : Nat) (hk : k < zs.length) : (sVs zs)[k]? = some (.string zs[k]) := by simp [sVs, hk]
end Go.Proofs.YtemlnpncljomgaaGreatDoor
namespace Go.Proofs.YtemlnpncljomgaaGreatDoor
open Go.RowKit

def gRex (a : (Int × ByteArray)) : Nat := a.2.size
end Go.Proofs.YtemlnpncljomgaaGreatDoor
namespace Go.Proofs.YtemlnpncljomgaaGreatDoor
open Go.RowKit

section
variable {α : Type} (f : α → List Value) (w : World) (P : Nat → Prop)
def FrP : Fr α → Nat → Nat → Prop
  | .nil, _, _ => True
  | .cons a kids rest, b, off =>
    (∃ A c, (∀ j u, (f a ++ [Value.slice A kids.len c])[j]? = some u → w.cell? ⟨b, off + j, none⟩ = some u) ∧
      (0 < kids.len → ∃ b' o', A = some ⟨b', o', none⟩ ∧ P b' ∧ FrP kids b' o')) ∧
    FrP rest b (off + ((f a).length + 1))
def SlP (A : Option Addr) (fr : Fr α) : Prop := 0 < fr.len → ∃ b o, A = some ⟨b, o, none⟩ ∧ P b ∧ FrP f w P fr b o
end
section
variable {α : Type} {f : α → List Value} {w w' : World} {P P' : Nat → Prop} {lo hi : Nat}
theorem FrP.keep (hk : ∀ p : Addr, P p.block → w'.cell? p = w.cell? p) (hP : ∀ b, P b → P' b) : ∀ (fr : Fr α) (b off : Nat), P b → FrP f w P fr b off → FrP f w' P' fr b off
  | .nil, _, _, _, _ => trivial
  | .cons a kids rest, b, off, h1, h => by
    obtain ⟨⟨A, c, hc, hk'⟩, hr⟩ := h
    refine ⟨⟨A, c, fun j u hu => (hk ⟨b, off + j, none⟩ h1).trans (hc j u hu), fun hp => ?_⟩, FrP.keep hk hP rest b _ h1 hr⟩
    obtain ⟨b', o', e, q1, hi2⟩ := hk' hp
    exact ⟨b', o', e, hP b' q1, FrP.keep hk hP kids b' o' q1 hi2⟩
theorem SlP.keep {A : Option Addr} {fr : Fr α} (h : SlP f w P A fr) (hk : ∀ p : Addr, P p.block → w'.cell? p = w.cell? p) (hP : ∀ b, P b → P' b) : SlP f w' P' A fr := fun hp => by
  obtain ⟨b, o, e, h1, h3⟩ := h hp
  exact ⟨b, o, e, hP b h1, FrP.keep hk hP fr b o h1 h3⟩
theorem FrP.to (hP : ∀ b, P b → lo ≤ b ∧ b < hi) : ∀ (fr : Fr α) (b off : Nat), FrP f w P fr b off → FrIn f w lo hi fr b off
  | .nil, _, _, _ => trivial
  | .cons a kids rest, b, off, h => by
    obtain ⟨⟨A, c, hc, hk'⟩, hr⟩ := h
    refine ⟨⟨A, c, hc, fun hp => ?_⟩, FrP.to hP rest b _ hr⟩
    obtain ⟨b', o', e, q1, q3⟩ := hk' hp
    exact ⟨b', o', e, (hP b' q1).1, (hP b' q1).2, FrP.to hP kids b' o' q3⟩
theorem SlP.to {A : Option Addr} {fr : Fr α} (h : SlP f w P A fr) (hP : ∀ b, P b → lo ≤ b ∧ b < hi) : Sl f w lo hi A fr := fun hp => by
  obtain ⟨b, o, e, h1, h3⟩ := h hp
  exact ⟨b, o, e, (hP b h1).1, (hP b h1).2, FrP.to hP fr b o h3⟩
def mkFr : List (α × Fr α) → Fr α
  | [] => .nil
  | x :: r => .cons x.1 x.2 (mkFr r)
theorem mkFr_len : ∀ L : List (α × Fr α), (mkFr L).len = L.length
  | [] => rfl
  | x :: r => by show (mkFr r).len + 1 = _; rw [mkFr_len r]; rfl
def Fit (f : α → List Value) (w : World) (P : Nat → Prop) (L : List (α × Fr α)) (l : List (α × Value)) : Prop :=
  l.length = L.length ∧ ∀ i (h : i < L.length), ∃ A c, l[i]? = some (L[i].1, .slice A L[i].2.len c) ∧ SlP f w P A L[i].2
theorem Fit.nil (f : α → List Value) (w : World) (P : Nat → Prop) : Fit f w P [] [] := ⟨rfl, fun _ h => absurd h (Nat.not_lt_zero _)⟩
theorem Fit.keep {L : List (α × Fr α)} {l : List (α × Value)} (h : Fit f w P L l) (hk : ∀ p : Addr, P p.block → w'.cell? p = w.cell? p) (hP : ∀ b, P b → P' b) : Fit f w' P' L l :=
  ⟨h.1, fun i hi => by
    obtain ⟨A, c, h1, h2⟩ := h.2 i hi
    exact ⟨A, c, h1, h2.keep hk hP⟩⟩
theorem Fit.snoc {L : List (α × Fr α)} {l : List (α × Value)} (h : Fit f w P L l) {a : α} {kids : Fr α} {A : Option Addr} {c : Nat} (hS : SlP f w P A kids) : Fit f w P (L ++ [(a, kids)]) (l ++ [(a, .slice A kids.len c)]) := by
  refine ⟨by rw [List.length_append, List.length_append, h.1]; rfl, fun i hi => ?_⟩
  rcases Nat.lt_or_ge i L.length with h1 | h1
  · obtain ⟨A', c', h2, h3⟩ := h.2 i h1
    refine ⟨A', c', ?_, ?_⟩
    · rw [List.getElem?_append_left (by rw [h.1]; exact h1), List.getElem_append_left h1]
      exact h2
    · rw [List.getElem_append_left h1]
      exact h3
  · have e : i = L.length := by rw [List.length_append] at hi; have : [(a, kids)].length = 1 := rfl; omega
    subst e
    refine ⟨A, c, ?_, ?_⟩
    · rw [List.getElem?_append_right (by rw [h.1]; exact Nat.le_refl _), h.1, Nat.sub_self, List.getElem_append_right (Nat.le_refl _)]
      simp
    · rw [List.getElem_append_right (Nat.le_refl _)]
      simpa using hS
end
theorem wpList_pushB {P : Program} {w : World} {ops : Array Oper} {rest : List Oper} {o : Oper} {a : Act} {Q : Exit → Act → World → Prop} (hgd : o.guard = none) (s x : Operand) (t : TypeId)
    (ho : o.op = .call { callee := .builtin .append, args := #[s, x], argTypes := #[t, t] })
    (base : Nat) (e : TypeId) (i : TypeInfo) (z : Value) (size bytes : Nat) (ht : P.underlying t = some (.slice e)) (hi : P.info? e = some i) (hz : i.zero = some z)
    (hsize : i.size = size) (hby : i.bytes = bytes) (hzs : z.cells.size = size) (hsz : 0 < size)
    (v : Value) (n : Nat) (xs : List Value) (hs : a.eval s = v) (hown : w.ownsRow base e size v n xs)
    (news : List Value) (hl : news.length = size) (hx : a.eval x = .slice (some ⟨w.heap.size, 0, none⟩) 1 1) (h1 : news.all Value.oneCell' = true)
    (h63 : n + 1 ≤ 1099511627776) (hbytes : bytes ≤ 128) (hbase : base ≤ w.heap.size)
    (h : ∀ v' w', w'.ownsRow base e size v' (n + 1) (xs ++ news) → w.grownBy w' v.ownBlock → (v'.ownBlock = v.ownBlock ∨ ∃ k, v'.ownBlock = some k ∧ w.heap.size < k) → wpList P ops Q rest (a.put o.dst v') w') :
    wpList P ops Q (o :: rest) a (w.alloc (.cells news.toArray e)) := by
  refine wpList_append_any _ hgd s x t ho base e i z size bytes ht hi hz hsize hby hzs hsz v n xs hs (hown.alloc _) (w.heap.size + 1) (some ⟨w.heap.size, 0, none⟩) 1 1 news hx ⟨by omega, fun _ => ⟨w.heap.size, 0, rfl, Nat.lt_succ_self _, fun j u hu => ?_⟩⟩ (fun u hu => List.all_eq_true.1 h1 u hu) (by unfold maxLen; omega)
    (Nat.le_trans (Nat.mul_le_mul h63 hbytes) (by omega)) (by simp; omega) (fun v' w' hO hg h3 => h v' w' hO (grown_alloc hg) (h3.imp id fun h4 => ⟨_, h4, by rw [alloc_size]; exact Nat.lt_succ_self _⟩))
  rw [Nat.zero_add, World.cell?_alloc_mark]
  simpa using hu

end Go.Proofs.YtemlnpncljomgaaGreatDoor
namespace Go.Proofs.YtemlnpncljomgaaGreatDoor
open Go.RowKit

def bStr (zs : List Int) : ByteArray := ⟨(zs.map fun n => UInt8.ofNat n.toNat).toArray⟩
theorem conv_bytes {w : World} {Bd : Nat} {A : Option Addr} {n c : Nat} {zs : List Int} (h : Reads w Bd 1 A n (u8s zs)) (hn : zs.length = n) (hZ : Byt zs) :
    (convert 60 9 (.slice A n c)).run Tryz.prog w = .ok (.string (bStr zs)) w := by
  subst hn
  have back : ∀ a : Addr, (∀ j (hj : j < zs.length), w.cell? (a.add j) = some (.int .u8 zs[j])) → (convert 60 9 (.slice (some a) zs.length c)).run Tryz.prog w = .ok (.string (bStr zs)) w := by
    intro a ha
    have := run_convert_bytes_back (P := Tryz.prog) w 60 9 5 a c (zs.map fun n => UInt8.ofNat n.toNat) Tryz.underlying60 Tryz.underlying5 Tryz.underlying9 (fun j hj => by
      have hj' : j < zs.length := by simpa using hj
      rw [ha j hj', List.getElem_map]
      have := hZ zs[j] (List.getElem_mem hj')
      congr 2
      rw [UInt8.toNat_ofNat']
      omega)
    rw [List.length_map] at this
    exact this
  cases A with
  | none =>
    have hz : zs = [] := by
      rcases Nat.eq_zero_or_pos zs.length with h0 | h0
      · exact List.eq_nil_of_length_eq_zero h0
      · obtain ⟨_, _, h1, _⟩ := h.2 h0
        cases h1
    subst hz
    exact run_convert_bytes_nil w 60 5 Tryz.underlying60 Tryz.underlying5 _ _ 9 Tryz.underlying9
  | some a =>
    refine back a (fun j hj => ?_)
    obtain ⟨b, off, h1, _, hc⟩ := h.2 (by omega)
    cases h1
    rw [add_plain]
    exact hc j _ (u8s_get zs j hj)
end Go.Proofs.YtemlnpncljomgaaGreatDoor
namespace Go.Proofs.YtemlnpncljomgaaGreatDoor
open Go.RowKit Go.Sort

def itoaS (n : Int) : ByteArray := ⟨(Lib.itoa n).toArray⟩
theorem bl_grow (w : World) (n : Nat) (os : Array Obj) : Below w.heap.size w (grow (w.drewN n) os) :=
  ⟨rfl, rfl, rfl, by simp [grow, World.drewN], fun i hi => by
    show (w.heap ++ os)[i]? = _
    rw [Array.getElem?_append_left hi]⟩
set_option maxHeartbeats 400000 in
theorem iDigits (n : Int) (w : World) (h0 : -9223372036854775808 ≤ n) (h1 : n ≤ 9223372036854775807) (hT : Tab w) :
    Calls Tryz.prog 37 #[.int .i64 n] w fun e w' => e = .returned (.string (itoaS n)) ∧ Below w.heap.size w w' := by
  go_enter Tryz.func37, Tryz.ntmps37
  go_wp2_with fail
  refine (Tryz.strconv_Itoa n h0 h1 _ hT).mono ?_; rintro e w1 ⟨rfl, k, os, rfl⟩
  go_wp2_with fail
  go_ret
  exact ⟨rfl, bl_grow _ _ _⟩

theorem conv_in (W : World) (b : Nat) (z : Int) (h0 : 0 ≤ z) (h1 : z < 256) (hc : W.cell? ⟨b, 0, none⟩ = some (.int .u8 z)) : (convert 60 9 (.slice (some ⟨b, 0, none⟩) 1 1)).run Tryz.prog W = .ok (.string (bStr [z])) W := by
  have hR : Reads W (b + 1) 1 (some ⟨b, 0, none⟩) 1 (u8s [z]) := ⟨rfl, fun _ => ⟨_, _, rfl, by omega, fun j u hu => by
    cases j with
    | zero =>
      cases hu
      exact hc
    | succ j => cases hu⟩⟩
  exact conv_bytes hR rfl (fun x hx => by simp at hx; subst hx; exact ⟨h0, h1⟩)
theorem new_cell (w : World) (z : Int) : (w.alloc (.cells #[.int .u8 z] 5)).cell? ⟨w.heap.size, 0, none⟩ = some (.int .u8 z) := (Blk.new w 5 #[.int .u8 z]).cell 0
theorem bs_append (l m : List UInt8) : (⟨l.toArray⟩ : ByteArray) ++ ⟨m.toArray⟩ = ⟨(l ++ m).toArray⟩ := by
  apply ByteArray.ext
  rw [ByteArray.data_append]
  simp
theorem bStr_one (z : Int) : bStr [z] = ⟨[UInt8.ofNat z.toNat].toArray⟩ := rfl
theorem td_neg (n : Int) (h : n ≤ 0) : n.tdiv 10 = -((-n) / 10) ∧ n.tmod 10 = -((-n) % 10) := by
  obtain ⟨m, rfl⟩ : ∃ m : Int, n = -m := ⟨-n, by omega⟩
  rw [Int.neg_tdiv, Int.neg_tmod, Int.tdiv_eq_ediv_of_nonneg (by omega), Int.tmod_eq_emod_of_nonneg (by omega), Int.neg_neg]
  exact ⟨rfl, rfl⟩
theorem td_pos (n : Int) (h : 0 ≤ n) : n.tdiv 10 = n / 10 ∧ n.tmod 10 = n % 10 := by
  rw [Int.tdiv_eq_ediv_of_nonneg h, Int.tmod_eq_emod_of_nonneg h]
  exact ⟨rfl, rfl⟩
theorem decDigits_more (u : Nat) (h : ¬ u < 10) : Lib.decDigits u = Lib.decDigits (u / 10) ++ [UInt8.ofNat (48 + u % 10)] := by rw [Lib.decDigits, dif_neg h]
theorem itoaS_neg (n d r : Int) (h : n < -9) (hd : n.tdiv 10 = d) (hr : n.tmod 10 = r) : ⟨#[45]⟩ ++ itoaS (-d) ++ bStr [48 - r] = itoaS n := by
  have t := td_neg n (by omega)
  rw [hd, hr] at t
  have hn : ¬ n.natAbs < 10 := by omega
  have e1 : n.natAbs / 10 = (-d).toNat := by omega
  have e2 : 48 + n.natAbs % 10 = (48 - r).toNat := by omega
  unfold itoaS Lib.itoa
  rw [if_neg (by omega), if_pos (by omega), decDigits_more _ hn, e1, e2, bStr_one, show (⟨#[45]⟩ : ByteArray) = ⟨[(45 : UInt8)].toArray⟩ from rfl, bs_append, bs_append]
  rfl
theorem itoaS_neg1 (n : Int) (h : -9 ≤ n) (h0 : n < 0) : ⟨#[45]⟩ ++ bStr [48 - n] = itoaS n := by
  have e2 : 48 + n.natAbs = (48 - n).toNat := by omega
  unfold itoaS Lib.itoa
  rw [if_pos (by omega), Lib.decDigits_one (by omega), e2, bStr_one, show (⟨#[45]⟩ : ByteArray) = ⟨[(45 : UInt8)].toArray⟩ from rfl, bs_append]
  rfl
theorem itoaS_one (n : Int) (h : 0 ≤ n) (h0 : n < 10) : bStr [48 + n] = itoaS n := by
  have e2 : 48 + n.toNat = (48 + n).toNat := by omega
  unfold itoaS Lib.itoa
  rw [if_neg (by omega), Lib.decDigits_one (by omega), e2, bStr_one]
theorem itoaS_pos (n d r : Int) (h : 10 ≤ n) (hd : n.tdiv 10 = d) (hr : n.tmod 10 = r) : itoaS d ++ bStr [48 + r] = itoaS n := by
  have t := td_pos n (by omega)
  rw [hd, hr] at t
  have e1 : n.toNat / 10 = d.toNat := by omega
  have e2 : 48 + n.toNat % 10 = (48 + r).toNat := by omega
  unfold itoaS Lib.itoa
  rw [if_neg (by omega), if_neg (by omega), decDigits_more n.toNat (by omega), e1, e2, bStr_one, bs_append]
theorem nDigits_le : ∀ (k u : Nat), u < 10 ^ (k + 1) → Lib.nDigits u ≤ k + 1
  | 0, u, h => by rw [Lib.nDigits_small (by simpa using h)]; omega
  | k + 1, u, h => by
    by_cases h1 : u < 10
    · rw [Lib.nDigits_small h1]; omega
    · rw [Lib.nDigits_big h1]
      have := nDigits_le k (u / 10) (by rw [Nat.pow_succ] at h; omega)
      omega
theorem itoaS_size (n : Int) (h0 : -9223372036854775808 ≤ n) (h1 : n ≤ 9223372036854775808) : (itoaS n).size ≤ 21 := by
  unfold itoaS Lib.itoa
  split
  · have := nDigits_le 18 n.natAbs (by omega)
    simp [ByteArray.size, Lib.decDigits_length]
    omega
  · have := nDigits_le 18 n.toNat (by omega)
    simp [ByteArray.size, Lib.decDigits_length]
    omega
theorem i64_wrap (x : Int) (h0 : -9223372036854775808 ≤ x) (h1 : x ≤ 9223372036854775807) : IntKind.i64.wrap x = x := by rw [IntKind.wrap_i64]; omega

set_option maxRecDepth 20000 in
set_option maxHeartbeats 1000000 in
theorem sL2Num : ∀ (f : Nat) (n : Int) (w : World), n.natAbs < f → -9223372036854775808 ≤ n → n ≤ 9223372036854775807 →
    Calls Tryz.prog 34 #[.int .i64 n] w fun e w' => e = .returned (.string (itoaS n)) ∧ Below w.heap.size w w' := by
  intro f
  induction f with
  | zero => intro n w h; omega
  | succ f ih =>
    intro n w hf h0 h1
    by_cases c1 : n < -9
    · obtain ⟨d, hd⟩ : ∃ d, n.tdiv 10 = d := ⟨_, rfl⟩
      obtain ⟨r, hr⟩ : ∃ r, n.tmod 10 = r := ⟨_, rfl⟩
      obtain ⟨hf', hd0, hr0⟩ : (-d).natAbs < f ∧ (-9223372036854775807 ≤ d ∧ d ≤ 0) ∧ (-9 ≤ r ∧ r ≤ 0) := by
        have t := td_neg n (by omega)
        rw [hd, hr] at t
        omega
      have e1 := i64_wrap d (by omega) (by omega)
      have e2 := i64_wrap (-d) (by omega) (by omega)
      have e3 := i64_wrap (48 - r) (by omega) (by omega)
      have e4 : IntKind.u8.wrap (48 - r) = 48 - r := by rw [IntKind.wrap_u8]; omega
      have K := conv_in (w.alloc (.cells #[.int .u8 (48 - r)] 5)).drew w.heap.size (48 - r) (by omega) (by omega) (new_cell w _)
      have E := Lib.hid (itoaS_neg n d r c1 hd hr)
      have hz := itoaS_size (-d) (by omega) (by omega)
      have I := fun w => ih (-d) w hf' (by omega) (by omega)
      generalize itoaS (-d) = T at E hz I
      have II := Lib.hid I
      clear I
      have hs : (bStr [48 - r]).size = 1 := rfl
      go_enter Tryz.func34, Tryz.ntmps34
      go_wp2_with fail
      go_region_with (first | (go_at_call 34; refine (II.out _).mono ?_; rintro e w1 ⟨rfl, b1⟩; have K1 := conv_in (w1.alloc (.cells #[.int .u8 (48 - r)] 5)) w1.heap.size (48 - r) (by omega) (by omega) (new_cell w1 _); try have K2 := conv_in w1 w.heap.size (48 - r) (by omega) (by omega) ((b1.cell (show w.heap.size < _ by simp [World.drew])).trans (new_cell w _))))
      all_goals go_wp2_with fail
      all_goals go_ret
      all_goals exact ⟨congrArg (fun s => Ending.returned (.string s)) E.out, by repeat (first | exact Below.refl _ _ | refine bl_drewN ?_ _ | refine Below.drew ?_ | refine bl_alloc ?_ _ | refine bl_set ?_ (by simp) _ | refine bl_trans ?_ (by assumption))⟩
    by_cases c2 : n < 0
    · have K := conv_in (w.alloc (.cells #[.int .u8 (48 - n)] 5)) w.heap.size (48 - n) (by omega) (by omega) (new_cell w _)
      have hs : (bStr [48 - n]).size = 1 := rfl
      have E := Lib.hid (itoaS_neg1 n (by omega) c2)
      go_enter Tryz.func34, Tryz.ntmps34
      go_wp2_with fail
      go_ret
      exact ⟨congrArg (fun s => Ending.returned (.string s)) E.out, bl_alloc (Below.refl _ _) _⟩
    by_cases c3 : n < 10
    · have K := conv_in (w.alloc (.cells #[.int .u8 (48 + n)] 5)) w.heap.size (48 + n) (by omega) (by omega) (new_cell w _)
      have E := Lib.hid (itoaS_one n (by omega) c3)
      go_enter Tryz.func34, Tryz.ntmps34
      go_wp2_with fail
      go_ret
      exact ⟨congrArg (fun s => Ending.returned (.string s)) E.out, bl_alloc (Below.refl _ _) _⟩
    · obtain ⟨d, hd⟩ : ∃ d, n.tdiv 10 = d := ⟨_, rfl⟩
      obtain ⟨r, hr⟩ : ∃ r, n.tmod 10 = r := ⟨_, rfl⟩
      obtain ⟨hf', hd0, hr0⟩ : d.natAbs < f ∧ (0 ≤ d ∧ d ≤ 9223372036854775807) ∧ (0 ≤ r ∧ r ≤ 9) := by
        have t := td_pos n (by omega)
        rw [hd, hr] at t
        omega
      have e1 := i64_wrap d (by omega) (by omega)
      have e3 := i64_wrap (48 + r) (by omega) (by omega)
      have e4 : IntKind.u8.wrap (48 + r) = 48 + r := by rw [IntKind.wrap_u8]; omega
      have K := conv_in (w.alloc (.cells #[.int .u8 (48 + r)] 5)).drew w.heap.size (48 + r) (by omega) (by omega) (new_cell w _)
      have E := Lib.hid (itoaS_pos n d r (by omega) hd hr)
      have hz := itoaS_size d (by omega) (by omega)
      have I := fun w => ih d w hf' (by omega) (by omega)
      generalize itoaS d = T at E hz I
      have II := Lib.hid I
      clear I
      have hs : (bStr [48 + r]).size = 1 := rfl
      go_enter Tryz.func34, Tryz.ntmps34
      go_wp2_with fail
      go_region_with (first | (go_at_call 34; refine (II.out _).mono ?_; rintro e w1 ⟨rfl, b1⟩; have K1 := conv_in (w1.alloc (.cells #[.int .u8 (48 + r)] 5)) w1.heap.size (48 + r) (by omega) (by omega) (new_cell w1 _); try have K2 := conv_in w1 w.heap.size (48 + r) (by omega) (by omega) ((b1.cell (show w.heap.size < _ by simp [World.drew])).trans (new_cell w _))))
      all_goals go_wp2_with fail
      all_goals go_ret
      all_goals exact ⟨congrArg (fun s => Ending.returned (.string s)) E.out, by repeat (first | exact Below.refl _ _ | refine bl_drewN ?_ _ | refine Below.drew ?_ | refine bl_alloc ?_ _ | refine bl_set ?_ (by simp) _ | refine bl_trans ?_ (by assumption))⟩

end Go.Proofs.YtemlnpncljomgaaGreatDoor
namespace Go.Proofs.YtemlnpncljomgaaGreatDoor
open Go.RowKit

inductive St where
  | nil : St
  | cons (a : Int × ByteArray × ByteArray) (x : Fr (Int × Int × ByteArray)) (p q rest : St) : St
namespace St
def len : St → Nat
  | .nil => 0
  | .cons _ _ _ _ r => r.len + 1
def size : St → Nat
  | .nil => 0
  | .cons _ x p q r => x.size + p.size + q.size + r.size + 1
def drop : St → Nat → St
  | fr, 0 => fr
  | .nil, _ + 1 => .nil
  | .cons _ _ _ _ r, n + 1 => r.drop n
theorem drop_zero (fr : St) : fr.drop 0 = fr := by cases fr <;> rfl
theorem drop_at : ∀ (fr : St) (i : Nat), i < fr.len → ∃ a x p q, fr.drop i = .cons a x p q (fr.drop (i + 1))
  | .nil, i, h => by simp [len] at h
  | .cons a x p q r, 0, _ => ⟨a, x, p, q, by rw [drop_zero]; show _ = St.cons a x p q (r.drop 0); rw [drop_zero]⟩
  | .cons _ _ _ _ r, i + 1, h => drop_at r i (by simpa [len] using h)
theorem drop_all : ∀ (fr : St), fr.drop fr.len = .nil
  | .nil => rfl
  | .cons _ _ _ _ r => drop_all r
theorem drop_size : ∀ (fr : St) (i : Nat), (fr.drop i).size ≤ fr.size
  | fr, 0 => by rw [drop_zero]; exact Nat.le_refl _
  | .nil, i + 1 => Nat.le_refl _
  | .cons _ x p q r, i + 1 => by have := drop_size r i; show (r.drop i).size ≤ x.size + p.size + q.size + r.size + 1; omega
theorem size_pos {fr : St} (h : fr.size = 0) : fr = .nil := by cases fr with | nil => rfl | cons a x p q r => simp [size] at h
theorem len_size : ∀ (fr : St), fr.len ≤ fr.size
  | .nil => Nat.le_refl _
  | .cons _ x p q r => by have := len_size r; show r.len + 1 ≤ x.size + p.size + q.size + r.size + 1; omega
end St

def stC (a : Int × ByteArray × ByteArray) (x p q : Value) : List Value := [.int .i64 a.1, .string a.2.1, .string a.2.2, x, p, q]
section
variable (w : World) (lo hi : Nat)
def StIn : St → Nat → Nat → Prop
  | .nil, _, _ => True
  | .cons a x p q rest, b, off =>
    (∃ X cx A ca B cb, (∀ j u, (stC a (.slice X x.len cx) (.slice A p.len ca) (.slice B q.len cb))[j]? = some u → w.cell? ⟨b, off + j, none⟩ = some u) ∧
      Sl exprC w lo hi X x ∧
      (0 < p.len → ∃ b' o', A = some ⟨b', o', none⟩ ∧ lo ≤ b' ∧ b' < hi ∧ StIn p b' o') ∧
      (0 < q.len → ∃ b' o', B = some ⟨b', o', none⟩ ∧ lo ≤ b' ∧ b' < hi ∧ StIn q b' o')) ∧
    StIn rest b (off + 6)
def SlS (A : Option Addr) (fr : St) : Prop := 0 < fr.len → ∃ b o, A = some ⟨b, o, none⟩ ∧ lo ≤ b ∧ b < hi ∧ StIn w lo hi fr b o
end
section
variable {w w' : World} {lo hi lo' hi' : Nat}
theorem StIn.keep (hk : ∀ p : Addr, lo ≤ p.block → p.block < hi → w'.cell? p = w.cell? p) (hl : lo' ≤ lo) (hh : hi ≤ hi') : ∀ (fr : St) (b off : Nat), lo ≤ b → b < hi → StIn w lo hi fr b off → StIn w' lo' hi' fr b off
  | .nil, _, _, _, _, _ => trivial
  | .cons a x p q rest, b, off, h1, h2, h => by
    obtain ⟨⟨X, cx, A, ca, B, cb, hc, hx, hp, hq⟩, hr⟩ := h
    refine ⟨⟨X, cx, A, ca, B, cb, fun j u hu => (hk ⟨b, off + j, none⟩ h1 h2).trans (hc j u hu), hx.keep hk hl hh, fun h0 => ?_, fun h0 => ?_⟩, StIn.keep hk hl hh rest b _ h1 h2 hr⟩
    · obtain ⟨b', o', e, q1, q2, hi2⟩ := hp h0
      exact ⟨b', o', e, by omega, by omega, StIn.keep hk hl hh p b' o' q1 q2 hi2⟩
    · obtain ⟨b', o', e, q1, q2, hi2⟩ := hq h0
      exact ⟨b', o', e, by omega, by omega, StIn.keep hk hl hh q b' o' q1 q2 hi2⟩
theorem SlS.keep {A : Option Addr} {fr : St} (h : SlS w lo hi A fr) (hk : ∀ p : Addr, lo ≤ p.block → p.block < hi → w'.cell? p = w.cell? p) (hl : lo' ≤ lo) (hh : hi ≤ hi') : SlS w' lo' hi' A fr := fun hp => by
  obtain ⟨b, o, e, h1, h2, h3⟩ := h hp
  exact ⟨b, o, e, by omega, by omega, StIn.keep hk hl hh fr b o h1 h2 h3⟩
theorem SlS.below {A : Option Addr} {fr : St} (h : SlS w lo hi A fr) {B : Nat} (hb : Below B w w') (hB : hi ≤ B) : SlS w' lo hi A fr := h.keep (fun _ _ h2 => hb.cell (by omega)) (Nat.le_refl _) (Nat.le_refl _)
theorem SlS.set {A : Option Addr} {fr : St} (h : SlS w lo hi A fr) {p : Addr} (hp : p.block < lo ∨ hi ≤ p.block) (u : Value) : SlS (w.setCell p u) lo hi A fr := h.keep (fun q h1 h2 => World.cell?_setCell_other w p q u (fun e => by subst e; omega)) (Nat.le_refl _) (Nat.le_refl _)
theorem SlS.setb {A : Option Addr} {fr : St} (h : SlS w lo hi A fr) {b j : Nat} (hp : b < lo ∨ hi ≤ b) (u : Value) : SlS (w.setCell ⟨b, j, none⟩ u) lo hi A fr := h.set (p := ⟨b, j, none⟩) hp u
theorem SlS.more {A : Option Addr} {fr : St} (h : SlS w lo hi A fr) (hl : lo' ≤ lo) (hh : hi ≤ hi') : SlS w lo' hi' A fr := h.keep (fun _ _ _ => rfl) hl hh
theorem StIn.drop : ∀ (fr : St) (i b off : Nat), StIn w lo hi fr b off → StIn w lo hi (fr.drop i) b (off + i * 6)
  | fr, 0, b, off, h => by rw [St.drop_zero, Nat.zero_mul, Nat.add_zero]; exact h
  | .nil, i + 1, b, off, _ => trivial
  | .cons a x p q r, i + 1, b, off, h => by
    have := StIn.drop r i b _ h.2
    rw [Nat.succ_mul, Nat.add_comm (i * 6), ← Nat.add_assoc]
    exact this
theorem SlS.at_ {A : Option Addr} {fr : St} (h : SlS w lo hi A fr) {i : Nat} (hi' : i < fr.len) :
    ∃ b o a x p q X cx P cp Q cq, A = some ⟨b, o, none⟩ ∧ lo ≤ b ∧ b < hi ∧ fr.drop i = .cons a x p q (fr.drop (i + 1)) ∧ x.size + p.size + q.size < fr.size ∧
      (Sl exprC w lo hi X x ∧ SlS w lo hi P p ∧ SlS w lo hi Q q) ∧
      w.cell? ⟨b, o + i * 6, none⟩ = some (.int .i64 a.1) ∧ w.cell? ⟨b, o + i * 6 + 1, none⟩ = some (.string a.2.1) ∧ w.cell? ⟨b, o + i * 6 + 2, none⟩ = some (.string a.2.2) ∧
      w.cell? ⟨b, o + i * 6 + 3, none⟩ = some (.slice X x.len cx) ∧ w.cell? ⟨b, o + i * 6 + 4, none⟩ = some (.slice P p.len cp) ∧ w.cell? ⟨b, o + i * 6 + 5, none⟩ = some (.slice Q q.len cq) := by
  obtain ⟨b, o, e, h1, h2, h3⟩ := h (by omega)
  obtain ⟨a, x, p, q, hd⟩ := fr.drop_at i hi'
  have h4 := StIn.drop fr i b o h3
  rw [hd] at h4
  obtain ⟨⟨X, cx, P, cp, Q, cq, hc, hx, hp, hq⟩, _⟩ := h4
  have := fr.drop_size i
  rw [hd] at this
  exact ⟨b, o, a, x, p, q, X, cx, P, cp, Q, cq, e, h1, h2, hd, by simp only [St.size] at this; omega, ⟨hx, hp, hq⟩, hc 0 _ rfl, hc 1 _ rfl, hc 2 _ rfl, hc 3 _ rfl, hc 4 _ rfl, hc 5 _ rfl⟩
def sC (x : (Int × ByteArray × ByteArray) × Value × Value × Value) : List Value := stC x.1 x.2.1 x.2.2.1 x.2.2.2
theorem sC_len (x : (Int × ByteArray × ByteArray) × Value × Value × Value) : (sC x).length = 6 := rfl
def FitsS (w : World) (lo hi : Nat) (fr : St) (l : List ((Int × ByteArray × ByteArray) × Value × Value × Value)) (k : Nat) : Prop :=
  ∀ i, i < k → ∃ a x p q X cx P cp Q cq, fr.drop i = .cons a x p q (fr.drop (i + 1)) ∧ l[i]? = some (a, .slice X x.len cx, .slice P p.len cp, .slice Q q.len cq) ∧ Sl exprC w lo hi X x ∧ SlS w lo hi P p ∧ SlS w lo hi Q q
theorem FitsS.zero (fr : St) (l : List ((Int × ByteArray × ByteArray) × Value × Value × Value)) : FitsS w lo hi fr l 0 := fun i h => by omega
theorem FitsS.keep {fr : St} {l : List ((Int × ByteArray × ByteArray) × Value × Value × Value)} {k : Nat} (h : FitsS w lo hi fr l k) (hk : ∀ p : Addr, lo ≤ p.block → p.block < hi → w'.cell? p = w.cell? p) (hl : lo' ≤ lo) (hh : hi ≤ hi') : FitsS w' lo' hi' fr l k := fun i hi0 => by
  obtain ⟨a, x, p, q, X, cx, P, cp, Q, cq, h1, h2, h3, h4, h5⟩ := h i hi0
  exact ⟨a, x, p, q, X, cx, P, cp, Q, cq, h1, h2, h3.keep hk hl hh, h4.keep hk hl hh, h5.keep hk hl hh⟩
theorem FitsS.setb {fr : St} {l : List ((Int × ByteArray × ByteArray) × Value × Value × Value)} {k : Nat} (h : FitsS w lo hi fr l k) {b j : Nat} (hp : b < lo ∨ hi ≤ b) (u : Value) : FitsS (w.setCell ⟨b, j, none⟩ u) lo hi fr l k := fun i hi0 => by
  obtain ⟨a, x, p, q, X, cx, P, cp, Q, cq, h1, h2, h3, h4, h5⟩ := h i hi0
  exact ⟨a, x, p, q, X, cx, P, cp, Q, cq, h1, h2, h3.setb hp u, h4.setb hp u, h5.setb hp u⟩
theorem FitsS.set_ {fr : St} {l : List ((Int × ByteArray × ByteArray) × Value × Value × Value)} {k : Nat} (h : FitsS w lo hi fr l k) (hk : k < l.length) {a : Int × ByteArray × ByteArray} {x : Fr (Int × Int × ByteArray)} {p q : St} {X P Q : Option Addr} {cx cp cq : Nat} (hd : fr.drop k = .cons a x p q (fr.drop (k + 1))) (hX : Sl exprC w lo hi X x) (hP : SlS w lo hi P p) (hQ : SlS w lo hi Q q) :
    FitsS w lo hi fr (l.set k (a, .slice X x.len cx, .slice P p.len cp, .slice Q q.len cq)) (k + 1) := fun i hi0 => by
  by_cases hik : i = k
  · subst hik
    exact ⟨a, x, p, q, X, cx, P, cp, Q, cq, hd, by rw [List.getElem?_set_self (by omega)], hX, hP, hQ⟩
  · obtain ⟨a', x', p', q', X', cx', P', cp', Q', cq', h1, h2, h3⟩ := h i (by omega)
    exact ⟨a', x', p', q', X', cx', P', cp', Q', cq', h1, by rw [List.getElem?_set_ne (by omega)]; exact h2, h3⟩
theorem StIn.of_fits : ∀ (fr : St) (l : List ((Int × ByteArray × ByteArray) × Value × Value × Value)) (b off : Nat), l.length = fr.len → FitsS w lo hi fr l fr.len → (∀ j u, (flat sC l)[j]? = some u → w.cell? ⟨b, off + j, none⟩ = some u) → StIn w lo hi fr b off
  | .nil, _, _, _, _, _, _ => trivial
  | .cons _ _ _ _ _, [], _, _, h, _, _ => by simp [St.len] at h
  | .cons a x p q r, y :: l, b, off, h, hF, hc => by
    obtain ⟨a', x', p', q', X, cx, P, cp, Q, cq, h1, h2, h3, h4, h5⟩ := hF 0 (by simp [St.len])
    rw [St.drop_zero] at h1
    injection h1 with e1 e2 e3 e4 e5
    subst e1 e2 e3 e4
    simp only [List.getElem?_cons_zero, Option.some.injEq] at h2
    subst h2
    rw [flat_cons] at hc
    refine ⟨⟨X, cx, P, cp, Q, cq, fun j u hu => hc j u ?_, h3, h4, h5⟩, ?_⟩
    · have hj : j < 6 := by
        rcases Nat.lt_or_ge j 6 with h | h
        · exact h
        · exact absurd hu (by rw [List.getElem?_eq_none (by exact h)]; simp)
      rw [List.getElem?_append_left (by rw [sC_len]; exact hj)]
      exact hu
    · refine StIn.of_fits r l b _ (by simpa [St.len] using h) (fun i hi' => ?_) (fun j u hu => ?_)
      · obtain ⟨a', x', p', q', X', cx', P', cp', Q', cq', h1, h2, h3⟩ := hF (i + 1) (by simp [St.len]; exact hi')
        exact ⟨a', x', p', q', X', cx', P', cp', Q', cq', h1, by simpa using h2, h3⟩
      · have := hc (6 + j) u (by
          rw [List.getElem?_append_right (by rw [sC_len]; omega), sC_len, Nat.add_sub_cancel_left]
          exact hu)
        rw [← Nat.add_assoc] at this
        exact this
def StOk (Q : Int × ByteArray × ByteArray → Prop) (R : Int × Int × ByteArray → Prop) : St → Prop
  | .nil => True
  | .cons a x p q r => (Q a ∧ x.len ≤ 9223372036854775807 ∧ p.len ≤ 9223372036854775807 ∧ q.len ≤ 9223372036854775807) ∧ FrOk R x ∧ StOk Q R p ∧ StOk Q R q ∧ StOk Q R r
theorem StOk.drop {Q : Int × ByteArray × ByteArray → Prop} {R : Int × Int × ByteArray → Prop} : ∀ {fr : St} (i : Nat), StOk Q R fr → StOk Q R (fr.drop i)
  | fr, 0, h => by rw [St.drop_zero]; exact h
  | .nil, i + 1, _ => trivial
  | .cons _ _ _ _ r, i + 1, h => StOk.drop (fr := r) i h.2.2.2.2
def wtS (g : Int × Int × ByteArray → Nat) : St → Nat
  | .nil => 0
  | .cons a x p q r => 1 + (a.2.1.size + a.2.2.size) + wt g x + wtS g p + wtS g q + wtS g r
theorem len_wtS (g : Int × Int × ByteArray → Nat) : ∀ fr : St, fr.len ≤ wtS g fr
  | .nil => Nat.le_refl _
  | .cons _ _ _ _ r => by have := len_wtS g r; show r.len + 1 ≤ _; simp only [wtS]; omega
theorem size_wtS (g : Int × Int × ByteArray → Nat) : ∀ fr : St, fr.size ≤ wtS g fr
  | .nil => Nat.le_refl _
  | .cons _ x p q r => by have := size_wt g x; have := size_wtS g p; have := size_wtS g q; have := size_wtS g r; simp only [wtS, St.size]; omega
end

end Go.Proofs.YtemlnpncljomgaaGreatDoor
namespace Go.Proofs.YtemlnpncljomgaaGreatDoor
open Go.RowKit

theorem info_Stmt : (Tryz.prog.info? 40).map (fun i => (i.zero, i.size, i.bytes)) = some (some (.agg #[.int .i64 0, .string ⟨#[]⟩, .string ⟨#[]⟩, .slice none 0 0, .slice none 0 0, .slice none 0 0]), 6, 112) := by kernel_rfl
def RetFrS (fr : St) (w : World) (e : Ending) (w' : World) : Prop := ∃ (A : Option Addr) (c : Nat), e = .returned (.slice A fr.len c) ∧ SlS w' w.heap.size w'.heap.size A fr
def RetTrS (zk : Int) (zs zt : ByteArray) (x : Fr (Int × Int × ByteArray)) (p q : St) (w : World) (e : Ending) (w' : World) : Prop := ∃ (X : Option Addr) (cx : Nat) (P : Option Addr) (cp : Nat) (Q : Option Addr) (cq : Nat), e = .returned (.agg #[.int .i64 zk, .string zs, .string zt, .slice X x.len cx, .slice P p.len cp, .slice Q q.len cq]) ∧ Sl exprC w' w.heap.size w'.heap.size X x ∧ SlS w' w.heap.size w'.heap.size P p ∧ SlS w' w.heap.size w'.heap.size Q q

set_option maxHeartbeats 4000000 in
theorem toStmt_of (zk : Int) (zs zt : ByteArray) (x : Fr (Int × Int × ByteArray)) (p q : St) (X : Option Addr) (cx : Nat) (P : Option Addr) (cp : Nat) (Q : Option Addr) (cq : Nat) (w : World) (hX : Sl exprC w 0 w.heap.size X x) (hP : SlS w 0 w.heap.size P p) (hQ : SlS w 0 w.heap.size Q q)
    (I1 : ∀ w', Sl exprC w' 0 w'.heap.size X x → Calls Tryz.prog 24 #[.slice X x.len cx] w' fun e w'' => RetFr_Expr x w' e w'' ∧ Below w'.heap.size w' w'')
    (I2 : ∀ w', SlS w' 0 w'.heap.size P p → Calls Tryz.prog 18 #[.slice P p.len cp] w' fun e w'' => RetFrS p w' e w'' ∧ Below w'.heap.size w' w'')
    (I3 : ∀ w', SlS w' 0 w'.heap.size Q q → Calls Tryz.prog 18 #[.slice Q q.len cq] w' fun e w'' => RetFrS q w' e w'' ∧ Below w'.heap.size w' w'') :
    Calls Tryz.prog 13 #[.agg #[.int .i64 zk, .string zs, .string zt, .slice X x.len cx, .slice P p.len cp, .slice Q q.len cq]] w fun e w' => RetTrS zk zs zt x p q w e w' ∧ Below w.heap.size w w' := by
  have e1 := alloc_size w (.cells #[.int .i64 zk, .string zs, .string zt, .slice X x.len cx, .slice P p.len cp, .slice Q q.len cq] 35)
  have e2 := alloc_size (w.alloc (.cells #[.int .i64 zk, .string zs, .string zt, .slice X x.len cx, .slice P p.len cp, .slice Q q.len cq] 35)) (.cells #[.int .i64 0, .string ⟨#[]⟩, .string ⟨#[]⟩, .slice none 0 0, .slice none 0 0, .slice none 0 0] 40)
  have e3 := alloc_size ((w.alloc (.cells #[.int .i64 zk, .string zs, .string zt, .slice X x.len cx, .slice P p.len cp, .slice Q q.len cq] 35)).alloc (.cells #[.int .i64 0, .string ⟨#[]⟩, .string ⟨#[]⟩, .slice none 0 0, .slice none 0 0, .slice none 0 0] 40)) (.cells #[.int .i64 zk, .string zs, .string zt, .slice none 0 0, .slice none 0 0, .slice none 0 0] 40)
  have B0 := ((Blk.new w 35 #[.int .i64 zk, .string zs, .string zt, .slice X x.len cx, .slice P p.len cp, .slice Q q.len cq]).alloc (.cells #[.int .i64 0, .string ⟨#[]⟩, .string ⟨#[]⟩, .slice none 0 0, .slice none 0 0, .slice none 0 0] 40)).alloc (.cells #[.int .i64 zk, .string zs, .string zt, .slice none 0 0, .slice none 0 0, .slice none 0 0] 40)
  have B1 := (Blk.new2 w (.cells #[.int .i64 zk, .string zs, .string zt, .slice X x.len cx, .slice P p.len cp, .slice Q q.len cq] 35) 40 #[.int .i64 0, .string ⟨#[]⟩, .string ⟨#[]⟩, .slice none 0 0, .slice none 0 0, .slice none 0 0]).alloc (.cells #[.int .i64 zk, .string zs, .string zt, .slice none 0 0, .slice none 0 0, .slice none 0 0] 40)
  have B2 := Blk.new2 (w.alloc (.cells #[.int .i64 zk, .string zs, .string zt, .slice X x.len cx, .slice P p.len cp, .slice Q q.len cq] 35)) (.cells #[.int .i64 0, .string ⟨#[]⟩, .string ⟨#[]⟩, .slice none 0 0, .slice none 0 0, .slice none 0 0] 40) 40 #[.int .i64 zk, .string zs, .string zt, .slice none 0 0, .slice none 0 0, .slice none 0 0]
  have L0 := bl_alloc (bl_alloc (bl_alloc (Below.refl w.heap.size w) (.cells #[.int .i64 zk, .string zs, .string zt, .slice X x.len cx, .slice P p.len cp, .slice Q q.len cq] 35)) (.cells #[.int .i64 0, .string ⟨#[]⟩, .string ⟨#[]⟩, .slice none 0 0, .slice none 0 0, .slice none 0 0] 40)) (.cells #[.int .i64 zk, .string zs, .string zt, .slice none 0 0, .slice none 0 0, .slice none 0 0] 40)
  rw [e1] at B2
  go_enter Tryz.func13, Tryz.ntmps13
  go_wp2_with fail
  generalize ((w.alloc (.cells #[.int .i64 zk, .string zs, .string zt, .slice X x.len cx, .slice P p.len cp, .slice Q q.len cq] 35)).alloc (.cells #[.int .i64 0, .string ⟨#[]⟩, .string ⟨#[]⟩, .slice none 0 0, .slice none 0 0, .slice none 0 0] 40)).alloc (.cells #[.int .i64 zk, .string zs, .string zt, .slice none 0 0, .slice none 0 0, .slice none 0 0] 40) = W at B0 B1 B2 L0 e3 ⊢
  refine (I1 _ ((hX.below L0 (Nat.le_refl _)).more (Nat.le_refl _) L0.size)).mono ?_; rintro e w1 ⟨⟨X1, c1, rfl, hX1⟩, d1⟩
  replace B0 : Blk w1 (w.heap.size) _ _ := Blk.keep B0 d1
  replace B1 : Blk w1 (w.heap.size + 1) _ _ := Blk.keep B1 d1
  replace B2 : Blk w1 (w.heap.size + 1 + 1) _ _ := Blk.keep B2 d1
  have sd1 := d1.size
  have f2 := B2.frozen
  have p2 := B2.cell
  have p0 := (B0.farb (b := w.heap.size + 1 + 1) (j := 3) (by omega) (.slice X1 x.len c1)).cell
  go_wp2_with fail
  clear p0 p2 f2
  replace B0 := B0.farb (b := w.heap.size + 1 + 1) (j := 3) (by omega) (.slice X1 x.len c1)
  replace B1 := B1.farb (b := w.heap.size + 1 + 1) (j := 3) (by omega) (.slice X1 x.len c1)
  replace B2 := B2.set_ 3 (.slice X1 x.len c1)
  have L1 := bl_setb (b := w.heap.size + 1 + 1) (j := 3) (bl_trans L0 d1) (by omega) (.slice X1 x.len c1)
  replace hX1 := hX1.setb (b := w.heap.size + 1 + 1) (j := 3) (.inl (by omega)) (.slice X1 x.len c1)
  have g1 : (w1.setCell ⟨w.heap.size + 1 + 1, 3, none⟩ (.slice X1 x.len c1)).heap.size = w1.heap.size := by simp
  generalize w1.setCell ⟨w.heap.size + 1 + 1, 3, none⟩ (.slice X1 x.len c1) = v1 at B0 B1 B2 L1 g1 hX1 ⊢
  refine (I2 _ ((hP.below L1 (Nat.le_refl _)).more (Nat.le_refl _) L1.size)).mono ?_; rintro e w2 ⟨⟨P1, c2, rfl, hP1⟩, d2⟩
  replace B0 : Blk w2 (w.heap.size) _ _ := Blk.keep B0 d2
  replace B1 : Blk w2 (w.heap.size + 1) _ _ := Blk.keep B1 d2
  replace B2 : Blk w2 (w.heap.size + 1 + 1) _ _ := Blk.keep B2 d2
  have sd2 := d2.size
  replace hX1 := hX1.below d2 (by omega)
  have f2 := B2.frozen
  have p2 := B2.cell
  have p0 := (B0.farb (b := w.heap.size + 1 + 1) (j := 4) (by omega) (.slice P1 p.len c2)).cell
  go_wp2_with fail
  clear p0 p2 f2
  replace B0 := B0.farb (b := w.heap.size + 1 + 1) (j := 4) (by omega) (.slice P1 p.len c2)
  replace B1 := B1.farb (b := w.heap.size + 1 + 1) (j := 4) (by omega) (.slice P1 p.len c2)
  replace B2 := B2.set_ 4 (.slice P1 p.len c2)
  have L2 := bl_setb (b := w.heap.size + 1 + 1) (j := 4) (bl_trans L1 d2) (by omega) (.slice P1 p.len c2)
  replace hX1 := hX1.setb (b := w.heap.size + 1 + 1) (j := 4) (.inl (by omega)) (.slice P1 p.len c2)
  replace hP1 := hP1.setb (b := w.heap.size + 1 + 1) (j := 4) (.inl (by omega)) (.slice P1 p.len c2)
  have g2 : (w2.setCell ⟨w.heap.size + 1 + 1, 4, none⟩ (.slice P1 p.len c2)).heap.size = w2.heap.size := by simp
  generalize w2.setCell ⟨w.heap.size + 1 + 1, 4, none⟩ (.slice P1 p.len c2) = v2 at B0 B1 B2 L2 g2 hX1 hP1 ⊢
  refine (I3 _ ((hQ.below L2 (Nat.le_refl _)).more (Nat.le_refl _) L2.size)).mono ?_; rintro e w3 ⟨⟨Q1, c3, rfl, hQ1⟩, d3⟩
  replace B0 : Blk w3 (w.heap.size) _ _ := Blk.keep B0 d3
  replace B1 : Blk w3 (w.heap.size + 1) _ _ := Blk.keep B1 d3
  replace B2 : Blk w3 (w.heap.size + 1 + 1) _ _ := Blk.keep B2 d3
  have sd3 := d3.size
  replace hX1 := hX1.below d3 (by omega)
  replace hP1 := hP1.below d3 (by omega)
  have f2 := B2.frozen
  have p2 := B2.cell
  have p1 := B1.cell
  have f1 := B1.frozen
  go_wp2_with fail
  exact bodyPost_ret (res_cell1 rfl _ _ _ _ _ _ rfl ((((((((B1.farb (b := w.heap.size + 1 + 1) (j := 5) (by omega) _).set_ 0 _).set_ 1 _).set_ 2 _).set_ 3 _).set_ 4 _).set_ 5 _)) Tryz.underlying40 (by kernel_rfl)) rfl ⟨⟨X1, c1, P1, c2, Q1, c3, rfl, (((((((hX1.setb (.inl (by omega)) _).setb (.inl (by omega)) _).setb (.inl (by omega)) _).setb (.inl (by omega)) _).setb (.inl (by omega)) _).setb (.inl (by omega)) _).setb (.inl (by omega)) _).more (by omega) (by simp; omega), (((((((hP1.setb (.inl (by omega)) _).setb (.inl (by omega)) _).setb (.inl (by omega)) _).setb (.inl (by omega)) _).setb (.inl (by omega)) _).setb (.inl (by omega)) _).setb (.inl (by omega)) _).more (by omega) (by simp; omega), (((((((hQ1.setb (.inl (by omega)) _).setb (.inl (by omega)) _).setb (.inl (by omega)) _).setb (.inl (by omega)) _).setb (.inl (by omega)) _).setb (.inl (by omega)) _).setb (.inl (by omega)) _).more (by omega) (by simp)⟩, (bl_setb (bl_setb (bl_setb (bl_setb (bl_setb (bl_setb (bl_setb (bl_trans L2 d3) (by omega) _) (by omega) _) (by omega) _) (by omega) _) (by omega) _) (by omega) _) (by omega) _)⟩

set_option maxHeartbeats 4000000 in
theorem toStmtS_step (fr : St) (A : Option Addr) (c : Nat) (w : World) (hn : fr.size ≤ 1048576) (hS : SlS w 0 w.heap.size A fr)
    (ih : ∀ (fr' : St), fr'.size < fr.size → ∀ (A : Option Addr) (c : Nat) (w : World), SlS w 0 w.heap.size A fr' → Calls Tryz.prog 18 #[.slice A fr'.len c] w fun e w' => RetFrS fr' w e w' ∧ Below w.heap.size w w') :
    Calls Tryz.prog 18 #[.slice A fr.len c] w fun e w' => RetFrS fr w e w' ∧ Below w.heap.size w w' := by
  have hlz := fr.len_size
  have hn' : (fr.len : Int) ≤ 1048576 := by omega
  obtain ⟨i0, hi, hz0, hz1, hz2⟩ := info_parts info_Stmt
  obtain ⟨ys, hys⟩ : ∃ ys : List ((Int × ByteArray × ByteArray) × Value × Value × Value), ys = List.replicate fr.len ((0, ⟨#[]⟩, ⟨#[]⟩), Value.slice none 0 0, Value.slice none 0 0, Value.slice none 0 0) := ⟨_, rfl⟩
  have hyl : Hid (ys.length = fr.len) := by unfold Hid; rw [hys]; simp
  have hrep : Hid ((List.replicate fr.len [Value.int .i64 0, Value.string ⟨#[]⟩, Value.string ⟨#[]⟩, Value.slice none 0 0, Value.slice none 0 0, Value.slice none 0 0]).flatten = flat sC ys) := by
    unfold Hid
    rw [hys]
    unfold flat
    rw [List.flatMap_replicate]
    rfl
  clear hys
  have IH := Lib.hid ih
  clear ih
  go_enter Tryz.func18, Tryz.ntmps18
  go_wp2_with (at_make; refine wpList_makeN rfl _ _ 38 rfl 40 i0 (.agg #[.int .i64 0, .string ⟨#[]⟩, .string ⟨#[]⟩, .slice none 0 0, .slice none 0 0, .slice none 0 0]) 6 112 Tryz.underlying38 hi hz0 hz1 hz2 rfl _ _ fr.len rfl rfl (by omega) (by omega) ?_)
  intro w1 hO hL
  rw [hrep.out] at hO
  go_wp2_with fail
  go_loopw [4] (fun i wr => ∃ (k : Nat) (l : List ((Int × ByteArray × ByteArray) × Value × Value × Value)), k ≤ fr.len ∧ i = .int .i64 k ∧ l.length = fr.len ∧ FitsS wr (w.heap.size + 1) wr.heap.size fr l k ∧ w.heap.size < wr.heap.size ∧ wr.ownsRow w.heap.size 40 6 (.slice (some ⟨w.heap.size, 0, none⟩) fr.len fr.len) fr.len (flat sC l) ∧ Below w.heap.size w wr) (fun i _ => fr.len - (intOf i).toNat)
  case atStart => exact ⟨0, ys, Nat.zero_le _, rfl, hyl.out, FitsS.zero _ _, (hO.lt _ rfl).2, hO, hL⟩
  case round =>
    obtain ⟨k, l, hk, rfl, hll, hF, hgs, hOr, hLr⟩ := hrel
    have HF := Lib.hid hF
    have HLL := Lib.hid hll
    clear hF hll
    by_cases hlt : k < fr.len
    · obtain ⟨b, o, a, x, p, q, X, cx, P, cp, Q, cq, rfl, _, hb, hd, hks, ⟨hX, hP, hQ⟩, q0, q1, q2, q3, q4, q5⟩ := (hS.below hLr (Nat.le_refl _)).at_ hlt
      have hlt' : (k : Int) < (fr.len : Int) := by omega
      have hul : k < l.length := by rw [HLL.out]; exact hlt
      have hcg := fun c hc => flat_get sC_len l k hul c hc
      have HD := Lib.hid hd
      clear hd
      obtain ⟨zk, zs, zt⟩ := a
      simp only at q0 q1 q2
      have C := toStmt_of zk zs zt x p q X cx P cp Q cq wr (hX.more (Nat.le_refl _) hLr.size) (hP.more (Nat.le_refl _) hLr.size) (hQ.more (Nat.le_refl _) hLr.size) (fun w' h => toExprS_any x.size (by omega) x X cx w' (Nat.le_refl _) h) (fun w' h => IH.out p (by omega) P cp w' h) (fun w' h => IH.out q (by omega) Q cq w' h)
      have CC := Lib.hid C
      clear C
      go_wp2_with fail
      refine CC.out.mono ?_; rintro e w2 ⟨⟨X2, c2, P2, c3, Q2, c4, rfl, hX2, hP2, hQ2⟩, b2⟩
      have hO2 : w2.ownsRow _ _ _ _ _ _ := ((Row.mk hOr).keep b2).1
      have cc0 := hO2.cellAt (k * 6) (by omega)
      have cc1 := hO2.cellAt (k * 6 + 1) (by omega)
      have cc2 := hO2.cellAt (k * 6 + 2) (by omega)
      have cc3 := hO2.cellAt (k * 6 + 3) (by omega)
      have cc4 := hO2.cellAt (k * 6 + 4) (by omega)
      have cc5 := hO2.cellAt (k * 6 + 5) (by omega)
      rw [hcg 1 (by omega)] at cc1
      rw [hcg 2 (by omega)] at cc2
      rw [hcg 3 (by omega)] at cc3
      rw [hcg 4 (by omega)] at cc4
      rw [hcg 5 (by omega)] at cc5
      have h0 := hcg 0 (by omega)
      rw [Nat.add_zero] at h0
      rw [h0] at cc0
      have f0 := hO2.frozenAt (k * 6)
      have f1 := hO2.frozenAt (k * 6 + 1)
      have f2 := hO2.frozenAt (k * 6 + 2)
      have f3 := hO2.frozenAt (k * 6 + 3)
      have f4 := hO2.frozenAt (k * 6 + 4)
      have f5 := hO2.frozenAt (k * 6 + 5)
      clear h0 hcg
      have hSt := ((((((hO2.stored (k * 6) (.int .i64 zk)).1.stored (k * 6 + 1) (.string zs)).1.stored (k * 6 + 2) (.string zt)).1.stored (k * 6 + 3) (.slice X2 x.len c2)).1.stored (k * 6 + 4) (.slice P2 p.len c3)).1.stored (k * 6 + 5) (.slice Q2 q.len c4)).1
      rw [flat_set6 sC_len ((zk, zs, zt), .slice X2 x.len c2, .slice P2 p.len c3, .slice Q2 q.len c4) rfl _ k hul] at hSt
      have HS := Lib.hid hSt
      clear hSt
      have hz2 := b2.size
      have hFn := Lib.hid (FitsS.set_ (cx := c2) (cp := c3) (cq := c4) (HF.out.keep (w' := w2) (fun p h1 h2 => b2.cell h2) (Nat.le_refl _) b2.size) hul HD.out (hX2.more (by omega) (Nat.le_refl _)) (hP2.more (by omega) (Nat.le_refl _)) (hQ2.more (by omega) (Nat.le_refl _)))
      generalize l[k] = y at *
      obtain ⟨⟨yk, ys1, yt⟩, v1, v2, v3⟩ := y
      simp only [sC, stC] at cc0 cc1 cc2 cc3 cc4 cc5
      go_wp2_with fail
      go_roundw
      case rel =>
        refine ⟨k + 1, _, by omega, by go_num, by rw [List.length_set]; exact HLL.out, ?_, by simp; omega, HS.out, bl_set (bl_set (bl_set (bl_set (bl_set (bl_set (bl_trans hLr b2) (Nat.le_refl _) _) (Nat.le_refl _) _) (Nat.le_refl _) _) (Nat.le_refl _) _) (Nat.le_refl _) _) (Nat.le_refl _) _⟩
        exact ((((((hFn.out.setb (.inl (Nat.lt_succ_self _)) _).setb (.inl (Nat.lt_succ_self _)) _).setb (.inl (Nat.lt_succ_self _)) _).setb (.inl (Nat.lt_succ_self _)) _).setb (.inl (Nat.lt_succ_self _)) _).setb (.inl (Nat.lt_succ_self _)) _).keep (fun _ _ _ => rfl) (Nat.le_refl _) (by simp)
      case measure => simp [intOf]; omega
    · obtain rfl : k = fr.len := by omega
      have H := Lib.hid hOr
      clear hOr
      go_wp2_with fail
      go_ret
      refine ⟨⟨_, _, rfl, fun hp => ⟨w.heap.size, 0, rfl, Nat.le_refl _, hgs, StIn.of_fits fr l _ _ HLL.out (HF.out.keep (fun _ _ _ => rfl) (by omega) (Nat.le_refl _)) (fun j u hu => ?_)⟩⟩, hLr⟩
      have := H.out.cells rfl j u hu
      rw [add_plain] at this
      exact this
theorem toStmtS_any (N : Nat) (hN : N ≤ 1048576) : ∀ (fr : St) (A : Option Addr) (c : Nat) (w : World), fr.size ≤ N → SlS w 0 w.heap.size A fr →
    Calls Tryz.prog 18 #[.slice A fr.len c] w fun e w' => RetFrS fr w e w' ∧ Below w.heap.size w w' := by
  induction N with
  | zero =>
    intro fr A c w hs hS
    obtain rfl := St.size_pos (Nat.le_zero.1 hs)
    exact toStmtS_step .nil A c w (by simp [St.size]) hS (fun fr' h => by simp [St.size] at h)
  | succ N ih =>
    intro fr A c w hs hS
    exact toStmtS_step fr A c w (by omega) hS (fun fr' h A c w hk => ih (by omega) fr' A c w (by omega) hk)

end Go.Proofs.YtemlnpncljomgaaGreatDoor
namespace Go.Proofs.YtemlnpncljomgaaGreatDoor
open Go.RowKit

set_option maxHeartbeats 4000000 in
theorem eqStmt_of (zk : Int) (zs zt : ByteArray) (x : Fr (Int × Int × ByteArray)) (p q : St) (X P Q X' P' Q' : Option Addr) (cx cp cq cx' cp' cq' : Nat) (w : World) (hX : Sl exprC w 0 w.heap.size X x) (hP : SlS w 0 w.heap.size P p) (hQ : SlS w 0 w.heap.size Q q) (hX' : Sl exprC w 0 w.heap.size X' x) (hP' : SlS w 0 w.heap.size P' p) (hQ' : SlS w 0 w.heap.size Q' q)
    (I1 : ∀ w', Sl exprC w' 0 w'.heap.size X x → Sl exprC w' 0 w'.heap.size X' x → Calls Tryz.prog 27 #[.slice X x.len cx, .slice X' x.len cx'] w' fun e w'' => e = .returned (.bool true) ∧ Below w'.heap.size w' w'')
    (I2 : ∀ w', SlS w' 0 w'.heap.size P p → SlS w' 0 w'.heap.size P' p → Calls Tryz.prog 20 #[.slice P p.len cp, .slice P' p.len cp'] w' fun e w'' => e = .returned (.bool true) ∧ Below w'.heap.size w' w'') (I3 : ∀ w', SlS w' 0 w'.heap.size Q q → SlS w' 0 w'.heap.size Q' q → Calls Tryz.prog 20 #[.slice Q q.len cq, .slice Q' q.len cq'] w' fun e w'' => e = .returned (.bool true) ∧ Below w'.heap.size w' w'') :
    Calls Tryz.prog 15 #[.agg #[.int .i64 zk, .string zs, .string zt, .slice X x.len cx, .slice P p.len cp, .slice Q q.len cq], .agg #[.int .i64 zk, .string zs, .string zt, .slice X' x.len cx', .slice P' p.len cp', .slice Q' q.len cq']] w fun e w' => e = .returned (.bool true) ∧ Below w.heap.size w w' := by
  have B := (Blk.new w 40 #[.int .i64 zk, .string zs, .string zt, .slice X x.len cx, .slice P p.len cp, .slice Q q.len cq]).alloc (.cells #[.int .i64 zk, .string zs, .string zt, .slice X' x.len cx', .slice P' p.len cp', .slice Q' q.len cq'] 40)
  have D := Blk.new2 w (.cells #[.int .i64 zk, .string zs, .string zt, .slice X x.len cx, .slice P p.len cp, .slice Q q.len cq] 40) 40 #[.int .i64 zk, .string zs, .string zt, .slice X' x.len cx', .slice P' p.len cp', .slice Q' q.len cq']
  have L0 := bl_alloc (bl_alloc (Below.refl w.heap.size w) (.cells #[.int .i64 zk, .string zs, .string zt, .slice X x.len cx, .slice P p.len cp, .slice Q q.len cq] 40)) (.cells #[.int .i64 zk, .string zs, .string zt, .slice X' x.len cx', .slice P' p.len cp', .slice Q' q.len cq'] 40)
  have J1 := Lib.hid (I1 _ ((hX.below L0 (Nat.le_refl _)).more (Nat.le_refl _) L0.size) ((hX'.below L0 (Nat.le_refl _)).more (Nat.le_refl _) L0.size))
  go_enter Tryz.func15, Tryz.ntmps15
  go_wp2_with fail
  refine J1.out.mono ?_; rintro e w1 ⟨rfl, b1⟩
  have L1 := bl_trans L0 b1
  replace B : Blk w1 w.heap.size _ _ := Blk.keep B b1
  replace D : Blk w1 (w.heap.size + 1) _ _ := Blk.keep D b1
  have p1 := B.cell
  have q1 := D.cell
  go_wp2_with fail
  refine (I2 _ ((hP.below L1 (Nat.le_refl _)).more (Nat.le_refl _) L1.size) ((hP'.below L1 (Nat.le_refl _)).more (Nat.le_refl _) L1.size)).mono ?_; rintro e w2 ⟨rfl, b2⟩
  have L2 := bl_trans L1 b2
  replace B : Blk w2 w.heap.size _ _ := Blk.keep B b2
  replace D : Blk w2 (w.heap.size + 1) _ _ := Blk.keep D b2
  clear p1 q1
  have p2 := B.cell
  have q2 := D.cell
  go_wp2_with fail
  refine (I3 _ ((hQ.below L2 (Nat.le_refl _)).more (Nat.le_refl _) L2.size) ((hQ'.below L2 (Nat.le_refl _)).more (Nat.le_refl _) L2.size)).mono ?_; rintro e w3 ⟨rfl, b3⟩
  go_wp2_with fail
  go_ret
  exact ⟨rfl, bl_trans L2 b3⟩

set_option maxHeartbeats 4000000 in
theorem eqStmtS_step (fr : St) (A A' : Option Addr) (c c' : Nat) (w : World) (hn : fr.size ≤ 1048576) (hS : SlS w 0 w.heap.size A fr) (hS' : SlS w 0 w.heap.size A' fr)
    (ih : ∀ (fr' : St), fr'.size < fr.size → ∀ (A A' : Option Addr) (c c' : Nat) (w : World), SlS w 0 w.heap.size A fr' → SlS w 0 w.heap.size A' fr' → Calls Tryz.prog 20 #[.slice A fr'.len c, .slice A' fr'.len c'] w fun e w' => e = .returned (.bool true) ∧ Below w.heap.size w w') :
    Calls Tryz.prog 20 #[.slice A fr.len c, .slice A' fr.len c'] w fun e w' => e = .returned (.bool true) ∧ Below w.heap.size w w' := by
  have hlz := fr.len_size
  have hl' : (fr.len : Int) ≤ 1048576 := by omega
  have IH := Lib.hid ih
  clear ih
  go_enter Tryz.func20, Tryz.ntmps20
  go_wp2_with fail
  go_loopw [5] (fun i wr => ∃ k : Nat, k ≤ fr.len ∧ i = .int .i64 k ∧ Below w.heap.size w wr) (fun i _ => fr.len - (intOf i).toNat)
  case atStart => exact ⟨0, Nat.zero_le _, rfl, Below.refl _ _⟩
  case round =>
    obtain ⟨k, hk, rfl, hL⟩ := hrel
    by_cases hlt : k < fr.len
    · obtain ⟨b, o, a, y, p, q, X, cx, P, cp, Q, cq, rfl, _, hb, hd, hks, ⟨hX, hP, hQ⟩, q0, q1, q2, q3, q4, q5⟩ := (hS.below hL (Nat.le_refl _)).at_ hlt
      obtain ⟨b2, o2, a2, y2, p2, q2', X', cx', P', cp', Q', cq', rfl, _, hb2, hd2, _, ⟨hX', hP', hQ'⟩, r0, r1, r2, r3, r4, r5⟩ := (hS'.below hL (Nat.le_refl _)).at_ hlt
      rw [hd] at hd2
      injection hd2 with e1 e2 e3 e4 e5
      subst e1 e2 e3 e4
      obtain ⟨zk, zs, zt⟩ := a
      simp only at q0 q1 q2 r0 r1 r2
      have hlt' : (k : Int) < (fr.len : Int) := by omega
      have hbb : b < wr.heap.size := Nat.lt_of_lt_of_le hb hL.size
      have hbb2 : b2 < wr.heap.size := Nat.lt_of_lt_of_le hb2 hL.size
      clear hd e5
      go_wp2_with fail
      refine wp_region_held_drew (S := (fun x => (x.cell? ⟨b, o + k * 6, none⟩ = some (.int .i64 zk) ∧ x.cell? ⟨b, o + k * 6 + 1, none⟩ = some (.string zs) ∧ x.cell? ⟨b, o + k * 6 + 2, none⟩ = some (.string zt) ∧ x.cell? ⟨b, o + k * 6 + 3, none⟩ = some (.slice X y.len cx) ∧ x.cell? ⟨b, o + k * 6 + 4, none⟩ = some (.slice P p.len cp) ∧ x.cell? ⟨b, o + k * 6 + 5, none⟩ = some (.slice Q q.len cq)) ∧ (x.cell? ⟨b2, o2 + k * 6, none⟩ = some (.int .i64 zk) ∧ x.cell? ⟨b2, o2 + k * 6 + 1, none⟩ = some (.string zs) ∧ x.cell? ⟨b2, o2 + k * 6 + 2, none⟩ = some (.string zt) ∧ x.cell? ⟨b2, o2 + k * 6 + 3, none⟩ = some (.slice X' y.len cx') ∧ x.cell? ⟨b2, o2 + k * 6 + 4, none⟩ = some (.slice P' p.len cp') ∧ x.cell? ⟨b2, o2 + k * 6 + 5, none⟩ = some (.slice Q' q.len cq')) ∧ (Sl exprC x 0 wr.heap.size X y ∧ SlS x 0 wr.heap.size P p ∧ SlS x 0 wr.heap.size Q q) ∧ (Sl exprC x 0 wr.heap.size X' y ∧ SlS x 0 wr.heap.size P' p ∧ SlS x 0 wr.heap.size Q' q) ∧ wr.heap.size ≤ x.heap.size)) (by kernel_rfl) ?_ (fun hHeld => ?_)
      · exact ⟨⟨q0, q1, q2, q3, q4, q5⟩, ⟨r0, r1, r2, r3, r4, r5⟩, ⟨hX.keep (fun _ _ _ => rfl) (Nat.le_refl _) hL.size, hP.keep (fun _ _ _ => rfl) (Nat.le_refl _) hL.size, hQ.keep (fun _ _ _ => rfl) (Nat.le_refl _) hL.size⟩, ⟨hX'.keep (fun _ _ _ => rfl) (Nat.le_refl _) hL.size, hP'.keep (fun _ _ _ => rfl) (Nat.le_refl _) hL.size, hQ'.keep (fun _ _ _ => rfl) (Nat.le_refl _) hL.size⟩, Nat.le_refl _⟩
      refine wpAnyH_take (i := 0) (oi := ⟨some 17, _, _, _, _, _⟩) (v := ?_) rfl (by kernel_rfl) (by kernel_rfl) (by kernel_rfl) (fun _ _ _ h => h) (Or.inl ⟨by rfl, ?_⟩) (by assumption) ?_
      case refine_2 => (intro w hSw; obtain ⟨⟨p0, p1, p2, p3, p4, p5⟩, ⟨u0, u1, u2, u3, u4, u5⟩, _, _, _⟩ := hSw; go_simp; first | done | with_reducible rfl)
      simp only [Act.put, qA, qB, qC]
      refine wpAnyH_take (i := 1) (oi := ⟨some 18, _, _, _, _, _⟩) (v := ?_) rfl (by kernel_rfl) (by kernel_rfl) (by kernel_rfl) (fun _ _ _ h => h) (Or.inl ⟨by rfl, ?_⟩) (by assumption) ?_
      case refine_2 => (intro w hSw; obtain ⟨⟨p0, p1, p2, p3, p4, p5⟩, ⟨u0, u1, u2, u3, u4, u5⟩, _, _, _⟩ := hSw; go_simp; first | done | with_reducible rfl)
      simp only [Act.put, qA, qB, qC]
      refine wpAnyH_take (i := 2) (oi := ⟨some 19, _, _, _, _, _⟩) (v := ?_) rfl (by kernel_rfl) (by kernel_rfl) (by kernel_rfl) (fun _ _ _ h => h) (Or.inl ⟨by rfl, ?_⟩) (by assumption) ?_
      case refine_2 => (intro w hSw; obtain ⟨⟨p0, p1, p2, p3, p4, p5⟩, ⟨u0, u1, u2, u3, u4, u5⟩, _, _, _⟩ := hSw; go_simp; first | done | with_reducible rfl)
      simp only [Act.put, qA, qB, qC]
      refine wpAnyH_take (i := 3) (oi := ⟨some 20, _, _, _, _, _⟩) (v := ?_) rfl (by kernel_rfl) (by kernel_rfl) (by kernel_rfl) (fun _ _ _ h => h) (Or.inl ⟨by rfl, ?_⟩) (by assumption) ?_
      case refine_2 => (intro w hSw; obtain ⟨⟨p0, p1, p2, p3, p4, p5⟩, ⟨u0, u1, u2, u3, u4, u5⟩, _, _, _⟩ := hSw; go_simp; first | done | with_reducible rfl)
      simp only [Act.put, qA, qB, qC]
      refine wpAnyH_take (i := 4) (oi := ⟨some 21, _, _, _, _, _⟩) (v := ?_) rfl (by kernel_rfl) (by kernel_rfl) (by kernel_rfl) (fun _ _ _ h => h) (Or.inl ⟨by rfl, ?_⟩) (by assumption) ?_
      case refine_2 => (intro w hSw; obtain ⟨⟨p0, p1, p2, p3, p4, p5⟩, ⟨u0, u1, u2, u3, u4, u5⟩, _, _, _⟩ := hSw; go_simp; first | done | with_reducible rfl)
      simp only [Act.put, qA, qB, qC]
      refine wpAnyH_take (i := 5) (oi := ⟨some 22, _, _, _, _, _⟩) (v := ?_) rfl (by kernel_rfl) (by kernel_rfl) (by kernel_rfl) (fun _ _ _ h => h) (Or.inl ⟨by rfl, ?_⟩) (by assumption) ?_
      case refine_2 => (intro w hSw; obtain ⟨⟨p0, p1, p2, p3, p4, p5⟩, ⟨u0, u1, u2, u3, u4, u5⟩, _, _, _⟩ := hSw; go_simp; first | done | with_reducible rfl)
      simp only [Act.put, qA, qB, qC]
      refine wpAnyH_take (i := 6) (oi := ⟨some 23, _, _, _, _, _⟩) (v := ?_) rfl (by kernel_rfl) (by kernel_rfl) (by kernel_rfl) (fun _ _ _ h => h) (Or.inl ⟨by rfl, ?_⟩) (by assumption) ?_
      case refine_2 => (intro w hSw; obtain ⟨⟨p0, p1, p2, p3, p4, p5⟩, ⟨u0, u1, u2, u3, u4, u5⟩, _, _, _⟩ := hSw; go_simp; first | done | with_reducible rfl)
      simp only [Act.put, qA, qB, qC]
      refine wpAnyH_take (i := 7) (oi := ⟨some 24, _, _, _, _, _⟩) (v := ?_) rfl (by kernel_rfl) (by kernel_rfl) (by kernel_rfl) (fun _ _ _ h => h) (Or.inl ⟨by rfl, ?_⟩) (by assumption) ?_
      case refine_2 => (intro w hSw; obtain ⟨⟨p0, p1, p2, p3, p4, p5⟩, ⟨u0, u1, u2, u3, u4, u5⟩, _, _, _⟩ := hSw; go_simp; first | done | with_reducible rfl)
      simp only [Act.put, qA, qB, qC]
      refine wpAnyH_ready (rs := [8]) (by kernel_rfl) (by simp) ?_
      refine AllReadyH.cons (o := ⟨some 25, _, _, _, _, _⟩) rfl (fun K hK => ?_) AllReadyH.nil
      go_simp
      refine (eqStmt_of zk zs zt y p q X P Q X' P' Q' cx cp cq cx' cp' cq' _ (hHeld.2.2.1.1.more (Nat.le_refl _) hHeld.2.2.2.2) (hHeld.2.2.1.2.1.more (Nat.le_refl _) hHeld.2.2.2.2) (hHeld.2.2.1.2.2.more (Nat.le_refl _) hHeld.2.2.2.2) (hHeld.2.2.2.1.1.more (Nat.le_refl _) hHeld.2.2.2.2) (hHeld.2.2.2.1.2.1.more (Nat.le_refl _) hHeld.2.2.2.2) (hHeld.2.2.2.1.2.2.more (Nat.le_refl _) hHeld.2.2.2.2) (fun w' h h' => eqExprS_any y.size (by omega) y (Nat.le_refl _) X X' cx cx' w' h h') (fun w' h h' => IH.out p (by omega) P P' cp cp' w' h h') (fun w' h h' => IH.out q (by omega) Q Q' cq cq' w' h h')).mono ?_; rintro e w1 ⟨rfl, b1⟩
      go_wp2_with fail
      refine hK.out _ _ (⟨⟨(b1.cell (Nat.lt_of_lt_of_le hbb hHeld.2.2.2.2)).trans hHeld.1.1, (b1.cell (Nat.lt_of_lt_of_le hbb hHeld.2.2.2.2)).trans hHeld.1.2.1, (b1.cell (Nat.lt_of_lt_of_le hbb hHeld.2.2.2.2)).trans hHeld.1.2.2.1, (b1.cell (Nat.lt_of_lt_of_le hbb hHeld.2.2.2.2)).trans hHeld.1.2.2.2.1, (b1.cell (Nat.lt_of_lt_of_le hbb hHeld.2.2.2.2)).trans hHeld.1.2.2.2.2.1, (b1.cell (Nat.lt_of_lt_of_le hbb hHeld.2.2.2.2)).trans hHeld.1.2.2.2.2.2⟩, ⟨(b1.cell (Nat.lt_of_lt_of_le hbb2 hHeld.2.2.2.2)).trans hHeld.2.1.1, (b1.cell (Nat.lt_of_lt_of_le hbb2 hHeld.2.2.2.2)).trans hHeld.2.1.2.1, (b1.cell (Nat.lt_of_lt_of_le hbb2 hHeld.2.2.2.2)).trans hHeld.2.1.2.2.1, (b1.cell (Nat.lt_of_lt_of_le hbb2 hHeld.2.2.2.2)).trans hHeld.2.1.2.2.2.1, (b1.cell (Nat.lt_of_lt_of_le hbb2 hHeld.2.2.2.2)).trans hHeld.2.1.2.2.2.2.1, (b1.cell (Nat.lt_of_lt_of_le hbb2 hHeld.2.2.2.2)).trans hHeld.2.1.2.2.2.2.2⟩, ⟨hHeld.2.2.1.1.below b1 hHeld.2.2.2.2, hHeld.2.2.1.2.1.below b1 hHeld.2.2.2.2, hHeld.2.2.1.2.2.below b1 hHeld.2.2.2.2⟩, ⟨hHeld.2.2.2.1.1.below b1 hHeld.2.2.2.2, hHeld.2.2.2.1.2.1.below b1 hHeld.2.2.2.2, hHeld.2.2.2.1.2.2.below b1 hHeld.2.2.2.2⟩, Nat.le_trans hHeld.2.2.2.2 b1.size⟩) (fun hHeld => ?_)
      clear hK K
      try simp only [Act.put, qA, qB, qC]
      refine wpAnyH_take (i := 9) (oi := ⟨some 26, _, _, _, _, _⟩) (v := ?_) rfl (by kernel_rfl) (by kernel_rfl) (by kernel_rfl) (fun _ _ _ h => h) (Or.inl ⟨by rfl, ?_⟩) (by assumption) ?_
      case refine_2 => (intro w hSw; skip; go_simp; first | done | with_reducible rfl)
      simp only [Act.put, qA, qB, qC]
      refine wpAnyH_done (by kernel_rfl) ?_ _
      go_wp2_with fail
      go_roundw
      case rel => exact ⟨k + 1, by omega, by go_num, bl_trans hL.drew b1⟩
      case measure => simp [intOf]; omega
    · obtain rfl : k = fr.len := by omega
      go_wp2_with fail
      go_ret
      exact ⟨rfl, hL⟩
theorem eqStmtS_any (N : Nat) (hN : N ≤ 1048576) : ∀ (fr : St), fr.size ≤ N → ∀ (A A' : Option Addr) (c c' : Nat) (w : World), SlS w 0 w.heap.size A fr → SlS w 0 w.heap.size A' fr →
    Calls Tryz.prog 20 #[.slice A fr.len c, .slice A' fr.len c'] w fun e w' => e = .returned (.bool true) ∧ Below w.heap.size w w' := by
  induction N with
  | zero =>
    intro fr hs A A' c c' w h h'
    obtain rfl := St.size_pos (Nat.le_zero.1 hs)
    exact eqStmtS_step .nil A A' c c' w (by simp [St.size]) h h' (fun fr' h => by simp [St.size] at h)
  | succ N ih =>
    intro fr hs A A' c c' w h h'
    exact eqStmtS_step fr A A' c c' w (by omega) h h' (fun fr' h A A' c c' w k k' => ih (by omega) fr' (by omega) A A' c c' w k k')

end Go.Proofs.YtemlnpncljomgaaGreatDoor
namespace Go.Proofs.YtemlnpncljomgaaGreatDoor
open Go.RowKit

def qStmt (a : (Int × ByteArray × ByteArray)) : Prop := a.2.1.size ≤ 9223372036854775807 ∧ a.2.2.size ≤ 9223372036854775807
theorem left_two {l : Int} {n m : Nat} (h : ¬ left_ l n < 0) : left_ (left_ l n) m = left_ l (n + m) := by
  have h1 := (left_pos h).1
  rw [h1]
  unfold left_
  rw [show l - ((n + m : Nat) : Int) = l - n - m by omega]
set_option maxHeartbeats 4000000 in
theorem szStmt_of (zk : Int) (zs zt : ByteArray) (x : Fr (Int × Int × ByteArray)) (p q : St) (X : Option Addr) (cx : Nat) (P : Option Addr) (cp : Nat) (Q : Option Addr) (cq : Nat) (left : Int) (w : World) (hq : qStmt (zk, zs, zt)) (h0 : 0 ≤ left) (h1 : left ≤ 1048576) (hX : Sl exprC w 0 w.heap.size X x) (hP : SlS w 0 w.heap.size P p) (hQ : SlS w 0 w.heap.size Q q)
    (I1 : ∀ w' left, 0 ≤ left → left ≤ 1048576 → Sl exprC w' 0 w'.heap.size X x → Calls Tryz.prog 21 #[.slice X x.len cx, .int .i64 left] w' fun e w'' => e = .returned (.int .i64 (left_ left (wt gExpr x))) ∧ Below w'.heap.size w' w'')
    (I2 : ∀ w' left, 0 ≤ left → left ≤ 1048576 → SlS w' 0 w'.heap.size P p → Calls Tryz.prog 16 #[.slice P p.len cp, .int .i64 left] w' fun e w'' => e = .returned (.int .i64 (left_ left (wtS gExpr p))) ∧ Below w'.heap.size w' w'')
    (I3 : ∀ w' left, 0 ≤ left → left ≤ 1048576 → SlS w' 0 w'.heap.size Q q → Calls Tryz.prog 16 #[.slice Q q.len cq, .int .i64 left] w' fun e w'' => e = .returned (.int .i64 (left_ left (wtS gExpr q))) ∧ Below w'.heap.size w' w'') :
    Calls Tryz.prog 11 #[.agg #[.int .i64 zk, .string zs, .string zt, .slice X x.len cx, .slice P p.len cp, .slice Q q.len cq], .int .i64 left] w fun e w' => e = .returned (.int .i64 (left_ left (zs.size + zt.size + wt gExpr x + wtS gExpr p + wtS gExpr q))) ∧ Below w.heap.size w w' := by
  obtain ⟨hz1, hz2⟩ := hq
  simp only at hz1 hz2
  have B := Blk.new w 35 #[.int .i64 zk, .string zs, .string zt, .slice X x.len cx, .slice P p.len cp, .slice Q q.len cq]
  have L0 := bl_alloc (Below.refl w.heap.size w) (.cells #[.int .i64 zk, .string zs, .string zt, .slice X x.len cx, .slice P p.len cp, .slice Q q.len cq] 35)
  by_cases c1 : left - (zs.size : Int) < 0
  · rw [left_is (by omega)]
    go_enter Tryz.func11, Tryz.ntmps11
    go_wp2_with fail
    go_ret
    exact ⟨rfl, L0⟩
  by_cases c2 : left - (zs.size : Int) - zt.size < 0
  · rw [left_is (by omega)]
    go_enter Tryz.func11, Tryz.ntmps11
    go_wp2_with fail
    go_ret
    exact ⟨rfl, L0⟩
  obtain ⟨R, hR⟩ : ∃ R, left_ left (zs.size + zt.size + wt gExpr x + wtS gExpr p + wtS gExpr q) = R := ⟨_, rfl⟩
  have hst : left_ (left - (zs.size : Int) - zt.size) (wt gExpr x + wtS gExpr p + wtS gExpr q) = R := by
    rw [← hR]
    unfold left_
    rw [show left - ((zs.size + zt.size + wt gExpr x + wtS gExpr p + wtS gExpr q : Nat) : Int) = left - zs.size - zt.size - ((wt gExpr x + wtS gExpr p + wtS gExpr q : Nat) : Int) by omega]
  rw [hR]
  clear hR
  have J1 := I1 _ (left - zs.size - zt.size) (by omega) (by omega) ((hX.below L0 (Nat.le_refl _)).more (Nat.le_refl _) L0.size)
  obtain ⟨z1, hz⟩ : ∃ z, left_ (left - (zs.size : Int) - zt.size) (wt gExpr x) = z := ⟨_, rfl⟩
  rw [hz] at J1
  have JJ1 := Lib.hid J1
  clear J1 I1
  by_cases n1 : z1 < 0
  · have hR1 : R = -1 := by
      rw [← hst]
      have := (left_neg (by rw [hz]; exact n1)).2
      exact left_is (by omega)
    clear hst hz
    subst hR1
    go_enter Tryz.func11, Tryz.ntmps11
    go_wp2_with fail
    refine JJ1.out.mono ?_; rintro e w1 ⟨rfl, b1⟩
    go_wp2_with fail
    go_ret
    exact ⟨rfl, bl_trans L0 b1⟩
  have hs2 : left_ z1 (wtS gExpr p + wtS gExpr q) = R := by
    rw [← hst, ← hz, left_two (by rw [hz]; exact n1), Nat.add_assoc]
  have hr1 := (left_pos (by rw [hz]; exact n1)).1
  rw [hz] at hr1
  have hb1 : 0 ≤ z1 ∧ z1 ≤ 1048576 := by omega
  clear hst hz hr1
  obtain ⟨z2, hz⟩ : ∃ z, left_ z1 (wtS gExpr p) = z := ⟨_, rfl⟩
  have J2 := fun w h => I2 w z1 hb1.1 hb1.2 h
  rw [hz] at J2
  have JJ2 := Lib.hid J2
  clear J2 I2
  by_cases n2 : z2 < 0
  · have hR1 : R = -1 := by
      rw [← hs2]
      have := (left_neg (by rw [hz]; exact n2)).2
      exact left_is (by omega)
    clear hs2 hz
    subst hR1
    go_enter Tryz.func11, Tryz.ntmps11
    go_wp2_with fail
    refine JJ1.out.mono ?_; rintro e w1 ⟨rfl, b1⟩
    have L1 := bl_trans L0 b1
    replace B : Blk w1 w.heap.size _ _ := Blk.keep B b1
    have p1 := B.cell
    go_wp2_with fail
    refine (JJ2.out _ ((hP.below L1 (Nat.le_refl _)).more (Nat.le_refl _) L1.size)).mono ?_; rintro e w2 ⟨rfl, b2⟩
    go_wp2_with fail
    go_ret
    exact ⟨rfl, bl_trans L1 b2⟩
  have hs3 : left_ z2 (wtS gExpr q) = R := by rw [← hs2, ← hz, left_two (by rw [hz]; exact n2)]
  have hr2 := (left_pos (by rw [hz]; exact n2)).1
  rw [hz] at hr2
  have hb2 : 0 ≤ z2 ∧ z2 ≤ 1048576 := by omega
  clear hs2 hz hr2
  have J3 := fun w h => I3 w z2 hb2.1 hb2.2 h
  rw [hs3] at J3
  have JJ3 := Lib.hid J3
  have hm := fun h => (left_neg (l := z2) (n := wtS gExpr q) (by rw [hs3]; exact h)).1
  rw [hs3] at hm
  have HM := Lib.hid hm
  clear J3 I3 hm hs3
  by_cases n3 : R < 0
  all_goals
    go_enter Tryz.func11, Tryz.ntmps11
    go_wp2_with fail
    refine JJ1.out.mono ?_; rintro e w1 ⟨rfl, b1⟩
    have L1 := bl_trans L0 b1
    replace B : Blk w1 w.heap.size _ _ := Blk.keep B b1
    have p1 := B.cell
    go_wp2_with fail
    refine (JJ2.out _ ((hP.below L1 (Nat.le_refl _)).more (Nat.le_refl _) L1.size)).mono ?_; rintro e w2 ⟨rfl, b2⟩
    have L2 := bl_trans L1 b2
    replace B : Blk w2 w.heap.size _ _ := Blk.keep B b2
    have p2 := B.cell
    clear p1
    go_wp2_with fail
    refine (JJ3.out _ ((hQ.below L2 (Nat.le_refl _)).more (Nat.le_refl _) L2.size)).mono ?_; rintro e w3 ⟨rfl, b3⟩
    go_wp2_with fail
    go_ret
  · exact ⟨ret_int (HM.out n3).symm, bl_trans L2 b3⟩
  · exact ⟨rfl, bl_trans L2 b3⟩

set_option maxHeartbeats 4000000 in
theorem szStmtS_step (fr : St) (A : Option Addr) (c : Nat) (left : Int) (w : World) (hl : fr.len ≤ 9223372036854775807) (hq : StOk qStmt qExpr fr) (h0 : 0 ≤ left) (h1 : left ≤ 1048576) (hS : SlS w 0 w.heap.size A fr)
    (ih : ∀ (fr' : St), fr'.size < fr.size → fr'.len ≤ 9223372036854775807 → StOk qStmt qExpr fr' → ∀ (A : Option Addr) (c : Nat) (left : Int) (w : World), 0 ≤ left → left ≤ 1048576 → SlS w 0 w.heap.size A fr' → Calls Tryz.prog 16 #[.slice A fr'.len c, .int .i64 left] w fun e w' => e = .returned (.int .i64 (left_ left (wtS gExpr fr'))) ∧ Below w.heap.size w w') :
    Calls Tryz.prog 16 #[.slice A fr.len c, .int .i64 left] w fun e w' => e = .returned (.int .i64 (left_ left (wtS gExpr fr))) ∧ Below w.heap.size w w' := by
  have hlw := len_wtS gExpr fr
  by_cases hc : left - (fr.len : Int) < 0
  · rw [left_is (by omega)]
    go_enter Tryz.func16, Tryz.ntmps16
    go_wp2_with fail
    go_ret
    exact ⟨rfl, Below.refl _ _⟩
  · obtain ⟨R, hR⟩ : ∃ R, left_ left (wtS gExpr fr) = R := ⟨_, rfl⟩
    rw [hR]
    have HR := Lib.hid hR
    have IH := Lib.hid ih
    have HQ := Lib.hid hq
    clear hR ih hq
    go_enter Tryz.func16, Tryz.ntmps16
    go_wp2_with fail
    go_loopw [1, 5] (fun l i wr => ∃ (k : Nat) (y : Int), k ≤ fr.len ∧ i = .int .i64 k ∧ l = .int .i64 y ∧ 0 ≤ y ∧ y ≤ 1048576 ∧ left_ (y + (fr.drop k).len) (wtS gExpr (fr.drop k)) = R ∧ Below w.heap.size w wr) (fun _ i _ => fr.len - (intOf i).toNat)
    case atStart => exact ⟨0, _, Nat.zero_le _, rfl, rfl, by omega, by omega, by rw [St.drop_zero, Int.sub_add_cancel]; exact HR.out, Below.refl _ _⟩
    case round =>
      obtain ⟨k, y, hk, rfl, rfl, hy0, hy1, hE, hL⟩ := hrel
      by_cases hlt : k < fr.len
      · obtain ⟨b, o, a, x, p, q, X, cx, P, cp, Q, cq, rfl, _, hb, hd, hks, ⟨hX, hP, hQ⟩, q0, q1, q2, q3, q4, q5⟩ := (hS.below hL (Nat.le_refl _)).at_ hlt
        have hlt' : (k : Int) < (fr.len : Int) := by omega
        have hqk := StOk.drop k HQ.out
        rw [hd] at hE hqk
        obtain ⟨⟨hqa, hxl, hpl, hql⟩, hqx, hqp, hqq, _⟩ := hqk
        obtain ⟨zk, zs, zt⟩ := a
        have hlr := len_wtS gExpr (fr.drop (k + 1))
        have C := szStmt_of zk zs zt x p q X cx P cp Q cq y wr hqa hy0 hy1 (hX.more (Nat.le_refl _) hL.size) (hP.more (Nat.le_refl _) hL.size) (hQ.more (Nat.le_refl _) hL.size) (fun w' left h0 h1 h => szExprS_any x.size x (Nat.le_refl _) hxl hqx X cx left w' h0 h1 h) (fun w' left h0 h1 h => IH.out p (by omega) hpl hqp P cp left w' h0 h1 h) (fun w' left h0 h1 h => IH.out q (by omega) hql hqq Q cq left w' h0 h1 h)
        simp only [St.len, wtS] at hE
        obtain ⟨n, hn⟩ : ∃ n, zs.size + zt.size + wt gExpr x + wtS gExpr p + wtS gExpr q = n := ⟨_, rfl⟩
        rw [hn] at C
        have hE2 : left_ (y + (((fr.drop (k + 1)).len + 1 : Nat) : Int)) (1 + n + wtS gExpr (fr.drop (k + 1))) = R := by
          rw [← hE, ← hn]
          congr 1
          omega
        obtain ⟨z, hz⟩ : ∃ z, left_ y n = z := ⟨_, rfl⟩
        rw [hz] at C
        have CC := Lib.hid C
        clear C hd hE hn
        simp only at q0 q1 q2
        by_cases hs : z < 0
        · have hR1 : R = -1 := by
            rw [← hE2]
            have := (left_neg (by rw [hz]; exact hs)).2
            exact left_is (by omega)
          clear hE2 HR hz
          subst hR1
          go_wp2_with fail
          refine CC.out.mono ?_; rintro e w1 ⟨rfl, b1⟩
          go_wp2_with fail
          go_ret
          exact ⟨rfl, bl_trans hL b1⟩
        · have hp := left_pos (by rw [hz]; exact hs)
          rw [hz] at hp
          have hR1 : left_ (z + (fr.drop (k + 1)).len) (wtS gExpr (fr.drop (k + 1))) = R := by
            rw [← hE2]
            unfold left_
            rw [show y + (((fr.drop (k + 1)).len + 1 : Nat) : Int) - ((1 + n + wtS gExpr (fr.drop (k + 1)) : Nat) : Int) = z + ((fr.drop (k + 1)).len : Nat) - (wtS gExpr (fr.drop (k + 1)) : Nat) by omega]
          have H1 := Lib.hid hR1
          have hz0 : 0 ≤ z ∧ z ≤ 1048576 := by omega
          clear hE2 HR hz hR1 hp
          go_wp2_with fail
          refine CC.out.mono ?_; rintro e w1 ⟨rfl, b1⟩
          go_wp2_with fail
          go_roundw
          case rel => exact ⟨k + 1, z, by omega, by go_num, rfl, by omega, by omega, H1.out, bl_trans hL b1⟩
          case measure => simp [intOf]; omega
      · obtain rfl : k = fr.len := by omega
        rw [St.drop_all] at hE
        have h00 : left_ (y + ((0 : Nat) : Int)) 0 = y := by unfold left_; rw [if_neg (by omega)]; omega
        have hE' : y = R := h00.symm.trans hE
        subst hE'
        clear hE HR
        go_wp2_with fail
        go_ret
        exact ⟨rfl, hL⟩
theorem szStmtS_any (N : Nat) : ∀ (fr : St), fr.size ≤ N → fr.len ≤ 9223372036854775807 → StOk qStmt qExpr fr → ∀ (A : Option Addr) (c : Nat) (left : Int) (w : World), 0 ≤ left → left ≤ 1048576 → SlS w 0 w.heap.size A fr →
    Calls Tryz.prog 16 #[.slice A fr.len c, .int .i64 left] w fun e w' => e = .returned (.int .i64 (left_ left (wtS gExpr fr))) ∧ Below w.heap.size w w' := by
  induction N with
  | zero =>
    intro fr hs hl hq A c left w h0 h1 hS
    obtain rfl := St.size_pos (Nat.le_zero.1 hs)
    exact szStmtS_step .nil A c left w hl hq h0 h1 hS (fun fr' h => by simp [St.size] at h)
  | succ N ih =>
    intro fr hs hl hq A c left w h0 h1 hS
    exact szStmtS_step fr A c left w hl hq h0 h1 hS (fun fr' h hl hq A c left w h0 h1 hk => ih fr' (by omega) hl hq A c left w h0 h1 hk)

end Go.Proofs.YtemlnpncljomgaaGreatDoor
namespace Go.Proofs.YtemlnpncljomgaaGreatDoor
open Go.ChangeShapes Go.WideShapes Go.ChangeAt Go.RowKit

def ElStmt (W : World) (a : (Int × ByteArray × ByteArray)) (v1 v2 v3 : Value) : Prop := qStmt a ∧ ∃ (X : Option Addr) (cx : Nat) (P : Option Addr) (cp : Nat) (Q : Option Addr) (cq : Nat) (x : Fr (Int × Int × ByteArray)) (p q : St), (v1 = .slice X x.len cx ∧ v2 = .slice P p.len cp ∧ v3 = .slice Q q.len cq) ∧ (Sl exprC W 0 W.heap.size X x ∧ SlS W 0 W.heap.size P p ∧ SlS W 0 W.heap.size Q q) ∧ (x.len ≤ 9223372036854775807 ∧ p.len ≤ 9223372036854775807 ∧ q.len ≤ 9223372036854775807) ∧ FrOk qExpr x ∧ StOk qStmt qExpr p ∧ StOk qStmt qExpr q
theorem elStmt_of {H : Type} {enc : TypeId × Value → H} (W : World) (fuel : Nat)
    (I : ∀ n, n < fuel → ∀ v x, DataW.trod enc Tryz.checked.prog W 0 (fun _ => true) true n 33 [v] = some x → ∃ (A : Option Addr) (c : Nat) (fr : St), v = .slice A fr.len c ∧ SlS W 0 W.heap.size A fr ∧ fr.len ≤ 9223372036854775807 ∧ StOk qStmt qExpr fr)
    (cs : List Value) (y : DataW H × List MemPlace) (h : DataW.trod enc Tryz.checked.prog W 0 (fun _ => true) true fuel 35 cs = some y) : ∃ a v1 v2 v3, cs = stC a v1 v2 v3 ∧ ElStmt W a v1 v2 v3 := by
  obtain ⟨n', hn, hcl, hf⟩ := trod_fields Tryz.underlying35 (by kernel_rfl) h
  obtain ⟨c0, c1, c2, c3, c4, c5, rfl⟩ := len_6 (hcl.trans (by kernel_rfl) : cs.length = 6)
  obtain ⟨y0, h0⟩ := hf 0 _ rfl c0 rfl
  obtain ⟨x0, e0, _, w0⟩ := DataW.trod_int Tryz.underlying3 h0
  simp only [List.cons.injEq, and_true] at e0
  subst e0
  obtain ⟨y1, h1⟩ := hf 1 _ rfl c1 rfl
  obtain ⟨x1, e1, _, w1⟩ := DataW.trod_string Tryz.underlying9 h1
  simp only [List.cons.injEq, and_true] at e1
  subst e1
  obtain ⟨y2, h2⟩ := hf 2 _ rfl c2 rfl
  obtain ⟨x2, e2, _, w2⟩ := DataW.trod_string Tryz.underlying9 h2
  simp only [List.cons.injEq, and_true] at e2
  subst e2
  obtain ⟨y3, h3⟩ := hf 3 _ rfl c3 rfl
  obtain ⟨y4, h4⟩ := hf 4 _ rfl c4 rfl
  obtain ⟨y5, h5⟩ := hf 5 _ rfl c5 rfl
  obtain ⟨X, cx, x, rfl, hX, hxl, hxq⟩ := open_frExpr W n' n' (Nat.le_refl _) c3 y3 h3
  obtain ⟨P, cp, p, rfl, hP, hpl, hpq⟩ := I n' (by omega) c4 y4 h4
  obtain ⟨Q, cq, q, rfl, hQ, hql, hqq⟩ := I n' (by omega) c5 y5 h5
  unfold maxLen at w1 w2
  exact ⟨(x0, x1, x2), _, _, _, rfl, ⟨w1, w2⟩, X, cx, P, cp, Q, cq, x, p, q, ⟨rfl, rfl, rfl⟩, ⟨hX, hP, hQ⟩, ⟨hxl, hpl, hql⟩, hxq, hpq, hqq⟩
theorem st_of_list {W : World} : ∀ (l : List ((Int × ByteArray × ByteArray) × Value × Value × Value)), (∀ y ∈ l, ElStmt W y.1 y.2.1 y.2.2.1 y.2.2.2) → ∃ fr : St, fr.len = l.length ∧ FitsS W 0 W.heap.size fr l fr.len ∧ StOk qStmt qExpr fr
  | [], _ => ⟨.nil, rfl, FitsS.zero _ _, trivial⟩
  | y :: l, h => by
    obtain ⟨fr, h1, h2, h3⟩ := st_of_list l (fun z hz => h z (List.mem_cons_of_mem _ hz))
    obtain ⟨hqa, X, cx, P, cp, Q, cq, x, p, q, ⟨e1, e2, e3⟩, ⟨hX, hP, hQ⟩, ⟨l1, l2, l3⟩, q1, q2, q3⟩ := h y (List.mem_cons_self ..)
    obtain ⟨a, v1, v2, v3⟩ := y
    simp only at e1 e2 e3 hqa
    subst e1 e2 e3
    refine ⟨.cons a x p q fr, by simp [St.len, h1], fun i hi' => ?_, ⟨hqa, l1, l2, l3⟩, q1, q2, q3, h3⟩
    cases i with
    | zero => exact ⟨a, x, p, q, X, cx, P, cp, Q, cq, by rw [St.drop_zero]; show _ = St.cons a x p q (fr.drop 0); rw [St.drop_zero], rfl, hX, hP, hQ⟩
    | succ i =>
      obtain ⟨a', x', p', q', X', cx', P', cp', Q', cq', r1, r2, r3⟩ := h2 i (by simp [St.len] at hi'; exact hi')
      exact ⟨a', x', p', q', X', cx', P', cp', Q', cq', r1, by simpa using r2, r3⟩
theorem open_frStmt {H : Type} {enc : TypeId × Value → H} (W : World) : ∀ (N fuel : Nat), fuel ≤ N → ∀ (v : Value) (x : DataW H × List MemPlace), DataW.trod enc Tryz.checked.prog W 0 (fun _ => true) true fuel 33 [v] = some x → ∃ (A : Option Addr) (c : Nat) (fr : St), v = .slice A fr.len c ∧ SlS W 0 W.heap.size A fr ∧ fr.len ≤ 9223372036854775807 ∧ StOk qStmt qExpr fr := by
  intro N
  induction N with
  | zero =>
    intro fuel hN v x h
    obtain rfl := Nat.le_zero.1 hN
    simp [DataW.trod] at h
  | succ N ih =>
    intro fuel hN v x h
    obtain ⟨A, c, l, rfl, hR, hQ, hl⟩ := open_rows (Q := fun y : ((Int × ByteArray × ByteArray) × Value × Value × Value) => ElStmt W y.1 y.2.1 y.2.2.1 y.2.2.2) sC_len (by omega) Tryz.underlying33 (e := 35) (by kernel_rfl) (fun n cs y hn _ hy => by
      obtain ⟨a, v1, v2, v3, rfl, hE⟩ := elStmt_of W n (fun n' hn' => ih n' (by omega)) cs y hy
      exact ⟨(a, v1, v2, v3), hE, rfl⟩) h
    obtain ⟨fr, hlen, hF, hok⟩ := st_of_list l hQ
    rw [← hlen] at hR hl ⊢
    refine ⟨A, c, fr, rfl, fun hp => ?_, hl, hok⟩
    obtain ⟨b, o, e, hb, hc⟩ := hR.2 hp
    exact ⟨b, o, e, Nat.zero_le _, hb, StIn.of_fits fr l b o hlen.symm hF hc⟩
set_option maxRecDepth 100000 in
theorem open_trStmt {H : Type} {enc : TypeId × Value → H} (W : World) {r : Reach} {b0 : Nat} (v : Value) (d : DataW H) (ps : List MemPlace) (hval : Value.okWide Tryz.checked.prog W r b0 35 v) (h : DataW.Trod enc Tryz.checked.prog W 0 (fun _ => true) true 35 v d ps) :
    ∃ (zk : Int) (zs zt : ByteArray) (X : Option Addr) (cx : Nat) (P : Option Addr) (cp : Nat) (Q : Option Addr) (cq : Nat) (x : Fr (Int × Int × ByteArray)) (p q : St), v = .agg #[.int .i64 zk, .string zs, .string zt, .slice X x.len cx, .slice P p.len cp, .slice Q q.len cq] ∧ qStmt (zk, zs, zt) ∧ (Sl exprC W 0 W.heap.size X x ∧ SlS W 0 W.heap.size P p ∧ SlS W 0 W.heap.size Q q) ∧ (x.len ≤ 9223372036854775807 ∧ p.len ≤ 9223372036854775807 ∧ q.len ≤ 9223372036854775807) ∧ FrOk qExpr x ∧ StOk qStmt qExpr p ∧ StOk qStmt qExpr q := by
  obtain ⟨cs, fuel, rfl, hf⟩ := open_cells Tryz.underlying35 hval h
  obtain ⟨a, v1, v2, v3, e, hqa, X, cx, P, cp, Q, cq, x, p, q, ⟨e1, e2, e3⟩, hr⟩ := elStmt_of W fuel (fun n hn => open_frStmt W n n (Nat.le_refl _)) _ _ hf
  obtain ⟨zk, zs, zt⟩ := a
  subst e1 e2 e3
  exact ⟨zk, zs, zt, X, cx, P, cp, Q, cq, x, p, q, congrArg Value.agg (Array.toList_inj.1 (e.trans rfl)), hqa, hr⟩

end Go.Proofs.YtemlnpncljomgaaGreatDoor
