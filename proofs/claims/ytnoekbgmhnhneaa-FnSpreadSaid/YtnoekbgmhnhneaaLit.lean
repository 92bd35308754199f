/- Walks over the bytes and sets of regular expressions: litByte, setOk of the program, l3Byte, l3Set, l3Repeats of the reference. A text's length is at most 1048576. -/
import Derived.Test.YtnoekbgmhnhneaaQ0
import Derived.Test.YtnoekbgmhnhneaaShelfB
import Derived.Lib.Bytealg
import Derived.Lib.IndexAny
namespace Go.Proofs.Ytnoekbgmhnhneaa
open Go.RowKit

/-- A byte besides letters and digits. -/
def oddB (c : Int) : Bool := c == 32 || c == 95 || c == 45 || c == 44 || c == 58
/-- A byte that stands for itself. -/
def litB (c : Int) : Bool := inI c 97 122 || (inI c 65 90 || (inI c 48 57 || oddB c))
set_option maxRecDepth 100000 in
theorem odd_nat : ∀ n : Nat, n < 256 → ([32, 95, 45, 44, 58] : List UInt8).contains n.toUInt8 = oddB (n : Int) := by decide
set_option maxHeartbeats 1000000 in
theorem iLit (c : Int) (w : World) (h0 : 0 ≤ c) (h1 : c < 256) :
    Calls Try.prog 99 #[.int .u8 c] w fun e w' => e = .returned (.bool (litB c)) ∧ w' = w := by
  have hO : ([32, 95, 45, 44, 58] : List UInt8).contains c.toNat.toUInt8 = oddB c := by
    have := odd_nat c.toNat (by omega)
    rw [this, show ((c.toNat : Nat) : Int) = c by omega]
  have C := Try.strings_IndexByte ⟨#[32, 95, 45, 44, 58]⟩ c w
  have hi := Lib.contains_iff_indexByte [32, 95, 45, 44, 58] c.toNat.toUInt8
  rw [show (ByteArray.mk #[32, 95, 45, 44, 58]).data.toList = [32, 95, 45, 44, 58] from rfl] at C
  rw [hO] at hi
  generalize Lib.indexByte [32, 95, 45, 44, 58] c.toNat.toUInt8 = x at C hi
  have CC := Lib.hid C
  clear C hO
  obtain ⟨d, hd⟩ : ∃ d, inI c 48 57 = d := ⟨_, rfl⟩
  obtain ⟨b, hb⟩ : ∃ b, oddB c = b := ⟨_, rfl⟩
  rw [hb] at hi
  by_cases c1 : 97 ≤ c ∧ c ≤ 122
  · obtain ⟨c1, c2⟩ := c1
    rw [show litB c = true by unfold litB; rw [inI_true c1 c2]; rfl]
    go_enter Try.func99, Try.ntmps99
    go_wp2_with fail
    go_ret
    exact ⟨rfl, rfl⟩
  · by_cases c3 : 65 ≤ c ∧ c ≤ 90
    · obtain ⟨c3, c4⟩ := c3
      have c5 : ¬ 97 ≤ c := by omega
      rw [show litB c = true by unfold litB; rw [inI_false (x := c) (lo := 97) (by omega), inI_true c3 c4]; rfl]
      go_enter Try.func99, Try.ntmps99
      go_wp2_with fail
      go_ret
      exact ⟨rfl, rfl⟩
    · have hlit : litB c = (d || b) := by unfold litB; rw [inI_false (x := c) (lo := 97) (by omega), inI_false (x := c) (lo := 65) (by omega), hd, hb]; rfl
      rw [hlit]
      have D := Lib.hid (iDigit c w)
      rw [hd] at D
      have hx : (0 ≤ x) = (b = true) := by simpa using congrArg (· = true) hi.symm
      clear hlit hd hb hi
      have hw : (¬ 97 ≤ c ∧ (¬ 65 ≤ c ∨ (65 ≤ c ∧ ¬ c ≤ 90))) ∨ (97 ≤ c ∧ ¬ c ≤ 122 ∧ 65 ≤ c ∧ ¬ c ≤ 90) := by omega
      cases d
      · cases b
        · have hx0 : ¬ 0 ≤ x := by rw [hx]; exact Bool.false_ne_true
          clear hx
          rcases hw with ⟨a1, a2 | ⟨a2, a3⟩⟩ | ⟨a1, a2, a3, a4⟩
          all_goals
            go_enter Try.func99, Try.ntmps99
            go_wp2_with fail
            refine D.out.mono ?_; rintro e w1 ⟨rfl, rfl⟩
            go_wp2_with fail
            refine CC.out.mono ?_; rintro e w1 ⟨rfl, rfl⟩
            go_wp2_with fail
            go_ret
            exact ⟨ret_bool (decide_eq_false (by omega)), rfl⟩
        · have hx0 : 0 ≤ x := by rw [hx]
          clear hx
          rcases hw with ⟨a1, a2 | ⟨a2, a3⟩⟩ | ⟨a1, a2, a3, a4⟩
          all_goals
            go_enter Try.func99, Try.ntmps99
            go_wp2_with fail
            refine D.out.mono ?_; rintro e w1 ⟨rfl, rfl⟩
            go_wp2_with fail
            refine CC.out.mono ?_; rintro e w1 ⟨rfl, rfl⟩
            go_wp2_with fail
            go_ret
            exact ⟨rfl, rfl⟩
      · rcases hw with ⟨a1, a2 | ⟨a2, a3⟩⟩ | ⟨a1, a2, a3, a4⟩
        all_goals
          go_enter Try.func99, Try.ntmps99
          go_wp2_with fail
          refine D.out.mono ?_; rintro e w1 ⟨rfl, rfl⟩
          go_wp2_with fail
          go_ret
          exact ⟨rfl, rfl⟩

set_option maxHeartbeats 1000000 in
theorem sLit (c : Int) (w : World) (h0 : 0 ≤ c) (h1 : c < 256) :
    Calls Try.prog 97 #[.int .u8 c] w fun e w' => e = .returned (.bool (litB c)) ∧ w' = w := by
  obtain ⟨a, ha⟩ : ∃ a, inI c 97 122 = a := ⟨_, rfl⟩
  obtain ⟨b, hb⟩ : ∃ b, inI c 65 90 = b := ⟨_, rfl⟩
  obtain ⟨d, hd⟩ : ∃ d, inI c 48 57 = d := ⟨_, rfl⟩
  have A := sIn c 97 122 w
  have B := sIn c 65 90 w
  have D := sDigit c w h0 h1
  rw [ha] at A
  rw [hb] at B
  rw [hd] at D
  have AA := Lib.hid A
  have BB := Lib.hid B
  have DD := Lib.hid D
  rw [show litB c = (a || (b || (d || oddB c))) by unfold litB; rw [ha, hb, hd]]
  clear A B D ha hb hd
  cases a
  case true =>
    go_enter Try.func97, Try.ntmps97
    go_wp2_with fail
    refine AA.out.mono ?_; rintro e w1 ⟨rfl, rfl⟩
    go_wp2_with fail
    go_ret
    exact ⟨rfl, rfl⟩
  cases b
  case true =>
    go_enter Try.func97, Try.ntmps97
    go_wp2_with fail
    refine AA.out.mono ?_; rintro e w1 ⟨rfl, rfl⟩
    go_wp2_with fail
    refine BB.out.mono ?_; rintro e w1 ⟨rfl, rfl⟩
    go_wp2_with fail
    go_ret
    exact ⟨rfl, rfl⟩
  cases d
  case true =>
    go_enter Try.func97, Try.ntmps97
    go_wp2_with fail
    refine AA.out.mono ?_; rintro e w1 ⟨rfl, rfl⟩
    go_wp2_with fail
    refine BB.out.mono ?_; rintro e w1 ⟨rfl, rfl⟩
    go_wp2_with fail
    refine DD.out.mono ?_; rintro e w1 ⟨rfl, rfl⟩
    go_wp2_with fail
    go_ret
    exact ⟨rfl, rfl⟩
  rw [Bool.false_or, Bool.false_or, Bool.false_or]
  unfold oddB
  cases e1 : (c == 32)
  case' false => cases e2 : (c == 95)
  case' false.false => cases e3 : (c == 45)
  case' false.false.false => cases e4 : (c == 44)
  case' false.false.false.false => cases e5 : (c == 58)
  all_goals
    go_enter Try.func97, Try.ntmps97
    go_wp2_with fail
    refine AA.out.mono ?_; rintro e w1 ⟨rfl, rfl⟩
    go_wp2_with fail
    refine BB.out.mono ?_; rintro e w1 ⟨rfl, rfl⟩
    go_wp2_with fail
    refine DD.out.mono ?_; rintro e w1 ⟨rfl, rfl⟩
    go_wp2_with fail
    go_ret
    exact ⟨rfl, rfl⟩

/-- The byte at k and the one ahead of it are right in a set. -/
def stB (s : ByteArray) (k : Nat) : Bool := if h : k < s.size then litB s[k].toNat && (k == 0 || decide ((s[k - 1]'(by omega)).toNat < s[k].toNat)) else true
/-- The first k are right. -/
def stAll (s : ByteArray) (k : Nat) : Prop := ∀ i, i < k → stB s i = true
theorem stAll.zero (s : ByteArray) : stAll s 0 := fun i h => by omega
theorem stAll.succ {s : ByteArray} {k : Nat} (h : stAll s k) (hb : stB s k = true) : stAll s (k + 1) := fun i hi => by
  rcases Nat.lt_or_ge i k with h1 | h1
  · exact h i h1
  · have : i = k := by omega
    subst this; exact hb
/-- A set's text. -/
def setB (s : ByteArray) : Bool := (List.range s.size).all (stB s) && inI s.size 1 10
theorem setB_all {s : ByteArray} (h : stAll s s.size) : setB s = inI s.size 1 10 := by
  unfold setB
  rw [List.all_eq_true.2 (fun x hx => h x (List.mem_range.1 hx)), Bool.true_and]
theorem setB_at {s : ByteArray} {k : Nat} (hk : k < s.size) (h : stB s k = false) : setB s = false := by
  unfold setB
  have : (List.range s.size).all (stB s) = false := by
    cases hc : (List.range s.size).all (stB s) with
    | false => rfl
    | true =>
      have := List.all_eq_true.1 hc k (List.mem_range.2 hk)
      rw [h] at this
      cases this
  rw [this, Bool.false_and]
theorem stB_lit {s : ByteArray} {k : Nat} (hk : k < s.size) (h : litB s[k].toNat = false) : stB s k = false := by unfold stB; rw [dif_pos hk, h, Bool.false_and]
theorem stB_zero {s : ByteArray} (hk : 0 < s.size) (h : litB s[0].toNat = true) : stB s 0 = true := by unfold stB; rw [dif_pos hk, h]; rfl
theorem stB_yes {s : ByteArray} {k : Nat} (hk : k < s.size) (h : litB s[k].toNat = true) (hl : (s[k - 1]'(by omega)).toNat < s[k].toNat) : stB s k = true := by unfold stB; rw [dif_pos hk, h, decide_eq_true hl, Bool.or_true]; rfl
theorem stB_no {s : ByteArray} {k : Nat} (hk : k < s.size) (h0 : 0 < k) (hl : ¬ (s[k - 1]'(by omega)).toNat < s[k].toNat) : stB s k = false := by unfold stB; rw [dif_pos hk, decide_eq_false hl, show (k == 0) = false by simp; omega]; simp

set_option maxRecDepth 20000 in
set_option maxHeartbeats 2000000 in
theorem iSet (s : ByteArray) (w : World) (hs : s.size ≤ 9223372036854775807) :
    Calls Try.prog 100 #[.string s] w fun e w' => e = .returned (.bool (setB s)) ∧ Below w.heap.size w w' := by
  have E1 := fun h => Lib.hid (setB_all (s := s) h)
  have E2 := fun (k : Nat) (hk : k < s.size) h => Lib.hid (setB_at hk h)
  generalize setB s = R at E1 E2 ⊢
  go_enter Try.func100, Try.ntmps100
  go_wp2_with fail
  go_loopw [3] (fun i wr => ∃ k : Nat, k ≤ s.size ∧ i = .int .i64 k ∧ stAll s k ∧ Below w.heap.size w wr) (fun i _ => s.size - (intOf i).toNat)
  case atStart => exact ⟨0, Nat.zero_le _, rfl, stAll.zero s, Below.refl _ _⟩
  case round =>
    obtain ⟨k, hk, rfl, hA, hL⟩ := hrel
    by_cases hlt : (k : Int) < s.size
    · have hkn : k < s.size := by omega
      have hx := s[k].toNat_lt
      have hx' : (s[k].toNat : Int) < 256 := by omega
      have HA := Lib.hid hA
      clear hA E1
      have cc := fun w => iLit s[k].toNat w (by omega) hx'
      cases h1 : litB s[k].toNat
      · have E := E2 k hkn (stB_lit hkn h1)
        rw [h1] at cc
        have C := Lib.hid cc
        clear E2 HA cc
        go_wp2_with fail
        go_quiet (exact Calls.quiet_of_same (C.out _))
        go_wp2_with fail
        go_ret
        exact ⟨ret_bool (by rw [E.out]), bl_drewN hL _⟩
      · rw [h1] at cc
        have C := Lib.hid cc
        clear cc
        rcases Nat.eq_zero_or_pos k with rfl | h0
        · have HB := Lib.hid (stB_zero hkn h1)
          clear E2 h1
          go_wp2_with fail
          go_quiet (exact Calls.quiet_of_same (C.out _))
          go_wp2_with fail
          go_roundw
          case rel => exact ⟨1, by omega, by go_num, HA.out.succ HB.out, bl_drewN hL _⟩
          case measure => simp [intOf]; omega

        · have hk1 : k - 1 < s.size := by omega
          have hy := s[k - 1].toNat_lt
          have hy' : (s[k - 1].toNat : Int) < 256 := by omega
          have e1 : ((k : Int) - 1).toNat = k - 1 := by omega
          have e0 : (0 : Int) ≤ (k : Int) - 1 := by omega
          have e2 : (k : Int) - 1 < s.size := by omega
          have e3 : (0 : Int) < k := by omega
          have e4 : (1 : Int) ≤ k := by omega
          have e5 : (k : Int) ≤ s.size := by omega
          have e6 : 1 ≤ k := h0
          have ew : IntKind.i64.wrap ((k : Int) - 1) = (k : Int) - 1 := IntWalk.i64_in _ (by omega)
          by_cases hlt2 : s[k - 1].toNat < s[k].toNat
          · have HB := Lib.hid (stB_yes hkn h1 hlt2)
            have hl3 : (s[k - 1].toNat : Int) < s[k].toNat := by omega
            clear E2 h1
            go_wp2_with fail
            go_quiet (exact Calls.quiet_of_same (C.out _))
            go_wp2_with fail
            go_roundw
            case rel => exact ⟨k + 1, by omega, by go_num, HA.out.succ HB.out, bl_drewN hL _⟩
            case measure => simp [intOf]; omega

          · have E := E2 k hkn (stB_no hkn h0 hlt2)
            have hl3 : ¬ (s[k - 1].toNat : Int) < s[k].toNat := by omega
            clear E2 h1 HA
            go_wp2_with fail
            go_quiet (exact Calls.quiet_of_same (C.out _))
            go_wp2_with fail
            go_ret
            exact ⟨ret_bool (by rw [E.out]), bl_drewN hL _⟩
    · obtain rfl : k = s.size := by omega
      have E := E1 hA
      clear E1 E2 hA
      go_wp2_with fail
      refine (iWithin _ _ _ _).mono ?_; rintro e w1 ⟨rfl, rfl⟩
      go_wp2_with fail
      go_ret
      exact ⟨ret_bool (by rw [E.out]), hL⟩

set_option maxRecDepth 20000 in
set_option maxHeartbeats 2000000 in
theorem sSet (s : ByteArray) (w : World) (hs : s.size ≤ 9223372036854775807) :
    Calls Try.prog 98 #[.string s] w fun e w' => e = .returned (.bool (setB s)) ∧ Below w.heap.size w w' := by
  have E1 := fun h => Lib.hid (setB_all (s := s) h)
  have E2 := fun (k : Nat) (hk : k < s.size) h => Lib.hid (setB_at hk h)
  generalize setB s = R at E1 E2 ⊢
  go_enter Try.func98, Try.ntmps98
  go_wp2_with fail
  go_loopw [3] (fun i wr => ∃ k : Nat, k ≤ s.size ∧ i = .int .i64 k ∧ stAll s k ∧ Below w.heap.size w wr) (fun i _ => s.size - (intOf i).toNat)
  case atStart => exact ⟨0, Nat.zero_le _, rfl, stAll.zero s, Below.refl _ _⟩
  case round =>
    obtain ⟨k, hk, rfl, hA, hL⟩ := hrel
    by_cases hlt : (k : Int) < s.size
    · have hkn : k < s.size := by omega
      have hx := s[k].toNat_lt
      have hx' : (s[k].toNat : Int) < 256 := by omega
      have HA := Lib.hid hA
      clear hA E1
      have cc := fun w => sLit s[k].toNat w (by omega) hx'
      cases h1 : litB s[k].toNat
      · have E := E2 k hkn (stB_lit hkn h1)
        rw [h1] at cc
        have C := Lib.hid cc
        clear E2 HA cc
        go_wp2_with fail
        go_quiet (exact Calls.quiet_of_same (C.out _))
        go_wp2_with fail
        go_ret
        exact ⟨ret_bool (by rw [E.out]), bl_drewN hL _⟩
      · rw [h1] at cc
        have C := Lib.hid cc
        clear cc
        rcases Nat.eq_zero_or_pos k with rfl | h0
        · have HB := Lib.hid (stB_zero hkn h1)
          clear E2 h1
          go_wp2_with fail
          go_quiet (exact Calls.quiet_of_same (C.out _))
          go_wp2_with fail
          go_roundw
          case rel => exact ⟨1, by omega, by go_num, HA.out.succ HB.out, bl_drewN hL _⟩
          case measure => simp [intOf]; omega

        · have hk1 : k - 1 < s.size := by omega
          have hy := s[k - 1].toNat_lt
          have hy' : (s[k - 1].toNat : Int) < 256 := by omega
          have e1 : ((k : Int) - 1).toNat = k - 1 := by omega
          have e0 : (0 : Int) ≤ (k : Int) - 1 := by omega
          have e2 : (k : Int) - 1 < s.size := by omega
          have e3 : (0 : Int) < k := by omega
          have e4 : (1 : Int) ≤ k := by omega
          have e5 : (k : Int) ≤ s.size := by omega
          have e6 : 1 ≤ k := h0
          have ew : IntKind.i64.wrap ((k : Int) - 1) = (k : Int) - 1 := IntWalk.i64_in _ (by omega)
          by_cases hlt2 : s[k - 1].toNat < s[k].toNat
          · have HB := Lib.hid (stB_yes hkn h1 hlt2)
            have hl3 : (s[k - 1].toNat : Int) < s[k].toNat := by omega
            clear E2 h1
            go_wp2_with fail
            go_quiet (exact Calls.quiet_of_same (C.out _))
            go_wp2_with fail
            go_roundw
            case rel => exact ⟨k + 1, by omega, by go_num, HA.out.succ HB.out, bl_drewN hL _⟩
            case measure => simp [intOf]; omega

          · have E := E2 k hkn (stB_no hkn h0 hlt2)
            have hl3 : ¬ (s[k - 1].toNat : Int) < s[k].toNat := by omega
            clear E2 h1 HA
            go_wp2_with fail
            go_quiet (exact Calls.quiet_of_same (C.out _))
            go_wp2_with fail
            go_ret
            exact ⟨ret_bool (by rw [E.out]), bl_drewN hL _⟩
    · obtain rfl : k = s.size := by omega
      have E := E1 hA
      clear E1 E2 hA
      go_wp2_with fail
      refine (sIn _ _ _ _).mono ?_; rintro e w1 ⟨rfl, rfl⟩
      go_wp2_with fail
      go_ret
      exact ⟨ret_bool (by rw [E.out]), hL⟩

/-- What repeats. -/
def repB (k : Int) : Bool := k == 6 || k == 7 || k == 8
set_option maxHeartbeats 400000 in
theorem sRep (k : Int) (w : World) : Calls Try.prog 92 #[.int .i64 k] w fun e w' => e = .returned (.bool (repB k)) ∧ w' = w := by
  unfold repB
  cases h1 : (k == 6)
  case' false => cases h2 : (k == 7)
  case' false.false => cases h3 : (k == 8)
  all_goals
    go_enter Try.func92, Try.ntmps92
    go_wp2_with fail
    go_ret
    exact ⟨rfl, rfl⟩
set_option maxHeartbeats 400000 in
theorem iRep (k : Int) (s : ByteArray) (v : Value) (w : World) : Calls Try.prog 103 #[.agg #[.int .i64 k, .string s, v]] w fun e w' => e = .returned (.bool (repB k)) ∧ Below w.heap.size w w' := by
  unfold repB
  cases h1 : (k == 6)
  case' false => cases h2 : (k == 7)
  case' false.false => cases h3 : (k == 8)
  all_goals
    go_enter Try.func103, Try.ntmps103
    go_wp2_with fail
    go_ret
    exact ⟨rfl, by repeat (first | exact Below.refl _ _ | refine bl_drewN ?_ _ | refine Below.drew ?_ | refine bl_alloc ?_ _ | refine bl_set ?_ (by simp) _ | refine bl_trans ?_ (by assumption))⟩

end Go.Proofs.Ytnoekbgmhnhneaa
