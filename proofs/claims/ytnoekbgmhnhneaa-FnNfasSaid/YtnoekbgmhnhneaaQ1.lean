/- Walks over the bytes and sets of regular expressions: litByte, setOk of the program, l3Byte, l3Set, l3Repeats of the reference. A text's length is at most 1048576. Is a regular expression right: what RexOk's parts come to. No program in sight. The weight of a regular expression's label. Walks over the laws' szRexS and szRex: what is left behind a row's weight. Lists of texts in memory, and what is left behind their sizes. No program in sight but the types. Rows of numbers: what stands in them, and putting a number into a rising row. No program in sight but the world's rows. Walk over the reference's l4Put: a number put into a rising row of numbers. Is a draw too big: big of the laws. No condition. -/
import Derived.Test.YtnoekbgmhnhneaaQ0
import Derived.Test.YtnoekbgmhnhneaaShelfB
import Derived.Lib.Bytealg
import Derived.Lib.IndexAny
namespace Go.Proofs.Ytnoekbgmhnhneaa
open Go.RowKit

/-- A byte besides letters and digits. -/
def oddB (c : Int) : Bool := c == 32 || c == 95 || c == 45 || c == 44 || c == 58
/-- A byte that stands for itself. -/
def litB (c : Int) : Bool := inI c 97 122 || (inI c 65 90 || (inI c 48 57 || oddB c))
set_option maxRecDepth 100000 in
theorem odd_nat : ∀ n : Nat, n < 256 → ([32, 95, 45, 44, 58] : List UInt8).contains n.toUInt8 = oddB (n : Int) := by decide
set_option maxHeartbeats 1000000 in
theorem iLit (c : Int) (w : World) (h0 : 0 ≤ c) (h1 : c < 256) :
    Calls Try.prog 99 #[.int .u8 c] w fun e w' => e = .returned (.bool (litB c)) ∧ w' = w := by
  have hO : ([32, 95, 45, 44, 58] : List UInt8).contains c.toNat.toUInt8 = oddB c := by
    have := odd_nat c.toNat (by omega)
    rw [this, show ((c.toNat : Nat) : Int) = c by omega]
  have C := Try.strings_IndexByte ⟨#[32, 95, 45, 44, 58]⟩ c w
  have hi := Lib.contains_iff_indexByte [32, 95, 45, 44, 58] c.toNat.toUInt8
  rw [show (ByteArray.mk #[32, 95, 45, 44, 58]).data.toList = [32, 95, 45, 44, 58] from rfl] at C
  rw [hO] at hi
  generalize Lib.indexByte [32, 95, 45, 44, 58] c.toNat.toUInt8 = x at C hi
  have CC := Lib.hid C
  clear C hO
  obtain ⟨d, hd⟩ : ∃ d, inI c 48 57 = d := ⟨_, rfl⟩
  obtain ⟨b, hb⟩ : ∃ b, oddB c = b := ⟨_, rfl⟩
  rw [hb] at hi
  by_cases c1 : 97 ≤ c ∧ c ≤ 122
  · obtain ⟨c1, c2⟩ := c1
    rw [show litB c = true by unfold litB; rw [inI_true c1 c2]; rfl]
    go_enter Try.func99, Try.ntmps99
    go_wp2_with fail
    go_ret
    exact ⟨rfl, rfl⟩
  · by_cases c3 : 65 ≤ c ∧ c ≤ 90
    · obtain ⟨c3, c4⟩ := c3
      have c5 : ¬ 97 ≤ c := by omega
      rw [show litB c = true by unfold litB; rw [inI_false (x := c) (lo := 97) (by omega), inI_true c3 c4]; rfl]
      go_enter Try.func99, Try.ntmps99
      go_wp2_with fail
      go_ret
      exact ⟨rfl, rfl⟩
    · have hlit : litB c = (d || b) := by unfold litB; rw [inI_false (x := c) (lo := 97) (by omega), inI_false (x := c) (lo := 65) (by omega), hd, hb]; rfl
      rw [hlit]
      have D := Lib.hid (iDigit c w)
      rw [hd] at D
      have hx : (0 ≤ x) = (b = true) := by simpa using congrArg (· = true) hi.symm
      clear hlit hd hb hi
      have hw : (¬ 97 ≤ c ∧ (¬ 65 ≤ c ∨ (65 ≤ c ∧ ¬ c ≤ 90))) ∨ (97 ≤ c ∧ ¬ c ≤ 122 ∧ 65 ≤ c ∧ ¬ c ≤ 90) := by omega
      cases d
      · cases b
        · have hx0 : ¬ 0 ≤ x := by rw [hx]; exact Bool.false_ne_true
          clear hx
          rcases hw with ⟨a1, a2 | ⟨a2, a3⟩⟩ | ⟨a1, a2, a3, a4⟩
          all_goals
            go_enter Try.func99, Try.ntmps99
            go_wp2_with fail
            refine D.out.mono ?_; rintro e w1 ⟨rfl, rfl⟩
            go_wp2_with fail
            refine CC.out.mono ?_; rintro e w1 ⟨rfl, rfl⟩
            go_wp2_with fail
            go_ret
            exact ⟨ret_bool (decide_eq_false (by omega)), rfl⟩
        · have hx0 : 0 ≤ x := by rw [hx]
          clear hx
          rcases hw with ⟨a1, a2 | ⟨a2, a3⟩⟩ | ⟨a1, a2, a3, a4⟩
          all_goals
            go_enter Try.func99, Try.ntmps99
            go_wp2_with fail
            refine D.out.mono ?_; rintro e w1 ⟨rfl, rfl⟩
            go_wp2_with fail
            refine CC.out.mono ?_; rintro e w1 ⟨rfl, rfl⟩
            go_wp2_with fail
            go_ret
            exact ⟨rfl, rfl⟩
      · rcases hw with ⟨a1, a2 | ⟨a2, a3⟩⟩ | ⟨a1, a2, a3, a4⟩
        all_goals
          go_enter Try.func99, Try.ntmps99
          go_wp2_with fail
          refine D.out.mono ?_; rintro e w1 ⟨rfl, rfl⟩
          go_wp2_with fail
          go_ret
          exact ⟨rfl, rfl⟩

set_option maxHeartbeats 1000000 in
theorem sLit (c : Int) (w : World) (h0 : 0 ≤ c) (h1 : c < 256) :
    Calls Try.prog 97 #[.int .u8 c] w fun e w' => e = .returned (.bool (litB c)) ∧ w' = w := by
  obtain ⟨a, ha⟩ : ∃ a, inI c 97 122 = a := ⟨_, rfl⟩
  obtain ⟨b, hb⟩ : ∃ b, inI c 65 90 = b := ⟨_, rfl⟩
  obtain ⟨d, hd⟩ : ∃ d, inI c 48 57 = d := ⟨_, rfl⟩
  have A := sIn c 97 122 w
  have B := sIn c 65 90 w
  have D := sDigit c w h0 h1
  rw [ha] at A
  rw [hb] at B
  rw [hd] at D
  have AA := Lib.hid A
  have BB := Lib.hid B
  have DD := Lib.hid D
  rw [show litB c = (a || (b || (d || oddB c))) by unfold litB; rw [ha, hb, hd]]
  clear A B D ha hb hd
  cases a
  case true =>
    go_enter Try.func97, Try.ntmps97
    go_wp2_with fail
    refine AA.out.mono ?_; rintro e w1 ⟨rfl, rfl⟩
    go_wp2_with fail
    go_ret
    exact ⟨rfl, rfl⟩
  cases b
  case true =>
    go_enter Try.func97, Try.ntmps97
    go_wp2_with fail
    refine AA.out.mono ?_; rintro e w1 ⟨rfl, rfl⟩
    go_wp2_with fail
    refine BB.out.mono ?_; rintro e w1 ⟨rfl, rfl⟩
    go_wp2_with fail
    go_ret
    exact ⟨rfl, rfl⟩
  cases d
  case true =>
    go_enter Try.func97, Try.ntmps97
    go_wp2_with fail
    refine AA.out.mono ?_; rintro e w1 ⟨rfl, rfl⟩
    go_wp2_with fail
    refine BB.out.mono ?_; rintro e w1 ⟨rfl, rfl⟩
    go_wp2_with fail
    refine DD.out.mono ?_; rintro e w1 ⟨rfl, rfl⟩
    go_wp2_with fail
    go_ret
    exact ⟨rfl, rfl⟩
  rw [Bool.false_or, Bool.false_or, Bool.false_or]
  unfold oddB
  cases e1 : (c == 32)
  case' false => cases e2 : (c == 95)
  case' false.false => cases e3 : (c == 45)
  case' false.false.false => cases e4 : (c == 44)
  case' false.false.false.false => cases e5 : (c == 58)
  all_goals
    go_enter Try.func97, Try.ntmps97
    go_wp2_with fail
    refine AA.out.mono ?_; rintro e w1 ⟨rfl, rfl⟩
    go_wp2_with fail
    refine BB.out.mono ?_; rintro e w1 ⟨rfl, rfl⟩
    go_wp2_with fail
    refine DD.out.mono ?_; rintro e w1 ⟨rfl, rfl⟩
    go_wp2_with fail
    go_ret
    exact ⟨rfl, rfl⟩

/-- The byte at k and the one ahead of it are right in a set. -/
def stB (s : ByteArray) (k : Nat) : Bool := if h : k < s.size then litB s[k].toNat && (k == 0 || decide ((s[k - 1]'(by omega)).toNat < s[k].toNat)) else true
/-- The first k are right. -/
def stAll (s : ByteArray) (k : Nat) : Prop := ∀ i, i < k → stB s i = true
theorem stAll.zero (s : ByteArray) : stAll s 0 := fun i h => by omega
theorem stAll.succ {s : ByteArray} {k : Nat} (h : stAll s k) (hb : stB s k = true) : stAll s (k + 1) := fun i hi => by
  rcases Nat.lt_or_ge i k with h1 | h1
  · exact h i h1
  · have : i = k := by omega
    subst this; exact hb
/-- A set's text. -/
def setB (s : ByteArray) : Bool := (List.range s.size).all (stB s) && inI s.size 1 10
theorem setB_all {s : ByteArray} (h : stAll s s.size) : setB s = inI s.size 1 10 := by
  unfold setB
  rw [List.all_eq_true.2 (fun x hx => h x (List.mem_range.1 hx)), Bool.true_and]
theorem setB_at {s : ByteArray} {k : Nat} (hk : k < s.size) (h : stB s k = false) : setB s = false := by
  unfold setB
  have : (List.range s.size).all (stB s) = false := by
    cases hc : (List.range s.size).all (stB s) with
    | false => rfl
    | true =>
      have := List.all_eq_true.1 hc k (List.mem_range.2 hk)
      rw [h] at this
      cases this
  rw [this, Bool.false_and]
theorem stB_lit {s : ByteArray} {k : Nat} (hk : k < s.size) (h : litB s[k].toNat = false) : stB s k = false := by unfold stB; rw [dif_pos hk, h, Bool.false_and]
theorem stB_zero {s : ByteArray} (hk : 0 < s.size) (h : litB s[0].toNat = true) : stB s 0 = true := by unfold stB; rw [dif_pos hk, h]; rfl
theorem stB_yes {s : ByteArray} {k : Nat} (hk : k < s.size) (h : litB s[k].toNat = true) (hl : (s[k - 1]'(by omega)).toNat < s[k].toNat) : stB s k = true := by unfold stB; rw [dif_pos hk, h, decide_eq_true hl, Bool.or_true]; rfl
theorem stB_no {s : ByteArray} {k : Nat} (hk : k < s.size) (h0 : 0 < k) (hl : ¬ (s[k - 1]'(by omega)).toNat < s[k].toNat) : stB s k = false := by unfold stB; rw [dif_pos hk, decide_eq_false hl, show (k == 0) = false by simp; omega]; simp

set_option maxRecDepth 20000 in
set_option maxHeartbeats 2000000 in
theorem iSet (s : ByteArray) (w : World) (hs : s.size ≤ 9223372036854775807) :
    Calls Try.prog 100 #[.string s] w fun e w' => e = .returned (.bool (setB s)) ∧ Below w.heap.size w w' := by
  have E1 := fun h => Lib.hid (setB_all (s := s) h)
  have E2 := fun (k : Nat) (hk : k < s.size) h => Lib.hid (setB_at hk h)
  generalize setB s = R at E1 E2 ⊢
  go_enter Try.func100, Try.ntmps100
  go_wp2_with fail
  go_loopw [3] (fun i wr => ∃ k : Nat, k ≤ s.size ∧ i = .int .i64 k ∧ stAll s k ∧ Below w.heap.size w wr) (fun i _ => s.size - (intOf i).toNat)
  case atStart => exact ⟨0, Nat.zero_le _, rfl, stAll.zero s, Below.refl _ _⟩
  case round =>
    obtain ⟨k, hk, rfl, hA, hL⟩ := hrel
    by_cases hlt : (k : Int) < s.size
    · have hkn : k < s.size := by omega
      have hx := s[k].toNat_lt
      have hx' : (s[k].toNat : Int) < 256 := by omega
      have HA := Lib.hid hA
      clear hA E1
      have cc := fun w => iLit s[k].toNat w (by omega) hx'
      cases h1 : litB s[k].toNat
      · have E := E2 k hkn (stB_lit hkn h1)
        rw [h1] at cc
        have C := Lib.hid cc
        clear E2 HA cc
        go_wp2_with fail
        go_quiet (exact Calls.quiet_of_same (C.out _))
        go_wp2_with fail
        go_ret
        exact ⟨ret_bool (by rw [E.out]), bl_drewN hL _⟩
      · rw [h1] at cc
        have C := Lib.hid cc
        clear cc
        rcases Nat.eq_zero_or_pos k with rfl | h0
        · have HB := Lib.hid (stB_zero hkn h1)
          clear E2 h1
          go_wp2_with fail
          go_quiet (exact Calls.quiet_of_same (C.out _))
          go_wp2_with fail
          go_roundw
          case rel => exact ⟨1, by omega, by go_num, HA.out.succ HB.out, bl_drewN hL _⟩
          case measure => simp [intOf]; omega

        · have hk1 : k - 1 < s.size := by omega
          have hy := s[k - 1].toNat_lt
          have hy' : (s[k - 1].toNat : Int) < 256 := by omega
          have e1 : ((k : Int) - 1).toNat = k - 1 := by omega
          have e0 : (0 : Int) ≤ (k : Int) - 1 := by omega
          have e2 : (k : Int) - 1 < s.size := by omega
          have e3 : (0 : Int) < k := by omega
          have e4 : (1 : Int) ≤ k := by omega
          have e5 : (k : Int) ≤ s.size := by omega
          have e6 : 1 ≤ k := h0
          have ew : IntKind.i64.wrap ((k : Int) - 1) = (k : Int) - 1 := IntWalk.i64_in _ (by omega)
          by_cases hlt2 : s[k - 1].toNat < s[k].toNat
          · have HB := Lib.hid (stB_yes hkn h1 hlt2)
            have hl3 : (s[k - 1].toNat : Int) < s[k].toNat := by omega
            clear E2 h1
            go_wp2_with fail
            go_quiet (exact Calls.quiet_of_same (C.out _))
            go_wp2_with fail
            go_roundw
            case rel => exact ⟨k + 1, by omega, by go_num, HA.out.succ HB.out, bl_drewN hL _⟩
            case measure => simp [intOf]; omega

          · have E := E2 k hkn (stB_no hkn h0 hlt2)
            have hl3 : ¬ (s[k - 1].toNat : Int) < s[k].toNat := by omega
            clear E2 h1 HA
            go_wp2_with fail
            go_quiet (exact Calls.quiet_of_same (C.out _))
            go_wp2_with fail
            go_ret
            exact ⟨ret_bool (by rw [E.out]), bl_drewN hL _⟩
    · obtain rfl : k = s.size := by omega
      have E := E1 hA
      clear E1 E2 hA
      go_wp2_with fail
      refine (iWithin _ _ _ _).mono ?_; rintro e w1 ⟨rfl, rfl⟩
      go_wp2_with fail
      go_ret
      exact ⟨ret_bool (by rw [E.out]), hL⟩

set_option maxRecDepth 20000 in
set_option maxHeartbeats 2000000 in
theorem sSet (s : ByteArray) (w : World) (hs : s.size ≤ 9223372036854775807) :
    Calls Try.prog 98 #[.string s] w fun e w' => e = .returned (.bool (setB s)) ∧ Below w.heap.size w w' := by
  have E1 := fun h => Lib.hid (setB_all (s := s) h)
  have E2 := fun (k : Nat) (hk : k < s.size) h => Lib.hid (setB_at hk h)
  generalize setB s = R at E1 E2 ⊢
  go_enter Try.func98, Try.ntmps98
  go_wp2_with fail
  go_loopw [3] (fun i wr => ∃ k : Nat, k ≤ s.size ∧ i = .int .i64 k ∧ stAll s k ∧ Below w.heap.size w wr) (fun i _ => s.size - (intOf i).toNat)
  case atStart => exact ⟨0, Nat.zero_le _, rfl, stAll.zero s, Below.refl _ _⟩
  case round =>
    obtain ⟨k, hk, rfl, hA, hL⟩ := hrel
    by_cases hlt : (k : Int) < s.size
    · have hkn : k < s.size := by omega
      have hx := s[k].toNat_lt
      have hx' : (s[k].toNat : Int) < 256 := by omega
      have HA := Lib.hid hA
      clear hA E1
      have cc := fun w => sLit s[k].toNat w (by omega) hx'
      cases h1 : litB s[k].toNat
      · have E := E2 k hkn (stB_lit hkn h1)
        rw [h1] at cc
        have C := Lib.hid cc
        clear E2 HA cc
        go_wp2_with fail
        go_quiet (exact Calls.quiet_of_same (C.out _))
        go_wp2_with fail
        go_ret
        exact ⟨ret_bool (by rw [E.out]), bl_drewN hL _⟩
      · rw [h1] at cc
        have C := Lib.hid cc
        clear cc
        rcases Nat.eq_zero_or_pos k with rfl | h0
        · have HB := Lib.hid (stB_zero hkn h1)
          clear E2 h1
          go_wp2_with fail
          go_quiet (exact Calls.quiet_of_same (C.out _))
          go_wp2_with fail
          go_roundw
          case rel => exact ⟨1, by omega, by go_num, HA.out.succ HB.out, bl_drewN hL _⟩
          case measure => simp [intOf]; omega

        · have hk1 : k - 1 < s.size := by omega
          have hy := s[k - 1].toNat_lt
          have hy' : (s[k - 1].toNat : Int) < 256 := by omega
          have e1 : ((k : Int) - 1).toNat = k - 1 := by omega
          have e0 : (0 : Int) ≤ (k : Int) - 1 := by omega
          have e2 : (k : Int) - 1 < s.size := by omega
          have e3 : (0 : Int) < k := by omega
          have e4 : (1 : Int) ≤ k := by omega
          have e5 : (k : Int) ≤ s.size := by omega
          have e6 : 1 ≤ k := h0
          have ew : IntKind.i64.wrap ((k : Int) - 1) = (k : Int) - 1 := IntWalk.i64_in _ (by omega)
          by_cases hlt2 : s[k - 1].toNat < s[k].toNat
          · have HB := Lib.hid (stB_yes hkn h1 hlt2)
            have hl3 : (s[k - 1].toNat : Int) < s[k].toNat := by omega
            clear E2 h1
            go_wp2_with fail
            go_quiet (exact Calls.quiet_of_same (C.out _))
            go_wp2_with fail
            go_roundw
            case rel => exact ⟨k + 1, by omega, by go_num, HA.out.succ HB.out, bl_drewN hL _⟩
            case measure => simp [intOf]; omega

          · have E := E2 k hkn (stB_no hkn h0 hlt2)
            have hl3 : ¬ (s[k - 1].toNat : Int) < s[k].toNat := by omega
            clear E2 h1 HA
            go_wp2_with fail
            go_quiet (exact Calls.quiet_of_same (C.out _))
            go_wp2_with fail
            go_ret
            exact ⟨ret_bool (by rw [E.out]), bl_drewN hL _⟩
    · obtain rfl : k = s.size := by omega
      have E := E1 hA
      clear E1 E2 hA
      go_wp2_with fail
      refine (sIn _ _ _ _).mono ?_; rintro e w1 ⟨rfl, rfl⟩
      go_wp2_with fail
      go_ret
      exact ⟨ret_bool (by rw [E.out]), hL⟩

/-- What repeats. -/
def repB (k : Int) : Bool := k == 6 || k == 7 || k == 8
set_option maxHeartbeats 400000 in
theorem sRep (k : Int) (w : World) : Calls Try.prog 92 #[.int .i64 k] w fun e w' => e = .returned (.bool (repB k)) ∧ w' = w := by
  unfold repB
  cases h1 : (k == 6)
  case' false => cases h2 : (k == 7)
  case' false.false => cases h3 : (k == 8)
  all_goals
    go_enter Try.func92, Try.ntmps92
    go_wp2_with fail
    go_ret
    exact ⟨rfl, rfl⟩
set_option maxHeartbeats 400000 in
theorem iRep (k : Int) (s : ByteArray) (v : Value) (w : World) : Calls Try.prog 103 #[.agg #[.int .i64 k, .string s, v]] w fun e w' => e = .returned (.bool (repB k)) ∧ Below w.heap.size w w' := by
  unfold repB
  cases h1 : (k == 6)
  case' false => cases h2 : (k == 7)
  case' false.false => cases h3 : (k == 8)
  all_goals
    go_enter Try.func103, Try.ntmps103
    go_wp2_with fail
    go_ret
    exact ⟨rfl, by repeat (first | exact Below.refl _ _ | refine bl_drewN ?_ _ | refine Below.drew ?_ | refine bl_alloc ?_ _ | refine bl_set ?_ (by simp) _ | refine bl_trans ?_ (by assumption))⟩

end Go.Proofs.Ytnoekbgmhnhneaa
namespace Go.Proofs.Ytnoekbgmhnhneaa
open Go.RowKit

/-- A label's text is not too long. -/
def qSmall (a : Int × ByteArray) : Prop := a.2.size ≤ 1048576
/-- The one byte of a text stands for itself. -/
def oneB (s : ByteArray) : Bool := if h : 0 < s.size then litB s[0].toNat else false
/-- Has a row an element of a kind. -/
def hasK (k : Int) : Fr (Int × ByteArray) → Bool
  | .nil => false
  | .cons a _ r => a.1 == k || hasK k r
/-- Does a row begin with what repeats. -/
def repF : Fr (Int × ByteArray) → Bool
  | .nil => false
  | .cons a _ _ => repB a.1
/-- Is a part right but for what is within. -/
def hereB (k : Int) (s : ByteArray) (kids : Fr (Int × ByteArray)) : Bool :=
  if k = 1 then s.size == 1 && (oneB s && kids.len == 0)
  else if k = 3 then setB s && kids.len == 0
  else if k = 2 ∨ k = 9 ∨ k = 10 ∨ k = 11 then s.toList.isEmpty && kids.len == 0
  else if k = 4 ∨ k = 5 then s.toList.isEmpty && (inI kids.len 2 8 && !hasK k kids)
  else if k = 6 ∨ k = 7 ∨ k = 8 then s.toList.isEmpty && (kids.len == 1 && !repF kids)
  else false
section
variable (here : Int → ByteArray → Fr (Int × ByteArray) → Bool)
/-- Is all of a row right, and no deeper than 6. -/
def okG : Int → Fr (Int × ByteArray) → Bool
  | _, .nil => true
  | d, .cons a k r => (decide (d ≤ 6) && (here a.1 a.2 k && okG (d + 1) k)) && okG d r
/-- What a count of parts says. -/
def Parts (mx : Int) (d : Int) (k : Int) (s : ByteArray) (kids : Fr (Int × ByteArray)) (x : Int) : Prop :=
  1 ≤ x ∧ x ≤ mx ∧ (x ≤ 60 ↔ (d ≤ 6 ∧ here k s kids = true ∧ okG here (d + 1) kids = true ∧ kids.size + 1 ≤ 60)) ∧ (x ≤ 60 → x = kids.size + 1)
/-- While the parts are counted: n so far, fr to come. -/
def Inv (d : Int) (kids : Fr (Int × ByteArray)) (n : Int) (fr : Fr (Int × ByteArray)) : Prop :=
  1 ≤ n ∧ n ≤ 60 ∧ n + fr.size = kids.size + 1 ∧ okG here d kids = okG here d fr
end
section
variable {here : Int → ByteArray → Fr (Int × ByteArray) → Bool} {mx d n x : Int} {kids k r : Fr (Int × ByteArray)} {a : Int × ByteArray}
theorem Inv.start : Inv here d kids 1 kids := ⟨by omega, by omega, by omega, rfl⟩
theorem Inv.stop (h : Inv here d kids n (.cons a k r)) (p : Parts here mx d a.1 a.2 k x) (hs : 61 ≤ n + x) : ¬ (okG here d kids = true ∧ kids.size + 1 ≤ 60) := by
  rintro ⟨h1, h2⟩
  obtain ⟨i1, i2, i3, i4⟩ := h
  obtain ⟨p1, p2, p3, p4⟩ := p
  rw [i4, okG] at h1
  simp only [Bool.and_eq_true, decide_eq_true_eq] at h1
  obtain ⟨⟨q1, q2, q3⟩, _⟩ := h1
  simp only [Fr.size] at i3
  have hx : x ≤ 60 := p3.2 ⟨q1, q2, q3, by omega⟩
  have := p4 hx
  omega
theorem Inv.next (h : Inv here d kids n (.cons a k r)) (p : Parts here mx d a.1 a.2 k x) (hs : n + x ≤ 60) : Inv here d kids (n + x) r := by
  obtain ⟨i1, i2, i3, i4⟩ := h
  obtain ⟨p1, p2, p3, p4⟩ := p
  have hx : x ≤ 60 := by omega
  obtain ⟨q1, q2, q3, q4⟩ := p3.1 hx
  have := p4 hx
  simp only [Fr.size] at i3
  refine ⟨by omega, hs, by omega, ?_⟩
  rw [i4, okG, q2, q3, decide_eq_true q1]
  rfl
theorem Inv.end_ (h : Inv here d kids n .nil) : n = kids.size + 1 ∧ okG here d kids = true := by
  obtain ⟨i1, i2, i3, i4⟩ := h
  simp only [Fr.size] at i3
  exact ⟨by omega, i4⟩
end
/-- Nothing is asked. -/
def noneB (_ : Int) (_ : ByteArray) (_ : Fr (Int × ByteArray)) : Bool := true
theorem Parts.deep {here : Int → ByteArray → Fr (Int × ByteArray) → Bool} {mx d k : Int} {s : ByteArray} {kids : Fr (Int × ByteArray)} (hm : 61 ≤ mx) (hd : 6 < d) : Parts here mx d k s kids 61 :=
  ⟨by omega, hm, ⟨fun h => by omega, fun h => by omega⟩, fun h => by omega⟩
theorem Parts.bad {here : Int → ByteArray → Fr (Int × ByteArray) → Bool} {mx d k : Int} {s : ByteArray} {kids : Fr (Int × ByteArray)} (hm : 61 ≤ mx) (hh : here k s kids = false) : Parts here mx d k s kids 61 :=
  ⟨by omega, hm, ⟨fun h => by omega, fun h => by rw [hh] at h; exact absurd h.2.1 Bool.false_ne_true⟩, fun h => by omega⟩
theorem Parts.much {here : Int → ByteArray → Fr (Int × ByteArray) → Bool} {mx d k x : Int} {s : ByteArray} {kids : Fr (Int × ByteArray)} (h1 : 61 ≤ x) (hm : x ≤ mx) (hh : ¬ (okG here (d + 1) kids = true ∧ kids.size + 1 ≤ 60)) : Parts here mx d k s kids x :=
  ⟨by omega, hm, ⟨fun h => by omega, fun h => absurd h.2.2 hh⟩, fun h => by omega⟩
theorem Parts.well {here : Int → ByteArray → Fr (Int × ByteArray) → Bool} {mx d k n : Int} {s : ByteArray} {kids : Fr (Int × ByteArray)} (hd : d ≤ 6) (hm : 61 ≤ mx) (hh : here k s kids = true) (h : Inv here (d + 1) kids n .nil) : Parts here mx d k s kids n := by
  obtain ⟨e1, e2⟩ := h.end_
  obtain ⟨i1, i2, i3, i4⟩ := h
  exact ⟨i1, by omega, ⟨fun _ => ⟨hd, hh, e2, by omega⟩, fun _ => i2⟩, fun _ => e1⟩
/-- What the reference's walk over a row finds: within a part of the kind pk. -/
def swB (k : Int) (s : ByteArray) (kids : Fr (Int × ByteArray)) : Bool :=
  if k = 1 then s.size == 1 && (oneB s && kids.len == 0)
  else if k = 3 then setB s && kids.len == 0
  else if k = 2 ∨ k = 9 ∨ k = 10 ∨ k = 11 then kids.len == 0 && s.toList.isEmpty
  else if k = 4 ∨ k = 5 then inI kids.len 2 8 && s.toList.isEmpty
  else if k = 6 ∨ k = 7 ∨ k = 8 then kids.len == 1 && (!repF kids && s.toList.isEmpty)
  else false
theorem sw_lit (s : ByteArray) (kids : Fr (Int × ByteArray)) : swB 1 s kids = (s.size == 1 && (oneB s && kids.len == 0)) := rfl
theorem sw_set (s : ByteArray) (kids : Fr (Int × ByteArray)) : swB 3 s kids = (setB s && kids.len == 0) := rfl
theorem sw_leaf {k : Int} (h : k = 2 ∨ k = 9 ∨ k = 10 ∨ k = 11) (s : ByteArray) (kids : Fr (Int × ByteArray)) : swB k s kids = (kids.len == 0 && s.toList.isEmpty) := by rcases h with rfl | rfl | rfl | rfl <;> rfl
theorem sw_many {k : Int} (h : k = 4 ∨ k = 5) (s : ByteArray) (kids : Fr (Int × ByteArray)) : swB k s kids = (inI kids.len 2 8 && s.toList.isEmpty) := by rcases h with rfl | rfl <;> rfl
theorem sw_rep {k : Int} (h : k = 6 ∨ k = 7 ∨ k = 8) (s : ByteArray) (kids : Fr (Int × ByteArray)) : swB k s kids = (kids.len == 1 && (!repF kids && s.toList.isEmpty)) := by rcases h with rfl | rfl | rfl <;> rfl
theorem sw_none {k : Int} (h : ∀ j ∈ ([1, 3, 2, 9, 10, 11, 4, 5, 6, 7, 8] : List Int), k ≠ j) (s : ByteArray) (kids : Fr (Int × ByteArray)) : swB k s kids = false := by
  unfold swB
  rw [if_neg (h 1 (by simp)), if_neg (h 3 (by simp)), if_neg, if_neg, if_neg]
  · rintro (e | e | e)
    · exact h 6 (by simp) e
    · exact h 7 (by simp) e
    · exact h 8 (by simp) e
  · rintro (e | e)
    · exact h 4 (by simp) e
    · exact h 5 (by simp) e
  · rintro (e | e | e | e)
    · exact h 2 (by simp) e
    · exact h 9 (by simp) e
    · exact h 10 (by simp) e
    · exact h 11 (by simp) e
theorem here_lit (s : ByteArray) (kids : Fr (Int × ByteArray)) : hereB 1 s kids = (s.size == 1 && (oneB s && kids.len == 0)) := rfl
theorem here_set (s : ByteArray) (kids : Fr (Int × ByteArray)) : hereB 3 s kids = (setB s && kids.len == 0) := rfl
theorem here_leaf {k : Int} (h : k = 2 ∨ k = 9 ∨ k = 10 ∨ k = 11) (s : ByteArray) (kids : Fr (Int × ByteArray)) : hereB k s kids = (s.toList.isEmpty && kids.len == 0) := by rcases h with rfl | rfl | rfl | rfl <;> rfl
theorem here_many {k : Int} (h : k = 4 ∨ k = 5) (s : ByteArray) (kids : Fr (Int × ByteArray)) : hereB k s kids = (s.toList.isEmpty && (inI kids.len 2 8 && !hasK k kids)) := by rcases h with rfl | rfl <;> rfl
theorem here_rep {k : Int} (h : k = 6 ∨ k = 7 ∨ k = 8) (s : ByteArray) (kids : Fr (Int × ByteArray)) : hereB k s kids = (s.toList.isEmpty && (kids.len == 1 && !repF kids)) := by rcases h with rfl | rfl | rfl <;> rfl
theorem here_none {k : Int} (h : ∀ j ∈ ([1, 3, 2, 9, 10, 11, 4, 5, 6, 7, 8] : List Int), k ≠ j) (s : ByteArray) (kids : Fr (Int × ByteArray)) : hereB k s kids = false := by
  unfold hereB
  rw [if_neg (h 1 (by simp)), if_neg (h 3 (by simp)), if_neg, if_neg, if_neg]
  · rintro (e | e | e)
    · exact h 6 (by simp) e
    · exact h 7 (by simp) e
    · exact h 8 (by simp) e
  · rintro (e | e)
    · exact h 4 (by simp) e
    · exact h 5 (by simp) e
  · rintro (e | e | e | e)
    · exact h 2 (by simp) e
    · exact h 9 (by simp) e
    · exact h 10 (by simp) e
    · exact h 11 (by simp) e
theorem oneB_is {s : ByteArray} (h : 0 < s.size) : oneB s = litB s[0].toNat := by unfold oneB; rw [dif_pos h]
theorem repF_is {a : Int × ByteArray} {k r x : Fr (Int × ByteArray)} (h : x = .cons a k r) : repF x = repB a.1 := by rw [h]; rfl
def okS : Int → Fr (Int × ByteArray) → Bool
  | _, .nil => true
  | pk, .cons a k r => ((okS a.1 k && swB a.1 a.2 k) && !(a.1 == pk && !repB pk)) && okS pk r
/-- All of a row is right, but for its depth. -/
def okA : Fr (Int × ByteArray) → Bool
  | .nil => true
  | .cons a k r => (hereB a.1 a.2 k && okA k) && okA r
theorem hasK_len {k : Int} {kids : Fr (Int × ByteArray)} (h : kids.len = 0) : hasK k kids = false := by
  cases kids with
  | nil => rfl
  | cons a b c => simp [Fr.len] at h
theorem here_sw (k : Int) (s : ByteArray) (kids : Fr (Int × ByteArray)) : hereB k s kids = (swB k s kids && (repB k || !hasK k kids)) := by
  have hl : ∀ b : Bool, (b && kids.len == 0) = ((b && kids.len == 0) && (repB k || !hasK k kids)) := by
    intro b
    by_cases h : kids.len = 0
    · rw [hasK_len h]; simp
    · simp [h]
  unfold hereB swB
  by_cases h1 : k = 1
  · rw [if_pos h1, if_pos h1, ← Bool.and_assoc]; exact hl _
  rw [if_neg h1, if_neg h1]
  by_cases h3 : k = 3
  · rw [if_pos h3, if_pos h3]; exact hl _
  rw [if_neg h3, if_neg h3]
  by_cases h2 : k = 2 ∨ k = 9 ∨ k = 10 ∨ k = 11
  · rw [if_pos h2, if_pos h2, Bool.and_comm (kids.len == 0)]; exact hl _
  rw [if_neg h2, if_neg h2]
  by_cases h4 : k = 4 ∨ k = 5
  · rw [if_pos h4, if_pos h4]
    have : repB k = false := by rcases h4 with rfl | rfl <;> rfl
    rw [this, Bool.false_or, Bool.and_comm (inI _ _ _) (s.toList.isEmpty), Bool.and_assoc]
  rw [if_neg h4, if_neg h4]
  by_cases h6 : k = 6 ∨ k = 7 ∨ k = 8
  · rw [if_pos h6, if_pos h6]
    have : repB k = true := by rcases h6 with rfl | rfl | rfl <;> rfl
    rw [this]
    cases s.toList.isEmpty <;> cases (kids.len == 1) <;> cases repF kids <;> rfl
  rw [if_neg h6, if_neg h6]
  rfl
theorem okS_okA : ∀ (pk : Int) (fr : Fr (Int × ByteArray)), okS pk fr = (okA fr && (repB pk || !hasK pk fr))
  | pk, .nil => by simp [okS, okA, hasK]
  | pk, .cons a k r => by
    rw [okS, okA, hasK, okS_okA a.1 k, okS_okA pk r, here_sw]
    cases okA k <;> cases repB a.1 <;> cases hasK a.1 k <;> cases swB a.1 a.2 k <;> cases (a.1 == pk) <;> cases repB pk <;> cases okA r <;> cases hasK pk r <;> rfl
theorem okG_split : ∀ (d : Int) (fr : Fr (Int × ByteArray)), okG hereB d fr = (okG noneB d fr && okA fr)
  | d, .nil => rfl
  | d, .cons a k r => by
    rw [okG, okG, okA, okG_split (d + 1) k, okG_split d r]
    unfold noneB
    cases decide (d ≤ 6) <;> cases hereB a.1 a.2 k <;> cases okG (fun _ _ _ => true) (d + 1) k <;> cases okA k <;> cases okG (fun _ _ _ => true) d r <;> cases okA r <;> rfl
/-- Is a regular expression right. -/
def rexB (k : Int) (s : ByteArray) (kids : Fr (Int × ByteArray)) : Bool := (hereB k s kids && okG hereB 2 kids) && decide (kids.size + 1 ≤ 60)
theorem rexB_impl {k x : Int} {s : ByteArray} {kids : Fr (Int × ByteArray)} (h : Parts hereB 61 1 k s kids x) : decide (x ≤ 60) = rexB k s kids := by
  obtain ⟨_, _, h3, _⟩ := h
  unfold rexB
  by_cases hx : x ≤ 60
  · obtain ⟨_, q2, q3, q4⟩ := h3.1 hx
    rw [decide_eq_true hx, q2, show (2 : Int) = 1 + 1 from rfl, q3, decide_eq_true q4]
    rfl
  · rw [decide_eq_false hx]
    cases q2 : hereB k s kids
    · rfl
    · cases q3 : okG hereB 2 kids
      · rfl
      · rw [decide_eq_false (fun q4 => hx (h3.2 ⟨by omega, q2, q3, q4⟩))]; rfl
theorem rexB_spec {k x mx : Int} {s : ByteArray} {kids : Fr (Int × ByteArray)} (h : Parts noneB mx 1 k s kids x) : (decide (x ≤ 60) && (okS k kids && swB k s kids)) = rexB k s kids := by
  obtain ⟨_, _, h3, _⟩ := h
  unfold rexB
  rw [okS_okA, okG_split, here_sw]
  by_cases hx : x ≤ 60
  · obtain ⟨_, _, q3, q4⟩ := h3.1 hx
    rw [decide_eq_true hx, show (2 : Int) = 1 + 1 from rfl, q3, decide_eq_true q4]
    cases okA kids <;> cases repB k <;> cases hasK k kids <;> cases swB k s kids <;> rfl
  · rw [decide_eq_false hx]
    cases q3 : okG noneB 2 kids
    · cases okA kids <;> cases repB k <;> cases hasK k kids <;> cases swB k s kids <;> rfl
    · rw [decide_eq_false (fun q4 => hx (h3.2 ⟨by omega, rfl, q3, q4⟩))]
      cases okA kids <;> cases repB k <;> cases hasK k kids <;> cases swB k s kids <;> rfl

end Go.Proofs.Ytnoekbgmhnhneaa
namespace Go.Proofs.Ytnoekbgmhnhneaa
open Go.RowKit

/-- The bytes of a label. -/
def gRex (a : (Int × ByteArray)) : Nat := a.2.size
/-- A label's text is not too long. -/
def qRex (a : (Int × ByteArray)) : Prop := a.2.size ≤ 9223372036854775807

end Go.Proofs.Ytnoekbgmhnhneaa
namespace Go.Proofs.Ytnoekbgmhnhneaa
open Go.RowKit

set_option maxHeartbeats 1000000 in
theorem szRex_of (zk : Int) (zs : ByteArray) (kids : Fr (Int × ByteArray)) (A : Option Addr) (c : Nat) (left : Int) (w : World) (hq : zs.size ≤ 9223372036854775807) (h0 : 0 ≤ left) (h1 : left ≤ 1048576) (hS : Sl rexC w 0 w.heap.size A kids)
    (I : ∀ w' left, 0 ≤ left → left ≤ 1048576 → Sl rexC w' 0 w'.heap.size A kids → Calls Try.prog 49 #[.slice A kids.len c, .int .i64 left] w' fun e w'' => e = .returned (.int .i64 (left_ left (wt gRex kids))) ∧ Below w'.heap.size w' w'') :
    Calls Try.prog 19 #[.agg #[.int .i64 zk, .string zs, .slice A kids.len c], .int .i64 left] w fun e w' => e = .returned (.int .i64 (left_ left (zs.size + wt gRex kids))) ∧ Below w.heap.size w w' := by
  by_cases hc : left - (zs.size : Int) < 0
  · rw [show left_ left (zs.size + wt gRex kids) = -1 by unfold left_; rw [if_pos (by omega)]]
    go_enter Try.func19, Try.ntmps19
    go_wp2_with fail
    go_ret
    exact ⟨rfl, by repeat (first | exact Below.refl _ _ | refine bl_drewN ?_ _ | refine Below.drew ?_ | refine bl_alloc ?_ _ | refine bl_set ?_ (by simp) _ | refine bl_trans ?_ (by assumption))⟩
  · have B0 := Blk.new w 40 #[.int .i64 zk, .string zs, .slice A kids.len c]
    have L0 := bl_alloc (Below.refl w.heap.size w) (.cells #[.int .i64 zk, .string zs, .slice A kids.len c] 40)
    have I0 := I _ (left - zs.size) (by omega) (by omega) ((hS.below L0 (Nat.le_refl _)).more (Nat.le_refl _) L0.size)
    have hE : left_ left (zs.size + wt gRex kids) = left_ (left - zs.size) (wt gRex kids) := by
      unfold left_
      have e : left - ((zs.size + wt gRex kids : Nat) : Int) = left - zs.size - (wt gRex kids : Nat) := by omega
      rw [e]
    rw [hE]
    have hm := fun h => (left_neg (l := left - zs.size) (n := wt gRex kids) h).1
    generalize left_ (left - zs.size) (wt gRex kids) = R at I0 hm
    have HM := Lib.hid hm
    clear hm
    have II := Lib.hid I0
    clear I0 hE
    by_cases hR : R < 0
    all_goals
      go_enter Try.func19, Try.ntmps19
      go_wp2_with fail
      refine II.out.mono ?_; rintro e w1 ⟨rfl, b1⟩
      go_wp2_with fail
      go_ret
    · exact ⟨ret_int (HM.out hR).symm, bl_trans L0 b1⟩
    · exact ⟨rfl, bl_trans L0 b1⟩

set_option maxHeartbeats 2000000 in
theorem szRexS_step (fr : Fr (Int × ByteArray)) (A : Option Addr) (c : Nat) (left : Int) (w : World) (hl : fr.len ≤ 9223372036854775807) (hq : FrOk qRex fr) (h0 : 0 ≤ left) (h1 : left ≤ 1048576) (hS : Sl rexC w 0 w.heap.size A fr)
    (ih : ∀ (kids : Fr (Int × ByteArray)), kids.size < fr.size → kids.len ≤ 9223372036854775807 → FrOk qRex kids → ∀ (A : Option Addr) (c : Nat) (left : Int) (w : World), 0 ≤ left → left ≤ 1048576 → Sl rexC w 0 w.heap.size A kids → Calls Try.prog 49 #[.slice A kids.len c, .int .i64 left] w fun e w' => e = .returned (.int .i64 (left_ left (wt gRex kids))) ∧ Below w.heap.size w w') :
    Calls Try.prog 49 #[.slice A fr.len c, .int .i64 left] w fun e w' => e = .returned (.int .i64 (left_ left (wt gRex fr))) ∧ Below w.heap.size w w' := by
  have hlw := len_wt gRex fr
  by_cases hc : left - (fr.len : Int) < 0
  · rw [left_is (by omega)]
    go_enter Try.func49, Try.ntmps49
    go_wp2_with fail
    go_ret
    exact ⟨rfl, Below.refl _ _⟩
  · obtain ⟨R, hR⟩ : ∃ R, left_ left (wt gRex fr) = R := ⟨_, rfl⟩
    rw [hR]
    have HR := Lib.hid hR
    have IH := Lib.hid ih
    have HQ := Lib.hid hq
    clear hR ih hq
    go_enter Try.func49, Try.ntmps49
    go_wp2_with fail
    go_loopw [1, 5] (fun l i wr => ∃ (k : Nat) (y : Int), k ≤ fr.len ∧ i = .int .i64 k ∧ l = .int .i64 y ∧ 0 ≤ y ∧ y ≤ 1048576 ∧ left_ (y + (fr.drop k).len) (wt gRex (fr.drop k)) = R ∧ Below w.heap.size w wr) (fun _ i _ => fr.len - (intOf i).toNat)
    case atStart => exact ⟨0, _, Nat.zero_le _, rfl, rfl, by omega, by omega, by rw [Fr.drop_zero, Int.sub_add_cancel]; exact HR.out, Below.refl _ _⟩
    case round =>
      obtain ⟨k, y, hk, rfl, rfl, hy0, hy1, hE, hL⟩ := hrel
      by_cases hlt : k < fr.len
      · obtain ⟨b, o, a, kids, A', c', rfl, hb, hd, hks, hSk, q0, q1, q2⟩ := at_Rex (hS.below hL (Nat.le_refl _)) hlt
        have hlt' : (k : Int) < (fr.len : Int) := by omega
        have hqk := FrOk.drop k HQ.out
        rw [hd] at hE hqk
        obtain ⟨hqa, hkl, hqk, _⟩ := hqk
        obtain ⟨zk, zs⟩ := a
        have hlr := len_wt gRex (fr.drop (k + 1))
        have C := szRex_of zk zs kids A' c' y wr hqa hy0 hy1 (hSk.more (Nat.le_refl _) hL.size) (fun w' left h0 h1 h => IH.out kids hks hkl hqk A' c' left w' h0 h1 h)
        simp only [Fr.len, wt, gRex] at hE
        obtain ⟨z, hz⟩ : ∃ z, left_ y (zs.size + wt gRex kids) = z := ⟨_, rfl⟩
        rw [hz] at C
        have CC := Lib.hid C
        clear C hd
        simp only at q0 q1 q2
        by_cases hs : z < 0
        · have hR1 : R = -1 := by
            rw [← hE]
            have := (left_neg (by rw [hz]; exact hs)).2
            exact left_is (by omega)
          clear hE HR hz
          subst hR1
          go_wp2_with fail
          refine CC.out.mono ?_; rintro e w1 ⟨rfl, b1⟩
          go_wp2_with fail
          go_ret
          exact ⟨rfl, bl_trans hL b1⟩
        · have hp := left_pos (by rw [hz]; exact hs)
          rw [hz] at hp
          have hR1 : left_ (z + (fr.drop (k + 1)).len) (wt gRex (fr.drop (k + 1))) = R := by
            rw [← hE]
            unfold left_
            rw [show y + (((fr.drop (k + 1)).len + 1 : Nat) : Int) - ((1 + zs.size + wt gRex kids + wt gRex (fr.drop (k + 1)) : Nat) : Int) = z + ((fr.drop (k + 1)).len : Nat) - (wt gRex (fr.drop (k + 1)) : Nat) by omega]
          have H1 := Lib.hid hR1
          have hz0 : 0 ≤ z ∧ z ≤ 1048576 := by omega
          clear hE HR hz hR1 hp
          go_wp2_with fail
          refine CC.out.mono ?_; rintro e w1 ⟨rfl, b1⟩
          go_wp2_with fail
          go_roundw
          case rel => exact ⟨k + 1, z, by omega, by go_num, rfl, by omega, by omega, H1.out, bl_trans hL b1⟩
          case measure => simp [intOf]; omega
      · obtain rfl : k = fr.len := by omega
        rw [Fr.drop_all] at hE
        have h00 : left_ (y + ((0 : Nat) : Int)) 0 = y := by unfold left_; rw [if_neg (by omega)]; omega
        have hE' : y = R := h00.symm.trans hE
        subst hE'
        clear hE HR
        go_wp2_with fail
        go_ret
        exact ⟨rfl, hL⟩
theorem szRexS_any (N : Nat) : ∀ (fr : Fr (Int × ByteArray)), fr.size ≤ N → fr.len ≤ 9223372036854775807 → FrOk qRex fr → ∀ (A : Option Addr) (c : Nat) (left : Int) (w : World), 0 ≤ left → left ≤ 1048576 → Sl rexC w 0 w.heap.size A fr →
    Calls Try.prog 49 #[.slice A fr.len c, .int .i64 left] w fun e w' => e = .returned (.int .i64 (left_ left (wt gRex fr))) ∧ Below w.heap.size w w' := by
  induction N with
  | zero =>
    intro fr hs hl hq A c left w h0 h1 hS
    obtain rfl := Fr.size_pos (Nat.le_zero.1 hs)
    exact szRexS_step .nil A c left w hl hq h0 h1 hS (fun kids h => by simp [Fr.size] at h)
  | succ N ih =>
    intro fr hs hl hq A c left w h0 h1 hS
    exact szRexS_step fr A c left w hl hq h0 h1 hS (fun kids h hl hq A c left w h0 h1 hk => ih kids (by omega) hl hq A c left w h0 h1 hk)

end Go.Proofs.Ytnoekbgmhnhneaa
namespace Go.Proofs.Ytnoekbgmhnhneaa
open Go.RowKit

def sVs (xs : List ByteArray) : List Value := xs.map Value.string
theorem info_str : (Try.prog.info? 9).map (fun i => (i.zero, i.size, i.bytes)) = some (some (.string ⟨#[]⟩), 1, 16) := by kernel_rfl
/-- It hands back new texts of which R holds. -/
def RetSs (R : List ByteArray → Prop) (w : World) (e : Ending) (w' : World) : Prop := ∃ (v : Value) (zs : List ByteArray), e = .returned v ∧ R zs ∧ Row w' w.heap.size w'.heap.size 9 1 v zs.length (sVs zs)
theorem sVs_len (zs : List ByteArray) : (sVs zs).length = zs.length := by simp [sVs]
theorem sVs_get (zs : List ByteArray) (k : Nat) (hk : k < zs.length) : (sVs zs)[k]? = some (.string zs[k]) := by simp [sVs, hk]
theorem rd_atS {w : World} {B : Nat} {A : Option Addr} {zs : List ByteArray} (h : Reads w B 1 A zs.length (sVs zs)) {k : Nat} (hk : k < zs.length) :
    ∃ b off, A = some ⟨b, off, none⟩ ∧ b < B ∧ w.cell? ⟨b, off + k, none⟩ = some (.string zs[k]) := by
  obtain ⟨b, off, u, e, hb, hu, hc⟩ := h.at_ hk
  rw [sVs_get zs k hk] at hu
  cases hu
  exact ⟨b, off, e, hb, hc⟩
/-- The first k of one, the rest of another. -/
def uptoS (zs ys : List ByteArray) (k : Nat) : List ByteArray := zs.take k ++ ys.drop k
theorem uptoS_zero (zs ys : List ByteArray) : uptoS zs ys 0 = ys := by simp [uptoS]
theorem uptoS_all (zs ys : List ByteArray) (h : ys.length ≤ zs.length) (_ : zs.length = ys.length) : uptoS zs ys zs.length = zs := by simp [uptoS, List.drop_eq_nil_of_le h]
theorem uptoS_len (zs ys : List ByteArray) (k : Nat) (h : zs.length = ys.length) (hk : k ≤ zs.length) : (uptoS zs ys k).length = ys.length := by simp [uptoS]; omega
theorem uptoS_succ (zs ys : List ByteArray) (k : Nat) (hl : zs.length = ys.length) (hk : k < zs.length) : (sVs (uptoS zs ys k)).set k (.string zs[k]) = sVs (uptoS zs ys (k + 1)) := by
  apply List.ext_getElem?
  intro j
  have hkl : k < (sVs (uptoS zs ys k)).length := by rw [sVs_len, uptoS_len _ _ _ hl (by omega)]; omega
  by_cases e : j = k
  · subst e
    rw [List.getElem?_set_self hkl]
    unfold sVs uptoS
    rw [List.getElem?_map, List.getElem?_append_left (by simp; omega), List.getElem?_take, if_pos (by omega), List.getElem?_eq_getElem hk]
    rfl
  · rw [List.getElem?_set_ne (by omega)]
    unfold sVs uptoS
    rw [List.getElem?_map, List.getElem?_map]
    congr 1
    by_cases l : j < k
    · rw [List.getElem?_append_left (by simp; omega), List.getElem?_append_left (by simp; omega), List.getElem?_take, List.getElem?_take, if_pos l, if_pos (by omega)]
    · rw [List.getElem?_append_right (by simp; omega), List.getElem?_append_right (by simp; omega), List.getElem?_drop, List.getElem?_drop]
      simp only [List.length_take]
      congr 1
      omega
theorem uptoS_get (zs ys : List ByteArray) (k : Nat) (h : zs.length = ys.length) (hk : k < zs.length) : (sVs (uptoS zs ys k))[k]? = some (.string (ys[k]'(by omega))) := by
  unfold sVs uptoS
  rw [List.getElem?_map, List.getElem?_append_right (by simp; omega), List.getElem?_drop]
  have e : k + (k - (List.take k zs).length) = k := by simp; omega
  rw [e, List.getElem?_eq_getElem (by omega)]
  rfl

/-- What is left behind the texts' sizes; -1: too little. -/
def szL : Int → List ByteArray → Int
  | left, [] => left
  | left, x :: r => if left - x.size < 0 then -1 else szL (left - x.size) r
def szS (left : Int) (xs : List ByteArray) : Int := if left - xs.length < 0 then -1 else szL (left - xs.length) xs
theorem szL_drop (xs : List ByteArray) (k : Nat) (left : Int) (hk : k < xs.length) : szL left (xs.drop k) = if left - xs[k].size < 0 then -1 else szL (left - xs[k].size) (xs.drop (k + 1)) := by
  rw [List.drop_eq_getElem_cons hk]
  rfl
def sumL (xs : List ByteArray) : Nat := (xs.map ByteArray.size).sum
theorem szL_sum : ∀ (xs : List ByteArray) (left : Int), ¬ szL left xs < 0 → (sumL xs : Int) ≤ left
  | [], left, h => by simp [sumL]; unfold szL at h; omega
  | x :: r, left, h => by
    unfold szL at h
    split at h
    · omega
    · have := szL_sum r _ h
      simp [sumL] at this ⊢
      omega
theorem szS_sum (xs : List ByteArray) (left : Int) (h : ¬ szS left xs < 0) : (xs.length : Int) + (sumL xs : Int) ≤ left := by
  unfold szS at h
  split at h
  · omega
  · have := szL_sum xs _ h
    omega
theorem sumL_drop (xs : List ByteArray) (k : Nat) (hk : k < xs.length) : sumL (xs.drop k) = xs[k].size + sumL (xs.drop (k + 1)) := by
  rw [List.drop_eq_getElem_cons hk]
  unfold sumL
  rw [List.map_cons, List.sum_cons]


end Go.Proofs.Ytnoekbgmhnhneaa
namespace Go.Proofs.Ytnoekbgmhnhneaa
open Go.RowKit

/-- The cells of numbers. -/
def zints (l : List Int) : List Value := l.map (Value.int .i64)
theorem zints_len (l : List Int) : (zints l).length = l.length := by simp [zints]
theorem zints_get (l : List Int) {k : Nat} (hk : k < l.length) : (zints l)[k]? = some (.int .i64 l[k]) := by
  unfold zints
  rw [List.getElem?_map, List.getElem?_eq_getElem hk]
  rfl
theorem zints_snoc (l : List Int) (n : Int) : zints l ++ [.int .i64 n] = zints (l ++ [n]) := by simp [zints]
theorem zints_set (l : List Int) (k : Nat) (n : Int) : (zints l).set k (.int .i64 n) = zints (l.set k n) := by unfold zints; rw [List.map_set]
theorem zints_mem (l : List Int) : ∀ u ∈ zints l, u.oneCell' = true := by
  intro u hu
  obtain ⟨x, _, rfl⟩ := List.mem_map.1 hu
  rfl
theorem info_intz : (Try.prog.info? 3).map (fun i => (i.zero, i.size, i.bytes)) = some (some (.int .i64 0), 1, 8) := by kernel_rfl
/-- It hands back a new row of numbers of which R holds. -/
def RetZ (R : List Int → Prop) (w : World) (e : Ending) (w' : World) : Prop := ∃ (v : Value) (l : List Int), e = .returned v ∧ R l ∧ Row w' w.heap.size w'.heap.size 3 1 v l.length (zints l)
/-- A row rises. -/
def Ris (l : List Int) : Prop := l.Pairwise (· < ·)
theorem ris_get {l : List Int} (h : Ris l) {i j : Nat} (hij : i < j) (hj : j < l.length) : l[i]'(by omega) < l[j] := List.pairwise_iff_getElem.1 h i j (by omega) hj hij
/-- Two rising rows of the same numbers are the same. -/
theorem ris_same : ∀ {l m : List Int}, Ris l → Ris m → (∀ x, x ∈ l ↔ x ∈ m) → l = m
  | [], [], _, _, _ => rfl
  | [], y :: m, _, _, h => absurd ((h y).2 (List.mem_cons_self ..)) (by simp)
  | x :: l, [], _, _, h => absurd ((h x).1 (List.mem_cons_self ..)) (by simp)
  | x :: l, y :: m, hl, hm, h => by
    obtain ⟨h1, h2⟩ := List.pairwise_cons.1 hl
    obtain ⟨g1, g2⟩ := List.pairwise_cons.1 hm
    have exy : x = y := by
      rcases List.mem_cons.1 ((h x).1 (List.mem_cons_self ..)) with e | e
      · exact e
      · rcases List.mem_cons.1 ((h y).2 (List.mem_cons_self ..)) with e' | e'
        · exact e'.symm
        · have := g1 x e; have := h1 y e'; omega
    subst exy
    refine congrArg (x :: ·) (ris_same h2 g2 fun z => ⟨fun hz => ?_, fun hz => ?_⟩)
    · rcases List.mem_cons.1 ((h z).1 (List.mem_cons_of_mem _ hz)) with e | e
      · subst e; have := h1 z hz; omega
      · exact e
    · rcases List.mem_cons.1 ((h z).2 (List.mem_cons_of_mem _ hz)) with e | e
      · subst e; have := g1 z hz; omega
      · exact e
/-- A row with a number put in. -/
def PutZ (l : List Int) (n : Int) (m : List Int) : Prop := Ris m ∧ (∀ x, x ∈ m ↔ (x ∈ l ∨ x = n)) ∧ m.length ≤ l.length + 1
theorem PutZ.old {l : List Int} {n : Int} (h : Ris l) (hn : n ∈ l) : PutZ l n l := ⟨h, fun x => ⟨.inl, fun hx => hx.elim id (fun e => e ▸ hn)⟩, by omega⟩
theorem PutZ.ins {l : List Int} {n : Int} {i : Nat} (h : Ris l) (hi : i ≤ l.length) (hr : ∀ j (hj : j < l.length), i ≤ j → n < l[j]) (hl : ∀ hp : 0 < i, l[i - 1]'(by omega) < n) : PutZ l n (l.take i ++ n :: l.drop i) := by
  have e0 : l.take i ++ l.drop i = l := List.take_append_drop i l
  have hd : ∀ x ∈ l.drop i, n < x := fun x hx => by
    obtain ⟨j, hj, rfl⟩ := List.getElem_of_mem hx
    rw [List.getElem_drop]
    exact hr (i + j) (by rw [List.length_drop] at hj; omega) (by omega)
  have ht : ∀ x ∈ l.take i, x < n := fun x hx => by
    obtain ⟨j, hj, rfl⟩ := List.getElem_of_mem hx
    rw [List.length_take] at hj
    rw [List.getElem_take]
    have h0 := hl (by omega)
    rcases Nat.lt_or_ge j (i - 1) with h1 | h1
    · have := ris_get h h1 (by omega)
      omega
    · have : j = i - 1 := by omega
      subst this
      exact h0
  have hp : Ris (l.take i ++ l.drop i) := by rw [e0]; exact h
  obtain ⟨p1, p2, p3⟩ := List.pairwise_append.1 hp
  refine ⟨List.pairwise_append.2 ⟨p1, List.pairwise_cons.2 ⟨hd, p2⟩, fun a ha b hb => ?_⟩, fun x => ?_, ?_⟩
  · rcases List.mem_cons.1 hb with rfl | hb
    · exact ht a ha
    · exact p3 a ha b hb
  · conv => rhs; rw [← e0]
    simp only [List.mem_append, List.mem_cons]
    constructor
    · rintro (h | h | h)
      · exact .inl (.inl h)
      · exact .inr h
      · exact .inl (.inr h)
    · rintro ((h | h) | h)
      · exact .inl h
      · exact .inr (.inr h)
      · exact .inr (.inl h)
  · have := congrArg List.length e0
    simp only [List.length_append, List.length_cons] at this ⊢
    omega
/-- While places are moved up: those above k are moved. -/
def shZ (l : List Int) (k : Nat) : List Int := (l ++ [0]).take (k + 1) ++ l.drop k
theorem shZ_len {l : List Int} {k : Nat} (hk : k ≤ l.length) : (shZ l k).length = l.length + 1 := by unfold shZ; simp; omega
theorem shZ_top (l : List Int) : shZ l l.length = l ++ [0] := by
  unfold shZ
  rw [List.take_of_length_le (by simp), List.drop_eq_nil_of_le (Nat.le_refl _), List.append_nil]
theorem shZ_get {l : List Int} {k j : Nat} (hj : j < k) (hk : k ≤ l.length) : (shZ l k)[j]? = some (l[j]'(by omega)) := by
  unfold shZ
  rw [List.getElem?_append_left (by simp; omega), List.getElem?_take, if_pos (by omega), List.getElem?_append_left (by omega), List.getElem?_eq_getElem (by omega)]
theorem shZ_step {l : List Int} {k : Nat} (hk0 : 0 < k) (hk : k ≤ l.length) : (shZ l k).set k (l[k - 1]'(by omega)) = shZ l (k - 1) := by
  apply List.ext_getElem?
  intro j
  rw [List.getElem?_set]
  have h1 : ((l ++ [0]).take (k + 1)).length = k + 1 := by first | (simp; done) | (simp; omega)
  have h2 : ((l ++ [0]).take (k - 1 + 1)).length = k := by first | (simp; done) | (simp; omega)
  by_cases hj : k = j
  · subst hj
    rw [if_pos rfl, if_pos (by rw [shZ_len hk]; omega)]
    unfold shZ
    rw [List.getElem?_append_right (by rw [h2]; exact Nat.le_refl _), h2, Nat.sub_self, List.getElem?_drop, Nat.add_zero, List.getElem?_eq_getElem (by omega)]
  · rw [if_neg hj]
    unfold shZ
    rcases Nat.lt_or_ge j k with h | h
    · rw [List.getElem?_append_left (by rw [h1]; omega), List.getElem?_append_left (by rw [h2]; exact h), List.getElem?_take, List.getElem?_take, if_pos (by omega), if_pos (by omega)]
    · rw [List.getElem?_append_right (by rw [h1]; omega), List.getElem?_append_right (by rw [h2]; omega), h1, h2, List.getElem?_drop, List.getElem?_drop]
      congr 1
      omega
theorem shZ_end {l : List Int} {i : Nat} (n : Int) (hi : i ≤ l.length) : (shZ l i).set i n = l.take i ++ n :: l.drop i := by
  apply List.ext_getElem?
  intro j
  rw [List.getElem?_set]
  have h1 : ((l ++ [0]).take (i + 1)).length = i + 1 := by first | (simp; done) | (simp; omega)
  have h2 : (l.take i).length = i := by rw [List.length_take]; omega
  by_cases hj : i = j
  · subst hj
    rw [if_pos rfl, if_pos (by rw [shZ_len hi]; omega), List.getElem?_append_right (by rw [h2]; exact Nat.le_refl _), h2, Nat.sub_self, List.getElem?_cons_zero]
  · rw [if_neg hj]
    unfold shZ
    rcases Nat.lt_or_ge j i with h | h
    · rw [List.getElem?_append_left (by rw [h1]; omega), List.getElem?_append_left (by rw [h2]; exact h), List.getElem?_take, List.getElem?_take, if_pos (by omega), if_pos h, List.getElem?_append_left (by omega)]
    · rw [List.getElem?_append_right (by rw [h1]; omega), List.getElem?_append_right (by rw [h2]; omega), h1, h2]
      obtain ⟨q, hq⟩ : ∃ q, j - i = q + 1 := ⟨j - i - 1, by omega⟩
      rw [hq, List.getElem?_cons_succ, List.getElem?_drop, List.getElem?_drop]
      congr 1
      omega

end Go.Proofs.Ytnoekbgmhnhneaa
namespace Go.Proofs.Ytnoekbgmhnhneaa
open Go.RowKit

set_option maxRecDepth 20000 in
set_option maxHeartbeats 4000000 in
theorem sPutZ (l : List Int) (A : Option Addr) (c : Nat) (n : Int) (w : World) (hl : l.length ≤ 2097152) (hA : Ris l) (hR : Reads w w.heap.size 1 A l.length (zints l)) :
    Calls Try.prog 43 #[.slice A l.length c, .int .i64 n] w fun e w' => RetZ (PutZ l n) w e w' ∧ Below w.heap.size w w' := by
  obtain ⟨i0, hi, hz0, hz1, hz2⟩ := info_parts info_intz
  have hl' : (l.length : Int) ≤ 2097152 := by omega
  have HA := Lib.hid hA
  have L0 := bl_alloc (Below.refl w.heap.size w) (.cells #[] 3)
  have hO0 := World.ownsRow_made (e := 3) (size := 1) w #[] 0 (Nat.le_refl _) (by simp [maxLen]) (by simp)
  have hR0 := hR.alloc (Nat.le_refl _) (.cells #[] 3)
  clear hA
  go_enter Try.func43, Try.ntmps43
  go_wp2_with (at_builtin; refine wpList_append_any _ rfl _ _ 25 rfl w.heap.size 3 i0 (.int .i64 0) 1 8 Try.underlying25 hi hz0 hz1 hz2 rfl (by decide) _ 0 [] rfl hO0 w.heap.size _ l.length c (zints l) rfl hR0 (zints_mem l) (by unfold maxLen; omega) (by omega) (by simp) ?_)
  intro v1 w1 hO1 hg1 _
  have L1 : Below w.heap.size w w1 := L0.grown hg1 L0.size (fun q e => (hO0.lt q e).1)
  clear hO0 hR0 L0 hg1
  obtain ⟨A1, c1, rfl⟩ := (Row.mk hO1).form
  have s1 := L1.size
  go_wp2_with fail
  go_loopw [6] (fun iv wr => ∃ (i : Nat) (v : Int), i ≤ l.length ∧ iv = .int .i64 v ∧ v = (i : Int) ∧ (∀ j (hj : j < l.length), i ≤ j → n < l[j]) ∧ wr = w1) (fun iv _ => (intOf iv).toNat)
  case atStart => exact ⟨l.length, _, Nat.le_refl _, rfl, rfl, fun j hj h => by omega, rfl⟩
  case round =>
    obtain ⟨i, v, hil, rfl, hv, hrr, rfl⟩ := hrel
    have hR1 := (Row.mk hO1).reads
    by_cases h0 : 0 < i
    · subst hv
      have h0' : (0 : Int) < (i : Int) := by omega
      obtain ⟨b, off, hAe, hb, hc⟩ := hR1.2 (by omega)
      subst hAe
      have q0 := hc (i - 1) _ (zints_get l (by omega))
      have ew : IntKind.i64.wrap ((i : Int) - 1) = ((i - 1 : Nat) : Int) := by rw [IntKind.wrap_i64]; omega
      have e1 : ((i : Int) - 1).toNat = i - 1 := by omega
      have e2 : ((i : Int) - 1) = ((i - 1 : Nat) : Int) := by omega
      have hx := hrr
      by_cases hge : n ≤ l[i - 1]
      · by_cases heq : l[i - 1] = n
        · have HM := Lib.hid (PutZ.old HA.out (show n ∈ l by rw [← heq]; exact List.getElem_mem _))
          have beq : (l[i - 1] == n) = true := by simp [heq]
          clear hx hc hrr heq
          generalize l[i - 1] = y at q0 hge beq
          go_wp2_with fail
          go_ret
          exact ⟨⟨_, l, rfl, HM.out, Row.mk hO1⟩, L1⟩
        · have beq : (l[i - 1] == n) = false := beq_eq_false_iff_ne.2 heq
          have HN := Lib.hid (show ∀ j (hj : j < l.length), i - 1 ≤ j → n < l[j] from fun j hj h => by
            rcases Nat.lt_or_ge j i with h1 | h1
            · have : j = i - 1 := by omega
              subst this
              omega
            · exact hrr j hj h1)
          clear hx hc hrr heq
          generalize l[i - 1] = y at q0 hge beq
          go_wp2_with fail
          go_roundw
          case rel => exact ⟨i - 1, _, by omega, rfl, by first | rfl | exact ew | exact e2, HN.out, by first | rfl | trivial⟩
          case measure => simp [intOf]; omega
      · have hlt : l[i - 1] < n := by omega
        have HP := Lib.hid (PutZ.ins HA.out hil hrr (fun _ => hlt))
        clear hx hc hrr
        generalize l[i - 1] = y at q0 hge hlt
        go_wp2_with (at_builtin; refine wpList_push rfl _ _ 25 rfl w.heap.size 3 i0 (.int .i64 0) 1 8 Try.underlying25 hi hz0 hz1 hz2 rfl (by decide) _ _ _ rfl hO1 _ rfl rfl rfl (by omega) (by omega) s1 ?_)
        intro v2 w2 hO2 hg2
        obtain ⟨A2, c2, rfl⟩ := (Row.mk hO2).form
        have L2 := L1.grown hg2 s1 (fun q e => (hO1.lt q e).1)
        rw [show zints l ++ [Value.int .i64 0] = zints (shZ l l.length) by rw [zints_snoc, shZ_top]] at hO2
        have ek : IntKind.i64.wrap (((l.length : Int) + 1) - 1) = (l.length : Int) := by rw [IntKind.wrap_i64]; omega
        clear hO1 hR1 hg2
        go_wp2_with fail
        go_loopw [7] (fun kv wr => ∃ k : Nat, i ≤ k ∧ k ≤ l.length ∧ kv = .int .i64 k ∧ wr.ownsRow w.heap.size 3 1 (.slice A2 (l.length + 1) c2) (l.length + 1) (zints (shZ l k)) ∧ Below w.heap.size w wr) (fun kv _ => (intOf kv).toNat)
        case atStart => exact ⟨l.length, hil, Nat.le_refl _, by first | rfl | (rw [ek]), hO2, L2⟩
        case round =>
          obtain ⟨k, hik, hkl, rfl, hO, hL⟩ := hrel
          obtain ⟨g, hAe, hg0, hgs⟩ := own_blk hO (by omega)
          subst hAe
          by_cases hgt : i < k
          · have hgt' : (i : Int) < (k : Int) := by omega
            have p0 : wr.cell? ⟨g, k - 1, none⟩ = some (.int .i64 (l[k - 1]'(by omega))) := by
              rw [hO.cellAt (k - 1) (by omega)]
              unfold zints
              rw [List.getElem?_map, shZ_get (by omega) hkl]
              rfl
            have f0 := hO.frozenAt k
            have ew : IntKind.i64.wrap ((k : Int) - 1) = ((k - 1 : Nat) : Int) := by rw [IntKind.wrap_i64]; omega
            have e1 : ((k : Int) - 1).toNat = k - 1 := by omega
            have e2 : ((k : Int) - 1) = ((k - 1 : Nat) : Int) := by omega
            have hS := (hO.stored k (.int .i64 (l[k - 1]'(by omega)))).1
            rw [zints_set, shZ_step (by omega) hkl] at hS
            have HS := Lib.hid hS
            have hc0 := hO.cellAt k (by omega)
            have hk2 : (zints (shZ l k))[k]? = some (.int .i64 ((shZ l k)[k]'(by rw [shZ_len hkl]; omega))) := zints_get _ _
            rw [hk2] at hc0
            clear hS hk2
            generalize (shZ l k)[k]'(by rw [shZ_len hkl]; omega) = y0 at hc0
            generalize l[k - 1]'(by omega) = y at p0 HS
            go_wp2_with fail
            go_roundw
            case rel => exact ⟨k - 1, by omega, by omega, by first | rfl | rw [ew], HS.out, bl_setb hL hg0 _⟩
            case measure => simp [intOf]; omega
          · obtain rfl : k = i := by omega
            have hgt' : ¬ (k : Int) < (k : Int) := by omega
            have f0 := hO.frozenAt k
            have hS := (hO.stored k (.int .i64 n)).1
            rw [zints_set, shZ_end n hkl] at hS
            have HS := Lib.hid hS
            have hc0 := hO.cellAt k (by omega)
            have hk2 : (zints (shZ l k))[k]? = some (.int .i64 ((shZ l k)[k]'(by rw [shZ_len hkl]; omega))) := zints_get _ _
            rw [hk2] at hc0
            clear hS hk2
            generalize (shZ l k)[k]'(by rw [shZ_len hkl]; omega) = y0 at hc0
            have hlen : (l.take k ++ n :: l.drop k).length = l.length + 1 := by first | (simp; done) | (simp; omega)
            have HLEN := Lib.hid hlen
            clear hlen
            go_wp2_with fail
            go_ret
            refine ⟨⟨_, _, rfl, HP.out, ?_⟩, bl_setb hL hg0 _⟩
            rw [HLEN.out]
            exact Row.mk HS.out
    · obtain rfl : i = 0 := by omega
      obtain rfl : v = 0 := by omega
      have HP := Lib.hid (PutZ.ins HA.out hil hrr (fun h => absurd h (by omega)))
      clear hrr h0 hil hv
      have hil := Nat.zero_le l.length
      go_wp2_with (at_builtin; refine wpList_push rfl _ _ 25 rfl w.heap.size 3 i0 (.int .i64 0) 1 8 Try.underlying25 hi hz0 hz1 hz2 rfl (by decide) _ _ _ rfl hO1 _ rfl rfl rfl (by omega) (by omega) s1 ?_)
      intro v2 w2 hO2 hg2
      obtain ⟨A2, c2, rfl⟩ := (Row.mk hO2).form
      have L2 := L1.grown hg2 s1 (fun q e => (hO1.lt q e).1)
      rw [show zints l ++ [Value.int .i64 0] = zints (shZ l l.length) by rw [zints_snoc, shZ_top]] at hO2
      have ek : IntKind.i64.wrap (((l.length : Int) + 1) - 1) = (l.length : Int) := by rw [IntKind.wrap_i64]; omega
      clear hO1 hR1 hg2
      go_wp2_with fail
      go_loopw [7] (fun kv wr => ∃ k : Nat, 0 ≤ k ∧ k ≤ l.length ∧ kv = .int .i64 k ∧ wr.ownsRow w.heap.size 3 1 (.slice A2 (l.length + 1) c2) (l.length + 1) (zints (shZ l k)) ∧ Below w.heap.size w wr) (fun kv _ => (intOf kv).toNat)
      case atStart => exact ⟨l.length, hil, Nat.le_refl _, by first | rfl | (rw [ek]), hO2, L2⟩
      case round =>
        obtain ⟨k, hik, hkl, rfl, hO, hL⟩ := hrel
        obtain ⟨g, hAe, hg0, hgs⟩ := own_blk hO (by omega)
        subst hAe
        by_cases hgt : 0 < k
        · have hgt' : (0 : Int) < (k : Int) := by omega
          have p0 : wr.cell? ⟨g, k - 1, none⟩ = some (.int .i64 (l[k - 1]'(by omega))) := by
            rw [hO.cellAt (k - 1) (by omega)]
            unfold zints
            rw [List.getElem?_map, shZ_get (by omega) hkl]
            rfl
          have f0 := hO.frozenAt k
          have ew : IntKind.i64.wrap ((k : Int) - 1) = ((k - 1 : Nat) : Int) := by rw [IntKind.wrap_i64]; omega
          have e1 : ((k : Int) - 1).toNat = k - 1 := by omega
          have e2 : ((k : Int) - 1) = ((k - 1 : Nat) : Int) := by omega
          have hS := (hO.stored k (.int .i64 (l[k - 1]'(by omega)))).1
          rw [zints_set, shZ_step (by omega) hkl] at hS
          have HS := Lib.hid hS
          have hc0 := hO.cellAt k (by omega)
          have hk2 : (zints (shZ l k))[k]? = some (.int .i64 ((shZ l k)[k]'(by rw [shZ_len hkl]; omega))) := zints_get _ _
          rw [hk2] at hc0
          clear hS hk2
          generalize (shZ l k)[k]'(by rw [shZ_len hkl]; omega) = y0 at hc0
          generalize l[k - 1]'(by omega) = y at p0 HS
          go_wp2_with fail
          go_roundw
          case rel => exact ⟨k - 1, by omega, by omega, by first | rfl | rw [ew], HS.out, bl_setb hL hg0 _⟩
          case measure => simp [intOf]; omega
        · obtain rfl : k = 0 := by omega
          have hgt' : ¬ (0 : Int) < (0 : Int) := by omega
          have f0 := hO.frozenAt 0
          have hS := (hO.stored 0 (.int .i64 n)).1
          rw [zints_set, shZ_end n hkl] at hS
          have HS := Lib.hid hS
          have hc0 := hO.cellAt 0 (by omega)
          have hk2 : (zints (shZ l 0))[0]? = some (.int .i64 ((shZ l 0)[0]'(by rw [shZ_len hkl]; omega))) := zints_get _ _
          rw [hk2] at hc0
          clear hS hk2
          generalize (shZ l 0)[0]'(by rw [shZ_len hkl]; omega) = y0 at hc0
          have hlen : (l.take 0 ++ n :: l.drop 0).length = l.length + 1 := by first | (simp; done) | (simp; omega)
          have HLEN := Lib.hid hlen
          clear hlen
          go_wp2_with fail
          go_ret
          refine ⟨⟨_, _, rfl, HP.out, ?_⟩, bl_setb hL hg0 _⟩
          rw [HLEN.out]
          exact Row.mk HS.out

end Go.Proofs.Ytnoekbgmhnhneaa
namespace Go.Proofs.Ytnoekbgmhnhneaa
open Go.RowKit

theorem big_any (A : Option Addr) (n c : Nat) (w : World) : Calls Try.prog 30 #[.slice A n c] w fun e w' => e = .returned (.bool (decide (1048576 < (n : Int)))) ∧ w' = w := by
  by_cases h : 1048576 < (n : Int)
  all_goals
    go_enter Try.func30, Try.ntmps30
    go_wp2_with fail
    go_ret
    exact ⟨ret_bool (by simp [h]), rfl⟩

end Go.Proofs.Ytnoekbgmhnhneaa
