/- Walks over texts: clamp, SubText, UpperOf, the program's and the reference's. A text's length is at most 1048576 in these contracts. -/
import Derived.Test.YtjpefadalinhoaaBase
import Derived.Test.YtjpefadalinhoaaMem
namespace Go.Proofs.Ytjpefadalinhoaa
open Go.RowKit

/-- A number, or the nearest that is let. -/
def clampI (n lo hi : Int) : Int := if n < lo then lo else if hi < n then hi else n
theorem clampI_bd (n lo hi : Int) (h : lo ≤ hi) : lo ≤ clampI n lo hi ∧ clampI n lo hi ≤ hi := by unfold clampI; split <;> (try split) <;> omega

set_option maxHeartbeats 400000 in
theorem iClamp (n lo hi : Int) (w : World) (h : lo ≤ hi) :
    Calls Try.prog 59 #[.int .i64 n, .int .i64 lo, .int .i64 hi] w fun e w' => e = .returned (.int .i64 (clampI n lo hi)) ∧ w' = w := by
  by_cases h1 : n < lo
  · go_enter Try.func59, Try.ntmps59
    go_wp2
    all_goals first | (exfalso; omega) | skip
    go_ret
    exact ⟨ret_int (by unfold clampI; rw [if_pos h1]), rfl⟩
  · by_cases h2 : hi < n
    · go_enter Try.func59, Try.ntmps59
      go_wp2
      all_goals first | (exfalso; omega) | skip
      go_ret
      exact ⟨ret_int (by unfold clampI; rw [if_neg (by omega), if_pos h2]), rfl⟩
    · go_enter Try.func59, Try.ntmps59
      go_wp2
      all_goals first | (exfalso; omega) | skip
      go_ret
      exact ⟨ret_int (by unfold clampI; rw [if_neg (by omega), if_neg (by omega)]), rfl⟩

set_option maxHeartbeats 400000 in
theorem sNear (n : Int) (w : World) :
    Calls Try.prog 62 #[.int .i64 n] w fun e w' => e = .returned (.int .i64 (clampI n (-1000000) 1000000)) ∧ w' = w := by
  go_enter Try.func62, Try.ntmps62
  go_wp2
  all_goals go_ret
  all_goals exact ⟨ret_int (by unfold clampI; split <;> (try split) <;> omega), rfl⟩

/-- What SubText gives. -/
def subT (s : ByteArray) (f n : Int) : ByteArray :=
  let a := clampI f (-1000000) 1000000
  let b := clampI n (-1000000) 1000000
  let low := if a < 1 then 1 else a
  let high := if (s.size : Int) + 1 < a + b then (s.size : Int) + 1 else a + b
  if low < high then s.extract (low - 1).toNat (high - 1).toNat else ByteArray.empty
theorem subT_of (s : ByteArray) (f n a b : Int) (ha : clampI f (-1000000) 1000000 = a) (hb : clampI n (-1000000) 1000000 = b) (low high : Int)
    (hl : low = if a < 1 then 1 else a) (hh : high = if (s.size : Int) + 1 < a + b then (s.size : Int) + 1 else a + b) :
    subT s f n = if low < high then s.extract (low - 1).toNat (high - 1).toNat else ByteArray.empty := by
  unfold subT
  simp only [ha, hb, ← hl, ← hh]

set_option maxHeartbeats 1000000 in
theorem iSub (s : ByteArray) (f n : Int) (w : World) (h : s.size ≤ 1048576) :
    Calls Try.prog 31 #[.string s, .int .i64 f, .int .i64 n] w fun e w' => e = .returned (.string (subT s f n)) ∧ w' = w := by
  have HD := Lib.hid (subT_of s f n)
  generalize hX : subT s f n = X at *
  clear hX
  have g1 := clampI_bd f (-1000000) 1000000 (by omega)
  have g2 := clampI_bd n (-1000000) 1000000 (by omega)
  have t1 := (fun (x : Int) (W : World) => iClamp x (-1000000) 1000000 W (by omega)) f
  have t2 := (fun (x : Int) (W : World) => iClamp x (-1000000) 1000000 W (by omega)) n
  generalize clampI f (-1000000) 1000000 = a at *
  generalize clampI n (-1000000) 1000000 = b at *
  have hs : (s.size : Int) ≤ 1048576 := by omega
  by_cases c1 : a < 1 <;> by_cases c2 : (s.size : Int) + 1 < a + b
  · by_cases c3 : (1 : Int) < ((s.size : Int) + 1)
    · go_enter Try.func31, Try.ntmps31
      go_wp2_with fail
      refine (t1 _).mono ?_; rintro e w1 ⟨rfl, rfl⟩
      go_wp2_with fail
      refine (t2 _).mono ?_; rintro e w1 ⟨rfl, rfl⟩
      go_wp2_with fail
      all_goals first | (exfalso; omega) | skip
      all_goals go_ret
      all_goals refine ⟨ret_str ?_, rfl⟩
      all_goals rw [HD.out a b rfl rfl 1 ((s.size : Int) + 1) (by split <;> omega) (by split <;> omega), if_pos (by omega)]
      all_goals simp
    · go_enter Try.func31, Try.ntmps31
      go_wp2_with fail
      refine (t1 _).mono ?_; rintro e w1 ⟨rfl, rfl⟩
      go_wp2_with fail
      refine (t2 _).mono ?_; rintro e w1 ⟨rfl, rfl⟩
      go_wp2_with fail
      all_goals first | (exfalso; omega) | skip
      all_goals go_ret
      all_goals refine ⟨ret_str ?_, rfl⟩
      all_goals rw [HD.out a b rfl rfl 1 ((s.size : Int) + 1) (by split <;> omega) (by split <;> omega), if_neg (by omega)]
      all_goals rfl
  · by_cases c3 : (1 : Int) < (a + b)
    · go_enter Try.func31, Try.ntmps31
      go_wp2_with fail
      refine (t1 _).mono ?_; rintro e w1 ⟨rfl, rfl⟩
      go_wp2_with fail
      refine (t2 _).mono ?_; rintro e w1 ⟨rfl, rfl⟩
      go_wp2_with fail
      all_goals first | (exfalso; omega) | skip
      all_goals go_ret
      all_goals refine ⟨ret_str ?_, rfl⟩
      all_goals rw [HD.out a b rfl rfl 1 (a + b) (by split <;> omega) (by split <;> omega), if_pos (by omega)]
      all_goals simp
    · go_enter Try.func31, Try.ntmps31
      go_wp2_with fail
      refine (t1 _).mono ?_; rintro e w1 ⟨rfl, rfl⟩
      go_wp2_with fail
      refine (t2 _).mono ?_; rintro e w1 ⟨rfl, rfl⟩
      go_wp2_with fail
      all_goals first | (exfalso; omega) | skip
      all_goals go_ret
      all_goals refine ⟨ret_str ?_, rfl⟩
      all_goals rw [HD.out a b rfl rfl 1 (a + b) (by split <;> omega) (by split <;> omega), if_neg (by omega)]
      all_goals rfl
  · by_cases c3 : (a : Int) < ((s.size : Int) + 1)
    · go_enter Try.func31, Try.ntmps31
      go_wp2_with fail
      refine (t1 _).mono ?_; rintro e w1 ⟨rfl, rfl⟩
      go_wp2_with fail
      refine (t2 _).mono ?_; rintro e w1 ⟨rfl, rfl⟩
      go_wp2_with fail
      all_goals first | (exfalso; omega) | skip
      all_goals go_ret
      all_goals refine ⟨ret_str ?_, rfl⟩
      all_goals rw [HD.out a b rfl rfl a ((s.size : Int) + 1) (by split <;> omega) (by split <;> omega), if_pos (by omega)]
      all_goals simp
    · go_enter Try.func31, Try.ntmps31
      go_wp2_with fail
      refine (t1 _).mono ?_; rintro e w1 ⟨rfl, rfl⟩
      go_wp2_with fail
      refine (t2 _).mono ?_; rintro e w1 ⟨rfl, rfl⟩
      go_wp2_with fail
      all_goals first | (exfalso; omega) | skip
      all_goals go_ret
      all_goals refine ⟨ret_str ?_, rfl⟩
      all_goals rw [HD.out a b rfl rfl a ((s.size : Int) + 1) (by split <;> omega) (by split <;> omega), if_neg (by omega)]
      all_goals rfl
  · by_cases c3 : (a : Int) < (a + b)
    · go_enter Try.func31, Try.ntmps31
      go_wp2_with fail
      refine (t1 _).mono ?_; rintro e w1 ⟨rfl, rfl⟩
      go_wp2_with fail
      refine (t2 _).mono ?_; rintro e w1 ⟨rfl, rfl⟩
      go_wp2_with fail
      all_goals first | (exfalso; omega) | skip
      all_goals go_ret
      all_goals refine ⟨ret_str ?_, rfl⟩
      all_goals rw [HD.out a b rfl rfl a (a + b) (by split <;> omega) (by split <;> omega), if_pos (by omega)]
      all_goals simp
    · go_enter Try.func31, Try.ntmps31
      go_wp2_with fail
      refine (t1 _).mono ?_; rintro e w1 ⟨rfl, rfl⟩
      go_wp2_with fail
      refine (t2 _).mono ?_; rintro e w1 ⟨rfl, rfl⟩
      go_wp2_with fail
      all_goals first | (exfalso; omega) | skip
      all_goals go_ret
      all_goals refine ⟨ret_str ?_, rfl⟩
      all_goals rw [HD.out a b rfl rfl a (a + b) (by split <;> omega) (by split <;> omega), if_neg (by omega)]
      all_goals rfl

set_option maxHeartbeats 1000000 in
theorem sSub (s : ByteArray) (f n : Int) (w : World) (h : s.size ≤ 1048576) :
    Calls Try.prog 34 #[.string s, .int .i64 f, .int .i64 n] w fun e w' => e = .returned (.string (subT s f n)) ∧ w' = w := by
  have HD := Lib.hid (subT_of s f n)
  generalize hX : subT s f n = X at *
  clear hX
  have g1 := clampI_bd f (-1000000) 1000000 (by omega)
  have g2 := clampI_bd n (-1000000) 1000000 (by omega)
  have t1 := (fun (x : Int) (W : World) => sNear x W) f
  have t2 := (fun (x : Int) (W : World) => sNear x W) n
  generalize clampI f (-1000000) 1000000 = a at *
  generalize clampI n (-1000000) 1000000 = b at *
  have hs : (s.size : Int) ≤ 1048576 := by omega
  by_cases c1 : a < 1 <;> by_cases c2 : (s.size : Int) + 1 < a + b
  · by_cases c3 : (1 : Int) < ((s.size : Int) + 1)
    · go_enter Try.func34, Try.ntmps34
      go_wp2_with fail
      refine (t1 _).mono ?_; rintro e w1 ⟨rfl, rfl⟩
      go_wp2_with fail
      refine (t2 _).mono ?_; rintro e w1 ⟨rfl, rfl⟩
      go_wp2_with fail
      all_goals first | (exfalso; omega) | skip
      all_goals go_ret
      all_goals refine ⟨ret_str ?_, rfl⟩
      all_goals rw [HD.out a b rfl rfl 1 ((s.size : Int) + 1) (by split <;> omega) (by split <;> omega), if_pos (by omega)]
      all_goals simp
    · go_enter Try.func34, Try.ntmps34
      go_wp2_with fail
      refine (t1 _).mono ?_; rintro e w1 ⟨rfl, rfl⟩
      go_wp2_with fail
      refine (t2 _).mono ?_; rintro e w1 ⟨rfl, rfl⟩
      go_wp2_with fail
      all_goals first | (exfalso; omega) | skip
      all_goals go_ret
      all_goals refine ⟨ret_str ?_, rfl⟩
      all_goals rw [HD.out a b rfl rfl 1 ((s.size : Int) + 1) (by split <;> omega) (by split <;> omega), if_neg (by omega)]
      all_goals rfl
  · by_cases c3 : (1 : Int) < (a + b)
    · go_enter Try.func34, Try.ntmps34
      go_wp2_with fail
      refine (t1 _).mono ?_; rintro e w1 ⟨rfl, rfl⟩
      go_wp2_with fail
      refine (t2 _).mono ?_; rintro e w1 ⟨rfl, rfl⟩
      go_wp2_with fail
      all_goals first | (exfalso; omega) | skip
      all_goals go_ret
      all_goals refine ⟨ret_str ?_, rfl⟩
      all_goals rw [HD.out a b rfl rfl 1 (a + b) (by split <;> omega) (by split <;> omega), if_pos (by omega)]
      all_goals simp
    · go_enter Try.func34, Try.ntmps34
      go_wp2_with fail
      refine (t1 _).mono ?_; rintro e w1 ⟨rfl, rfl⟩
      go_wp2_with fail
      refine (t2 _).mono ?_; rintro e w1 ⟨rfl, rfl⟩
      go_wp2_with fail
      all_goals first | (exfalso; omega) | skip
      all_goals go_ret
      all_goals refine ⟨ret_str ?_, rfl⟩
      all_goals rw [HD.out a b rfl rfl 1 (a + b) (by split <;> omega) (by split <;> omega), if_neg (by omega)]
      all_goals rfl
  · by_cases c3 : (a : Int) < ((s.size : Int) + 1)
    · go_enter Try.func34, Try.ntmps34
      go_wp2_with fail
      refine (t1 _).mono ?_; rintro e w1 ⟨rfl, rfl⟩
      go_wp2_with fail
      refine (t2 _).mono ?_; rintro e w1 ⟨rfl, rfl⟩
      go_wp2_with fail
      all_goals first | (exfalso; omega) | skip
      all_goals go_ret
      all_goals refine ⟨ret_str ?_, rfl⟩
      all_goals rw [HD.out a b rfl rfl a ((s.size : Int) + 1) (by split <;> omega) (by split <;> omega), if_pos (by omega)]
      all_goals simp
    · go_enter Try.func34, Try.ntmps34
      go_wp2_with fail
      refine (t1 _).mono ?_; rintro e w1 ⟨rfl, rfl⟩
      go_wp2_with fail
      refine (t2 _).mono ?_; rintro e w1 ⟨rfl, rfl⟩
      go_wp2_with fail
      all_goals first | (exfalso; omega) | skip
      all_goals go_ret
      all_goals refine ⟨ret_str ?_, rfl⟩
      all_goals rw [HD.out a b rfl rfl a ((s.size : Int) + 1) (by split <;> omega) (by split <;> omega), if_neg (by omega)]
      all_goals rfl
  · by_cases c3 : (a : Int) < (a + b)
    · go_enter Try.func34, Try.ntmps34
      go_wp2_with fail
      refine (t1 _).mono ?_; rintro e w1 ⟨rfl, rfl⟩
      go_wp2_with fail
      refine (t2 _).mono ?_; rintro e w1 ⟨rfl, rfl⟩
      go_wp2_with fail
      all_goals first | (exfalso; omega) | skip
      all_goals go_ret
      all_goals refine ⟨ret_str ?_, rfl⟩
      all_goals rw [HD.out a b rfl rfl a (a + b) (by split <;> omega) (by split <;> omega), if_pos (by omega)]
      all_goals simp
    · go_enter Try.func34, Try.ntmps34
      go_wp2_with fail
      refine (t1 _).mono ?_; rintro e w1 ⟨rfl, rfl⟩
      go_wp2_with fail
      refine (t2 _).mono ?_; rintro e w1 ⟨rfl, rfl⟩
      go_wp2_with fail
      all_goals first | (exfalso; omega) | skip
      all_goals go_ret
      all_goals refine ⟨ret_str ?_, rfl⟩
      all_goals rw [HD.out a b rfl rfl a (a + b) (by split <;> omega) (by split <;> omega), if_neg (by omega)]
      all_goals rfl

end Go.Proofs.Ytjpefadalinhoaa
