/- Walks over TokenText, the program's and the reference's. A text's length is at most 1048576; the table of the powers of ten holds them. -/
import Derived.Test.YtjpefadalinhoaaDoorTokOk
import Derived.Test.YtjpefadalinhoaaDoorItoa
namespace Go.Proofs.YtjpefadalinhoaaDoor
open Go.RowKit

/-- What TokenText gives. -/
noncomputable def tokT (k n : Int) (s : ByteArray) : ByteArray :=
  if tokB k n s = true then (if k = 1 then itoaS n else if k = 3 then ⟨#[39]⟩ ++ s ++ ⟨#[39]⟩ else if k = 4 then ⟨#[47]⟩ ++ s ++ ⟨#[47]⟩ else s) else ⟨#[]⟩
theorem ba_append_size (a b : ByteArray) : (a ++ b).size = a.size + b.size := ByteArray.size_append

set_option maxHeartbeats 1000000 in
theorem iTokenText (k n : Int) (s : ByteArray) (w : World) (hT : Tab w) (h0 : -9223372036854775808 ≤ n) (h1 : n ≤ 9223372036854775807) (hs : s.size ≤ 1048576) :
    Calls Tryd.prog 8 #[.agg #[.int .i64 k, .int .i64 n, .string s]] w fun e w' => e = .returned (.string (tokT k n s)) ∧ Below w.heap.size w w' := by
  have B0 := Blk.new w 26 #[.int .i64 k, .int .i64 n, .string s]
  have C := fun w => iTokenOk k n s w hs
  unfold tokT
  cases hb : tokB k n s
  · rw [hb] at C
    have CC := Lib.hid C
    clear C hb
    rw [if_neg Bool.false_ne_true]
    go_enter Tryd.func8, Tryd.ntmps8
    go_wp2_with fail
    refine (CC.out _).mono ?_; rintro e w1 ⟨rfl, b1⟩
    go_wp2_with fail
    go_ret
    exact ⟨rfl, by repeat (first | exact Below.refl _ _ | refine bl_drewN ?_ _ | refine Below.drew ?_ | refine bl_alloc ?_ _ | refine bl_set ?_ (by simp) _ | refine bl_trans ?_ (by assumption))⟩
  rw [hb] at C
  have CC := Lib.hid C
  clear C hb
  rw [if_pos rfl]
  by_cases k1 : k = 1
  · subst k1
    rw [if_pos rfl]
    go_enter Tryd.func8, Tryd.ntmps8
    go_wp2_with fail
    refine (CC.out _).mono ?_; rintro e w1 ⟨rfl, b1⟩
    have B1 := B0.keep b1
    have c1 := B1.cell
    go_wp2_with fail
    refine (iDigits n _ h0 h1 (hT.keep (bl_trans (bl_alloc (Below.refl _ _) _) b1))).mono ?_; rintro e w2 ⟨rfl, b2⟩
    go_wp2_with fail
    go_ret
    exact ⟨rfl, by repeat (first | exact Below.refl _ _ | refine bl_drewN ?_ _ | refine Below.drew ?_ | refine bl_alloc ?_ _ | refine bl_set ?_ (by simp) _ | refine bl_trans ?_ (by assumption))⟩
  have q1 : (k == 1) = false := by simp [k1]
  by_cases k3 : k = 3
  · subst k3
    rw [if_neg (by omega), if_pos rfl]
    have z1 := ba_append_size (⟨#[39]⟩ : ByteArray) s
    have z0 : (⟨#[39]⟩ : ByteArray).size = 1 := rfl
    have z2 : ((⟨#[39]⟩ : ByteArray) ++ s).size ≤ 1048577 := by omega
    clear z1 z0
    go_enter Tryd.func8, Tryd.ntmps8
    go_wp2_with fail
    refine (CC.out _).mono ?_; rintro e w1 ⟨rfl, b1⟩
    have B1 := B0.keep b1
    have c1 := B1.cell
    go_wp2_with fail
    go_ret
    exact ⟨rfl, by repeat (first | exact Below.refl _ _ | refine bl_drewN ?_ _ | refine Below.drew ?_ | refine bl_alloc ?_ _ | refine bl_set ?_ (by simp) _ | refine bl_trans ?_ (by assumption))⟩
  have q3 : (k == 3) = false := by simp [k3]
  by_cases k4 : k = 4
  · subst k4
    rw [if_neg (by omega), if_neg (by omega), if_pos rfl]
    have z1 := ba_append_size (⟨#[47]⟩ : ByteArray) s
    have z0 : (⟨#[47]⟩ : ByteArray).size = 1 := rfl
    have z2 : ((⟨#[47]⟩ : ByteArray) ++ s).size ≤ 1048577 := by omega
    clear z1 z0
    go_enter Tryd.func8, Tryd.ntmps8
    go_wp2_with fail
    refine (CC.out _).mono ?_; rintro e w1 ⟨rfl, b1⟩
    have B1 := B0.keep b1
    have c1 := B1.cell
    go_wp2_with fail
    go_ret
    exact ⟨rfl, by repeat (first | exact Below.refl _ _ | refine bl_drewN ?_ _ | refine Below.drew ?_ | refine bl_alloc ?_ _ | refine bl_set ?_ (by simp) _ | refine bl_trans ?_ (by assumption))⟩
  have q4 : (k == 4) = false := by simp [k4]
  rw [if_neg k1, if_neg k3, if_neg k4]
  go_enter Tryd.func8, Tryd.ntmps8
  go_wp2_with fail
  refine (CC.out _).mono ?_; rintro e w1 ⟨rfl, b1⟩
  have B1 := B0.keep b1
  have c1 := B1.cell
  go_wp2_with fail
  go_ret
  exact ⟨rfl, by repeat (first | exact Below.refl _ _ | refine bl_drewN ?_ _ | refine Below.drew ?_ | refine bl_alloc ?_ _ | refine bl_set ?_ (by simp) _ | refine bl_trans ?_ (by assumption))⟩

set_option maxHeartbeats 1000000 in
theorem sTokenText (k n : Int) (s : ByteArray) (w : World) (h0 : -9223372036854775808 ≤ n) (h1 : n ≤ 9223372036854775807) (hs : s.size ≤ 1048576) :
    Calls Tryd.prog 6 #[.agg #[.int .i64 k, .int .i64 n, .string s]] w fun e w' => e = .returned (.string (tokT k n s)) ∧ Below w.heap.size w w' := by
  have B0 := Blk.new w 26 #[.int .i64 k, .int .i64 n, .string s]
  have C := fun w => sTokenOk k n s w hs
  unfold tokT
  cases hb : tokB k n s
  · rw [hb] at C
    have CC := Lib.hid C
    clear C hb
    rw [if_neg Bool.false_ne_true]
    go_enter Tryd.func6, Tryd.ntmps6
    go_wp2_with fail
    refine (CC.out _).mono ?_; rintro e w1 ⟨rfl, b1⟩
    go_wp2_with fail
    go_ret
    exact ⟨rfl, by repeat (first | exact Below.refl _ _ | refine bl_drewN ?_ _ | refine Below.drew ?_ | refine bl_alloc ?_ _ | refine bl_set ?_ (by simp) _ | refine bl_trans ?_ (by assumption))⟩
  rw [hb] at C
  have CC := Lib.hid C
  clear C hb
  rw [if_pos rfl]
  by_cases k1 : k = 1
  · subst k1
    rw [if_pos rfl]
    go_enter Tryd.func6, Tryd.ntmps6
    go_wp2_with fail
    refine (CC.out _).mono ?_; rintro e w1 ⟨rfl, b1⟩
    have B1 := B0.keep b1
    have c1 := B1.cell
    go_wp2_with fail
    refine (sL2Num (n.natAbs + 1) n _ (by omega) h0 h1).mono ?_; rintro e w2 ⟨rfl, b2⟩
    go_wp2_with fail
    go_ret
    exact ⟨rfl, by repeat (first | exact Below.refl _ _ | refine bl_drewN ?_ _ | refine Below.drew ?_ | refine bl_alloc ?_ _ | refine bl_set ?_ (by simp) _ | refine bl_trans ?_ (by assumption))⟩
  have q1 : (k == 1) = false := by simp [k1]
  by_cases k3 : k = 3
  · subst k3
    rw [if_neg (by omega), if_pos rfl]
    have z1 := ba_append_size (⟨#[39]⟩ : ByteArray) s
    have z0 : (⟨#[39]⟩ : ByteArray).size = 1 := rfl
    have z2 : ((⟨#[39]⟩ : ByteArray) ++ s).size ≤ 1048577 := by omega
    clear z1 z0
    go_enter Tryd.func6, Tryd.ntmps6
    go_wp2_with fail
    refine (CC.out _).mono ?_; rintro e w1 ⟨rfl, b1⟩
    have B1 := B0.keep b1
    have c1 := B1.cell
    go_wp2_with fail
    go_ret
    exact ⟨rfl, by repeat (first | exact Below.refl _ _ | refine bl_drewN ?_ _ | refine Below.drew ?_ | refine bl_alloc ?_ _ | refine bl_set ?_ (by simp) _ | refine bl_trans ?_ (by assumption))⟩
  have q3 : (k == 3) = false := by simp [k3]
  by_cases k4 : k = 4
  · subst k4
    rw [if_neg (by omega), if_neg (by omega), if_pos rfl]
    have z1 := ba_append_size (⟨#[47]⟩ : ByteArray) s
    have z0 : (⟨#[47]⟩ : ByteArray).size = 1 := rfl
    have z2 : ((⟨#[47]⟩ : ByteArray) ++ s).size ≤ 1048577 := by omega
    clear z1 z0
    go_enter Tryd.func6, Tryd.ntmps6
    go_wp2_with fail
    refine (CC.out _).mono ?_; rintro e w1 ⟨rfl, b1⟩
    have B1 := B0.keep b1
    have c1 := B1.cell
    go_wp2_with fail
    go_ret
    exact ⟨rfl, by repeat (first | exact Below.refl _ _ | refine bl_drewN ?_ _ | refine Below.drew ?_ | refine bl_alloc ?_ _ | refine bl_set ?_ (by simp) _ | refine bl_trans ?_ (by assumption))⟩
  have q4 : (k == 4) = false := by simp [k4]
  rw [if_neg k1, if_neg k3, if_neg k4]
  go_enter Tryd.func6, Tryd.ntmps6
  go_wp2_with fail
  refine (CC.out _).mono ?_; rintro e w1 ⟨rfl, b1⟩
  have B1 := B0.keep b1
  have c1 := B1.cell
  go_wp2_with fail
  go_ret
  exact ⟨rfl, by repeat (first | exact Below.refl _ _ | refine bl_drewN ?_ _ | refine Below.drew ?_ | refine bl_alloc ?_ _ | refine bl_set ?_ (by simp) _ | refine bl_trans ?_ (by assumption))⟩

end Go.Proofs.YtjpefadalinhoaaDoor
