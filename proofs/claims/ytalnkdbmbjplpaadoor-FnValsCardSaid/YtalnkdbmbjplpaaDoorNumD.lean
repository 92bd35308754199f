/- (The program's side alone.) Walks over NumOf, the program's and the reference's. A text's length is at most 2 to the 30th. -/
import Derived.Test.YtalnkdbmbjplpaaDoorVal
import Derived.Test.YtalnkdbmbjplpaaDoorPutT
namespace Go.Proofs.YtalnkdbmbjplpaaDoor
open Go.RowKit

/-- The number of the digits that stand ahead. -/
def digs : List Int → Int → Int
  | [], a => a
  | c :: r, a => if 48 ≤ c ∧ c ≤ 57 then digs r (wrap32 (10 * a + (c - 48))) else a
/-- A text's number. -/
def numL (l : List Int) : Int := if l.head? = some 45 then wrap32 (-(digs (l.drop 1) 0)) else digs l 0
/-- What NumOf gives. -/
def vNum (k n : Int) (s : ByteArray) : Int := if k = 2 then numL (strI s) else n

theorem strI_drop (s : ByteArray) (k : Nat) (h : k < s.size) : (strI s).drop k = (s[k].toNat : Int) :: (strI s).drop (k + 1) := by
  rw [List.drop_eq_getElem_cons (by rw [strI_len]; exact h)]
  congr 1
  unfold strI
  rw [List.getElem_map, Array.getElem_toList]
  rfl
theorem digs_on (s : ByteArray) (k : Nat) (a R : Int) (h : k < s.size) (hR : digs ((strI s).drop k) a = R) (h0 : 48 ≤ (s[k].toNat : Int)) (h1 : (s[k].toNat : Int) ≤ 57) :
    digs ((strI s).drop (k + 1)) (wrap32 (10 * a + ((s[k].toNat : Int) - 48))) = R := by
  rw [strI_drop s k h, digs, if_pos ⟨h0, h1⟩] at hR
  exact hR
theorem digs_off (s : ByteArray) (k : Nat) (a R : Int) (h : k < s.size) (hR : digs ((strI s).drop k) a = R) (h0 : ¬(48 ≤ (s[k].toNat : Int) ∧ (s[k].toNat : Int) ≤ 57)) : a = R := by
  rw [strI_drop s k h, digs, if_neg h0] at hR
  exact hR
theorem digs_end (s : ByteArray) (k : Nat) (a R : Int) (h : s.size ≤ k) (hR : digs ((strI s).drop k) a = R) : a = R := by
  rw [List.drop_eq_nil_of_le (by rw [strI_len]; exact h)] at hR
  exact hR
theorem numL_empty (s : ByteArray) (h : s.size = 0) : numL (strI s) = 0 := by
  have : strI s = [] := List.eq_nil_of_length_eq_zero (by rw [strI_len, h])
  rw [this]; rfl
theorem strI_head (s : ByteArray) (h : 0 < s.size) : (strI s).head? = some (s[0].toNat : Int) := by
  have := strI_drop s 0 h
  rw [List.drop_zero] at this
  rw [this]; rfl
theorem numL_minus (s : ByteArray) (h : 0 < s.size) (hm : (s[0].toNat : Int) = 45) : numL (strI s) = wrap32 (-(digs ((strI s).drop 1) 0)) := by
  rw [numL, if_pos (by rw [strI_head s h, hm])]
theorem numL_plus (s : ByteArray) (h : 0 < s.size) (hm : ¬(s[0].toNat : Int) = 45) : numL (strI s) = digs ((strI s).drop 0) 0 := by
  rw [numL, if_neg (by rw [strI_head s h]; simpa using hm)]; rfl
theorem digs_bd : ∀ (l : List Int) (a : Int), -2147483648 ≤ a → a ≤ 2147483647 → -2147483648 ≤ digs l a ∧ digs l a ≤ 2147483647
  | [], a, h0, h1 => ⟨h0, h1⟩
  | c :: r, a, h0, h1 => by
    rw [digs]
    split
    · have := wrap32_bd (10 * a + (c - 48))
      exact digs_bd r _ this.1 (by omega)
    · exact ⟨h0, h1⟩

theorem iDigit (c : Int) (w : World) (_ : 0 ≤ c) (_ : c < 256) :
    Calls Tryd.prog 35 #[.int .u8 c] w fun e w' => e = .returned (.bool (decide (48 ≤ c ∧ c ≤ 57))) ∧ w' = w := by
  by_cases c1 : 48 ≤ c <;> by_cases c2 : c ≤ 57
  all_goals
    go_enter Tryd.func35, Tryd.ntmps35
    go_wp2
    go_ret
    exact ⟨ret_bool (by simp [c1, c2]), rfl⟩
theorem strI_extract (s : ByteArray) : strI (s.extract 1 s.size) = (strI s).drop 1 := by
  unfold strI
  rw [← List.map_drop]
  congr 1
  rw [ByteArray.data_extract, Array.toList_extract, List.extract_eq_take_drop]
  rw [List.take_of_length_le]
  rw [List.length_drop, Array.length_toList]
  exact Nat.le_refl _
theorem toList_empty (s : ByteArray) (h : 0 < s.size) : s.toList.isEmpty = false := by
  have e : s.toList = s.data.toList := by
    have := ByteArray.toList_mk s.data.toList
    rwa [show (ByteArray.mk s.data.toList.toArray) = s from by cases s; simp] at this
  rw [e, List.isEmpty_eq_false_iff]
  intro h0
  have : s.data.toList.length = 0 := by rw [h0]; rfl
  rw [Array.length_toList] at this
  have h' : 0 < s.data.size := h
  omega

set_option maxHeartbeats 4000000 in
theorem iNumOf (k n : Int) (s : ByteArray) (w : World) (h : s.size ≤ 1073741824) :
    Calls Tryd.prog 14 #[.agg #[.int .i64 k, .int .i64 n, .string s]] w fun e w' => e = .returned (.int .i64 (vNum k n s)) ∧ Below w.heap.size w w' := by
  by_cases hk : k = 2
  · subst hk
    rw [show vNum 2 n s = numL (strI s) from rfl]
    by_cases he : s.size = 0
    · rw [numL_empty s he]
      have : s = ByteArray.empty := by
        apply ByteArray.ext; apply Array.eq_empty_of_size_eq_zero; exact he
      subst this
      go_enter Tryd.func14, Tryd.ntmps14
      go_wp2_with fail
      refine wp_loop_rounds 1 ?_; rw [rounds_succ]
      go_wp2_with fail
      go_ret
      exact ⟨ret_int rfl, by repeat (first | exact Below.refl _ _ | refine bl_drewN ?_ _ | refine Below.drew ?_ | refine bl_alloc ?_ _ | refine bl_set ?_ (by simp) _ | refine bl_trans ?_ (by assumption))⟩
    · have hpos : 0 < s.size := by omega
      have hne := toList_empty s hpos
      have hs0 : (s.size : Int) ≤ 1073741824 := by omega
      have hc0 : (s[0].toNat : Int) < 256 := by have := s[0].toNat_lt; omega
      by_cases hm : (s[0].toNat : Int) = 45
      · have hX := numL_minus s hpos hm
        generalize hG : numL (strI s) = G at *
        clear hG
        rw [← strI_extract] at hX
        have ht : (s.extract 1 s.size).size = s.size - 1 := by simp
        have HX := Lib.hid hX
        have hb0 : ((s[0].toNat : Int) == 45) = true := by rw [hm]; rfl
        clear hX
        go_enter Tryd.func14, Tryd.ntmps14
        go_wp2_with fail
        clear hb0 hm hne
        generalize s.extract 1 s.size = t at *
        have ht1 : t.size ≤ 1073741824 := by omega
        obtain ⟨R, hR⟩ : ∃ R, digs (strI t) 0 = R := ⟨_, rfl⟩
        have hX := HX.out
        rw [hR] at hX
        have hbR := digs_bd (strI t) 0 (by omega) (by omega)
        rw [hR] at hbR
        clear HX
        have HX := Lib.hid hX
        have HR0 : Hid (digs ((strI t).drop 0) 0 = R) := hR
        clear hX hR ht
        go_loop [5, 6] (fun nv iv => ∃ (k : Nat) (a : Int), k ≤ t.size ∧ iv = .int .i64 k ∧ nv = .int .i64 a ∧ -2147483648 ≤ a ∧ a ≤ 2147483647 ∧ digs ((strI t).drop k) a = R) (fun _ iv => t.size - (intOf iv).toNat)
        case atStart => exact ⟨0, 0, by omega, rfl, rfl, by omega, by omega, HR0.out⟩
        case round =>
          obtain ⟨k, a, hk, rfl, rfl, ha0, ha1, hT⟩ := hrel
          have HR := Lib.hid hT
          clear hT
          have hkI : (k : Int) ≤ 1073741824 := by omega
          by_cases hlt : k < t.size
          · have hltI : (k : Int) < (t.size : Int) := by omega
            have hc : (t[k].toNat : Int) < 256 := by have := t[k].toNat_lt; omega
            by_cases hd : 48 ≤ (t[k].toNat : Int) ∧ (t[k].toNat : Int) ≤ 57
            · have HN := Lib.hid (digs_on t k a _ hlt HR.out hd.1 hd.2)
              have hdb : decide (48 ≤ (t[k].toNat : Int) ∧ (t[k].toNat : Int) ≤ 57) = true := decide_eq_true hd
              have hwb := wrap32_bd (10 * a + ((t[k].toNat : Int) - 48))
              obtain ⟨hd0, hd1⟩ := hd
              have HW := Lib.hid hwb
              clear hwb
              go_wp2_with fail
              refine (iDigit _ _ (by omega) (by omega)).mono ?_; rintro e w1 ⟨rfl, rfl⟩
              rw [hdb]
              go_wp2_with fail
              refine (iWrap _ _).mono ?_; rintro e w1 ⟨rfl, rfl⟩
              go_wp2_with fail
              go_round
              case rel => exact ⟨k + 1, wrap32 (10 * a + ((t[k].toNat : Int) - 48)), by omega, by go_num, by go_num, HW.out.1, by have := HW.out.2; omega, HN.out⟩
              case measure => simp [intOf]; omega
            · have HE := Lib.hid (digs_off t k a _ hlt HR.out hd)
              have hdb : decide (48 ≤ (t[k].toNat : Int) ∧ (t[k].toNat : Int) ≤ 57) = false := decide_eq_false hd
              clear hd
              go_wp2_with fail
              refine (iDigit _ _ (by omega) (by omega)).mono ?_; rintro e w1 ⟨rfl, rfl⟩
              rw [hdb]
              clear hdb
              go_wp2_with fail
              refine (iWrap _ _).mono ?_; rintro e w1 ⟨rfl, rfl⟩
              go_wp2_with fail
              go_ret
              exact ⟨ret_int (by rw [HX.out, HE.out]), by repeat (first | exact Below.refl _ _ | refine bl_drewN ?_ _ | refine Below.drew ?_ | refine bl_alloc ?_ _ | refine bl_set ?_ (by simp) _ | refine bl_trans ?_ (by assumption))⟩
          · have HE := Lib.hid (digs_end t k a _ (by omega) HR.out)
            go_wp2_with fail
            refine (iWrap _ _).mono ?_; rintro e w1 ⟨rfl, rfl⟩
            go_wp2_with fail
            go_ret
            exact ⟨ret_int (by rw [HX.out, HE.out]), by repeat (first | exact Below.refl _ _ | refine bl_drewN ?_ _ | refine Below.drew ?_ | refine bl_alloc ?_ _ | refine bl_set ?_ (by simp) _ | refine bl_trans ?_ (by assumption))⟩
      · have hX := numL_plus s hpos hm
        generalize hG : numL (strI s) = G at *
        clear hG
        have HR0 : Hid (digs ((strI s).drop 0) 0 = G) := hX.symm
        have hb0 : ((s[0].toNat : Int) == 45) = false := by simpa using hm
        clear hX
        go_enter Tryd.func14, Tryd.ntmps14
        go_wp2_with fail
        clear hb0 hm hne
        go_loop [5, 6] (fun nv iv => ∃ (k : Nat) (a : Int), k ≤ s.size ∧ iv = .int .i64 k ∧ nv = .int .i64 a ∧ -2147483648 ≤ a ∧ a ≤ 2147483647 ∧ digs ((strI s).drop k) a = G) (fun _ iv => s.size - (intOf iv).toNat)
        case atStart => exact ⟨0, 0, by omega, rfl, rfl, by omega, by omega, HR0.out⟩
        case round =>
          obtain ⟨k, a, hk, rfl, rfl, ha0, ha1, hT⟩ := hrel
          have HR := Lib.hid hT
          clear hT
          have hkI : (k : Int) ≤ 1073741824 := by omega
          by_cases hlt : k < s.size
          · have hltI : (k : Int) < (s.size : Int) := by omega
            have hc : (s[k].toNat : Int) < 256 := by have := s[k].toNat_lt; omega
            by_cases hd : 48 ≤ (s[k].toNat : Int) ∧ (s[k].toNat : Int) ≤ 57
            · have HN := Lib.hid (digs_on s k a _ hlt HR.out hd.1 hd.2)
              have hdb : decide (48 ≤ (s[k].toNat : Int) ∧ (s[k].toNat : Int) ≤ 57) = true := decide_eq_true hd
              have hwb := wrap32_bd (10 * a + ((s[k].toNat : Int) - 48))
              obtain ⟨hd0, hd1⟩ := hd
              have HW := Lib.hid hwb
              clear hwb
              go_wp2_with fail
              refine (iDigit _ _ (by omega) (by omega)).mono ?_; rintro e w1 ⟨rfl, rfl⟩
              rw [hdb]
              go_wp2_with fail
              refine (iWrap _ _).mono ?_; rintro e w1 ⟨rfl, rfl⟩
              go_wp2_with fail
              go_round
              case rel => exact ⟨k + 1, wrap32 (10 * a + ((s[k].toNat : Int) - 48)), by omega, by go_num, by go_num, HW.out.1, by have := HW.out.2; omega, HN.out⟩
              case measure => simp [intOf]; omega
            · have HE := Lib.hid (digs_off s k a _ hlt HR.out hd)
              have hdb : decide (48 ≤ (s[k].toNat : Int) ∧ (s[k].toNat : Int) ≤ 57) = false := decide_eq_false hd
              clear hd
              go_wp2_with fail
              refine (iDigit _ _ (by omega) (by omega)).mono ?_; rintro e w1 ⟨rfl, rfl⟩
              rw [hdb]
              clear hdb
              go_wp2_with fail
              go_ret
              exact ⟨ret_int (by rw [HE.out]), by repeat (first | exact Below.refl _ _ | refine bl_drewN ?_ _ | refine Below.drew ?_ | refine bl_alloc ?_ _ | refine bl_set ?_ (by simp) _ | refine bl_trans ?_ (by assumption))⟩
          · have HE := Lib.hid (digs_end s k a _ (by omega) HR.out)
            go_wp2_with fail
            go_ret
            exact ⟨ret_int (by rw [HE.out]), by repeat (first | exact Below.refl _ _ | refine bl_drewN ?_ _ | refine Below.drew ?_ | refine bl_alloc ?_ _ | refine bl_set ?_ (by simp) _ | refine bl_trans ?_ (by assumption))⟩
  · have hk' : (k != 2) = true := by simp [hk]
    go_enter Tryd.func14, Tryd.ntmps14
    go_wp2_with fail
    go_ret
    exact ⟨ret_int (by rw [vNum, if_neg hk]), by repeat (first | exact Below.refl _ _ | refine bl_drewN ?_ _ | refine Below.drew ?_ | refine bl_alloc ?_ _ | refine bl_set ?_ (by simp) _ | refine bl_trans ?_ (by assumption))⟩

end Go.Proofs.YtalnkdbmbjplpaaDoor
