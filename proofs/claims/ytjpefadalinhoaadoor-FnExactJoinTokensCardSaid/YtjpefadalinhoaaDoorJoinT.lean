/- Walks over JoinTokens, the program's and the reference's. The tokens' texts are at most 1048576 long together; the library's tables hold what the program's text lays in them. -/
import Derived.Test.YtjpefadalinhoaaDoorTokS
import Derived.Test.YtjpefadalinhoaaDoorTokText
import Derived.Test.YtjpefadalinhoaaDoorJn
import Derived.Test.YtjpefadalinhoaaDoorShelfJ
import Derived.Lib.Bytealg
namespace Go.Proofs.YtjpefadalinhoaaDoor
open Go.RowKit

/-- The tokens' texts, as they are written. -/
noncomputable def tkT (ts : List (Int × Int × ByteArray)) : List ByteArray := ts.map fun t => tokT t.1 t.2.1 t.2.2
theorem tkT_len (ts : List (Int × Int × ByteArray)) : (tkT ts).length = ts.length := by simp [tkT]
theorem tkT_get (ts : List (Int × Int × ByteArray)) (k : Nat) (h : k < ts.length) : (tkT ts)[k]'(by rw [tkT_len]; exact h) = tokT ts[k].1 ts[k].2.1 ts[k].2.2 := by simp [tkT]
/-- What is asked of a token: an int, and a text that is not too long. -/
def TkOk (t : (Int × Int × ByteArray)) : Prop := -9223372036854775808 ≤ t.2.1 ∧ t.2.1 ≤ 9223372036854775807 ∧ t.2.2.size ≤ 1048576
theorem tokT_size (k n : Int) (s : ByteArray) (h0 : -9223372036854775808 ≤ n) (h1 : n ≤ 9223372036854775807) : (tokT k n s).size ≤ s.size + 21 := by
  unfold tokT
  have e0 : (⟨#[]⟩ : ByteArray).size = 0 := rfl
  have e1 : (⟨#[39]⟩ : ByteArray).size = 1 := rfl
  have e2 : (⟨#[47]⟩ : ByteArray).size = 1 := rfl
  split
  · split
    · have := itoaS_size n h0 (by omega); omega
    · split
      · rw [ByteArray.size_append, ByteArray.size_append]; omega
      · split
        · rw [ByteArray.size_append, ByteArray.size_append]; omega
        · omega
  · omega
theorem tkT_sum : ∀ (ts : List (Int × Int × ByteArray)), (∀ t ∈ ts, TkOk t) → sumL (tkT ts) ≤ sumL (tkS ts) + 21 * ts.length
  | [], _ => Nat.zero_le _
  | t :: ts, h => by
    have ih := tkT_sum ts (fun x hx => h x (List.mem_cons_of_mem _ hx))
    obtain ⟨a, b, _⟩ := h t (List.mem_cons_self ..)
    have := tokT_size t.1 t.2.1 t.2.2 a b
    unfold sumL tkT tkS at ih ⊢
    simp only [List.map_cons, List.sum_cons, List.length_cons] at ih ⊢
    omega

set_option maxHeartbeats 1000000 in
theorem sJoinT (A : Option Addr) (c : Nat) (ts : List (Int × Int × ByteArray)) (w : World) (hR : Reads w w.heap.size 3 A ts.length (flat tkC ts)) (hT : ∀ t ∈ ts, TkOk t) (hn : ts.length + sumL (tkT ts) ≤ 1073741824) :
    Calls Tryd.prog 10 #[.slice A ts.length c] w fun e w' => e = .returned (.string (jn (tkT ts) ts.length)) ∧ Below w.heap.size w w' := by
  have HL := Lib.hid (tkT_len ts)
  go_enter Tryd.func10, Tryd.ntmps10
  go_wp2_with fail
  go_loopw [3, 4] (fun sv i wr => ∃ (k : Nat) (a : ByteArray), k ≤ ts.length ∧ i = .int .i64 k ∧ sv = .string a ∧ jn (tkT ts) k = a ∧ a.size + sumL ((tkT ts).drop k) ≤ sumL (tkT ts) + k ∧ Below w.heap.size w wr) (fun _ i _ => ts.length - (intOf i).toNat)
  case atStart => exact ⟨0, _, Nat.zero_le _, rfl, rfl, jn_zero _, by simp [ByteArray.size], Below.refl _ _⟩
  case round =>
    obtain ⟨k, a, hk, rfl, rfl, ha, hs, hL⟩ := hrel
    by_cases hlt : k < ts.length
    · obtain ⟨b, off, rfl, hb, q0, q1, q2⟩ := rd_tk (hR.below hL) hlt
      have hlt' : (k : Int) < (ts.length : Int) := by omega
      have hlt2 : k < (tkT ts).length := by rw [HL.out]; exact hlt
      rw [sumL_drop (tkT ts) k hlt2] at hs
      obtain ⟨t0, t1, t2⟩ := hT _ (List.getElem_mem hlt)
      have C := fun w => sTokenText ts[k].1 ts[k].2.1 ts[k].2.2 w t0 t1 t2
      rw [← tkT_get ts k hlt] at C
      clear t0 t1 t2
      by_cases h0 : 0 < k
      · have H := Lib.hid (jn_succ (tkT ts) k hlt2 h0)
        rw [ha] at H
        have h0' : (0 : Int) < k := by omega
        clear ha
        have hz : (a ++ (⟨#[32]⟩ : ByteArray)).size = a.size + 1 := ja_append_size _ _
        have hzz := ja_append_size (a ++ (⟨#[32]⟩ : ByteArray)) (tkT ts)[k]
        generalize (tkT ts)[k] = z at hs H hzz C
        generalize ts[k] = y at q0 q1 q2 C
        obtain ⟨yk, yn, yt⟩ := y
        have HZ := Lib.hid hzz
        have CC := Lib.hid C
        clear hzz C
        go_wp2_with fail
        refine (CC.out _).mono ?_; rintro e w1 ⟨rfl, b1⟩
        go_wp2_with fail
        go_roundw
        case rel => exact ⟨k + 1, _, by omega, by go_num, rfl, H.out.symm, by rw [HZ.out, hz]; omega, bl_trans hL b1⟩
        case measure => simp [intOf]; omega
      · obtain rfl : k = 0 := by omega
        have H := Lib.hid (jn_one (tkT ts) hlt2)
        rw [jn_zero] at ha
        subst ha
        rw [Nat.zero_mul, Nat.add_zero] at q0 q1 q2
        have hzz := ja_append_size (⟨#[]⟩ : ByteArray) (tkT ts)[0]
        generalize (tkT ts)[0] = z at hs H hzz C
        generalize ts[0] = y at q0 q1 q2 C
        obtain ⟨yk, yn, yt⟩ := y
        have HZ := Lib.hid hzz
        have CC := Lib.hid C
        clear hzz C
        go_wp2_with fail
        refine (CC.out _).mono ?_; rintro e w1 ⟨rfl, b1⟩
        go_wp2_with fail
        go_roundw
        case rel => exact ⟨1, _, by omega, by go_num, rfl, H.out.symm, by rw [HZ.out]; have e0 : (⟨#[]⟩ : ByteArray).size = 0 := rfl; simp only [Nat.zero_add] at hs; omega, bl_trans hL b1⟩
        case measure => simp [intOf]; omega
    · obtain rfl : k = ts.length := by omega
      have H := Lib.hid ha
      clear ha
      go_wp2_with fail
      go_ret
      exact ⟨ret_str H.out.symm, hL⟩

theorem sVs_snocT (zs : List ByteArray) (z : ByteArray) : sVs (zs ++ [z]) = sVs zs ++ [.string z] := by simp [sVs]
theorem take_snoc (zs : List ByteArray) (k : Nat) (h : k < zs.length) : zs.take (k + 1) = zs.take k ++ [zs[k]] := by rw [List.take_succ_eq_append_getElem h]
set_option maxHeartbeats 1000000 in
theorem iJoinT (A : Option Addr) (c : Nat) (ts : List (Int × Int × ByteArray)) (w : World) (hTab : Tab w) (hR : Reads w w.heap.size 3 A ts.length (flat tkC ts)) (hT : ∀ t ∈ ts, TkOk t) (hn : ts.length + sumL (tkT ts) ≤ 1073741824) :
    Calls Tryd.prog 12 #[.slice A ts.length c] w fun e w' => e = .returned (.string (jn (tkT ts) ts.length)) ∧ Below w.heap.size w w' := by
  obtain ⟨i0, hi, hz0, hz1, hz2⟩ := info_parts info_str
  have hlen := tkT_len ts
  have CJ : ∀ (A : Option Addr) (c : Nat) (w : World), Row w 0 w.heap.size 9 1 (.slice A ts.length c) ts.length (sVs (tkT ts)) → Calls Tryd.prog 18 #[.slice A ts.length c, .string ⟨#[32]⟩] w fun e w' => e = .returned (.string (jn (tkT ts) ts.length)) ∧ Below w.heap.size w w' := by
    intro A c w hO
    have hR := hO.reads
    have hcap := hO.cap.1
    have hl := jn_len (tkT ts) (tkT ts).length (Nat.le_refl _)
    rw [jn_all, List.drop_length] at hl
    rw [← hlen] at hR hcap ⊢
    rw [jn_all]
    rcases Nat.eq_zero_or_pos (tkT ts).length with h0 | h0
    · have hz : tkT ts = [] := List.eq_nil_of_length_eq_zero h0
      rw [hz]
      exact (Tryd.strings_Join_none A c ⟨#[32]⟩ w).mono fun e w' ⟨he, hw⟩ => ⟨he, hw ▸ Below.refl _ _⟩
    · obtain ⟨b, off, rfl, hb, hx⟩ := hR.2 h0
      exact Tryd.strings_Join b off c (tkT ts) ⟨#[32]⟩ w (fun j x hj => hx j (.string x) (by unfold sVs; rw [List.getElem?_map, hj]; rfl)) hb (by omega) hcap (by
        have : (⟨(Lib.join ((tkT ts).map (·.data.toList)) [32]).toArray⟩ : ByteArray).size = (Lib.join ((tkT ts).map (·.data.toList)) [32]).length := by simp [ByteArray.size]
        rw [this] at hl
        show (Lib.join ((tkT ts).map (·.data.toList)) [32]).length ≤ _
        have e0 : sumL ([] : List ByteArray) = 0 := rfl
        omega)
  have hnn : (ts.length : Int) ≤ 1073741824 := by omega
  have HL := Lib.hid hlen
  have HJ := Lib.hid CJ
  clear hlen CJ
  go_enter Tryd.func12, Tryd.ntmps12
  go_wp2_with fail
  go_loopw [3, 8] (fun v i wr => ∃ k : Nat, k ≤ ts.length ∧ i = .int .i64 k ∧ wr.ownsRow w.heap.size 9 1 v k (sVs ((tkT ts).take k)) ∧ Below w.heap.size w wr) (fun _ i _ => ts.length - (intOf i).toNat)
  case atStart => exact ⟨0, Nat.zero_le _, rfl, World.ownsRow_nil _ _ _ _, Below.refl _ _⟩
  case round =>
    obtain ⟨k, hk, rfl, hO, hL⟩ := hrel
    by_cases hlt : k < ts.length
    · obtain ⟨b, off, rfl, hb, q0, q1, q2⟩ := rd_tk (hR.below hL) hlt
      have hlt' : (k : Int) < (ts.length : Int) := by omega
      have hlt2 : k < (tkT ts).length := by rw [HL.out]; exact hlt
      obtain ⟨t0, t1, t2⟩ := hT _ (List.getElem_mem hlt)
      have C := fun w (h : Tab w) => iTokenText ts[k].1 ts[k].2.1 ts[k].2.2 w h t0 t1 t2
      rw [← tkT_get ts k hlt] at C
      clear t0 t1 t2
      have HT := Lib.hid (take_snoc (tkT ts) k hlt2)
      generalize (tkT ts)[k] = z at C HT
      generalize ts[k] = y at q0 q1 q2 C
      obtain ⟨yk, yn, yt⟩ := y
      have CC := Lib.hid C
      clear C
      have hTr := hTab.keep hL
      go_wp2_with fail
      refine (CC.out _ (hTr.keep (bl_alloc (Below.refl _ _) _))).mono ?_; rintro e w1 ⟨rfl, b1⟩
      have hL2 := bl_trans (bl_alloc hL (.cells #[.int .i64 yk, .int .i64 yn, .string yt] 26)) b1
      have hO2 := ((Row.mk (hO.alloc (.cells #[.int .i64 yk, .int .i64 yn, .string yt] 26))).keep b1).1
      go_wp2_with (at_builtin; refine wpList_push rfl _ _ 38 rfl w.heap.size 9 i0 (.string ⟨#[]⟩) 1 16 Tryd.underlying38 hi hz0 hz1 hz2 rfl (by decide) _ _ _ rfl hO2 _ rfl rfl rfl (by omega) (by omega) hL2.size ?_)
      intro v' w2 hO3 hg3
      go_wp2_with fail
      go_roundw
      case rel => exact ⟨k + 1, by omega, by go_num, by rw [HT.out, sVs_snocT]; exact hO3, hL2.grown hg3 hL2.size (fun q e => (hO2.lt q e).1)⟩
      case measure => simp [intOf]; omega
    · obtain rfl : k = ts.length := by omega
      rw [List.take_of_length_le (by rw [HL.out]; exact Nat.le_refl _)] at hO
      obtain ⟨Av, cv, rfl⟩ := (Row.mk hO).form
      go_wp2_with fail
      refine (HJ.out Av cv _ ((Row.mk hO).more (Nat.zero_le _) (Nat.le_refl _))).mono ?_; rintro e w2 ⟨rfl, b2⟩
      go_wp2_with fail
      go_ret
      exact ⟨rfl, bl_trans hL b2⟩

end Go.Proofs.YtjpefadalinhoaaDoor
