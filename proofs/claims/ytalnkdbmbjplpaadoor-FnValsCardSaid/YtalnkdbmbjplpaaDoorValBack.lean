/- Plain laws: a value's bytes read back; what is read as a value has the value's bytes; a number is the number of its text. No program in sight. -/
import Derived.Test.YtalnkdbmbjplpaaDoorNumBack
import Derived.Test.YtalnkdbmbjplpaaDoorGetVal
import Derived.Test.YtalnkdbmbjplpaaDoorPutVB
import Derived.Test.YtalnkdbmbjplpaaDoorNumD
import Derived.Test.YtalnkdbmbjplpaaDoorCmp
import Derived.Test.YtalnkdbmbjplpaaDoorDrawT
namespace Go.Proofs.YtalnkdbmbjplpaaDoor
open Go.RowKit

theorem getU_put_on (zs tail : List Int) (k : Int) (h0 : 0 ≤ k) (h1 : k ≤ 2147483647) : getU (zs ++ uB k ++ tail) zs.length = some (k, ((zs ++ uB k).length : Int)) := by
  have hc : clampI k 0 2147483647 = k := by unfold clampI; rw [if_neg (by omega), if_neg (by omega)]
  have hne : 0 < (uB k).length := List.length_pos_iff.2 (uBf_ne 4 _)
  unfold getU
  rw [if_pos ⟨by omega, by rw [List.length_append, List.length_append]; omega⟩, Int.toNat_natCast]
  have := gU_uBf zs.length 4 0 k 0 (zs ++ uB k ++ tail) zs tail (by simp only [uB, hc]) (by simp) h0 (by simp; omega) (by simp; omega) (by omega)
  rw [this, List.length_append]
  simp [uB, hc]
theorem vOk_cases {k n : Int} {s : ByteArray} (h : vOk k n s = true) : (k = 0 ∧ n = 0 ∧ s = ByteArray.mk #[]) ∨ (k = 1 ∧ n = wrap32 n ∧ s = ByteArray.mk #[]) ∨ (k = 2 ∧ n = 0 ∧ s.size ≤ 200) := by
  have emp : s.toList = [] → s = ByteArray.mk #[] := fun h => by
    rw [Lib.toList_data] at h
    cases s with
    | mk d =>
      simp only at h
      rw [Array.toList_eq_nil_iff] at h
      rw [h]
  unfold vOk at h
  split at h
  · rename_i hk
    rw [Bool.and_eq_true, decide_eq_true_iff, decide_eq_true_iff] at h
    exact .inl ⟨hk, h.1, emp h.2⟩
  split at h
  · rename_i hk
    rw [Bool.and_eq_true, decide_eq_true_iff, decide_eq_true_iff] at h
    exact .inr (.inl ⟨hk, h.1, emp h.2⟩)
  split at h
  · rename_i hk
    rw [Bool.and_eq_true, decide_eq_true_iff, decide_eq_true_iff] at h
    exact .inr (.inr ⟨hk, h.1, h.2⟩)
  · cases h
theorem getV_put (zs : List Int) (k n : Int) (s : ByteArray) (h : vOk k n s = true) : getV (zs ++ vB k n s) zs.length = some ((k, n, s), ((zs ++ vB k n s).length : Int)) := by
  rcases vOk_cases h with ⟨rfl, rfl, rfl⟩ | ⟨rfl, hn, rfl⟩ | ⟨rfl, rfl, hs⟩
  · have e : zs ++ vB 0 0 (ByteArray.mk #[]) = zs ++ uB 0 ++ [] := by unfold vB; simp
    have hg := getU_put_on zs [] 0 (by omega) (by omega)
    rw [← e] at hg
    rw [getV_other hg (by omega) (by omega), if_pos h, e, List.append_nil]
  · have e : zs ++ vB 1 n (ByteArray.mk #[]) = zs ++ uB 1 ++ sB n := by unfold vB; simp
    have hg := getU_put_on zs (sB n) 1 (by omega) (by omega)
    have hs := getS_put (zs ++ uB 1) n
    rw [← e] at hg hs
    rw [← hn] at hs
    rw [getV_one hg hs, if_pos h]
  · have e : zs ++ vB 2 0 s = zs ++ uB 2 ++ (uB s.size ++ strI s) := by unfold vB; simp
    have e2 : zs ++ vB 2 0 s = zs ++ uB 2 ++ uB s.size ++ strI s := by rw [e, List.append_assoc (zs ++ uB 2)]
    have hg := getU_put_on zs (uB s.size ++ strI s) 2 (by omega) (by omega)
    have ht := getT_put (zs ++ uB 2) s (by omega)
    rw [← e] at hg
    rw [← e2] at ht
    rw [getV_two hg ht, if_pos h]

theorem strI_bStr (l : List Int) (h : Byt l) : strI (bStr l) = l := by
  unfold bStr strI
  simp only [List.map_map]
  conv => rhs; rw [← List.map_id l]
  refine List.map_congr_left fun x hx => ?_
  have := h x hx
  simp only [Function.comp, id, UInt8.toNat_ofNat']
  omega
theorem byt_cut {zs : List Int} (h : Byt zs) (a m : Nat) : Byt ((zs.drop a).take m) := fun z hz => h z (List.mem_of_mem_drop (List.mem_of_mem_take hz))
theorem cut_app (zs : List Int) (a j m : Nat) : (zs.drop a).take (j + m) = (zs.drop a).take j ++ (zs.drop (a + j)).take m := by
  rw [List.take_add, List.drop_drop]
theorem getT_back {zs : List Int} {p q : Int} {s : ByteArray} (hZ : Byt zs) (h : getT zs p = some (s, q)) : ∃ a k : Nat, p = a ∧ q = ((a + k : Nat) : Int) ∧ a + k ≤ zs.length ∧ uB s.size ++ strI s = (zs.drop a).take k := by
  unfold getT at h
  cases hg : getU zs p with
  | none => rw [hg] at h; cases h
  | some x =>
    obtain ⟨m, r⟩ := x
    rw [hg] at h
    simp only at h
    have hb := getU_bd hZ hg
    obtain ⟨a, j, rfl, rfl, hj, hu⟩ := getU_back hZ hg
    split at h
    · rename_i hm
      obtain ⟨m, rfl⟩ := Int.eq_ofNat_of_zero_le hb.1
      simp only [Int.toNat_natCast, Option.some.injEq, Prod.mk.injEq] at h
      obtain ⟨rfl, rfl⟩ := h
      have hl : ((zs.drop (a + j)).take m).length = m := by rw [List.length_take, List.length_drop]; omega
      refine ⟨a, j + m, rfl, by omega, by omega, ?_⟩
      rw [bStr_size, hl, strI_bStr _ (byt_cut hZ _ _), hu, cut_app]
    · cases h
theorem getV_back {zs : List Int} {p q k n : Int} {s : ByteArray} (hZ : Byt zs) (h : getV zs p = some ((k, n, s), q)) : ∃ a m : Nat, p = a ∧ q = ((a + m : Nat) : Int) ∧ a + m ≤ zs.length ∧ vB k n s = (zs.drop a).take m := by
  unfold getV at h
  cases hg : getU zs p with
  | none => rw [hg] at h; cases h
  | some x =>
    obtain ⟨k', r⟩ := x
    rw [hg] at h
    simp only at h
    obtain ⟨a, j, rfl, rfl, hj, hu⟩ := getU_back hZ hg
    by_cases h1 : k' = 1
    · subst h1
      rw [if_pos rfl] at h
      cases hs : getS zs ((a + j : Nat) : Int) with
      | none => rw [hs] at h; cases h
      | some x =>
        obtain ⟨n', r'⟩ := x
        rw [hs] at h
        simp only at h
        obtain ⟨b, i, e1, rfl, hi, hv⟩ := getS_back hZ hs
        obtain rfl : a + j = b := by omega
        split at h
        · simp only [Option.some.injEq, Prod.mk.injEq] at h
          obtain ⟨⟨rfl, rfl, rfl⟩, rfl⟩ := h
          refine ⟨a, j + i, rfl, by omega, by omega, ?_⟩
          rw [cut_app, ← hv, ← hu]
          unfold vB
          rw [if_pos rfl]
        · cases h
    rw [if_neg h1] at h
    by_cases h2 : k' = 2
    · subst h2
      rw [if_pos rfl] at h
      cases hs : getT zs ((a + j : Nat) : Int) with
      | none => rw [hs] at h; cases h
      | some x =>
        obtain ⟨s', r'⟩ := x
        rw [hs] at h
        simp only at h
        obtain ⟨b, i, e1, rfl, hi, hv⟩ := getT_back hZ hs
        obtain rfl : a + j = b := by omega
        split at h
        · simp only [Option.some.injEq, Prod.mk.injEq] at h
          obtain ⟨⟨rfl, rfl, rfl⟩, rfl⟩ := h
          refine ⟨a, j + i, rfl, by omega, by omega, ?_⟩
          rw [cut_app, ← hv, ← hu]
          unfold vB
          rw [if_neg (by omega), if_pos rfl]
        · cases h
    rw [if_neg h2] at h
    split at h
    · simp only [Option.some.injEq, Prod.mk.injEq] at h
      obtain ⟨⟨rfl, rfl, rfl⟩, rfl⟩ := h
      refine ⟨a, j, rfl, rfl, hj, ?_⟩
      rw [← hu]
      unfold vB
      rw [if_neg h1, if_neg h2, List.append_nil]
    · cases h

theorem digs_on1 (c : Int) (r : List Int) (a : Int) (h0 : 48 ≤ c) (h1 : c ≤ 57) : digs (c :: r) a = digs r (wrap32 (10 * a + (c - 48))) := by rw [digs, if_pos ⟨h0, h1⟩]
/-- The bytes of a numeral, as numbers. -/
def ddI (u : Nat) : List Int := (Lib.decDigits u).map fun b => (b.toNat : Int)
theorem ddI_one {u : Nat} (h : u < 10) : ddI u = [48 + (u : Int)] := by
  unfold ddI
  rw [Lib.decDigits_one h]
  simp only [List.map_cons, List.map_nil, UInt8.toNat_ofNat', List.cons.injEq, and_true]
  omega
theorem ddI_more {u : Nat} (h : ¬ u < 10) : ddI u = ddI (u / 10) ++ [48 + ((u % 10 : Nat) : Int)] := by
  unfold ddI
  rw [decDigits_more u h, List.map_append]
  congr 1
  simp only [List.map_cons, List.map_nil, UInt8.toNat_ofNat', List.cons.injEq, and_true]
  omega
theorem digs_dd : ∀ (f u : Nat) (r : List Int), u < f → digs (ddI u ++ r) 0 = digs r (wrap32 u)
  | 0, u, r, h => by omega
  | f + 1, u, r, h => by
    by_cases hu : u < 10
    · rw [ddI_one hu, List.singleton_append, digs_on1 _ _ _ (by omega) (by omega)]
      congr 2
      omega
    · rw [ddI_more hu, List.append_assoc, digs_dd f (u / 10) _ (by omega), List.singleton_append, digs_on1 _ _ _ (by omega) (by omega)]
      congr 1
      unfold wrap32
      omega
theorem ddI_head : ∀ (f u : Nat), u < f → ∃ c r, ddI u = c :: r ∧ 48 ≤ c ∧ c ≤ 57
  | 0, u, h => by omega
  | f + 1, u, h => by
    by_cases hu : u < 10
    · exact ⟨_, _, ddI_one hu, by omega, by omega⟩
    · obtain ⟨c, r, e, h0, h1⟩ := ddI_head f (u / 10) (by omega)
      exact ⟨c, r ++ [48 + ((u % 10 : Nat) : Int)], by rw [ddI_more hu, e]; rfl, h0, h1⟩
theorem numL_itoa (n : Int) : numL (strI (itoaS n)) = wrap32 n := by
  by_cases hn : n < 0
  · have e : strI (itoaS n) = 45 :: ddI n.natAbs := by
      unfold strI itoaS Lib.itoa ddI
      rw [if_pos hn]
      rfl
    rw [e]
    unfold numL
    rw [if_pos (show (45 :: ddI n.natAbs).head? = some 45 from rfl), List.drop_one, List.tail_cons]
    have := digs_dd _ n.natAbs [] (Nat.lt_succ_self _)
    rw [List.append_nil] at this
    rw [this, digs]
    unfold wrap32
    omega
  · have e : strI (itoaS n) = ddI n.toNat := by
      unfold strI itoaS Lib.itoa ddI
      rw [if_neg hn]
    obtain ⟨c, r, hc, h0, h1⟩ := ddI_head _ n.toNat (Nat.lt_succ_self _)
    have hd := digs_dd _ n.toNat [] (Nat.lt_succ_self _)
    rw [List.append_nil] at hd
    rw [e]
    unfold numL
    rw [if_neg (by rw [hc]; simp; omega), hd, digs]
    congr 1
    omega
theorem num_text {k n : Int} {s : ByteArray} (h : vOk k n s = true) : vNum 2 0 (vText k n s) = vNum k n s := by
  rcases vOk_cases h with ⟨rfl, rfl, rfl⟩ | ⟨rfl, hn, rfl⟩ | ⟨rfl, rfl, hs⟩
  · rfl
  · unfold vNum vText
    rw [if_pos rfl, if_pos rfl, if_neg (by omega), numL_itoa]
    exact hn.symm
  · rfl

end Go.Proofs.YtalnkdbmbjplpaaDoor
