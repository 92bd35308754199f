/- Plain laws: what is read as a number has the number's bytes; a text read back. No program in sight. -/
import Derived.Test.YtalnkdbmbjplpaaDoorNumLaw
import Derived.Test.YtalnkdbmbjplpaaDoorGetT
import Derived.Test.YtalnkdbmbjplpaaDoorPutT
namespace Go.Proofs.YtalnkdbmbjplpaaDoor
open Go.RowKit

theorem drop_take_cons (zs : List Int) (b k : Nat) (h : b < zs.length) : (zs.drop b).take (k + 1) = zs[b] :: (zs.drop (b + 1)).take k := by
  rw [List.drop_eq_getElem_cons h, List.take_succ_cons]
theorem gU_back (zs : List Int) (a : Nat) (hZ : Byt zs) : ∀ (f i : Nat) (n x q : Int), gU zs a (f + 1) i n = some (x, q) →
    ∃ (k : Nat) (v : Int), 0 ≤ v ∧ (0 < i → 0 < v) ∧ x = n + v * 128 ^ i ∧ q = a + i + k ∧ a + i + k ≤ zs.length ∧ uBf f v = (zs.drop (a + i)).take k := by
  intro f
  induction f with
  | zero =>
    intro i n x q h
    by_cases hl : a + i < zs.length
    · have hz := hZ zs[a + i] (List.getElem_mem hl)
      by_cases hc : zs[a + i] < 128
      · by_cases hb : (zs[a + i] = 0 ∧ 0 < i) ∨ 2147483647 < n + zs[a + i] % 128 * 128 ^ i
        · rw [gU_bad zs a i n 0 hl hc hb] at h; cases h
        · rw [gU_good zs a i n 0 hl hc hb] at h
          simp only [Option.some.injEq, Prod.mk.injEq] at h
          obtain ⟨h1, h2⟩ := h
          have e : zs[a + i] % 128 = zs[a + i] := by omega
          rw [e] at h1
          exact ⟨1, zs[a + i], hz.1, fun hi => by omega, h1.symm, by omega, by omega, by rw [uBf_done 0 _ hc, drop_take_cons zs _ 0 hl, List.take_zero]⟩
      · rw [gU_on zs a i n 0 hl (by omega)] at h
        cases h
    · rw [gU_end zs a i n 1 hl] at h; cases h
  | succ f ih =>
    intro i n x q h
    by_cases hl : a + i < zs.length
    · have hz := hZ zs[a + i] (List.getElem_mem hl)
      by_cases hc : zs[a + i] < 128
      · by_cases hb : (zs[a + i] = 0 ∧ 0 < i) ∨ 2147483647 < n + zs[a + i] % 128 * 128 ^ i
        · rw [gU_bad zs a i n (f + 1) hl hc hb] at h; cases h
        · rw [gU_good zs a i n (f + 1) hl hc hb] at h
          simp only [Option.some.injEq, Prod.mk.injEq] at h
          obtain ⟨h1, h2⟩ := h
          have e : zs[a + i] % 128 = zs[a + i] := by omega
          rw [e] at h1
          exact ⟨1, zs[a + i], hz.1, fun hi => by omega, h1.symm, by omega, by omega, by rw [uBf_done (f + 1) _ hc, drop_take_cons zs _ 0 hl, List.take_zero]⟩
      · rw [gU_on zs a i n (f + 1) hl (by omega)] at h
        obtain ⟨k, v, h0, h1, h2, h3, h4, h5⟩ := ih (i + 1) _ x q h
        have hv := h1 (by omega)
        have e1 : (zs[a + i] % 128 + 128 * v) % 128 = zs[a + i] % 128 := by omega
        have e2 : (zs[a + i] % 128 + 128 * v) / 128 = v := by omega
        have e3 : zs[a + i] % 128 + 128 = zs[a + i] := by omega
        refine ⟨k + 1, zs[a + i] % 128 + 128 * v, by omega, fun _ => by omega, ?_, by omega, by omega, ?_⟩
        · rw [h2, Int.pow_succ, Int.add_mul, Int.add_assoc, Int.mul_comm 128 v, Int.mul_assoc, Int.mul_comm 128 (128 ^ i)]
        · rw [uBf_more f _ (by omega), e1, e2, e3, drop_take_cons zs _ k hl, h5, Nat.add_assoc]
    · rw [gU_end zs a i n (f + 2) hl] at h; cases h
theorem getU_back {zs : List Int} {p x q : Int} (hZ : Byt zs) (h : getU zs p = some (x, q)) : ∃ a k : Nat, p = a ∧ q = ((a + k : Nat) : Int) ∧ a + k ≤ zs.length ∧ uB x = (zs.drop a).take k := by
  have hb := getU_bd hZ h
  unfold getU at h
  split at h
  · rename_i hp
    obtain ⟨a, rfl⟩ := Int.eq_ofNat_of_zero_le hp.1
    rw [Int.toNat_natCast] at h
    obtain ⟨k, v, h0, _, h2, h3, h4, h5⟩ := gU_back zs a hZ 4 0 0 x q h
    have e : x = v := by rw [h2]; simp
    subst e
    refine ⟨a, k, rfl, by omega, by omega, ?_⟩
    rw [show a + 0 = a from rfl] at h5
    rw [← h5]
    unfold uB clampI
    rw [if_neg (by omega), if_neg (by omega)]
  · cases h

theorem chain_more (l r : List Int) (c : Int) (hl : ∀ r, chain r → chain (l ++ r)) (hc : 128 ≤ c ∧ c < 256) (hr : chain r) : chain (l ++ [c] ++ r) := by
  rw [List.append_assoc]
  cases r with
  | nil => exact hr.elim
  | cons d r => exact hl _ ⟨hc.1, hc.2, hr⟩
theorem take_more (zs l : List Int) (a : Nat) (hl : l = (zs.drop a).take l.length) (h : a + l.length < zs.length) : l ++ [zs[a + l.length]] = (zs.drop a).take (l ++ [zs[a + l.length]]).length := by
  rw [List.length_append, List.length_singleton, List.take_add_one, ← hl, List.getElem?_drop, List.getElem?_eq_getElem h]
  rfl
theorem gS_back (zs : List Int) (a : Nat) (hZ : Byt zs) : ∀ (f : Nat) (l : List Int) (x q : Int), (∀ r, chain r → chain (l ++ r)) → l = (zs.drop a).take l.length → gS zs a f l = some (x, q) →
    ∃ k : Nat, q = ((a + k : Nat) : Int) ∧ a + k ≤ zs.length ∧ sB x = (zs.drop a).take k := by
  intro f
  induction f with
  | zero => intro l x q _ _ h; cases h
  | succ f ih =>
    intro l x q hl ht h
    by_cases hk : a + l.length < zs.length
    · have hz := hZ zs[a + l.length] (List.getElem_mem hk)
      have htm := take_more zs l a ht hk
      by_cases hc : zs[a + l.length] < 128
      · rw [gS_last zs a l f hk hc] at h
        split at h
        · rename_i hd
          simp only [Option.some.injEq, Prod.mk.injEq] at h
          obtain ⟨rfl, rfl⟩ := h
          have hch := hl [zs[a + l.length]] ⟨hz.1, hc⟩
          have := (sB_eq_iff _ hch).2 ⟨hd.1, by rw [hd.2]; simp⟩
          refine ⟨l.length + 1, by omega, by omega, ?_⟩
          rw [this]
          rw [List.length_append, List.length_singleton] at htm
          exact htm
        · cases h
      · rw [gS_on zs a l f hk (by omega)] at h
        exact ih (l ++ [zs[a + l.length]]) x q (fun r hr => chain_more l r _ hl ⟨by omega, hz.2⟩ hr) htm h
    · rw [gS_end zs a l _ hk] at h; cases h
theorem getS_back {zs : List Int} {p x q : Int} (hZ : Byt zs) (h : getS zs p = some (x, q)) : ∃ a k : Nat, p = a ∧ q = ((a + k : Nat) : Int) ∧ a + k ≤ zs.length ∧ sB x = (zs.drop a).take k := by
  unfold getS at h
  split at h
  · rename_i hp
    obtain ⟨a, rfl⟩ := Int.eq_ofNat_of_zero_le hp.1
    rw [Int.toNat_natCast] at h
    obtain ⟨k, h1, h2, h3⟩ := gS_back zs a hZ 5 [] x q (fun r hr => hr) rfl h
    exact ⟨a, k, rfl, h1, h2, h3⟩
  · cases h

theorem bStr_strI (s : ByteArray) : bStr (strI s) = s := by
  unfold bStr strI
  rw [List.map_map]
  have : (fun n : Int => UInt8.ofNat n.toNat) ∘ (fun b : UInt8 => (b.toNat : Int)) = id := by
    funext b
    simp
  rw [this, List.map_id]
theorem getT_put (zs : List Int) (s : ByteArray) (hs : s.size ≤ 2147483647) : getT (zs ++ uB s.size ++ strI s) zs.length = some (s, ((zs ++ uB s.size ++ strI s).length : Int)) := by
  have hc : clampI s.size 0 2147483647 = s.size := by unfold clampI; rw [if_neg (by omega), if_neg (by omega)]
  have hne : 0 < (uB s.size).length := List.length_pos_iff.2 (uBf_ne 4 _)
  have hg : getU (zs ++ uB s.size ++ strI s) zs.length = some ((s.size : Int), ((zs ++ uB s.size).length : Int)) := by
    unfold getU
    rw [if_pos ⟨by omega, by rw [List.length_append, List.length_append]; omega⟩, Int.toNat_natCast]
    have := gU_uBf zs.length 4 0 (s.size : Int) 0 (zs ++ uB s.size ++ strI s) zs (strI s) (by simp only [uB, hc, List.append_assoc]) (by simp) (by omega) (by simp; omega) (by simp; omega) (by omega)
    rw [this, List.length_append]
    simp [uB, hc]
  have hl : (strI s).length = s.size := strI_len s
  unfold getT
  rw [hg]
  simp only
  rw [if_pos (by rw [List.length_append (bs := strI s), hl]; omega), Int.toNat_natCast, Int.toNat_natCast, List.drop_left, ← hl, List.take_length, bStr_strI, List.length_append (bs := strI s)]
  simp

end Go.Proofs.YtalnkdbmbjplpaaDoor
