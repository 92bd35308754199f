/- Plain laws: a number's bytes read back. No program in sight. -/
import Derived.Test.YtalnkdbmbjplpaaDoorGetU
import Derived.Test.YtalnkdbmbjplpaaDoorNumU
import Derived.Test.YtalnkdbmbjplpaaDoorSgn
namespace Go.Proofs.YtalnkdbmbjplpaaDoor
open Go.RowKit

theorem digit_split (m P : Int) : m * P = m % 128 * P + m / 128 * (P * 128) := by
  have h : m = m % 128 + 128 * (m / 128) := by omega
  generalize m % 128 = x at *
  generalize m / 128 = y at *
  subst h
  rw [Int.add_mul, Int.mul_comm P 128, ← Int.mul_assoc, Int.mul_comm y 128]
theorem gU_uBf (a : Nat) : ∀ (f i : Nat) (m acc : Int) (zs pre tail : List Int), zs = pre ++ uBf f m ++ tail → pre.length = a + i → 0 ≤ m → m < 128 ^ (f + 1) → acc + m * 128 ^ i ≤ 2147483647 → (0 < i → 0 < m) →
    gU zs a (f + 1) i acc = some (acc + m * 128 ^ i, (a : Int) + i + (uBf f m).length) := by
  intro f
  induction f with
  | zero =>
    intro i m acc zs pre tail hz hp h0 h1 h2 h3
    have hm : m < 128 := by simpa using h1
    rw [uBf_done 0 m hm] at hz ⊢
    have hlt : a + i < zs.length := by rw [hz]; simp; omega
    have hg : zs[a + i] = m := by subst hz; simp [← hp]
    have e : m % 128 = m := by omega
    rw [gU_good zs a i acc 0 hlt (by rw [hg]; exact hm) (by rw [hg, e]; intro h; rcases h with ⟨h, h'⟩ | h <;> (try have := h3 h') <;> omega), hg, e]
    rfl
  | succ f ih =>
    intro i m acc zs pre tail hz hp h0 h1 h2 h3
    by_cases hm : m < 128
    · rw [uBf_done (f + 1) m hm] at hz ⊢
      have hlt : a + i < zs.length := by rw [hz]; simp; omega
      have hg : zs[a + i] = m := by subst hz; simp [← hp]
      have e : m % 128 = m := by omega
      rw [gU_good zs a i acc (f + 1) hlt (by rw [hg]; exact hm) (by rw [hg, e]; intro h; rcases h with ⟨h, h'⟩ | h <;> (try have := h3 h') <;> omega), hg, e]
      rfl
    · rw [uBf_more f m (by omega)] at hz ⊢
      have hlt : a + i < zs.length := by rw [hz]; simp; omega
      have hg : zs[a + i] = m % 128 + 128 := by subst hz; simp [← hp]
      have e : (m % 128 + 128) % 128 = m % 128 := by omega
      have hs : acc + m % 128 * 128 ^ i + m / 128 * 128 ^ (i + 1) = acc + m * 128 ^ i := by
        have h : m * 128 ^ i = m % 128 * 128 ^ i + m / 128 * 128 ^ (i + 1) := by
          rw [Int.pow_succ]; exact digit_split m (128 ^ i)
        omega
      rw [gU_on zs a i acc (f + 1) hlt (by rw [hg]; omega), hg, e]
      rw [ih (i + 1) (m / 128) (acc + m % 128 * 128 ^ i) zs (pre ++ [m % 128 + 128]) tail (by rw [hz]; simp) (by simp; omega) (by omega) (by rw [Int.pow_succ] at h1; omega) (by rw [hs]; exact h2) (by omega), hs]
      simp; omega

theorem uBf_ne (f : Nat) (m : Int) : uBf f m ≠ [] := by
  cases f with
  | zero => simp [uBf]
  | succ f => unfold uBf; split <;> simp
theorem gU_cut (a : Nat) : ∀ (f i : Nat) (m acc : Int) (zs pre : List Int), zs = pre ++ (uBf f m).dropLast → pre.length = a + i → 0 ≤ m → gU zs a (f + 1) i acc = none := by
  intro f
  induction f with
  | zero =>
    intro i m acc zs pre hz hp h0
    have : zs.length = a + i := by rw [hz]; simp [uBf, hp]
    exact gU_end zs a i acc 1 (by omega)
  | succ f ih =>
    intro i m acc zs pre hz hp h0
    by_cases hm : m < 128
    · rw [uBf_done (f + 1) m hm] at hz
      have : zs.length = a + i := by rw [hz]; simp [hp]
      exact gU_end zs a i acc _ (by omega)
    · rw [uBf_more f m (by omega), List.dropLast_cons_of_ne_nil (uBf_ne f _)] at hz
      have hlt : a + i < zs.length := by rw [hz]; simp; omega
      have hg : zs[a + i] = m % 128 + 128 := by subst hz; simp [← hp]
      rw [gU_on zs a i acc (f + 1) hlt (by rw [hg]; omega)]
      exact ih (i + 1) (m / 128) _ zs (pre ++ [m % 128 + 128]) (by rw [hz]; simp) (by simp; omega) (by omega)

theorem sBf_chain : ∀ (f : Nat) (m : Int), chain (sBf f m)
  | 0, m => ⟨by omega, by omega⟩
  | f + 1, m => by
    by_cases hm : -64 ≤ m ∧ m < 64
    · rw [sBf_done _ m hm.1 hm.2]; exact ⟨by omega, by omega⟩
    · rw [sBf_more f m (by omega)]
      have ih := sBf_chain f (m / 128)
      have hne : ∃ d r, sBf f (m / 128) = d :: r := by
        cases f with
        | zero => exact ⟨_, _, rfl⟩
        | succ f => unfold sBf; split <;> exact ⟨_, _, rfl⟩
      obtain ⟨d, r, hd⟩ := hne
      rw [hd] at ih ⊢
      exact ⟨by omega, by omega, ih⟩
theorem gS_chain (a : Nat) : ∀ (r : List Int) (f : Nat) (l zs pre tail : List Int), zs = pre ++ (l ++ r) ++ tail → pre.length = a → chain r → r.length ≤ f →
    gS zs a f l = if wrap32 (decS (l ++ r)) = decS (l ++ r) ∧ (sB (decS (l ++ r))).length = (l ++ r).length then some (decS (l ++ r), (a : Int) + (l ++ r).length) else none
  | [], f, l, zs, pre, tail, _, _, h, _ => h.elim
  | [c], f, l, zs, pre, tail, hz, hp, h, hf => by
    obtain ⟨f, rfl⟩ : ∃ k, f = k + 1 := ⟨f - 1, by simp at hf; omega⟩
    have hlt : a + l.length < zs.length := by rw [hz]; simp; omega
    have hg : zs[a + l.length] = c := by subst hz; simp [← hp]
    rw [gS_last zs a l f hlt (by rw [hg]; exact h.2), hg]
    simp only [List.length_append, List.length_cons, List.length_nil, Nat.zero_add, Int.natCast_add, Int.natCast_one, Int.add_assoc]
  | c :: d :: r, f, l, zs, pre, tail, hz, hp, h, hf => by
    obtain ⟨f, rfl⟩ : ∃ k, f = k + 1 := ⟨f - 1, by simp at hf; omega⟩
    have hlt : a + l.length < zs.length := by rw [hz]; simp; omega
    have hg : zs[a + l.length] = c := by subst hz; simp [← hp]
    rw [gS_on zs a l f hlt (by rw [hg]; exact h.1), hg]
    rw [gS_chain a (d :: r) f (l ++ [c]) zs pre tail (by rw [hz]; simp) hp h.2.2 (by simp at hf ⊢; omega)]
    rw [List.append_assoc]
    rfl
theorem gS_cut (a : Nat) : ∀ (r : List Int) (f : Nat) (l zs pre : List Int), zs = pre ++ (l ++ r.dropLast) → pre.length = a → chain r → gS zs a f l = none
  | [], f, l, zs, pre, _, _, h => h.elim
  | [c], f, l, zs, pre, hz, hp, h => by
    have : zs.length = a + l.length := by rw [hz]; simp [hp]
    exact gS_end zs a l f (by omega)
  | c :: d :: r, f, l, zs, pre, hz, hp, h => by
    cases f with
    | zero => rfl
    | succ f =>
      rw [List.dropLast_cons_of_ne_nil (by simp)] at hz
      have hlt : a + l.length < zs.length := by rw [hz]; simp; omega
      have hg : zs[a + l.length] = c := by subst hz; simp [← hp]
      rw [gS_on zs a l f hlt (by rw [hg]; exact h.1), hg]
      exact gS_cut a (d :: r) f (l ++ [c]) zs pre (by rw [hz]; simp) hp h.2.2

theorem getU_put (zs : List Int) (n : Int) : getU (zs ++ uB n) zs.length = some (clampI n 0 2147483647, ((zs ++ uB n).length : Int)) := by
  have hb := clampI_bd n 0 2147483647 (by omega)
  have hne : 0 < (uB n).length := List.length_pos_iff.2 (uBf_ne 4 _)
  unfold getU
  rw [if_pos ⟨by omega, by rw [List.length_append]; omega⟩]
  rw [Int.toNat_natCast]
  have := gU_uBf zs.length 4 0 (clampI n 0 2147483647) 0 (zs ++ uB n) zs [] (by simp [uB]) (by simp) hb.1 (by simp; omega) (by simp; omega) (by omega)
  rw [this, List.length_append]
  simp [uB]
theorem getU_cut (zs : List Int) (n : Int) : getU (zs ++ uB n).dropLast zs.length = none := by
  have hb := clampI_bd n 0 2147483647 (by omega)
  unfold getU
  split
  · rw [Int.toNat_natCast]
    exact gU_cut zs.length 4 0 (clampI n 0 2147483647) 0 _ zs (by rw [List.dropLast_append_of_ne_nil (show uB n ≠ [] from uBf_ne 4 _)]; rfl) (by simp) hb.1
  · rfl
theorem sBf_ne (f : Nat) (m : Int) : sBf f m ≠ [] := by
  cases f with
  | zero => simp [sBf]
  | succ f => unfold sBf; split <;> simp
theorem sBf_len (f : Nat) (m : Int) : (sBf f m).length ≤ f + 1 := by
  induction f generalizing m with
  | zero => simp [sBf]
  | succ f ih =>
    unfold sBf
    split
    · simp
    · have := ih (m / 128)
      simp; omega
theorem getS_put (zs : List Int) (n : Int) : getS (zs ++ sB n) zs.length = some (wrap32 n, ((zs ++ sB n).length : Int)) := by
  have hb := wrap32_bd n
  have hne : 0 < (sB n).length := List.length_pos_iff.2 (sBf_ne 4 _)
  have hd : decS (sB n) = wrap32 n := dec_sBf 4 _ (by simp; omega) (by simp; omega)
  have hw : wrap32 (wrap32 n) = wrap32 n := IntWalk.wrap32_in _ hb
  have hs : sB (wrap32 n) = sB n := by unfold sB; rw [hw]
  unfold getS
  rw [if_pos ⟨by omega, by rw [List.length_append]; omega⟩]
  rw [Int.toNat_natCast, gS_chain zs.length (sB n) 5 [] (zs ++ sB n) zs [] (by simp) rfl (sBf_chain 4 _) (sBf_len 4 _)]
  simp only [List.nil_append]
  rw [hd, if_pos ⟨hw, by rw [hs]⟩, List.length_append]
  simp
theorem getS_cut (zs : List Int) (n : Int) : getS (zs ++ sB n).dropLast zs.length = none := by
  unfold getS
  split
  · rw [Int.toNat_natCast]
    exact gS_cut zs.length (sB n) 5 [] _ zs (by rw [List.dropLast_append_of_ne_nil (show sB n ≠ [] from sBf_ne 4 _)]; rfl) rfl (sBf_chain 4 _)
  · rfl

end Go.Proofs.YtalnkdbmbjplpaaDoor
