/- Walks over GetText, the program's and the reference's. Lengths are at most 2 to the 29th. -/
import Derived.Test.YtalnkdbmbjplpaaDoorGetU
import Derived.Test.YtalnkdbmbjplpaaDoorGetUAll
import Derived.Test.YtalnkdbmbjplpaaDoorConv
namespace Go.Proofs.YtalnkdbmbjplpaaDoor
open Go.RowKit

theorem gU_bd (zs : List Int) (a : Nat) (hZ : Byt zs) : ∀ (f i : Nat) (n : Int), 0 ≤ n → ∀ m p, gU zs a f i n = some (m, p) → 0 ≤ m ∧ m ≤ 2147483647 ∧ (a : Int) < p ∧ p ≤ zs.length
  | 0, _, _, _, _, _, h => by cases h
  | f + 1, i, n, h0, m, p, h => by
    rw [gU] at h
    split at h
    · cases h
    · rename_i c hc
      have hz := hZ c (List.mem_of_getElem? hc)
      have hl := (List.getElem?_eq_some_iff.1 hc).1
      have hp : (0 : Int) ≤ 128 ^ i := Int.pow_nonneg (by omega)
      have hm : 0 ≤ n + c % 128 * 128 ^ i := by
        have : 0 ≤ c % 128 * 128 ^ i := Int.mul_nonneg (by omega) hp
        omega
      split at h
      · split at h
        · cases h
        · simp only [Option.some.injEq, Prod.mk.injEq] at h
          obtain ⟨rfl, rfl⟩ := h
          omega
      · exact gU_bd zs a hZ f (i + 1) _ hm m p h
theorem getU_bd {zs : List Int} {q m p : Int} (hZ : Byt zs) (h : getU zs q = some (m, p)) : 0 ≤ m ∧ m ≤ 2147483647 ∧ 0 < p ∧ p ≤ zs.length := by
  unfold getU at h
  split at h
  · have := gU_bd zs q.toNat hZ 5 0 0 (by omega) m p h
    omega
  · cases h

/-- A text read, the place behind it, whether there is one. -/
def getT (zs : List Int) (q : Int) : Option (ByteArray × Int) :=
  match getU zs q with
  | some (m, p) => if m ≤ zs.length - p then some (bStr ((zs.drop p.toNat).take m.toNat), p + m) else none
  | none => none
def resT : Option (ByteArray × Int) → Value
  | some (s, p) => .tuple #[.string s, .int .i64 p, .bool true]
  | none => .tuple #[.string ByteArray.empty, .int .i64 0, .bool false]
theorem empty_lit : (ByteArray.mk #[]) = ByteArray.empty := rfl

set_option maxHeartbeats 1000000 in
theorem sGetT (A : Option Addr) (c : Nat) (q : Int) (zs : List Int) (w : World) (hR : Reads w w.heap.size 1 A zs.length (u8s zs)) (hZ : Byt zs) (hn : zs.length ≤ 536870912) (hcap : zs.length ≤ c) (hc63 : c ≤ 9223372036854775807) :
    Calls Tryd.prog 34 #[.slice A zs.length c, .int .i64 q] w fun e w' => e = .returned (resT (getT zs q)) ∧ w' = w := by
  have hn' : (zs.length : Int) ≤ 536870912 := by omega
  have hcap' : (zs.length : Int) ≤ (c : Int) := by omega
  have hG := sGetU A c q zs w hR hZ hn
  cases hg : getU zs q with
  | none =>
    have ht : getT zs q = none := by unfold getT; rw [hg]
    rw [ht]
    rw [hg] at hG
    simp only [resP] at hG
    have HG := Lib.hid hG
    clear hG hg ht
    go_enter Tryd.func34, Tryd.ntmps34
    go_wp2_with fail
    refine (HG.out).mono ?_; rintro e w1 ⟨rfl, rfl⟩
    go_wp2_with fail
    go_ret3
    exact ⟨rfl, rfl⟩
  | some x =>
    obtain ⟨m, p⟩ := x
    have hb := getU_bd hZ hg
    rw [hg] at hG
    simp only [resP] at hG
    have HG := Lib.hid hG
    obtain ⟨hb0, hb1, hb2, hb3⟩ := hb
    by_cases hm : m ≤ zs.length - p
    · have ht : getT zs q = some (bStr ((zs.drop p.toNat).take m.toNat), p + m) := by unfold getT; rw [hg]; simp only [if_pos hm]
      rw [ht]
      clear hG hg ht
      obtain ⟨p, rfl⟩ := Int.eq_ofNat_of_zero_le (show 0 ≤ p by omega)
      obtain ⟨m, rfl⟩ := Int.eq_ofNat_of_zero_le hb0
      simp only [Int.toNat_natCast]
      have hcut := rd_cut (lo := p) (m := m) (c := c) hR rfl (by omega) hcap
      have hlen : ((zs.drop p).take m).length = m := by rw [List.length_take, List.length_drop]; omega
      have hconv := conv_bytes (c := c - p) hcut hlen (fun z hz => hZ z (List.mem_of_mem_drop (List.mem_of_mem_take hz)))
      generalize bStr ((zs.drop p).take m) = sx at *
      clear hcut hlen
      go_enter Tryd.func34, Tryd.ntmps34
      go_wp2_with fail
      refine (HG.out).mono ?_; rintro e w1 ⟨rfl, rfl⟩
      go_wp2_with fail
      all_goals go_ret3
      all_goals exact ⟨rfl, rfl⟩
    · have ht : getT zs q = none := by unfold getT; rw [hg]; simp only [if_neg hm]
      rw [ht]
      clear hG hg ht
      go_enter Tryd.func34, Tryd.ntmps34
      go_wp2_with fail
      refine (HG.out).mono ?_; rintro e w1 ⟨rfl, rfl⟩
      go_wp2_with fail
      go_ret3
      exact ⟨rfl, rfl⟩

set_option maxHeartbeats 1000000 in
theorem iGetT (A : Option Addr) (c : Nat) (q : Int) (zs : List Int) (w : World) (hR : Reads w w.heap.size 1 A zs.length (u8s zs)) (hZ : Byt zs) (hn : zs.length ≤ 536870912) (hcap : zs.length ≤ c) (hc63 : c ≤ 9223372036854775807) :
    Calls Tryd.prog 25 #[.slice A zs.length c, .int .i64 q] w fun e w' => e = .returned (resT (getT zs q)) ∧ w' = w := by
  have hn' : (zs.length : Int) ≤ 536870912 := by omega
  have hcap' : (zs.length : Int) ≤ (c : Int) := by omega
  have hG := iGetU A c q zs w hR hZ hn
  cases hg : getU zs q with
  | none =>
    have ht : getT zs q = none := by unfold getT; rw [hg]
    rw [ht]
    rw [hg] at hG
    simp only [resP] at hG
    have HG := Lib.hid hG
    clear hG hg ht
    go_enter Tryd.func25, Tryd.ntmps25
    go_wp2_with fail
    refine (HG.out).mono ?_; rintro e w1 ⟨rfl, rfl⟩
    go_wp2_with fail
    go_ret3
    exact ⟨rfl, rfl⟩
  | some x =>
    obtain ⟨m, p⟩ := x
    have hb := getU_bd hZ hg
    rw [hg] at hG
    simp only [resP] at hG
    have HG := Lib.hid hG
    obtain ⟨hb0, hb1, hb2, hb3⟩ := hb
    by_cases hm : m ≤ zs.length - p
    · have ht : getT zs q = some (bStr ((zs.drop p.toNat).take m.toNat), p + m) := by unfold getT; rw [hg]; simp only [if_pos hm]
      rw [ht]
      clear hG hg ht
      obtain ⟨p, rfl⟩ := Int.eq_ofNat_of_zero_le (show 0 ≤ p by omega)
      obtain ⟨m, rfl⟩ := Int.eq_ofNat_of_zero_le hb0
      simp only [Int.toNat_natCast]
      have hcut := rd_cut (lo := p) (m := m) (c := c) hR rfl (by omega) hcap
      have hlen : ((zs.drop p).take m).length = m := by rw [List.length_take, List.length_drop]; omega
      have hconv := conv_bytes (c := c - p) hcut hlen (fun z hz => hZ z (List.mem_of_mem_drop (List.mem_of_mem_take hz)))
      generalize bStr ((zs.drop p).take m) = sx at *
      clear hcut hlen
      go_enter Tryd.func25, Tryd.ntmps25
      go_wp2_with fail
      refine (HG.out).mono ?_; rintro e w1 ⟨rfl, rfl⟩
      go_wp2_with fail
      all_goals go_ret3
      all_goals exact ⟨rfl, rfl⟩
    · have ht : getT zs q = none := by unfold getT; rw [hg]; simp only [if_neg hm]
      rw [ht]
      clear hG hg ht
      go_enter Tryd.func25, Tryd.ntmps25
      go_wp2_with fail
      refine (HG.out).mono ?_; rintro e w1 ⟨rfl, rfl⟩
      go_wp2_with fail
      go_ret3
      exact ⟨rfl, rfl⟩

end Go.Proofs.YtalnkdbmbjplpaaDoor
