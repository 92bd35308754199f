/- Walks over the laws' helpers on bytes: toByteS, eqByteS, markByteS, heldByteS. Lengths are at most 2 to the 30th in these contracts. -/
import Derived.Test.YtkahlckjedaolaaRow
namespace Go.Proofs.Ytkahlckjedaolaa
open Go.RowKit

theorem u8s_len (zs : List Int) : (u8s zs).length = zs.length := by simp [u8s]
theorem u8s_get (zs : List Int) (k : Nat) (hk : k < zs.length) : (u8s zs)[k]? = some (.int .u8 zs[k]) := by simp [u8s, hk]
theorem rd_at {w : World} {B : Nat} {A : Option Addr} {zs : List Int} (h : Reads w B 1 A zs.length (u8s zs)) {k : Nat} (hk : k < zs.length) :
    ∃ b off, A = some ⟨b, off, none⟩ ∧ b < B ∧ w.cell? ⟨b, off + k, none⟩ = some (.int .u8 zs[k]) := by
  obtain ⟨b, off, u, e, hb, hu, hc⟩ := h.at_ hk
  rw [u8s_get zs k hk] at hu
  cases hu
  exact ⟨b, off, e, hb, hc⟩
theorem own_at {w : World} {lo : Nat} {A : Option Addr} {c : Nat} {e : TypeId} {n : Nat} {xs : List Value} (h : w.ownsRow lo e 1 (.slice A n c) n xs) {k : Nat} (hk : k < n) :
    ∃ g, A = some ⟨g, 0, none⟩ ∧ lo ≤ g ∧ g < w.heap.size ∧ w.cell? ⟨g, k, none⟩ = xs[k]? ∧ w.frozen? ⟨g, k, none⟩ = false := by
  rcases h.2 with ⟨h', h0⟩ | ⟨g, cap, cur, h', hg, _⟩
  · omega
  · simp only [Value.slice.injEq, true_and] at h'
    obtain ⟨rfl, rfl⟩ := h'
    refine ⟨g, rfl, hg, ?_, h.cellAt k (by omega), h.frozenAt k⟩
    exact (h.lt g rfl).2

/-- The bytes that marking writes. -/
def marks (k n : Nat) : List Int := (List.range n).map fun i => (((k + i) % 256 : Nat) : Int)
theorem marks_len (k n : Nat) : (marks k n).length = n := by simp [marks]
theorem marks_byt (k n : Nat) : Byt (marks k n) := by
  intro z hz
  obtain ⟨i, _, rfl⟩ := List.mem_map.1 hz
  omega
theorem marks_get (k n j : Nat) (hj : j < n) : (marks k n)[j]'(by rw [marks_len]; exact hj) = (((k + j) % 256 : Nat) : Int) := by simp [marks]

/-- The first k of one, the rest of another. -/
def upto (zs ys : List Int) (k : Nat) : List Int := zs.take k ++ ys.drop k
theorem upto_zero (zs ys : List Int) : upto zs ys 0 = ys := by simp [upto]
theorem upto_all (zs ys : List Int) (h : ys.length ≤ zs.length) (_ : zs.length = ys.length) : upto zs ys zs.length = zs := by simp [upto, List.drop_eq_nil_of_le h]
theorem upto_len (zs ys : List Int) (k : Nat) (h : zs.length = ys.length) (hk : k ≤ zs.length) : (upto zs ys k).length = ys.length := by simp [upto]; omega
theorem upto_succ (zs ys : List Int) (k : Nat) (hl : zs.length = ys.length) (hk : k < zs.length) : (u8s (upto zs ys k)).set k (.int .u8 zs[k]) = u8s (upto zs ys (k + 1)) := by
  apply List.ext_getElem?
  intro j
  have hkl : k < (u8s (upto zs ys k)).length := by rw [u8s_len, upto_len _ _ _ hl (by omega)]; omega
  by_cases e : j = k
  · subst e
    rw [List.getElem?_set_self hkl]
    unfold u8s upto
    rw [List.getElem?_map, List.getElem?_append_left (by simp; omega), List.getElem?_take, if_pos (by omega), List.getElem?_eq_getElem hk]
    rfl
  · rw [List.getElem?_set_ne (by omega)]
    unfold u8s upto
    rw [List.getElem?_map, List.getElem?_map]
    congr 1
    by_cases l : j < k
    · rw [List.getElem?_append_left (by simp; omega), List.getElem?_append_left (by simp; omega), List.getElem?_take, List.getElem?_take, if_pos l, if_pos (by omega)]
    · rw [List.getElem?_append_right (by simp; omega), List.getElem?_append_right (by simp; omega), List.getElem?_drop, List.getElem?_drop]
      simp only [List.length_take]
      congr 1
      omega
theorem upto_get (zs ys : List Int) (k : Nat) (h : zs.length = ys.length) (hk : k < zs.length) : (u8s (upto zs ys k))[k]? = some (.int .u8 (ys[k]'(by omega))) := by
  unfold u8s upto
  rw [List.getElem?_map, List.getElem?_append_right (by simp; omega), List.getElem?_drop]
  have e : k + (k - (List.take k zs).length) = k := by simp; omega
  rw [e, List.getElem?_eq_getElem (by omega)]
  rfl

set_option maxHeartbeats 1000000 in
theorem toByteS_any (A : Option Addr) (c : Nat) (zs : List Int) (w : World) (hR : Reads w w.heap.size 1 A zs.length (u8s zs)) (hZ : Byt zs) (hn : zs.length ≤ 1073741824) :
    Calls Try.prog 16 #[.slice A zs.length c] w fun e w' => RetB (fun ys => zs = ys) w e w' ∧ Below w.heap.size w w' := by
  have hn' : (zs.length : Int) ≤ 1073741824 := by omega
  obtain ⟨i0, hi, hz0, hz1, hz2⟩ := info_parts info_u8
  obtain ⟨ys, hys⟩ : ∃ ys : List Int, ys = List.replicate zs.length 0 := ⟨_, rfl⟩
  have hyl : Hid (zs.length = ys.length) := by unfold Hid; rw [hys]; simp
  have hrep2 : Hid (List.replicate zs.length (Value.int .u8 0) = u8s ys) := by unfold Hid; rw [hys]; simp [u8s]
  clear hys
  go_enter Try.func16, Try.ntmps16
  go_wp2_with (at_make; refine wpList_makeN rfl _ _ 22 rfl 5 i0 (.int .u8 0) 1 1 Try.underlying22 hi hz0 hz1 hz2 rfl _ _ zs.length rfl rfl (by omega) (by omega) ?_)
  intro w1 hO hL
  rw [hrep2.out] at hO
  go_wp2_with fail
  go_loopw [4] (fun i wr => ∃ k : Nat, k ≤ zs.length ∧ i = .int .i64 k ∧ wr.ownsRow w.heap.size 5 1 (.slice (some ⟨w.heap.size, 0, none⟩) zs.length zs.length) zs.length (u8s (upto zs ys k)) ∧ Below w.heap.size w wr) (fun i _ => zs.length - (intOf i).toNat)
  case atStart => exact ⟨0, Nat.zero_le _, rfl, by rw [upto_zero]; exact hO, hL⟩
  case round =>
    obtain ⟨k, hk, rfl, hOr, hLr⟩ := hrel
    by_cases hlt : k < zs.length
    · obtain ⟨b, off, rfl, hb, hcell⟩ := rd_at (hR.below hLr) hlt
      obtain ⟨g, hg, hg1, hg2, hc, hf⟩ := own_at hOr hlt
      cases hg
      rw [upto_get zs ys k hyl.out hlt] at hc
      have HS := Lib.hid (hOr.stored k (.int .u8 zs[k])).1
      rw [upto_succ zs ys k hyl.out hlt] at HS
      have hlt' : (k : Int) < (zs.length : Int) := by omega
      generalize ys[k] = y at *
      go_wp2_with fail
      go_roundw
      case rel => exact ⟨k + 1, by omega, by go_num, HS.out, bl_set hLr (Nat.le_refl _) _⟩
      case measure => simp [intOf]; omega
    · obtain rfl : k = zs.length := by omega
      rw [upto_all _ _ (by have := hyl.out; omega) hyl.out] at hOr
      have H := Lib.hid hOr
      clear hOr
      go_wp2_with fail
      go_ret
      exact ⟨⟨_, zs, rfl, rfl, hZ, Row.mk H.out⟩, hLr⟩

set_option maxHeartbeats 1000000 in
theorem eqByteS_any (A A' : Option Addr) (c c' : Nat) (zs : List Int) (w : World) (hR : Reads w w.heap.size 1 A zs.length (u8s zs)) (hR' : Reads w w.heap.size 1 A' zs.length (u8s zs)) (hn : zs.length ≤ 1073741824) :
    Calls Try.prog 18 #[.slice A zs.length c, .slice A' zs.length c'] w fun e w' => e = .returned (.bool true) ∧ Below w.heap.size w w' := by
  have hn' : (zs.length : Int) ≤ 1073741824 := by omega
  go_enter Try.func18, Try.ntmps18
  go_wp2_with fail
  go_loopw [5] (fun i wr => ∃ k : Nat, k ≤ zs.length ∧ i = .int .i64 k ∧ Below w.heap.size w wr) (fun i _ => zs.length - (intOf i).toNat)
  case atStart => exact ⟨0, Nat.zero_le _, rfl, Below.refl _ _⟩
  case round =>
    obtain ⟨k, hk, rfl, hL⟩ := hrel
    by_cases hlt : k < zs.length
    · obtain ⟨b, off, rfl, hb, hcell⟩ := rd_at (hR.below hL) hlt
      obtain ⟨b', off', rfl, hb', hcell'⟩ := rd_at (hR'.below hL) hlt
      have hlt' : (k : Int) < (zs.length : Int) := by omega
      generalize zs[k] = z at *
      go_wp2_with fail
      go_quiet (fail)
      go_wp2_with fail
      go_roundw
      case rel => exact ⟨k + 1, by omega, by go_num, bl_drewN hL _⟩
      case measure => simp [intOf]; omega
    · obtain rfl : k = zs.length := by omega
      go_wp2_with fail
      go_ret
      exact ⟨rfl, hL⟩

theorem upto_marks_succ (zs : List Int) (k j : Nat) (hj : j < zs.length) : (u8s (upto (marks k zs.length) zs j)).set j (.int .u8 (((k + j) % 256 : Nat) : Int)) = u8s (upto (marks k zs.length) zs (j + 1)) := by
  have h := upto_succ (marks k zs.length) zs j (marks_len _ _) (by rw [marks_len]; exact hj)
  rw [marks_get k zs.length j hj] at h
  exact h

set_option maxHeartbeats 1000000 in
theorem markByteS_any (lo hi : Nat) (A : Option Addr) (c k : Nat) (zs : List Int) (w : World) (hO : Row w lo hi 5 1 (.slice A zs.length c) zs.length (u8s zs)) (hn : zs.length ≤ 1073741824) (hk : k ≤ 1073741824) :
    Calls Try.prog 26 #[.slice A zs.length c, .int .i64 k] w fun e w' => e = .returned (.int .i64 ((k : Int) + zs.length)) ∧ Row w' lo hi 5 1 (.slice A zs.length c) zs.length (u8s (marks k zs.length)) ∧ w.grownBy w' (Value.slice A zs.length c).ownBlock := by
  have hn' : (zs.length : Int) ≤ 1073741824 := by omega
  have hk' : (k : Int) ≤ 1073741824 := by omega
  go_enter Try.func26, Try.ntmps26
  go_wp2_with fail
  go_loopw [1, 5] (fun kv i wr => ∃ j : Nat, j ≤ zs.length ∧ i = .int .i64 j ∧ kv = .int .i64 ((k : Int) + j) ∧ Row wr lo hi 5 1 (.slice A zs.length c) zs.length (u8s (upto (marks k zs.length) zs j)) ∧ w.grownBy wr (Value.slice A zs.length c).ownBlock) (fun _ i _ => zs.length - (intOf i).toNat)
  case atStart => exact ⟨0, Nat.zero_le _, rfl, by simp, by rw [upto_zero]; exact hO, gr_refl _ _⟩
  case round =>
    obtain ⟨j, hj, rfl, rfl, hOr, hG⟩ := hrel
    by_cases hlt : j < zs.length
    · obtain ⟨g, rfl, hg1, hg2, hc, hf⟩ := own_at hOr.1 hlt
      rw [upto_get _ _ j (marks_len _ _) (by rw [marks_len]; exact hlt)] at hc
      have HS := Lib.hid (hOr.1.stored j (.int .u8 (((k + j) % 256 : Nat) : Int))).1
      rw [upto_marks_succ zs k j hlt] at HS
      have hlt' : (j : Int) < (zs.length : Int) := by omega
      generalize zs[j] = y at *
      go_wp2_with fail
      go_roundw
      case rel =>
        refine ⟨j + 1, by omega, by go_num, by go_num, ⟨?_, hOr.2⟩, gr_set (g := g) (p := ⟨g, j, none⟩) hG (.inl rfl) _⟩
        have h := HS.out
        have e : (((k + j) % 256 : Nat) : Int) = ((k : Int) + j) % 256 := by omega
        rw [e] at h
        exact h
      case measure => simp [intOf]; omega
    · obtain rfl : j = zs.length := by omega
      have e : upto (marks k zs.length) zs zs.length = marks k zs.length := by
        have := upto_all (marks k zs.length) zs (by rw [marks_len]; omega) (marks_len _ _)
        rw [marks_len] at this
        exact this
      rw [e] at hOr
      have H := Lib.hid hOr
      clear hOr e
      go_wp2_with fail
      go_ret
      exact ⟨rfl, H.out, hG⟩

set_option maxHeartbeats 1000000 in
theorem heldByteS_any (A : Option Addr) (c k n : Nat) (w : World) (hR : Reads w w.heap.size 1 A n (u8s (marks k n))) (hn : n ≤ 1073741824) (hk : k ≤ 1073741824) :
    Calls Try.prog 27 #[.slice A n c, .int .i64 k] w fun e w' => e = .returned (.int .i64 ((k : Int) + n)) ∧ Below w.heap.size w w' := by
  have hn' : (n : Int) ≤ 1073741824 := by omega
  have hk' : (k : Int) ≤ 1073741824 := by omega
  go_enter Try.func27, Try.ntmps27
  go_wp2_with fail
  go_loopw [1, 5] (fun kv i wr => ∃ j : Nat, j ≤ n ∧ i = .int .i64 j ∧ kv = .int .i64 ((k : Int) + j) ∧ Below w.heap.size w wr) (fun _ i _ => n - (intOf i).toNat)
  case atStart => exact ⟨0, Nat.zero_le _, rfl, by simp, Below.refl _ _⟩
  case round =>
    obtain ⟨j, hj, rfl, rfl, hL⟩ := hrel
    by_cases hlt : j < n
    · have hR2 := hR.below hL
      have hml := marks_len k n
      rw [← hml] at hR2
      obtain ⟨b, off, rfl, hb, hcell⟩ := rd_at (zs := marks k n) (by simpa [hml] using hR2) (k := j) (by rw [hml]; exact hlt)
      rw [marks_get k n j hlt] at hcell
      have e : (((k + j) % 256 : Nat) : Int) = ((k : Int) + j) % 256 := by omega
      rw [e] at hcell
      have hlt' : (j : Int) < (n : Int) := by omega
      clear hml hR2 e
      go_wp2_with fail
      go_roundw
      case rel => exact ⟨j + 1, by omega, by go_num, by go_num, hL⟩
      case measure => simp [intOf]; omega
    · obtain rfl : j = n := by omega
      go_wp2_with fail
      go_ret
      exact ⟨rfl, hL⟩

end Go.Proofs.Ytkahlckjedaolaa
