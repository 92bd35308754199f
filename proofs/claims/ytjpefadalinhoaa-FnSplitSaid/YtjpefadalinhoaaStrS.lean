/- Walks over the laws' helpers on lists of texts: toStringS, eqStringS, szStringS. Lengths are at most 2 to the 30th in these contracts. -/
import Derived.Test.YtjpefadalinhoaaByteP
namespace Go.Proofs.Ytjpefadalinhoaa
open Go.RowKit

def sVs (xs : List ByteArray) : List Value := xs.map Value.string
theorem info_str : (Try.prog.info? 9).map (fun i => (i.zero, i.size, i.bytes)) = some (some (.string ⟨#[]⟩), 1, 16) := by kernel_rfl
/-- It hands back new texts of which R holds. -/
def RetSs (R : List ByteArray → Prop) (w : World) (e : Ending) (w' : World) : Prop := ∃ (v : Value) (zs : List ByteArray), e = .returned v ∧ R zs ∧ Row w' w.heap.size w'.heap.size 9 1 v zs.length (sVs zs)
theorem sVs_len (zs : List ByteArray) : (sVs zs).length = zs.length := by simp [sVs]
theorem sVs_get (zs : List ByteArray) (k : Nat) (hk : k < zs.length) : (sVs zs)[k]? = some (.string zs[k]) := by simp [sVs, hk]
theorem rd_atS {w : World} {B : Nat} {A : Option Addr} {zs : List ByteArray} (h : Reads w B 1 A zs.length (sVs zs)) {k : Nat} (hk : k < zs.length) :
    ∃ b off, A = some ⟨b, off, none⟩ ∧ b < B ∧ w.cell? ⟨b, off + k, none⟩ = some (.string zs[k]) := by
  obtain ⟨b, off, u, e, hb, hu, hc⟩ := h.at_ hk
  rw [sVs_get zs k hk] at hu
  cases hu
  exact ⟨b, off, e, hb, hc⟩
/-- The first k of one, the rest of another. -/
def uptoS (zs ys : List ByteArray) (k : Nat) : List ByteArray := zs.take k ++ ys.drop k
theorem uptoS_zero (zs ys : List ByteArray) : uptoS zs ys 0 = ys := by simp [uptoS]
theorem uptoS_all (zs ys : List ByteArray) (h : ys.length ≤ zs.length) (_ : zs.length = ys.length) : uptoS zs ys zs.length = zs := by simp [uptoS, List.drop_eq_nil_of_le h]
theorem uptoS_len (zs ys : List ByteArray) (k : Nat) (h : zs.length = ys.length) (hk : k ≤ zs.length) : (uptoS zs ys k).length = ys.length := by simp [uptoS]; omega
theorem uptoS_succ (zs ys : List ByteArray) (k : Nat) (hl : zs.length = ys.length) (hk : k < zs.length) : (sVs (uptoS zs ys k)).set k (.string zs[k]) = sVs (uptoS zs ys (k + 1)) := by
  apply List.ext_getElem?
  intro j
  have hkl : k < (sVs (uptoS zs ys k)).length := by rw [sVs_len, uptoS_len _ _ _ hl (by omega)]; omega
  by_cases e : j = k
  · subst e
    rw [List.getElem?_set_self hkl]
    unfold sVs uptoS
    rw [List.getElem?_map, List.getElem?_append_left (by simp; omega), List.getElem?_take, if_pos (by omega), List.getElem?_eq_getElem hk]
    rfl
  · rw [List.getElem?_set_ne (by omega)]
    unfold sVs uptoS
    rw [List.getElem?_map, List.getElem?_map]
    congr 1
    by_cases l : j < k
    · rw [List.getElem?_append_left (by simp; omega), List.getElem?_append_left (by simp; omega), List.getElem?_take, List.getElem?_take, if_pos l, if_pos (by omega)]
    · rw [List.getElem?_append_right (by simp; omega), List.getElem?_append_right (by simp; omega), List.getElem?_drop, List.getElem?_drop]
      simp only [List.length_take]
      congr 1
      omega
theorem uptoS_get (zs ys : List ByteArray) (k : Nat) (h : zs.length = ys.length) (hk : k < zs.length) : (sVs (uptoS zs ys k))[k]? = some (.string (ys[k]'(by omega))) := by
  unfold sVs uptoS
  rw [List.getElem?_map, List.getElem?_append_right (by simp; omega), List.getElem?_drop]
  have e : k + (k - (List.take k zs).length) = k := by simp; omega
  rw [e, List.getElem?_eq_getElem (by omega)]
  rfl

set_option maxHeartbeats 1000000 in
theorem toStringS_any (A : Option Addr) (c : Nat) (zs : List ByteArray) (w : World) (hR : Reads w w.heap.size 1 A zs.length (sVs zs)) (hn : zs.length ≤ 1073741824) :
    Calls Try.prog 23 #[.slice A zs.length c] w fun e w' => RetSs (fun ys => zs = ys) w e w' ∧ Below w.heap.size w w' := by
  have hn' : (zs.length : Int) ≤ 1073741824 := by omega
  obtain ⟨i0, hi, hz0, hz1, hz2⟩ := info_parts info_str
  obtain ⟨ys, hys⟩ : ∃ ys : List ByteArray, ys = List.replicate zs.length ⟨#[]⟩ := ⟨_, rfl⟩
  have hyl : Hid (zs.length = ys.length) := by unfold Hid; rw [hys]; simp
  have hrep2 : Hid (List.replicate zs.length (Value.string ⟨#[]⟩) = sVs ys) := by unfold Hid; rw [hys]; simp [sVs]
  clear hys
  go_enter Try.func23, Try.ntmps23
  go_wp2_with (at_make; refine wpList_makeN rfl _ _ 23 rfl 9 i0 (.string ⟨#[]⟩) 1 16 Try.underlying23 hi hz0 hz1 hz2 rfl _ _ zs.length rfl rfl (by omega) (by omega) ?_)
  intro w1 hO hL
  rw [hrep2.out] at hO
  go_wp2_with fail
  go_loopw [4] (fun i wr => ∃ k : Nat, k ≤ zs.length ∧ i = .int .i64 k ∧ wr.ownsRow w.heap.size 9 1 (.slice (some ⟨w.heap.size, 0, none⟩) zs.length zs.length) zs.length (sVs (uptoS zs ys k)) ∧ Below w.heap.size w wr) (fun i _ => zs.length - (intOf i).toNat)
  case atStart => exact ⟨0, Nat.zero_le _, rfl, by rw [uptoS_zero]; exact hO, hL⟩
  case round =>
    obtain ⟨k, hk, rfl, hOr, hLr⟩ := hrel
    by_cases hlt : k < zs.length
    · obtain ⟨b, off, rfl, hb, hcell⟩ := rd_atS (hR.below hLr) hlt
      obtain ⟨g, hg, hg1, hg2, hc, hf⟩ := own_at hOr hlt
      cases hg
      rw [uptoS_get zs ys k hyl.out hlt] at hc
      have HS := Lib.hid (hOr.stored k (.string zs[k])).1
      rw [uptoS_succ zs ys k hyl.out hlt] at HS
      have hlt' : (k : Int) < (zs.length : Int) := by omega
      generalize ys[k] = y at *
      go_wp2_with fail
      go_roundw
      case rel => exact ⟨k + 1, by omega, by go_num, HS.out, bl_set hLr (Nat.le_refl _) _⟩
      case measure => simp [intOf]; omega
    · obtain rfl : k = zs.length := by omega
      rw [uptoS_all _ _ (by have := hyl.out; omega) hyl.out] at hOr
      have H := Lib.hid hOr
      clear hOr
      go_wp2_with fail
      go_ret
      exact ⟨⟨_, zs, rfl, rfl, Row.mk H.out⟩, hLr⟩

set_option maxHeartbeats 1000000 in
theorem eqStringS_any (A A' : Option Addr) (c c' : Nat) (zs : List ByteArray) (w : World) (hR : Reads w w.heap.size 1 A zs.length (sVs zs)) (hR' : Reads w w.heap.size 1 A' zs.length (sVs zs)) (hn : zs.length ≤ 1073741824) :
    Calls Try.prog 16 #[.slice A zs.length c, .slice A' zs.length c'] w fun e w' => e = .returned (.bool true) ∧ Below w.heap.size w w' := by
  have hn' : (zs.length : Int) ≤ 1073741824 := by omega
  go_enter Try.func16, Try.ntmps16
  go_wp2_with fail
  go_loopw [5] (fun i wr => ∃ k : Nat, k ≤ zs.length ∧ i = .int .i64 k ∧ Below w.heap.size w wr) (fun i _ => zs.length - (intOf i).toNat)
  case atStart => exact ⟨0, Nat.zero_le _, rfl, Below.refl _ _⟩
  case round =>
    obtain ⟨k, hk, rfl, hL⟩ := hrel
    by_cases hlt : k < zs.length
    · obtain ⟨b, off, rfl, hb, hcell⟩ := rd_atS (hR.below hL) hlt
      obtain ⟨b', off', rfl, hb', hcell'⟩ := rd_atS (hR'.below hL) hlt
      have hlt' : (k : Int) < (zs.length : Int) := by omega
      generalize zs[k] = z at *
      go_wp2_with fail
      go_quiet (fail)
      go_wp2_with fail
      go_roundw
      case rel => exact ⟨k + 1, by omega, by go_num, bl_drewN hL _⟩
      case measure => simp [intOf]; omega
    · obtain rfl : k = zs.length := by omega
      go_wp2_with fail
      go_ret
      exact ⟨rfl, hL⟩


/-- What is left behind the texts' sizes; -1: too little. -/
def szL : Int → List ByteArray → Int
  | left, [] => left
  | left, x :: r => if left - x.size < 0 then -1 else szL (left - x.size) r
def szS (left : Int) (xs : List ByteArray) : Int := if left - xs.length < 0 then -1 else szL (left - xs.length) xs
theorem szL_drop (xs : List ByteArray) (k : Nat) (left : Int) (hk : k < xs.length) : szL left (xs.drop k) = if left - xs[k].size < 0 then -1 else szL (left - xs[k].size) (xs.drop (k + 1)) := by
  rw [List.drop_eq_getElem_cons hk]
  rfl
def sumL (xs : List ByteArray) : Nat := (xs.map ByteArray.size).sum
theorem szL_sum : ∀ (xs : List ByteArray) (left : Int), ¬ szL left xs < 0 → (sumL xs : Int) ≤ left
  | [], left, h => by simp [sumL]; unfold szL at h; omega
  | x :: r, left, h => by
    unfold szL at h
    split at h
    · omega
    · have := szL_sum r _ h
      simp [sumL] at this ⊢
      omega
theorem szS_sum (xs : List ByteArray) (left : Int) (h : ¬ szS left xs < 0) : (xs.length : Int) + (sumL xs : Int) ≤ left := by
  unfold szS at h
  split at h
  · omega
  · have := szL_sum xs _ h
    omega
theorem sumL_drop (xs : List ByteArray) (k : Nat) (hk : k < xs.length) : sumL (xs.drop k) = xs[k].size + sumL (xs.drop (k + 1)) := by
  rw [List.drop_eq_getElem_cons hk]
  unfold sumL
  rw [List.map_cons, List.sum_cons]

set_option maxHeartbeats 1000000 in
theorem szStringS_any (A : Option Addr) (c : Nat) (left : Int) (zs : List ByteArray) (w : World) (hR : Reads w w.heap.size 1 A zs.length (sVs zs)) (hZ : ∀ z ∈ zs, z.size ≤ 9223372036854775807) (hn : zs.length ≤ 9223372036854775807) (h0 : 0 ≤ left) (h1 : left ≤ 1048576) :
    Calls Try.prog 21 #[.slice A zs.length c, .int .i64 left] w fun e w' => e = .returned (.int .i64 (szS left zs)) ∧ Below w.heap.size w w' := by
  by_cases hl : left - (zs.length : Int) < 0
  · have E : szS left zs = -1 := by unfold szS; rw [if_pos hl]
    rw [E]
    go_enter Try.func21, Try.ntmps21
    go_wp2_with fail
    go_ret
    exact ⟨rfl, Below.refl _ _⟩
  · have E : szL (left - zs.length) (zs.drop 0) = szS left zs := by unfold szS; rw [if_neg hl]; rfl
    generalize szS left zs = R at E ⊢
    have HE := Lib.hid E
    clear E
    go_enter Try.func21, Try.ntmps21
    go_wp2_with fail
    go_loopw [1, 5] (fun l i wr => ∃ (k : Nat) (y : Int), k ≤ zs.length ∧ i = .int .i64 k ∧ l = .int .i64 y ∧ 0 ≤ y ∧ y ≤ 1048576 ∧ szL y (zs.drop k) = R ∧ Below w.heap.size w wr) (fun _ i _ => zs.length - (intOf i).toNat)
    case atStart => exact ⟨0, _, Nat.zero_le _, rfl, rfl, by omega, by omega, HE.out, Below.refl _ _⟩
    case round =>
      obtain ⟨k, y, hk, rfl, rfl, hy0, hy1, hE, hL⟩ := hrel
      by_cases hlt : k < zs.length
      · obtain ⟨b, off, rfl, hb, hcell⟩ := rd_atS (hR.below hL) hlt
        have hz := hZ _ (List.getElem_mem hlt)
        have hlt' : (k : Int) < (zs.length : Int) := by omega
        rw [szL_drop zs k y hlt] at hE
        by_cases hs : y - (zs[k].size : Int) < 0
        · rw [if_pos hs] at hE
          subst hE
          clear HE
          generalize zs[k] = z at *
          go_wp2_with fail
          go_ret
          exact ⟨rfl, hL⟩
        · rw [if_neg hs] at hE
          have H := Lib.hid hE
          clear hE HE
          generalize zs[k] = z at *
          go_wp2_with fail
          go_roundw
          case rel => exact ⟨k + 1, _, by omega, by go_num, rfl, by omega, by omega, H.out, hL⟩
          case measure => simp [intOf]; omega
      · obtain rfl : k = zs.length := by omega
        rw [List.drop_length] at hE
        have hE' : y = R := hE
        subst hE'
        clear HE hE
        go_wp2_with fail
        go_ret
        exact ⟨rfl, hL⟩

end Go.Proofs.Ytjpefadalinhoaa
