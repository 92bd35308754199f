/- Walks over the program's takes and join; slices.Clone of yes and no. -/
import Derived.Test.YtnoekbgmhnhneaaEndsY
import Derived.Test.YtnoekbgmhnhneaaEndsM
import Derived.Test.YtnoekbgmhnhneaaShelfB
import Derived.Test.YtnoekbgmhnhneaaShelfC
import Derived.Lib.Bytealg
import Derived.Lib.IndexAny
import Derived.BigGuard
import Derived.ChangeKeysEq
namespace Go.Proofs.Ytnoekbgmhnhneaa
open Go.RowKit

theorem takes_ix {zk : Int} (h : zk = 1 ∨ zk = 3) (zs : ByteArray) (c : Int) : takeB zk zs c = decide (0 ≤ Lib.indexByte zs.data.toList c.toNat.toUInt8) := by
  have e : takeB zk zs c = zs.data.toList.contains c.toNat.toUInt8 := by
    unfold takeB hasB
    rcases h with rfl | rfl <;> rfl
  rw [e]
  have hi := Lib.contains_iff_indexByte zs.data.toList c.toNat.toUInt8
  generalize Lib.indexByte zs.data.toList c.toNat.toUInt8 = x at hi ⊢
  generalize zs.data.toList.contains c.toNat.toUInt8 = b at hi ⊢
  cases b <;> simp_all
set_option maxHeartbeats 1000000 in
theorem iTakes (zk : Int) (zs : ByteArray) (v : Value) (c : Int) (w : World) (hk : zk = 1 ∨ zk = 2 ∨ zk = 3) :
    Calls Try.prog 132 #[.agg #[.int .i64 zk, .string zs, v], .int .u8 c] w fun e w' => e = .returned (.bool (takeB zk zs c)) ∧ Below w.heap.size w w' := by
  have L0 := bl_alloc (Below.refl w.heap.size w) (.cells #[.int .i64 zk, .string zs, v] 45)
  rcases hk with rfl | rfl | rfl
  case inr.inl =>
    rw [show takeB 2 zs c = true from rfl]
    go_enter Try.func132, Try.ntmps132
    go_wp2_with fail
    go_ret
    exact ⟨rfl, L0⟩
  case' inl => rw [takes_ix (.inl rfl)]
  case' inr.inr => rw [takes_ix (.inr rfl)]
  all_goals
    have C := Try.strings_IndexByte zs c (w.alloc (.cells #[.int .i64 1, .string zs, v] 45))
    have C3 := Try.strings_IndexByte zs c (w.alloc (.cells #[.int .i64 3, .string zs, v] 45))
    generalize Lib.indexByte zs.data.toList c.toNat.toUInt8 = x at C C3 ⊢
    have CC := Lib.hid C
    have CC3 := Lib.hid C3
    clear C C3
    go_enter Try.func132, Try.ntmps132
    go_wp2_with fail
    first
      | (refine CC.out.mono ?_; rintro e w1 ⟨rfl, rfl⟩)
      | (refine CC3.out.mono ?_; rintro e w1 ⟨rfl, rfl⟩)
    go_wp2_with fail
    go_ret
    exact ⟨rfl, L0⟩

set_option maxRecDepth 20000 in
set_option maxHeartbeats 2000000 in
theorem iJoin (m b c bm om c2 lo hi : Nat) (V W : Nat → Bool) (w : World) (hm : m ≤ 1048577) (hV0 : Vec w lo hi (.slice (some ⟨b, 0, none⟩) m c) m V) (hne : bm ≠ b) (hW0 : ∀ j, j < m → w.cell? ⟨bm, om + j, none⟩ = some (.bool (W j))) :
    Calls Try.prog 134 #[.slice (some ⟨b, 0, none⟩) m c, .slice (some ⟨bm, om, none⟩) m c2] w fun e w' => (∃ g V', e = .returned (.bool g) ∧ Vec w' lo hi (.slice (some ⟨b, 0, none⟩) m c) m V' ∧ JoinI V W V' m g) ∧ Below lo w w' := by
  have hmm : (m : Int) ≤ 1048577 := by omega
  go_enter Try.func134, Try.ntmps134
  go_wp2_with fail
  go_loopw [5, 10] (fun gv i wr => ∃ (k : Nat) (g : Bool) (V' : Nat → Bool), k ≤ m ∧ i = .int .i64 k ∧ gv = .bool g ∧ Vec wr lo hi (.slice (some ⟨b, 0, none⟩) m c) m V' ∧ JoinI V W V' k g ∧ (∀ j, j < m → wr.cell? ⟨bm, om + j, none⟩ = some (.bool (W j))) ∧ Below lo w wr) (fun _ i _ => m - (intOf i).toNat)
  case atStart => exact ⟨0, false, V, Nat.zero_le _, rfl, rfl, hV0, JoinI.zero _ _, hW0, Below.refl _ _⟩
  case round =>
    obtain ⟨k, g, V1, hk, rfl, rfl, hV, hJ, hW, hL⟩ := hrel
    by_cases hlt : k < m
    · have hlt' : (k : Int) < (m : Int) := by omega
      have p1 := hW k hlt
      have p2 := hV.cell hlt
      have p3 := hV.frozen k
      have hlo := (hV.1.lt b rfl).1
      cases hw : W k
      · rw [hw] at p1
        have HJ := Lib.hid (hJ.skip (.inl hw))
        have HW := Lib.hid hW
        clear hw hJ hW p2
        go_wp2_with fail
        go_roundw
        case rel => exact ⟨k + 1, g, V1, by omega, by go_num, rfl, hV, HJ.out, HW.out, hL⟩
        case measure => (simp [intOf] <;> omega)
      · rw [hw] at p1
        cases hv : V1 k
        · rw [hv] at p2
          have HJ := Lib.hid (hJ.put hw hv)
          have HV := Lib.hid (hV.set (k := k) true)
          have HW := Lib.hid (show ∀ j, j < m → (wr.setCell ⟨b, k, none⟩ (.bool true)).cell? ⟨bm, om + j, none⟩ = some (.bool (W j)) from fun j hj => by rw [World.cell?_setCell_other _ _ _ _ (fun e => hne (congrArg Addr.block e).symm)]; exact hW j hj)
          have hSL := bl_setb (b := b) (j := k) hL hlo (.bool true)
          clear hw hv hJ hW hV
          go_wp2_with fail
          go_roundw
          case rel => exact ⟨k + 1, true, _, by omega, by go_num, rfl, HV.out, HJ.out, HW.out, hSL⟩
          case measure => (simp [intOf] <;> omega)
        · rw [hv] at p2
          have HJ := Lib.hid (hJ.skip (.inr hv))
          have HW := Lib.hid hW
          clear hw hv hJ hW
          go_wp2_with fail
          go_roundw
          case rel => exact ⟨k + 1, g, V1, by omega, by go_num, rfl, hV, HJ.out, HW.out, hL⟩
          case measure => (simp [intOf] <;> omega)
    · obtain rfl : k = m := by omega
      have HJ := Lib.hid hJ
      clear hJ
      go_wp2_with fail
      go_ret
      exact ⟨⟨g, V1, rfl, hV, HJ.out⟩, hL⟩

set_option maxRecDepth 20000 in
theorem iClone (A : Option Addr) (m c : Nat) (V : Nat → Bool) (w : World) (hm0 : 0 < m) (hm : m ≤ 1048577) (hR : VecR w w.heap.size A m V) :
    Calls Try.prog 133 #[.slice A m c] w fun e w' => RetV m V w e w' ∧ Below w.heap.size w w' := by
  obtain ⟨i0, hi, hz0, hz1, hz2⟩ := info_parts info_bool
  obtain ⟨b, off, rfl, _, hc⟩ := hR.at_ hm0
  refine (Try.slices_Clone i0 (.bool false) 1 1 hi hz0 hz1 hz2 rfl (by decide) (fun w => by rw [run_sizeOf w hi]; rfl) b off m c (bools V m) w (by rw [bools_len, Nat.mul_one]) (by unfold maxLen; omega) (by omega) (fun j u hu => ?_) (fun u hu => ?_)).mono ?_
  · rcases Nat.lt_or_ge j m with h | h
    · rw [bools_get V h] at hu
      rw [hc j h]
      exact hu
    · rw [List.getElem?_eq_none (by rw [bools_len]; exact h)] at hu
      cases hu
  · unfold bools at hu
    obtain ⟨j, _, rfl⟩ := List.mem_map.1 hu
    rfl
  · rintro e w' ⟨v, rfl, hO, _, hL⟩
    exact ⟨⟨v, rfl, Row.mk hO⟩, hL⟩

end Go.Proofs.Ytnoekbgmhnhneaa
