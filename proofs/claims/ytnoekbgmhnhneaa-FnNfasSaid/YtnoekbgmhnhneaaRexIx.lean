/- Walks over the program's search for an element of a kind: slices.ContainsFunc of rexParts. -/
import Derived.Test.YtnoekbgmhnhneaaQ1
namespace Go.Proofs.Ytnoekbgmhnhneaa
open Go.RowKit

theorem hasK_yes {k : Int} {x : Fr (Int × ByteArray)} {i : Nat} {a : (Int × ByteArray)} {t : Fr (Int × ByteArray)} (h : x.drop i = .cons a t (x.drop (i + 1))) (hn : (a.1 == k) = true) : hasK k (x.drop i) = true := by rw [h, hasK, hn, Bool.true_or]
theorem hasK_no {k : Int} {x : Fr (Int × ByteArray)} {i : Nat} {a : (Int × ByteArray)} {t : Fr (Int × ByteArray)} (h : x.drop i = .cons a t (x.drop (i + 1))) (hn : (a.1 == k) = false) : hasK k (x.drop i) = hasK k (x.drop (i + 1)) := by rw [h, hasK, hn, Bool.false_or]
set_option maxHeartbeats 400000 in
theorem iClos (g : Nat) (k0 : Int) (s0 : ByteArray) (v0 : Value) (k : Int) (s : ByteArray) (v : Value) (w : World) (hg : Blk w g 45 #[.int .i64 k0, .string s0, v0]) :
    Calls Try.prog 102 #[.agg #[.int .i64 k, .string s, v], .pointer (some ⟨g, 0, none⟩)] w fun e w' => e = .returned (.bool (k == k0)) ∧ Below w.heap.size w w' := by
  have hc := (hg.alloc (.cells #[.int .i64 k, .string s, v] 45)).cell
  go_enter Try.func102, Try.ntmps102
  go_wp2_with fail
  go_ret
  exact ⟨rfl, by repeat (first | exact Below.refl _ _ | refine bl_drewN ?_ _ | refine Below.drew ?_ | refine bl_alloc ?_ _ | refine bl_set ?_ (by simp) _ | refine bl_trans ?_ (by assumption))⟩
set_option maxHeartbeats 1000000 in
theorem iIndexK (g : Nat) (k0 : Int) (s0 : ByteArray) (v0 : Value) (x : Fr (Int × ByteArray)) (A : Option Addr) (c : Nat) (w : World) (hl : x.size ≤ 4194304) (hg : Blk w g 45 #[.int .i64 k0, .string s0, v0]) (hS : Sl rexC w 0 w.heap.size A x) :
    Calls Try.prog 125 #[.slice A x.len c, .func (.func 102) #[] #[.pointer (some ⟨g, 0, none⟩)]] w fun e w' => RetInt (fun z => decide (0 ≤ z) = hasK k0 x) e ∧ Below w.heap.size w w' := by
  have hlen := x.len_size
  obtain ⟨R, hR⟩ : ∃ R, hasK k0 x = R := ⟨_, rfl⟩
  rw [hR]
  have HR := Lib.hid hR
  clear hR
  go_enter Try.func125, Try.ntmps125
  go_wp2_with fail
  go_loopw [8] (fun i wr => ∃ k : Nat, k ≤ x.len ∧ i = .int .i64 k ∧ hasK k0 (x.drop k) = R ∧ Blk wr g 45 #[.int .i64 k0, .string s0, v0] ∧ Below w.heap.size w wr) (fun i _ => x.len - (intOf i).toNat)
  case atStart => exact ⟨0, Nat.zero_le _, rfl, by rw [Fr.drop_zero]; exact HR.out, hg, Below.refl _ _⟩
  case round =>
    obtain ⟨k, hk, rfl, hE, hB, hL⟩ := hrel
    by_cases hlt : k < x.len
    · obtain ⟨b, o, a, k1, A1, c1, rfl, hb, hd, hks, hSk, q0, q1, q2⟩ := at_Rex (hS.below hL (Nat.le_refl _)) hlt
      obtain ⟨yk, ys⟩ := a
      simp only at q0 q1
      have hlt' : (k : Int) < (x.len : Int) := by omega
      have cC := iClos g k0 s0 v0 yk ys (.slice A1 k1.len c1) wr hB
      cases hs : (yk == k0)
      · have HE := Lib.hid ((hasK_no hd hs).symm.trans hE)
        rw [hs] at cC
        have CC := Lib.hid cC
        clear hd hE cC HR
        go_wp2_with fail
        refine CC.out.mono ?_; rintro e w1 ⟨rfl, b1⟩
        go_wp2_with fail
        go_roundw
        case rel => exact ⟨k + 1, by omega, by go_num, HE.out, hB.keep b1, bl_trans hL b1⟩
        case measure => simp [intOf]; omega
      · rw [hasK_yes hd hs] at hE
        subst hE
        rw [hs] at cC
        have CC := Lib.hid cC
        clear hd cC HR
        go_wp2_with fail
        refine CC.out.mono ?_; rintro e w1 ⟨rfl, b1⟩
        go_wp2_with fail
        go_ret
        exact ⟨⟨k, rfl, by simp⟩, bl_trans hL b1⟩
    · obtain rfl : k = x.len := by omega
      rw [Fr.drop_all] at hE
      have hRf : false = R := hE
      subst hRf
      clear HR hE
      go_wp2_with fail
      go_ret
      exact ⟨⟨-1, rfl, rfl⟩, hL⟩
set_option maxHeartbeats 1000000 in
theorem iHasK (g : Nat) (k0 : Int) (s0 : ByteArray) (v0 : Value) (x : Fr (Int × ByteArray)) (A : Option Addr) (c : Nat) (w : World) (hl : x.size ≤ 4194304) (hg : Blk w g 45 #[.int .i64 k0, .string s0, v0]) (hS : Sl rexC w 0 w.heap.size A x) :
    Calls Try.prog 101 #[.slice A x.len c, .func (.func 102) #[] #[.pointer (some ⟨g, 0, none⟩)]] w fun e w' => e = .returned (.bool (hasK k0 x)) ∧ Below w.heap.size w w' := by
  have C := Lib.hid (iIndexK g k0 s0 v0 x A c w hl hg hS)
  generalize hasK k0 x = R at C ⊢
  go_enter Try.func101, Try.ntmps101
  go_wp2_with fail
  refine C.out.mono ?_; rintro e w1 ⟨⟨z, rfl, hz⟩, b1⟩
  have HZ := Lib.hid hz
  clear hz
  go_wp2_with fail
  go_ret
  exact ⟨ret_bool HZ.out, b1⟩

end Go.Proofs.Ytnoekbgmhnhneaa
