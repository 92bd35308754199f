/- Walk over the laws' markText. The number is at most 2 to the 30th. -/
import Derived.Test.YtnoekbgmhnhneaaByteP
import Derived.Test.YtnoekbgmhnhneaaConv
namespace Go.Proofs.Ytnoekbgmhnhneaa
open Go.RowKit

/-- What markText's loop builds. -/
def mtL : Nat → Nat → ByteArray → ByteArray
  | 0, _, acc => acc
  | f + 1, k, acc => if k = 0 then acc else mtL f (k / 10) (bStr [48 + ((k % 10 : Nat) : Int)] ++ acc)
/-- A mark's text. -/
def mtS (k : Nat) : ByteArray := if k = 0 then ⟨#[109, 48]⟩ else ⟨#[109]⟩ ++ mtL 20 k ⟨#[]⟩
theorem conv_in (W : World) (b : Nat) (z : Int) (h0 : 0 ≤ z) (h1 : z < 256) (hc : W.cell? ⟨b, 0, none⟩ = some (.int .u8 z)) : (convert 54 9 (.slice (some ⟨b, 0, none⟩) 1 1)).run Try.prog W = .ok (.string (bStr [z])) W := by
  have hR : Reads W (b + 1) 1 (some ⟨b, 0, none⟩) 1 (u8s [z]) := ⟨rfl, fun _ => ⟨_, _, rfl, by omega, fun j u hu => by
    cases j with
    | zero =>
      cases hu
      exact hc
    | succ j => cases hu⟩⟩
  exact conv_bytes hR rfl (fun x hx => by simp at hx; subst hx; exact ⟨h0, h1⟩)
theorem new_cell (w : World) (z : Int) : (w.alloc (.cells #[.int .u8 z] 5)).cell? ⟨w.heap.size, 0, none⟩ = some (.int .u8 z) := (Blk.new w 5 #[.int .u8 z]).cell 0

set_option maxRecDepth 20000 in
set_option maxHeartbeats 1000000 in
theorem markText_any (k : Nat) (w : World) (hk : k ≤ 1073741824) :
    Calls Try.prog 79 #[.int .i64 k] w fun e w' => e = .returned (.string (mtS k)) ∧ Below w.heap.size w w' := by
  unfold mtS
  by_cases h0 : k = 0
  · subst h0
    rw [if_pos rfl]
    go_enter Try.func79, Try.ntmps79
    go_wp2_with fail
    go_ret
    exact ⟨rfl, Below.refl _ _⟩
  · rw [if_neg h0]
    have hkp : (0 : Int) < k := by omega
    generalize hR : mtL 20 k ⟨#[]⟩ = R
    go_enter Try.func79, Try.ntmps79
    go_wp2_with fail
    go_loopw [0, 3] (fun kv sv wr => ∃ (f j : Nat) (a : ByteArray), kv = .int .i64 j ∧ sv = .string a ∧ j ≤ 1073741824 ∧ j < 10 ^ f ∧ a.size + f ≤ 20 ∧ mtL f j a = R ∧ Below w.heap.size w wr) (fun kv _ _ => (intOf kv).toNat)
    case atStart => exact ⟨20, k, _, rfl, rfl, hk, by omega, by simp [ByteArray.size], hR, Below.refl _ _⟩
    case round =>
      obtain ⟨f, j, a, rfl, rfl, hjm, hj, ha, hE, hL⟩ := hrel
      have H := Lib.hid hE
      clear hE
      by_cases hp : (0 : Int) < j
      · obtain ⟨f, rfl⟩ : ∃ f', f = f' + 1 := by
          cases f with
          | zero => simp at hj; omega
          | succ f => exact ⟨f, rfl⟩
        have K := conv_in (wr.alloc (.cells #[.int .u8 (48 + (j : Int) % 10)] 5)) wr.heap.size (48 + (j : Int) % 10) (by omega) (by omega) (new_cell wr _)
        have hz : (bStr [48 + (j : Int) % 10]).size = 1 := rfl
        have hzz : (bStr [48 + (j : Int) % 10] ++ a).size = 1 + a.size := by rw [ByteArray.size_append, hz]
        have H2 : Hid (mtL f (j / 10) (bStr [48 + (j : Int) % 10] ++ a) = R) := by
          have := H.out
          unfold mtL at this
          rw [if_neg (by omega)] at this
          exact this
        have HZ := Lib.hid hzz
        clear H hzz
        generalize bStr [48 + (j : Int) % 10] = q at K hz H2 HZ
        go_wp2_with fail
        go_roundw
        case rel => exact ⟨f, j / 10, q ++ a, by first | rfl | (congr 1; omega), rfl, by omega, by rw [Nat.pow_succ] at hj; omega, by rw [HZ.out]; omega, H2.out, bl_alloc hL _⟩
        case measure => simp [intOf]; omega
      · obtain rfl : j = 0 := by omega
        have hr : a = R := by
          have := H.out
          cases f with
          | zero => exact this
          | succ f => unfold mtL at this; rw [if_pos rfl] at this; exact this
        subst hr
        have hm : ((⟨#[109]⟩ : ByteArray)).size = 1 := rfl
        clear H
        go_wp2_with fail
        go_ret
        exact ⟨rfl, hL⟩

end Go.Proofs.Ytnoekbgmhnhneaa
