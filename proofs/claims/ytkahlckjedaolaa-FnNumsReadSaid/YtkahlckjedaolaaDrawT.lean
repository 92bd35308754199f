/- Walks over DrawPutText of the reference, and over the laws' sameBytes at bytes that are the same. -/
import Derived.Test.YtkahlckjedaolaaDrawN
import Derived.Test.YtkahlckjedaolaaNumBack
import Derived.Deep.RegionWith
namespace Go.Proofs.Ytkahlckjedaolaa
open Go.RowKit

/-- Bytes of the call's own, and a text. -/
def RetBT (R : List Int → ByteArray → Prop) (w : World) (e : Ending) (w' : World) : Prop := ∃ (v : Value) (zs : List Int) (s : ByteArray), e = .returned (.tuple #[v, .string s]) ∧ R zs s ∧ Byt zs ∧ Row w' w.heap.size w'.heap.size 5 1 v zs.length (u8s zs)
theorem bStr_size (zs : List Int) : (bStr zs).size = zs.length := by unfold bStr; simp [ByteArray.size]
set_option maxHeartbeats 1000000 in
theorem dPutText (A : Option Addr) (n c : Nat) (zs : List Int) (w : World) (hR : Reads w w.heap.size 1 A n (u8s zs)) (hZ : Byt zs) (hn : n ≤ 1048576) :
    Calls Try.prog 47 #[.slice A n c] w fun e w' => RetBT (fun ys s => ys.length ≤ 9 ∧ s.size ≤ 9) w e w' ∧ Below w.heap.size w w' := by
  go_enter Try.func47, Try.ntmps47
  go_wp2_with fail
  refine (dNew w.heap.size n c A zs w hR hZ (Nat.le_refl _) hn).mono ?_; rintro e w1 ⟨g, rfl, hc1, hg, b1⟩
  have l1 := hc1.lt
  have s1 := b1.size
  go_wp2_with fail
  go_region_with (first | (go_at_call 52; refine (dSome w.heap.size g _ (show Cur _ w1.drew g from hc1)).mono ?_; rintro e wa ⟨⟨va, ya, rfl, hla, hYa, Oa⟩, hca, ga⟩; have sza := ga.size; have lta := hca.lt; obtain ⟨Aa, ca, rfl⟩ := Oa.form; replace ga : w1.grownBy wa (some g) := ⟨ga.os, ga.tape, ga.output, ga.size, ga.block⟩; replace Oa := Oa.more (Nat.le_of_eq (show w1.heap.size = w1.drew.heap.size from rfl)) (Nat.le_refl _); have Ka := conv_bytes (c := ca) Oa.reads rfl hYa) | (go_at_call 52; refine (dSome w.heap.size g _ hca).mono ?_; rintro e wb ⟨⟨vb, yb, rfl, hlb, hYb, Ob⟩, hcb, gb⟩; have szb := gb.size; have ltb := hcb.lt; obtain ⟨Ab, cb, rfl⟩ := Ob.form; have Oa2 := Oa.far gb (fun k e => by cases e; exact .inl l1); have Kc := conv_bytes (c := ca) Oa2.reads rfl hYa; have Kb := conv_bytes (c := cb) Ob.reads rfl hYb))
  all_goals (go_wp2_with fail)
  all_goals go_ret2
  all_goals first
    | exact ⟨⟨_, ya, bStr yb, rfl, ⟨hla, by rw [bStr_size]; exact hlb⟩, hYa, Oa2.more (by omega) szb⟩, bl_gr (bl_gr b1 ga (fun k e => by cases e; exact hg)) gb (fun k e => by cases e; exact hg)⟩
    | exact ⟨⟨_, yb, bStr ya, rfl, ⟨hlb, by rw [bStr_size]; exact hla⟩, hYb, Ob.more (by omega) (Nat.le_refl _)⟩, bl_gr (bl_gr b1 ga (fun k e => by cases e; exact hg)) gb (fun k e => by cases e; exact hg)⟩

set_option maxHeartbeats 1000000 in
theorem sameB_eq (A A' : Option Addr) (n n' c c' : Nat) (zs : List Int) (w : World) (hR : Reads w w.heap.size 1 A n (u8s zs)) (hR' : Reads w w.heap.size 1 A' n' (u8s zs)) (hl : zs.length = n) (hl' : zs.length = n') (hn : n ≤ 1073741824) :
    Calls Try.prog 48 #[.slice A n c, .slice A' n' c'] w fun e w' => e = .returned (.bool true) ∧ Below w.heap.size w w' := by
  subst hl hl'
  have hn' : (zs.length : Int) ≤ 1073741824 := by omega
  go_enter Try.func48, Try.ntmps48
  go_wp2_with fail
  go_loopw [5] (fun i wr => ∃ k : Nat, k ≤ zs.length ∧ i = .int .i64 k ∧ Below w.heap.size w wr) (fun i _ => zs.length - (intOf i).toNat)
  case atStart => exact ⟨0, Nat.zero_le _, rfl, Below.refl _ _⟩
  case round =>
    obtain ⟨k, hk, rfl, hL⟩ := hrel
    by_cases hlt : k < zs.length
    · obtain ⟨b, off, rfl, hb, hcell⟩ := rd_at (hR.below hL) hlt
      obtain ⟨b', off', rfl, hb', hcell'⟩ := rd_at (hR'.below hL) hlt
      have hlt' : (k : Int) < (zs.length : Int) := by omega
      generalize zs[k] = z at *
      go_wp2_with fail
      go_quiet (fail)
      go_wp2_with fail
      go_roundw
      case rel => exact ⟨k + 1, by omega, by go_num, bl_drewN hL _⟩
      case measure => simp [intOf]; omega
    · obtain rfl : k = zs.length := by omega
      go_wp2_with fail
      go_ret
      exact ⟨rfl, hL⟩

end Go.Proofs.Ytkahlckjedaolaa
