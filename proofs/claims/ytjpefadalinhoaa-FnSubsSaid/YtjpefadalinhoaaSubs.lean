/- FnSubs: a part of a drawn text is one that stands in it; a text cut in two is both parts. No condition. -/
import Derived.Test.YtjpefadalinhoaaLiftS
import Derived.Test.YtjpefadalinhoaaOpenB
import Derived.Test.YtjpefadalinhoaaDrawP
import Derived.Test.YtjpefadalinhoaaDrawM
import Derived.Test.YtjpefadalinhoaaIndexI
import Derived.Test.YtjpefadalinhoaaText1
import Derived.Test.YtjpefadalinhoaaUpperI
import Derived.Lib.SmallJoins
namespace Go.Proofs.Ytjpefadalinhoaa
open Go.ChangeShapes Go.WideShapes Go.ChangeAt Go.RowKit
open Go.ChangeMaps (open_string shut_string)

/-- A text and two numbers. -/
def RetSII (R : ByteArray → Prop) (e : Ending) : Prop := ∃ (s : ByteArray) (x y : Int), e = .returned (.tuple #[.string s, .int .i64 x, .int .i64 y]) ∧ R s
set_option maxHeartbeats 2000000 in
theorem dSub (A : Option Addr) (n c : Nat) (zs : List Int) (w : World) (hR : Reads w w.heap.size 1 A n (u8s zs)) (hZ : Byt zs) (hn : n ≤ 1048576) :
    Calls Try.prog 32 #[.slice A n c] w fun e w' => RetSII (fun s => s.size ≤ 6) e ∧ Below w.heap.size w w' := by
  go_enter Try.func32, Try.ntmps32
  go_wp2_with fail
  refine (dNew w.heap.size n c A zs w hR hZ (Nat.le_refl _) hn).mono ?_; rintro e w1 ⟨g, rfl, hc1, hg, b1⟩
  go_wp2_with fail
  refine (dText w.heap.size g _ hc1).mono ?_; rintro e w2 ⟨⟨s, rfl, hs⟩, hc2, g2⟩
  go_wp2_with fail
  refine (dNum w.heap.size g _ hc2).mono ?_; rintro e w3 ⟨⟨x1, rfl, _⟩, hc3, g3⟩
  go_wp2_with fail
  refine (dInt w.heap.size g w3.heap.size 6 [1, 2, 0, -1, 7, x1] _ (hc3.alloc _) rfl (by omega) (by omega) (Blk.new w3 _ _) (by have := hc3.lt; omega)).mono ?_; rintro e w4 ⟨⟨x, rfl, _⟩, hc4, g4⟩
  go_wp2_with fail
  refine (dNum w.heap.size g _ hc4).mono ?_; rintro e w5 ⟨⟨y1, rfl, _⟩, hc5, g5⟩
  go_wp2_with fail
  refine (dInt w.heap.size g w5.heap.size 6 [1, 2, 0, -1, 9, y1] _ (hc5.alloc _) rfl (by omega) (by omega) (Blk.new w5 _ _) (by have := hc5.lt; omega)).mono ?_; rintro e w6 ⟨⟨y, rfl, _⟩, hc6, g6⟩
  go_wp2_with fail
  go_ret3
  have hr : ∀ k, some g = some k → w.heap.size ≤ k := fun k e => by cases e; exact hg
  exact ⟨⟨s, x, y, rfl, hs⟩, bl_gr (bl_gr (bl_gr (bl_gr (bl_gr b1 g2 hr) g3 hr) (gr_trans (gr_alloc (gr_refl w3 (some g)) _) g4) hr) g5 hr) (gr_trans (gr_alloc (gr_refl w5 (some g)) _) g6) hr⟩

set_option maxHeartbeats 400000 in
theorem at_any (A : Option Addr) (c : Nat) (zs : List Int) (w : World) (hR : Reads w w.heap.size 1 A zs.length (u8s zs)) (hZ : Byt zs) (hn : zs.length ≤ 1048576) :
    Calls Try.prog 33 #[.slice A zs.length c, .int .i64 2] w fun e w' => RetInt (fun z => 0 ≤ z ∧ z < 256) e ∧ w' = w := by
  by_cases hlt : (2 : Int) < zs.length
  · have h2 : 2 < zs.length := by omega
    obtain ⟨b, off, rfl, hb, hcell⟩ := rd_at hR h2
    have hz := hZ _ (List.getElem_mem h2)
    generalize zs[2] = z at *
    go_enter Try.func33, Try.ntmps33
    go_wp2_with fail
    go_ret
    exact ⟨⟨z, rfl, hz⟩, rfl⟩
  · go_enter Try.func33, Try.ntmps33
    go_wp2_with fail
    go_ret
    exact ⟨⟨_, rfl, by omega, by omega⟩, rfl⟩

end Go.Proofs.Ytjpefadalinhoaa
