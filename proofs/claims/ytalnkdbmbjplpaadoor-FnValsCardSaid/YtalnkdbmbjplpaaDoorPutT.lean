/- Walks over PutText, the program's and the reference's. Lengths are at most 2 to the 29th. -/
import Derived.Test.YtalnkdbmbjplpaaDoorNumU
import Derived.Lib.AppendStr
namespace Go.Proofs.YtalnkdbmbjplpaaDoor
open Go.RowKit

/-- The bytes of a text, as numbers. -/
def strI (s : ByteArray) : List Int := s.data.toList.map fun b => (b.toNat : Int)
theorem strI_len (s : ByteArray) : (strI s).length = s.size := by unfold strI; rw [List.length_map, Array.length_toList]; rfl
theorem strI_byt (s : ByteArray) : Byt (strI s) := by
  intro z hz
  obtain ⟨b, _, rfl⟩ := List.mem_map.1 hz
  have := b.toNat_lt
  omega
theorem strI_cells (s : ByteArray) : Lib.strCells s = u8s (strI s) := by unfold Lib.strCells u8s strI; rw [List.map_map]; rfl
theorem Byt.app {xs ys : List Int} (h : Byt xs) (k : Byt ys) : Byt (xs ++ ys) := fun z hz => (List.mem_append.1 hz).elim (h z) (k z)
theorem uB_len (n : Int) : (uB n).length ≤ 5 := by
  have : ∀ (f : Nat) (n : Int), (uBf f n).length ≤ f + 1 := by
    intro f
    induction f with
    | zero => intro n; simp [uBf]
    | succ f ih =>
      intro n
      rw [uBf]
      split
      · simp
      · have := ih (n / 128)
        simp; omega
  exact this 4 _

set_option maxHeartbeats 1000000 in
theorem iPutT (A : Option Addr) (c : Nat) (s : ByteArray) (zs : List Int) (w : World) (hR : Reads w w.heap.size 1 A zs.length (u8s zs)) (hZ : Byt zs) (hn : zs.length ≤ 536870912) (hs : s.size ≤ 536870912) :
    Calls Tryd.prog 22 #[.slice A zs.length c, .string s] w fun e w' => RetB (fun ys => zs ++ uB s.size ++ strI s = ys) w e w' ∧ Below w.heap.size w w' := by
  have hs' : (s.size : Int) ≤ 536870912 := by omega
  have hl : (zs ++ uB s.size).length ≤ 536870917 := by have := uB_len s.size; rw [List.length_append]; omega
  obtain ⟨i0, hi, hz0, hz1, hz2⟩ := info_parts info_u8
  have hC := iPutU A c s.size zs w hR hZ hn
  generalize zs ++ uB s.size = Y at *
  have HC := Lib.hid hC
  clear hC
  go_enter Tryd.func22, Tryd.ntmps22
  go_wp2_with fail
  refine (HC.out).mono ?_; rintro e w1 ⟨⟨v1, _, rfl, rfl, hY, O⟩, b1⟩
  have hpos := b1.size
  go_wp2_with (at_builtin; refine Lib.wpList_append_own_string _ rfl _ _ 22 9 rfl w.heap.size 5 i0 Tryd.underlying22 Tryd.underlying9 hi hz0 hz1 hz2 _ _ _ rfl O.1 s rfl (by unfold maxLen; omega) (by omega) hpos ?_)
  intro v2 w2 hO2 hg2 _
  go_wp2_with fail
  go_ret
  refine ⟨⟨v2, Y ++ strI s, rfl, rfl, hY.app (strI_byt s), Row.mk ?_⟩, b1.grown hg2 hpos (fun k hk => (O.1.lt k hk).1)⟩
  rw [← u8s_app, List.length_append, strI_len, ← strI_cells]
  exact hO2

set_option maxHeartbeats 1000000 in
theorem sPutT (A : Option Addr) (c : Nat) (s : ByteArray) (zs : List Int) (w : World) (hR : Reads w w.heap.size 1 A zs.length (u8s zs)) (hZ : Byt zs) (hn : zs.length ≤ 536870912) (hs : s.size ≤ 536870912) :
    Calls Tryd.prog 44 #[.slice A zs.length c, .string s] w fun e w' => RetB (fun ys => zs ++ uB s.size ++ strI s = ys) w e w' ∧ Below w.heap.size w w' := by
  have hs' : (s.size : Int) ≤ 536870912 := by omega
  have hl : (zs ++ uB s.size).length ≤ 536870917 := by have := uB_len s.size; rw [List.length_append]; omega
  obtain ⟨i0, hi, hz0, hz1, hz2⟩ := info_parts info_u8
  have hC := sPutU A c s.size zs w hR hZ hn
  generalize zs ++ uB s.size = Y at *
  have HC := Lib.hid hC
  clear hC
  go_enter Tryd.func44, Tryd.ntmps44
  go_wp2_with fail
  refine (HC.out).mono ?_; rintro e w1 ⟨⟨v1, _, rfl, rfl, hY, O⟩, b1⟩
  have hpos := b1.size
  go_wp2_with (at_builtin; refine Lib.wpList_append_own_string _ rfl _ _ 22 9 rfl w.heap.size 5 i0 Tryd.underlying22 Tryd.underlying9 hi hz0 hz1 hz2 _ _ _ rfl O.1 s rfl (by unfold maxLen; omega) (by omega) hpos ?_)
  intro v2 w2 hO2 hg2 _
  go_wp2_with fail
  go_ret
  refine ⟨⟨v2, Y ++ strI s, rfl, rfl, hY.app (strI_byt s), Row.mk ?_⟩, b1.grown hg2 hpos (fun k hk => (O.1.lt k hk).1)⟩
  rw [← u8s_app, List.length_append, strI_len, ← strI_cells]
  exact hO2

end Go.Proofs.YtalnkdbmbjplpaaDoor
