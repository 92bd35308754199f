/- Walks over the reference's draws: the cursor over a draw's bytes. The contracts say only what a drawn number lies between. -/
import Derived.Test.YtalnkdbmbjplpaaBase
import Derived.Test.YtalnkdbmbjplpaaRow
namespace Go.Proofs.Ytalnkdbmbjplpaa
open Go.RowKit

theorem and_255 (n : Int) : bits .and .i64 n 255 = n % 256 := by
  have h127 : (BitVec.ofInt 64 255).toNat = 2 ^ 8 - 1 := by decide
  have key : (BitVec.ofInt 64 n &&& BitVec.ofInt 64 255).toNat = (n % ((2 ^ 64 : Nat) : Int)).toNat % 2 ^ 8 := by
    rw [BitVec.toNat_and, BitVec.toNat_ofInt, h127, Nat.and_two_pow_sub_one_eq_mod]
  show IntKind.i64.wrap ((BitVec.ofInt 64 n &&& BitVec.ofInt 64 255).toNat : Nat) = n % 256
  rw [key, IntKind.wrap_i64]
  omega

/-- A cursor in block g over bytes that lie below block B. -/
def Cur (B : Nat) (w : World) (g : Nat) : Prop :=
  ∃ (A : Option Addr) (n c : Nat) (i h : Int) (zs : List Int), Blk w g 62 #[.slice A n c, .int .i64 i, .int .i64 h] ∧ B ≤ g ∧ Reads w B 1 A n (u8s zs) ∧ Byt zs ∧ 0 ≤ i ∧ i ≤ n ∧ n ≤ 1048576
theorem Cur.keep {B : Nat} {w w' : World} {g : Nat} (h : Cur B w g) (hb : Below w.heap.size w w') : Cur B w' g := by
  obtain ⟨A, n, c, i, hh, zs, h1, h2, h3, h4⟩ := h
  exact ⟨A, n, c, i, hh, zs, h1.keep hb, h2, h3.keep fun p hp => hb.cell (by have := h1.lt; omega), h4⟩
theorem Cur.lt {B : Nat} {w : World} {g : Nat} (h : Cur B w g) : g < w.heap.size := by
  obtain ⟨A, n, c, i, hh, zs, h1, _⟩ := h
  exact h1.lt
theorem Cur.far {B : Nat} {w w' : World} {g : Nat} {row : Option Nat} (h : Cur B w g) (hg : w.grownBy w' row) (hr : ∀ k, row = some k → B ≤ k ∧ k ≠ g) : Cur B w' g := by
  have hl := h.lt
  obtain ⟨A, n, c, i, hh, zs, h1, h2, h3, h4⟩ := h
  exact ⟨A, n, c, i, hh, zs, h1.grown hg (fun e => (hr g e.symm).2 rfl), h2, h3.grown hg (by omega) (fun k e => (hr k e).1), h4⟩

set_option maxHeartbeats 1000000 in
theorem dByte (B g : Nat) (w : World) (hc : Cur B w g) :
    Calls Try.prog 40 #[.pointer (some ⟨g, 0, none⟩)] w fun e w' => RetInt (fun x => 0 ≤ x ∧ x < 256) e ∧ Cur B w' g ∧ w.grownBy w' (some g) := by
  obtain ⟨A, n, c, i, h, zs, hB, hBg, hR, hZ, hi0, hin, hn⟩ := hc
  have c0 := hB.cell
  have f0 := hB.frozen
  go_enter Try.func40, Try.ntmps40
  go_wp2_with fail
  generalize wrap64 (wrap64 (h * 6364136223846793005) + 1442695040888963407) = h1 at *
  have B1 := hB.set_ 2 (.int .i64 h1)
  have G1 : w.grownBy (w.setCell ⟨g, 2, none⟩ (.int .i64 h1)) (some g) := gr_set (gr_refl _ _) (.inl rfl) _
  have R1 := hR.setCell (p := ⟨g, 2, none⟩) hBg (.int .i64 h1)
  simp only [List.setIfInBounds_toArray, List.set_cons_succ, List.set_cons_zero] at B1
  generalize w.setCell ⟨g, 2, none⟩ (.int .i64 h1) = w1 at *
  clear c0 f0 hR hB
  have c1 := B1.cell
  have f1 := B1.frozen
  go_quiet (fail)
  generalize hX : bits BinOp.and IntKind.i64 (bits BinOp.xor IntKind.i64 (h1 / 8589934592) (h1 / 140737488355328)) 255 = X at *
  have hX2 : 0 ≤ X ∧ X < 256 := by rw [← hX, and_255]; omega
  clear hX
  by_cases hlt : i < n
  · obtain ⟨k, rfl⟩ := Int.eq_ofNat_of_zero_le hi0
    obtain ⟨b, off, u, rfl, hb, hu, hcell⟩ := R1.at_ (k := k) (by omega)
    obtain ⟨z, hz, rfl⟩ : ∃ z ∈ zs, u = .int .u8 z := by
      simp only [u8s, List.getElem?_map, Option.map_eq_some_iff] at hu
      obtain ⟨z, hz, rfl⟩ := hu
      exact ⟨z, List.mem_of_getElem? hz, rfl⟩
    obtain ⟨hz0, hz1⟩ := hZ z hz
    clear hu
    go_wp2_with fail
    go_quiet (fail)
    go_wp2_with fail
    go_quiet (fail)
    go_wp2_with fail
    go_ret
    refine ⟨⟨_, rfl, by rw [and_255]; omega, by rw [and_255]; omega⟩, ?_, ?_⟩
    · have B2 := fun N => (B1.drewN N).set_ 1 (.int .i64 ((k : Int) + 1))
      simp only [List.setIfInBounds_toArray, List.set_cons_succ, List.set_cons_zero] at B2
      exact ⟨_, n, c, (k : Int) + 1, h1, zs, B2 _, hBg, (R1.drewN _).setCell (p := ⟨g, 1, none⟩) hBg _, hZ, by omega, by omega, hn⟩
    · exact gr_set (gr_drewN G1 _) (.inl rfl) _
  · go_wp2_with fail
    go_quiet (fail)
    go_wp2_with fail
    go_ret
    exact ⟨⟨X, rfl, hX2.1, hX2.2⟩, ⟨A, n, c, i, h1, zs, B1, hBg, R1, hZ, hi0, hin, hn⟩, gr_drewN (gr_drewN G1 _) _⟩

theorem Cur.drew1 {B : Nat} {w : World} {g : Nat} (h : Cur B w g) (n : Nat) : Cur B (w.drewN n) g := h
theorem Cur.alloc {B : Nat} {w : World} {g : Nat} (h : Cur B w g) (o : Obj) : Cur B (w.alloc o) g := h.keep (bl_alloc (Below.refl _ _) o)

set_option maxHeartbeats 1000000 in
theorem dBelow (B g : Nat) (n : Int) (w : World) (hc : Cur B w g) (hn : n ≤ 16777216) :
    Calls Try.prog 28 #[.pointer (some ⟨g, 0, none⟩), .int .i64 n] w fun e w' => RetInt (fun x => 0 ≤ x ∧ (0 < n → x < n) ∧ (n ≤ 0 → x = 0)) e ∧ Cur B w' g ∧ w.grownBy w' (some g) := by
  by_cases h0 : n ≤ 0
  · go_enter Try.func28, Try.ntmps28
    go_wp2_with fail
    go_ret
    exact ⟨⟨0, rfl, by omega, by omega, fun _ => rfl⟩, hc, gr_refl _ _⟩
  have hne : ¬ n = 0 := by omega
  by_cases h1 : n ≤ 256
  · go_enter Try.func28, Try.ntmps28
    go_wp2_with fail
    refine (dByte B g _ hc).mono ?_; rintro e w1 ⟨⟨x, rfl, hx0, hx1⟩, hc1, hg1⟩
    go_wp2_with fail
    go_ret
    exact ⟨⟨_, rfl, Int.emod_nonneg _ hne, fun _ => Int.emod_lt_of_pos _ (by omega), fun _ => by omega⟩, hc1, hg1⟩
  · go_enter Try.func28, Try.ntmps28
    go_wp2_with fail
    refine (dByte B g _ hc).mono ?_; rintro e w1 ⟨⟨x, rfl, hx0, hx1⟩, hc1, hg1⟩
    go_wp2_with fail
    refine (dByte B g _ hc1).mono ?_; rintro e w2 ⟨⟨y, rfl, hy0, hy1⟩, hc2, hg2⟩
    go_wp2_with fail
    refine (dByte B g _ hc2).mono ?_; rintro e w3 ⟨⟨z, rfl, hz0, hz1⟩, hc3, hg3⟩
    go_wp2_with fail
    go_ret
    exact ⟨⟨_, rfl, Int.emod_nonneg _ hne, fun _ => Int.emod_lt_of_pos _ (by omega), fun _ => by omega⟩, hc3, gr_trans (gr_trans hg1 hg2) hg3⟩

set_option maxHeartbeats 1000000 in
theorem dNew (B n c : Nat) (A : Option Addr) (zs : List Int) (w : World) (hR : Reads w B 1 A n (u8s zs)) (hZ : Byt zs) (hB : B ≤ w.heap.size) (hn : n ≤ 1048576) :
    Calls Try.prog 14 #[.slice A n c] w fun e w' => ∃ g : Nat, e = .returned (.pointer (some ⟨g, 0, none⟩)) ∧ Cur B w' g ∧ w.heap.size ≤ g ∧ Below w.heap.size w w' := by
  have hn' : (n : Int) ≤ 1048576 := by omega
  go_enter Try.func14, Try.ntmps14
  go_wp2_with fail
  go_loop [3, 4] (fun hv i => ∃ (k : Nat) (h : Int), k ≤ n ∧ i = .int .i64 k ∧ hv = .int .i64 h) (fun _ i => n - (intOf i).toNat)
  case atStart => exact ⟨0, _, Nat.zero_le _, rfl, rfl⟩
  case round =>
    obtain ⟨k, h, hk, rfl, rfl⟩ := hrel
    by_cases hlt : (k : Int) < (n : Int)
    · obtain ⟨b, off, u, rfl, hb, hu, hcell⟩ := hR.at_ (k := k) (by omega)
      obtain ⟨z, hz, rfl⟩ : ∃ z ∈ zs, u = .int .u8 z := by
        simp only [u8s, List.getElem?_map, Option.map_eq_some_iff] at hu
        obtain ⟨z, hz, rfl⟩ := hu
        exact ⟨z, List.mem_of_getElem? hz, rfl⟩
      obtain ⟨hz0, hz1⟩ := hZ z hz
      clear hu
      by_cases h4 : (k : Int) < 4000
      · go_wp2_with fail
        go_round
        case rel => exact ⟨k + 1, _, by omega, by go_num, rfl⟩
        case measure => simp [intOf]; omega
      · go_wp2_with fail
        go_ret
        exact ⟨w.heap.size, rfl, ⟨_, n, c, 0, h, zs, Blk.new w 62 _, hB, hR.alloc hB _, hZ, by omega, by omega, hn⟩, Nat.le_refl _, bl_alloc (Below.refl _ _) _⟩
    · have hd : decide ((k : Int) < (n : Int)) = false := by simpa using hlt
      go_wp2_with fail
      go_ret
      exact ⟨w.heap.size, rfl, ⟨_, n, c, 0, h, zs, Blk.new w 62 _, hB, hR.alloc hB _, hZ, by omega, by omega, hn⟩, Nat.le_refl _, bl_alloc (Below.refl _ _) _⟩

end Go.Proofs.Ytalnkdbmbjplpaa
