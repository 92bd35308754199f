/- Walks over the reference's draws: the cursor over a draw's bytes. The contracts say only what a drawn number lies between. -/
import Derived.Test.YtkahlckjedaolaaWrap
import Derived.Test.YtkahlckjedaolaaRow
namespace Go.Proofs.Ytkahlckjedaolaa
open Go.RowKit

theorem and_255 (n : Int) : bits .and .i64 n 255 = n % 256 := by
  have h127 : (BitVec.ofInt 64 255).toNat = 2 ^ 8 - 1 := by decide
  have key : (BitVec.ofInt 64 n &&& BitVec.ofInt 64 255).toNat = (n % ((2 ^ 64 : Nat) : Int)).toNat % 2 ^ 8 := by
    rw [BitVec.toNat_and, BitVec.toNat_ofInt, h127, Nat.and_two_pow_sub_one_eq_mod]
  show IntKind.i64.wrap ((BitVec.ofInt 64 n &&& BitVec.ofInt 64 255).toNat : Nat) = n % 256
  rw [key, IntKind.wrap_i64]
  omega

/-- A cursor in block g over bytes that lie below block B. -/
def Cur (B : Nat) (w : World) (g : Nat) : Prop :=
  ∃ (A : Option Addr) (n c : Nat) (i h : Int) (zs : List Int), Blk w g 65 #[.slice A n c, .int .i64 i, .int .i64 h] ∧ B ≤ g ∧ Reads w B 1 A n (u8s zs) ∧ Byt zs ∧ 0 ≤ i ∧ i ≤ n ∧ n ≤ 1048576
theorem Cur.keep {B : Nat} {w w' : World} {g : Nat} (h : Cur B w g) (hb : Below w.heap.size w w') : Cur B w' g := by
  obtain ⟨A, n, c, i, hh, zs, h1, h2, h3, h4⟩ := h
  exact ⟨A, n, c, i, hh, zs, h1.keep hb, h2, h3.keep fun p hp => hb.cell (by have := h1.lt; omega), h4⟩
theorem Cur.lt {B : Nat} {w : World} {g : Nat} (h : Cur B w g) : g < w.heap.size := by
  obtain ⟨A, n, c, i, hh, zs, h1, _⟩ := h
  exact h1.lt
theorem Cur.far {B : Nat} {w w' : World} {g : Nat} {row : Option Nat} (h : Cur B w g) (hg : w.grownBy w' row) (hr : ∀ k, row = some k → B ≤ k ∧ k ≠ g) : Cur B w' g := by
  have hl := h.lt
  obtain ⟨A, n, c, i, hh, zs, h1, h2, h3, h4⟩ := h
  exact ⟨A, n, c, i, hh, zs, h1.grown hg (fun e => (hr g e.symm).2 rfl), h2, h3.grown hg (by omega) (fun k e => (hr k e).1), h4⟩

set_option maxHeartbeats 1000000 in
theorem dByte (B g : Nat) (w : World) (hc : Cur B w g) :
    Calls Try.prog 65 #[.pointer (some ⟨g, 0, none⟩)] w fun e w' => RetInt (fun x => 0 ≤ x ∧ x < 256) e ∧ Cur B w' g ∧ w.grownBy w' (some g) := by
  obtain ⟨A, n, c, i, h, zs, hB, hBg, hR, hZ, hi0, hin, hn⟩ := hc
  have c0 := hB.cell
  have f0 := hB.frozen
  go_enter Try.func65, Try.ntmps65
  go_wp2_with fail
  generalize wrap64 (wrap64 (h * 6364136223846793005) + 1442695040888963407) = h1 at *
  have B1 := hB.set_ 2 (.int .i64 h1)
  have G1 : w.grownBy (w.setCell ⟨g, 2, none⟩ (.int .i64 h1)) (some g) := gr_set (gr_refl _ _) (.inl rfl) _
  have R1 := hR.setCell (p := ⟨g, 2, none⟩) hBg (.int .i64 h1)
  simp only [List.setIfInBounds_toArray, List.set_cons_succ, List.set_cons_zero] at B1
  generalize w.setCell ⟨g, 2, none⟩ (.int .i64 h1) = w1 at *
  clear c0 f0 hR hB
  have c1 := B1.cell
  have f1 := B1.frozen
  go_quiet (fail)
  generalize hX : bits BinOp.and IntKind.i64 (bits BinOp.xor IntKind.i64 (h1 / 8589934592) (h1 / 140737488355328)) 255 = X at *
  have hX2 : 0 ≤ X ∧ X < 256 := by rw [← hX, and_255]; omega
  clear hX
  by_cases hlt : i < n
  · obtain ⟨k, rfl⟩ := Int.eq_ofNat_of_zero_le hi0
    obtain ⟨b, off, u, rfl, hb, hu, hcell⟩ := R1.at_ (k := k) (by omega)
    obtain ⟨z, hz, rfl⟩ : ∃ z ∈ zs, u = .int .u8 z := by
      simp only [u8s, List.getElem?_map, Option.map_eq_some_iff] at hu
      obtain ⟨z, hz, rfl⟩ := hu
      exact ⟨z, List.mem_of_getElem? hz, rfl⟩
    obtain ⟨hz0, hz1⟩ := hZ z hz
    clear hu
    go_wp2_with fail
    go_quiet (fail)
    go_wp2_with fail
    go_quiet (fail)
    go_wp2_with fail
    go_ret
    refine ⟨⟨_, rfl, by rw [and_255]; omega, by rw [and_255]; omega⟩, ?_, ?_⟩
    · have B2 := fun N => (B1.drewN N).set_ 1 (.int .i64 ((k : Int) + 1))
      simp only [List.setIfInBounds_toArray, List.set_cons_succ, List.set_cons_zero] at B2
      exact ⟨_, n, c, (k : Int) + 1, h1, zs, B2 _, hBg, (R1.drewN _).setCell (p := ⟨g, 1, none⟩) hBg _, hZ, by omega, by omega, hn⟩
    · exact gr_set (gr_drewN G1 _) (.inl rfl) _
  · go_wp2_with fail
    go_quiet (fail)
    go_wp2_with fail
    go_ret
    exact ⟨⟨X, rfl, hX2.1, hX2.2⟩, ⟨A, n, c, i, h1, zs, B1, hBg, R1, hZ, hi0, hin, hn⟩, gr_drewN (gr_drewN G1 _) _⟩

theorem Cur.drew1 {B : Nat} {w : World} {g : Nat} (h : Cur B w g) (n : Nat) : Cur B (w.drewN n) g := h
theorem Cur.alloc {B : Nat} {w : World} {g : Nat} (h : Cur B w g) (o : Obj) : Cur B (w.alloc o) g := h.keep (bl_alloc (Below.refl _ _) o)

set_option maxHeartbeats 1000000 in
theorem dBelow (B g : Nat) (n : Int) (w : World) (hc : Cur B w g) (hn : n ≤ 16777216) :
    Calls Try.prog 62 #[.pointer (some ⟨g, 0, none⟩), .int .i64 n] w fun e w' => RetInt (fun x => 0 ≤ x ∧ (0 < n → x < n) ∧ (n ≤ 0 → x = 0)) e ∧ Cur B w' g ∧ w.grownBy w' (some g) := by
  by_cases h0 : n ≤ 0
  · go_enter Try.func62, Try.ntmps62
    go_wp2_with fail
    go_ret
    exact ⟨⟨0, rfl, by omega, by omega, fun _ => rfl⟩, hc, gr_refl _ _⟩
  have hne : ¬ n = 0 := by omega
  by_cases h1 : n ≤ 256
  · go_enter Try.func62, Try.ntmps62
    go_wp2_with fail
    refine (dByte B g _ hc).mono ?_; rintro e w1 ⟨⟨x, rfl, hx0, hx1⟩, hc1, hg1⟩
    go_wp2_with fail
    go_ret
    exact ⟨⟨_, rfl, Int.emod_nonneg _ hne, fun _ => Int.emod_lt_of_pos _ (by omega), fun _ => by omega⟩, hc1, hg1⟩
  · go_enter Try.func62, Try.ntmps62
    go_wp2_with fail
    refine (dByte B g _ hc).mono ?_; rintro e w1 ⟨⟨x, rfl, hx0, hx1⟩, hc1, hg1⟩
    go_wp2_with fail
    refine (dByte B g _ hc1).mono ?_; rintro e w2 ⟨⟨y, rfl, hy0, hy1⟩, hc2, hg2⟩
    go_wp2_with fail
    refine (dByte B g _ hc2).mono ?_; rintro e w3 ⟨⟨z, rfl, hz0, hz1⟩, hc3, hg3⟩
    go_wp2_with fail
    go_ret
    exact ⟨⟨_, rfl, Int.emod_nonneg _ hne, fun _ => Int.emod_lt_of_pos _ (by omega), fun _ => by omega⟩, hc3, gr_trans (gr_trans hg1 hg2) hg3⟩

set_option maxHeartbeats 1000000 in
theorem dInt (B g b : Nat) (n : Nat) (zs : List Int) (w : World) (hc : Cur B w g) (hl : zs.length = n) (hn : 0 < n) (hn2 : n ≤ 1000) (hb : Blk w b 3 (zs.map (Value.int .i64)).toArray) (hne : b ≠ g) :
    Calls Try.prog 61 #[.pointer (some ⟨g, 0, none⟩), .slice (some ⟨b, 0, none⟩) n n] w fun e w' => RetInt (fun z => z ∈ zs) e ∧ Cur B w' g ∧ w.grownBy w' (some g) := by
  go_enter Try.func61, Try.ntmps61
  go_wp2_with fail
  refine (dBelow B g n _ hc (by omega)).mono ?_; rintro e w1 ⟨⟨x, rfl, hx0, hx1, _⟩, hc1, hg1⟩
  have hx2 := hx1 (by omega)
  clear hx1
  obtain ⟨k, rfl⟩ := Int.eq_ofNat_of_zero_le hx0
  have hk : k < zs.length := by omega
  have hcell := (hb.grown hg1 (by simpa using hne)).cell k
  rw [List.getElem?_toArray, List.getElem?_map, List.getElem?_eq_getElem hk, Option.map_some] at hcell
  have hmem := List.getElem_mem hk
  generalize zs[k] = z at *
  go_wp2_with fail
  go_ret
  exact ⟨⟨z, rfl, hmem⟩, hc1, hg1⟩

set_option maxHeartbeats 1000000 in
theorem dNew (B n c : Nat) (A : Option Addr) (zs : List Int) (w : World) (hR : Reads w B 1 A n (u8s zs)) (hZ : Byt zs) (hB : B ≤ w.heap.size) (hn : n ≤ 1048576) :
    Calls Try.prog 50 #[.slice A n c] w fun e w' => ∃ g : Nat, e = .returned (.pointer (some ⟨g, 0, none⟩)) ∧ Cur B w' g ∧ w.heap.size ≤ g ∧ Below w.heap.size w w' := by
  have hn' : (n : Int) ≤ 1048576 := by omega
  go_enter Try.func50, Try.ntmps50
  go_wp2_with fail
  go_loop [3, 4] (fun hv i => ∃ (k : Nat) (h : Int), k ≤ n ∧ i = .int .i64 k ∧ hv = .int .i64 h) (fun _ i => n - (intOf i).toNat)
  case atStart => exact ⟨0, _, Nat.zero_le _, rfl, rfl⟩
  case round =>
    obtain ⟨k, h, hk, rfl, rfl⟩ := hrel
    by_cases hlt : (k : Int) < (n : Int)
    · obtain ⟨b, off, u, rfl, hb, hu, hcell⟩ := hR.at_ (k := k) (by omega)
      obtain ⟨z, hz, rfl⟩ : ∃ z ∈ zs, u = .int .u8 z := by
        simp only [u8s, List.getElem?_map, Option.map_eq_some_iff] at hu
        obtain ⟨z, hz, rfl⟩ := hu
        exact ⟨z, List.mem_of_getElem? hz, rfl⟩
      obtain ⟨hz0, hz1⟩ := hZ z hz
      clear hu
      by_cases h4 : (k : Int) < 4000
      · go_wp2_with fail
        go_round
        case rel => exact ⟨k + 1, _, by omega, by go_num, rfl⟩
        case measure => simp [intOf]; omega
      · go_wp2_with fail
        go_ret
        exact ⟨w.heap.size, rfl, ⟨_, n, c, 0, h, zs, Blk.new w 65 _, hB, hR.alloc hB _, hZ, by omega, by omega, hn⟩, Nat.le_refl _, bl_alloc (Below.refl _ _) _⟩
    · have hd : decide ((k : Int) < (n : Int)) = false := by simpa using hlt
      go_wp2_with fail
      go_ret
      exact ⟨w.heap.size, rfl, ⟨_, n, c, 0, h, zs, Blk.new w 65 _, hB, hR.alloc hB _, hZ, by omega, by omega, hn⟩, Nat.le_refl _, bl_alloc (Below.refl _ _) _⟩


set_option maxHeartbeats 1000000 in
theorem dBytes (B g : Nat) (n : Int) (w : World) (hc : Cur B w g) (h0 : 0 ≤ n) (hn : n ≤ 1000) :
    Calls Try.prog 63 #[.pointer (some ⟨g, 0, none⟩), .int .i64 n] w fun e w' => RetB (fun zs => (zs.length : Int) = n) w e w' ∧ Cur B w' g ∧ w.grownBy w' (some g) := by
  have hgl := hc.lt
  obtain ⟨i0, hi, hz0, hz1, hz2⟩ := info_parts info_u8
  go_enter Try.func63, Try.ntmps63
  go_wp2_with fail
  go_loopw [5, 6] (fun v i wr => ∃ zs : List Int, (zs.length : Int) ≤ n ∧ i = .int .i64 zs.length ∧ Byt zs ∧ wr.ownsRow w.heap.size 5 1 v zs.length (u8s zs) ∧ Cur B wr g ∧ w.grownBy wr (some g)) (fun _ i _ => n.toNat - (intOf i).toNat)
  case atStart => exact ⟨[], h0, rfl, (fun _ h => by cases h), World.ownsRow_made w #[] 0 (Nat.le_refl _) (by simp [maxLen]) (by simp), hc.alloc _, gr_alloc (gr_refl _ _) _⟩
  case round =>
    obtain ⟨zs, hk, rfl, hZ, hO, hC, hG⟩ := hrel
    by_cases hlt : (zs.length : Int) < n
    · go_wp2_with fail
      refine (dByte B g _ hC).mono ?_; rintro e w1 ⟨⟨x, rfl, hx0, hx1⟩, hc1, hg1⟩
      have hO1 := own_gr hO hg1 hgl
      have hG1 := gr_trans hG hg1
      go_wp2_with (at_builtin; refine wpList_push rfl _ _ 22 rfl w.heap.size 5 i0 (.int .u8 0) 1 1 Try.underlying22 hi hz0 hz1 hz2 rfl (by decide) _ _ _ rfl hO1 _ rfl rfl rfl (by omega) (by omega) hG1.size ?_)
      intro v' w2 hO2 hg2
      go_wp2_with fail
      go_roundw
      case rel =>
        refine ⟨zs ++ [x], by simp; omega, by simp, hZ.snoc hx0 hx1, by rw [← u8s_snoc, List.length_append]; exact hO2, ?_, ?_⟩
        · exact hc1.far hg2 (fun k e => by
            have := (hO1.lt k e).1
            obtain ⟨_, _, _, _, _, _, _, hBg, _⟩ := hc
            omega)
        · exact ⟨hg2.os.trans hG1.os, hg2.tape.trans hG1.tape, hg2.output.trans hG1.output, Nat.le_trans hG1.size hg2.size, fun i hi hne => (hg2.block i (Nat.lt_of_lt_of_le hi hG1.size) (fun e => by have := (hO1.lt i e.symm).1; omega)).trans (hG1.block i hi hne)⟩
      case measure => simp [intOf]; omega
    · obtain rfl : n = zs.length := by omega
      go_wp2_with fail
      go_ret
      exact ⟨⟨_, zs, rfl, rfl, hZ, Row.mk hO⟩, hC, hG⟩

set_option maxHeartbeats 1000000 in
theorem dSome (B g : Nat) (w : World) (hc : Cur B w g) :
    Calls Try.prog 52 #[.pointer (some ⟨g, 0, none⟩)] w fun e w' => RetB (fun zs => zs.length ≤ 9) w e w' ∧ Cur B w' g ∧ w.grownBy w' (some g) := by
  have hgl := hc.lt
  go_enter Try.func52, Try.ntmps52
  go_wp2_with fail
  refine (dInt B g w.heap.size 5 [0, 1, 2, 5, 9] _ (hc.alloc _) rfl (by omega) (by omega) (Blk.new w _ _) (by omega)).mono ?_; rintro e w1 ⟨⟨x, rfl, hx⟩, hc1, hg1⟩
  have hx0 : 0 ≤ x ∧ x ≤ 9 := by simp at hx; omega
  clear hx
  go_wp2_with fail
  refine (dBytes B g x _ hc1 hx0.1 (by omega)).mono ?_; rintro e w2 ⟨⟨v, zs, rfl, hl, hZ, hO, _⟩, hc2, hg2⟩
  go_wp2_with fail
  go_ret
  have hs := (gr_trans (gr_alloc (gr_refl w (some g)) _) hg1)
  exact ⟨⟨v, zs, rfl, by omega, hZ, Row.mk (own_base hO hs.size)⟩, hc2, gr_trans hs hg2⟩

set_option maxHeartbeats 1000000 in
theorem dNum (B g : Nat) (w : World) (hc : Cur B w g) :
    Calls Try.prog 51 #[.pointer (some ⟨g, 0, none⟩)] w fun e w' => RetInt (fun _ => True) e ∧ Cur B w' g ∧ w.grownBy w' (some g) := by
  go_enter Try.func51, Try.ntmps51
  go_wp2_with fail
  refine (dBelow B g 100000 _ hc (by omega)).mono ?_; rintro e w1 ⟨⟨x, rfl, hx0, _, _⟩, hc1, hg1⟩
  have hgl := hc1.lt
  go_wp2_with fail
  refine (dInt B g w1.heap.size 18 [0, 1, -1, 63, 64, -64, -65, 127, 128, 300, 2147483647, -2147483648, 2147483648, -2147483649, 4294967296, 9223372036854775807, -9223372036854775808, x] _ (hc1.alloc _) rfl (by omega) (by omega) (Blk.new w1 _ _) (by omega)).mono ?_; rintro e w2 ⟨⟨z, rfl, _⟩, hc2, hg2⟩
  go_wp2_with fail
  go_ret
  exact ⟨⟨z, rfl, trivial⟩, hc2, gr_trans (gr_alloc hg1 _) hg2⟩

end Go.Proofs.Ytkahlckjedaolaa
