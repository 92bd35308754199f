/- Walks over DrawPutVal, DrawGetVal of the reference. At most 1048576 bytes are drawn from. -/
import Derived.Test.YtalnkdbmbjplpaaDoorDrawA
import Derived.Test.YtalnkdbmbjplpaaDoorDrawS
import Derived.Test.YtalnkdbmbjplpaaDoorDrawN
import Derived.Test.YtalnkdbmbjplpaaDoorPutVB
import Derived.Deep.CutRange
namespace Go.Proofs.YtalnkdbmbjplpaaDoor
open Go.RowKit

/-- Bytes of the call's own, and a value whose number is an int and whose text is short. -/
def RetBV (w : World) (e : Ending) (w' : World) : Prop := ∃ (v : Value) (zs : List Int) (k n : Int) (s : ByteArray), e = .returned (.tuple #[v, .agg #[.int .i64 k, .int .i64 n, .string s]]) ∧ (zs.length ≤ 9 ∧ -9223372036854775808 ≤ n ∧ n ≤ 9223372036854775807 ∧ s.size ≤ 300) ∧ Byt zs ∧ Row w' w.heap.size w'.heap.size 5 1 v zs.length (u8s zs)
/-- Bytes, and a number. -/
def RdBI (e : Ending) (w' : World) : Prop := ∃ (A : Option Addr) (n c : Nat) (zs : List Int) (x : Int), e = .returned (.tuple #[.slice A n c, .int .i64 x]) ∧ (zs.length = n ∧ n ≤ 400 ∧ n ≤ c ∧ c ≤ 9223372036854775807) ∧ Byt zs ∧ Reads w' w'.heap.size 1 A n (u8s zs)
theorem rd_take {w : World} {B n j : Nat} {A : Option Addr} {zs : List Int} (h : Reads w B 1 A n (u8s zs)) (hj : j ≤ n) : Reads w B 1 A j (u8s (zs.take j)) := by
  have hl := h.1
  refine ⟨by unfold u8s at hl ⊢; rw [List.length_map] at hl ⊢; rw [List.length_take]; omega, fun h0 => ?_⟩
  obtain ⟨b, off, e, hb, hc⟩ := h.2 (by omega)
  refine ⟨b, off, e, hb, fun i u hu => hc i u ?_⟩
  unfold u8s at hu ⊢
  rw [List.map_take, List.getElem?_take] at hu
  split at hu
  · exact hu
  · cases hu
theorem results_tc {fn : Func} {p u : Tmp} {ty : TypeId} (h : fn.results = #[.tmp u, .cell p ty]) (tmps : Array Value) (P : Program) (w : World) (g : Nat) (t : TypeId) (cs : Array Value) {fs : _}
    (hp : tmps.getD p undef = .pointer (some ⟨g, 0, none⟩)) (hg : Blk w g t cs)
    (hu : P.underlying ty = some (.struct fs)) (hi : (P.info? ty).map (·.size) = some cs.size) :
    (results fn tmps).run P w = .ok (.tuple #[tmps.getD u undef, .agg cs]) w := by
  have hp' : tmps[p]?.getD undef = .pointer (some ⟨g, 0, none⟩) := by simpa using hp
  simp [results, h, hp', asAddr, run_loadVar_row w g t ty cs (0, 0) (.struct fs) hg hu rfl hi]
theorem bl_set3 {a w : World} {b : Nat} (h : Below a.heap.size a w) (hb : a.heap.size ≤ b) (x y z : Value) : Below a.heap.size a (set3 w b x y z) :=
  bl_set (p := ⟨b, 2, none⟩) (bl_set (p := ⟨b, 1, none⟩) (bl_set (p := ⟨b, 0, none⟩) h hb x) hb y) hb z

set_option maxHeartbeats 1000000 in
theorem dPutVal (A : Option Addr) (n c : Nat) (zs : List Int) (w : World) (hR : Reads w w.heap.size 1 A n (u8s zs)) (hZ : Byt zs) (hn : n ≤ 1048576) :
    Calls Tryd.prog 5 #[.slice A n c] w fun e w' => RetBV w e w' ∧ Below w.heap.size w w' := by
  have P0 := Blk.new w 25 #[.int .i64 0, .int .i64 0, .string ⟨#[]⟩]
  have L0 := bl_alloc (Below.refl w.heap.size w) (.cells #[.int .i64 0, .int .i64 0, .string ⟨#[]⟩] 25)
  go_enter Tryd.func5, Tryd.ntmps5
  go_wp2_with fail
  refine (dNew w.heap.size n c A zs _ (hR.alloc (Nat.le_refl _) _) hZ (by simp) hn).mono ?_; rintro e w1 ⟨g, rfl, hc1, hg, b1⟩
  have P1 := P0.keep b1
  have L1 := bl_trans L0 b1
  have hgg : w.heap.size < g := by have := hg; simp at this; omega
  have lg := hc1.lt
  clear P0 L0 b1 hg
  go_wp2_with fail
  refine (dSome w.heap.size g _ hc1).mono ?_; rintro e w2 ⟨⟨v, ys, rfl, hl, hY, O⟩, hc2, g2⟩
  have P2 := P1.grown g2 (by intro e; cases e; omega)
  have L2 := bl_gr L1 g2 (fun k e => by cases e; omega)
  obtain ⟨Ay, cy, rfl⟩ := O.form
  clear P1 L1
  go_wp2_with fail
  refine (dVAny w.heap.size g _ hc2).mono ?_; rintro e w3 ⟨⟨k, m, s, rfl, hm⟩, hc3, g3⟩
  have P3 := P2.grown g3 (by intro e; cases e; omega)
  have L3 := bl_gr L2 g3 (fun k e => by cases e; omega)
  have O3 := O.far g3 (fun k e => by cases e; exact .inl lg)
  have O4 := (O3.far (set3_far w3 w.heap.size (.int .i64 k) (.int .i64 m) (.string s)) (fun k e => by cases e; exact .inl (by omega))).more (lo' := w.heap.size) (hi' := (set3 w3 w.heap.size (.int .i64 k) (.int .i64 m) (.string s)).heap.size) (by omega) (Nat.le_trans g3.size (set3_far w3 w.heap.size (.int .i64 k) (.int .i64 m) (.string s)).size)
  clear O O3 P2 L2
  have p3 := P3.cell
  have f3 := P3.frozen
  go_wp2_with fail
  exact bodyPost_ret (results_tc (u := 2) (p := 3) rfl _ _ _ _ _ _ rfl (set3_blk P3 _ _ _) Tryd.underlying25 (by kernel_rfl)) rfl ⟨⟨_, ys, k, m, s, rfl, ⟨hl, hm⟩, hY, O4⟩, bl_set3 L3 (Nat.le_refl _) _ _ _⟩

theorem vB_pos (k n : Int) (s : ByteArray) : 0 < (vB k n s).length := by
  unfold vB
  rw [List.length_append]
  have : 0 < (uB k).length := List.length_pos_iff.2 (uBf_ne 4 _)
  omega
set_option maxHeartbeats 2000000 in
theorem dGetVal (A : Option Addr) (n c : Nat) (zs : List Int) (w : World) (hR : Reads w w.heap.size 1 A n (u8s zs)) (hZ : Byt zs) (hn : n ≤ 1048576) :
    Calls Tryd.prog 11 #[.slice A n c] w fun e w' => RdBI e w' ∧ Below w.heap.size w w' := by
  go_enter Tryd.func11, Tryd.ntmps11
  go_wp2_with fail
  refine (dNew w.heap.size n c A zs w hR hZ (Nat.le_refl _) hn).mono ?_; rintro e w1 ⟨g, rfl, hc1, hg, b1⟩
  have L1 := bl_alloc b1 (.cells #[] 5)
  have hc1a := hc1.alloc (.cells #[] 5)
  go_wp2_with fail
  refine (dVDraw w.heap.size g _ hc1a).mono ?_; rintro e w2 ⟨⟨k, m, s, rfl, hm0, hm1, hs⟩, hc2, g2⟩
  have L2 := bl_gr L1 g2 (fun k e => by cases e; exact hg)
  go_wp2_with fail
  refine (sPutVal _ _ k m s [] _ Reads.none_ (fun _ h => by cases h) (by simp) (by omega)).mono ?_; rintro e w3 ⟨⟨v, P, rfl, eP, hP, O⟩, b3⟩
  obtain ⟨Ap, cp, rfl⟩ := O.form
  have hl : P.length ≤ 310 ∧ 0 < P.length := by
    rw [← eP]
    have := vB_len k m s
    have := vB_pos k m s
    simp only [List.nil_append]
    omega
  obtain ⟨hl0, hl1⟩ := hl
  clear eP hm0 hm1 hs
  have hcp := O.cap
  have hc3 := hc2.keep b3
  have L3 := bl_trans L2 b3
  have hgl := hc2.lt
  have hP' : (P.length : Int) ≤ 310 := by omega
  go_wp2_with fail
  refine (dBelow w.heap.size g 4 _ hc3 (by omega)).mono ?_; rintro e w4 ⟨⟨x, rfl, hx0, hx1, _⟩, hc4, g4⟩
  have L4 := bl_gr L3 g4 (fun k e => by cases e; exact hg)
  have O4 := O.far g4 (fun k e => by cases e; exact .inl hgl)
  clear hx1 L1 L2 L3 hc1 hc1a hc2 hc3 O b1 g2 b3
  have hgl4 := hc4.lt
  by_cases h0 : x = 0
  · subst h0
    go_wp2_with fail
    refine (dBelow w.heap.size g _ _ hc4 (by omega)).mono ?_; rintro e w5 ⟨⟨y, rfl, hy0, hy1, _⟩, hc5, g5⟩
    have L5 := bl_gr L4 g5 (fun k e => by cases e; exact hg)
    have O5 := O4.far g5 (fun k e => by cases e; exact .inl hgl)
    have hy2 := hy1 (by omega)
    clear hy1
    obtain ⟨j, rfl⟩ := Int.eq_ofNat_of_zero_le hy0
    have hj : j < P.length := by omega
    have hgl5 := hc5.lt
    go_wp2_with fail
    refine (dInt w.heap.size g w5.heap.size 6 [0, 1, 2, 3, 64, 128] _ (hc5.alloc _) rfl (by omega) (by omega) (Blk.new w5 _ _) (by omega)).mono ?_; rintro e w6 ⟨⟨z, rfl, hz⟩, hc6, g6⟩
    have g6' := gr_trans (gr_alloc (gr_refl w5 (some g)) _) g6
    have L6 := bl_gr L5 g6' (fun k e => by cases e; exact hg)
    have O6 := O5.far g6' (fun k e => by cases e; exact .inl hgl)
    have hz9 : 0 ≤ z ∧ z < 256 := by simp at hz; omega
    clear hz
    obtain ⟨r, rfl, hr1, hr2, hc, hf⟩ := own_at O6.1 hj
    rw [u8s_get P j hj] at hc
    have HS := (O6.1.stored j (.int .u8 z))
    have hwz : IntKind.u8.wrap z = z := by rw [IntKind.wrap_u8]; omega
    generalize P[j] = q at *
    have O7 : Row (w6.setCell ⟨r, j, none⟩ (.int .u8 z)) w2.heap.size (w6.setCell ⟨r, j, none⟩ (.int .u8 z)).heap.size 5 1 (.slice (some ⟨r, 0, none⟩) P.length cp) (P.set j z).length (u8s (P.set j z)) := Row.mk (by rw [List.length_set, u8s_set]; exact HS.1)
    have hc7 := hc6.far HS.2 (fun j e => by cases e; omega)
    have L7 := L6.grown HS.2 L6.size (fun j e => by cases e; have := L4.size; omega)
    go_wp2_with fail
    refine (dAt w.heap.size g _ P.length cp _ hc7 (by omega)).mono ?_; rintro e w9 ⟨⟨q9, rfl, _⟩, hc9, g9⟩
    have L9 := bl_gr L7 g9 (fun k e => by cases e; exact hg)
    have hlset : (P.set j z).length = P.length := List.length_set
    have O9 := O7.far g9 (fun k e => by cases e; exact .inl hgl)
    rw [hlset] at O9
    have R9 := O9.reads
    go_wp2_with fail
    go_ret2
    exact ⟨⟨_, _, cp, P.set j z, q9, rfl, ⟨hlset, by omega, hcp.1, hcp.2⟩, byt_set hP j hz9, R9⟩, L9⟩
  have q0 : (x == 0) = false := by simp [h0]
  by_cases h1 : x = 1
  · subst h1
    go_wp2_with fail
    refine (dBelow w.heap.size g _ _ hc4 (by omega)).mono ?_; rintro e w5 ⟨⟨y, rfl, hy0, hy1, _⟩, hc5, g5⟩
    have L5 := bl_gr L4 g5 (fun k e => by cases e; exact hg)
    have O5 := O4.far g5 (fun k e => by cases e; exact .inl hgl)
    have hy2 := hy1 (by omega)
    clear hy1
    obtain ⟨j, rfl⟩ := Int.eq_ofNat_of_zero_le hy0
    have hj : j < P.length := by omega
    have hcp' : (P.length : Int) ≤ cp := by omega
    have hPt : Byt (P.take j) := fun z hz => hP z (List.mem_of_mem_take hz)
    go_wp2_with fail
    refine (dAt w.heap.size g _ j cp _ hc5 (by omega)).mono ?_; rintro e w9 ⟨⟨q9, rfl, _⟩, hc9, g9⟩
    have L9 := bl_gr L5 g9 (fun k e => by cases e; exact hg)
    have R9 := rd_take (O5.far g9 (fun k e => by cases e; exact .inl hgl)).reads (j := j) (by omega)
    go_wp2_with fail
    go_ret2
    exact ⟨⟨_, _, cp, P.take j, q9, rfl, ⟨by rw [List.length_take]; omega, by omega, by omega, hcp.2⟩, hPt, R9⟩, L9⟩
  have q1 : (x == 1) = false := by simp [h1]
  go_wp2_with fail
  refine (dAt w.heap.size g _ P.length cp _ hc4 (by omega)).mono ?_; rintro e w9 ⟨⟨q9, rfl, _⟩, hc9, g9⟩
  have L9 := bl_gr L4 g9 (fun k e => by cases e; exact hg)
  have R9 := (O4.far g9 (fun k e => by cases e; exact .inl hgl)).reads
  go_wp2_with fail
  go_ret2
  exact ⟨⟨_, _, cp, P, q9, rfl, ⟨rfl, by omega, hcp.1, hcp.2⟩, hP, R9⟩, L9⟩

end Go.Proofs.YtalnkdbmbjplpaaDoor
