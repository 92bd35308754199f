/- Walks over DrawSameVal, DrawLessVal of the reference. At most 1048576 bytes are drawn from. -/
import Derived.Test.YtkahlckjedaolaaDoorDrawC
import Derived.Deep.RegionWith
namespace Go.Proofs.YtkahlckjedaolaaDoor
open Go.RowKit

/-- It hands back two values whose numbers are ints and whose texts are short. -/
def RetV2 (e : Ending) : Prop := ∃ (k n : Int) (s : ByteArray) (k' n' : Int) (s' : ByteArray), e = .returned (.tuple #[.agg #[.int .i64 k, .int .i64 n, .string s], .agg #[.int .i64 k', .int .i64 n', .string s']]) ∧ (-9223372036854775808 ≤ n ∧ n ≤ 9223372036854775807 ∧ s.size ≤ 300) ∧ -9223372036854775808 ≤ n' ∧ n' ≤ 9223372036854775807 ∧ s'.size ≤ 300
theorem results_cell2 {fn : Func} {p q : Tmp} {ty : TypeId} (h : fn.results = #[.cell p ty, .cell q ty]) (tmps : Array Value) (P : Program) (w : World) (g g' : Nat) (t : TypeId) (cs cs' : Array Value) {fs : _}
    (hp : tmps.getD p undef = .pointer (some ⟨g, 0, none⟩)) (hq : tmps.getD q undef = .pointer (some ⟨g', 0, none⟩)) (hg : Blk w g t cs) (hg' : Blk w g' t cs')
    (hu : P.underlying ty = some (.struct fs)) (hi : (P.info? ty).map (·.size) = some cs.size) (hi' : (P.info? ty).map (·.size) = some cs'.size) :
    (results fn tmps).run P w = .ok (.tuple #[.agg cs, .agg cs']) w := by
  have hp' : tmps[p]?.getD undef = .pointer (some ⟨g, 0, none⟩) := by simpa using hp
  have hq' : tmps[q]?.getD undef = .pointer (some ⟨g', 0, none⟩) := by simpa using hq
  simp [results, h, hp', hq', asAddr, run_loadVar_row w g t ty cs (0, 0) (.struct fs) hg hu rfl hi, run_loadVar_row w g' t ty cs' (0, 0) (.struct fs) hg' hu rfl hi']

theorem set3_other {w : World} {b b' : Nat} {t : TypeId} {cs : Array Value} (h : Blk w b' t cs) (hne : b' ≠ b) (x y z : Value) : Blk (set3 w b x y z) b' t cs :=
  ((h.far (p := ⟨b, 0, none⟩) hne x).far (p := ⟨b, 1, none⟩) hne y).far (p := ⟨b, 2, none⟩) hne z
theorem set3_bl {a w : World} {b : Nat} (h : Below a.heap.size a w) (hb : a.heap.size ≤ b) (x y z : Value) : Below a.heap.size a (set3 w b x y z) :=
  bl_set (p := ⟨b, 2, none⟩) (bl_set (p := ⟨b, 1, none⟩) (bl_set (p := ⟨b, 0, none⟩) h hb x) hb y) hb z

set_option maxHeartbeats 2000000 in
theorem dSameVal (A : Option Addr) (n c : Nat) (zs : List Int) (w : World) (hR : Reads w w.heap.size 1 A n (u8s zs)) (hZ : Byt zs) (hn : n ≤ 1048576) :
    Calls Tryd.prog 31 #[.slice A n c] w fun e w' => RetV2 e ∧ Below w.heap.size w w' := by
  have P0 := (Blk.new w 26 #[.int .i64 0, .int .i64 0, .string ⟨#[]⟩]).alloc (.cells #[.int .i64 0, .int .i64 0, .string ⟨#[]⟩] 26)
  have Q0 : Blk ((w.alloc (.cells #[.int .i64 0, .int .i64 0, .string ⟨#[]⟩] 26)).alloc (.cells #[.int .i64 0, .int .i64 0, .string ⟨#[]⟩] 26)) (w.heap.size + 1) 26 #[.int .i64 0, .int .i64 0, .string ⟨#[]⟩] := heap_alloc2_new w _ _
  have L0 := bl_alloc (bl_alloc (Below.refl w.heap.size w) (.cells #[.int .i64 0, .int .i64 0, .string ⟨#[]⟩] 26)) (.cells #[.int .i64 0, .int .i64 0, .string ⟨#[]⟩] 26)
  go_enter Tryd.func31, Tryd.ntmps31
  go_wp2_with fail
  refine (dNew w.heap.size n c A zs _ ((hR.alloc (Nat.le_refl _) _).alloc (by simp) _) hZ (by simp; omega) hn).mono ?_; rintro e w1 ⟨g, rfl, hc1, hg, b1⟩
  have P1 := P0.keep b1
  have Q1 := Q0.keep b1
  have L1 := bl_trans L0 b1
  clear P0 Q0
  go_wp2_with fail
  refine (dVAny w.heap.size g _ hc1).mono ?_; rintro e w2 ⟨⟨k, m, s, rfl, hm⟩, hc2, g2⟩
  have lg := hc1.lt
  have P2 := P1.grown g2 (by intro e; cases e; have := hg; simp at this; omega)
  have Q2 := Q1.grown g2 (by intro e; cases e; have := hg; simp at this; omega)
  have L2 := bl_gr L1 g2 (fun k e => by cases e; have := hg; simp at this; omega)
  clear P1 Q1
  go_wp2_with fail
  refine (dOnce w.heap.size g 4 _ (hc2.alloc _) (by omega)).mono ?_; rintro e w3 ⟨⟨b, rfl⟩, hc3, g3⟩
  have A3 := (Blk.new w2 26 #[.int .i64 k, .int .i64 m, .string s]).grown g3 (by intro e; cases e; have := hc2.lt; omega)
  have P3 := (P2.alloc _).grown g3 (by intro e; cases e; have := hg; simp at this; omega)
  have Q3 := (Q2.alloc _).grown g3 (by intro e; cases e; have := hg; simp at this; omega)
  have L3 := bl_gr (bl_alloc L2 _) g3 (fun k e => by cases e; have := hg; simp at this; omega)
  have n1 := P2.lt
  have n2 := Q2.lt
  have e1 : (w2.heap.size == w.heap.size) = false := by simp; omega
  have e2 : (w2.heap.size == w.heap.size + 1) = false := by simp; omega
  have a3 := A3.cell
  have p3 := P3.cell
  have pf := P3.frozen
  have q3 := Q3.cell
  have qf := Q3.frozen
  cases b
  · go_wp2_with fail
    go_region_with (first | (go_at_call 34; refine (dVAny w.heap.size g _ (show Cur _ w3.drew g from hc3)).mono ?_; rintro e w4 ⟨⟨k', m', s', rfl, hm'⟩, hc4, g4⟩; have g4' : w3.grownBy w4 (some g) := ⟨g4.os, g4.tape, g4.output, g4.size, g4.block⟩; have hgg : w.heap.size + 2 ≤ g := (by have := hg; simp at this; omega); have A4 := A3.grown g4' (by intro e; cases e; have := hc2.lt; omega); have P4 := P3.grown g4' (by intro e; cases e; omega); have Q4 := Q3.grown g4' (by intro e; cases e; omega); have L4 := bl_gr L3 g4' (fun k e => by cases e; omega); have a4 := A4.cell; have p4 := P4.cell; have pf4 := P4.frozen; have q4 := Q4.cell; have qf4 := Q4.frozen))
    all_goals go_wp2_with fail
    all_goals exact bodyPost_ret (results_cell2 rfl _ _ _ _ _ _ _ _ rfl rfl (set3_other (set3_blk P4 _ _ _) (by omega) _ _ _) (set3_blk (set3_other Q4 (by omega) _ _ _) _ _ _) Tryd.underlying26 (by kernel_rfl) (by kernel_rfl)) rfl ⟨⟨k, m, s, k', m', s', rfl, hm, hm'⟩, set3_bl (set3_bl L4 (Nat.le_refl _) _ _ _) (by omega) _ _ _⟩
  · go_wp2_with fail
    go_region
    all_goals go_wp2_with fail
    all_goals exact bodyPost_ret (results_cell2 rfl _ _ _ _ _ _ _ _ rfl rfl (set3_other (set3_blk P3 _ _ _) (by omega) _ _ _).drew (set3_blk (set3_other Q3 (by omega) _ _ _) _ _ _).drew Tryd.underlying26 (by kernel_rfl) (by kernel_rfl)) rfl ⟨⟨k, m, s, k, m, s, rfl, hm, hm⟩, (set3_bl (set3_bl L3 (Nat.le_refl _) _ _ _) (by omega) _ _ _).drew⟩

set_option maxHeartbeats 1000000 in
theorem dLessVal (A : Option Addr) (n c : Nat) (zs : List Int) (w : World) (hR : Reads w w.heap.size 1 A n (u8s zs)) (hZ : Byt zs) (hn : n ≤ 1048576) :
    Calls Tryd.prog 17 #[.slice A n c] w fun e w' => RetV2 e ∧ Below w.heap.size w w' := by
  have P0 := (Blk.new w 26 #[.int .i64 0, .int .i64 0, .string ⟨#[]⟩]).alloc (.cells #[.int .i64 0, .int .i64 0, .string ⟨#[]⟩] 26)
  have Q0 : Blk ((w.alloc (.cells #[.int .i64 0, .int .i64 0, .string ⟨#[]⟩] 26)).alloc (.cells #[.int .i64 0, .int .i64 0, .string ⟨#[]⟩] 26)) (w.heap.size + 1) 26 #[.int .i64 0, .int .i64 0, .string ⟨#[]⟩] := heap_alloc2_new w _ _
  have L0 := bl_alloc (bl_alloc (Below.refl w.heap.size w) (.cells #[.int .i64 0, .int .i64 0, .string ⟨#[]⟩] 26)) (.cells #[.int .i64 0, .int .i64 0, .string ⟨#[]⟩] 26)
  go_enter Tryd.func17, Tryd.ntmps17
  go_wp2_with fail
  refine (dSameVal A n c zs _ (((hR.alloc (Nat.le_refl _) _).alloc (by simp) _).more (by simp; omega)) hZ hn).mono ?_; rintro e w1 ⟨⟨k, m, s, k', m', s', rfl, hm, hm'⟩, b1⟩
  have P1 := P0.keep b1
  have Q1 := Q0.keep b1
  have L1 := bl_trans L0 b1
  have p1 := P1.cell
  have pf := P1.frozen
  have q1 := Q1.cell
  have qf := Q1.frozen
  go_wp2_with fail
  exact bodyPost_ret (results_cell2 rfl _ _ _ _ _ _ _ _ rfl rfl (set3_other (set3_blk P1 _ _ _) (by omega) _ _ _) (set3_blk (set3_other Q1 (by omega) _ _ _) _ _ _) Tryd.underlying26 (by kernel_rfl) (by kernel_rfl)) rfl ⟨⟨k, m, s, k', m', s', rfl, hm, hm'⟩, set3_bl (set3_bl L1 (Nat.le_refl _) _ _ _) (by omega) _ _ _⟩

end Go.Proofs.YtkahlckjedaolaaDoor
