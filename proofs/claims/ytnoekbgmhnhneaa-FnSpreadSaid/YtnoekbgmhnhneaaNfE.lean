/- Walks over the reference's l5List, DrawSpread, DrawOnward. -/
import Derived.Test.YtnoekbgmhnhneaaNfD
import Derived.Test.YtnoekbgmhnhneaaQ0
import Derived.Deep.CutRange
import Derived.Deep.RegionHeld3
import Derived.Deep.RegionWith
namespace Go.Proofs.Ytnoekbgmhnhneaa
open Go.RowKit

theorem res_cellT2 {fn : Func} {p a0 a1 : Tmp} {ty : TypeId} (h : fn.results = #[.cell p ty, .tmp a0, .tmp a1]) (tmps : Array Value) (P : Program) (w : World) (g : Nat) (t : TypeId) (cs : Array Value) {fs : _}
    (hp : tmps.getD p undef = .pointer (some ⟨g, 0, none⟩)) (hg : Blk w g t cs)
    (hu : P.underlying ty = some (.struct fs)) (hi : (P.info? ty).map (·.size) = some cs.size) :
    (results fn tmps).run P w = .ok (.tuple #[.agg cs, tmps.getD a0 undef, tmps.getD a1 undef]) w := by
  have hp' : tmps[p]?.getD undef = .pointer (some ⟨g, 0, none⟩) := by simpa using hp
  simp [results, h, hp', asAddr, run_loadVar_row w g t ty cs (0, 0) (.struct fs) hg hu rfl hi]
theorem res_cellT3 {fn : Func} {p a0 a1 a2 : Tmp} {ty : TypeId} (h : fn.results = #[.cell p ty, .tmp a0, .tmp a1, .tmp a2]) (tmps : Array Value) (P : Program) (w : World) (g : Nat) (t : TypeId) (cs : Array Value) {fs : _}
    (hp : tmps.getD p undef = .pointer (some ⟨g, 0, none⟩)) (hg : Blk w g t cs)
    (hu : P.underlying ty = some (.struct fs)) (hi : (P.info? ty).map (·.size) = some cs.size) :
    (results fn tmps).run P w = .ok (.tuple #[.agg cs, tmps.getD a0 undef, tmps.getD a1 undef, tmps.getD a2 undef]) w := by
  have hp' : tmps[p]?.getD undef = .pointer (some ⟨g, 0, none⟩) := by simpa using hp
  simp [results, h, hp', asAddr, run_loadVar_row w g t ty cs (0, 0) (.struct fs) hg hu rfl hi]
theorem rd_blk1 {w : World} {b : Nat} {t : TypeId} {v : Value} (h : Blk w b t #[v]) : Reads w (b + 1) 1 (some ⟨b, 0, none⟩) 1 [v] := ⟨rfl, fun _ => ⟨_, _, rfl, Nat.lt_succ_self _, fun j u hu => by
  rw [Nat.zero_add]
  exact (h.cell j).trans (by simpa using hu)⟩⟩
set_option maxHeartbeats 1000000 in
theorem dList (B g : Nat) (A : Option Addr) (n c : Nat) (w : World) (hc : Cur B w g) (hn : n ≤ 1000) :
    Calls Try.prog 67 #[.pointer (some ⟨g, 0, none⟩), .agg #[.slice A n c]] w fun e w' => RetZ (fun l => l.length ≤ 3) w e w' ∧ Cur B w' g ∧ w.grownBy w' (some g) := by
  have hn' : (n : Int) ≤ 1000 := by omega
  have hgl := hc.lt
  have hBg := hc.le
  obtain ⟨j0, hj, hy0, hy1, hy2⟩ := info_parts info_intz
  have X0 := (Blk.new w 30 #[.slice A n c]).alloc (.cells #[] 3)
  have hO0 := World.ownsRow_made (e := 3) (size := 1) (base := w.heap.size + 1) (w.alloc (.cells #[.slice A n c] 30)) #[] 0 (by rw [alloc_size]; exact Nat.le_refl _) (by simp [maxLen]) (by simp)
  rw [alloc_size] at hO0
  have G0 := gr_alloc (gr_alloc (gr_refl w (some g)) (.cells #[.slice A n c] 30)) (.cells #[] 3)
  have hc0 := (hc.alloc (.cells #[.slice A n c] 30)).alloc (.cells #[] 3)
  go_enter Try.func67, Try.ntmps67
  go_wp2_with fail
  refine (dBelow B g 4 _ hc0 (by omega)).mono ?_; rintro e w1 ⟨⟨q, rfl, hq0, hq1, _⟩, hc1, g1⟩
  have hq2 := hq1 (by omega)
  obtain ⟨q, rfl⟩ := Int.eq_ofNat_of_zero_le hq0
  have hg1 : g < w.heap.size + 1 := by omega
  have hO1 := own_gr hO0 g1 hg1
  have X1 := X0.grown g1 (by intro e; have := Option.some.inj e; omega)
  have G1 := gr_trans G0 g1
  clear hq1 hO0 X0 G0 hc0 g1
  go_wp2_with fail
  go_loopw [5, 6] (fun v i wr => ∃ (q : Nat) (l : List Int), i = .int .i64 q ∧ l.length + q ≤ 3 ∧ wr.ownsRow (w.heap.size + 1) 3 1 v l.length (zints l) ∧ Blk wr w.heap.size 30 #[.slice A n c] ∧ Cur B wr g ∧ w.grownBy wr (some g)) (fun _ i _ => (intOf i).toNat)
  case atStart => exact ⟨q, [], rfl, by simp; omega, hO1, X1, hc1, G1⟩
  case round =>
    clear hO1 X1 hc1 G1 hq0 hq2
    obtain ⟨q, l, rfl, hql, hO, X, hC, G⟩ := hrel
    have cX := X.cell
    by_cases hp : 0 < q
    · have hp' : (0 : Int) < (q : Int) := by omega
      go_wp2_with fail
      refine (dBelow B g _ _ hC (by omega)).mono ?_; rintro e w2 ⟨⟨y, rfl, hy0', hy1', _⟩, hc2, g2⟩
      have hy2' := hy1' (by omega)
      have hO2 := own_gr hO g2 hg1
      have X2 := X.grown g2 (by intro e; have := Option.some.inj e; omega)
      have G2 := gr_trans G g2
      have sz2 := G2.size
      have lt2 := X2.lt
      clear hy1' hO X cX G g2 hC
      go_wp2_with (at_builtin; refine wpList_push rfl _ _ 25 rfl (w.heap.size + 1) 3 j0 (.int .i64 0) 1 8 Try.underlying25 hj hy0 hy1 hy2 rfl (by decide) _ _ _ rfl hO2 _ rfl (by first | rfl | (rw [alloc_size]; rfl)) rfl (by omega) (by omega) (by omega) ?_)
      intro v' w3 hO3 hg3
      have hb3 := fun k (e : (some k : Option Nat) = _) => hO2.lt k e.symm
      have X3 := X2.grown hg3 (by intro e; have := (hb3 _ e).1; omega)
      have hc3 := hc2.far hg3 (fun k e => by have := (hb3 k e.symm).1; omega)
      have G3 : w.grownBy w3 (some g) := gr_chain G2 (.inr fun k e => by have := (hb3 k e.symm).1; omega) hg3
      clear hb3
      go_wp2_with fail
      go_roundw
      case rel => exact ⟨q - 1, l ++ [y - 1], by go_num, by rw [List.length_append]; show l.length + 1 + (q - 1) ≤ 3; omega, by rw [List.length_append, ← zints_snoc]; exact hO3, X3, hc3, G3⟩
      case measure => (simp [intOf] <;> omega)
    · obtain rfl : q = 0 := by omega
      go_wp2_with fail
      go_ret
      exact ⟨⟨_, l, rfl, by omega, Row.mk (own_base hO (by omega))⟩, hC, G⟩

end Go.Proofs.Ytnoekbgmhnhneaa
