/- Walks over the reference's DrawRex. -/
import Derived.Test.YtnoekbgmhnhneaaRexE
namespace Go.Proofs.Ytnoekbgmhnhneaa
open Go.RowKit

theorem res_cell_1 {fn : Func} {p a0 : Tmp} {ty : TypeId} (h : fn.results = #[.cell p ty, .tmp a0]) (tmps : Array Value) (P : Program) (w : World) (g : Nat) (t : TypeId) (cs : Array Value) {fs : _}
    (hp : tmps.getD p undef = .pointer (some ⟨g, 0, none⟩)) (hg : Blk w g t cs)
    (hu : P.underlying ty = some (.struct fs)) (hi : (P.info? ty).map (·.size) = some cs.size) :
    (results fn tmps).run P w = .ok (.tuple #[.agg cs, tmps.getD a0 undef]) w := by
  have hp' : tmps[p]?.getD undef = .pointer (some ⟨g, 0, none⟩) := by simpa using hp
  simp [results, h, hp', asAddr, run_loadVar_row w g t ty cs (0, 0) (.struct fs) hg hu rfl hi]

/-- It hands back a drawn expression and a text. -/
def RetXS (Q : Int → ByteArray → Fr (Int × ByteArray) → Prop) (w : World) (e : Ending) (w' : World) : Prop := ∃ (zk : Int) (zs : ByteArray) (kids : Fr (Int × ByteArray)) (A : Option Addr) (c : Nat) (s : ByteArray), e = .returned (.tuple #[.agg #[.int .i64 zk, .string zs, .slice A kids.len c], .string s]) ∧ s.size ≤ 6 ∧ SlK rexC w' w.heap.size w'.heap.size A c kids ∧ Q zk zs kids
set_option maxRecDepth 20000 in
set_option maxHeartbeats 4000000 in
theorem dRex (A0 : Option Addr) (n0 c0 : Nat) (bs : List Int) (w : World) (hR : Reads w w.heap.size 1 A0 n0 (u8s bs)) (hZ : Byt bs) (hn : n0 ≤ 1048576) :
    Calls Try.prog 38 #[.slice A0 n0 c0] w fun e w' => RetXS (goodR 3) w e w' ∧ Below w.heap.size w w' := by
  have R0 := Blk.new w 45 #[.int .i64 0, .string ⟨#[]⟩, .slice none 0 0]
  have L0 := bl_alloc (Below.refl w.heap.size w) (.cells #[.int .i64 0, .string ⟨#[]⟩, .slice none 0 0] 45)
  have hR0 := hR.alloc (Nat.le_refl _) (.cells #[.int .i64 0, .string ⟨#[]⟩, .slice none 0 0] 45)
  have es := Nat.le_of_eq (alloc_size w (.cells #[.int .i64 0, .string ⟨#[]⟩, .slice none 0 0] 45)).symm
  go_enter Try.func38, Try.ntmps38
  go_wp2_with fail
  refine (dNew w.heap.size n0 c0 A0 bs _ hR0 hZ (by omega) hn).mono ?_; rintro e w1 ⟨g, rfl, hc1, hg, b1⟩
  have L1 := bl_trans L0 b1
  have R1 := R0.keep b1
  have hgw : w.heap.size < g := by omega
  have hg1 := hc1.lt
  clear R0 L0 hR0 b1 hg es
  go_wp2_with fail
  refine (dDraw w.heap.size g 3 (by omega) _ hc1).mono ?_; rintro e w2 ⟨⟨zk, zs, kids, A, c, rfl, hS2, hgood⟩, hc2, G2⟩
  have R2 := R1.grown G2 (by simp; omega)
  have s2 := G2.size
  go_wp2_with fail
  refine (dText w.heap.size g _ hc2).mono ?_; rintro e w3 ⟨⟨s, rfl, hs⟩, hc3, hg3⟩
  have R3 := R2.grown hg3 (by simp; omega)
  have hS3 := hS2.grown hg3 (fun k e => by cases e; omega) (Nat.le_refl _)
  have G3 := gr_trans G2 hg3
  have s3 := hg3.size
  have L3 := bl_gr L1 G3 (fun k e => by cases e; omega)
  have f1 := R3.frozen
  have p1 := R3.cell
  clear hc2 R2 hS2 G2 hg3
  go_wp2_with fail
  exact bodyPost_ret (res_cell_1 rfl _ _ _ _ _ _ rfl (((R3.set_ 0 _).set_ 1 _).set_ 2 _) Try.underlying45 (by kernel_rfl)) rfl ⟨⟨zk, zs, kids, A, c, s, rfl, hs, (((hS3.setb (.inl (by omega)) _).setb (.inl (by omega)) _).setb (.inl (by omega)) _).more (by omega) (by simp <;> omega), hgood⟩, bl_setb (bl_setb (bl_setb L3 (Nat.le_refl _) _) (Nat.le_refl _) _) (Nat.le_refl _) _⟩


end Go.Proofs.Ytnoekbgmhnhneaa
