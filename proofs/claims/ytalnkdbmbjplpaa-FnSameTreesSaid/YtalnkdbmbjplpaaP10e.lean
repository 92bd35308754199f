/- Walks over the reference's DrawSameExpr, DrawSameStmt, DrawSameProg: two terms, two statements, two programs. -/
import Derived.Test.YtalnkdbmbjplpaaP10p
namespace Go.Proofs.Ytalnkdbmbjplpaa
open Go.RowKit

theorem res_cell2 {fn : Func} {p q : Tmp} {ty : TypeId} (h : fn.results = #[.cell p ty, .cell q ty]) (tmps : Array Value) (P : Program) (w : World) (g r : Nat) (t t' : TypeId) (cs cs' : Array Value) {fs : _}
    (hp : tmps.getD p undef = .pointer (some ⟨g, 0, none⟩)) (hq : tmps.getD q undef = .pointer (some ⟨r, 0, none⟩)) (hg : Blk w g t cs) (hr : Blk w r t' cs')
    (hu : P.underlying ty = some (.struct fs)) (hi : (P.info? ty).map (·.size) = some cs.size) (hi' : (P.info? ty).map (·.size) = some cs'.size) :
    (results fn tmps).run P w = .ok (.tuple #[.agg cs, .agg cs']) w := by
  have hp' : tmps[p]?.getD undef = .pointer (some ⟨g, 0, none⟩) := by simpa using hp
  have hq' : tmps[q]?.getD undef = .pointer (some ⟨r, 0, none⟩) := by simpa using hq
  simp [results, h, hp', hq', asAddr, run_loadVar_row w g t ty cs (0, 0) (.struct fs) hg hu rfl hi, run_loadVar_row w r t' ty cs' (0, 0) (.struct fs) hr hu rfl hi']
/-- What holds of a world behind a draw. -/
def Fin (w w' : World) : Prop := Below w.heap.size w w'
def SE (w : World) (A : Option Addr) (kids : Fr (Int × Int × ByteArray)) : Prop := Sl exprC w 0 w.heap.size A kids
def SS_ (w : World) (A : Option Addr) (p : St) : Prop := SlS w 0 w.heap.size A p
/-- It hands back two terms. -/
def R2E (w : World) (e : Ending) (w' : World) : Prop := ∃ (k n : Int) (s : ByteArray) (x : Fr (Int × Int × ByteArray)) (A : Option Addr) (c : Nat) (k' n' : Int) (s' : ByteArray) (x' : Fr (Int × Int × ByteArray)) (A' : Option Addr) (c' : Nat),
  e = .returned (.tuple #[.agg #[.int .i64 k, .int .i64 n, .string s, .slice A x.len c], .agg #[.int .i64 k', .int .i64 n', .string s', .slice A' x'.len c']]) ∧ x.size ≤ 77 ∧ x'.size ≤ 77 ∧ SE w' A x ∧ SE w' A' x' ∧ Below w.heap.size w w'
/-- It hands back two statements. -/
def R2S (w : World) (e : Ending) (w' : World) : Prop := ∃ (k : Int) (s t : ByteArray) (x : Fr (Int × Int × ByteArray)) (p q : St) (X A Q : Option Addr) (cx ca cq : Nat) (k' : Int) (s' t' : ByteArray) (x' : Fr (Int × Int × ByteArray)) (p' q' : St) (X' A' Q' : Option Addr) (cx' ca' cq' : Nat),
  e = .returned (.tuple #[.agg #[.int .i64 k, .string s, .string t, .slice X x.len cx, .slice A p.len ca, .slice Q q.len cq], .agg #[.int .i64 k', .string s', .string t', .slice X' x'.len cx', .slice A' p'.len ca', .slice Q' q'.len cq']]) ∧ x.size + p.size + q.size ≤ 2200 ∧ x'.size + p'.size + q'.size ≤ 2200 ∧ (SE w' X x ∧ SS_ w' A p ∧ SS_ w' Q q) ∧ (SE w' X' x' ∧ SS_ w' A' p' ∧ SS_ w' Q' q') ∧ Below w.heap.size w w'
/-- It hands back two programs. -/
def R2P (w : World) (e : Ending) (w' : World) : Prop := ∃ (AR AF : Option Addr) (cR cF : Nat) (L : List TR) (M : List TF) (AR' AF' : Option Addr) (cR' cF' : Nat) (L' : List TR) (M' : List TF),
  e = .returned (.tuple #[.agg #[.slice AR L.length cR, .slice AF M.length cF], .agg #[.slice AR' L'.length cR', .slice AF' M'.length cF']]) ∧ PBnd L M ∧ PBnd L' M' ∧ (RulP w' (fun b => b < w'.heap.size) AR L ∧ FunP w' (fun b => b < w'.heap.size) AF M) ∧ (RulP w' (fun b => b < w'.heap.size) AR' L' ∧ FunP w' (fun b => b < w'.heap.size) AF' M') ∧ Below w.heap.size w w'
section
variable {B g : Nat} {U : Nat → Prop} {w : World} {A : Option Addr} {x : Fr (Int × Int × ByteArray)} {p : St}
theorem SlP.se (h : SlP exprC w U A x) (C : Cu B g U w) : SE w A x := h.to (fun b hb => ⟨Nat.zero_le _, C.2.2 b hb⟩)
theorem SlSP.ss (h : SlSP w U A p) (C : Cu B g U w) : SS_ w A p := h.to (fun b hb => ⟨Nat.zero_le _, C.2.2 b hb⟩)
end

set_option maxRecDepth 20000 in
set_option maxHeartbeats 8000000 in
theorem dDrawSameExpr (A0 : Option Addr) (n0 c0 : Nat) (bs : List Int) (w : World) (hR : Reads w w.heap.size 1 A0 n0 (u8s bs)) (hZ : Byt bs) (hn : n0 ≤ 1048576) :
    Calls Try.prog 5 #[.slice A0 n0 c0] w fun e w' => R2E w e w' := by
  have B2 := (Blk.new w 26 #[.int .i64 0, .int .i64 0, .string ⟨#[]⟩, .slice none 0 0]).alloc (.cells #[.int .i64 0, .int .i64 0, .string ⟨#[]⟩, .slice none 0 0] 26)
  have B3 := Blk.new2 w (.cells #[.int .i64 0, .int .i64 0, .string ⟨#[]⟩, .slice none 0 0] 26) 26 #[.int .i64 0, .int .i64 0, .string ⟨#[]⟩, .slice none 0 0]
  have L0 := bl_alloc (bl_alloc (Below.refl w.heap.size w) (.cells #[.int .i64 0, .int .i64 0, .string ⟨#[]⟩, .slice none 0 0] 26)) (.cells #[.int .i64 0, .int .i64 0, .string ⟨#[]⟩, .slice none 0 0] 26)
  have hz2 : ((w.alloc (.cells #[.int .i64 0, .int .i64 0, .string ⟨#[]⟩, .slice none 0 0] 26)).alloc (.cells #[.int .i64 0, .int .i64 0, .string ⟨#[]⟩, .slice none 0 0] 26)).heap.size = w.heap.size + 2 := by rw [alloc_size, alloc_size]
  go_enter Try.func5, Try.ntmps5
  go_wp2_with fail
  generalize (w.alloc (.cells #[.int .i64 0, .int .i64 0, .string ⟨#[]⟩, .slice none 0 0] 26)).alloc (.cells #[.int .i64 0, .int .i64 0, .string ⟨#[]⟩, .slice none 0 0] 26) = wz at B2 B3 L0 hz2 ⊢
  refine (dNew w.heap.size n0 c0 A0 bs wz (hR.below L0) hZ (by omega) hn).mono ?_; rintro e w1 ⟨g, rfl, hc1, hg1, b1⟩
  have L1 := bl_trans L0 b1
  replace B2 := B2.keep b1
  replace B3 := B3.keep b1
  have C1 : Cu w.heap.size g (fun _ => False) w1 := ⟨hc1, id, fun b h => h.elim⟩
  have hw1 : w.heap.size + 2 ≤ w1.heap.size := by have := b1.size; omega
  replace hg1 : w.heap.size + 2 ≤ g := by omega
  clear L0 hz2 b1 hc1
  go_wp2_with fail
  refine (dAny8 _ g _ _ C1).mono ?_; rintro e w2 ⟨zk, zn, zs, kids, A, c, U2, rfl, hks, SX, C, G⟩
  replace B2 := B2.grown G.grown (fun e => by injection e with e; omega)
  replace B3 := B3.grown G.grown (fun e => by injection e with e; omega)
  have hrb0 := G.sz
  go_wp2_with fail
  have Rb := Bx.new C 26 #[.int .i64 zk, .int .i64 zn, .string zs, .slice A kids.len c]
  replace B2 := B2.alloc (.cells #[.int .i64 zk, .int .i64 zn, .string zs, .slice A kids.len c] 26)
  replace B3 := B3.alloc (.cells #[.int .i64 zk, .int .i64 zn, .string zs, .slice A kids.len c] 26)
  replace SX := SX.alloc C (.cells #[.int .i64 zk, .int .i64 zn, .string zs, .slice A kids.len c] 26)
  replace G := G.alloc (.cells #[.int .i64 zk, .int .i64 zn, .string zs, .slice A kids.len c] 26)
  replace C := C.alloc (.cells #[.int .i64 zk, .int .i64 zn, .string zs, .slice A kids.len c] 26)
  generalize w2.alloc (.cells #[.int .i64 zk, .int .i64 zn, .string zs, .slice A kids.len c] 26) = w3 at SX B2 B3 Rb G C ⊢
  generalize w2.heap.size = rb at Rb hrb0 ⊢
  refine (cOnce 2 C (by omega)).mono ?_; rintro e w4 ⟨⟨bo, rfl⟩, C4, G4⟩
  replace B2 := B2.grown G4.grown (fun e => by injection e with e; omega)
  replace B3 := B3.grown G4.grown (fun e => by injection e with e; omega)
  replace Rb := Rb.gro G4
  replace SX := SX.gro C G4
  replace G := G.trans G4
  clear C
  have C := C4
  clear C4 G4
  cases bo
  · have RB := Rb.1
    have hgrb := Rb.2.2
    go_upto_region 5 with fail
    refine wp_region_any (by kernel_rfl) ?_
    change wpAny _ _ _ _ (4 + 1) _ _ (World.drew _)
    have bd := (Below.refl w4.heap.size w4).drew
    replace SX := SX.below C bd
    replace B2 := B2.below bd B2.lt
    replace B3 := B3.below bd B3.lt
    replace RB := RB.below bd RB.lt
    replace G := G.below bd
    replace C := C.below bd
    clear bd Rb
    generalize w4.drew = wd at SX B2 B3 RB G C ⊢
    refine wpAny_last 4 _ rfl (by kernel_rfl) (by kernel_rfl) (by kernel_rfl) (by kernel_rfl) 4 _ _ _ (by kernel_rfl) (by kernel_rfl) ?_
    simp only [List.setIfInBounds_toArray, List.set_cons_succ, List.set_cons_zero]
    refine wpAny_of_held (S := fun y => Blk y rb 26 #[.int .i64 zk, .int .i64 zn, .string zs, .slice A kids.len c]) _ _ _ _ ?_
    have hHeld : (fun y => Blk y rb 26 #[.int .i64 zk, .int .i64 zn, .string zs, .slice A kids.len c] : World → Prop) wd := RB
    refine wpAnyH_take (i := 0) (oi := ⟨some 14, _, _, _, _, _⟩) (v := ?_) rfl (by kernel_rfl) (by kernel_rfl) (by kernel_rfl) (fun _ _ _ h => h) (Or.inl ⟨by rfl, ?_⟩) (by assumption) ?_
    case refine_2 => (intro w hSw; have p := hSw.cell; go_simp; first | done | with_reducible rfl)
    simp only [Act.put, List.setIfInBounds_toArray, List.set_cons_zero, List.set_cons_succ]
    refine wpAnyH_take (i := 1) (oi := ⟨some 15, _, _, _, _, _⟩) (v := ?_) rfl (by kernel_rfl) (by kernel_rfl) (by kernel_rfl) (fun _ _ _ h => h) (Or.inl ⟨by rfl, ?_⟩) (by assumption) ?_
    case refine_2 => (intro w hSw; skip; go_simp; first | done | with_reducible rfl)
    simp only [Act.put, List.setIfInBounds_toArray, List.set_cons_zero, List.set_cons_succ]
    refine wpAnyH_ready (rs := [2]) (by kernel_rfl) (by simp) ?_
    refine AllReadyH.cons (o := ⟨some 16, _, _, _, _, _⟩) rfl (fun K hK => ?_) AllReadyH.nil
    go_simp
    refine (dAny8 _ g _ _ C).mono ?_; rintro e w5 ⟨zk', zn', zs', kids', A', c', U5, rfl, hks2, SX2, C5, G5⟩
    go_wp2_with fail
    refine hK.out _ _ (RB.grown G5.grown (fun e => by injection e with e; omega)) (fun hHeld => ?_)
    clear hK K
    replace B2 := B2.grown G5.grown (fun e => by injection e with e; omega)
    replace B3 := B3.grown G5.grown (fun e => by injection e with e; omega)
    replace RB := RB.grown G5.grown (fun e => by injection e with e; omega)
    replace SX := SX.gro C G5
    replace G := G.trans G5
    clear C
    have C := C5
    clear C5 G5
    have hbnd := fun b hb => (show w1.heap.size ≤ b ∧ b < w5.heap.size from ⟨(G.new b hb).resolve_left id, C.2.2 b hb⟩)
    replace SX := SX.to (lo := w1.heap.size) (hi := w5.heap.size) (fun b hb => hbnd b hb)
    replace SX2 := SX2.to (lo := w1.heap.size) (hi := w5.heap.size) (fun b hb => hbnd b hb)
    have BL := bl_gr L1 G.grown (fun k e => by injection e with e; omega)
    clear hbnd C G
    try simp only [Act.put, List.setIfInBounds_toArray, List.set_cons_zero, List.set_cons_succ]
    refine wpAnyH_ready (rs := [3]) (by kernel_rfl) (by simp) ?_
    refine AllReadyH.cons (o := ⟨none, _, _, _, _, _⟩) rfl (fun K hK => ?_) AllReadyH.nil
    have pc0 := B2.cell
    have pf0 := B2.frozen
    go_simp
    go_wp2_with fail
    clear pc0 pf0
    refine hK.out _ _ (((((hHeld.farb (b := w.heap.size) (j := 0) (by omega) (.int .i64 zk)).farb (b := w.heap.size) (j := 1) (by omega) (.int .i64 zn)).farb (b := w.heap.size) (j := 2) (by omega) (.string zs)).farb (b := w.heap.size) (j := 3) (by omega) (.slice A kids.len c))) (fun hHeld => ?_)
    clear hK K
    replace SX := SX.setb (b := w.heap.size) (j := 0) (.inl (by omega)) (.int .i64 zk)
    replace SX2 := SX2.setb (b := w.heap.size) (j := 0) (.inl (by omega)) (.int .i64 zk)
    replace B3 := B3.farb (b := w.heap.size) (j := 0) (by omega) (.int .i64 zk)
    replace BL := bl_setb (b := w.heap.size) (j := 0) BL (by omega) (.int .i64 zk)
    replace B2 := B2.set_ 0 (.int .i64 zk)
    replace SX := SX.setb (b := w.heap.size) (j := 1) (.inl (by omega)) (.int .i64 zn)
    replace SX2 := SX2.setb (b := w.heap.size) (j := 1) (.inl (by omega)) (.int .i64 zn)
    replace B3 := B3.farb (b := w.heap.size) (j := 1) (by omega) (.int .i64 zn)
    replace BL := bl_setb (b := w.heap.size) (j := 1) BL (by omega) (.int .i64 zn)
    replace B2 := B2.set_ 1 (.int .i64 zn)
    replace SX := SX.setb (b := w.heap.size) (j := 2) (.inl (by omega)) (.string zs)
    replace SX2 := SX2.setb (b := w.heap.size) (j := 2) (.inl (by omega)) (.string zs)
    replace B3 := B3.farb (b := w.heap.size) (j := 2) (by omega) (.string zs)
    replace BL := bl_setb (b := w.heap.size) (j := 2) BL (by omega) (.string zs)
    replace B2 := B2.set_ 2 (.string zs)
    replace SX := SX.setb (b := w.heap.size) (j := 3) (.inl (by omega)) (.slice A kids.len c)
    replace SX2 := SX2.setb (b := w.heap.size) (j := 3) (.inl (by omega)) (.slice A kids.len c)
    replace B3 := B3.farb (b := w.heap.size) (j := 3) (by omega) (.slice A kids.len c)
    replace BL := bl_setb (b := w.heap.size) (j := 3) BL (by omega) (.slice A kids.len c)
    replace B2 := B2.set_ 3 (.slice A kids.len c)
    simp only [List.setIfInBounds_toArray, List.set_cons_succ, List.set_cons_zero] at B2
    try simp only [Act.put, List.setIfInBounds_toArray, List.set_cons_zero, List.set_cons_succ]
    refine wpAnyH_done (by kernel_rfl) ?_ _
    refine relQ_normal ?_
    refine wpOp_step (o := ⟨none, _, _, _, _, _⟩) rfl (fun K hK => ?_)
    have pc0 := B3.cell
    have pf0 := B3.frozen
    have pc1 := B2.cell
    go_simp
    go_wp2_with fail
    replace SX := SX.setb (b := (w.heap.size + 1)) (j := 0) (.inl (by omega)) (.int .i64 zk')
    replace SX2 := SX2.setb (b := (w.heap.size + 1)) (j := 0) (.inl (by omega)) (.int .i64 zk')
    replace B2 := B2.farb (b := (w.heap.size + 1)) (j := 0) (by omega) (.int .i64 zk')
    replace BL := bl_setb (b := (w.heap.size + 1)) (j := 0) BL (by omega) (.int .i64 zk')
    replace B3 := B3.set_ 0 (.int .i64 zk')
    replace SX := SX.setb (b := (w.heap.size + 1)) (j := 1) (.inl (by omega)) (.int .i64 zn')
    replace SX2 := SX2.setb (b := (w.heap.size + 1)) (j := 1) (.inl (by omega)) (.int .i64 zn')
    replace B2 := B2.farb (b := (w.heap.size + 1)) (j := 1) (by omega) (.int .i64 zn')
    replace BL := bl_setb (b := (w.heap.size + 1)) (j := 1) BL (by omega) (.int .i64 zn')
    replace B3 := B3.set_ 1 (.int .i64 zn')
    replace SX := SX.setb (b := (w.heap.size + 1)) (j := 2) (.inl (by omega)) (.string zs')
    replace SX2 := SX2.setb (b := (w.heap.size + 1)) (j := 2) (.inl (by omega)) (.string zs')
    replace B2 := B2.farb (b := (w.heap.size + 1)) (j := 2) (by omega) (.string zs')
    replace BL := bl_setb (b := (w.heap.size + 1)) (j := 2) BL (by omega) (.string zs')
    replace B3 := B3.set_ 2 (.string zs')
    replace SX := SX.setb (b := (w.heap.size + 1)) (j := 3) (.inl (by omega)) (.slice A' kids'.len c')
    replace SX2 := SX2.setb (b := (w.heap.size + 1)) (j := 3) (.inl (by omega)) (.slice A' kids'.len c')
    replace B2 := B2.farb (b := (w.heap.size + 1)) (j := 3) (by omega) (.slice A' kids'.len c')
    replace BL := bl_setb (b := (w.heap.size + 1)) (j := 3) BL (by omega) (.slice A' kids'.len c')
    replace B3 := B3.set_ 3 (.slice A' kids'.len c')
    simp only [List.setIfInBounds_toArray, List.set_cons_succ, List.set_cons_zero] at B3
    have hsz : w5.heap.size ≤ ((((((((w5.setCell ⟨w.heap.size, 0, none⟩ (.int .i64 zk)).setCell ⟨w.heap.size, 1, none⟩ (.int .i64 zn)).setCell ⟨w.heap.size, 2, none⟩ (.string zs)).setCell ⟨w.heap.size, 3, none⟩ (.slice A kids.len c)).setCell ⟨(w.heap.size + 1), 0, none⟩ (.int .i64 zk')).setCell ⟨(w.heap.size + 1), 1, none⟩ (.int .i64 zn')).setCell ⟨(w.heap.size + 1), 2, none⟩ (.string zs')).setCell ⟨(w.heap.size + 1), 3, none⟩ (.slice A' kids'.len c')).heap.size := by simp
    exact bodyPost_ret (res_cell2 rfl _ _ _ _ _ _ _ _ _ rfl rfl B2 B3 Try.underlying26 (by kernel_rfl) (by kernel_rfl)) rfl ⟨zk, zn, zs, kids, A, c, zk', zn', zs', kids', A', c', rfl, hks, hks2, SX.more (Nat.zero_le _) (by have := hsz; omega), SX2.more (Nat.zero_le _) (by have := hsz; omega), BL⟩
  · have RB := Rb.1
    have hbnd := fun b hb => (show w1.heap.size ≤ b ∧ b < w4.heap.size from ⟨(G.new b hb).resolve_left id, C.2.2 b hb⟩)
    replace SX := SX.to (lo := w1.heap.size) (hi := w4.heap.size) (fun b hb => hbnd b hb)
    have BL := bl_gr L1 G.grown (fun k e => by injection e with e; omega)
    clear hbnd Rb C G
    go_upto_region 4 with fail
    refine wp_region_any (by kernel_rfl) ?_
    change wpAny _ _ _ _ (3 + 1) _ _ (World.drew _)
    have bd := (Below.refl w4.heap.size w4).drew
    replace SX := SX.below bd (Nat.le_refl _)
    replace B2 := B2.below bd B2.lt
    replace B3 := B3.below bd B3.lt
    replace RB := RB.below bd RB.lt
    replace BL := bl_trans BL (Below.drew (Below.refl w4.heap.size w4))
    clear bd
    have h4d : w4.drew.heap.size = w4.heap.size := rfl
    generalize w4.drew = wd at SX B2 B3 RB BL h4d ⊢
    refine wpAny_last 3 _ rfl (by kernel_rfl) (by kernel_rfl) (by kernel_rfl) (by kernel_rfl) 3 _ _ _ (by kernel_rfl) (by kernel_rfl) ?_
    simp only [List.setIfInBounds_toArray, List.set_cons_succ, List.set_cons_zero]
    refine wpAny_of_held (S := fun y => Blk y rb 26 #[.int .i64 zk, .int .i64 zn, .string zs, .slice A kids.len c]) _ _ _ _ ?_
    have hHeld : (fun y => Blk y rb 26 #[.int .i64 zk, .int .i64 zn, .string zs, .slice A kids.len c] : World → Prop) wd := RB
    refine wpAnyH_take (i := 0) (oi := ⟨some 12, _, _, _, _, _⟩) (v := ?_) rfl (by kernel_rfl) (by kernel_rfl) (by kernel_rfl) (fun _ _ _ h => h) (Or.inl ⟨by rfl, ?_⟩) (by assumption) ?_
    case refine_2 => (intro w hSw; have p := hSw.cell; go_simp; first | done | with_reducible rfl)
    simp only [Act.put, List.setIfInBounds_toArray, List.set_cons_zero, List.set_cons_succ]
    refine wpAnyH_take (i := 1) (oi := ⟨some 13, _, _, _, _, _⟩) (v := ?_) rfl (by kernel_rfl) (by kernel_rfl) (by kernel_rfl) (fun _ _ _ h => h) (Or.inl ⟨by rfl, ?_⟩) (by assumption) ?_
    case refine_2 => (intro w hSw; have p := hSw.cell; go_simp; first | done | with_reducible rfl)
    simp only [Act.put, List.setIfInBounds_toArray, List.set_cons_zero, List.set_cons_succ]
    refine wpAnyH_ready (rs := [2]) (by kernel_rfl) (by simp) ?_
    refine AllReadyH.cons (o := ⟨none, _, _, _, _, _⟩) rfl (fun K hK => ?_) AllReadyH.nil
    have pc0 := B2.cell
    have pf0 := B2.frozen
    go_simp
    go_wp2_with fail
    clear pc0 pf0
    refine hK.out _ _ (((((hHeld.farb (b := w.heap.size) (j := 0) (by omega) (.int .i64 zk)).farb (b := w.heap.size) (j := 1) (by omega) (.int .i64 zn)).farb (b := w.heap.size) (j := 2) (by omega) (.string zs)).farb (b := w.heap.size) (j := 3) (by omega) (.slice A kids.len c))) (fun hHeld => ?_)
    clear hK K
    replace SX := SX.setb (b := w.heap.size) (j := 0) (.inl (by omega)) (.int .i64 zk)
    replace B3 := B3.farb (b := w.heap.size) (j := 0) (by omega) (.int .i64 zk)
    replace BL := bl_setb (b := w.heap.size) (j := 0) BL (by omega) (.int .i64 zk)
    replace B2 := B2.set_ 0 (.int .i64 zk)
    replace SX := SX.setb (b := w.heap.size) (j := 1) (.inl (by omega)) (.int .i64 zn)
    replace B3 := B3.farb (b := w.heap.size) (j := 1) (by omega) (.int .i64 zn)
    replace BL := bl_setb (b := w.heap.size) (j := 1) BL (by omega) (.int .i64 zn)
    replace B2 := B2.set_ 1 (.int .i64 zn)
    replace SX := SX.setb (b := w.heap.size) (j := 2) (.inl (by omega)) (.string zs)
    replace B3 := B3.farb (b := w.heap.size) (j := 2) (by omega) (.string zs)
    replace BL := bl_setb (b := w.heap.size) (j := 2) BL (by omega) (.string zs)
    replace B2 := B2.set_ 2 (.string zs)
    replace SX := SX.setb (b := w.heap.size) (j := 3) (.inl (by omega)) (.slice A kids.len c)
    replace B3 := B3.farb (b := w.heap.size) (j := 3) (by omega) (.slice A kids.len c)
    replace BL := bl_setb (b := w.heap.size) (j := 3) BL (by omega) (.slice A kids.len c)
    replace B2 := B2.set_ 3 (.slice A kids.len c)
    simp only [List.setIfInBounds_toArray, List.set_cons_succ, List.set_cons_zero] at B2
    try simp only [Act.put, List.setIfInBounds_toArray, List.set_cons_zero, List.set_cons_succ]
    refine wpAnyH_done (by kernel_rfl) ?_ _
    refine relQ_normal ?_
    refine wpOp_step (o := ⟨none, _, _, _, _, _⟩) rfl (fun K hK => ?_)
    have pc0 := B3.cell
    have pf0 := B3.frozen
    have pc1 := B2.cell
    go_simp
    go_wp2_with fail
    replace SX := SX.setb (b := (w.heap.size + 1)) (j := 0) (.inl (by omega)) (.int .i64 zk)
    replace B2 := B2.farb (b := (w.heap.size + 1)) (j := 0) (by omega) (.int .i64 zk)
    replace BL := bl_setb (b := (w.heap.size + 1)) (j := 0) BL (by omega) (.int .i64 zk)
    replace B3 := B3.set_ 0 (.int .i64 zk)
    replace SX := SX.setb (b := (w.heap.size + 1)) (j := 1) (.inl (by omega)) (.int .i64 zn)
    replace B2 := B2.farb (b := (w.heap.size + 1)) (j := 1) (by omega) (.int .i64 zn)
    replace BL := bl_setb (b := (w.heap.size + 1)) (j := 1) BL (by omega) (.int .i64 zn)
    replace B3 := B3.set_ 1 (.int .i64 zn)
    replace SX := SX.setb (b := (w.heap.size + 1)) (j := 2) (.inl (by omega)) (.string zs)
    replace B2 := B2.farb (b := (w.heap.size + 1)) (j := 2) (by omega) (.string zs)
    replace BL := bl_setb (b := (w.heap.size + 1)) (j := 2) BL (by omega) (.string zs)
    replace B3 := B3.set_ 2 (.string zs)
    replace SX := SX.setb (b := (w.heap.size + 1)) (j := 3) (.inl (by omega)) (.slice A kids.len c)
    replace B2 := B2.farb (b := (w.heap.size + 1)) (j := 3) (by omega) (.slice A kids.len c)
    replace BL := bl_setb (b := (w.heap.size + 1)) (j := 3) BL (by omega) (.slice A kids.len c)
    replace B3 := B3.set_ 3 (.slice A kids.len c)
    simp only [List.setIfInBounds_toArray, List.set_cons_succ, List.set_cons_zero] at B3
    have hsz : w4.heap.size ≤ ((((((((wd.setCell ⟨w.heap.size, 0, none⟩ (.int .i64 zk)).setCell ⟨w.heap.size, 1, none⟩ (.int .i64 zn)).setCell ⟨w.heap.size, 2, none⟩ (.string zs)).setCell ⟨w.heap.size, 3, none⟩ (.slice A kids.len c)).setCell ⟨(w.heap.size + 1), 0, none⟩ (.int .i64 zk)).setCell ⟨(w.heap.size + 1), 1, none⟩ (.int .i64 zn)).setCell ⟨(w.heap.size + 1), 2, none⟩ (.string zs)).setCell ⟨(w.heap.size + 1), 3, none⟩ (.slice A kids.len c)).heap.size := by simp; omega
    exact bodyPost_ret (res_cell2 rfl _ _ _ _ _ _ _ _ _ rfl rfl B2 B3 Try.underlying26 (by kernel_rfl) (by kernel_rfl)) rfl ⟨zk, zn, zs, kids, A, c, zk, zn, zs, kids, A, c, rfl, hks, hks, SX.more (Nat.zero_le _) (by have := hsz; omega), SX.more (Nat.zero_le _) (by have := hsz; omega), BL⟩

set_option maxRecDepth 20000 in
set_option maxHeartbeats 8000000 in
theorem dDrawSameStmt (A0 : Option Addr) (n0 c0 : Nat) (bs : List Int) (w : World) (hR : Reads w w.heap.size 1 A0 n0 (u8s bs)) (hZ : Byt bs) (hn : n0 ≤ 1048576) :
    Calls Try.prog 6 #[.slice A0 n0 c0] w fun e w' => R2S w e w' := by
  have B2 := (Blk.new w 31 #[.int .i64 0, .string ⟨#[]⟩, .string ⟨#[]⟩, .slice none 0 0, .slice none 0 0, .slice none 0 0]).alloc (.cells #[.int .i64 0, .string ⟨#[]⟩, .string ⟨#[]⟩, .slice none 0 0, .slice none 0 0, .slice none 0 0] 31)
  have B3 := Blk.new2 w (.cells #[.int .i64 0, .string ⟨#[]⟩, .string ⟨#[]⟩, .slice none 0 0, .slice none 0 0, .slice none 0 0] 31) 31 #[.int .i64 0, .string ⟨#[]⟩, .string ⟨#[]⟩, .slice none 0 0, .slice none 0 0, .slice none 0 0]
  have L0 := bl_alloc (bl_alloc (Below.refl w.heap.size w) (.cells #[.int .i64 0, .string ⟨#[]⟩, .string ⟨#[]⟩, .slice none 0 0, .slice none 0 0, .slice none 0 0] 31)) (.cells #[.int .i64 0, .string ⟨#[]⟩, .string ⟨#[]⟩, .slice none 0 0, .slice none 0 0, .slice none 0 0] 31)
  have hz2 : ((w.alloc (.cells #[.int .i64 0, .string ⟨#[]⟩, .string ⟨#[]⟩, .slice none 0 0, .slice none 0 0, .slice none 0 0] 31)).alloc (.cells #[.int .i64 0, .string ⟨#[]⟩, .string ⟨#[]⟩, .slice none 0 0, .slice none 0 0, .slice none 0 0] 31)).heap.size = w.heap.size + 2 := by rw [alloc_size, alloc_size]
  go_enter Try.func6, Try.ntmps6
  go_wp2_with fail
  generalize (w.alloc (.cells #[.int .i64 0, .string ⟨#[]⟩, .string ⟨#[]⟩, .slice none 0 0, .slice none 0 0, .slice none 0 0] 31)).alloc (.cells #[.int .i64 0, .string ⟨#[]⟩, .string ⟨#[]⟩, .slice none 0 0, .slice none 0 0, .slice none 0 0] 31) = wz at B2 B3 L0 hz2 ⊢
  refine (dNew w.heap.size n0 c0 A0 bs wz (hR.below L0) hZ (by omega) hn).mono ?_; rintro e w1 ⟨g, rfl, hc1, hg1, b1⟩
  have L1 := bl_trans L0 b1
  replace B2 := B2.keep b1
  replace B3 := B3.keep b1
  have C1 : Cu w.heap.size g (fun _ => False) w1 := ⟨hc1, id, fun b h => h.elim⟩
  have hw1 : w.heap.size + 2 ≤ w1.heap.size := by have := b1.size; omega
  replace hg1 : w.heap.size + 2 ≤ g := by omega
  clear L0 hz2 b1 hc1
  go_wp2_with fail
  refine (dAny9 _ g _ _ C1).mono ?_; rintro e w2 ⟨k, s, t, x, p, q, X, A, Q, cx, ca, cq, U2, rfl, hks, SX, SA, SQ, C, G⟩
  replace B2 := B2.grown G.grown (fun e => by injection e with e; omega)
  replace B3 := B3.grown G.grown (fun e => by injection e with e; omega)
  have hrb0 := G.sz
  go_wp2_with fail
  have Rb := Bx.new C 31 #[.int .i64 k, .string s, .string t, .slice X x.len cx, .slice A p.len ca, .slice Q q.len cq]
  replace B2 := B2.alloc (.cells #[.int .i64 k, .string s, .string t, .slice X x.len cx, .slice A p.len ca, .slice Q q.len cq] 31)
  replace B3 := B3.alloc (.cells #[.int .i64 k, .string s, .string t, .slice X x.len cx, .slice A p.len ca, .slice Q q.len cq] 31)
  replace SX := SX.alloc C (.cells #[.int .i64 k, .string s, .string t, .slice X x.len cx, .slice A p.len ca, .slice Q q.len cq] 31)
  replace SA := SA.alloc C (.cells #[.int .i64 k, .string s, .string t, .slice X x.len cx, .slice A p.len ca, .slice Q q.len cq] 31)
  replace SQ := SQ.alloc C (.cells #[.int .i64 k, .string s, .string t, .slice X x.len cx, .slice A p.len ca, .slice Q q.len cq] 31)
  replace G := G.alloc (.cells #[.int .i64 k, .string s, .string t, .slice X x.len cx, .slice A p.len ca, .slice Q q.len cq] 31)
  replace C := C.alloc (.cells #[.int .i64 k, .string s, .string t, .slice X x.len cx, .slice A p.len ca, .slice Q q.len cq] 31)
  generalize w2.alloc (.cells #[.int .i64 k, .string s, .string t, .slice X x.len cx, .slice A p.len ca, .slice Q q.len cq] 31) = w3 at SX SA SQ B2 B3 Rb G C ⊢
  generalize w2.heap.size = rb at Rb hrb0 ⊢
  refine (cOnce 2 C (by omega)).mono ?_; rintro e w4 ⟨⟨bo, rfl⟩, C4, G4⟩
  replace B2 := B2.grown G4.grown (fun e => by injection e with e; omega)
  replace B3 := B3.grown G4.grown (fun e => by injection e with e; omega)
  replace Rb := Rb.gro G4
  replace SX := SX.gro C G4
  replace SA := SA.gro C G4
  replace SQ := SQ.gro C G4
  replace G := G.trans G4
  clear C
  have C := C4
  clear C4 G4
  cases bo
  · have RB := Rb.1
    have hgrb := Rb.2.2
    go_upto_region 5 with fail
    refine wp_region_any (by kernel_rfl) ?_
    change wpAny _ _ _ _ (4 + 1) _ _ (World.drew _)
    have bd := (Below.refl w4.heap.size w4).drew
    replace SX := SX.below C bd
    replace SA := SA.below C bd
    replace SQ := SQ.below C bd
    replace B2 := B2.below bd B2.lt
    replace B3 := B3.below bd B3.lt
    replace RB := RB.below bd RB.lt
    replace G := G.below bd
    replace C := C.below bd
    clear bd Rb
    generalize w4.drew = wd at SX SA SQ B2 B3 RB G C ⊢
    refine wpAny_last 4 _ rfl (by kernel_rfl) (by kernel_rfl) (by kernel_rfl) (by kernel_rfl) 4 _ _ _ (by kernel_rfl) (by kernel_rfl) ?_
    simp only [List.setIfInBounds_toArray, List.set_cons_succ, List.set_cons_zero]
    refine wpAny_of_held (S := fun y => Blk y rb 31 #[.int .i64 k, .string s, .string t, .slice X x.len cx, .slice A p.len ca, .slice Q q.len cq]) _ _ _ _ ?_
    have hHeld : (fun y => Blk y rb 31 #[.int .i64 k, .string s, .string t, .slice X x.len cx, .slice A p.len ca, .slice Q q.len cq] : World → Prop) wd := RB
    refine wpAnyH_take (i := 0) (oi := ⟨some 14, _, _, _, _, _⟩) (v := ?_) rfl (by kernel_rfl) (by kernel_rfl) (by kernel_rfl) (fun _ _ _ h => h) (Or.inl ⟨by rfl, ?_⟩) (by assumption) ?_
    case refine_2 => (intro w hSw; have p := hSw.cell; go_simp; first | done | with_reducible rfl)
    simp only [Act.put, List.setIfInBounds_toArray, List.set_cons_zero, List.set_cons_succ]
    refine wpAnyH_take (i := 1) (oi := ⟨some 15, _, _, _, _, _⟩) (v := ?_) rfl (by kernel_rfl) (by kernel_rfl) (by kernel_rfl) (fun _ _ _ h => h) (Or.inl ⟨by rfl, ?_⟩) (by assumption) ?_
    case refine_2 => (intro w hSw; skip; go_simp; first | done | with_reducible rfl)
    simp only [Act.put, List.setIfInBounds_toArray, List.set_cons_zero, List.set_cons_succ]
    refine wpAnyH_ready (rs := [2]) (by kernel_rfl) (by simp) ?_
    refine AllReadyH.cons (o := ⟨some 16, _, _, _, _, _⟩) rfl (fun K hK => ?_) AllReadyH.nil
    go_simp
    refine (dAny9 _ g _ _ C).mono ?_; rintro e w5 ⟨k', s', t', x', p', q', X', A', Q', cx', ca', cq', U5, rfl, hks2, SX2, SA2, SQ2, C5, G5⟩
    go_wp2_with fail
    refine hK.out _ _ (RB.grown G5.grown (fun e => by injection e with e; omega)) (fun hHeld => ?_)
    clear hK K
    replace B2 := B2.grown G5.grown (fun e => by injection e with e; omega)
    replace B3 := B3.grown G5.grown (fun e => by injection e with e; omega)
    replace RB := RB.grown G5.grown (fun e => by injection e with e; omega)
    replace SX := SX.gro C G5
    replace SA := SA.gro C G5
    replace SQ := SQ.gro C G5
    replace G := G.trans G5
    clear C
    have C := C5
    clear C5 G5
    have hbnd := fun b hb => (show w1.heap.size ≤ b ∧ b < w5.heap.size from ⟨(G.new b hb).resolve_left id, C.2.2 b hb⟩)
    replace SX := SX.to (lo := w1.heap.size) (hi := w5.heap.size) (fun b hb => hbnd b hb)
    replace SA := SA.to (lo := w1.heap.size) (hi := w5.heap.size) (fun b hb => hbnd b hb)
    replace SQ := SQ.to (lo := w1.heap.size) (hi := w5.heap.size) (fun b hb => hbnd b hb)
    replace SX2 := SX2.to (lo := w1.heap.size) (hi := w5.heap.size) (fun b hb => hbnd b hb)
    replace SA2 := SA2.to (lo := w1.heap.size) (hi := w5.heap.size) (fun b hb => hbnd b hb)
    replace SQ2 := SQ2.to (lo := w1.heap.size) (hi := w5.heap.size) (fun b hb => hbnd b hb)
    have BL := bl_gr L1 G.grown (fun k e => by injection e with e; omega)
    clear hbnd C G
    try simp only [Act.put, List.setIfInBounds_toArray, List.set_cons_zero, List.set_cons_succ]
    refine wpAnyH_ready (rs := [3]) (by kernel_rfl) (by simp) ?_
    refine AllReadyH.cons (o := ⟨none, _, _, _, _, _⟩) rfl (fun K hK => ?_) AllReadyH.nil
    have pc0 := B2.cell
    have pf0 := B2.frozen
    go_simp
    go_wp2_with fail
    clear pc0 pf0
    refine hK.out _ _ (((((((hHeld.farb (b := w.heap.size) (j := 0) (by omega) (.int .i64 k)).farb (b := w.heap.size) (j := 1) (by omega) (.string s)).farb (b := w.heap.size) (j := 2) (by omega) (.string t)).farb (b := w.heap.size) (j := 3) (by omega) (.slice X x.len cx)).farb (b := w.heap.size) (j := 4) (by omega) (.slice A p.len ca)).farb (b := w.heap.size) (j := 5) (by omega) (.slice Q q.len cq))) (fun hHeld => ?_)
    clear hK K
    replace SX := SX.setb (b := w.heap.size) (j := 0) (.inl (by omega)) (.int .i64 k)
    replace SA := SA.setb (b := w.heap.size) (j := 0) (.inl (by omega)) (.int .i64 k)
    replace SQ := SQ.setb (b := w.heap.size) (j := 0) (.inl (by omega)) (.int .i64 k)
    replace SX2 := SX2.setb (b := w.heap.size) (j := 0) (.inl (by omega)) (.int .i64 k)
    replace SA2 := SA2.setb (b := w.heap.size) (j := 0) (.inl (by omega)) (.int .i64 k)
    replace SQ2 := SQ2.setb (b := w.heap.size) (j := 0) (.inl (by omega)) (.int .i64 k)
    replace B3 := B3.farb (b := w.heap.size) (j := 0) (by omega) (.int .i64 k)
    replace BL := bl_setb (b := w.heap.size) (j := 0) BL (by omega) (.int .i64 k)
    replace B2 := B2.set_ 0 (.int .i64 k)
    replace SX := SX.setb (b := w.heap.size) (j := 1) (.inl (by omega)) (.string s)
    replace SA := SA.setb (b := w.heap.size) (j := 1) (.inl (by omega)) (.string s)
    replace SQ := SQ.setb (b := w.heap.size) (j := 1) (.inl (by omega)) (.string s)
    replace SX2 := SX2.setb (b := w.heap.size) (j := 1) (.inl (by omega)) (.string s)
    replace SA2 := SA2.setb (b := w.heap.size) (j := 1) (.inl (by omega)) (.string s)
    replace SQ2 := SQ2.setb (b := w.heap.size) (j := 1) (.inl (by omega)) (.string s)
    replace B3 := B3.farb (b := w.heap.size) (j := 1) (by omega) (.string s)
    replace BL := bl_setb (b := w.heap.size) (j := 1) BL (by omega) (.string s)
    replace B2 := B2.set_ 1 (.string s)
    replace SX := SX.setb (b := w.heap.size) (j := 2) (.inl (by omega)) (.string t)
    replace SA := SA.setb (b := w.heap.size) (j := 2) (.inl (by omega)) (.string t)
    replace SQ := SQ.setb (b := w.heap.size) (j := 2) (.inl (by omega)) (.string t)
    replace SX2 := SX2.setb (b := w.heap.size) (j := 2) (.inl (by omega)) (.string t)
    replace SA2 := SA2.setb (b := w.heap.size) (j := 2) (.inl (by omega)) (.string t)
    replace SQ2 := SQ2.setb (b := w.heap.size) (j := 2) (.inl (by omega)) (.string t)
    replace B3 := B3.farb (b := w.heap.size) (j := 2) (by omega) (.string t)
    replace BL := bl_setb (b := w.heap.size) (j := 2) BL (by omega) (.string t)
    replace B2 := B2.set_ 2 (.string t)
    replace SX := SX.setb (b := w.heap.size) (j := 3) (.inl (by omega)) (.slice X x.len cx)
    replace SA := SA.setb (b := w.heap.size) (j := 3) (.inl (by omega)) (.slice X x.len cx)
    replace SQ := SQ.setb (b := w.heap.size) (j := 3) (.inl (by omega)) (.slice X x.len cx)
    replace SX2 := SX2.setb (b := w.heap.size) (j := 3) (.inl (by omega)) (.slice X x.len cx)
    replace SA2 := SA2.setb (b := w.heap.size) (j := 3) (.inl (by omega)) (.slice X x.len cx)
    replace SQ2 := SQ2.setb (b := w.heap.size) (j := 3) (.inl (by omega)) (.slice X x.len cx)
    replace B3 := B3.farb (b := w.heap.size) (j := 3) (by omega) (.slice X x.len cx)
    replace BL := bl_setb (b := w.heap.size) (j := 3) BL (by omega) (.slice X x.len cx)
    replace B2 := B2.set_ 3 (.slice X x.len cx)
    replace SX := SX.setb (b := w.heap.size) (j := 4) (.inl (by omega)) (.slice A p.len ca)
    replace SA := SA.setb (b := w.heap.size) (j := 4) (.inl (by omega)) (.slice A p.len ca)
    replace SQ := SQ.setb (b := w.heap.size) (j := 4) (.inl (by omega)) (.slice A p.len ca)
    replace SX2 := SX2.setb (b := w.heap.size) (j := 4) (.inl (by omega)) (.slice A p.len ca)
    replace SA2 := SA2.setb (b := w.heap.size) (j := 4) (.inl (by omega)) (.slice A p.len ca)
    replace SQ2 := SQ2.setb (b := w.heap.size) (j := 4) (.inl (by omega)) (.slice A p.len ca)
    replace B3 := B3.farb (b := w.heap.size) (j := 4) (by omega) (.slice A p.len ca)
    replace BL := bl_setb (b := w.heap.size) (j := 4) BL (by omega) (.slice A p.len ca)
    replace B2 := B2.set_ 4 (.slice A p.len ca)
    replace SX := SX.setb (b := w.heap.size) (j := 5) (.inl (by omega)) (.slice Q q.len cq)
    replace SA := SA.setb (b := w.heap.size) (j := 5) (.inl (by omega)) (.slice Q q.len cq)
    replace SQ := SQ.setb (b := w.heap.size) (j := 5) (.inl (by omega)) (.slice Q q.len cq)
    replace SX2 := SX2.setb (b := w.heap.size) (j := 5) (.inl (by omega)) (.slice Q q.len cq)
    replace SA2 := SA2.setb (b := w.heap.size) (j := 5) (.inl (by omega)) (.slice Q q.len cq)
    replace SQ2 := SQ2.setb (b := w.heap.size) (j := 5) (.inl (by omega)) (.slice Q q.len cq)
    replace B3 := B3.farb (b := w.heap.size) (j := 5) (by omega) (.slice Q q.len cq)
    replace BL := bl_setb (b := w.heap.size) (j := 5) BL (by omega) (.slice Q q.len cq)
    replace B2 := B2.set_ 5 (.slice Q q.len cq)
    simp only [List.setIfInBounds_toArray, List.set_cons_succ, List.set_cons_zero] at B2
    try simp only [Act.put, List.setIfInBounds_toArray, List.set_cons_zero, List.set_cons_succ]
    refine wpAnyH_done (by kernel_rfl) ?_ _
    refine relQ_normal ?_
    refine wpOp_step (o := ⟨none, _, _, _, _, _⟩) rfl (fun K hK => ?_)
    have pc0 := B3.cell
    have pf0 := B3.frozen
    have pc1 := B2.cell
    go_simp
    go_wp2_with fail
    replace SX := SX.setb (b := (w.heap.size + 1)) (j := 0) (.inl (by omega)) (.int .i64 k')
    replace SA := SA.setb (b := (w.heap.size + 1)) (j := 0) (.inl (by omega)) (.int .i64 k')
    replace SQ := SQ.setb (b := (w.heap.size + 1)) (j := 0) (.inl (by omega)) (.int .i64 k')
    replace SX2 := SX2.setb (b := (w.heap.size + 1)) (j := 0) (.inl (by omega)) (.int .i64 k')
    replace SA2 := SA2.setb (b := (w.heap.size + 1)) (j := 0) (.inl (by omega)) (.int .i64 k')
    replace SQ2 := SQ2.setb (b := (w.heap.size + 1)) (j := 0) (.inl (by omega)) (.int .i64 k')
    replace B2 := B2.farb (b := (w.heap.size + 1)) (j := 0) (by omega) (.int .i64 k')
    replace BL := bl_setb (b := (w.heap.size + 1)) (j := 0) BL (by omega) (.int .i64 k')
    replace B3 := B3.set_ 0 (.int .i64 k')
    replace SX := SX.setb (b := (w.heap.size + 1)) (j := 1) (.inl (by omega)) (.string s')
    replace SA := SA.setb (b := (w.heap.size + 1)) (j := 1) (.inl (by omega)) (.string s')
    replace SQ := SQ.setb (b := (w.heap.size + 1)) (j := 1) (.inl (by omega)) (.string s')
    replace SX2 := SX2.setb (b := (w.heap.size + 1)) (j := 1) (.inl (by omega)) (.string s')
    replace SA2 := SA2.setb (b := (w.heap.size + 1)) (j := 1) (.inl (by omega)) (.string s')
    replace SQ2 := SQ2.setb (b := (w.heap.size + 1)) (j := 1) (.inl (by omega)) (.string s')
    replace B2 := B2.farb (b := (w.heap.size + 1)) (j := 1) (by omega) (.string s')
    replace BL := bl_setb (b := (w.heap.size + 1)) (j := 1) BL (by omega) (.string s')
    replace B3 := B3.set_ 1 (.string s')
    replace SX := SX.setb (b := (w.heap.size + 1)) (j := 2) (.inl (by omega)) (.string t')
    replace SA := SA.setb (b := (w.heap.size + 1)) (j := 2) (.inl (by omega)) (.string t')
    replace SQ := SQ.setb (b := (w.heap.size + 1)) (j := 2) (.inl (by omega)) (.string t')
    replace SX2 := SX2.setb (b := (w.heap.size + 1)) (j := 2) (.inl (by omega)) (.string t')
    replace SA2 := SA2.setb (b := (w.heap.size + 1)) (j := 2) (.inl (by omega)) (.string t')
    replace SQ2 := SQ2.setb (b := (w.heap.size + 1)) (j := 2) (.inl (by omega)) (.string t')
    replace B2 := B2.farb (b := (w.heap.size + 1)) (j := 2) (by omega) (.string t')
    replace BL := bl_setb (b := (w.heap.size + 1)) (j := 2) BL (by omega) (.string t')
    replace B3 := B3.set_ 2 (.string t')
    replace SX := SX.setb (b := (w.heap.size + 1)) (j := 3) (.inl (by omega)) (.slice X' x'.len cx')
    replace SA := SA.setb (b := (w.heap.size + 1)) (j := 3) (.inl (by omega)) (.slice X' x'.len cx')
    replace SQ := SQ.setb (b := (w.heap.size + 1)) (j := 3) (.inl (by omega)) (.slice X' x'.len cx')
    replace SX2 := SX2.setb (b := (w.heap.size + 1)) (j := 3) (.inl (by omega)) (.slice X' x'.len cx')
    replace SA2 := SA2.setb (b := (w.heap.size + 1)) (j := 3) (.inl (by omega)) (.slice X' x'.len cx')
    replace SQ2 := SQ2.setb (b := (w.heap.size + 1)) (j := 3) (.inl (by omega)) (.slice X' x'.len cx')
    replace B2 := B2.farb (b := (w.heap.size + 1)) (j := 3) (by omega) (.slice X' x'.len cx')
    replace BL := bl_setb (b := (w.heap.size + 1)) (j := 3) BL (by omega) (.slice X' x'.len cx')
    replace B3 := B3.set_ 3 (.slice X' x'.len cx')
    replace SX := SX.setb (b := (w.heap.size + 1)) (j := 4) (.inl (by omega)) (.slice A' p'.len ca')
    replace SA := SA.setb (b := (w.heap.size + 1)) (j := 4) (.inl (by omega)) (.slice A' p'.len ca')
    replace SQ := SQ.setb (b := (w.heap.size + 1)) (j := 4) (.inl (by omega)) (.slice A' p'.len ca')
    replace SX2 := SX2.setb (b := (w.heap.size + 1)) (j := 4) (.inl (by omega)) (.slice A' p'.len ca')
    replace SA2 := SA2.setb (b := (w.heap.size + 1)) (j := 4) (.inl (by omega)) (.slice A' p'.len ca')
    replace SQ2 := SQ2.setb (b := (w.heap.size + 1)) (j := 4) (.inl (by omega)) (.slice A' p'.len ca')
    replace B2 := B2.farb (b := (w.heap.size + 1)) (j := 4) (by omega) (.slice A' p'.len ca')
    replace BL := bl_setb (b := (w.heap.size + 1)) (j := 4) BL (by omega) (.slice A' p'.len ca')
    replace B3 := B3.set_ 4 (.slice A' p'.len ca')
    replace SX := SX.setb (b := (w.heap.size + 1)) (j := 5) (.inl (by omega)) (.slice Q' q'.len cq')
    replace SA := SA.setb (b := (w.heap.size + 1)) (j := 5) (.inl (by omega)) (.slice Q' q'.len cq')
    replace SQ := SQ.setb (b := (w.heap.size + 1)) (j := 5) (.inl (by omega)) (.slice Q' q'.len cq')
    replace SX2 := SX2.setb (b := (w.heap.size + 1)) (j := 5) (.inl (by omega)) (.slice Q' q'.len cq')
    replace SA2 := SA2.setb (b := (w.heap.size + 1)) (j := 5) (.inl (by omega)) (.slice Q' q'.len cq')
    replace SQ2 := SQ2.setb (b := (w.heap.size + 1)) (j := 5) (.inl (by omega)) (.slice Q' q'.len cq')
    replace B2 := B2.farb (b := (w.heap.size + 1)) (j := 5) (by omega) (.slice Q' q'.len cq')
    replace BL := bl_setb (b := (w.heap.size + 1)) (j := 5) BL (by omega) (.slice Q' q'.len cq')
    replace B3 := B3.set_ 5 (.slice Q' q'.len cq')
    simp only [List.setIfInBounds_toArray, List.set_cons_succ, List.set_cons_zero] at B3
    have hsz : w5.heap.size ≤ ((((((((((((w5.setCell ⟨w.heap.size, 0, none⟩ (.int .i64 k)).setCell ⟨w.heap.size, 1, none⟩ (.string s)).setCell ⟨w.heap.size, 2, none⟩ (.string t)).setCell ⟨w.heap.size, 3, none⟩ (.slice X x.len cx)).setCell ⟨w.heap.size, 4, none⟩ (.slice A p.len ca)).setCell ⟨w.heap.size, 5, none⟩ (.slice Q q.len cq)).setCell ⟨(w.heap.size + 1), 0, none⟩ (.int .i64 k')).setCell ⟨(w.heap.size + 1), 1, none⟩ (.string s')).setCell ⟨(w.heap.size + 1), 2, none⟩ (.string t')).setCell ⟨(w.heap.size + 1), 3, none⟩ (.slice X' x'.len cx')).setCell ⟨(w.heap.size + 1), 4, none⟩ (.slice A' p'.len ca')).setCell ⟨(w.heap.size + 1), 5, none⟩ (.slice Q' q'.len cq')).heap.size := by simp
    exact bodyPost_ret (res_cell2 rfl _ _ _ _ _ _ _ _ _ rfl rfl B2 B3 Try.underlying31 (by kernel_rfl) (by kernel_rfl)) rfl ⟨k, s, t, x, p, q, X, A, Q, cx, ca, cq, k', s', t', x', p', q', X', A', Q', cx', ca', cq', rfl, hks, hks2, ⟨SX.more (Nat.zero_le _) (by have := hsz; omega), SA.more (Nat.zero_le _) (by have := hsz; omega), SQ.more (Nat.zero_le _) (by have := hsz; omega)⟩, ⟨SX2.more (Nat.zero_le _) (by have := hsz; omega), SA2.more (Nat.zero_le _) (by have := hsz; omega), SQ2.more (Nat.zero_le _) (by have := hsz; omega)⟩, BL⟩
  · have RB := Rb.1
    have hbnd := fun b hb => (show w1.heap.size ≤ b ∧ b < w4.heap.size from ⟨(G.new b hb).resolve_left id, C.2.2 b hb⟩)
    replace SX := SX.to (lo := w1.heap.size) (hi := w4.heap.size) (fun b hb => hbnd b hb)
    replace SA := SA.to (lo := w1.heap.size) (hi := w4.heap.size) (fun b hb => hbnd b hb)
    replace SQ := SQ.to (lo := w1.heap.size) (hi := w4.heap.size) (fun b hb => hbnd b hb)
    have BL := bl_gr L1 G.grown (fun k e => by injection e with e; omega)
    clear hbnd Rb C G
    go_upto_region 4 with fail
    refine wp_region_any (by kernel_rfl) ?_
    change wpAny _ _ _ _ (3 + 1) _ _ (World.drew _)
    have bd := (Below.refl w4.heap.size w4).drew
    replace SX := SX.below bd (Nat.le_refl _)
    replace SA := SA.below bd (Nat.le_refl _)
    replace SQ := SQ.below bd (Nat.le_refl _)
    replace B2 := B2.below bd B2.lt
    replace B3 := B3.below bd B3.lt
    replace RB := RB.below bd RB.lt
    replace BL := bl_trans BL (Below.drew (Below.refl w4.heap.size w4))
    clear bd
    have h4d : w4.drew.heap.size = w4.heap.size := rfl
    generalize w4.drew = wd at SX SA SQ B2 B3 RB BL h4d ⊢
    refine wpAny_last 3 _ rfl (by kernel_rfl) (by kernel_rfl) (by kernel_rfl) (by kernel_rfl) 3 _ _ _ (by kernel_rfl) (by kernel_rfl) ?_
    simp only [List.setIfInBounds_toArray, List.set_cons_succ, List.set_cons_zero]
    refine wpAny_of_held (S := fun y => Blk y rb 31 #[.int .i64 k, .string s, .string t, .slice X x.len cx, .slice A p.len ca, .slice Q q.len cq]) _ _ _ _ ?_
    have hHeld : (fun y => Blk y rb 31 #[.int .i64 k, .string s, .string t, .slice X x.len cx, .slice A p.len ca, .slice Q q.len cq] : World → Prop) wd := RB
    refine wpAnyH_take (i := 0) (oi := ⟨some 12, _, _, _, _, _⟩) (v := ?_) rfl (by kernel_rfl) (by kernel_rfl) (by kernel_rfl) (fun _ _ _ h => h) (Or.inl ⟨by rfl, ?_⟩) (by assumption) ?_
    case refine_2 => (intro w hSw; have p := hSw.cell; go_simp; first | done | with_reducible rfl)
    simp only [Act.put, List.setIfInBounds_toArray, List.set_cons_zero, List.set_cons_succ]
    refine wpAnyH_take (i := 1) (oi := ⟨some 13, _, _, _, _, _⟩) (v := ?_) rfl (by kernel_rfl) (by kernel_rfl) (by kernel_rfl) (fun _ _ _ h => h) (Or.inl ⟨by rfl, ?_⟩) (by assumption) ?_
    case refine_2 => (intro w hSw; have p := hSw.cell; go_simp; first | done | with_reducible rfl)
    simp only [Act.put, List.setIfInBounds_toArray, List.set_cons_zero, List.set_cons_succ]
    refine wpAnyH_ready (rs := [2]) (by kernel_rfl) (by simp) ?_
    refine AllReadyH.cons (o := ⟨none, _, _, _, _, _⟩) rfl (fun K hK => ?_) AllReadyH.nil
    have pc0 := B2.cell
    have pf0 := B2.frozen
    go_simp
    go_wp2_with fail
    clear pc0 pf0
    refine hK.out _ _ (((((((hHeld.farb (b := w.heap.size) (j := 0) (by omega) (.int .i64 k)).farb (b := w.heap.size) (j := 1) (by omega) (.string s)).farb (b := w.heap.size) (j := 2) (by omega) (.string t)).farb (b := w.heap.size) (j := 3) (by omega) (.slice X x.len cx)).farb (b := w.heap.size) (j := 4) (by omega) (.slice A p.len ca)).farb (b := w.heap.size) (j := 5) (by omega) (.slice Q q.len cq))) (fun hHeld => ?_)
    clear hK K
    replace SX := SX.setb (b := w.heap.size) (j := 0) (.inl (by omega)) (.int .i64 k)
    replace SA := SA.setb (b := w.heap.size) (j := 0) (.inl (by omega)) (.int .i64 k)
    replace SQ := SQ.setb (b := w.heap.size) (j := 0) (.inl (by omega)) (.int .i64 k)
    replace B3 := B3.farb (b := w.heap.size) (j := 0) (by omega) (.int .i64 k)
    replace BL := bl_setb (b := w.heap.size) (j := 0) BL (by omega) (.int .i64 k)
    replace B2 := B2.set_ 0 (.int .i64 k)
    replace SX := SX.setb (b := w.heap.size) (j := 1) (.inl (by omega)) (.string s)
    replace SA := SA.setb (b := w.heap.size) (j := 1) (.inl (by omega)) (.string s)
    replace SQ := SQ.setb (b := w.heap.size) (j := 1) (.inl (by omega)) (.string s)
    replace B3 := B3.farb (b := w.heap.size) (j := 1) (by omega) (.string s)
    replace BL := bl_setb (b := w.heap.size) (j := 1) BL (by omega) (.string s)
    replace B2 := B2.set_ 1 (.string s)
    replace SX := SX.setb (b := w.heap.size) (j := 2) (.inl (by omega)) (.string t)
    replace SA := SA.setb (b := w.heap.size) (j := 2) (.inl (by omega)) (.string t)
    replace SQ := SQ.setb (b := w.heap.size) (j := 2) (.inl (by omega)) (.string t)
    replace B3 := B3.farb (b := w.heap.size) (j := 2) (by omega) (.string t)
    replace BL := bl_setb (b := w.heap.size) (j := 2) BL (by omega) (.string t)
    replace B2 := B2.set_ 2 (.string t)
    replace SX := SX.setb (b := w.heap.size) (j := 3) (.inl (by omega)) (.slice X x.len cx)
    replace SA := SA.setb (b := w.heap.size) (j := 3) (.inl (by omega)) (.slice X x.len cx)
    replace SQ := SQ.setb (b := w.heap.size) (j := 3) (.inl (by omega)) (.slice X x.len cx)
    replace B3 := B3.farb (b := w.heap.size) (j := 3) (by omega) (.slice X x.len cx)
    replace BL := bl_setb (b := w.heap.size) (j := 3) BL (by omega) (.slice X x.len cx)
    replace B2 := B2.set_ 3 (.slice X x.len cx)
    replace SX := SX.setb (b := w.heap.size) (j := 4) (.inl (by omega)) (.slice A p.len ca)
    replace SA := SA.setb (b := w.heap.size) (j := 4) (.inl (by omega)) (.slice A p.len ca)
    replace SQ := SQ.setb (b := w.heap.size) (j := 4) (.inl (by omega)) (.slice A p.len ca)
    replace B3 := B3.farb (b := w.heap.size) (j := 4) (by omega) (.slice A p.len ca)
    replace BL := bl_setb (b := w.heap.size) (j := 4) BL (by omega) (.slice A p.len ca)
    replace B2 := B2.set_ 4 (.slice A p.len ca)
    replace SX := SX.setb (b := w.heap.size) (j := 5) (.inl (by omega)) (.slice Q q.len cq)
    replace SA := SA.setb (b := w.heap.size) (j := 5) (.inl (by omega)) (.slice Q q.len cq)
    replace SQ := SQ.setb (b := w.heap.size) (j := 5) (.inl (by omega)) (.slice Q q.len cq)
    replace B3 := B3.farb (b := w.heap.size) (j := 5) (by omega) (.slice Q q.len cq)
    replace BL := bl_setb (b := w.heap.size) (j := 5) BL (by omega) (.slice Q q.len cq)
    replace B2 := B2.set_ 5 (.slice Q q.len cq)
    simp only [List.setIfInBounds_toArray, List.set_cons_succ, List.set_cons_zero] at B2
    try simp only [Act.put, List.setIfInBounds_toArray, List.set_cons_zero, List.set_cons_succ]
    refine wpAnyH_done (by kernel_rfl) ?_ _
    refine relQ_normal ?_
    refine wpOp_step (o := ⟨none, _, _, _, _, _⟩) rfl (fun K hK => ?_)
    have pc0 := B3.cell
    have pf0 := B3.frozen
    have pc1 := B2.cell
    go_simp
    go_wp2_with fail
    replace SX := SX.setb (b := (w.heap.size + 1)) (j := 0) (.inl (by omega)) (.int .i64 k)
    replace SA := SA.setb (b := (w.heap.size + 1)) (j := 0) (.inl (by omega)) (.int .i64 k)
    replace SQ := SQ.setb (b := (w.heap.size + 1)) (j := 0) (.inl (by omega)) (.int .i64 k)
    replace B2 := B2.farb (b := (w.heap.size + 1)) (j := 0) (by omega) (.int .i64 k)
    replace BL := bl_setb (b := (w.heap.size + 1)) (j := 0) BL (by omega) (.int .i64 k)
    replace B3 := B3.set_ 0 (.int .i64 k)
    replace SX := SX.setb (b := (w.heap.size + 1)) (j := 1) (.inl (by omega)) (.string s)
    replace SA := SA.setb (b := (w.heap.size + 1)) (j := 1) (.inl (by omega)) (.string s)
    replace SQ := SQ.setb (b := (w.heap.size + 1)) (j := 1) (.inl (by omega)) (.string s)
    replace B2 := B2.farb (b := (w.heap.size + 1)) (j := 1) (by omega) (.string s)
    replace BL := bl_setb (b := (w.heap.size + 1)) (j := 1) BL (by omega) (.string s)
    replace B3 := B3.set_ 1 (.string s)
    replace SX := SX.setb (b := (w.heap.size + 1)) (j := 2) (.inl (by omega)) (.string t)
    replace SA := SA.setb (b := (w.heap.size + 1)) (j := 2) (.inl (by omega)) (.string t)
    replace SQ := SQ.setb (b := (w.heap.size + 1)) (j := 2) (.inl (by omega)) (.string t)
    replace B2 := B2.farb (b := (w.heap.size + 1)) (j := 2) (by omega) (.string t)
    replace BL := bl_setb (b := (w.heap.size + 1)) (j := 2) BL (by omega) (.string t)
    replace B3 := B3.set_ 2 (.string t)
    replace SX := SX.setb (b := (w.heap.size + 1)) (j := 3) (.inl (by omega)) (.slice X x.len cx)
    replace SA := SA.setb (b := (w.heap.size + 1)) (j := 3) (.inl (by omega)) (.slice X x.len cx)
    replace SQ := SQ.setb (b := (w.heap.size + 1)) (j := 3) (.inl (by omega)) (.slice X x.len cx)
    replace B2 := B2.farb (b := (w.heap.size + 1)) (j := 3) (by omega) (.slice X x.len cx)
    replace BL := bl_setb (b := (w.heap.size + 1)) (j := 3) BL (by omega) (.slice X x.len cx)
    replace B3 := B3.set_ 3 (.slice X x.len cx)
    replace SX := SX.setb (b := (w.heap.size + 1)) (j := 4) (.inl (by omega)) (.slice A p.len ca)
    replace SA := SA.setb (b := (w.heap.size + 1)) (j := 4) (.inl (by omega)) (.slice A p.len ca)
    replace SQ := SQ.setb (b := (w.heap.size + 1)) (j := 4) (.inl (by omega)) (.slice A p.len ca)
    replace B2 := B2.farb (b := (w.heap.size + 1)) (j := 4) (by omega) (.slice A p.len ca)
    replace BL := bl_setb (b := (w.heap.size + 1)) (j := 4) BL (by omega) (.slice A p.len ca)
    replace B3 := B3.set_ 4 (.slice A p.len ca)
    replace SX := SX.setb (b := (w.heap.size + 1)) (j := 5) (.inl (by omega)) (.slice Q q.len cq)
    replace SA := SA.setb (b := (w.heap.size + 1)) (j := 5) (.inl (by omega)) (.slice Q q.len cq)
    replace SQ := SQ.setb (b := (w.heap.size + 1)) (j := 5) (.inl (by omega)) (.slice Q q.len cq)
    replace B2 := B2.farb (b := (w.heap.size + 1)) (j := 5) (by omega) (.slice Q q.len cq)
    replace BL := bl_setb (b := (w.heap.size + 1)) (j := 5) BL (by omega) (.slice Q q.len cq)
    replace B3 := B3.set_ 5 (.slice Q q.len cq)
    simp only [List.setIfInBounds_toArray, List.set_cons_succ, List.set_cons_zero] at B3
    have hsz : w4.heap.size ≤ ((((((((((((wd.setCell ⟨w.heap.size, 0, none⟩ (.int .i64 k)).setCell ⟨w.heap.size, 1, none⟩ (.string s)).setCell ⟨w.heap.size, 2, none⟩ (.string t)).setCell ⟨w.heap.size, 3, none⟩ (.slice X x.len cx)).setCell ⟨w.heap.size, 4, none⟩ (.slice A p.len ca)).setCell ⟨w.heap.size, 5, none⟩ (.slice Q q.len cq)).setCell ⟨(w.heap.size + 1), 0, none⟩ (.int .i64 k)).setCell ⟨(w.heap.size + 1), 1, none⟩ (.string s)).setCell ⟨(w.heap.size + 1), 2, none⟩ (.string t)).setCell ⟨(w.heap.size + 1), 3, none⟩ (.slice X x.len cx)).setCell ⟨(w.heap.size + 1), 4, none⟩ (.slice A p.len ca)).setCell ⟨(w.heap.size + 1), 5, none⟩ (.slice Q q.len cq)).heap.size := by simp; omega
    exact bodyPost_ret (res_cell2 rfl _ _ _ _ _ _ _ _ _ rfl rfl B2 B3 Try.underlying31 (by kernel_rfl) (by kernel_rfl)) rfl ⟨k, s, t, x, p, q, X, A, Q, cx, ca, cq, k, s, t, x, p, q, X, A, Q, cx, ca, cq, rfl, hks, hks, ⟨SX.more (Nat.zero_le _) (by have := hsz; omega), SA.more (Nat.zero_le _) (by have := hsz; omega), SQ.more (Nat.zero_le _) (by have := hsz; omega)⟩, ⟨SX.more (Nat.zero_le _) (by have := hsz; omega), SA.more (Nat.zero_le _) (by have := hsz; omega), SQ.more (Nat.zero_le _) (by have := hsz; omega)⟩, BL⟩

end Go.Proofs.Ytalnkdbmbjplpaa
