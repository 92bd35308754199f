/- Walks over the reference's draws: DrawLongest, DrawEndsOf, DrawRex, DrawMatches. -/
import Derived.Test.YtdfcgnbklnceiaaRexF
import Derived.Deep.RegionHeld3
namespace Go.Proofs.Ytdfcgnbklnceiaa
open Go.RowKit

theorem res_cell_1 {fn : Func} {p a0 : Tmp} {ty : TypeId} (h : fn.results = #[.cell p ty, .tmp a0]) (tmps : Array Value) (P : Program) (w : World) (g : Nat) (t : TypeId) (cs : Array Value) {fs : _}
    (hp : tmps.getD p undef = .pointer (some ⟨g, 0, none⟩)) (hg : Blk w g t cs)
    (hu : P.underlying ty = some (.struct fs)) (hi : (P.info? ty).map (·.size) = some cs.size) :
    (results fn tmps).run P w = .ok (.tuple #[.agg cs, tmps.getD a0 undef]) w := by
  have hp' : tmps[p]?.getD undef = .pointer (some ⟨g, 0, none⟩) := by simpa using hp
  simp [results, h, hp', asAddr, run_loadVar_row w g t ty cs (0, 0) (.struct fs) hg hu rfl hi]

theorem res_cell_2 {fn : Func} {p a0 a1 : Tmp} {ty : TypeId} (h : fn.results = #[.cell p ty, .tmp a0, .tmp a1]) (tmps : Array Value) (P : Program) (w : World) (g : Nat) (t : TypeId) (cs : Array Value) {fs : _}
    (hp : tmps.getD p undef = .pointer (some ⟨g, 0, none⟩)) (hg : Blk w g t cs)
    (hu : P.underlying ty = some (.struct fs)) (hi : (P.info? ty).map (·.size) = some cs.size) :
    (results fn tmps).run P w = .ok (.tuple #[.agg cs, tmps.getD a0 undef, tmps.getD a1 undef]) w := by
  have hp' : tmps[p]?.getD undef = .pointer (some ⟨g, 0, none⟩) := by simpa using hp
  simp [results, h, hp', asAddr, run_loadVar_row w g t ty cs (0, 0) (.struct fs) hg hu rfl hi]

/-- It hands back a drawn expression and a text. -/
def RetXS (Q : Int → ByteArray → Fr (Int × ByteArray) → Prop) (w : World) (e : Ending) (w' : World) : Prop := ∃ (zk : Int) (zs : ByteArray) (kids : Fr (Int × ByteArray)) (A : Option Addr) (c : Nat) (s : ByteArray), e = .returned (.tuple #[.agg #[.int .i64 zk, .string zs, .slice A kids.len c], .string s]) ∧ s.size ≤ 6 ∧ Sl rexC w' w.heap.size w'.heap.size A kids ∧ Q zk zs kids
def RetXSI (Q : Int → ByteArray → Fr (Int × ByteArray) → Prop) (w : World) (e : Ending) (w' : World) : Prop := ∃ (zk : Int) (zs : ByteArray) (kids : Fr (Int × ByteArray)) (A : Option Addr) (c : Nat) (s : ByteArray) (i : Int), e = .returned (.tuple #[.agg #[.int .i64 zk, .string zs, .slice A kids.len c], .string s, .int .i64 i]) ∧ (s.size ≤ 6 ∧ -1 ≤ i ∧ i ≤ s.size + 1) ∧ Sl rexC w' w.heap.size w'.heap.size A kids ∧ Q zk zs kids
/-- An expression that is not too great. -/
def anyQ (_ : Int) (zs : ByteArray) (kids : Fr (Int × ByteArray)) : Prop := smallR 400 zs kids

set_option maxRecDepth 20000 in
set_option maxHeartbeats 4000000 in
theorem dRex (A0 : Option Addr) (n0 c0 : Nat) (bs : List Int) (w : World) (hR : Reads w w.heap.size 1 A0 n0 (u8s bs)) (hZ : Byt bs) (hn : n0 ≤ 1048576) :
    Calls Try.prog 17 #[.slice A0 n0 c0] w fun e w' => RetXS (goodR 3) w e w' ∧ Below w.heap.size w w' := by
  have R0 := Blk.new w 30 #[.int .i64 0, .string ⟨#[]⟩, .slice none 0 0]
  have L0 := bl_alloc (Below.refl w.heap.size w) (.cells #[.int .i64 0, .string ⟨#[]⟩, .slice none 0 0] 30)
  have hR0 := hR.alloc (Nat.le_refl _) (.cells #[.int .i64 0, .string ⟨#[]⟩, .slice none 0 0] 30)
  have es := Nat.le_of_eq (alloc_size w (.cells #[.int .i64 0, .string ⟨#[]⟩, .slice none 0 0] 30)).symm
  go_enter Try.func17, Try.ntmps17
  go_wp2_with fail
  refine (dNew w.heap.size n0 c0 A0 bs _ hR0 hZ (by omega) hn).mono ?_; rintro e w1 ⟨g, rfl, hc1, hg, b1⟩
  have L1 := bl_trans L0 b1
  have R1 := R0.keep b1
  have hgw : w.heap.size < g := by omega
  have hg1 := hc1.lt
  clear R0 L0 hR0 b1 hg es
  go_wp2_with fail
  refine (dDraw w.heap.size g 3 (by omega) _ hc1).mono ?_; rintro e w2 ⟨⟨zk, zs, kids, A, c, rfl, hS2, hgood⟩, hc2, G2⟩
  have R2 := R1.grown G2 (by simp; omega)
  have s2 := G2.size
  go_wp2_with fail
  refine (dText w.heap.size g _ hc2).mono ?_; rintro e w3 ⟨⟨s, rfl, hs⟩, hc3, hg3⟩
  have R3 := R2.grown hg3 (by simp; omega)
  have hS3 := hS2.grown hg3 (fun k e => by cases e; omega) (Nat.le_refl _)
  have G3 := gr_trans G2 hg3
  have s3 := hg3.size
  have L3 := bl_gr L1 G3 (fun k e => by cases e; omega)
  have f1 := R3.frozen
  have p1 := R3.cell
  clear hc2 R2 hS2 G2 hg3
  go_wp2_with fail
  exact bodyPost_ret (res_cell_1 rfl _ _ _ _ _ _ rfl (((R3.set_ 0 _).set_ 1 _).set_ 2 _) Try.underlying30 (by kernel_rfl)) rfl ⟨⟨zk, zs, kids, A, c, s, rfl, hs, (((hS3.setb (.inl (by omega)) _).setb (.inl (by omega)) _).setb (.inl (by omega)) _).more (by omega) (by simp <;> omega), hgood⟩, bl_setb (bl_setb (bl_setb L3 (Nat.le_refl _) _) (Nat.le_refl _) _) (Nat.le_refl _) _⟩

set_option maxRecDepth 20000 in
set_option maxHeartbeats 4000000 in
theorem dMatches (A0 : Option Addr) (n0 c0 : Nat) (bs : List Int) (w : World) (hR : Reads w w.heap.size 1 A0 n0 (u8s bs)) (hZ : Byt bs) (hn : n0 ≤ 1048576) :
    Calls Try.prog 18 #[.slice A0 n0 c0] w fun e w' => RetXS (goodR 3) w e w' ∧ Below w.heap.size w w' := by
  have R0 := Blk.new w 30 #[.int .i64 0, .string ⟨#[]⟩, .slice none 0 0]
  have L0 := bl_alloc (Below.refl w.heap.size w) (.cells #[.int .i64 0, .string ⟨#[]⟩, .slice none 0 0] 30)
  have hR0 := hR.alloc (Nat.le_refl _) (.cells #[.int .i64 0, .string ⟨#[]⟩, .slice none 0 0] 30)
  have es := Nat.le_of_eq (alloc_size w (.cells #[.int .i64 0, .string ⟨#[]⟩, .slice none 0 0] 30)).symm
  go_enter Try.func18, Try.ntmps18
  go_wp2_with fail
  refine (dNew w.heap.size n0 c0 A0 bs _ hR0 hZ (by omega) hn).mono ?_; rintro e w1 ⟨g, rfl, hc1, hg, b1⟩
  have L1 := bl_trans L0 b1
  have R1 := R0.keep b1
  have hgw : w.heap.size < g := by omega
  have hg1 := hc1.lt
  clear R0 L0 hR0 b1 hg es
  go_wp2_with fail
  refine (dDraw w.heap.size g 3 (by omega) _ hc1).mono ?_; rintro e w2 ⟨⟨zk, zs, kids, A, c, rfl, hS2, hgood⟩, hc2, G2⟩
  have R2 := R1.grown G2 (by simp; omega)
  have s2 := G2.size
  go_wp2_with fail
  refine (dText w.heap.size g _ hc2).mono ?_; rintro e w3 ⟨⟨s, rfl, hs⟩, hc3, hg3⟩
  have R3 := R2.grown hg3 (by simp; omega)
  have hS3 := hS2.grown hg3 (fun k e => by cases e; omega) (Nat.le_refl _)
  have G3 := gr_trans G2 hg3
  have s3 := hg3.size
  have L3 := bl_gr L1 G3 (fun k e => by cases e; omega)
  have f1 := R3.frozen
  have p1 := R3.cell
  clear hc2 R2 hS2 G2 hg3
  go_wp2_with fail
  exact bodyPost_ret (res_cell_1 rfl _ _ _ _ _ _ rfl (((R3.set_ 0 _).set_ 1 _).set_ 2 _) Try.underlying30 (by kernel_rfl)) rfl ⟨⟨zk, zs, kids, A, c, s, rfl, hs, (((hS3.setb (.inl (by omega)) _).setb (.inl (by omega)) _).setb (.inl (by omega)) _).more (by omega) (by simp <;> omega), hgood⟩, bl_setb (bl_setb (bl_setb L3 (Nat.le_refl _) _) (Nat.le_refl _) _) (Nat.le_refl _) _⟩

set_option maxRecDepth 20000 in
set_option maxHeartbeats 8000000 in
theorem dLongest (A0 : Option Addr) (n0 c0 : Nat) (bs : List Int) (w : World) (hR : Reads w w.heap.size 1 A0 n0 (u8s bs)) (hZ : Byt bs) (hn : n0 ≤ 1048576) :
    Calls Try.prog 28 #[.slice A0 n0 c0] w fun e w' => RetXS anyQ w e w' ∧ Below w.heap.size w w' := by
  have R0 := Blk.new w 30 #[.int .i64 0, .string ⟨#[]⟩, .slice none 0 0]
  have L0 := bl_alloc (Below.refl w.heap.size w) (.cells #[.int .i64 0, .string ⟨#[]⟩, .slice none 0 0] 30)
  have hR0 := hR.alloc (Nat.le_refl _) (.cells #[.int .i64 0, .string ⟨#[]⟩, .slice none 0 0] 30)
  have es := Nat.le_of_eq (alloc_size w (.cells #[.int .i64 0, .string ⟨#[]⟩, .slice none 0 0] 30)).symm
  go_enter Try.func28, Try.ntmps28
  go_wp2_with fail
  refine (dNew w.heap.size n0 c0 A0 bs _ hR0 hZ (by omega) hn).mono ?_; rintro e w1 ⟨g, rfl, hc1, hg, b1⟩
  have L1 := bl_trans L0 b1
  have R1 := R0.keep b1
  have hgw : w.heap.size < g := by omega
  have hg1 := hc1.lt
  clear R0 L0 hR0 b1 hg es
  go_wp2_with fail
  refine (dDraw w.heap.size g 3 (by omega) _ hc1).mono ?_; rintro e w2 ⟨⟨zk, zs, kids, A, c, rfl, hS2, hgood⟩, hc2, G2⟩
  have R2 := R1.grown G2 (by simp; omega)
  have s2 := G2.size
  have hsm := small_good hgood (M := 400) (by decide)
  clear hgood
  go_wp2_with fail
  have X3 := Blk.new w2 30 #[.int .i64 zk, .string zs, .slice A kids.len c]
  have R3 := R2.alloc (.cells #[.int .i64 zk, .string zs, .slice A kids.len c] 30)
  have hc3 := hc2.alloc (.cells #[.int .i64 zk, .string zs, .slice A kids.len c] 30)
  have G3 := gr_alloc G2 (.cells #[.int .i64 zk, .string zs, .slice A kids.len c] 30)
  have hS3 := hS2.keep (w' := w2.alloc (.cells #[.int .i64 zk, .string zs, .slice A kids.len c] 30)) (fun p _ h2 => World.cell?_alloc_lt _ _ _ h2) (Nat.le_refl _) (Nat.le_refl _)
  have es1 := Nat.le_of_eq (alloc_size w2 (.cells #[.int .i64 zk, .string zs, .slice A kids.len c] 30))
  have es2 := Nat.le_of_eq (alloc_size w2 (.cells #[.int .i64 zk, .string zs, .slice A kids.len c] 30)).symm
  clear R2 hc2 G2 hS2
  generalize w2.alloc (.cells #[.int .i64 zk, .string zs, .slice A kids.len c] 30) = w3 at X3 R3 hc3 G3 hS3 es1 es2 ⊢
  generalize w2.heap.size = xb at X3 hS3 es1 es2 s2 ⊢
  refine (dOnce w.heap.size g 10 _ hc3 (by omega)).mono ?_; rintro e w4 ⟨⟨bo, rfl⟩, hc4, hg4⟩
  have X4 := X3.grown hg4 (by simp; omega)
  have R4 := R3.grown hg4 (by simp; omega)
  have G4 := gr_trans G3 hg4
  have s4 := hg4.size
  have hS4 := hS3.grown hg4 (fun k e => by cases e; omega) (by omega)
  clear X3 R3 hc3 G3 hS3 hg4
  cases bo
  case false =>
    go_upto_region 5 with fail
    refine wp_region_held_drew (S := (fun x => Blk x xb 30 #[.int .i64 zk, .string zs, .slice A kids.len c])) (by kernel_rfl) ?_ (fun hHeld => ?_)
    · exact X4.drew
    refine wpAnyH_take (i := 0) (oi := ⟨some 14, _, _, _, _, _⟩) (v := ?_) rfl (by kernel_rfl) (by kernel_rfl) (by kernel_rfl) (fun _ _ _ h => h) (Or.inl ⟨by rfl, ?_⟩) (by assumption) ?_
    case refine_2 => (intro w hSw; have p := hSw.cell; go_simp; first | done | with_reducible rfl)
    simp only [Act.put, List.setIfInBounds_toArray, List.set_cons_zero, List.set_cons_succ]
    refine wpAnyH_take (i := 1) (oi := ⟨some 15, _, _, _, _, _⟩) (v := ?_) rfl (by kernel_rfl) (by kernel_rfl) (by kernel_rfl) (fun _ _ _ h => h) (Or.inl ⟨by rfl, ?_⟩) (by assumption) ?_
    case refine_2 => (intro w hSw; skip; go_simp; first | done | with_reducible rfl)
    simp only [Act.put, List.setIfInBounds_toArray, List.set_cons_zero, List.set_cons_succ]
    refine wpAnyH_ready (rs := [2]) (by kernel_rfl) (by simp) ?_
    refine AllReadyH.cons (o := ⟨some 16, _, _, _, _, _⟩) rfl (fun K hK => ?_) AllReadyH.nil
    go_simp
    refine (dText w.heap.size g _ (show Cur _ w4.drew g from hc4)).mono ?_; rintro e w8 ⟨⟨s, rfl, hs⟩, hc8, hg8⟩
    go_wp2_with fail
    refine hK.out _ _ (hHeld.grown hg8 (by simp; omega)) (fun hHeld => ?_)
    clear hK K
    try simp only [Act.put, List.setIfInBounds_toArray, List.set_cons_zero, List.set_cons_succ]
    have R8 := R4.drew.grown hg8 (by simp; omega)
    have hS8 := (hS4.keep (w' := w4.drew) (fun _ _ _ => rfl) (Nat.le_refl _) (Nat.le_refl _)).grown hg8 (fun k e => by cases e; omega) (by simp; omega)
    have G8 := gr_trans (gr_drewN G4 1) hg8
    have s8 : w4.heap.size ≤ w8.heap.size := hg8.size
    have L8 := bl_gr L1 G8 (fun k e => by cases e; omega)
    have f8 := R8.frozen
    have p8 := R8.cell
    have X8 := X4.drew.grown hg8 (by simp; omega)
    refine wpAnyH_ready (rs := [3]) (by kernel_rfl) (by simp) ?_
    refine AllReadyH.cons (o := ⟨none, _, _, _, _, _⟩) rfl (fun K hK => ?_) AllReadyH.nil
    go_simp
    go_wp2_with fail
    refine hK.out _ _ (((X8.farb (by omega) _).farb (by omega) _).farb (by omega) _) (fun hHeld => ?_)
    clear hK K
    try simp only [Act.put, List.setIfInBounds_toArray, List.set_cons_zero, List.set_cons_succ]
    refine wpAnyH_take (i := 4) (oi := ⟨some 3, _, _, _, _, _⟩) (v := ?_) rfl (by kernel_rfl) (by kernel_rfl) (by kernel_rfl) (fun _ _ _ h => h) (Or.inl ⟨by rfl, ?_⟩) (by assumption) ?_
    case refine_2 => (intro w hSw; skip; go_simp; first | done | with_reducible rfl)
    simp only [Act.put, List.setIfInBounds_toArray, List.set_cons_zero, List.set_cons_succ]
    refine wpAnyH_done (by kernel_rfl) ?_ _
    go_wp2_with fail
    exact bodyPost_ret (res_cell_1 rfl _ _ _ _ _ _ rfl (((R8.set_ 0 _).set_ 1 _).set_ 2 _) Try.underlying30 (by kernel_rfl)) rfl ⟨⟨zk, zs, kids, A, c, s, rfl, hs, (((hS8.setb (.inl (by omega)) _).setb (.inl (by omega)) _).setb (.inl (by omega)) _).more (by omega) (by simp <;> omega), hsm⟩, bl_setb (bl_setb (bl_setb L8 (Nat.le_refl _) _) (Nat.le_refl _) _) (Nat.le_refl _) _⟩
  case true =>
    go_wp2_with fail
    refine (dAny w.heap.size g _ hc4).mono ?_; rintro e w5 ⟨⟨yk, ys, ky, Ay, cy, rfl, hSy, hsm5⟩, hc5, hg5⟩
    have X5 := X4.grown hg5 (by simp; omega)
    have R5 := R4.grown hg5 (by simp; omega)
    have G5 := gr_trans G4 hg5
    have s5 := hg5.size
    have p5 := X5.cell
    have f5 := X5.frozen
    have X6 := ((X5.set_ 0 (.int .i64 yk)).set_ 1 (.string ys)).set_ 2 (.slice Ay ky.len cy)
    simp only [List.setIfInBounds_toArray, List.set_cons_succ, List.set_cons_zero] at X6
    have R6 := ((R5.farb (b := xb) (j := 0) (by omega) (.int .i64 yk)).farb (b := xb) (j := 1) (by omega) (.string ys)).farb (b := xb) (j := 2) (by omega) (.slice Ay ky.len cy)
    have hc6 := ((hc5.setn (b := xb) (j := 0) (by omega) (.int .i64 yk)).setn (b := xb) (j := 1) (by omega) (.string ys)).setn (b := xb) (j := 2) (by omega) (.slice Ay ky.len cy)
    have G6 := gr_setn (b := xb) (j := 2) (gr_setn (b := xb) (j := 1) (gr_setn (b := xb) (j := 0) G5 (by omega) (.int .i64 yk)) (by omega) (.string ys)) (by omega) (.slice Ay ky.len cy)
    have hS6 := ((hSy.setb (b := xb) (j := 0) (.inl (by omega)) (.int .i64 yk)).setb (b := xb) (j := 1) (.inl (by omega)) (.string ys)).setb (b := xb) (j := 2) (.inl (by omega)) (.slice Ay ky.len cy)
    have s6 : w5.heap.size ≤ (((w5.setCell ⟨xb, 0, none⟩ (.int .i64 yk)).setCell ⟨xb, 1, none⟩ (.string ys)).setCell ⟨xb, 2, none⟩ (.slice Ay ky.len cy)).heap.size := by simp
    clear X4 R4 G4 hc4 hS4 X5 R5 G5 hc5 hg5 hSy
    go_upto_region 5 with fail
    clear p5 f5
    generalize ((w5.setCell ⟨xb, 0, none⟩ (.int .i64 yk)).setCell ⟨xb, 1, none⟩ (.string ys)).setCell ⟨xb, 2, none⟩ (.slice Ay ky.len cy) = w6 at X6 R6 G6 hc6 hS6 s6 ⊢
    refine wp_region_held_drew (S := (fun x => Blk x xb 30 #[.int .i64 yk, .string ys, .slice Ay ky.len cy])) (by kernel_rfl) ?_ (fun hHeld => ?_)
    · exact X6.drew
    refine wpAnyH_take (i := 0) (oi := ⟨some 14, _, _, _, _, _⟩) (v := ?_) rfl (by kernel_rfl) (by kernel_rfl) (by kernel_rfl) (fun _ _ _ h => h) (Or.inl ⟨by rfl, ?_⟩) (by assumption) ?_
    case refine_2 => (intro w hSw; have p := hSw.cell; go_simp; first | done | with_reducible rfl)
    simp only [Act.put, List.setIfInBounds_toArray, List.set_cons_zero, List.set_cons_succ]
    refine wpAnyH_take (i := 1) (oi := ⟨some 15, _, _, _, _, _⟩) (v := ?_) rfl (by kernel_rfl) (by kernel_rfl) (by kernel_rfl) (fun _ _ _ h => h) (Or.inl ⟨by rfl, ?_⟩) (by assumption) ?_
    case refine_2 => (intro w hSw; skip; go_simp; first | done | with_reducible rfl)
    simp only [Act.put, List.setIfInBounds_toArray, List.set_cons_zero, List.set_cons_succ]
    refine wpAnyH_ready (rs := [2]) (by kernel_rfl) (by simp) ?_
    refine AllReadyH.cons (o := ⟨some 16, _, _, _, _, _⟩) rfl (fun K hK => ?_) AllReadyH.nil
    go_simp
    refine (dText w.heap.size g _ (show Cur _ w6.drew g from hc6)).mono ?_; rintro e w8 ⟨⟨s, rfl, hs⟩, hc8, hg8⟩
    go_wp2_with fail
    refine hK.out _ _ (hHeld.grown hg8 (by simp; omega)) (fun hHeld => ?_)
    clear hK K
    try simp only [Act.put, List.setIfInBounds_toArray, List.set_cons_zero, List.set_cons_succ]
    have R8 := R6.drew.grown hg8 (by simp; omega)
    have hS8 := (hS6.keep (w' := w6.drew) (fun _ _ _ => rfl) (Nat.le_refl _) (Nat.le_refl _)).grown hg8 (fun k e => by cases e; omega) (by simp; omega)
    have G8 := gr_trans (gr_drewN G6 1) hg8
    have s8 : w6.heap.size ≤ w8.heap.size := hg8.size
    have L8 := bl_gr L1 G8 (fun k e => by cases e; omega)
    have f8 := R8.frozen
    have p8 := R8.cell
    have X8 := X6.drew.grown hg8 (by simp; omega)
    refine wpAnyH_ready (rs := [3]) (by kernel_rfl) (by simp) ?_
    refine AllReadyH.cons (o := ⟨none, _, _, _, _, _⟩) rfl (fun K hK => ?_) AllReadyH.nil
    go_simp
    go_wp2_with fail
    refine hK.out _ _ (((X8.farb (by omega) _).farb (by omega) _).farb (by omega) _) (fun hHeld => ?_)
    clear hK K
    try simp only [Act.put, List.setIfInBounds_toArray, List.set_cons_zero, List.set_cons_succ]
    refine wpAnyH_take (i := 4) (oi := ⟨some 3, _, _, _, _, _⟩) (v := ?_) rfl (by kernel_rfl) (by kernel_rfl) (by kernel_rfl) (fun _ _ _ h => h) (Or.inl ⟨by rfl, ?_⟩) (by assumption) ?_
    case refine_2 => (intro w hSw; skip; go_simp; first | done | with_reducible rfl)
    simp only [Act.put, List.setIfInBounds_toArray, List.set_cons_zero, List.set_cons_succ]
    refine wpAnyH_done (by kernel_rfl) ?_ _
    go_wp2_with fail
    exact bodyPost_ret (res_cell_1 rfl _ _ _ _ _ _ rfl (((R8.set_ 0 _).set_ 1 _).set_ 2 _) Try.underlying30 (by kernel_rfl)) rfl ⟨⟨yk, ys, ky, Ay, cy, s, rfl, hs, (((hS8.setb (.inl (by omega)) _).setb (.inl (by omega)) _).setb (.inl (by omega)) _).more (by omega) (by simp <;> omega), hsm5⟩, bl_setb (bl_setb (bl_setb L8 (Nat.le_refl _) _) (Nat.le_refl _) _) (Nat.le_refl _) _⟩

set_option maxRecDepth 20000 in
set_option maxHeartbeats 8000000 in
theorem dEnds (A0 : Option Addr) (n0 c0 : Nat) (bs : List Int) (w : World) (hR : Reads w w.heap.size 1 A0 n0 (u8s bs)) (hZ : Byt bs) (hn : n0 ≤ 1048576) :
    Calls Try.prog 25 #[.slice A0 n0 c0] w fun e w' => RetXSI anyQ w e w' ∧ Below w.heap.size w w' := by
  have R0 := Blk.new w 30 #[.int .i64 0, .string ⟨#[]⟩, .slice none 0 0]
  have L0 := bl_alloc (Below.refl w.heap.size w) (.cells #[.int .i64 0, .string ⟨#[]⟩, .slice none 0 0] 30)
  have hR0 := hR.alloc (Nat.le_refl _) (.cells #[.int .i64 0, .string ⟨#[]⟩, .slice none 0 0] 30)
  have es := Nat.le_of_eq (alloc_size w (.cells #[.int .i64 0, .string ⟨#[]⟩, .slice none 0 0] 30)).symm
  go_enter Try.func25, Try.ntmps25
  go_wp2_with fail
  refine (dNew w.heap.size n0 c0 A0 bs _ hR0 hZ (by omega) hn).mono ?_; rintro e w1 ⟨g, rfl, hc1, hg, b1⟩
  have L1 := bl_trans L0 b1
  have R1 := R0.keep b1
  have hgw : w.heap.size < g := by omega
  have hg1 := hc1.lt
  clear R0 L0 hR0 b1 hg es
  go_wp2_with fail
  refine (dDraw w.heap.size g 3 (by omega) _ hc1).mono ?_; rintro e w2 ⟨⟨zk, zs, kids, A, c, rfl, hS2, hgood⟩, hc2, G2⟩
  have R2 := R1.grown G2 (by simp; omega)
  have s2 := G2.size
  have hsm := small_good hgood (M := 400) (by decide)
  clear hgood
  go_wp2_with fail
  have X3 := Blk.new w2 30 #[.int .i64 zk, .string zs, .slice A kids.len c]
  have R3 := R2.alloc (.cells #[.int .i64 zk, .string zs, .slice A kids.len c] 30)
  have hc3 := hc2.alloc (.cells #[.int .i64 zk, .string zs, .slice A kids.len c] 30)
  have G3 := gr_alloc G2 (.cells #[.int .i64 zk, .string zs, .slice A kids.len c] 30)
  have hS3 := hS2.keep (w' := w2.alloc (.cells #[.int .i64 zk, .string zs, .slice A kids.len c] 30)) (fun p _ h2 => World.cell?_alloc_lt _ _ _ h2) (Nat.le_refl _) (Nat.le_refl _)
  have es1 := Nat.le_of_eq (alloc_size w2 (.cells #[.int .i64 zk, .string zs, .slice A kids.len c] 30))
  have es2 := Nat.le_of_eq (alloc_size w2 (.cells #[.int .i64 zk, .string zs, .slice A kids.len c] 30)).symm
  clear R2 hc2 G2 hS2
  generalize w2.alloc (.cells #[.int .i64 zk, .string zs, .slice A kids.len c] 30) = w3 at X3 R3 hc3 G3 hS3 es1 es2 ⊢
  generalize w2.heap.size = xb at X3 hS3 es1 es2 s2 ⊢
  refine (dOnce w.heap.size g 10 _ hc3 (by omega)).mono ?_; rintro e w4 ⟨⟨bo, rfl⟩, hc4, hg4⟩
  have X4 := X3.grown hg4 (by simp; omega)
  have R4 := R3.grown hg4 (by simp; omega)
  have G4 := gr_trans G3 hg4
  have s4 := hg4.size
  have hS4 := hS3.grown hg4 (fun k e => by cases e; omega) (by omega)
  clear X3 R3 hc3 G3 hS3 hg4
  cases bo
  case false =>
    go_wp2_with fail
    refine (dText w.heap.size g _ hc4).mono ?_; rintro e w7 ⟨⟨s, rfl, hs⟩, hc7, hg7⟩
    have X7 := X4.grown hg7 (by simp; omega)
    have R7 := R4.grown hg7 (by simp; omega)
    have G7 := gr_trans G4 hg7
    have hS7 := hS4.grown hg7 (fun k e => by cases e; omega) (by omega)
    have s7 := hg7.size
    have ews : IntKind.i64.wrap ((s.size : Int) + 1) = (s.size : Int) + 1 := IntWalk.i64_in _ (by omega)
    go_upto_region 6 with fail
    refine wp_region_held_drew (S := (fun x => Blk x xb 30 #[.int .i64 zk, .string zs, .slice A kids.len c])) (by kernel_rfl) ?_ (fun hHeld => ?_)
    · exact X7.drew
    refine wpAnyH_take (i := 0) (oi := ⟨some 18, _, _, _, _, _⟩) (v := ?_) rfl (by kernel_rfl) (by kernel_rfl) (by kernel_rfl) (fun _ _ _ h => h) (Or.inl ⟨by rfl, ?_⟩) (by assumption) ?_
    case refine_2 => (intro w hSw; have p := hSw.cell; go_simp; first | done | with_reducible rfl)
    simp only [Act.put, List.setIfInBounds_toArray, List.set_cons_zero, List.set_cons_succ]
    refine wpAnyH_take (i := 1) (oi := ⟨some 19, _, _, _, _, _⟩) (v := ?_) rfl (by kernel_rfl) (by kernel_rfl) (by kernel_rfl) (fun _ _ _ h => h) (Or.inl ⟨by rfl, ?_⟩) (by assumption) ?_
    case refine_2 => (intro w hSw; skip; go_simp; first | done | with_reducible rfl)
    simp only [Act.put, List.setIfInBounds_toArray, List.set_cons_zero, List.set_cons_succ]
    refine wpAnyH_take (i := 2) (oi := ⟨some 20, _, _, _, _, _⟩) (v := ?_) rfl (by kernel_rfl) (by kernel_rfl) (by kernel_rfl) (fun _ _ _ h => h) (Or.inl ⟨by rfl, ?_⟩) (by assumption) ?_
    case refine_2 => (intro w hSw; skip; go_simp; first | done | with_reducible rfl)
    simp only [Act.put, List.setIfInBounds_toArray, List.set_cons_zero, List.set_cons_succ]
    refine wpAnyH_take (i := 3) (oi := ⟨some 21, _, _, _, _, _⟩) (v := ?_) rfl (by kernel_rfl) (by kernel_rfl) (by kernel_rfl) (fun _ _ _ h => h) (Or.inl ⟨by rfl, ?_⟩) (by assumption) ?_
    case refine_2 => (intro w hSw; skip; go_simp; first | done | with_reducible rfl)
    simp only [Act.put, List.setIfInBounds_toArray, List.set_cons_zero, List.set_cons_succ]
    refine wpAnyH_take (i := 4) (oi := ⟨some 22, _, _, _, _, _⟩) (v := ?_) rfl (by kernel_rfl) (by kernel_rfl) (by kernel_rfl) (fun _ _ _ h => h) (Or.inl ⟨by rfl, ?_⟩) (by assumption) ?_
    case refine_2 => (intro w hSw; skip; go_simp; first | done | with_reducible rfl)
    simp only [Act.put, List.setIfInBounds_toArray, List.set_cons_zero, List.set_cons_succ]
    refine wpAnyH_take (i := 5) (oi := ⟨some 23, _, _, _, _, _⟩) (v := ?_) rfl (by kernel_rfl) (by kernel_rfl) (by kernel_rfl) (fun _ _ _ h => h) (Or.inl ⟨by rfl, ?_⟩) (by assumption) ?_
    case refine_2 => (intro w hSw; skip; go_simp; first | done | with_reducible rfl)
    simp only [Act.put, List.setIfInBounds_toArray, List.set_cons_zero, List.set_cons_succ]
    refine wpAnyH_take (i := 6) (oi := ⟨some 24, _, _, _, _, _⟩) (v := ?_) rfl (by kernel_rfl) (by kernel_rfl) (by kernel_rfl) (fun _ _ _ h => h) (Or.inl ⟨by rfl, ?_⟩) (by assumption) ?_
    case refine_2 => (intro w hSw; skip; go_simp; first | done | with_reducible rfl)
    simp only [Act.put, List.setIfInBounds_toArray, List.set_cons_zero, List.set_cons_succ]
    refine wpAnyH_take (i := 7) (oi := ⟨some 25, _, _, _, _, _⟩) (v := ?_) rfl (by kernel_rfl) (by kernel_rfl) (by kernel_rfl) (fun _ _ _ h => h) (Or.inl ⟨by rfl, ?_⟩) (by assumption) ?_
    case refine_2 => (intro w hSw; skip; go_simp; first | done | with_reducible rfl)
    simp only [Act.put, List.setIfInBounds_toArray, List.set_cons_zero, List.set_cons_succ]
    refine wpAnyH_ready (rs := [8]) (by kernel_rfl) (by simp) ?_
    refine AllReadyH.cons (o := ⟨some 26, _, _, _, _, _⟩) rfl (fun K hK => ?_) AllReadyH.nil
    go_simp
    go_wp2_with fail
    refine hK.out _ _ (X7.drew.alloc _) (fun hHeld => ?_)
    clear hK K
    try simp only [Act.put, List.setIfInBounds_toArray, List.set_cons_zero, List.set_cons_succ]
    refine wpAnyH_ready (rs := [9]) (by kernel_rfl) (by simp) ?_
    refine AllReadyH.cons (o := ⟨some 27, _, _, _, _, _⟩) rfl (fun K hK => ?_) AllReadyH.nil
    go_simp
    refine (dInt w.heap.size g w7.drew.heap.size 6 [0, 0, 1, (s.size : Int), -1, (s.size : Int) + 1] _ ((show Cur _ w7.drew g from hc7).alloc _) rfl (by omega) (by omega) (Blk.new w7.drew _ _) (by have := hc7.lt; simp; omega)).mono ?_; rintro e w8 ⟨⟨i, rfl, hi⟩, hc8, hg8⟩
    go_wp2_with fail
    refine hK.out _ _ (hHeld.grown hg8 (by simp; omega)) (fun hHeld => ?_)
    clear hK K
    try simp only [Act.put, List.setIfInBounds_toArray, List.set_cons_zero, List.set_cons_succ]
    have R8 := (R7.drew.alloc _).grown hg8 (by simp; omega)
    have hS8 := ((hS7.keep (w' := w7.drew) (fun _ _ _ => rfl) (Nat.le_refl _) (Nat.le_refl _)).keep (w' := w7.drew.alloc (.cells (List.map (Value.int .i64) [0, 0, 1, (s.size : Int), -1, (s.size : Int) + 1]).toArray 3)) (fun p _ h2 => World.cell?_alloc_lt _ _ _ (by show p.block < w7.heap.size; omega)) (Nat.le_refl _) (Nat.le_refl _)).grown hg8 (fun k e => by cases e; omega) (by rw [alloc_size]; show _ ≤ w7.heap.size + 1; omega)
    have G8 := gr_trans (gr_alloc (gr_drewN G7 1) _) hg8
    have s8 := hg8.size
    rw [alloc_size] at s8
    have s9 : w7.heap.size ≤ w8.heap.size := by have : w7.drew.heap.size = w7.heap.size := rfl; omega
    have L8 := bl_gr L1 G8 (fun k e => by cases e; omega)
    have f8 := R8.frozen
    have p8 := R8.cell
    have X8 := (X7.drew.alloc _).grown hg8 (by simp; omega)
    refine wpAnyH_ready (rs := [10]) (by kernel_rfl) (by simp) ?_
    refine AllReadyH.cons (o := ⟨none, _, _, _, _, _⟩) rfl (fun K hK => ?_) AllReadyH.nil
    go_simp
    go_wp2_with fail
    refine hK.out _ _ (((X8.farb (by omega) _).farb (by omega) _).farb (by omega) _) (fun hHeld => ?_)
    clear hK K
    try simp only [Act.put, List.setIfInBounds_toArray, List.set_cons_zero, List.set_cons_succ]
    refine wpAnyH_take (i := 11) (oi := ⟨some 3, _, _, _, _, _⟩) (v := ?_) rfl (by kernel_rfl) (by kernel_rfl) (by kernel_rfl) (fun _ _ _ h => h) (Or.inl ⟨by rfl, ?_⟩) (by assumption) ?_
    case refine_2 => (intro w hSw; skip; go_simp; first | done | with_reducible rfl)
    simp only [Act.put, List.setIfInBounds_toArray, List.set_cons_zero, List.set_cons_succ]
    refine wpAnyH_take (i := 12) (oi := ⟨some 4, _, _, _, _, _⟩) (v := ?_) rfl (by kernel_rfl) (by kernel_rfl) (by kernel_rfl) (fun _ _ _ h => h) (Or.inl ⟨by rfl, ?_⟩) (by assumption) ?_
    case refine_2 => (intro w hSw; skip; go_simp; first | done | with_reducible rfl)
    simp only [Act.put, List.setIfInBounds_toArray, List.set_cons_zero, List.set_cons_succ]
    refine wpAnyH_done (by kernel_rfl) ?_ _
    have hib : -1 ≤ i ∧ i ≤ (s.size : Int) + 1 := by simp only [List.mem_cons, List.not_mem_nil, or_false] at hi; omega
    go_wp2_with fail
    exact bodyPost_ret (res_cell_2 rfl _ _ _ _ _ _ rfl (((R8.set_ 0 _).set_ 1 _).set_ 2 _) Try.underlying30 (by kernel_rfl)) rfl ⟨⟨zk, zs, kids, A, c, s, i, rfl, ⟨hs, hib⟩, (((hS8.setb (.inl (by omega)) _).setb (.inl (by omega)) _).setb (.inl (by omega)) _).more (by omega) (by simp <;> omega), hsm⟩, bl_setb (bl_setb (bl_setb L8 (Nat.le_refl _) _) (Nat.le_refl _) _) (Nat.le_refl _) _⟩
  case true =>
    go_wp2_with fail
    refine (dAny w.heap.size g _ hc4).mono ?_; rintro e w5 ⟨⟨yk, ys, ky, Ay, cy, rfl, hSy, hsm5⟩, hc5, hg5⟩
    have X5 := X4.grown hg5 (by simp; omega)
    have R5 := R4.grown hg5 (by simp; omega)
    have G5 := gr_trans G4 hg5
    have s5 := hg5.size
    have p5 := X5.cell
    have f5 := X5.frozen
    have X6 := ((X5.set_ 0 (.int .i64 yk)).set_ 1 (.string ys)).set_ 2 (.slice Ay ky.len cy)
    simp only [List.setIfInBounds_toArray, List.set_cons_succ, List.set_cons_zero] at X6
    have R6 := ((R5.farb (b := xb) (j := 0) (by omega) (.int .i64 yk)).farb (b := xb) (j := 1) (by omega) (.string ys)).farb (b := xb) (j := 2) (by omega) (.slice Ay ky.len cy)
    have hc6 := ((hc5.setn (b := xb) (j := 0) (by omega) (.int .i64 yk)).setn (b := xb) (j := 1) (by omega) (.string ys)).setn (b := xb) (j := 2) (by omega) (.slice Ay ky.len cy)
    have G6 := gr_setn (b := xb) (j := 2) (gr_setn (b := xb) (j := 1) (gr_setn (b := xb) (j := 0) G5 (by omega) (.int .i64 yk)) (by omega) (.string ys)) (by omega) (.slice Ay ky.len cy)
    have hS6 := ((hSy.setb (b := xb) (j := 0) (.inl (by omega)) (.int .i64 yk)).setb (b := xb) (j := 1) (.inl (by omega)) (.string ys)).setb (b := xb) (j := 2) (.inl (by omega)) (.slice Ay ky.len cy)
    have s6 : w5.heap.size ≤ (((w5.setCell ⟨xb, 0, none⟩ (.int .i64 yk)).setCell ⟨xb, 1, none⟩ (.string ys)).setCell ⟨xb, 2, none⟩ (.slice Ay ky.len cy)).heap.size := by simp
    clear X4 R4 G4 hc4 hS4 X5 R5 G5 hc5 hg5 hSy
    go_upto_region 5 with fail
    clear p5 f5
    generalize ((w5.setCell ⟨xb, 0, none⟩ (.int .i64 yk)).setCell ⟨xb, 1, none⟩ (.string ys)).setCell ⟨xb, 2, none⟩ (.slice Ay ky.len cy) = w6 at X6 R6 G6 hc6 hS6 s6 ⊢
    go_wp2_with fail
    refine (dText w.heap.size g _ hc6).mono ?_; rintro e w7 ⟨⟨s, rfl, hs⟩, hc7, hg7⟩
    have X7 := X6.grown hg7 (by simp; omega)
    have R7 := R6.grown hg7 (by simp; omega)
    have G7 := gr_trans G6 hg7
    have hS7 := hS6.grown hg7 (fun k e => by cases e; omega) (by omega)
    have s7 := hg7.size
    have ews : IntKind.i64.wrap ((s.size : Int) + 1) = (s.size : Int) + 1 := IntWalk.i64_in _ (by omega)
    go_upto_region 6 with fail
    refine wp_region_held_drew (S := (fun x => Blk x xb 30 #[.int .i64 yk, .string ys, .slice Ay ky.len cy])) (by kernel_rfl) ?_ (fun hHeld => ?_)
    · exact X7.drew
    refine wpAnyH_take (i := 0) (oi := ⟨some 18, _, _, _, _, _⟩) (v := ?_) rfl (by kernel_rfl) (by kernel_rfl) (by kernel_rfl) (fun _ _ _ h => h) (Or.inl ⟨by rfl, ?_⟩) (by assumption) ?_
    case refine_2 => (intro w hSw; have p := hSw.cell; go_simp; first | done | with_reducible rfl)
    simp only [Act.put, List.setIfInBounds_toArray, List.set_cons_zero, List.set_cons_succ]
    refine wpAnyH_take (i := 1) (oi := ⟨some 19, _, _, _, _, _⟩) (v := ?_) rfl (by kernel_rfl) (by kernel_rfl) (by kernel_rfl) (fun _ _ _ h => h) (Or.inl ⟨by rfl, ?_⟩) (by assumption) ?_
    case refine_2 => (intro w hSw; skip; go_simp; first | done | with_reducible rfl)
    simp only [Act.put, List.setIfInBounds_toArray, List.set_cons_zero, List.set_cons_succ]
    refine wpAnyH_take (i := 2) (oi := ⟨some 20, _, _, _, _, _⟩) (v := ?_) rfl (by kernel_rfl) (by kernel_rfl) (by kernel_rfl) (fun _ _ _ h => h) (Or.inl ⟨by rfl, ?_⟩) (by assumption) ?_
    case refine_2 => (intro w hSw; skip; go_simp; first | done | with_reducible rfl)
    simp only [Act.put, List.setIfInBounds_toArray, List.set_cons_zero, List.set_cons_succ]
    refine wpAnyH_take (i := 3) (oi := ⟨some 21, _, _, _, _, _⟩) (v := ?_) rfl (by kernel_rfl) (by kernel_rfl) (by kernel_rfl) (fun _ _ _ h => h) (Or.inl ⟨by rfl, ?_⟩) (by assumption) ?_
    case refine_2 => (intro w hSw; skip; go_simp; first | done | with_reducible rfl)
    simp only [Act.put, List.setIfInBounds_toArray, List.set_cons_zero, List.set_cons_succ]
    refine wpAnyH_take (i := 4) (oi := ⟨some 22, _, _, _, _, _⟩) (v := ?_) rfl (by kernel_rfl) (by kernel_rfl) (by kernel_rfl) (fun _ _ _ h => h) (Or.inl ⟨by rfl, ?_⟩) (by assumption) ?_
    case refine_2 => (intro w hSw; skip; go_simp; first | done | with_reducible rfl)
    simp only [Act.put, List.setIfInBounds_toArray, List.set_cons_zero, List.set_cons_succ]
    refine wpAnyH_take (i := 5) (oi := ⟨some 23, _, _, _, _, _⟩) (v := ?_) rfl (by kernel_rfl) (by kernel_rfl) (by kernel_rfl) (fun _ _ _ h => h) (Or.inl ⟨by rfl, ?_⟩) (by assumption) ?_
    case refine_2 => (intro w hSw; skip; go_simp; first | done | with_reducible rfl)
    simp only [Act.put, List.setIfInBounds_toArray, List.set_cons_zero, List.set_cons_succ]
    refine wpAnyH_take (i := 6) (oi := ⟨some 24, _, _, _, _, _⟩) (v := ?_) rfl (by kernel_rfl) (by kernel_rfl) (by kernel_rfl) (fun _ _ _ h => h) (Or.inl ⟨by rfl, ?_⟩) (by assumption) ?_
    case refine_2 => (intro w hSw; skip; go_simp; first | done | with_reducible rfl)
    simp only [Act.put, List.setIfInBounds_toArray, List.set_cons_zero, List.set_cons_succ]
    refine wpAnyH_take (i := 7) (oi := ⟨some 25, _, _, _, _, _⟩) (v := ?_) rfl (by kernel_rfl) (by kernel_rfl) (by kernel_rfl) (fun _ _ _ h => h) (Or.inl ⟨by rfl, ?_⟩) (by assumption) ?_
    case refine_2 => (intro w hSw; skip; go_simp; first | done | with_reducible rfl)
    simp only [Act.put, List.setIfInBounds_toArray, List.set_cons_zero, List.set_cons_succ]
    refine wpAnyH_ready (rs := [8]) (by kernel_rfl) (by simp) ?_
    refine AllReadyH.cons (o := ⟨some 26, _, _, _, _, _⟩) rfl (fun K hK => ?_) AllReadyH.nil
    go_simp
    go_wp2_with fail
    refine hK.out _ _ (X7.drew.alloc _) (fun hHeld => ?_)
    clear hK K
    try simp only [Act.put, List.setIfInBounds_toArray, List.set_cons_zero, List.set_cons_succ]
    refine wpAnyH_ready (rs := [9]) (by kernel_rfl) (by simp) ?_
    refine AllReadyH.cons (o := ⟨some 27, _, _, _, _, _⟩) rfl (fun K hK => ?_) AllReadyH.nil
    go_simp
    refine (dInt w.heap.size g w7.drew.heap.size 6 [0, 0, 1, (s.size : Int), -1, (s.size : Int) + 1] _ ((show Cur _ w7.drew g from hc7).alloc _) rfl (by omega) (by omega) (Blk.new w7.drew _ _) (by have := hc7.lt; simp; omega)).mono ?_; rintro e w8 ⟨⟨i, rfl, hi⟩, hc8, hg8⟩
    go_wp2_with fail
    refine hK.out _ _ (hHeld.grown hg8 (by simp; omega)) (fun hHeld => ?_)
    clear hK K
    try simp only [Act.put, List.setIfInBounds_toArray, List.set_cons_zero, List.set_cons_succ]
    have R8 := (R7.drew.alloc _).grown hg8 (by simp; omega)
    have hS8 := ((hS7.keep (w' := w7.drew) (fun _ _ _ => rfl) (Nat.le_refl _) (Nat.le_refl _)).keep (w' := w7.drew.alloc (.cells (List.map (Value.int .i64) [0, 0, 1, (s.size : Int), -1, (s.size : Int) + 1]).toArray 3)) (fun p _ h2 => World.cell?_alloc_lt _ _ _ (by show p.block < w7.heap.size; omega)) (Nat.le_refl _) (Nat.le_refl _)).grown hg8 (fun k e => by cases e; omega) (by rw [alloc_size]; show _ ≤ w7.heap.size + 1; omega)
    have G8 := gr_trans (gr_alloc (gr_drewN G7 1) _) hg8
    have s8 := hg8.size
    rw [alloc_size] at s8
    have s9 : w7.heap.size ≤ w8.heap.size := by have : w7.drew.heap.size = w7.heap.size := rfl; omega
    have L8 := bl_gr L1 G8 (fun k e => by cases e; omega)
    have f8 := R8.frozen
    have p8 := R8.cell
    have X8 := (X7.drew.alloc _).grown hg8 (by simp; omega)
    refine wpAnyH_ready (rs := [10]) (by kernel_rfl) (by simp) ?_
    refine AllReadyH.cons (o := ⟨none, _, _, _, _, _⟩) rfl (fun K hK => ?_) AllReadyH.nil
    go_simp
    go_wp2_with fail
    refine hK.out _ _ (((X8.farb (by omega) _).farb (by omega) _).farb (by omega) _) (fun hHeld => ?_)
    clear hK K
    try simp only [Act.put, List.setIfInBounds_toArray, List.set_cons_zero, List.set_cons_succ]
    refine wpAnyH_take (i := 11) (oi := ⟨some 3, _, _, _, _, _⟩) (v := ?_) rfl (by kernel_rfl) (by kernel_rfl) (by kernel_rfl) (fun _ _ _ h => h) (Or.inl ⟨by rfl, ?_⟩) (by assumption) ?_
    case refine_2 => (intro w hSw; skip; go_simp; first | done | with_reducible rfl)
    simp only [Act.put, List.setIfInBounds_toArray, List.set_cons_zero, List.set_cons_succ]
    refine wpAnyH_take (i := 12) (oi := ⟨some 4, _, _, _, _, _⟩) (v := ?_) rfl (by kernel_rfl) (by kernel_rfl) (by kernel_rfl) (fun _ _ _ h => h) (Or.inl ⟨by rfl, ?_⟩) (by assumption) ?_
    case refine_2 => (intro w hSw; skip; go_simp; first | done | with_reducible rfl)
    simp only [Act.put, List.setIfInBounds_toArray, List.set_cons_zero, List.set_cons_succ]
    refine wpAnyH_done (by kernel_rfl) ?_ _
    have hib : -1 ≤ i ∧ i ≤ (s.size : Int) + 1 := by simp only [List.mem_cons, List.not_mem_nil, or_false] at hi; omega
    go_wp2_with fail
    exact bodyPost_ret (res_cell_2 rfl _ _ _ _ _ _ rfl (((R8.set_ 0 _).set_ 1 _).set_ 2 _) Try.underlying30 (by kernel_rfl)) rfl ⟨⟨yk, ys, ky, Ay, cy, s, i, rfl, ⟨hs, hib⟩, (((hS8.setb (.inl (by omega)) _).setb (.inl (by omega)) _).setb (.inl (by omega)) _).more (by omega) (by simp <;> omega), hsm5⟩, bl_setb (bl_setb (bl_setb L8 (Nat.le_refl _) _) (Nat.le_refl _) _) (Nat.le_refl _) _⟩

end Go.Proofs.Ytdfcgnbklnceiaa
