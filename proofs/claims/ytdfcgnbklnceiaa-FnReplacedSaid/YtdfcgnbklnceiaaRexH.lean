/- Walks over the reference's draws: DrawReplace. -/
import Derived.Test.YtdfcgnbklnceiaaRexG
namespace Go.Proofs.Ytdfcgnbklnceiaa
open Go.RowKit

theorem res_cell_3 {fn : Func} {p a0 a1 a2 : Tmp} {ty : TypeId} (h : fn.results = #[.cell p ty, .tmp a0, .tmp a1, .tmp a2]) (tmps : Array Value) (P : Program) (w : World) (g : Nat) (t : TypeId) (cs : Array Value) {fs : _}
    (hp : tmps.getD p undef = .pointer (some ⟨g, 0, none⟩)) (hg : Blk w g t cs)
    (hu : P.underlying ty = some (.struct fs)) (hi : (P.info? ty).map (·.size) = some cs.size) :
    (results fn tmps).run P w = .ok (.tuple #[.agg cs, tmps.getD a0 undef, tmps.getD a1 undef, tmps.getD a2 undef]) w := by
  have hp' : tmps[p]?.getD undef = .pointer (some ⟨g, 0, none⟩) := by simpa using hp
  simp [results, h, hp', asAddr, run_loadVar_row w g t ty cs (0, 0) (.struct fs) hg hu rfl hi]

/-- It hands back a drawn expression, two texts and a truth. -/
def RetXST (Q : Int → ByteArray → Fr (Int × ByteArray) → Prop) (w : World) (e : Ending) (w' : World) : Prop := ∃ (zk : Int) (zs : ByteArray) (kids : Fr (Int × ByteArray)) (A : Option Addr) (c : Nat) (s t : ByteArray) (b : Bool), e = .returned (.tuple #[.agg #[.int .i64 zk, .string zs, .slice A kids.len c], .string s, .string t, .bool b]) ∧ (s.size ≤ 6 ∧ t.size ≤ 2) ∧ Sl rexC w' w.heap.size w'.heap.size A kids ∧ Q zk zs kids

set_option maxRecDepth 20000 in
set_option maxHeartbeats 16000000 in
theorem dRepl (A0 : Option Addr) (n0 c0 : Nat) (bs : List Int) (w : World) (hR : Reads w w.heap.size 1 A0 n0 (u8s bs)) (hZ : Byt bs) (hn : n0 ≤ 1048576) :
    Calls Try.prog 32 #[.slice A0 n0 c0] w fun e w' => RetXST anyQ w e w' ∧ Below w.heap.size w w' := by
  have R0 := Blk.new w 30 #[.int .i64 0, .string ⟨#[]⟩, .slice none 0 0]
  have L0 := bl_alloc (Below.refl w.heap.size w) (.cells #[.int .i64 0, .string ⟨#[]⟩, .slice none 0 0] 30)
  have hR0 := hR.alloc (Nat.le_refl _) (.cells #[.int .i64 0, .string ⟨#[]⟩, .slice none 0 0] 30)
  have es := Nat.le_of_eq (alloc_size w (.cells #[.int .i64 0, .string ⟨#[]⟩, .slice none 0 0] 30)).symm
  go_enter Try.func32, Try.ntmps32
  go_wp2_with fail
  refine (dNew w.heap.size n0 c0 A0 bs _ hR0 hZ (by omega) hn).mono ?_; rintro e w1 ⟨g, rfl, hc1, hg, b1⟩
  have L1 := bl_trans L0 b1
  have R1 := R0.keep b1
  have hgw : w.heap.size < g := by omega
  have hg1 := hc1.lt
  clear R0 L0 hR0 b1 hg es
  go_wp2_with fail
  refine (dDraw w.heap.size g 2 (by omega) _ hc1).mono ?_; rintro e w2 ⟨⟨zk, zs, kids, A, c, rfl, hS2, hgood⟩, hc2, G2⟩
  have R2 := R1.grown G2 (by simp; omega)
  have s2 := G2.size
  have hsm := small_good hgood (M := 400) (by decide)
  clear hgood
  go_wp2_with fail
  have X3 := Blk.new w2 30 #[.int .i64 zk, .string zs, .slice A kids.len c]
  have R3 := R2.alloc (.cells #[.int .i64 zk, .string zs, .slice A kids.len c] 30)
  have hc3 := hc2.alloc (.cells #[.int .i64 zk, .string zs, .slice A kids.len c] 30)
  have G3 := gr_alloc G2 (.cells #[.int .i64 zk, .string zs, .slice A kids.len c] 30)
  have hS3 := hS2.keep (w' := w2.alloc (.cells #[.int .i64 zk, .string zs, .slice A kids.len c] 30)) (fun p _ h2 => World.cell?_alloc_lt _ _ _ h2) (Nat.le_refl _) (Nat.le_refl _)
  have es1 := Nat.le_of_eq (alloc_size w2 (.cells #[.int .i64 zk, .string zs, .slice A kids.len c] 30))
  have es2 := Nat.le_of_eq (alloc_size w2 (.cells #[.int .i64 zk, .string zs, .slice A kids.len c] 30)).symm
  clear R2 hc2 G2 hS2
  generalize w2.alloc (.cells #[.int .i64 zk, .string zs, .slice A kids.len c] 30) = w3 at X3 R3 hc3 G3 hS3 es1 es2 ⊢
  generalize w2.heap.size = xb at X3 hS3 es1 es2 s2 ⊢
  refine (dOnce w.heap.size g 10 _ hc3 (by omega)).mono ?_; rintro e w4 ⟨⟨bo, rfl⟩, hc4, hg4⟩
  have X4 := X3.grown hg4 (by simp; omega)
  have R4 := R3.grown hg4 (by simp; omega)
  have G4 := gr_trans G3 hg4
  have s4 := hg4.size
  have hS4 := hS3.grown hg4 (fun k e => by cases e; omega) (by omega)
  clear X3 R3 hc3 G3 hS3 hg4
  cases bo
  case false =>
    go_upto_region 5 with fail
    refine wp_region_held_drew (S := (fun x => Blk x xb 30 #[.int .i64 zk, .string zs, .slice A kids.len c])) (by kernel_rfl) ?_ (fun hHeld => ?_)
    · exact X4.drew
    refine wpAnyH_take (i := 0) (oi := ⟨some 16, _, _, _, _, _⟩) (v := ?_) rfl (by kernel_rfl) (by kernel_rfl) (by kernel_rfl) (fun _ _ _ h => h) (Or.inl ⟨by rfl, ?_⟩) (by assumption) ?_
    case refine_2 => (intro w hSw; have p := hSw.cell; go_simp; first | done | with_reducible rfl)
    simp only [Act.put, List.setIfInBounds_toArray, List.set_cons_zero, List.set_cons_succ]
    refine wpAnyH_take (i := 1) (oi := ⟨some 17, _, _, _, _, _⟩) (v := ?_) rfl (by kernel_rfl) (by kernel_rfl) (by kernel_rfl) (fun _ _ _ h => h) (Or.inl ⟨by rfl, ?_⟩) (by assumption) ?_
    case refine_2 => (intro w hSw; skip; go_simp; first | done | with_reducible rfl)
    simp only [Act.put, List.setIfInBounds_toArray, List.set_cons_zero, List.set_cons_succ]
    refine wpAnyH_take (i := 3) (oi := ⟨some 19, _, _, _, _, _⟩) (v := ?_) rfl (by kernel_rfl) (by kernel_rfl) (by kernel_rfl) (fun _ _ _ h => h) (Or.inl ⟨by rfl, ?_⟩) (by assumption) ?_
    case refine_2 => (intro w hSw; skip; go_simp; first | done | with_reducible rfl)
    simp only [Act.put, List.setIfInBounds_toArray, List.set_cons_zero, List.set_cons_succ]
    refine wpAnyH_take (i := 6) (oi := ⟨some 22, _, _, _, _, _⟩) (v := ?_) rfl (by kernel_rfl) (by kernel_rfl) (by kernel_rfl) (fun _ _ _ h => h) (Or.inl ⟨by rfl, ?_⟩) (by assumption) ?_
    case refine_2 => (intro w hSw; skip; go_simp; first | done | with_reducible rfl)
    simp only [Act.put, List.setIfInBounds_toArray, List.set_cons_zero, List.set_cons_succ]
    refine wpAnyH_ready (rs := [2, 4]) (by kernel_rfl) (by simp) ?_
    refine AllReadyH.cons (o := ⟨some 18, _, _, _, _, _⟩) rfl (fun K hK => ?_) (AllReadyH.cons (o := ⟨some 20, _, _, _, _, _⟩) rfl (fun K hK => ?_) AllReadyH.nil)
    · go_simp
      refine (dText w.heap.size g _ (show Cur _ w4.drew g from hc4)).mono ?_; rintro e w8 ⟨⟨s, rfl, hs⟩, hc8, hg8⟩
      go_wp2_with fail
      refine hK.out _ _ (hHeld.grown hg8 (by simp; omega)) (fun hHeld => ?_)
      clear hK K
      try simp only [Act.put, List.setIfInBounds_toArray, List.set_cons_zero, List.set_cons_succ]
      have R8 := R4.drew.grown hg8 (by simp; omega)
      have X8 := X4.drew.grown hg8 (by simp; omega)
      have hS8 := (hS4.keep (w' := w4.drew) (fun _ _ _ => rfl) (Nat.le_refl _) (Nat.le_refl _)).grown hg8 (fun k e => by cases e; omega) (by show xb ≤ w4.heap.size; omega)
      have G8 := gr_trans (gr_drewN G4 1) hg8
      have s8 : w4.heap.size ≤ w8.heap.size := hg8.size
      have h8 : xb ≤ w8.heap.size := by omega
      refine wpAnyH_ready (rs := [4]) (by kernel_rfl) (by simp) ?_
      refine AllReadyH.cons (o := ⟨some 20, _, _, _, _, _⟩) rfl (fun K hK => ?_) AllReadyH.nil
      go_simp
      go_wp2_with fail
      refine hK.out _ _ (hHeld.alloc _) (fun hHeld => ?_)
      clear hK K
      try simp only [Act.put, List.setIfInBounds_toArray, List.set_cons_zero, List.set_cons_succ]
      have R9 := R8.alloc (.cells (List.map Value.string [⟨#[]⟩, ⟨#[120]⟩, ⟨#[121, 121]⟩, ⟨#[97]⟩]).toArray 9)
      have X9 := X8.alloc (.cells (List.map Value.string [⟨#[]⟩, ⟨#[120]⟩, ⟨#[121, 121]⟩, ⟨#[97]⟩]).toArray 9)
      have hS9 := hS8.keep (w' := w8.alloc (.cells (List.map Value.string [⟨#[]⟩, ⟨#[120]⟩, ⟨#[121, 121]⟩, ⟨#[97]⟩]).toArray 9)) (fun p _ h2 => World.cell?_alloc_lt _ _ _ (by omega)) (Nat.le_refl _) (Nat.le_refl _)
      have G9 := gr_alloc G8 (.cells (List.map Value.string [⟨#[]⟩, ⟨#[120]⟩, ⟨#[121, 121]⟩, ⟨#[97]⟩]).toArray 9)
      have s9 : w4.heap.size ≤ (w8.alloc (.cells (List.map Value.string [⟨#[]⟩, ⟨#[120]⟩, ⟨#[121, 121]⟩, ⟨#[97]⟩]).toArray 9)).heap.size := by rw [alloc_size]; omega
      have h9 : xb ≤ (w8.alloc (.cells (List.map Value.string [⟨#[]⟩, ⟨#[120]⟩, ⟨#[121, 121]⟩, ⟨#[97]⟩]).toArray 9)).heap.size := by rw [alloc_size]; omega
      have hc9 := hc8.alloc (.cells (List.map Value.string [⟨#[]⟩, ⟨#[120]⟩, ⟨#[121, 121]⟩, ⟨#[97]⟩]).toArray 9)
      have B9 := Blk.new w8 9 (List.map Value.string [⟨#[]⟩, ⟨#[120]⟩, ⟨#[121, 121]⟩, ⟨#[97]⟩]).toArray
      have hlt8 := hc8.lt
      refine wpAnyH_ready (rs := [5]) (by kernel_rfl) (by simp) ?_
      refine AllReadyH.cons (o := ⟨some 21, _, _, _, _, _⟩) rfl (fun K hK => ?_) AllReadyH.nil
      go_simp
      refine (dStr w.heap.size g w8.heap.size 4 [⟨#[]⟩, ⟨#[120]⟩, ⟨#[121, 121]⟩, ⟨#[97]⟩] _ hc9 rfl (by omega) (by omega) B9 (by omega)).mono ?_; rintro e w10 ⟨⟨t, rfl, ht⟩, hc10, hg10⟩
      go_wp2_with fail
      refine hK.out _ _ (hHeld.grown hg10 (by simp; omega)) (fun hHeld => ?_)
      clear hK K
      try simp only [Act.put, List.setIfInBounds_toArray, List.set_cons_zero, List.set_cons_succ]
      have ht2 : t.size ≤ 2 := (show ∀ z ∈ ([⟨#[]⟩, ⟨#[120]⟩, ⟨#[121, 121]⟩, ⟨#[97]⟩] : List ByteArray), z.size ≤ 2 by decide) t ht
      clear ht
      have R10 := R9.grown hg10 (by simp; omega)
      have X10 := X9.grown hg10 (by simp; omega)
      have hS10 := hS9.grown hg10 (fun k e => by cases e; omega) h9
      have G10 := gr_trans G9 hg10
      have s10 := Nat.le_trans s9 hg10.size
      have h10 := Nat.le_trans h9 hg10.size
      refine wpAnyH_ready (rs := [7]) (by kernel_rfl) (by simp) ?_
      refine AllReadyH.cons (o := ⟨some 23, _, _, _, _, _⟩) rfl (fun K hK => ?_) AllReadyH.nil
      go_simp
      refine (dOnce w.heap.size g 2 _ hc10 (by omega)).mono ?_; rintro e w11 ⟨⟨b, rfl⟩, hc11, hg11⟩
      go_wp2_with fail
      refine hK.out _ _ (hHeld.grown hg11 (by simp; omega)) (fun hHeld => ?_)
      clear hK K
      try simp only [Act.put, List.setIfInBounds_toArray, List.set_cons_zero, List.set_cons_succ]
      have R11 := R10.grown hg11 (by simp; omega)
      have X11 := X10.grown hg11 (by simp; omega)
      have hS11 := hS10.grown hg11 (fun k e => by cases e; omega) h10
      have G11 := gr_trans G10 hg11
      have s11 := Nat.le_trans s10 hg11.size
      have h11 := Nat.le_trans h10 hg11.size
      have L11 := bl_gr L1 G11 (fun k e => by cases e; omega)
      have f11 := R11.frozen
      have p11 := R11.cell
      refine wpAnyH_ready (rs := [8]) (by kernel_rfl) (by simp) ?_
      refine AllReadyH.cons (o := ⟨none, _, _, _, _, _⟩) rfl (fun K hK => ?_) AllReadyH.nil
      go_simp
      go_wp2_with fail
      refine hK.out _ _ (((X11.farb (by omega) _).farb (by omega) _).farb (by omega) _) (fun hHeld => ?_)
      clear hK K
      try simp only [Act.put, List.setIfInBounds_toArray, List.set_cons_zero, List.set_cons_succ]
      refine wpAnyH_take (i := 9) (oi := ⟨some 3, _, _, _, _, _⟩) (v := ?_) rfl (by kernel_rfl) (by kernel_rfl) (by kernel_rfl) (fun _ _ _ h => h) (Or.inl ⟨by rfl, ?_⟩) (by assumption) ?_
      case refine_2 => (intro w hSw; skip; go_simp; first | done | with_reducible rfl)
      simp only [Act.put, List.setIfInBounds_toArray, List.set_cons_zero, List.set_cons_succ]
      refine wpAnyH_take (i := 10) (oi := ⟨some 4, _, _, _, _, _⟩) (v := ?_) rfl (by kernel_rfl) (by kernel_rfl) (by kernel_rfl) (fun _ _ _ h => h) (Or.inl ⟨by rfl, ?_⟩) (by assumption) ?_
      case refine_2 => (intro w hSw; skip; go_simp; first | done | with_reducible rfl)
      simp only [Act.put, List.setIfInBounds_toArray, List.set_cons_zero, List.set_cons_succ]
      refine wpAnyH_take (i := 11) (oi := ⟨some 5, _, _, _, _, _⟩) (v := ?_) rfl (by kernel_rfl) (by kernel_rfl) (by kernel_rfl) (fun _ _ _ h => h) (Or.inl ⟨by rfl, ?_⟩) (by assumption) ?_
      case refine_2 => (intro w hSw; skip; go_simp; first | done | with_reducible rfl)
      simp only [Act.put, List.setIfInBounds_toArray, List.set_cons_zero, List.set_cons_succ]
      refine wpAnyH_done (by kernel_rfl) ?_ _
      go_wp2_with fail
      exact bodyPost_ret (res_cell_3 rfl _ _ _ _ _ _ rfl (((R11.set_ 0 _).set_ 1 _).set_ 2 _) Try.underlying30 (by kernel_rfl)) rfl ⟨⟨zk, zs, kids, A, c, s, t, b, rfl, ⟨hs, ht2⟩, (((hS11.setb (.inl (by omega)) _).setb (.inl (by omega)) _).setb (.inl (by omega)) _).more (by omega) (by simp <;> omega), hsm⟩, bl_setb (bl_setb (bl_setb L11 (Nat.le_refl _) _) (Nat.le_refl _) _) (Nat.le_refl _) _⟩
    · go_simp
      go_wp2_with fail
      refine hK.out _ _ (X4.drew.alloc _) (fun hHeld => ?_)
      clear hK K
      try simp only [Act.put, List.setIfInBounds_toArray, List.set_cons_zero, List.set_cons_succ]
      refine wpAnyH_ready (rs := [2]) (by kernel_rfl) (by simp) ?_
      refine AllReadyH.cons (o := ⟨some 18, _, _, _, _, _⟩) rfl (fun K hK => ?_) AllReadyH.nil
      go_simp
      refine (dText w.heap.size g _ ((show Cur _ w4.drew g from hc4).alloc _)).mono ?_; rintro e w9 ⟨⟨s, rfl, hs⟩, hc9, hg9⟩
      go_wp2_with fail
      refine hK.out _ _ (hHeld.grown hg9 (by simp; omega)) (fun hHeld => ?_)
      clear hK K
      try simp only [Act.put, List.setIfInBounds_toArray, List.set_cons_zero, List.set_cons_succ]
      have hlt8 : g < w4.heap.size := hc4.lt
      have R9 := (R4.drew.alloc (.cells (List.map Value.string [⟨#[]⟩, ⟨#[120]⟩, ⟨#[121, 121]⟩, ⟨#[97]⟩]).toArray 9)).grown hg9 (by simp; omega)
      have X9 := (X4.drew.alloc (.cells (List.map Value.string [⟨#[]⟩, ⟨#[120]⟩, ⟨#[121, 121]⟩, ⟨#[97]⟩]).toArray 9)).grown hg9 (by simp; omega)
      have hS9 := ((hS4.keep (w' := w4.drew) (fun _ _ _ => rfl) (Nat.le_refl _) (Nat.le_refl _)).keep (w' := w4.drew.alloc (.cells (List.map Value.string [⟨#[]⟩, ⟨#[120]⟩, ⟨#[121, 121]⟩, ⟨#[97]⟩]).toArray 9)) (fun p _ h2 => World.cell?_alloc_lt _ _ _ (by show p.block < w4.heap.size; omega)) (Nat.le_refl _) (Nat.le_refl _)).grown hg9 (fun k e => by cases e; omega) (by rw [alloc_size]; show _ ≤ w4.heap.size + 1; omega)
      have G9 := gr_trans (gr_alloc (gr_drewN G4 1) (.cells (List.map Value.string [⟨#[]⟩, ⟨#[120]⟩, ⟨#[121, 121]⟩, ⟨#[97]⟩]).toArray 9)) hg9
      have s9' := hg9.size
      rw [alloc_size] at s9'
      have s9 : w4.heap.size ≤ w9.heap.size := by have : w4.drew.heap.size = w4.heap.size := rfl; omega
      have h9 : xb ≤ w9.heap.size := by omega
      have B9 := (Blk.new w4.drew 9 (List.map Value.string [⟨#[]⟩, ⟨#[120]⟩, ⟨#[121, 121]⟩, ⟨#[97]⟩]).toArray).grown hg9 (by show some w4.heap.size ≠ some g; simp; omega)
      refine wpAnyH_ready (rs := [5]) (by kernel_rfl) (by simp) ?_
      refine AllReadyH.cons (o := ⟨some 21, _, _, _, _, _⟩) rfl (fun K hK => ?_) AllReadyH.nil
      go_simp
      refine (dStr w.heap.size g w4.drew.heap.size 4 [⟨#[]⟩, ⟨#[120]⟩, ⟨#[121, 121]⟩, ⟨#[97]⟩] _ hc9 rfl (by omega) (by omega) B9 (by have : w4.drew.heap.size = w4.heap.size := rfl; omega)).mono ?_; rintro e w10 ⟨⟨t, rfl, ht⟩, hc10, hg10⟩
      go_wp2_with fail
      refine hK.out _ _ (hHeld.grown hg10 (by simp; omega)) (fun hHeld => ?_)
      clear hK K
      try simp only [Act.put, List.setIfInBounds_toArray, List.set_cons_zero, List.set_cons_succ]
      have ht2 : t.size ≤ 2 := (show ∀ z ∈ ([⟨#[]⟩, ⟨#[120]⟩, ⟨#[121, 121]⟩, ⟨#[97]⟩] : List ByteArray), z.size ≤ 2 by decide) t ht
      clear ht
      have R10 := R9.grown hg10 (by simp; omega)
      have X10 := X9.grown hg10 (by simp; omega)
      have hS10 := hS9.grown hg10 (fun k e => by cases e; omega) h9
      have G10 := gr_trans G9 hg10
      have s10 := Nat.le_trans s9 hg10.size
      have h10 := Nat.le_trans h9 hg10.size
      refine wpAnyH_ready (rs := [7]) (by kernel_rfl) (by simp) ?_
      refine AllReadyH.cons (o := ⟨some 23, _, _, _, _, _⟩) rfl (fun K hK => ?_) AllReadyH.nil
      go_simp
      refine (dOnce w.heap.size g 2 _ hc10 (by omega)).mono ?_; rintro e w11 ⟨⟨b, rfl⟩, hc11, hg11⟩
      go_wp2_with fail
      refine hK.out _ _ (hHeld.grown hg11 (by simp; omega)) (fun hHeld => ?_)
      clear hK K
      try simp only [Act.put, List.setIfInBounds_toArray, List.set_cons_zero, List.set_cons_succ]
      have R11 := R10.grown hg11 (by simp; omega)
      have X11 := X10.grown hg11 (by simp; omega)
      have hS11 := hS10.grown hg11 (fun k e => by cases e; omega) h10
      have G11 := gr_trans G10 hg11
      have s11 := Nat.le_trans s10 hg11.size
      have h11 := Nat.le_trans h10 hg11.size
      have L11 := bl_gr L1 G11 (fun k e => by cases e; omega)
      have f11 := R11.frozen
      have p11 := R11.cell
      refine wpAnyH_ready (rs := [8]) (by kernel_rfl) (by simp) ?_
      refine AllReadyH.cons (o := ⟨none, _, _, _, _, _⟩) rfl (fun K hK => ?_) AllReadyH.nil
      go_simp
      go_wp2_with fail
      refine hK.out _ _ (((X11.farb (by omega) _).farb (by omega) _).farb (by omega) _) (fun hHeld => ?_)
      clear hK K
      try simp only [Act.put, List.setIfInBounds_toArray, List.set_cons_zero, List.set_cons_succ]
      refine wpAnyH_take (i := 9) (oi := ⟨some 3, _, _, _, _, _⟩) (v := ?_) rfl (by kernel_rfl) (by kernel_rfl) (by kernel_rfl) (fun _ _ _ h => h) (Or.inl ⟨by rfl, ?_⟩) (by assumption) ?_
      case refine_2 => (intro w hSw; skip; go_simp; first | done | with_reducible rfl)
      simp only [Act.put, List.setIfInBounds_toArray, List.set_cons_zero, List.set_cons_succ]
      refine wpAnyH_take (i := 10) (oi := ⟨some 4, _, _, _, _, _⟩) (v := ?_) rfl (by kernel_rfl) (by kernel_rfl) (by kernel_rfl) (fun _ _ _ h => h) (Or.inl ⟨by rfl, ?_⟩) (by assumption) ?_
      case refine_2 => (intro w hSw; skip; go_simp; first | done | with_reducible rfl)
      simp only [Act.put, List.setIfInBounds_toArray, List.set_cons_zero, List.set_cons_succ]
      refine wpAnyH_take (i := 11) (oi := ⟨some 5, _, _, _, _, _⟩) (v := ?_) rfl (by kernel_rfl) (by kernel_rfl) (by kernel_rfl) (fun _ _ _ h => h) (Or.inl ⟨by rfl, ?_⟩) (by assumption) ?_
      case refine_2 => (intro w hSw; skip; go_simp; first | done | with_reducible rfl)
      simp only [Act.put, List.setIfInBounds_toArray, List.set_cons_zero, List.set_cons_succ]
      refine wpAnyH_done (by kernel_rfl) ?_ _
      go_wp2_with fail
      exact bodyPost_ret (res_cell_3 rfl _ _ _ _ _ _ rfl (((R11.set_ 0 _).set_ 1 _).set_ 2 _) Try.underlying30 (by kernel_rfl)) rfl ⟨⟨zk, zs, kids, A, c, s, t, b, rfl, ⟨hs, ht2⟩, (((hS11.setb (.inl (by omega)) _).setb (.inl (by omega)) _).setb (.inl (by omega)) _).more (by omega) (by simp <;> omega), hsm⟩, bl_setb (bl_setb (bl_setb L11 (Nat.le_refl _) _) (Nat.le_refl _) _) (Nat.le_refl _) _⟩
  case true =>
    go_wp2_with fail
    refine (dAny w.heap.size g _ hc4).mono ?_; rintro e w5 ⟨⟨yk, ys, ky, Ay, cy, rfl, hSy, hsm5⟩, hc5, hg5⟩
    have X5 := X4.grown hg5 (by simp; omega)
    have R5 := R4.grown hg5 (by simp; omega)
    have G5 := gr_trans G4 hg5
    have s5 := hg5.size
    have p5 := X5.cell
    have f5 := X5.frozen
    have X6 := ((X5.set_ 0 (.int .i64 yk)).set_ 1 (.string ys)).set_ 2 (.slice Ay ky.len cy)
    simp only [List.setIfInBounds_toArray, List.set_cons_succ, List.set_cons_zero] at X6
    have R6 := ((R5.farb (b := xb) (j := 0) (by omega) (.int .i64 yk)).farb (b := xb) (j := 1) (by omega) (.string ys)).farb (b := xb) (j := 2) (by omega) (.slice Ay ky.len cy)
    have hc6 := ((hc5.setn (b := xb) (j := 0) (by omega) (.int .i64 yk)).setn (b := xb) (j := 1) (by omega) (.string ys)).setn (b := xb) (j := 2) (by omega) (.slice Ay ky.len cy)
    have G6 := gr_setn (b := xb) (j := 2) (gr_setn (b := xb) (j := 1) (gr_setn (b := xb) (j := 0) G5 (by omega) (.int .i64 yk)) (by omega) (.string ys)) (by omega) (.slice Ay ky.len cy)
    have hS6 := ((hSy.setb (b := xb) (j := 0) (.inl (by omega)) (.int .i64 yk)).setb (b := xb) (j := 1) (.inl (by omega)) (.string ys)).setb (b := xb) (j := 2) (.inl (by omega)) (.slice Ay ky.len cy)
    have s6 : w5.heap.size ≤ (((w5.setCell ⟨xb, 0, none⟩ (.int .i64 yk)).setCell ⟨xb, 1, none⟩ (.string ys)).setCell ⟨xb, 2, none⟩ (.slice Ay ky.len cy)).heap.size := by simp
    clear X4 R4 G4 hc4 hS4 X5 R5 G5 hc5 hg5 hSy
    go_upto_region 5 with fail
    clear p5 f5
    generalize ((w5.setCell ⟨xb, 0, none⟩ (.int .i64 yk)).setCell ⟨xb, 1, none⟩ (.string ys)).setCell ⟨xb, 2, none⟩ (.slice Ay ky.len cy) = w6 at X6 R6 G6 hc6 hS6 s6 ⊢
    refine wp_region_held_drew (S := (fun x => Blk x xb 30 #[.int .i64 yk, .string ys, .slice Ay ky.len cy])) (by kernel_rfl) ?_ (fun hHeld => ?_)
    · exact X6.drew
    refine wpAnyH_take (i := 0) (oi := ⟨some 16, _, _, _, _, _⟩) (v := ?_) rfl (by kernel_rfl) (by kernel_rfl) (by kernel_rfl) (fun _ _ _ h => h) (Or.inl ⟨by rfl, ?_⟩) (by assumption) ?_
    case refine_2 => (intro w hSw; have p := hSw.cell; go_simp; first | done | with_reducible rfl)
    simp only [Act.put, List.setIfInBounds_toArray, List.set_cons_zero, List.set_cons_succ]
    refine wpAnyH_take (i := 1) (oi := ⟨some 17, _, _, _, _, _⟩) (v := ?_) rfl (by kernel_rfl) (by kernel_rfl) (by kernel_rfl) (fun _ _ _ h => h) (Or.inl ⟨by rfl, ?_⟩) (by assumption) ?_
    case refine_2 => (intro w hSw; skip; go_simp; first | done | with_reducible rfl)
    simp only [Act.put, List.setIfInBounds_toArray, List.set_cons_zero, List.set_cons_succ]
    refine wpAnyH_take (i := 3) (oi := ⟨some 19, _, _, _, _, _⟩) (v := ?_) rfl (by kernel_rfl) (by kernel_rfl) (by kernel_rfl) (fun _ _ _ h => h) (Or.inl ⟨by rfl, ?_⟩) (by assumption) ?_
    case refine_2 => (intro w hSw; skip; go_simp; first | done | with_reducible rfl)
    simp only [Act.put, List.setIfInBounds_toArray, List.set_cons_zero, List.set_cons_succ]
    refine wpAnyH_take (i := 6) (oi := ⟨some 22, _, _, _, _, _⟩) (v := ?_) rfl (by kernel_rfl) (by kernel_rfl) (by kernel_rfl) (fun _ _ _ h => h) (Or.inl ⟨by rfl, ?_⟩) (by assumption) ?_
    case refine_2 => (intro w hSw; skip; go_simp; first | done | with_reducible rfl)
    simp only [Act.put, List.setIfInBounds_toArray, List.set_cons_zero, List.set_cons_succ]
    refine wpAnyH_ready (rs := [2, 4]) (by kernel_rfl) (by simp) ?_
    refine AllReadyH.cons (o := ⟨some 18, _, _, _, _, _⟩) rfl (fun K hK => ?_) (AllReadyH.cons (o := ⟨some 20, _, _, _, _, _⟩) rfl (fun K hK => ?_) AllReadyH.nil)
    · go_simp
      refine (dText w.heap.size g _ (show Cur _ w6.drew g from hc6)).mono ?_; rintro e w8 ⟨⟨s, rfl, hs⟩, hc8, hg8⟩
      go_wp2_with fail
      refine hK.out _ _ (hHeld.grown hg8 (by simp; omega)) (fun hHeld => ?_)
      clear hK K
      try simp only [Act.put, List.setIfInBounds_toArray, List.set_cons_zero, List.set_cons_succ]
      have R8 := R6.drew.grown hg8 (by simp; omega)
      have X8 := X6.drew.grown hg8 (by simp; omega)
      have hS8 := (hS6.keep (w' := w6.drew) (fun _ _ _ => rfl) (Nat.le_refl _) (Nat.le_refl _)).grown hg8 (fun k e => by cases e; omega) (by show w5.heap.size ≤ w6.heap.size; omega)
      have G8 := gr_trans (gr_drewN G6 1) hg8
      have s8 : w6.heap.size ≤ w8.heap.size := hg8.size
      have h8 : w5.heap.size ≤ w8.heap.size := by omega
      refine wpAnyH_ready (rs := [4]) (by kernel_rfl) (by simp) ?_
      refine AllReadyH.cons (o := ⟨some 20, _, _, _, _, _⟩) rfl (fun K hK => ?_) AllReadyH.nil
      go_simp
      go_wp2_with fail
      refine hK.out _ _ (hHeld.alloc _) (fun hHeld => ?_)
      clear hK K
      try simp only [Act.put, List.setIfInBounds_toArray, List.set_cons_zero, List.set_cons_succ]
      have R9 := R8.alloc (.cells (List.map Value.string [⟨#[]⟩, ⟨#[120]⟩, ⟨#[121, 121]⟩, ⟨#[97]⟩]).toArray 9)
      have X9 := X8.alloc (.cells (List.map Value.string [⟨#[]⟩, ⟨#[120]⟩, ⟨#[121, 121]⟩, ⟨#[97]⟩]).toArray 9)
      have hS9 := hS8.keep (w' := w8.alloc (.cells (List.map Value.string [⟨#[]⟩, ⟨#[120]⟩, ⟨#[121, 121]⟩, ⟨#[97]⟩]).toArray 9)) (fun p _ h2 => World.cell?_alloc_lt _ _ _ (by omega)) (Nat.le_refl _) (Nat.le_refl _)
      have G9 := gr_alloc G8 (.cells (List.map Value.string [⟨#[]⟩, ⟨#[120]⟩, ⟨#[121, 121]⟩, ⟨#[97]⟩]).toArray 9)
      have s9 : w6.heap.size ≤ (w8.alloc (.cells (List.map Value.string [⟨#[]⟩, ⟨#[120]⟩, ⟨#[121, 121]⟩, ⟨#[97]⟩]).toArray 9)).heap.size := by rw [alloc_size]; omega
      have h9 : w5.heap.size ≤ (w8.alloc (.cells (List.map Value.string [⟨#[]⟩, ⟨#[120]⟩, ⟨#[121, 121]⟩, ⟨#[97]⟩]).toArray 9)).heap.size := by rw [alloc_size]; omega
      have hc9 := hc8.alloc (.cells (List.map Value.string [⟨#[]⟩, ⟨#[120]⟩, ⟨#[121, 121]⟩, ⟨#[97]⟩]).toArray 9)
      have B9 := Blk.new w8 9 (List.map Value.string [⟨#[]⟩, ⟨#[120]⟩, ⟨#[121, 121]⟩, ⟨#[97]⟩]).toArray
      have hlt8 := hc8.lt
      refine wpAnyH_ready (rs := [5]) (by kernel_rfl) (by simp) ?_
      refine AllReadyH.cons (o := ⟨some 21, _, _, _, _, _⟩) rfl (fun K hK => ?_) AllReadyH.nil
      go_simp
      refine (dStr w.heap.size g w8.heap.size 4 [⟨#[]⟩, ⟨#[120]⟩, ⟨#[121, 121]⟩, ⟨#[97]⟩] _ hc9 rfl (by omega) (by omega) B9 (by omega)).mono ?_; rintro e w10 ⟨⟨t, rfl, ht⟩, hc10, hg10⟩
      go_wp2_with fail
      refine hK.out _ _ (hHeld.grown hg10 (by simp; omega)) (fun hHeld => ?_)
      clear hK K
      try simp only [Act.put, List.setIfInBounds_toArray, List.set_cons_zero, List.set_cons_succ]
      have ht2 : t.size ≤ 2 := (show ∀ z ∈ ([⟨#[]⟩, ⟨#[120]⟩, ⟨#[121, 121]⟩, ⟨#[97]⟩] : List ByteArray), z.size ≤ 2 by decide) t ht
      clear ht
      have R10 := R9.grown hg10 (by simp; omega)
      have X10 := X9.grown hg10 (by simp; omega)
      have hS10 := hS9.grown hg10 (fun k e => by cases e; omega) h9
      have G10 := gr_trans G9 hg10
      have s10 := Nat.le_trans s9 hg10.size
      have h10 := Nat.le_trans h9 hg10.size
      refine wpAnyH_ready (rs := [7]) (by kernel_rfl) (by simp) ?_
      refine AllReadyH.cons (o := ⟨some 23, _, _, _, _, _⟩) rfl (fun K hK => ?_) AllReadyH.nil
      go_simp
      refine (dOnce w.heap.size g 2 _ hc10 (by omega)).mono ?_; rintro e w11 ⟨⟨b, rfl⟩, hc11, hg11⟩
      go_wp2_with fail
      refine hK.out _ _ (hHeld.grown hg11 (by simp; omega)) (fun hHeld => ?_)
      clear hK K
      try simp only [Act.put, List.setIfInBounds_toArray, List.set_cons_zero, List.set_cons_succ]
      have R11 := R10.grown hg11 (by simp; omega)
      have X11 := X10.grown hg11 (by simp; omega)
      have hS11 := hS10.grown hg11 (fun k e => by cases e; omega) h10
      have G11 := gr_trans G10 hg11
      have s11 := Nat.le_trans s10 hg11.size
      have h11 := Nat.le_trans h10 hg11.size
      have L11 := bl_gr L1 G11 (fun k e => by cases e; omega)
      have f11 := R11.frozen
      have p11 := R11.cell
      refine wpAnyH_ready (rs := [8]) (by kernel_rfl) (by simp) ?_
      refine AllReadyH.cons (o := ⟨none, _, _, _, _, _⟩) rfl (fun K hK => ?_) AllReadyH.nil
      go_simp
      go_wp2_with fail
      refine hK.out _ _ (((X11.farb (by omega) _).farb (by omega) _).farb (by omega) _) (fun hHeld => ?_)
      clear hK K
      try simp only [Act.put, List.setIfInBounds_toArray, List.set_cons_zero, List.set_cons_succ]
      refine wpAnyH_take (i := 9) (oi := ⟨some 3, _, _, _, _, _⟩) (v := ?_) rfl (by kernel_rfl) (by kernel_rfl) (by kernel_rfl) (fun _ _ _ h => h) (Or.inl ⟨by rfl, ?_⟩) (by assumption) ?_
      case refine_2 => (intro w hSw; skip; go_simp; first | done | with_reducible rfl)
      simp only [Act.put, List.setIfInBounds_toArray, List.set_cons_zero, List.set_cons_succ]
      refine wpAnyH_take (i := 10) (oi := ⟨some 4, _, _, _, _, _⟩) (v := ?_) rfl (by kernel_rfl) (by kernel_rfl) (by kernel_rfl) (fun _ _ _ h => h) (Or.inl ⟨by rfl, ?_⟩) (by assumption) ?_
      case refine_2 => (intro w hSw; skip; go_simp; first | done | with_reducible rfl)
      simp only [Act.put, List.setIfInBounds_toArray, List.set_cons_zero, List.set_cons_succ]
      refine wpAnyH_take (i := 11) (oi := ⟨some 5, _, _, _, _, _⟩) (v := ?_) rfl (by kernel_rfl) (by kernel_rfl) (by kernel_rfl) (fun _ _ _ h => h) (Or.inl ⟨by rfl, ?_⟩) (by assumption) ?_
      case refine_2 => (intro w hSw; skip; go_simp; first | done | with_reducible rfl)
      simp only [Act.put, List.setIfInBounds_toArray, List.set_cons_zero, List.set_cons_succ]
      refine wpAnyH_done (by kernel_rfl) ?_ _
      go_wp2_with fail
      exact bodyPost_ret (res_cell_3 rfl _ _ _ _ _ _ rfl (((R11.set_ 0 _).set_ 1 _).set_ 2 _) Try.underlying30 (by kernel_rfl)) rfl ⟨⟨yk, ys, ky, Ay, cy, s, t, b, rfl, ⟨hs, ht2⟩, (((hS11.setb (.inl (by omega)) _).setb (.inl (by omega)) _).setb (.inl (by omega)) _).more (by omega) (by simp <;> omega), hsm5⟩, bl_setb (bl_setb (bl_setb L11 (Nat.le_refl _) _) (Nat.le_refl _) _) (Nat.le_refl _) _⟩
    · go_simp
      go_wp2_with fail
      refine hK.out _ _ (X6.drew.alloc _) (fun hHeld => ?_)
      clear hK K
      try simp only [Act.put, List.setIfInBounds_toArray, List.set_cons_zero, List.set_cons_succ]
      refine wpAnyH_ready (rs := [2]) (by kernel_rfl) (by simp) ?_
      refine AllReadyH.cons (o := ⟨some 18, _, _, _, _, _⟩) rfl (fun K hK => ?_) AllReadyH.nil
      go_simp
      refine (dText w.heap.size g _ ((show Cur _ w6.drew g from hc6).alloc _)).mono ?_; rintro e w9 ⟨⟨s, rfl, hs⟩, hc9, hg9⟩
      go_wp2_with fail
      refine hK.out _ _ (hHeld.grown hg9 (by simp; omega)) (fun hHeld => ?_)
      clear hK K
      try simp only [Act.put, List.setIfInBounds_toArray, List.set_cons_zero, List.set_cons_succ]
      have hlt8 : g < w6.heap.size := hc6.lt
      have R9 := (R6.drew.alloc (.cells (List.map Value.string [⟨#[]⟩, ⟨#[120]⟩, ⟨#[121, 121]⟩, ⟨#[97]⟩]).toArray 9)).grown hg9 (by simp; omega)
      have X9 := (X6.drew.alloc (.cells (List.map Value.string [⟨#[]⟩, ⟨#[120]⟩, ⟨#[121, 121]⟩, ⟨#[97]⟩]).toArray 9)).grown hg9 (by simp; omega)
      have hS9 := ((hS6.keep (w' := w6.drew) (fun _ _ _ => rfl) (Nat.le_refl _) (Nat.le_refl _)).keep (w' := w6.drew.alloc (.cells (List.map Value.string [⟨#[]⟩, ⟨#[120]⟩, ⟨#[121, 121]⟩, ⟨#[97]⟩]).toArray 9)) (fun p _ h2 => World.cell?_alloc_lt _ _ _ (by show p.block < w6.heap.size; omega)) (Nat.le_refl _) (Nat.le_refl _)).grown hg9 (fun k e => by cases e; omega) (by rw [alloc_size]; show _ ≤ w6.heap.size + 1; omega)
      have G9 := gr_trans (gr_alloc (gr_drewN G6 1) (.cells (List.map Value.string [⟨#[]⟩, ⟨#[120]⟩, ⟨#[121, 121]⟩, ⟨#[97]⟩]).toArray 9)) hg9
      have s9' := hg9.size
      rw [alloc_size] at s9'
      have s9 : w6.heap.size ≤ w9.heap.size := by have : w6.drew.heap.size = w6.heap.size := rfl; omega
      have h9 : w5.heap.size ≤ w9.heap.size := by omega
      have B9 := (Blk.new w6.drew 9 (List.map Value.string [⟨#[]⟩, ⟨#[120]⟩, ⟨#[121, 121]⟩, ⟨#[97]⟩]).toArray).grown hg9 (by show some w6.heap.size ≠ some g; simp; omega)
      refine wpAnyH_ready (rs := [5]) (by kernel_rfl) (by simp) ?_
      refine AllReadyH.cons (o := ⟨some 21, _, _, _, _, _⟩) rfl (fun K hK => ?_) AllReadyH.nil
      go_simp
      refine (dStr w.heap.size g w6.drew.heap.size 4 [⟨#[]⟩, ⟨#[120]⟩, ⟨#[121, 121]⟩, ⟨#[97]⟩] _ hc9 rfl (by omega) (by omega) B9 (by have : w6.drew.heap.size = w6.heap.size := rfl; omega)).mono ?_; rintro e w10 ⟨⟨t, rfl, ht⟩, hc10, hg10⟩
      go_wp2_with fail
      refine hK.out _ _ (hHeld.grown hg10 (by simp; omega)) (fun hHeld => ?_)
      clear hK K
      try simp only [Act.put, List.setIfInBounds_toArray, List.set_cons_zero, List.set_cons_succ]
      have ht2 : t.size ≤ 2 := (show ∀ z ∈ ([⟨#[]⟩, ⟨#[120]⟩, ⟨#[121, 121]⟩, ⟨#[97]⟩] : List ByteArray), z.size ≤ 2 by decide) t ht
      clear ht
      have R10 := R9.grown hg10 (by simp; omega)
      have X10 := X9.grown hg10 (by simp; omega)
      have hS10 := hS9.grown hg10 (fun k e => by cases e; omega) h9
      have G10 := gr_trans G9 hg10
      have s10 := Nat.le_trans s9 hg10.size
      have h10 := Nat.le_trans h9 hg10.size
      refine wpAnyH_ready (rs := [7]) (by kernel_rfl) (by simp) ?_
      refine AllReadyH.cons (o := ⟨some 23, _, _, _, _, _⟩) rfl (fun K hK => ?_) AllReadyH.nil
      go_simp
      refine (dOnce w.heap.size g 2 _ hc10 (by omega)).mono ?_; rintro e w11 ⟨⟨b, rfl⟩, hc11, hg11⟩
      go_wp2_with fail
      refine hK.out _ _ (hHeld.grown hg11 (by simp; omega)) (fun hHeld => ?_)
      clear hK K
      try simp only [Act.put, List.setIfInBounds_toArray, List.set_cons_zero, List.set_cons_succ]
      have R11 := R10.grown hg11 (by simp; omega)
      have X11 := X10.grown hg11 (by simp; omega)
      have hS11 := hS10.grown hg11 (fun k e => by cases e; omega) h10
      have G11 := gr_trans G10 hg11
      have s11 := Nat.le_trans s10 hg11.size
      have h11 := Nat.le_trans h10 hg11.size
      have L11 := bl_gr L1 G11 (fun k e => by cases e; omega)
      have f11 := R11.frozen
      have p11 := R11.cell
      refine wpAnyH_ready (rs := [8]) (by kernel_rfl) (by simp) ?_
      refine AllReadyH.cons (o := ⟨none, _, _, _, _, _⟩) rfl (fun K hK => ?_) AllReadyH.nil
      go_simp
      go_wp2_with fail
      refine hK.out _ _ (((X11.farb (by omega) _).farb (by omega) _).farb (by omega) _) (fun hHeld => ?_)
      clear hK K
      try simp only [Act.put, List.setIfInBounds_toArray, List.set_cons_zero, List.set_cons_succ]
      refine wpAnyH_take (i := 9) (oi := ⟨some 3, _, _, _, _, _⟩) (v := ?_) rfl (by kernel_rfl) (by kernel_rfl) (by kernel_rfl) (fun _ _ _ h => h) (Or.inl ⟨by rfl, ?_⟩) (by assumption) ?_
      case refine_2 => (intro w hSw; skip; go_simp; first | done | with_reducible rfl)
      simp only [Act.put, List.setIfInBounds_toArray, List.set_cons_zero, List.set_cons_succ]
      refine wpAnyH_take (i := 10) (oi := ⟨some 4, _, _, _, _, _⟩) (v := ?_) rfl (by kernel_rfl) (by kernel_rfl) (by kernel_rfl) (fun _ _ _ h => h) (Or.inl ⟨by rfl, ?_⟩) (by assumption) ?_
      case refine_2 => (intro w hSw; skip; go_simp; first | done | with_reducible rfl)
      simp only [Act.put, List.setIfInBounds_toArray, List.set_cons_zero, List.set_cons_succ]
      refine wpAnyH_take (i := 11) (oi := ⟨some 5, _, _, _, _, _⟩) (v := ?_) rfl (by kernel_rfl) (by kernel_rfl) (by kernel_rfl) (fun _ _ _ h => h) (Or.inl ⟨by rfl, ?_⟩) (by assumption) ?_
      case refine_2 => (intro w hSw; skip; go_simp; first | done | with_reducible rfl)
      simp only [Act.put, List.setIfInBounds_toArray, List.set_cons_zero, List.set_cons_succ]
      refine wpAnyH_done (by kernel_rfl) ?_ _
      go_wp2_with fail
      exact bodyPost_ret (res_cell_3 rfl _ _ _ _ _ _ rfl (((R11.set_ 0 _).set_ 1 _).set_ 2 _) Try.underlying30 (by kernel_rfl)) rfl ⟨⟨yk, ys, ky, Ay, cy, s, t, b, rfl, ⟨hs, ht2⟩, (((hS11.setb (.inl (by omega)) _).setb (.inl (by omega)) _).setb (.inl (by omega)) _).more (by omega) (by simp <;> omega), hsm5⟩, bl_setb (bl_setb (bl_setb L11 (Nat.le_refl _) _) (Nat.le_refl _) _) (Nat.le_refl _) _⟩

end Go.Proofs.Ytdfcgnbklnceiaa
