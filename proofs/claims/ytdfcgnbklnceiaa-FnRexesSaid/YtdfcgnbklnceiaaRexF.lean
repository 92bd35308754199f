/- Walks over the reference's draws: l3Any. -/
import Derived.Test.YtdfcgnbklnceiaaRexE
import Derived.Deep.CutRange
namespace Go.Proofs.Ytdfcgnbklnceiaa
open Go.RowKit

/-- It hands back an expression, right or not, that is not too great. -/
def smallR (M : Nat) (zs : ByteArray) (kids : Fr (Int × ByteArray)) : Prop := zs.size ≤ 3 ∧ FrOk qThree kids ∧ kids.size ≤ M
def RetAny (w : World) (e : Ending) (w' : World) : Prop := ∃ (zk : Int) (zs : ByteArray) (kids : Fr (Int × ByteArray)) (A : Option Addr) (c : Nat), e = .returned (.agg #[.int .i64 zk, .string zs, .slice A kids.len c]) ∧ Sl rexC w' w.heap.size w'.heap.size A kids ∧ smallR 400 zs kids
theorem small_good {D : Nat} {zk : Int} {zs : ByteArray} {kids : Fr (Int × ByteArray)} (h : goodR D zk zs kids) {M : Nat} (hM : pD D ≤ M + 1) : smallR M zs kids := ⟨h.2.2.2.1, h.2.2.2.2, by have := h.2.2.1; omega⟩
/-- A new block is a row of labels and slices. -/
theorem sl_lit {w : World} {lo hi b : Nat} {t : TypeId} {cs : Array Value} {L : List ((Int × ByteArray) × Fr (Int × ByteArray))} {l : List ((Int × ByteArray) × Value)} (hB : Blk w b t cs) (hcs : cs.toList = flat (rC rexC) l) (hL : l.length = L.length) (hlo : lo ≤ b) (hhi : b < hi)
    (h : ∀ i (hi' : i < L.length), ∃ A c, l[i]? = some (L[i].1, .slice A L[i].2.len c) ∧ Sl rexC w lo hi A L[i].2) : Sl rexC w lo hi (some ⟨b, 0, none⟩) (mkFr L) := fun _ => by
  refine ⟨b, 0, rfl, hlo, hhi, FrIn.of_fits (mkFr L) l b 0 (by rw [mkFr_len, hL]) (fun i hi0 => ?_) (fun j u hu => ?_)⟩
  · rw [mkFr_len] at hi0
    obtain ⟨A, c, h1, h2⟩ := h i hi0
    refine ⟨L[i].1, L[i].2, A, c, ?_, h1, h2⟩
    rw [mkFr_drop, mkFr_drop, List.drop_eq_getElem_cons hi0]
    rfl
  · rw [Nat.zero_add, hB.cell j, ← hu, ← hcs]
    simp
theorem FrP.of_list {w : World} {P : Nat → Prop} : ∀ (L : List ((Int × ByteArray) × Fr (Int × ByteArray))) (l : List ((Int × ByteArray) × Value)) (b off : Nat), Fit rexC w P L l → (∀ j u, (flat (rC rexC) l)[j]? = some u → w.cell? ⟨b, off + j, none⟩ = some u) → FrP rexC w P (mkFr L) b off
  | [], _, _, _, _, _ => trivial
  | x :: L, [], _, _, h, _ => by have := h.1; simp at this
  | x :: L, y :: l, b, off, h, hc => by
    obtain ⟨A, c, h1, h2⟩ := h.2 0 (Nat.succ_pos _)
    simp only [List.getElem?_cons_zero, Option.some.injEq, List.getElem_cons_zero] at h1 h2
    subst h1
    rw [flat_cons] at hc
    have hl : (rC rexC (x.1, Value.slice A x.2.len c)).length = 3 := rfl
    refine ⟨⟨A, c, fun j u hu => hc j u ?_, h2⟩, FrP.of_list L l b _ ⟨by have := h.1; simpa using this, fun i hi => ?_⟩ (fun j u hu => ?_)⟩
    · have hj : j < (rC rexC (x.1, Value.slice A x.2.len c)).length := by
        rcases Nat.lt_or_ge j (rC rexC (x.1, Value.slice A x.2.len c)).length with h | h
        · exact h
        · exact absurd hu (by rw [show (rexC x.1 ++ [Value.slice A x.2.len c])[j]? = none from List.getElem?_eq_none h]; simp)
      rw [List.getElem?_append_left hj]
      exact hu
    · obtain ⟨A', c', q1, q2⟩ := h.2 (i + 1) (by simpa using hi)
      exact ⟨A', c', by simpa using q1, by simpa using q2⟩
    · have := hc (3 + j) u (by
        rw [List.getElem?_append_right (by rw [hl]; omega), hl, Nat.add_sub_cancel_left]
        exact hu)
      rw [← Nat.add_assoc] at this
      exact this
theorem sl_litP {w : World} {P : Nat → Prop} {b : Nat} {t : TypeId} {cs : Array Value} {L : List ((Int × ByteArray) × Fr (Int × ByteArray))} {l : List ((Int × ByteArray) × Value)} (hB : Blk w b t cs) (hcs : cs.toList = flat (rC rexC) l) (hb : P b) (h : Fit rexC w P L l) : SlP rexC w P (some ⟨b, 0, none⟩) (mkFr L) := fun _ =>
  ⟨b, 0, rfl, hb, FrP.of_list L l b 0 h (fun j u hu => by
    rw [Nat.zero_add, hB.cell j, ← hu, ← hcs]
    simp)⟩
theorem small_len {M : Nat} {zs : ByteArray} {kids : Fr (Int × ByteArray)} (h : smallR M zs kids) : kids.len ≤ M := Nat.le_trans kids.len_size h.2.2

set_option maxRecDepth 20000 in
set_option maxHeartbeats 8000000 in
theorem dAny (B g : Nat) (w : World) (hc : Cur B w g) :
    Calls Try.prog 54 #[.pointer (some ⟨g, 0, none⟩)] w fun e w' => RetAny w e w' ∧ Cur B w' g ∧ w.grownBy w' (some g) := by
  have R0 := Blk.new w 30 #[.int .i64 0, .string ⟨#[]⟩, .slice none 0 0]
  have c0 := hc.alloc (.cells #[.int .i64 0, .string ⟨#[]⟩, .slice none 0 0] 30)
  have g0 := gr_alloc (gr_refl w (some g)) (.cells #[.int .i64 0, .string ⟨#[]⟩, .slice none 0 0] 30)
  have hgl := hc.lt
  have hl0 := R0.lt
  go_enter Try.func54, Try.ntmps54
  go_wp2_with fail
  refine (dDraw B g 3 (by omega) _ c0).mono ?_; rintro e w1 ⟨⟨zk, zs, kids, A, c, rfl, hS1, hgood⟩, hc1, hg1⟩
  have hsm := small_good hgood (M := 40) (by decide)
  clear hgood
  have R1 := R0.grown hg1 (by simp; omega)
  have G1 := gr_trans g0 hg1
  have s1 := hg1.size
  have hl1 := R1.lt
  have es := alloc_size w (.cells #[.int .i64 0, .string ⟨#[]⟩, .slice none 0 0] 30)
  rw [es] at hS1
  clear R0 c0 g0 hg1 es
  go_wp2_with fail
  have Rb := Blk.new w1 30 #[.int .i64 zk, .string zs, .slice A kids.len c]
  have R2 := R1.alloc (.cells #[.int .i64 zk, .string zs, .slice A kids.len c] 30)
  have hc2 := hc1.alloc (.cells #[.int .i64 zk, .string zs, .slice A kids.len c] 30)
  have G2 := gr_alloc G1 (.cells #[.int .i64 zk, .string zs, .slice A kids.len c] 30)
  have hS2 := hS1.keep (w' := w1.alloc (.cells #[.int .i64 zk, .string zs, .slice A kids.len c] 30)) (fun p _ h2 => World.cell?_alloc_lt _ _ _ h2) (Nat.le_refl _) (Nat.le_refl _)
  have es := alloc_size w1 (.cells #[.int .i64 zk, .string zs, .slice A kids.len c] 30)
  have es1 := Nat.le_of_eq es
  have es2 := Nat.le_of_eq es.symm
  clear es R1 hc1 G1 hS1
  generalize w1.alloc (.cells #[.int .i64 zk, .string zs, .slice A kids.len c] 30) = w2 at Rb R2 hc2 G2 hS2 es1 es2 ⊢
  generalize hrb : w1.heap.size = rb at Rb hl1 hS2 s1 es1 es2 ⊢
  clear hrb
  refine (dBelow B g 14 _ hc2 (by omega)).mono ?_; rintro e w3 ⟨⟨x, rfl, hx0, hx1, _⟩, hc3, hg3⟩
  clear hx1
  have Rb3 := Rb.grown hg3 (by simp; omega)
  have R3 := R2.grown hg3 (by simp; omega)
  have G3 := gr_trans G2 hg3
  have s3 := hg3.size
  have hS3 := hS2.grown hg3 (fun k e => by cases e; omega) (by omega)
  have hc3l := hc3.lt
  clear Rb R2 G2 hS2 hc2
  by_cases x0 : x = 0
  case pos =>
    subst x0
    go_wp2_with fail
    refine (dBelow B g 13 _ hc3 (by omega)).mono ?_; rintro e w4 ⟨⟨y, rfl, _, _, _⟩, hc4, hg4⟩
    have Rb4 := Rb3.grown hg4 (by simp; omega)
    have R4 := R3.grown hg4 (by simp; omega)
    have G4 := gr_trans G3 hg4
    have s4 := hg4.size
    have hS4 := hS3.grown hg4 (fun k e => by cases e; omega) (by omega)
    have Rb5 := Rb4.set_ 0 (.int .i64 y)
    simp only [List.setIfInBounds_toArray, List.set_cons_zero] at Rb5
    have R5 := R4.farb (b := rb) (j := 0) (by omega) (.int .i64 y)
    have hc5 := hc4.setn (b := rb) (j := 0) (by omega) (.int .i64 y)
    have G5 := gr_setn (b := rb) (j := 0) G4 (by omega) (.int .i64 y)
    have hS5 := (hS4.setb (b := rb) (j := 0) (.inr (Nat.le_refl _)) (.int .i64 y)).more (Nat.le_refl _) (Nat.le_refl _)
    have p4 := Rb4.cell
    have f4 := Rb4.frozen
    go_upto_region 14 with fail
    clear p4 f4
    have pR := Rb5.cell
    have p1 := R5.cell
    have f1 := R5.frozen
    have hgs := (G5).size
    go_wp2_with fail
    exact bodyPost_ret (res_cell1 rfl _ _ _ _ _ _ rfl (((R5.set_ 0 _).set_ 1 _).set_ 2 _) Try.underlying30 (by kernel_rfl)) rfl ⟨⟨y, zs, kids, A, c, rfl, (((hS5.setb (.inl (by omega)) _).setb (.inl (by omega)) _).setb (.inl (by omega)) _).more (by omega) (by simp <;> omega), ⟨hsm.1, hsm.2.1, by have := hsm.2.2; omega⟩⟩, ((hc5.setn (by omega) _).setn (by omega) _).setn (by omega) _, gr_setn (gr_setn (gr_setn G5 (Nat.le_refl _) _) (Nat.le_refl _) _) (Nat.le_refl _) _⟩
  have b0 : (x == 0) = false := by simp [x0]
  by_cases x1 : x = 1
  case pos =>
    subst x1
    go_wp2_with fail
    refine (dStr B g w3.heap.size 5 [⟨#[]⟩, ⟨#[97]⟩, ⟨#[98, 97]⟩, ⟨#[42]⟩, ⟨#[97, 98]⟩] _ (hc3.alloc _) rfl (by omega) (by omega) (Blk.new w3 _ _) (by omega)).mono ?_; rintro e w4 ⟨⟨z, rfl, hz⟩, hc4, hg4⟩
    have hzz := (show ∀ z ∈ ([⟨#[]⟩, ⟨#[97]⟩, ⟨#[98, 97]⟩, ⟨#[42]⟩, ⟨#[97, 98]⟩] : List ByteArray), z.size ≤ 3 by decide) z hz
    have Rb4 := (Rb3.alloc _).grown hg4 (by simp; omega)
    have R4 := (R3.alloc _).grown hg4 (by simp; omega)
    have G4 := gr_trans (gr_alloc G3 _) hg4
    have s4 : w3.heap.size ≤ w4.heap.size := Nat.le_trans (by rw [alloc_size]; exact Nat.le_succ _) hg4.size
    have hS4 := (hS3.keep (fun p _ h2 => World.cell?_alloc_lt _ _ _ (by omega)) (Nat.le_refl _) (Nat.le_refl _)).grown hg4 (fun k e => by cases e; omega) (by rw [alloc_size]; omega)
    have Rb5 := Rb4.set_ 1 (.string z)
    simp only [List.setIfInBounds_toArray, List.set_cons_succ, List.set_cons_zero] at Rb5
    have R5 := R4.farb (b := rb) (j := 1) (by omega) (.string z)
    have hc5 := hc4.setn (b := rb) (j := 1) (by omega) (.string z)
    have G5 := gr_setn (b := rb) (j := 1) G4 (by omega) (.string z)
    have hS5 := (hS4.setb (b := rb) (j := 1) (.inr (Nat.le_refl _)) (.string z)).more (Nat.le_refl _) (Nat.le_refl _)
    have p4 := Rb4.cell
    have f4 := Rb4.frozen
    clear hz
    go_upto_region 14 with fail
    clear p4 f4
    have pR := Rb5.cell
    have p1 := R5.cell
    have f1 := R5.frozen
    have hgs := (G5).size
    go_wp2_with fail
    exact bodyPost_ret (res_cell1 rfl _ _ _ _ _ _ rfl (((R5.set_ 0 _).set_ 1 _).set_ 2 _) Try.underlying30 (by kernel_rfl)) rfl ⟨⟨zk, z, kids, A, c, rfl, (((hS5.setb (.inl (by omega)) _).setb (.inl (by omega)) _).setb (.inl (by omega)) _).more (by omega) (by simp <;> omega), ⟨hzz, hsm.2.1, by have := hsm.2.2; omega⟩⟩, ((hc5.setn (by omega) _).setn (by omega) _).setn (by omega) _, gr_setn (gr_setn (gr_setn G5 (Nat.le_refl _) _) (Nat.le_refl _) _) (Nat.le_refl _) _⟩
  have b1 : (x == 1) = false := by simp [x1]
  by_cases x2 : x = 2
  case pos =>
    subst x2
    have p3 := Rb3.cell
    have f3 := Rb3.frozen
    have B4 := Blk.new w3 30 #[.int .i64 zk, .string zs, .slice A kids.len c, .int .i64 zk, .string zs, .slice A kids.len c, .int .i64 zk, .string zs, .slice A kids.len c, .int .i64 zk, .string zs, .slice A kids.len c, .int .i64 zk, .string zs, .slice A kids.len c, .int .i64 zk, .string zs, .slice A kids.len c, .int .i64 zk, .string zs, .slice A kids.len c, .int .i64 zk, .string zs, .slice A kids.len c]
    have Rb4 := Rb3.alloc (.cells #[.int .i64 zk, .string zs, .slice A kids.len c, .int .i64 zk, .string zs, .slice A kids.len c, .int .i64 zk, .string zs, .slice A kids.len c, .int .i64 zk, .string zs, .slice A kids.len c, .int .i64 zk, .string zs, .slice A kids.len c, .int .i64 zk, .string zs, .slice A kids.len c, .int .i64 zk, .string zs, .slice A kids.len c, .int .i64 zk, .string zs, .slice A kids.len c] 30)
    have R4 := R3.alloc (.cells #[.int .i64 zk, .string zs, .slice A kids.len c, .int .i64 zk, .string zs, .slice A kids.len c, .int .i64 zk, .string zs, .slice A kids.len c, .int .i64 zk, .string zs, .slice A kids.len c, .int .i64 zk, .string zs, .slice A kids.len c, .int .i64 zk, .string zs, .slice A kids.len c, .int .i64 zk, .string zs, .slice A kids.len c, .int .i64 zk, .string zs, .slice A kids.len c] 30)
    have hc4 := hc3.alloc (.cells #[.int .i64 zk, .string zs, .slice A kids.len c, .int .i64 zk, .string zs, .slice A kids.len c, .int .i64 zk, .string zs, .slice A kids.len c, .int .i64 zk, .string zs, .slice A kids.len c, .int .i64 zk, .string zs, .slice A kids.len c, .int .i64 zk, .string zs, .slice A kids.len c, .int .i64 zk, .string zs, .slice A kids.len c, .int .i64 zk, .string zs, .slice A kids.len c] 30)
    have G4 := gr_alloc G3 (.cells #[.int .i64 zk, .string zs, .slice A kids.len c, .int .i64 zk, .string zs, .slice A kids.len c, .int .i64 zk, .string zs, .slice A kids.len c, .int .i64 zk, .string zs, .slice A kids.len c, .int .i64 zk, .string zs, .slice A kids.len c, .int .i64 zk, .string zs, .slice A kids.len c, .int .i64 zk, .string zs, .slice A kids.len c, .int .i64 zk, .string zs, .slice A kids.len c] 30)
    have es4 := alloc_size w3 (.cells #[.int .i64 zk, .string zs, .slice A kids.len c, .int .i64 zk, .string zs, .slice A kids.len c, .int .i64 zk, .string zs, .slice A kids.len c, .int .i64 zk, .string zs, .slice A kids.len c, .int .i64 zk, .string zs, .slice A kids.len c, .int .i64 zk, .string zs, .slice A kids.len c, .int .i64 zk, .string zs, .slice A kids.len c, .int .i64 zk, .string zs, .slice A kids.len c] 30)
    have es5 := Nat.le_of_eq es4
    have es6 := Nat.le_of_eq es4.symm
    clear es4
    have hP4 : SlP rexC (w3.alloc (.cells #[.int .i64 zk, .string zs, .slice A kids.len c, .int .i64 zk, .string zs, .slice A kids.len c, .int .i64 zk, .string zs, .slice A kids.len c, .int .i64 zk, .string zs, .slice A kids.len c, .int .i64 zk, .string zs, .slice A kids.len c, .int .i64 zk, .string zs, .slice A kids.len c, .int .i64 zk, .string zs, .slice A kids.len c, .int .i64 zk, .string zs, .slice A kids.len c] 30)) (fun b => w.heap.size < b ∧ b < (w3.alloc (.cells #[.int .i64 zk, .string zs, .slice A kids.len c, .int .i64 zk, .string zs, .slice A kids.len c, .int .i64 zk, .string zs, .slice A kids.len c, .int .i64 zk, .string zs, .slice A kids.len c, .int .i64 zk, .string zs, .slice A kids.len c, .int .i64 zk, .string zs, .slice A kids.len c, .int .i64 zk, .string zs, .slice A kids.len c, .int .i64 zk, .string zs, .slice A kids.len c] 30)).heap.size ∧ b ≠ rb) A kids := hS3.toP.keep (fun p h => World.cell?_alloc_lt _ _ _ (by have := h.2; omega)) (fun b h => ⟨h.1, by omega, by omega⟩)
    have hE4 := sl_litP (L := [((zk, zs), kids), ((zk, zs), kids), ((zk, zs), kids), ((zk, zs), kids), ((zk, zs), kids), ((zk, zs), kids), ((zk, zs), kids), ((zk, zs), kids)]) (l := [((zk, zs), .slice A kids.len c), ((zk, zs), .slice A kids.len c), ((zk, zs), .slice A kids.len c), ((zk, zs), .slice A kids.len c), ((zk, zs), .slice A kids.len c), ((zk, zs), .slice A kids.len c), ((zk, zs), .slice A kids.len c), ((zk, zs), .slice A kids.len c)]) B4 rfl (P := fun b => w.heap.size < b ∧ b < (w3.alloc (.cells #[.int .i64 zk, .string zs, .slice A kids.len c, .int .i64 zk, .string zs, .slice A kids.len c, .int .i64 zk, .string zs, .slice A kids.len c, .int .i64 zk, .string zs, .slice A kids.len c, .int .i64 zk, .string zs, .slice A kids.len c, .int .i64 zk, .string zs, .slice A kids.len c, .int .i64 zk, .string zs, .slice A kids.len c, .int .i64 zk, .string zs, .slice A kids.len c] 30)).heap.size ∧ b ≠ rb) ⟨by omega, by omega, by omega⟩ (((((((((Fit.nil _ _ _).snoc hP4).snoc hP4).snoc hP4).snoc hP4).snoc hP4).snoc hP4).snoc hP4).snoc hP4)
    have hsz8 : smallR 400 ⟨#[]⟩ (mkFr [((zk, zs), kids), ((zk, zs), kids), ((zk, zs), kids), ((zk, zs), kids), ((zk, zs), kids), ((zk, zs), kids), ((zk, zs), kids), ((zk, zs), kids)]) := by
      obtain ⟨q1, q2, q3⟩ := hsm
      refine ⟨by decide, ?_, ?_⟩
      · have hk : kids.len ≤ 9223372036854775807 := by have := kids.len_size; omega
        exact ⟨q1, hk, q2, q1, hk, q2, q1, hk, q2, q1, hk, q2, q1, hk, q2, q1, hk, q2, q1, hk, q2, q1, hk, q2, trivial⟩
      · show kids.size + (kids.size + (kids.size + (kids.size + (kids.size + (kids.size + (kids.size + (kids.size + 0 + 1) + 1) + 1) + 1) + 1) + 1) + 1) + 1 ≤ 400
        omega
    have p4 := Rb4.cell
    have f4 := Rb4.frozen
    have Rb5 := ((Rb4.set_ 0 (.int .i64 4)).set_ 1 (.string ⟨#[]⟩)).set_ 2 (.slice (some ⟨w3.heap.size, 0, none⟩) 8 8)
    simp only [List.setIfInBounds_toArray, List.set_cons_succ, List.set_cons_zero] at Rb5
    have R5 := ((R4.farb (b := rb) (j := 0) (by omega) (.int .i64 4)).farb (b := rb) (j := 1) (by omega) (.string ⟨#[]⟩)).farb (b := rb) (j := 2) (by omega) (.slice (some ⟨w3.heap.size, 0, none⟩) 8 8)
    have hc5 := ((hc4.setn (b := rb) (j := 0) (by omega) (.int .i64 4)).setn (b := rb) (j := 1) (by omega) (.string ⟨#[]⟩)).setn (b := rb) (j := 2) (by omega) (.slice (some ⟨w3.heap.size, 0, none⟩) 8 8)
    have G5 := gr_setn (b := rb) (j := 2) (gr_setn (b := rb) (j := 1) (gr_setn (b := rb) (j := 0) G4 (by omega) (.int .i64 4)) (by omega) (.string ⟨#[]⟩)) (by omega) (.slice (some ⟨w3.heap.size, 0, none⟩) 8 8)
    have hE5 := hE4.keep (w' := ((((w3.alloc (.cells #[.int .i64 zk, .string zs, .slice A kids.len c, .int .i64 zk, .string zs, .slice A kids.len c, .int .i64 zk, .string zs, .slice A kids.len c, .int .i64 zk, .string zs, .slice A kids.len c, .int .i64 zk, .string zs, .slice A kids.len c, .int .i64 zk, .string zs, .slice A kids.len c, .int .i64 zk, .string zs, .slice A kids.len c, .int .i64 zk, .string zs, .slice A kids.len c] 30)).setCell ⟨rb, 0, none⟩ (.int .i64 4)).setCell ⟨rb, 1, none⟩ (.string ⟨#[]⟩)).setCell ⟨rb, 2, none⟩ (.slice (some ⟨w3.heap.size, 0, none⟩) 8 8))) (fun p hp => by
      have hne : ∀ j, (⟨rb, j, none⟩ : Addr) ≠ p := fun j e => hp.2.2 (by rw [← e])
      rw [World.cell?_setCell_other _ _ _ _ (hne 2), World.cell?_setCell_other _ _ _ _ (hne 1), World.cell?_setCell_other _ _ _ _ (hne 0)]) (fun b h => h)
    have hz9 : (((((w3.alloc (.cells #[.int .i64 zk, .string zs, .slice A kids.len c, .int .i64 zk, .string zs, .slice A kids.len c, .int .i64 zk, .string zs, .slice A kids.len c, .int .i64 zk, .string zs, .slice A kids.len c, .int .i64 zk, .string zs, .slice A kids.len c, .int .i64 zk, .string zs, .slice A kids.len c, .int .i64 zk, .string zs, .slice A kids.len c, .int .i64 zk, .string zs, .slice A kids.len c] 30)).setCell ⟨rb, 0, none⟩ (.int .i64 4)).setCell ⟨rb, 1, none⟩ (.string ⟨#[]⟩)).setCell ⟨rb, 2, none⟩ (.slice (some ⟨w3.heap.size, 0, none⟩) 8 8))).heap.size = (w3.alloc (.cells #[.int .i64 zk, .string zs, .slice A kids.len c, .int .i64 zk, .string zs, .slice A kids.len c, .int .i64 zk, .string zs, .slice A kids.len c, .int .i64 zk, .string zs, .slice A kids.len c, .int .i64 zk, .string zs, .slice A kids.len c, .int .i64 zk, .string zs, .slice A kids.len c, .int .i64 zk, .string zs, .slice A kids.len c, .int .i64 zk, .string zs, .slice A kids.len c] 30)).heap.size := by simp
    have hE6 := hE5.to (lo := w.heap.size + 1) (hi := ((((w3.alloc (.cells #[.int .i64 zk, .string zs, .slice A kids.len c, .int .i64 zk, .string zs, .slice A kids.len c, .int .i64 zk, .string zs, .slice A kids.len c, .int .i64 zk, .string zs, .slice A kids.len c, .int .i64 zk, .string zs, .slice A kids.len c, .int .i64 zk, .string zs, .slice A kids.len c, .int .i64 zk, .string zs, .slice A kids.len c, .int .i64 zk, .string zs, .slice A kids.len c] 30)).setCell ⟨rb, 0, none⟩ (.int .i64 4)).setCell ⟨rb, 1, none⟩ (.string ⟨#[]⟩)).setCell ⟨rb, 2, none⟩ (.slice (some ⟨w3.heap.size, 0, none⟩) 8 8)).heap.size) (fun b h => ⟨h.1, by rw [hz9]; exact h.2.1⟩)
    clear Rb3 R3 hc3 G3 hS3 hg3 hE4 hE5 hP4 hz9 Rb4 R4 hc4 G4 B4
    go_upto_region 14 with fail
    clear p4 f4 p3 f3
    generalize ((((w3.alloc (.cells #[.int .i64 zk, .string zs, .slice A kids.len c, .int .i64 zk, .string zs, .slice A kids.len c, .int .i64 zk, .string zs, .slice A kids.len c, .int .i64 zk, .string zs, .slice A kids.len c, .int .i64 zk, .string zs, .slice A kids.len c, .int .i64 zk, .string zs, .slice A kids.len c, .int .i64 zk, .string zs, .slice A kids.len c, .int .i64 zk, .string zs, .slice A kids.len c] 30)).setCell ⟨rb, 0, none⟩ (.int .i64 4)).setCell ⟨rb, 1, none⟩ (.string ⟨#[]⟩)).setCell ⟨rb, 2, none⟩ (.slice (some ⟨w3.heap.size, 0, none⟩) 8 8)) = w5 at Rb5 R5 hc5 G5 hE6 ⊢
    have pR := Rb5.cell
    have p1 := R5.cell
    have f1 := R5.frozen
    have hgs := (G5).size
    go_wp2_with fail
    exact bodyPost_ret (res_cell1 rfl _ _ _ _ _ _ rfl (((R5.set_ 0 _).set_ 1 _).set_ 2 _) Try.underlying30 (by kernel_rfl)) rfl ⟨⟨4, ⟨#[]⟩, mkFr [((zk, zs), kids), ((zk, zs), kids), ((zk, zs), kids), ((zk, zs), kids), ((zk, zs), kids), ((zk, zs), kids), ((zk, zs), kids), ((zk, zs), kids)], _, _, rfl, (((hE6.setb (.inl (by omega)) _).setb (.inl (by omega)) _).setb (.inl (by omega)) _).more (by omega) (by simp <;> omega), hsz8⟩, ((hc5.setn (by omega) _).setn (by omega) _).setn (by omega) _, gr_setn (gr_setn (gr_setn G5 (Nat.le_refl _) _) (Nat.le_refl _) _) (Nat.le_refl _) _⟩
  have b2 : (x == 2) = false := by simp [x2]
  by_cases x3 : x = 3
  case pos =>
    subst x3
    have hP3 : SlP rexC w3 (fun b => w.heap.size < b ∧ b < w3.heap.size ∧ b ≠ rb) A kids := hS3.toP.keep (fun _ _ => rfl) (fun b h => ⟨h.1, by omega, by omega⟩)
    clear hS3
    go_wp2_with fail
    refine (dBelow B g 8 _ hc3 (by omega)).mono ?_; rintro e w4 ⟨⟨n, rfl, hn0, hn1, _⟩, hc4, hg4⟩
    have hn2 := hn1 (by omega)
    clear hn1
    have Rb4 := Rb3.grown hg4 (by simp; omega)
    have R4 := R3.grown hg4 (by simp; omega)
    have G4 := gr_trans G3 hg4
    have s4 := hg4.size
    have hP4 := hP3.keep (w' := w4) (P' := fun b => w.heap.size < b ∧ b < w4.heap.size ∧ b ≠ rb) (fun p hp => World.cell?_of_block (hg4.block p.block hp.2.1 (fun e => by injection e with e; have := hp.1; omega))) (fun b h => ⟨h.1, by omega, h.2.2⟩)
    obtain ⟨n, rfl⟩ := Int.eq_ofNat_of_zero_le hn0
    have hn3 : n ≤ 7 := by omega
    clear hP3 Rb3 R3 hc3 G3 hn0 hn2
    go_wp2_with fail
    go_loopw [4] (fun i wr => ∃ (q : Nat) (yk : Int) (ys : ByteArray) (ky : Fr (Int × ByteArray)) (Ay : Option Addr) (cy : Nat), i = .int .i64 q ∧ q ≤ 7 ∧ (ys.size ≤ 3 ∧ FrOk qThree ky ∧ ky.size + 3 * q ≤ 70) ∧ Blk wr rb 30 #[.int .i64 yk, .string ys, .slice Ay ky.len cy] ∧ Blk wr w.heap.size 30 #[.int .i64 0, .string ⟨#[]⟩, .slice none 0 0] ∧ SlP rexC wr (fun b => w.heap.size < b ∧ b < wr.heap.size ∧ b ≠ rb) Ay ky ∧ Cur B wr g ∧ w.grownBy wr (some g) ∧ rb < wr.heap.size) (fun i _ => (intOf i).toNat)
    case atStart => exact ⟨n, zk, zs, kids, A, c, rfl, hn3, ⟨hsm.1, hsm.2.1, by have := hsm.2.2; omega⟩, Rb4, R4, hP4, hc4, G4, by omega⟩
    case round =>
      clear Rb4 R4 hP4 hc4 G4 s4 hsm
      obtain ⟨q, yk, ys, ky, Ay, cy, rfl, hq, ⟨hy1, hy2, hy3⟩, Rb, Rr, hP, hC, hG, hrl⟩ := hrel
      have hgs := hG.size
      by_cases h0 : 0 < q
      · obtain ⟨q, rfl⟩ : ∃ j, q = j + 1 := ⟨q - 1, by omega⟩
        have pB := Rb.cell
        have fB := Rb.frozen
        have hszq : (((wr.setCell ⟨rb, 0, none⟩ (.int .i64 4)).setCell ⟨rb, 1, none⟩ (.string ⟨#[]⟩)).setCell ⟨rb, 2, none⟩ (.slice (some ⟨wr.heap.size + 1, 0, none⟩) 2 2)).heap.size = wr.heap.size := by simp
        have Rb0 := ((Rb.set_ 0 (.int .i64 4)).set_ 1 (.string ⟨#[]⟩)).set_ 2 (.slice (some ⟨wr.heap.size + 1, 0, none⟩) 2 2)
        simp only [List.setIfInBounds_toArray, List.set_cons_succ, List.set_cons_zero] at Rb0
        have Rr0 := ((Rr.farb (b := rb) (j := 0) (by omega) (.int .i64 4)).farb (b := rb) (j := 1) (by omega) (.string ⟨#[]⟩)).farb (b := rb) (j := 2) (by omega) (.slice (some ⟨wr.heap.size + 1, 0, none⟩) 2 2)
        have hC0 := ((hC.setn (b := rb) (j := 0) (by omega) (.int .i64 4)).setn (b := rb) (j := 1) (by omega) (.string ⟨#[]⟩)).setn (b := rb) (j := 2) (by omega) (.slice (some ⟨wr.heap.size + 1, 0, none⟩) 2 2)
        have hG0 := gr_setn (b := rb) (j := 2) (gr_setn (b := rb) (j := 1) (gr_setn (b := rb) (j := 0) hG (by omega) (.int .i64 4)) (by omega) (.string ⟨#[]⟩)) (by omega) (.slice (some ⟨wr.heap.size + 1, 0, none⟩) 2 2)
        have hP0 : SlP rexC (((wr.setCell ⟨rb, 0, none⟩ (.int .i64 4)).setCell ⟨rb, 1, none⟩ (.string ⟨#[]⟩)).setCell ⟨rb, 2, none⟩ (.slice (some ⟨wr.heap.size + 1, 0, none⟩) 2 2)) (fun b => w.heap.size < b ∧ b < wr.heap.size ∧ b ≠ rb) Ay ky := hP.keep (fun p hp => by
          have hne : ∀ j, (⟨rb, j, none⟩ : Addr) ≠ p := fun j e => hp.2.2 (by rw [← e])
          rw [World.cell?_setCell_other _ _ _ _ (hne 2), World.cell?_setCell_other _ _ _ _ (hne 1), World.cell?_setCell_other _ _ _ _ (hne 0)]) (fun b h => h)
        have B1 := (Blk.new (((wr.setCell ⟨rb, 0, none⟩ (.int .i64 4)).setCell ⟨rb, 1, none⟩ (.string ⟨#[]⟩)).setCell ⟨rb, 2, none⟩ (.slice (some ⟨wr.heap.size + 1, 0, none⟩) 2 2)) 30 #[.int .i64 yk, .string ys, .slice Ay ky.len cy]).alloc (.cells #[.int .i64 6, .string ⟨#[]⟩, .slice (some ⟨wr.heap.size, 0, none⟩) 1 1, .int .i64 2, .string ⟨#[]⟩, .slice none 0 0] 30)
        have B2 := Blk.new2 (((wr.setCell ⟨rb, 0, none⟩ (.int .i64 4)).setCell ⟨rb, 1, none⟩ (.string ⟨#[]⟩)).setCell ⟨rb, 2, none⟩ (.slice (some ⟨wr.heap.size + 1, 0, none⟩) 2 2)) (.cells #[.int .i64 yk, .string ys, .slice Ay ky.len cy] 30) 30 #[.int .i64 6, .string ⟨#[]⟩, .slice (some ⟨wr.heap.size, 0, none⟩) 1 1, .int .i64 2, .string ⟨#[]⟩, .slice none 0 0]
        rw [hszq] at B1 B2
        have Rb5 := (Rb0.alloc (.cells #[.int .i64 yk, .string ys, .slice Ay ky.len cy] 30)).alloc (.cells #[.int .i64 6, .string ⟨#[]⟩, .slice (some ⟨wr.heap.size, 0, none⟩) 1 1, .int .i64 2, .string ⟨#[]⟩, .slice none 0 0] 30)
        have R5 := (Rr0.alloc (.cells #[.int .i64 yk, .string ys, .slice Ay ky.len cy] 30)).alloc (.cells #[.int .i64 6, .string ⟨#[]⟩, .slice (some ⟨wr.heap.size, 0, none⟩) 1 1, .int .i64 2, .string ⟨#[]⟩, .slice none 0 0] 30)
        have hc5 := (hC0.alloc (.cells #[.int .i64 yk, .string ys, .slice Ay ky.len cy] 30)).alloc (.cells #[.int .i64 6, .string ⟨#[]⟩, .slice (some ⟨wr.heap.size, 0, none⟩) 1 1, .int .i64 2, .string ⟨#[]⟩, .slice none 0 0] 30)
        have G5 := gr_alloc (gr_alloc hG0 (.cells #[.int .i64 yk, .string ys, .slice Ay ky.len cy] 30)) (.cells #[.int .i64 6, .string ⟨#[]⟩, .slice (some ⟨wr.heap.size, 0, none⟩) 1 1, .int .i64 2, .string ⟨#[]⟩, .slice none 0 0] 30)
        have es4 : (((((wr.setCell ⟨rb, 0, none⟩ (.int .i64 4)).setCell ⟨rb, 1, none⟩ (.string ⟨#[]⟩)).setCell ⟨rb, 2, none⟩ (.slice (some ⟨wr.heap.size + 1, 0, none⟩) 2 2)).alloc (.cells #[.int .i64 yk, .string ys, .slice Ay ky.len cy] 30)).alloc (.cells #[.int .i64 6, .string ⟨#[]⟩, .slice (some ⟨wr.heap.size, 0, none⟩) 1 1, .int .i64 2, .string ⟨#[]⟩, .slice none 0 0] 30)).heap.size = wr.heap.size + 1 + 1 := by rw [alloc_size, alloc_size, hszq]
        have es5 := Nat.le_of_eq es4
        have es6 := Nat.le_of_eq es4.symm
        clear es4
        have hP2 : SlP rexC (((((wr.setCell ⟨rb, 0, none⟩ (.int .i64 4)).setCell ⟨rb, 1, none⟩ (.string ⟨#[]⟩)).setCell ⟨rb, 2, none⟩ (.slice (some ⟨wr.heap.size + 1, 0, none⟩) 2 2)).alloc (.cells #[.int .i64 yk, .string ys, .slice Ay ky.len cy] 30)).alloc (.cells #[.int .i64 6, .string ⟨#[]⟩, .slice (some ⟨wr.heap.size, 0, none⟩) 1 1, .int .i64 2, .string ⟨#[]⟩, .slice none 0 0] 30)) (fun b => w.heap.size < b ∧ b < (((((wr.setCell ⟨rb, 0, none⟩ (.int .i64 4)).setCell ⟨rb, 1, none⟩ (.string ⟨#[]⟩)).setCell ⟨rb, 2, none⟩ (.slice (some ⟨wr.heap.size + 1, 0, none⟩) 2 2)).alloc (.cells #[.int .i64 yk, .string ys, .slice Ay ky.len cy] 30)).alloc (.cells #[.int .i64 6, .string ⟨#[]⟩, .slice (some ⟨wr.heap.size, 0, none⟩) 1 1, .int .i64 2, .string ⟨#[]⟩, .slice none 0 0] 30)).heap.size ∧ b ≠ rb) Ay ky := hP0.keep (fun p h => (World.cell?_alloc_lt _ _ _ (by have := h.2.1; rw [alloc_size, hszq]; omega)).trans (World.cell?_alloc_lt _ _ _ (by rw [hszq]; exact h.2.1))) (fun b h => ⟨h.1, by have := h.2.1; omega, h.2.2⟩)
        have hE1 := sl_litP (L := [((yk, ys), ky)]) (l := [((yk, ys), .slice Ay ky.len cy)]) B1 rfl (P := fun b => w.heap.size < b ∧ b < (((((wr.setCell ⟨rb, 0, none⟩ (.int .i64 4)).setCell ⟨rb, 1, none⟩ (.string ⟨#[]⟩)).setCell ⟨rb, 2, none⟩ (.slice (some ⟨wr.heap.size + 1, 0, none⟩) 2 2)).alloc (.cells #[.int .i64 yk, .string ys, .slice Ay ky.len cy] 30)).alloc (.cells #[.int .i64 6, .string ⟨#[]⟩, .slice (some ⟨wr.heap.size, 0, none⟩) 1 1, .int .i64 2, .string ⟨#[]⟩, .slice none 0 0] 30)).heap.size ∧ b ≠ rb) ⟨by omega, by omega, by omega⟩ ((Fit.nil _ _ _).snoc hP2)
        have hE5 := sl_litP (L := [((6, ⟨#[]⟩), mkFr [((yk, ys), ky)]), ((2, ⟨#[]⟩), .nil)]) (l := [((6, ⟨#[]⟩), .slice (some ⟨wr.heap.size, 0, none⟩) (mkFr [((yk, ys), ky)]).len 1), ((2, ⟨#[]⟩), .slice none (Fr.nil : Fr (Int × ByteArray)).len 0)]) B2 rfl (P := fun b => w.heap.size < b ∧ b < (((((wr.setCell ⟨rb, 0, none⟩ (.int .i64 4)).setCell ⟨rb, 1, none⟩ (.string ⟨#[]⟩)).setCell ⟨rb, 2, none⟩ (.slice (some ⟨wr.heap.size + 1, 0, none⟩) 2 2)).alloc (.cells #[.int .i64 yk, .string ys, .slice Ay ky.len cy] 30)).alloc (.cells #[.int .i64 6, .string ⟨#[]⟩, .slice (some ⟨wr.heap.size, 0, none⟩) 1 1, .int .i64 2, .string ⟨#[]⟩, .slice none 0 0] 30)).heap.size ∧ b ≠ rb) ⟨by omega, by omega, by omega⟩ (((Fit.nil _ _ _).snoc hE1).snoc (fun h => absurd h (Nat.lt_irrefl 0)))
        have hrl5 : rb < (((((wr.setCell ⟨rb, 0, none⟩ (.int .i64 4)).setCell ⟨rb, 1, none⟩ (.string ⟨#[]⟩)).setCell ⟨rb, 2, none⟩ (.slice (some ⟨wr.heap.size + 1, 0, none⟩) 2 2)).alloc (.cells #[.int .i64 yk, .string ys, .slice Ay ky.len cy] 30)).alloc (.cells #[.int .i64 6, .string ⟨#[]⟩, .slice (some ⟨wr.heap.size, 0, none⟩) 1 1, .int .i64 2, .string ⟨#[]⟩, .slice none 0 0] 30)).heap.size := by omega
        have hkl : ky.len ≤ 9223372036854775807 := by have := ky.len_size; omega
        have hs5 : (⟨#[]⟩ : ByteArray).size ≤ 3 ∧ FrOk qThree (mkFr [((6, ⟨#[]⟩), mkFr [((yk, ys), ky)]), ((2, ⟨#[]⟩), .nil)]) ∧ (mkFr [(((6 : Int), (⟨#[]⟩ : ByteArray)), mkFr [((yk, ys), ky)]), ((2, ⟨#[]⟩), .nil)]).size + 3 * q ≤ 70 := by
          refine ⟨by decide, ⟨by show (0 : Nat) ≤ 3; omega, by show (1 : Nat) ≤ _; omega, ⟨hy1, hkl, hy2, trivial⟩, ⟨by show (0 : Nat) ≤ 3; omega, by show (0 : Nat) ≤ _; omega, trivial, trivial⟩⟩, ?_⟩
          show (ky.size + 0 + 1) + (0 + 0 + 1) + 1 + 3 * q ≤ 70
          omega
        clear Rb Rr hP hC hG hP2 hE1 B1 B2 Rb0 Rr0 hC0 hG0 hP0 hszq es5 es6 hy1 hy2 hy3 hkl
        go_wp2_with fail
        go_roundw
        case rel => exact ⟨q, 4, ⟨#[]⟩, _, _, _, by first | rfl | (congr 1; omega), by omega, hs5, Rb5, R5, hE5, hc5, G5, hrl5⟩
        case measure => (simp [intOf] <;> omega)
      · obtain rfl : q = 0 := by omega
        have hS9 := hP.to (lo := w.heap.size + 1) (hi := wr.heap.size) (fun b h => ⟨h.1, h.2.1⟩)
        go_upto_region 14 with fail
        have pR := Rb.cell
        have p1 := Rr.cell
        have f1 := Rr.frozen
        have hgs := (hG).size
        go_wp2_with fail
        exact bodyPost_ret (res_cell1 rfl _ _ _ _ _ _ rfl (((Rr.set_ 0 _).set_ 1 _).set_ 2 _) Try.underlying30 (by kernel_rfl)) rfl ⟨⟨yk, ys, ky, Ay, cy, rfl, (((hS9.setb (.inl (by omega)) _).setb (.inl (by omega)) _).setb (.inl (by omega)) _).more (by omega) (by simp <;> omega), ⟨hy1, hy2, by omega⟩⟩, ((hC.setn (by omega) _).setn (by omega) _).setn (by omega) _, gr_setn (gr_setn (gr_setn hG (Nat.le_refl _) _) (Nat.le_refl _) _) (Nat.le_refl _) _⟩
  have b3 : (x == 3) = false := by simp [x3]
  go_upto_region 14 with fail
  have pR := Rb3.cell
  have p1 := R3.cell
  have f1 := R3.frozen
  have hgs := (G3).size
  go_wp2_with fail
  exact bodyPost_ret (res_cell1 rfl _ _ _ _ _ _ rfl (((R3.set_ 0 _).set_ 1 _).set_ 2 _) Try.underlying30 (by kernel_rfl)) rfl ⟨⟨zk, zs, kids, A, c, rfl, (((hS3.setb (.inl (by omega)) _).setb (.inl (by omega)) _).setb (.inl (by omega)) _).more (by omega) (by simp <;> omega), ⟨hsm.1, hsm.2.1, by have := hsm.2.2; omega⟩⟩, ((hc3.setn (by omega) _).setn (by omega) _).setn (by omega) _, gr_setn (gr_setn (gr_setn G3 (Nat.le_refl _) _) (Nat.le_refl _) _) (Nat.le_refl _) _⟩


end Go.Proofs.Ytdfcgnbklnceiaa
