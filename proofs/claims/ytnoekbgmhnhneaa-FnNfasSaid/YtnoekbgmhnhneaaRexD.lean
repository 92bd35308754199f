/- Walks over the reference's draws of expressions: l3Leaf, l3Draw; of texts: l4Text. -/
import Derived.Test.YtnoekbgmhnhneaaQ0
import Derived.Test.YtnoekbgmhnhneaaRexOk
namespace Go.Proofs.Ytnoekbgmhnhneaa
open Go.RowKit

set_option maxHeartbeats 1000000 in
theorem dText (B g : Nat) (w : World) (hc : Cur B w g) :
    Calls Try.prog 72 #[.pointer (some ⟨g, 0, none⟩)] w fun e w' => RetS (fun s => s.size ≤ 6) e ∧ Cur B w' g ∧ w.grownBy w' (some g) := by
  go_enter Try.func72, Try.ntmps72
  go_wp2_with fail
  refine (dBelow B g 7 _ hc (by omega)).mono ?_; rintro e w1 ⟨⟨x, rfl, hx0, hx1, _⟩, hc1, hg1⟩
  have hx2 := hx1 (by omega)
  clear hx1
  obtain ⟨m, rfl⟩ := Int.eq_ofNat_of_zero_le hx0
  go_wp2_with fail
  go_loopw [3, 4] (fun sv i wr => ∃ (k : Nat) (s : ByteArray), s.size + k ≤ 6 ∧ i = .int .i64 k ∧ sv = .string s ∧ Cur B wr g ∧ w.grownBy wr (some g)) (fun _ i _ => (intOf i).toNat)
  case atStart => exact ⟨m, ByteArray.empty, by simp; omega, rfl, rfl, hc1, hg1⟩
  case round =>
    obtain ⟨k, s, hk, rfl, rfl, hC, hG⟩ := hrel
    by_cases h0 : 0 < k
    · obtain ⟨k, rfl⟩ : ∃ j, k = j + 1 := ⟨k - 1, by omega⟩
      go_wp2_with fail
      refine (dStr B g wr.heap.size 6 [⟨#[97]⟩, ⟨#[98]⟩, ⟨#[99]⟩, ⟨#[49]⟩, ⟨#[97]⟩, ⟨#[32]⟩] _ (hC.alloc _) rfl (by omega) (by omega) (Blk.new wr _ _) (by have := hC.lt; omega)).mono ?_; rintro e w2 ⟨⟨z, rfl, hz⟩, hc2, hg2⟩
      have hz1 : z.size ≤ 1 := (show ∀ z ∈ ([⟨#[97]⟩, ⟨#[98]⟩, ⟨#[99]⟩, ⟨#[49]⟩, ⟨#[97]⟩, ⟨#[32]⟩] : List ByteArray), z.size ≤ 1 by decide) z hz
      clear hz
      go_wp2_with fail
      go_roundw
      case rel => exact ⟨k, s ++ z, by rw [ba_append_size]; omega, by first | rfl | (congr 1; omega), rfl, hc2, gr_trans (gr_alloc hG _) hg2⟩
      case measure => simp [intOf]
    · go_wp2_with fail
      go_ret
      exact ⟨⟨s, rfl, by omega⟩, hC, hG⟩

set_option maxHeartbeats 400000 in
theorem dOnce (B g : Nat) (n : Int) (w : World) (hc : Cur B w g) (hn : n ≤ 16777216) :
    Calls Try.prog 90 #[.pointer (some ⟨g, 0, none⟩), .int .i64 n] w fun e w' => (∃ b : Bool, e = .returned (.bool b)) ∧ Cur B w' g ∧ w.grownBy w' (some g) := by
  go_enter Try.func90, Try.ntmps90
  go_wp2_with fail
  refine (dBelow B g n _ hc hn).mono ?_; rintro e w1 ⟨⟨x, rfl, _⟩, hc1, hg1⟩
  go_wp2_with fail
  go_ret
  exact ⟨⟨_, rfl⟩, hc1, hg1⟩

theorem Cur.le {B : Nat} {w : World} {g : Nat} (h : Cur B w g) : B ≤ g := by
  obtain ⟨A, n, c, i, hh, zs, h1, h2, _⟩ := h
  exact h2
theorem Cur.setn {B : Nat} {w : World} {g b j : Nat} (h : Cur B w g) (hb : g < b) (u : Value) : Cur B (w.setCell ⟨b, j, none⟩ u) g :=
  h.far (gr_set (p := ⟨b, j, none⟩) (gr_refl w (some b)) (.inl rfl) u) (fun k e => by cases e; have := h.le; omega)
theorem gr_setn {a w : World} {g b j : Nat} (h : a.grownBy w (some g)) (hb : a.heap.size ≤ b) (u : Value) : a.grownBy (w.setCell ⟨b, j, none⟩ u) (some g) := gr_set (p := ⟨b, j, none⟩) h (.inr hb) u
/-- A label's text is short. -/
def qThree (a : Int × ByteArray) : Prop := a.2.size ≤ 3
/-- How many parts a drawn expression has at most. -/
def pD : Nat → Nat
  | 0 => 1
  | D + 1 => 1 + 3 * pD D
theorem pD_pos : ∀ D, 1 ≤ pD D
  | 0 => Nat.le_refl _
  | D + 1 => by show 1 ≤ 1 + 3 * pD D; omega
/-- A drawn expression is right, and not too deep. -/
def goodR (D : Nat) (zk : Int) (zs : ByteArray) (kids : Fr (Int × ByteArray)) : Prop :=
  hereB zk zs kids = true ∧ (∀ d : Int, d + D ≤ 6 → okG hereB (d + 1) kids = true) ∧ kids.size + 1 ≤ pD D ∧ zs.size ≤ 3 ∧ FrOk qThree kids
theorem nil_list : (⟨#[]⟩ : ByteArray).toList.isEmpty = true := by
  have h : (⟨#[]⟩ : ByteArray).toList = [] := by
    rw [ByteArray.toList, ByteArray.toList.loop]
    rfl
  rw [h]
  rfl
theorem here_nil {k : Int} (h : k = 2 ∨ k = 9 ∨ k = 10 ∨ k = 11) : hereB k ⟨#[]⟩ .nil = true := by rw [here_leaf h, nil_list]; rfl
/-- It hands back a part without parts. -/
def RetLeaf (e : Ending) : Prop := ∃ (zk : Int) (zs : ByteArray), e = .returned (.agg #[.int .i64 zk, .string zs, .slice none 0 0]) ∧ (hereB zk zs .nil = true ∧ zs.size ≤ 3) ∧ repB zk = false ∧ zk ≠ 4 ∧ zk ≠ 5
theorem leaf_good {zk : Int} {zs : ByteArray} (h : hereB zk zs .nil = true ∧ zs.size ≤ 3) (D : Nat) : goodR D zk zs .nil := ⟨h.1, fun _ _ => rfl, by have := pD_pos D; simp [Fr.size]; exact this, h.2, trivial⟩
theorem set3 (k : Int) (z : ByteArray) (v : Value) (u0 u1 u2 : Value) : ((#[.int .i64 k, .string z, v] : Array Value).setIfInBounds 0 u0 |>.setIfInBounds 1 u1 |>.setIfInBounds 2 u2) = #[u0, u1, u2] := rfl

set_option maxRecDepth 20000 in
set_option maxHeartbeats 4000000 in
theorem dLeaf (B g : Nat) (w : World) (hc : Cur B w g) :
    Calls Try.prog 91 #[.pointer (some ⟨g, 0, none⟩)] w fun e w' => RetLeaf e ∧ Cur B w' g ∧ w.grownBy w' (some g) := by
  have R0 := Blk.new w 45 #[.int .i64 0, .string ⟨#[]⟩, .slice none 0 0]
  have c0 := hc.alloc (.cells #[.int .i64 0, .string ⟨#[]⟩, .slice none 0 0] 45)
  have g0 := gr_alloc (gr_refl w (some g)) (.cells #[.int .i64 0, .string ⟨#[]⟩, .slice none 0 0] 45)
  have hgl := hc.lt
  go_enter Try.func91, Try.ntmps91
  go_wp2_with fail
  refine (dBelow B g 8 _ c0 (by omega)).mono ?_; rintro e w1 ⟨⟨x, rfl, hx0, hx1, _⟩, hc1, hg1⟩
  clear hx0 hx1
  have R1 := R0.grown hg1 (by simp; omega)
  have G1 := gr_trans g0 hg1
  have hl1 := R1.lt
  clear R0 c0 g0 hg1
  by_cases x0 : x = 0
  · subst x0
    have p1 := R1.cell
    have f1 := R1.frozen
    go_wp2_with fail
    exact bodyPost_ret (res_cell1 rfl _ _ _ _ _ _ rfl (((R1.set_ 0 _).set_ 1 _).set_ 2 _) Try.underlying45 (by kernel_rfl)) rfl ⟨⟨2, ⟨#[]⟩, rfl, ⟨here_nil (.inl rfl), by decide⟩, rfl, by decide, by decide⟩, ((hc1.setn (by omega) _).setn (by omega) _).setn (by omega) _, gr_setn (gr_setn (gr_setn G1 (Nat.le_refl _) _) (Nat.le_refl _) _) (Nat.le_refl _) _⟩
  have b0 : (x == 0) = false := by simp [x0]
  by_cases x1 : x = 1
  · subst x1
    go_wp2_with fail
    refine (dStr B g w1.heap.size 4 [⟨#[97, 98]⟩, ⟨#[98]⟩, ⟨#[97, 98, 99]⟩, ⟨#[49, 50]⟩] _ (hc1.alloc _) rfl (by omega) (by omega) (Blk.new w1 _ _) (by have := hc1.lt; omega)).mono ?_; rintro e w2 ⟨⟨z, rfl, hz⟩, hc2, hg2⟩
    have hzz := (show ∀ z ∈ ([⟨#[97, 98]⟩, ⟨#[98]⟩, ⟨#[97, 98, 99]⟩, ⟨#[49, 50]⟩] : List ByteArray), hereB 3 z .nil = true ∧ z.size ≤ 3 by decide) z hz
    have R2 := (R1.alloc _).grown hg2 (by simp; omega)
    have G2 := gr_trans (gr_alloc G1 _) hg2
    have p1 := R2.cell
    have f1 := R2.frozen
    clear hz
    go_wp2_with fail
    exact bodyPost_ret (res_cell1 rfl _ _ _ _ _ _ rfl (((R2.set_ 0 _).set_ 1 _).set_ 2 _) Try.underlying45 (by kernel_rfl)) rfl ⟨⟨3, z, rfl, hzz, rfl, by decide, by decide⟩, ((hc2.setn (by omega) _).setn (by omega) _).setn (by omega) _, gr_setn (gr_setn (gr_setn G2 (Nat.le_refl _) _) (Nat.le_refl _) _) (Nat.le_refl _) _⟩
  have b1 : (x == 1) = false := by simp [x1]
  by_cases x2 : x = 2
  · subst x2
    go_wp2_with fail
    refine (dInt B g w1.heap.size 4 [9, 10, 11, 2] _ (hc1.alloc _) rfl (by omega) (by omega) (Blk.new w1 _ _) (by have := hc1.lt; omega)).mono ?_; rintro e w2 ⟨⟨z, rfl, hz⟩, hc2, hg2⟩
    have hz4 := (show ∀ z ∈ ([9, 10, 11, 2] : List Int), (z = 2 ∨ z = 9 ∨ z = 10 ∨ z = 11) ∧ repB z = false ∧ z ≠ 4 ∧ z ≠ 5 by decide) z hz
    have hzz : (hereB z ⟨#[]⟩ .nil = true ∧ (⟨#[]⟩ : ByteArray).size ≤ 3) ∧ repB z = false ∧ z ≠ 4 ∧ z ≠ 5 := ⟨⟨here_nil hz4.1, by decide⟩, hz4.2⟩
    clear hz4
    have R2 := (R1.alloc _).grown hg2 (by simp; omega)
    have G2 := gr_trans (gr_alloc G1 _) hg2
    have p1 := R2.cell
    have f1 := R2.frozen
    clear hz
    go_wp2_with fail
    exact bodyPost_ret (res_cell1 rfl _ _ _ _ _ _ rfl (((R2.set_ 0 _).set_ 1 _).set_ 2 _) Try.underlying45 (by kernel_rfl)) rfl ⟨⟨z, ⟨#[]⟩, rfl, hzz⟩, ((hc2.setn (by omega) _).setn (by omega) _).setn (by omega) _, gr_setn (gr_setn (gr_setn G2 (Nat.le_refl _) _) (Nat.le_refl _) _) (Nat.le_refl _) _⟩
  have b2 : (x == 2) = false := by simp [x2]
  go_wp2_with fail
  refine (dStr B g w1.heap.size 4 [⟨#[97]⟩, ⟨#[98]⟩, ⟨#[99]⟩, ⟨#[49]⟩] _ (hc1.alloc _) rfl (by omega) (by omega) (Blk.new w1 _ _) (by have := hc1.lt; omega)).mono ?_; rintro e w2 ⟨⟨z, rfl, hz⟩, hc2, hg2⟩
  have hzz := (show ∀ z ∈ ([⟨#[97]⟩, ⟨#[98]⟩, ⟨#[99]⟩, ⟨#[49]⟩] : List ByteArray), hereB 1 z .nil = true ∧ z.size ≤ 3 by decide) z hz
  have R2 := (R1.alloc _).grown hg2 (by simp; omega)
  have G2 := gr_trans (gr_alloc G1 _) hg2
  have p1 := R2.cell
  have f1 := R2.frozen
  clear hz
  go_wp2_with fail
  exact bodyPost_ret (res_cell1 rfl _ _ _ _ _ _ rfl (((R2.set_ 0 _).set_ 1 _).set_ 2 _) Try.underlying45 (by kernel_rfl)) rfl ⟨⟨1, z, rfl, hzz, rfl, by decide, by decide⟩, ((hc2.setn (by omega) _).setn (by omega) _).setn (by omega) _, gr_setn (gr_setn (gr_setn G2 (Nat.le_refl _) _) (Nat.le_refl _) _) (Nat.le_refl _) _⟩

/-- Of what kind a part may be within another. -/
def kindB (k y : Int) : Prop := (k = 4 ∨ k = 5 → y ≠ k) ∧ (k = 6 ∨ k = 7 ∨ k = 8 → repB y = false)
theorem hasK_mk {k : Int} : ∀ (L : List ((Int × ByteArray) × Fr (Int × ByteArray))), (∀ x ∈ L, x.1.1 ≠ k) → hasK k (mkFr L) = false
  | [], _ => rfl
  | x :: r, h => by
    show (x.1.1 == k || hasK k (mkFr r)) = false
    rw [hasK_mk r (fun y hy => h y (List.mem_cons_of_mem _ hy)), Bool.or_false]
    exact beq_eq_false_iff_ne.2 (h x (List.mem_cons_self ..))
theorem size_mk {D : Nat} : ∀ (L : List ((Int × ByteArray) × Fr (Int × ByteArray))), (∀ x ∈ L, goodR D x.1.1 x.1.2 x.2) → (mkFr L).size ≤ L.length * pD D
  | [], _ => Nat.zero_le _
  | x :: r, h => by
    have h1 := size_mk r (fun y hy => h y (List.mem_cons_of_mem _ hy))
    obtain ⟨_, _, h2, _⟩ := h x (List.mem_cons_self ..)
    show x.2.size + (mkFr r).size + 1 ≤ (r.length + 1) * pD D
    rw [Nat.succ_mul]
    omega
theorem okG_mk {D : Nat} {d : Int} (hd : d + D ≤ 6) : ∀ (L : List ((Int × ByteArray) × Fr (Int × ByteArray))), (∀ x ∈ L, goodR D x.1.1 x.1.2 x.2) → okG hereB d (mkFr L) = true
  | [], _ => rfl
  | x :: r, h => by
    obtain ⟨h1, h2, _⟩ := h x (List.mem_cons_self ..)
    show ((decide (d ≤ 6) && (hereB x.1.1 x.1.2 x.2 && okG hereB (d + 1) x.2)) && okG hereB d (mkFr r)) = true
    rw [h1, h2 d hd, okG_mk hd r (fun y hy => h y (List.mem_cons_of_mem _ hy)), decide_eq_true (by omega)]
    rfl
theorem frOk_mk {D : Nat} : ∀ (L : List ((Int × ByteArray) × Fr (Int × ByteArray))), (∀ x ∈ L, goodR D x.1.1 x.1.2 x.2) → pD D ≤ 1000000 → FrOk qThree (mkFr L)
  | [], _, _ => trivial
  | x :: r, h, hp => by
    obtain ⟨_, _, h3, h4, h5⟩ := h x (List.mem_cons_self ..)
    exact ⟨h4, by have := x.2.len_size; omega, h5, frOk_mk r (fun y hy => h y (List.mem_cons_of_mem _ hy)) hp⟩
theorem good_mk {D : Nat} {k : Int} {L : List ((Int × ByteArray) × Fr (Int × ByteArray))} (hD : D ≤ 5) (hk : k = 4 ∨ k = 5 ∨ k = 6 ∨ k = 7 ∨ k = 8) (hL : ∀ x ∈ L, goodR D x.1.1 x.1.2 x.2 ∧ kindB k x.1.1) (hn : (k = 4 ∨ k = 5 → 2 ≤ L.length ∧ L.length ≤ 3) ∧ (k = 6 ∨ k = 7 ∨ k = 8 → L.length = 1)) : goodR (D + 1) k ⟨#[]⟩ (mkFr L) := by
  have hg : ∀ x ∈ L, goodR D x.1.1 x.1.2 x.2 := fun x hx => (hL x hx).1
  have hp : pD D ≤ 1000000 := by
    have : ∀ D, D ≤ 5 → pD D ≤ 1000000 := by decide
    exact this D hD
  refine ⟨?_, fun d hd => okG_mk (by omega) L hg, ?_, by decide, frOk_mk L hg hp⟩
  · rcases (show (k = 4 ∨ k = 5) ∨ (k = 6 ∨ k = 7 ∨ k = 8) by omega) with h | h
    · obtain ⟨n1, n2⟩ := hn.1 h
      rw [here_many h, nil_list, mkFr_len, inI_true (by omega) (by omega), hasK_mk L (fun x hx => (hL x hx).2.1 h)]
      rfl
    · have n1 := hn.2 h
      rw [here_rep h, nil_list, mkFr_len, n1]
      obtain ⟨x, rfl⟩ := List.length_eq_one_iff.1 n1
      show (true && (((1 : Nat) == 1) && !repB x.1.1)) = true
      rw [(hL x (List.mem_cons_self ..)).2.2 h]
      rfl
  · have h1 := size_mk L hg
    have h2 : L.length * pD D ≤ 3 * pD D := Nat.mul_le_mul_right _ (by omega)
    show (mkFr L).size + 1 ≤ 1 + 3 * pD D
    omega
/-- It hands back a drawn expression. -/
def RetDraw (D : Nat) (w : World) (e : Ending) (w' : World) : Prop := ∃ (zk : Int) (zs : ByteArray) (kids : Fr (Int × ByteArray)) (A : Option Addr) (c : Nat), e = .returned (.agg #[.int .i64 zk, .string zs, .slice A kids.len c]) ∧ SlK rexC w' w.heap.size w'.heap.size A c kids ∧ goodR D zk zs kids
theorem sl_nil (w : World) (lo hi : Nat) (A : Option Addr) : SlK rexC w lo hi A 0 .nil := ⟨Nat.le_refl 0, fun h => absurd h (Nat.lt_irrefl 0)⟩
theorem SlK.grown {w w' : World} {lo hi c : Nat} {A : Option Addr} {fr : Fr (Int × ByteArray)} {row : Option Nat} (h : SlK rexC w lo hi A c fr) (hg : w.grownBy w' row) (hr : ∀ k, row = some k → k < lo ∨ hi ≤ k) (hh : hi ≤ w.heap.size) : SlK rexC w' lo hi A c fr :=
  h.keep (fun p h1 h2 => World.cell?_of_block (hg.block p.block (by omega) (fun e => by have := hr _ e.symm; omega))) (Nat.le_refl _) (Nat.le_refl _)

end Go.Proofs.Ytnoekbgmhnhneaa
