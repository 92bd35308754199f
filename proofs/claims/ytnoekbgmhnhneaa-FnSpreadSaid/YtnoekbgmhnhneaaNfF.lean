/- Walks over the reference's DrawSpread, DrawOnward: a machine, a row of places, numbers. -/
import Derived.Test.YtnoekbgmhnhneaaNfE
import Derived.Test.YtnoekbgmhnhneaaDrawI
import Derived.Test.YtnoekbgmhnhneaaQ0
import Derived.Deep.CutRange
import Derived.Deep.RegionHeld3
import Derived.Deep.RegionWith
namespace Go.Proofs.Ytnoekbgmhnhneaa
open Go.RowKit

/-- It hands back a machine, a row of numbers, and what else. -/
def RetNL (X : List Value → Prop) (e : Ending) (w' : World) : Prop := ∃ (A : Option Addr) (n c : Nat) (zs : List (Int × ByteArray × Int × Int)) (B : Option Addr) (d : Nat) (l : List Int) (us : List Value), e = .returned (.tuple (.agg #[.slice A n c] :: .slice B l.length d :: us).toArray) ∧ (zs.length = n ∧ n ≤ 1000 ∧ l.length ≤ 4) ∧ X us ∧ (∀ z, z ∈ zs → tSm z) ∧ Reads w' w'.heap.size 4 A n (flat nodeC zs) ∧ Reads w' w'.heap.size 1 B l.length (zints l)
def twoI (us : List Value) : Prop := ∃ i j : Int, us = [.int .i64 i, .int .i64 j]
def oneBy (us : List Value) : Prop := ∃ i : Int, us = [.int .u8 i] ∧ 0 ≤ i ∧ i < 256

set_option maxRecDepth 20000 in
set_option maxHeartbeats 4000000 in
theorem dSpread (A0 : Option Addr) (n0 c0 : Nat) (bs : List Int) (w : World) (hR : Reads w w.heap.size 1 A0 n0 (u8s bs)) (hZ : Byt bs) (hn : n0 ≤ 1048576) :
    Calls Try.prog 31 #[.slice A0 n0 c0] w fun e w' => RetNL twoI e w' ∧ Below w.heap.size w w' := by
  have R0 := Blk.new w 30 #[.slice none 0 0]
  have L0 := bl_alloc (Below.refl w.heap.size w) (.cells #[.slice none 0 0] 30)
  have hR0 := hR.alloc (Nat.le_refl _) (.cells #[.slice none 0 0] 30)
  have es := Nat.le_of_eq (alloc_size w (.cells #[.slice none 0 0] 30)).symm
  obtain ⟨i0, hi0, hz0, hz1, hz2⟩ := info_parts info_intz
  go_enter Try.func31, Try.ntmps31
  go_wp2_with fail
  refine (dNew w.heap.size n0 c0 A0 bs _ hR0 hZ (by omega) hn).mono ?_; rintro e w1 ⟨g, rfl, hc1, hg, b1⟩
  have L1 := bl_trans L0 b1
  have R1 := R0.keep b1
  have hgw : w.heap.size < g := by omega
  have hg1 := hc1.lt
  clear R0 L0 hR0 b1 hg es
  go_wp2_with fail
  refine (dNfAny w.heap.size g _ hc1).mono ?_; rintro e w2 ⟨⟨A, n, c, zs, rfl, ⟨hzn, hn2⟩, htx, hRz, hlo⟩, hc2, g2⟩
  have R2 := R1.grown g2 (by simp; omega)
  have s2 := g2.size
  have G2 := gr_trans (gr_refl w1 (some g)) g2
  have hlo' : 0 < n → ∃ b off, A = some ⟨b, off, none⟩ ∧ g < b := fun h => by
    obtain ⟨b, off, e, hb⟩ := hlo h
    exact ⟨b, off, e, by omega⟩
  clear hlo R1 hc1 g2
  go_upto_region 3 with fail
  have X3 := Blk.new w2 30 #[.slice A n c]
  have R3 := R2.alloc (.cells #[.slice A n c] 30)
  have hc3 := hc2.alloc (.cells #[.slice A n c] 30)
  have G3 := gr_alloc G2 (.cells #[.slice A n c] 30)
  have hRz3 := hRz.alloc (Nat.le_refl _) (.cells #[.slice A n c] 30)
  have es1 := alloc_size w2 (.cells #[.slice A n c] 30)
  clear R2 hc2 G2 hRz
  generalize w2.alloc (.cells #[.slice A n c] 30) = w3 at X3 R3 hc3 G3 hRz3 es1 ⊢
  generalize w2.heap.size = bx at X3 hRz3 es1 s2 ⊢
  have hxg : some bx ≠ some g := by intro e; have := Option.some.inj e; omega
  have hrg : some w.heap.size ≠ some g := by intro e; have := Option.some.inj e; omega
  replace R3 := R3.drew
  replace X3 := X3.drew
  have hcd : Cur w.heap.size w3.drew g := hc3
  have hRzd : Reads w3.drew bx 4 A n (flat nodeC zs) := hRz3
  have Gd : w1.grownBy w3.drew (some g) := gr_drewN G3 1
  have esd : w3.drew.heap.size = bx + 1 := es1
  clear hc3 hRz3 G3 es1
  refine wp_region_held_drew (S := (fun y => Blk y bx 30 #[.slice A n c])) (by kernel_rfl) ?_ (fun hHeld => ?_)
  · exact X3
  refine wpAnyH_take (i := 0) (oi := ⟨some 12, _, _, _, _, _⟩) (v := ?_) rfl (by kernel_rfl) (by kernel_rfl) (by kernel_rfl) (fun _ _ _ h => h) (Or.inl ⟨by rfl, ?_⟩) (by assumption) ?_
  case refine_2 => (intro w hSw; have p := hSw.cell; go_simp; first | done | with_reducible rfl)
  simp only [Act.put, List.setIfInBounds_toArray, List.set_cons_zero, List.set_cons_succ]
  refine wpAnyH_take (i := 1) (oi := ⟨some 13, _, _, _, _, _⟩) (v := ?_) rfl (by kernel_rfl) (by kernel_rfl) (by kernel_rfl) (fun _ _ _ h => h) (Or.inl ⟨by rfl, ?_⟩) (by assumption) ?_
  case refine_2 => (intro w hSw; skip; go_simp; first | done | with_reducible rfl)
  simp only [Act.put, List.setIfInBounds_toArray, List.set_cons_zero, List.set_cons_succ]
  refine wpAnyH_take (i := 2) (oi := ⟨some 14, _, _, _, _, _⟩) (v := ?_) rfl (by kernel_rfl) (by kernel_rfl) (by kernel_rfl) (fun _ _ _ h => h) (Or.inl ⟨by rfl, ?_⟩) (by assumption) ?_
  case refine_2 => (intro w hSw; have p := hSw.cell; go_simp; first | done | with_reducible rfl)
  simp only [Act.put, List.setIfInBounds_toArray, List.set_cons_zero, List.set_cons_succ]
  refine wpAnyH_take (i := 6) (oi := ⟨some 18, _, _, _, _, _⟩) (v := ?_) rfl (by kernel_rfl) (by kernel_rfl) (by kernel_rfl) (fun _ _ _ h => h) (Or.inl ⟨by rfl, ?_⟩) (by assumption) ?_
  case refine_2 => (intro w hSw; skip; go_simp; first | done | with_reducible rfl)
  simp only [Act.put, List.setIfInBounds_toArray, List.set_cons_zero, List.set_cons_succ]
  refine wpAnyH_take (i := 8) (oi := ⟨some 20, _, _, _, _, _⟩) (v := ?_) rfl (by kernel_rfl) (by kernel_rfl) (by kernel_rfl) (fun _ _ _ h => h) (Or.inl ⟨by rfl, ?_⟩) (by assumption) ?_
  case refine_2 => (intro w hSw; skip; go_simp; first | done | with_reducible rfl)
  simp only [Act.put, List.setIfInBounds_toArray, List.set_cons_zero, List.set_cons_succ]
  refine wpAnyH_ready (rs := [3, 4]) (by kernel_rfl) (by simp) ?_
  refine AllReadyH.cons (o := ⟨some 15, _, _, _, _, _⟩) rfl (fun K hK => ?_) (AllReadyH.cons (o := ⟨some 16, _, _, _, _, _⟩) rfl (fun K hK => ?_) AllReadyH.nil)
  · go_simp
    refine (dList w.heap.size g A n c _ hcd hn2).mono ?_; rintro e w4 ⟨⟨v, l, rfl, hl3, O4⟩, hc4, g4⟩
    have hlk := Lib.hid hl3
    have s4 := g4.size
    have X4 := X3.grown g4 hxg
    have R4 := R3.grown g4 hrg
    have G4 := gr_trans Gd g4
    have rz4 := rd_newer hRzd hlo' g4 (Nat.lt_succ_self _) (by omega)
    go_wp2_with fail
    refine hK.out _ _ (X4) (fun hHeld => ?_)
    clear hK K
    try simp only [Act.put, List.setIfInBounds_toArray, List.set_cons_zero, List.set_cons_succ]
    refine wpAnyH_ready (rs := [4]) (by kernel_rfl) (by simp) ?_
    refine AllReadyH.cons (o := ⟨some 16, _, _, _, _, _⟩) rfl (fun K hK => ?_) AllReadyH.nil
    go_simp
    go_wp2_with fail
    have ea := alloc_size w4 (.cells #[.int .i64 0] 3)
    refine hK.out _ _ (X4.alloc _) (fun hHeld => ?_)
    clear hK K
    try simp only [Act.put, List.setIfInBounds_toArray, List.set_cons_zero, List.set_cons_succ]
    have O5 : (w4.alloc (.cells #[.int .i64 0] 3)).ownsRow (bx + 1) 3 1 v l.length (zints l) := (own_base O4.1 (by omega)).alloc _
    have Q5 := Blk.new w4 3 #[.int .i64 0]
    have X5 := X4.alloc (.cells #[.int .i64 0] 3)
    have R5 := R4.alloc (.cells #[.int .i64 0] 3)
    have hc5 := hc4.alloc (.cells #[.int .i64 0] 3)
    have G5 := gr_alloc G4 (.cells #[.int .i64 0] 3)
    have rz5 := rz4.alloc (by omega) (.cells #[.int .i64 0] 3)
    clear X4 R4 hc4 G4 rz4 O4 g4
    generalize w4.alloc (.cells #[.int .i64 0] 3) = w5 at O5 Q5 X5 R5 hc5 G5 rz5 ea ⊢
    generalize w4.heap.size = qb at Q5 ea s4 ⊢
    refine wpAnyH_ready (rs := [5]) (by kernel_rfl) (by simp) ?_
    refine AllReadyH.cons (o := ⟨some 17, _, _, _, _, _⟩) rfl (fun K hK => ?_) AllReadyH.nil
    refine step_append_any _ rfl (.tmp 15) (.tmp 16) 25 rfl (bx + 1) 3 i0 (.int .i64 0) 1 8 Try.underlying25 hi0 hz0 hz1 hz2 rfl (by decide) v l.length (zints l) rfl O5 (qb + 1) _ 1 1 [.int .i64 0] rfl (rd_blk1 Q5) (fun u hu => by obtain rfl := List.mem_singleton.1 hu; rfl) (by have := hlk.out; unfold maxLen; omega) (by have := hlk.out; omega) (by omega) ?_
    intro v6 w6 O6 gA _
    rw [zints_snoc] at O6
    have hb := fun k (e : some k = _) => (O5.lt k e.symm).1
    have X6 := X5.grown gA (fun e => by have := hb _ e; omega)
    have R6 := R5.grown gA (fun e => by have := hb _ e; omega)
    have hc6 := hc5.far gA (fun k e => by have := hb k e.symm; omega)
    have G6 : w1.grownBy w6 (some g) := gr_chain G5 (.inr fun k e => by have := hb k e.symm; omega) gA
    have rz6 := rz5.grown gA (by omega) (fun k e => by have := hb k e.symm; omega)
    have s6 := gA.size
    obtain ⟨m, hm⟩ : ∃ m, l ++ [0] = m := ⟨_, rfl⟩
    have hml : l.length + 1 = m.length := by rw [← hm, List.length_append]; rfl
    rw [hm, hml] at O6
    have HM := Lib.hid (show m.length ≤ 4 by have := hlk.out; omega)
    obtain ⟨A6, c6, rfl⟩ := (Row.mk O6).form
    clear hb hm hml X5 R5 hc5 G5 rz5 O5 gA Q5
    refine hK.out _ _ (X6) (fun hHeld => ?_)
    clear hK K
    try simp only [Act.put, List.setIfInBounds_toArray, List.set_cons_zero, List.set_cons_succ]
    refine wpAnyH_ready (rs := [7]) (by kernel_rfl) (by simp) ?_
    refine AllReadyH.cons (o := ⟨some 19, _, _, _, _, _⟩) rfl (fun K hK => ?_) AllReadyH.nil
    go_simp
    refine (dBelow w.heap.size g 3 _ hc6 (by omega)).mono ?_; rintro e w7 ⟨⟨y7, rfl, _, _, _⟩, hc7, g7⟩
    have X7 := X6.grown g7 hxg
    have R7 := R6.grown g7 hrg
    have G7 := gr_trans G6 g7
    have rz7 := rd_newer rz6 hlo' g7 (Nat.lt_succ_self _) (by omega)
    have O7 := own_gr O6 g7 (by omega)
    have s7 := g7.size
    clear X6 R6 G6 rz6 O6 hc6 g7
    go_wp2_with fail
    refine hK.out _ _ (X7) (fun hHeld => ?_)
    clear hK K
    try simp only [Act.put, List.setIfInBounds_toArray, List.set_cons_zero, List.set_cons_succ]
    refine wpAnyH_ready (rs := [9]) (by kernel_rfl) (by simp) ?_
    refine AllReadyH.cons (o := ⟨some 21, _, _, _, _, _⟩) rfl (fun K hK => ?_) AllReadyH.nil
    go_simp
    refine (dBelow w.heap.size g 3 _ hc7 (by omega)).mono ?_; rintro e w8 ⟨⟨y8, rfl, _, _, _⟩, hc8, g8⟩
    have X8 := X7.grown g8 hxg
    have R8 := R7.grown g8 hrg
    have G8 := gr_trans G7 g8
    have rz8 := rd_newer rz7 hlo' g8 (Nat.lt_succ_self _) (by omega)
    have O8 := own_gr O7 g8 (by omega)
    have s8 := g8.size
    clear X7 R7 G7 rz7 O7 hc7 g8
    go_wp2_with fail
    refine hK.out _ _ (X8) (fun hHeld => ?_)
    clear hK K
    try simp only [Act.put, List.setIfInBounds_toArray, List.set_cons_zero, List.set_cons_succ]
    have f8 := R8.frozen
    have p8 := R8.cell
    refine wpAnyH_ready (rs := [10]) (by kernel_rfl) (by simp) ?_
    refine AllReadyH.cons (o := ⟨none, _, _, _, _, _⟩) rfl (fun K hK => ?_) AllReadyH.nil
    go_simp
    go_wp2_with fail
    refine hK.out _ _ (X8.farb (by omega) _) (fun hHeld => ?_)
    clear hK K
    try simp only [Act.put, List.setIfInBounds_toArray, List.set_cons_zero, List.set_cons_succ]
    clear p8 f8
    refine wpAnyH_take (i := 11) (oi := ⟨some 3, _, _, _, _, _⟩) (v := ?_) rfl (by kernel_rfl) (by kernel_rfl) (by kernel_rfl) (fun _ _ _ h => h) (Or.inl ⟨by rfl, ?_⟩) (by assumption) ?_
    case refine_2 => (intro w hSw; skip; go_simp; first | done | with_reducible rfl)
    simp only [Act.put, List.setIfInBounds_toArray, List.set_cons_zero, List.set_cons_succ]
    refine wpAnyH_take (i := 12) (oi := ⟨some 4, _, _, _, _, _⟩) (v := ?_) rfl (by kernel_rfl) (by kernel_rfl) (by kernel_rfl) (fun _ _ _ h => h) (Or.inl ⟨by rfl, ?_⟩) (by assumption) ?_
    case refine_2 => (intro w hSw; skip; go_simp; first | done | with_reducible rfl)
    simp only [Act.put, List.setIfInBounds_toArray, List.set_cons_zero, List.set_cons_succ]
    refine wpAnyH_take (i := 13) (oi := ⟨some 5, _, _, _, _, _⟩) (v := ?_) rfl (by kernel_rfl) (by kernel_rfl) (by kernel_rfl) (fun _ _ _ h => h) (Or.inl ⟨by rfl, ?_⟩) (by assumption) ?_
    case refine_2 => (intro w hSw; skip; go_simp; first | done | with_reducible rfl)
    simp only [Act.put, List.setIfInBounds_toArray, List.set_cons_zero, List.set_cons_succ]
    refine wpAnyH_done (by kernel_rfl) ?_ _
    have g9 := gr_set (gr_refl w8 (some w.heap.size)) (p := ⟨w.heap.size, 0, none⟩) (.inl rfl) (.slice A n c)
    have rz9 := rd_newer rz8 hlo' g9 (by omega) (by omega)
    have O9 := own_gr O8 g9 (by omega)
    have L9 := bl_setb (b := w.heap.size) (j := 0) (bl_gr L1 G8 (fun k e => by cases e; omega)) (Nat.le_refl _) (.slice A n c)
    have R9 := R8.set_ 0 (.slice A n c)
    have s9 := g9.size
    clear X8 R8 G8 rz8 O8 hc8
    go_wp2_with fail
    exact bodyPost_ret (res_cellT3 rfl _ _ _ _ _ _ rfl R9 Try.underlying30 (by kernel_rfl)) rfl ⟨⟨A, n, c, zs, A6, c6, m, _, rfl, ⟨hzn, hn2, HM.out⟩, ⟨y7, y8, rfl⟩, htx, rz9.more (by omega), (Row.mk O9).reads⟩, L9⟩
  · go_simp
    go_wp2_with fail
    have ea := alloc_size w3.drew (.cells #[.int .i64 0] 3)
    refine hK.out _ _ (X3.alloc _) (fun hHeld => ?_)
    clear hK K
    try simp only [Act.put, List.setIfInBounds_toArray, List.set_cons_zero, List.set_cons_succ]
    have Q3 := Blk.new w3.drew 3 #[.int .i64 0]
    replace X3 := X3.alloc (.cells #[.int .i64 0] 3)
    replace R3 := R3.alloc (.cells #[.int .i64 0] 3)
    replace hcd := hcd.alloc (.cells #[.int .i64 0] 3)
    replace Gd := gr_alloc Gd (.cells #[.int .i64 0] 3)
    replace hRzd := hRzd.alloc (by omega) (.cells #[.int .i64 0] 3)
    rw [esd] at Q3 ea
    change (w3.alloc (.cells #[.int .i64 0] 3)).drew.heap.size = _ at ea
    change Blk (w3.alloc (.cells #[.int .i64 0] 3)).drew _ _ _ at Q3
    change Blk (w3.alloc (.cells #[.int .i64 0] 3)).drew _ _ _ at X3
    change Blk (w3.alloc (.cells #[.int .i64 0] 3)).drew _ _ _ at R3
    change Cur _ (w3.alloc (.cells #[.int .i64 0] 3)).drew _ at hcd
    change w1.grownBy (w3.alloc (.cells #[.int .i64 0] 3)).drew _ at Gd
    change Reads (w3.alloc (.cells #[.int .i64 0] 3)).drew _ _ _ _ _ at hRzd
    clear hHeld
    generalize (w3.alloc (.cells #[.int .i64 0] 3)).drew = w0 at Q3 X3 R3 hcd Gd hRzd ea ⊢
    have hHeld := X3
    refine wpAnyH_ready (rs := [3]) (by kernel_rfl) (by simp) ?_
    refine AllReadyH.cons (o := ⟨some 15, _, _, _, _, _⟩) rfl (fun K hK => ?_) AllReadyH.nil
    go_simp
    refine (dList w.heap.size g A n c _ hcd hn2).mono ?_; rintro e w4 ⟨⟨v, l, rfl, hl3, O4⟩, hc4, g4⟩
    have hlk := Lib.hid hl3
    have s4 := g4.size
    have X5 := X3.grown g4 hxg
    have R5 := R3.grown g4 hrg
    have G5 := gr_trans Gd g4
    have rz5 := rd_newer hRzd hlo' g4 (Nat.lt_succ_self _) (by omega)
    have hqg : some (bx + 1) ≠ some g := by intro e; have := Option.some.inj e; omega
    have Q5 := Q3.grown g4 hqg
    go_wp2_with fail
    refine hK.out _ _ (X5) (fun hHeld => ?_)
    clear hK K
    try simp only [Act.put, List.setIfInBounds_toArray, List.set_cons_zero, List.set_cons_succ]
    have O5 : w4.ownsRow (bx + 1) 3 1 v l.length (zints l) := own_base O4.1 (by omega)
    have hc5 := hc4
    clear O4 hc4 g4
    refine wpAnyH_ready (rs := [5]) (by kernel_rfl) (by simp) ?_
    refine AllReadyH.cons (o := ⟨some 17, _, _, _, _, _⟩) rfl (fun K hK => ?_) AllReadyH.nil
    refine step_append_any _ rfl (.tmp 15) (.tmp 16) 25 rfl (bx + 1) 3 i0 (.int .i64 0) 1 8 Try.underlying25 hi0 hz0 hz1 hz2 rfl (by decide) v l.length (zints l) rfl O5 ((bx + 1) + 1) _ 1 1 [.int .i64 0] rfl (rd_blk1 Q5) (fun u hu => by obtain rfl := List.mem_singleton.1 hu; rfl) (by have := hlk.out; unfold maxLen; omega) (by have := hlk.out; omega) (by omega) ?_
    intro v6 w6 O6 gA _
    rw [zints_snoc] at O6
    have hb := fun k (e : some k = _) => (O5.lt k e.symm).1
    have X6 := X5.grown gA (fun e => by have := hb _ e; omega)
    have R6 := R5.grown gA (fun e => by have := hb _ e; omega)
    have hc6 := hc5.far gA (fun k e => by have := hb k e.symm; omega)
    have G6 : w1.grownBy w6 (some g) := gr_chain G5 (.inr fun k e => by have := hb k e.symm; omega) gA
    have rz6 := rz5.grown gA (by omega) (fun k e => by have := hb k e.symm; omega)
    have s6 := gA.size
    obtain ⟨m, hm⟩ : ∃ m, l ++ [0] = m := ⟨_, rfl⟩
    have hml : l.length + 1 = m.length := by rw [← hm, List.length_append]; rfl
    rw [hm, hml] at O6
    have HM := Lib.hid (show m.length ≤ 4 by have := hlk.out; omega)
    obtain ⟨A6, c6, rfl⟩ := (Row.mk O6).form
    clear hb hm hml X5 R5 hc5 G5 rz5 O5 gA Q5
    refine hK.out _ _ (X6) (fun hHeld => ?_)
    clear hK K
    try simp only [Act.put, List.setIfInBounds_toArray, List.set_cons_zero, List.set_cons_succ]
    refine wpAnyH_ready (rs := [7]) (by kernel_rfl) (by simp) ?_
    refine AllReadyH.cons (o := ⟨some 19, _, _, _, _, _⟩) rfl (fun K hK => ?_) AllReadyH.nil
    go_simp
    refine (dBelow w.heap.size g 3 _ hc6 (by omega)).mono ?_; rintro e w7 ⟨⟨y7, rfl, _, _, _⟩, hc7, g7⟩
    have X7 := X6.grown g7 hxg
    have R7 := R6.grown g7 hrg
    have G7 := gr_trans G6 g7
    have rz7 := rd_newer rz6 hlo' g7 (Nat.lt_succ_self _) (by omega)
    have O7 := own_gr O6 g7 (by omega)
    have s7 := g7.size
    clear X6 R6 G6 rz6 O6 hc6 g7
    go_wp2_with fail
    refine hK.out _ _ (X7) (fun hHeld => ?_)
    clear hK K
    try simp only [Act.put, List.setIfInBounds_toArray, List.set_cons_zero, List.set_cons_succ]
    refine wpAnyH_ready (rs := [9]) (by kernel_rfl) (by simp) ?_
    refine AllReadyH.cons (o := ⟨some 21, _, _, _, _, _⟩) rfl (fun K hK => ?_) AllReadyH.nil
    go_simp
    refine (dBelow w.heap.size g 3 _ hc7 (by omega)).mono ?_; rintro e w8 ⟨⟨y8, rfl, _, _, _⟩, hc8, g8⟩
    have X8 := X7.grown g8 hxg
    have R8 := R7.grown g8 hrg
    have G8 := gr_trans G7 g8
    have rz8 := rd_newer rz7 hlo' g8 (Nat.lt_succ_self _) (by omega)
    have O8 := own_gr O7 g8 (by omega)
    have s8 := g8.size
    clear X7 R7 G7 rz7 O7 hc7 g8
    go_wp2_with fail
    refine hK.out _ _ (X8) (fun hHeld => ?_)
    clear hK K
    try simp only [Act.put, List.setIfInBounds_toArray, List.set_cons_zero, List.set_cons_succ]
    have f8 := R8.frozen
    have p8 := R8.cell
    refine wpAnyH_ready (rs := [10]) (by kernel_rfl) (by simp) ?_
    refine AllReadyH.cons (o := ⟨none, _, _, _, _, _⟩) rfl (fun K hK => ?_) AllReadyH.nil
    go_simp
    go_wp2_with fail
    refine hK.out _ _ (X8.farb (by omega) _) (fun hHeld => ?_)
    clear hK K
    try simp only [Act.put, List.setIfInBounds_toArray, List.set_cons_zero, List.set_cons_succ]
    clear p8 f8
    refine wpAnyH_take (i := 11) (oi := ⟨some 3, _, _, _, _, _⟩) (v := ?_) rfl (by kernel_rfl) (by kernel_rfl) (by kernel_rfl) (fun _ _ _ h => h) (Or.inl ⟨by rfl, ?_⟩) (by assumption) ?_
    case refine_2 => (intro w hSw; skip; go_simp; first | done | with_reducible rfl)
    simp only [Act.put, List.setIfInBounds_toArray, List.set_cons_zero, List.set_cons_succ]
    refine wpAnyH_take (i := 12) (oi := ⟨some 4, _, _, _, _, _⟩) (v := ?_) rfl (by kernel_rfl) (by kernel_rfl) (by kernel_rfl) (fun _ _ _ h => h) (Or.inl ⟨by rfl, ?_⟩) (by assumption) ?_
    case refine_2 => (intro w hSw; skip; go_simp; first | done | with_reducible rfl)
    simp only [Act.put, List.setIfInBounds_toArray, List.set_cons_zero, List.set_cons_succ]
    refine wpAnyH_take (i := 13) (oi := ⟨some 5, _, _, _, _, _⟩) (v := ?_) rfl (by kernel_rfl) (by kernel_rfl) (by kernel_rfl) (fun _ _ _ h => h) (Or.inl ⟨by rfl, ?_⟩) (by assumption) ?_
    case refine_2 => (intro w hSw; skip; go_simp; first | done | with_reducible rfl)
    simp only [Act.put, List.setIfInBounds_toArray, List.set_cons_zero, List.set_cons_succ]
    refine wpAnyH_done (by kernel_rfl) ?_ _
    have g9 := gr_set (gr_refl w8 (some w.heap.size)) (p := ⟨w.heap.size, 0, none⟩) (.inl rfl) (.slice A n c)
    have rz9 := rd_newer rz8 hlo' g9 (by omega) (by omega)
    have O9 := own_gr O8 g9 (by omega)
    have L9 := bl_setb (b := w.heap.size) (j := 0) (bl_gr L1 G8 (fun k e => by cases e; omega)) (Nat.le_refl _) (.slice A n c)
    have R9 := R8.set_ 0 (.slice A n c)
    have s9 := g9.size
    clear X8 R8 G8 rz8 O8 hc8
    go_wp2_with fail
    exact bodyPost_ret (res_cellT3 rfl _ _ _ _ _ _ rfl R9 Try.underlying30 (by kernel_rfl)) rfl ⟨⟨A, n, c, zs, A6, c6, m, _, rfl, ⟨hzn, hn2, HM.out⟩, ⟨y7, y8, rfl⟩, htx, rz9.more (by omega), (Row.mk O9).reads⟩, L9⟩

set_option maxRecDepth 20000 in
set_option maxHeartbeats 8000000 in
theorem dOnward (A0 : Option Addr) (n0 c0 : Nat) (bs : List Int) (w : World) (hR : Reads w w.heap.size 1 A0 n0 (u8s bs)) (hZ : Byt bs) (hn : n0 ≤ 1048576) :
    Calls Try.prog 37 #[.slice A0 n0 c0] w fun e w' => RetNL oneBy e w' ∧ Below w.heap.size w w' := by
  have R0 := Blk.new w 30 #[.slice none 0 0]
  have L0 := bl_alloc (Below.refl w.heap.size w) (.cells #[.slice none 0 0] 30)
  have hR0 := hR.alloc (Nat.le_refl _) (.cells #[.slice none 0 0] 30)
  have es := Nat.le_of_eq (alloc_size w (.cells #[.slice none 0 0] 30)).symm
  obtain ⟨i0, hi0, hz0, hz1, hz2⟩ := info_parts info_intz
  go_enter Try.func37, Try.ntmps37
  go_wp2_with fail
  refine (dNew w.heap.size n0 c0 A0 bs _ hR0 hZ (by omega) hn).mono ?_; rintro e w1 ⟨g, rfl, hc1, hg, b1⟩
  have L1 := bl_trans L0 b1
  have R1 := R0.keep b1
  have hgw : w.heap.size < g := by omega
  have hg1 := hc1.lt
  clear R0 L0 hR0 b1 hg es
  go_wp2_with fail
  refine (dNfAny w.heap.size g _ hc1).mono ?_; rintro e w2 ⟨⟨A, n, c, zs, rfl, ⟨hzn, hn2⟩, htx, hRz, hlo⟩, hc2, g2⟩
  have R2 := R1.grown g2 (by simp; omega)
  have s2 := g2.size
  have G2 := gr_trans (gr_refl w1 (some g)) g2
  have hlo' : 0 < n → ∃ b off, A = some ⟨b, off, none⟩ ∧ g < b := fun h => by
    obtain ⟨b, off, e, hb⟩ := hlo h
    exact ⟨b, off, e, by omega⟩
  clear hlo R1 hc1 g2
  go_upto_region 3 with fail
  have X3 := Blk.new w2 30 #[.slice A n c]
  have R3 := R2.alloc (.cells #[.slice A n c] 30)
  have hc3 := hc2.alloc (.cells #[.slice A n c] 30)
  have G3 := gr_alloc G2 (.cells #[.slice A n c] 30)
  have hRz3 := hRz.alloc (Nat.le_refl _) (.cells #[.slice A n c] 30)
  have es1 := alloc_size w2 (.cells #[.slice A n c] 30)
  clear R2 hc2 G2 hRz
  generalize w2.alloc (.cells #[.slice A n c] 30) = w3 at X3 R3 hc3 G3 hRz3 es1 ⊢
  generalize w2.heap.size = bx at X3 hRz3 es1 s2 ⊢
  have hxg : some bx ≠ some g := by intro e; have := Option.some.inj e; omega
  have hrg : some w.heap.size ≠ some g := by intro e; have := Option.some.inj e; omega
  replace R3 := R3.drew
  replace X3 := X3.drew
  have hcd : Cur w.heap.size w3.drew g := hc3
  have hRzd : Reads w3.drew bx 4 A n (flat nodeC zs) := hRz3
  have Gd : w1.grownBy w3.drew (some g) := gr_drewN G3 1
  have esd : w3.drew.heap.size = bx + 1 := es1
  clear hc3 hRz3 G3 es1
  refine wp_region_held_drew (S := (fun y => Blk y bx 30 #[.slice A n c])) (by kernel_rfl) ?_ (fun hHeld => ?_)
  · exact X3
  clear hHeld
  have b3 : bx < w3.drew.heap.size := by omega
  clear esd
  have C3 := hcd
  have G3 := Gd
  have Z3 := hRzd
  clear hcd Gd hRzd
  generalize w3.drew = w0 at X3 R3 C3 G3 Z3 b3 ⊢
  have hHeld := X3
  refine wpAnyH_take (i := 0) (oi := ⟨some 11, _, _, _, _, _⟩) (v := ?_) rfl (by kernel_rfl) (by kernel_rfl) (by kernel_rfl) (fun _ _ _ h => h) (Or.inl ⟨by rfl, ?_⟩) (by assumption) ?_
  case refine_2 => (intro w hSw; have p := hSw.cell; go_simp; first | done | with_reducible rfl)
  simp only [Act.put, List.setIfInBounds_toArray, List.set_cons_zero, List.set_cons_succ]
  refine wpAnyH_take (i := 1) (oi := ⟨some 12, _, _, _, _, _⟩) (v := ?_) rfl (by kernel_rfl) (by kernel_rfl) (by kernel_rfl) (fun _ _ _ h => h) (Or.inl ⟨by rfl, ?_⟩) (by assumption) ?_
  case refine_2 => (intro w hSw; skip; go_simp; first | done | with_reducible rfl)
  simp only [Act.put, List.setIfInBounds_toArray, List.set_cons_zero, List.set_cons_succ]
  refine wpAnyH_take (i := 2) (oi := ⟨some 13, _, _, _, _, _⟩) (v := ?_) rfl (by kernel_rfl) (by kernel_rfl) (by kernel_rfl) (fun _ _ _ h => h) (Or.inl ⟨by rfl, ?_⟩) (by assumption) ?_
  case refine_2 => (intro w hSw; have p := hSw.cell; go_simp; first | done | with_reducible rfl)
  simp only [Act.put, List.setIfInBounds_toArray, List.set_cons_zero, List.set_cons_succ]
  refine wpAnyH_take (i := 6) (oi := ⟨some 17, _, _, _, _, _⟩) (v := ?_) rfl (by kernel_rfl) (by kernel_rfl) (by kernel_rfl) (fun _ _ _ h => h) (Or.inl ⟨by rfl, ?_⟩) (by assumption) ?_
  case refine_2 => (intro w hSw; skip; go_simp; first | done | with_reducible rfl)
  simp only [Act.put, List.setIfInBounds_toArray, List.set_cons_zero, List.set_cons_succ]
  refine wpAnyH_ready (rs := [3, 4, 7]) (by kernel_rfl) (by simp) ?_
  refine AllReadyH.cons (o := ⟨some 14, _, _, _, _, _⟩) rfl (fun K hK => ?_) (AllReadyH.cons (o := ⟨some 15, _, _, _, _, _⟩) rfl (fun K hK => ?_) (AllReadyH.cons (o := ⟨some 18, _, _, _, _, _⟩) rfl (fun K hK => ?_) AllReadyH.nil))
  · go_simp
    refine (dList w.heap.size g A n c _ C3 hn2).mono ?_; rintro e w4 ⟨⟨v, l, rfl, hl3, O'⟩, C4, g'⟩
    have hlk := Lib.hid hl3
    clear hl3
    have t4 := g'.size
    have X4 := X3.grown g' hxg
    have R4 := R3.grown g' hrg
    have G4 := gr_trans G3 g'
    have Z4 := rd_newer Z3 hlo' g' (Nat.lt_succ_self _) (by omega)
    have O4 : w4.ownsRow (bx + 1) 3 1 v l.length (zints l) := own_base O'.1 (by omega)
    have b4 : bx < w4.heap.size := by omega
    clear O' g'
    go_wp2_with fail
    refine hK.out _ _ (X4) (fun hHeld => ?_)
    clear hK K
    try simp only [Act.put, List.setIfInBounds_toArray, List.set_cons_zero, List.set_cons_succ]
    refine wpAnyH_ready (rs := [4, 7]) (by kernel_rfl) (by simp) ?_
    refine AllReadyH.cons (o := ⟨some 15, _, _, _, _, _⟩) rfl (fun K hK => ?_) (AllReadyH.cons (o := ⟨some 18, _, _, _, _, _⟩) rfl (fun K hK => ?_) AllReadyH.nil)
    · go_simp
      go_wp2_with fail
      refine hK.out _ _ (X4.alloc _) (fun hHeld => ?_)
      clear hK K
      try simp only [Act.put, List.setIfInBounds_toArray, List.set_cons_zero, List.set_cons_succ]
      have Q5 := Blk.new w4 3 #[.int .i64 0]
      have a5 := alloc_size w4 (.cells #[.int .i64 0] 3)
      have X5 := X4.alloc (.cells #[.int .i64 0] 3)
      have R5 := R4.alloc (.cells #[.int .i64 0] 3)
      have C5 := C4.alloc (.cells #[.int .i64 0] 3)
      have G5 := gr_alloc G4 (.cells #[.int .i64 0] 3)
      have Z5 := Z4.alloc (by omega) (.cells #[.int .i64 0] 3)
      have O5 := O4.alloc (.cells #[.int .i64 0] 3)
      clear hHeld X4 R4 C4 G4 Z4 O4
      have hq : bx < w4.heap.size := b4
      generalize w4.alloc (.cells #[.int .i64 0] 3) = w5 at Q5 X5 R5 C5 G5 Z5 a5 O5 ⊢
      have b5 : bx < w5.heap.size := by omega
      have ha5 := Lib.hid a5
      clear a5
      obtain ⟨q, hq5⟩ : ∃ q, w4.heap.size = q := ⟨_, rfl⟩
      rw [hq5] at Q5 hq
      try rw [hq5]
      try simp only [hq5]
      have hqq5 := Lib.hid hq5
      clear hq5
      have hHeld := X5
      refine wpAnyH_ready (rs := [5, 7]) (by kernel_rfl) (by simp) ?_
      refine AllReadyH.cons (o := ⟨some 16, _, _, _, _, _⟩) rfl (fun K hK => ?_) (AllReadyH.cons (o := ⟨some 18, _, _, _, _, _⟩) rfl (fun K hK => ?_) AllReadyH.nil)
      · refine step_append_any _ rfl (.tmp 14) (.tmp 15) 25 rfl (bx + 1) 3 i0 (.int .i64 0) 1 8 Try.underlying25 hi0 hz0 hz1 hz2 rfl (by decide) v l.length (zints l) rfl O5 (q + 1) _ 1 1 [.int .i64 0] rfl (rd_blk1 Q5) (fun u hu => by obtain rfl := List.mem_singleton.1 hu; rfl) (by have := hlk.out; unfold maxLen; omega) (by have := hlk.out; omega) (by omega) ?_
        intro v6 w6 O6 gA _
        rw [zints_snoc] at O6
        have hb := fun k (e : some k = _) => (O5.lt k e.symm).1
        have X6 := X5.grown gA (fun e => by have := hb _ e; omega)
        have R6 := R5.grown gA (fun e => by have := hb _ e; omega)
        have C6 := C5.far gA (fun k e => by have := hb k e.symm; omega)
        have G6 : w1.grownBy w6 (some g) := gr_chain G5 (.inr fun k e => by have := hb k e.symm; omega) gA
        have Z6 := Z5.grown gA (by omega) (fun k e => by have := hb k e.symm; omega)
        have t6 := gA.size
        obtain ⟨m, hm⟩ : ∃ m, l ++ [0] = m := ⟨_, rfl⟩
        have hml : l.length + 1 = m.length := by rw [← hm, List.length_append]; rfl
        rw [hm, hml] at O6
        have HM := Lib.hid (show m.length ≤ 4 by have := hlk.out; omega)
        obtain ⟨A6, c6, rfl⟩ := (Row.mk O6).form
        have b6 : bx < w6.heap.size := by omega
        clear hb hm hml X5 R5 C5 G5 Z5 O5 Q5 gA
        refine hK.out _ _ (X6) (fun hHeld => ?_)
        clear hK K
        try simp only [Act.put, List.setIfInBounds_toArray, List.set_cons_zero, List.set_cons_succ]
        refine wpAnyH_ready (rs := [7]) (by kernel_rfl) (by simp) ?_
        refine AllReadyH.cons (o := ⟨some 18, _, _, _, _, _⟩) rfl (fun K hK => ?_) AllReadyH.nil
        go_simp
        go_wp2_with fail
        refine hK.out _ _ (X6.alloc _) (fun hHeld => ?_)
        clear hK K
        try simp only [Act.put, List.setIfInBounds_toArray, List.set_cons_zero, List.set_cons_succ]
        have P7 := Blk.new w6 3 #[.int .i64 97, .int .i64 98, .int .i64 99, .int .i64 49]
        have a7 := alloc_size w6 (.cells #[.int .i64 97, .int .i64 98, .int .i64 99, .int .i64 49] 3)
        have X7 := X6.alloc (.cells #[.int .i64 97, .int .i64 98, .int .i64 99, .int .i64 49] 3)
        have R7 := R6.alloc (.cells #[.int .i64 97, .int .i64 98, .int .i64 99, .int .i64 49] 3)
        have C7 := C6.alloc (.cells #[.int .i64 97, .int .i64 98, .int .i64 99, .int .i64 49] 3)
        have G7 := gr_alloc G6 (.cells #[.int .i64 97, .int .i64 98, .int .i64 99, .int .i64 49] 3)
        have Z7 := Z6.alloc (by omega) (.cells #[.int .i64 97, .int .i64 98, .int .i64 99, .int .i64 49] 3)
        have O7 := O6.alloc (.cells #[.int .i64 97, .int .i64 98, .int .i64 99, .int .i64 49] 3)
        clear hHeld X6 R6 C6 G6 Z6 O6
        have hp : bx < w6.heap.size := b6
        generalize w6.alloc (.cells #[.int .i64 97, .int .i64 98, .int .i64 99, .int .i64 49] 3) = w7 at P7 X7 R7 C7 G7 Z7 a7 O7 ⊢
        have b7 : bx < w7.heap.size := by omega
        have ha7 := Lib.hid a7
        clear a7
        obtain ⟨p, hq7⟩ : ∃ p, w6.heap.size = p := ⟨_, rfl⟩
        rw [hq7] at P7 hp
        try rw [hq7]
        try simp only [hq7]
        have hqq7 := Lib.hid hq7
        clear hq7
        have hHeld := X7
        refine wpAnyH_ready (rs := [8]) (by kernel_rfl) (by simp) ?_
        refine AllReadyH.cons (o := ⟨some 19, _, _, _, _, _⟩) rfl (fun K hK => ?_) AllReadyH.nil
        go_simp
        refine (dInt w.heap.size g p 4 [97, 98, 99, 49] _ C7 rfl (by omega) (by omega) P7 (by omega)).mono ?_; rintro e w8 ⟨⟨y, rfl, hy⟩, hc8, g'⟩
        have t8 := g'.size
        have X8 := X7.grown g' hxg
        have R8 := R7.grown g' hrg
        have G8 := gr_trans G7 g'
        have rz8 := rd_newer Z7 hlo' g' (Nat.lt_succ_self _) (by omega)
        have O8 := own_gr O7 g' (by omega)
        have hy2 : 0 ≤ y ∧ y < 256 := by simp only [List.mem_cons, List.not_mem_nil, or_false] at hy; omega
        have ey : IntKind.u8.wrap y = y := by rw [IntKind.wrap_u8]; omega
        clear hy X7 R7 C7 G7 Z7 O7 P7 g'
        go_wp2_with fail
        refine hK.out _ _ (X8) (fun hHeld => ?_)
        clear hK K
        try simp only [Act.put, List.setIfInBounds_toArray, List.set_cons_zero, List.set_cons_succ]
        refine wpAnyH_take (i := 9) (oi := ⟨some 20, _, _, _, _, _⟩) (v := ?_) rfl (by kernel_rfl) (by kernel_rfl) (by kernel_rfl) (fun _ _ _ h => h) (Or.inl ⟨by rfl, ?_⟩) (by assumption) ?_
        case refine_2 => (intro w hSw; skip; go_simp; first | done | with_reducible rfl)
        simp only [Act.put, List.setIfInBounds_toArray, List.set_cons_zero, List.set_cons_succ]
        have f8 := R8.frozen
        have p8 := R8.cell
        refine wpAnyH_ready (rs := [10]) (by kernel_rfl) (by simp) ?_
        refine AllReadyH.cons (o := ⟨none, _, _, _, _, _⟩) rfl (fun K hK => ?_) AllReadyH.nil
        go_simp
        go_wp2_with fail
        refine hK.out _ _ (X8.farb (by omega) _) (fun hHeld => ?_)
        clear hK K
        try simp only [Act.put, List.setIfInBounds_toArray, List.set_cons_zero, List.set_cons_succ]
        clear p8 f8
        refine wpAnyH_take (i := 11) (oi := ⟨some 3, _, _, _, _, _⟩) (v := ?_) rfl (by kernel_rfl) (by kernel_rfl) (by kernel_rfl) (fun _ _ _ h => h) (Or.inl ⟨by rfl, ?_⟩) (by assumption) ?_
        case refine_2 => (intro w hSw; skip; go_simp; first | done | with_reducible rfl)
        simp only [Act.put, List.setIfInBounds_toArray, List.set_cons_zero, List.set_cons_succ]
        refine wpAnyH_take (i := 12) (oi := ⟨some 4, _, _, _, _, _⟩) (v := ?_) rfl (by kernel_rfl) (by kernel_rfl) (by kernel_rfl) (fun _ _ _ h => h) (Or.inl ⟨by rfl, ?_⟩) (by assumption) ?_
        case refine_2 => (intro w hSw; skip; go_simp; first | done | with_reducible rfl)
        simp only [Act.put, List.setIfInBounds_toArray, List.set_cons_zero, List.set_cons_succ]
        refine wpAnyH_done (by kernel_rfl) ?_ _
        have g9 := gr_set (gr_refl w8 (some w.heap.size)) (p := ⟨w.heap.size, 0, none⟩) (.inl rfl) (.slice A n c)
        have rz9 := rd_newer rz8 hlo' g9 (by omega) (by omega)
        have O9 := own_gr O8 g9 (by omega)
        have L9 := bl_setb (b := w.heap.size) (j := 0) (bl_gr L1 G8 (fun k e => by cases e; omega)) (Nat.le_refl _) (.slice A n c)
        have R9 := R8.set_ 0 (.slice A n c)
        have s9 := g9.size
        clear X8 R8 G8 rz8 O8 hc8
        go_wp2_with fail
        exact bodyPost_ret (res_cellT2 rfl _ _ _ _ _ _ rfl R9 Try.underlying30 (by kernel_rfl)) rfl ⟨⟨A, n, c, zs, A6, c6, m, _, rfl, ⟨hzn, hn2, HM.out⟩, ⟨y, rfl, hy2⟩, htx, rz9.more (by omega), (Row.mk O9).reads⟩, L9⟩
      · go_simp
        go_wp2_with fail
        refine hK.out _ _ (X5.alloc _) (fun hHeld => ?_)
        clear hK K
        try simp only [Act.put, List.setIfInBounds_toArray, List.set_cons_zero, List.set_cons_succ]
        have P6 := Blk.new w5 3 #[.int .i64 97, .int .i64 98, .int .i64 99, .int .i64 49]
        have a6 := alloc_size w5 (.cells #[.int .i64 97, .int .i64 98, .int .i64 99, .int .i64 49] 3)
        have X6 := X5.alloc (.cells #[.int .i64 97, .int .i64 98, .int .i64 99, .int .i64 49] 3)
        have R6 := R5.alloc (.cells #[.int .i64 97, .int .i64 98, .int .i64 99, .int .i64 49] 3)
        have C6 := C5.alloc (.cells #[.int .i64 97, .int .i64 98, .int .i64 99, .int .i64 49] 3)
        have G6 := gr_alloc G5 (.cells #[.int .i64 97, .int .i64 98, .int .i64 99, .int .i64 49] 3)
        have Z6 := Z5.alloc (by omega) (.cells #[.int .i64 97, .int .i64 98, .int .i64 99, .int .i64 49] 3)
        have O6 := O5.alloc (.cells #[.int .i64 97, .int .i64 98, .int .i64 99, .int .i64 49] 3)
        have Q6 := Q5.alloc (.cells #[.int .i64 97, .int .i64 98, .int .i64 99, .int .i64 49] 3)
        have hpv : some w5.heap.size ≠ v.ownBlock := fun e => by have := (O5.lt _ e.symm).2; omega
        clear hHeld X5 R5 C5 G5 Z5 O5 Q5
        have hp : bx < w5.heap.size := b5
        generalize w5.alloc (.cells #[.int .i64 97, .int .i64 98, .int .i64 99, .int .i64 49] 3) = w6 at P6 X6 R6 C6 G6 Z6 a6 O6 Q6 hpv ⊢
        have b6 : bx < w6.heap.size := by omega
        have ha6 := Lib.hid a6
        clear a6
        obtain ⟨p, hq6⟩ : ∃ p, w5.heap.size = p := ⟨_, rfl⟩
        rw [hq6] at P6 hp hpv
        try rw [hq6]
        try simp only [hq6]
        have hqq6 := Lib.hid hq6
        clear hq6
        have hHeld := X6
        refine wpAnyH_ready (rs := [5]) (by kernel_rfl) (by simp) ?_
        refine AllReadyH.cons (o := ⟨some 16, _, _, _, _, _⟩) rfl (fun K hK => ?_) AllReadyH.nil
        refine step_append_any _ rfl (.tmp 14) (.tmp 15) 25 rfl (bx + 1) 3 i0 (.int .i64 0) 1 8 Try.underlying25 hi0 hz0 hz1 hz2 rfl (by decide) v l.length (zints l) rfl O6 (q + 1) _ 1 1 [.int .i64 0] rfl (rd_blk1 Q6) (fun u hu => by obtain rfl := List.mem_singleton.1 hu; rfl) (by have := hlk.out; unfold maxLen; omega) (by have := hlk.out; omega) (by omega) ?_
        intro v6 w7 O7 gA _
        rw [zints_snoc] at O7
        have hb := fun k (e : some k = _) => (O6.lt k e.symm).1
        have X7 := X6.grown gA (fun e => by have := hb _ e; omega)
        have R7 := R6.grown gA (fun e => by have := hb _ e; omega)
        have C7 := C6.far gA (fun k e => by have := hb k e.symm; omega)
        have G7 : w1.grownBy w7 (some g) := gr_chain G6 (.inr fun k e => by have := hb k e.symm; omega) gA
        have Z7 := Z6.grown gA (by omega) (fun k e => by have := hb k e.symm; omega)
        have t7 := gA.size
        have P7 := P6.grown gA hpv
        obtain ⟨m, hm⟩ : ∃ m, l ++ [0] = m := ⟨_, rfl⟩
        have hml : l.length + 1 = m.length := by rw [← hm, List.length_append]; rfl
        rw [hm, hml] at O7
        have HM := Lib.hid (show m.length ≤ 4 by have := hlk.out; omega)
        obtain ⟨A6, c6, rfl⟩ := (Row.mk O7).form
        have b7 : bx < w7.heap.size := by omega
        clear hb hm hml X6 R6 C6 G6 Z6 O6 Q6 gA
        refine hK.out _ _ (X7) (fun hHeld => ?_)
        clear hK K
        try simp only [Act.put, List.setIfInBounds_toArray, List.set_cons_zero, List.set_cons_succ]
        refine wpAnyH_ready (rs := [8]) (by kernel_rfl) (by simp) ?_
        refine AllReadyH.cons (o := ⟨some 19, _, _, _, _, _⟩) rfl (fun K hK => ?_) AllReadyH.nil
        go_simp
        refine (dInt w.heap.size g p 4 [97, 98, 99, 49] _ C7 rfl (by omega) (by omega) P7 (by omega)).mono ?_; rintro e w8 ⟨⟨y, rfl, hy⟩, hc8, g'⟩
        have t8 := g'.size
        have X8 := X7.grown g' hxg
        have R8 := R7.grown g' hrg
        have G8 := gr_trans G7 g'
        have rz8 := rd_newer Z7 hlo' g' (Nat.lt_succ_self _) (by omega)
        have O8 := own_gr O7 g' (by omega)
        have hy2 : 0 ≤ y ∧ y < 256 := by simp only [List.mem_cons, List.not_mem_nil, or_false] at hy; omega
        have ey : IntKind.u8.wrap y = y := by rw [IntKind.wrap_u8]; omega
        clear hy X7 R7 C7 G7 Z7 O7 P7 g'
        go_wp2_with fail
        refine hK.out _ _ (X8) (fun hHeld => ?_)
        clear hK K
        try simp only [Act.put, List.setIfInBounds_toArray, List.set_cons_zero, List.set_cons_succ]
        refine wpAnyH_take (i := 9) (oi := ⟨some 20, _, _, _, _, _⟩) (v := ?_) rfl (by kernel_rfl) (by kernel_rfl) (by kernel_rfl) (fun _ _ _ h => h) (Or.inl ⟨by rfl, ?_⟩) (by assumption) ?_
        case refine_2 => (intro w hSw; skip; go_simp; first | done | with_reducible rfl)
        simp only [Act.put, List.setIfInBounds_toArray, List.set_cons_zero, List.set_cons_succ]
        have f8 := R8.frozen
        have p8 := R8.cell
        refine wpAnyH_ready (rs := [10]) (by kernel_rfl) (by simp) ?_
        refine AllReadyH.cons (o := ⟨none, _, _, _, _, _⟩) rfl (fun K hK => ?_) AllReadyH.nil
        go_simp
        go_wp2_with fail
        refine hK.out _ _ (X8.farb (by omega) _) (fun hHeld => ?_)
        clear hK K
        try simp only [Act.put, List.setIfInBounds_toArray, List.set_cons_zero, List.set_cons_succ]
        clear p8 f8
        refine wpAnyH_take (i := 11) (oi := ⟨some 3, _, _, _, _, _⟩) (v := ?_) rfl (by kernel_rfl) (by kernel_rfl) (by kernel_rfl) (fun _ _ _ h => h) (Or.inl ⟨by rfl, ?_⟩) (by assumption) ?_
        case refine_2 => (intro w hSw; skip; go_simp; first | done | with_reducible rfl)
        simp only [Act.put, List.setIfInBounds_toArray, List.set_cons_zero, List.set_cons_succ]
        refine wpAnyH_take (i := 12) (oi := ⟨some 4, _, _, _, _, _⟩) (v := ?_) rfl (by kernel_rfl) (by kernel_rfl) (by kernel_rfl) (fun _ _ _ h => h) (Or.inl ⟨by rfl, ?_⟩) (by assumption) ?_
        case refine_2 => (intro w hSw; skip; go_simp; first | done | with_reducible rfl)
        simp only [Act.put, List.setIfInBounds_toArray, List.set_cons_zero, List.set_cons_succ]
        refine wpAnyH_done (by kernel_rfl) ?_ _
        have g9 := gr_set (gr_refl w8 (some w.heap.size)) (p := ⟨w.heap.size, 0, none⟩) (.inl rfl) (.slice A n c)
        have rz9 := rd_newer rz8 hlo' g9 (by omega) (by omega)
        have O9 := own_gr O8 g9 (by omega)
        have L9 := bl_setb (b := w.heap.size) (j := 0) (bl_gr L1 G8 (fun k e => by cases e; omega)) (Nat.le_refl _) (.slice A n c)
        have R9 := R8.set_ 0 (.slice A n c)
        have s9 := g9.size
        clear X8 R8 G8 rz8 O8 hc8
        go_wp2_with fail
        exact bodyPost_ret (res_cellT2 rfl _ _ _ _ _ _ rfl R9 Try.underlying30 (by kernel_rfl)) rfl ⟨⟨A, n, c, zs, A6, c6, m, _, rfl, ⟨hzn, hn2, HM.out⟩, ⟨y, rfl, hy2⟩, htx, rz9.more (by omega), (Row.mk O9).reads⟩, L9⟩
    · go_simp
      go_wp2_with fail
      refine hK.out _ _ (X4.alloc _) (fun hHeld => ?_)
      clear hK K
      try simp only [Act.put, List.setIfInBounds_toArray, List.set_cons_zero, List.set_cons_succ]
      have P5 := Blk.new w4 3 #[.int .i64 97, .int .i64 98, .int .i64 99, .int .i64 49]
      have a5 := alloc_size w4 (.cells #[.int .i64 97, .int .i64 98, .int .i64 99, .int .i64 49] 3)
      have X5 := X4.alloc (.cells #[.int .i64 97, .int .i64 98, .int .i64 99, .int .i64 49] 3)
      have R5 := R4.alloc (.cells #[.int .i64 97, .int .i64 98, .int .i64 99, .int .i64 49] 3)
      have C5 := C4.alloc (.cells #[.int .i64 97, .int .i64 98, .int .i64 99, .int .i64 49] 3)
      have G5 := gr_alloc G4 (.cells #[.int .i64 97, .int .i64 98, .int .i64 99, .int .i64 49] 3)
      have Z5 := Z4.alloc (by omega) (.cells #[.int .i64 97, .int .i64 98, .int .i64 99, .int .i64 49] 3)
      have O5 := O4.alloc (.cells #[.int .i64 97, .int .i64 98, .int .i64 99, .int .i64 49] 3)
      have hpv : some w4.heap.size ≠ v.ownBlock := fun e => by have := (O4.lt _ e.symm).2; omega
      clear hHeld X4 R4 C4 G4 Z4 O4
      have hp : bx < w4.heap.size := b4
      generalize w4.alloc (.cells #[.int .i64 97, .int .i64 98, .int .i64 99, .int .i64 49] 3) = w5 at P5 X5 R5 C5 G5 Z5 a5 O5 hpv ⊢
      have b5 : bx < w5.heap.size := by omega
      have ha5 := Lib.hid a5
      clear a5
      obtain ⟨p, hq5⟩ : ∃ p, w4.heap.size = p := ⟨_, rfl⟩
      rw [hq5] at P5 hp hpv
      try rw [hq5]
      try simp only [hq5]
      have hqq5 := Lib.hid hq5
      clear hq5
      have hHeld := X5
      refine wpAnyH_ready (rs := [4]) (by kernel_rfl) (by simp) ?_
      refine AllReadyH.cons (o := ⟨some 15, _, _, _, _, _⟩) rfl (fun K hK => ?_) AllReadyH.nil
      go_simp
      go_wp2_with fail
      refine hK.out _ _ (X5.alloc _) (fun hHeld => ?_)
      clear hK K
      try simp only [Act.put, List.setIfInBounds_toArray, List.set_cons_zero, List.set_cons_succ]
      have Q6 := Blk.new w5 3 #[.int .i64 0]
      have a6 := alloc_size w5 (.cells #[.int .i64 0] 3)
      have X6 := X5.alloc (.cells #[.int .i64 0] 3)
      have R6 := R5.alloc (.cells #[.int .i64 0] 3)
      have C6 := C5.alloc (.cells #[.int .i64 0] 3)
      have G6 := gr_alloc G5 (.cells #[.int .i64 0] 3)
      have Z6 := Z5.alloc (by omega) (.cells #[.int .i64 0] 3)
      have O6 := O5.alloc (.cells #[.int .i64 0] 3)
      have P6 := P5.alloc (.cells #[.int .i64 0] 3)
      clear hHeld X5 R5 C5 G5 Z5 O5 P5
      have hq : bx < w5.heap.size := b5
      generalize w5.alloc (.cells #[.int .i64 0] 3) = w6 at Q6 X6 R6 C6 G6 Z6 a6 O6 P6 ⊢
      have b6 : bx < w6.heap.size := by omega
      have ha6 := Lib.hid a6
      clear a6
      obtain ⟨q, hq6⟩ : ∃ q, w5.heap.size = q := ⟨_, rfl⟩
      rw [hq6] at Q6 hq
      try rw [hq6]
      try simp only [hq6]
      have hqq6 := Lib.hid hq6
      clear hq6
      have hHeld := X6
      refine wpAnyH_ready (rs := [5]) (by kernel_rfl) (by simp) ?_
      refine AllReadyH.cons (o := ⟨some 16, _, _, _, _, _⟩) rfl (fun K hK => ?_) AllReadyH.nil
      refine step_append_any _ rfl (.tmp 14) (.tmp 15) 25 rfl (bx + 1) 3 i0 (.int .i64 0) 1 8 Try.underlying25 hi0 hz0 hz1 hz2 rfl (by decide) v l.length (zints l) rfl O6 (q + 1) _ 1 1 [.int .i64 0] rfl (rd_blk1 Q6) (fun u hu => by obtain rfl := List.mem_singleton.1 hu; rfl) (by have := hlk.out; unfold maxLen; omega) (by have := hlk.out; omega) (by omega) ?_
      intro v6 w7 O7 gA _
      rw [zints_snoc] at O7
      have hb := fun k (e : some k = _) => (O6.lt k e.symm).1
      have X7 := X6.grown gA (fun e => by have := hb _ e; omega)
      have R7 := R6.grown gA (fun e => by have := hb _ e; omega)
      have C7 := C6.far gA (fun k e => by have := hb k e.symm; omega)
      have G7 : w1.grownBy w7 (some g) := gr_chain G6 (.inr fun k e => by have := hb k e.symm; omega) gA
      have Z7 := Z6.grown gA (by omega) (fun k e => by have := hb k e.symm; omega)
      have t7 := gA.size
      have P7 := P6.grown gA hpv
      obtain ⟨m, hm⟩ : ∃ m, l ++ [0] = m := ⟨_, rfl⟩
      have hml : l.length + 1 = m.length := by rw [← hm, List.length_append]; rfl
      rw [hm, hml] at O7
      have HM := Lib.hid (show m.length ≤ 4 by have := hlk.out; omega)
      obtain ⟨A6, c6, rfl⟩ := (Row.mk O7).form
      have b7 : bx < w7.heap.size := by omega
      clear hb hm hml X6 R6 C6 G6 Z6 O6 Q6 gA
      refine hK.out _ _ (X7) (fun hHeld => ?_)
      clear hK K
      try simp only [Act.put, List.setIfInBounds_toArray, List.set_cons_zero, List.set_cons_succ]
      refine wpAnyH_ready (rs := [8]) (by kernel_rfl) (by simp) ?_
      refine AllReadyH.cons (o := ⟨some 19, _, _, _, _, _⟩) rfl (fun K hK => ?_) AllReadyH.nil
      go_simp
      refine (dInt w.heap.size g p 4 [97, 98, 99, 49] _ C7 rfl (by omega) (by omega) P7 (by omega)).mono ?_; rintro e w8 ⟨⟨y, rfl, hy⟩, hc8, g'⟩
      have t8 := g'.size
      have X8 := X7.grown g' hxg
      have R8 := R7.grown g' hrg
      have G8 := gr_trans G7 g'
      have rz8 := rd_newer Z7 hlo' g' (Nat.lt_succ_self _) (by omega)
      have O8 := own_gr O7 g' (by omega)
      have hy2 : 0 ≤ y ∧ y < 256 := by simp only [List.mem_cons, List.not_mem_nil, or_false] at hy; omega
      have ey : IntKind.u8.wrap y = y := by rw [IntKind.wrap_u8]; omega
      clear hy X7 R7 C7 G7 Z7 O7 P7 g'
      go_wp2_with fail
      refine hK.out _ _ (X8) (fun hHeld => ?_)
      clear hK K
      try simp only [Act.put, List.setIfInBounds_toArray, List.set_cons_zero, List.set_cons_succ]
      refine wpAnyH_take (i := 9) (oi := ⟨some 20, _, _, _, _, _⟩) (v := ?_) rfl (by kernel_rfl) (by kernel_rfl) (by kernel_rfl) (fun _ _ _ h => h) (Or.inl ⟨by rfl, ?_⟩) (by assumption) ?_
      case refine_2 => (intro w hSw; skip; go_simp; first | done | with_reducible rfl)
      simp only [Act.put, List.setIfInBounds_toArray, List.set_cons_zero, List.set_cons_succ]
      have f8 := R8.frozen
      have p8 := R8.cell
      refine wpAnyH_ready (rs := [10]) (by kernel_rfl) (by simp) ?_
      refine AllReadyH.cons (o := ⟨none, _, _, _, _, _⟩) rfl (fun K hK => ?_) AllReadyH.nil
      go_simp
      go_wp2_with fail
      refine hK.out _ _ (X8.farb (by omega) _) (fun hHeld => ?_)
      clear hK K
      try simp only [Act.put, List.setIfInBounds_toArray, List.set_cons_zero, List.set_cons_succ]
      clear p8 f8
      refine wpAnyH_take (i := 11) (oi := ⟨some 3, _, _, _, _, _⟩) (v := ?_) rfl (by kernel_rfl) (by kernel_rfl) (by kernel_rfl) (fun _ _ _ h => h) (Or.inl ⟨by rfl, ?_⟩) (by assumption) ?_
      case refine_2 => (intro w hSw; skip; go_simp; first | done | with_reducible rfl)
      simp only [Act.put, List.setIfInBounds_toArray, List.set_cons_zero, List.set_cons_succ]
      refine wpAnyH_take (i := 12) (oi := ⟨some 4, _, _, _, _, _⟩) (v := ?_) rfl (by kernel_rfl) (by kernel_rfl) (by kernel_rfl) (fun _ _ _ h => h) (Or.inl ⟨by rfl, ?_⟩) (by assumption) ?_
      case refine_2 => (intro w hSw; skip; go_simp; first | done | with_reducible rfl)
      simp only [Act.put, List.setIfInBounds_toArray, List.set_cons_zero, List.set_cons_succ]
      refine wpAnyH_done (by kernel_rfl) ?_ _
      have g9 := gr_set (gr_refl w8 (some w.heap.size)) (p := ⟨w.heap.size, 0, none⟩) (.inl rfl) (.slice A n c)
      have rz9 := rd_newer rz8 hlo' g9 (by omega) (by omega)
      have O9 := own_gr O8 g9 (by omega)
      have L9 := bl_setb (b := w.heap.size) (j := 0) (bl_gr L1 G8 (fun k e => by cases e; omega)) (Nat.le_refl _) (.slice A n c)
      have R9 := R8.set_ 0 (.slice A n c)
      have s9 := g9.size
      clear X8 R8 G8 rz8 O8 hc8
      go_wp2_with fail
      exact bodyPost_ret (res_cellT2 rfl _ _ _ _ _ _ rfl R9 Try.underlying30 (by kernel_rfl)) rfl ⟨⟨A, n, c, zs, A6, c6, m, _, rfl, ⟨hzn, hn2, HM.out⟩, ⟨y, rfl, hy2⟩, htx, rz9.more (by omega), (Row.mk O9).reads⟩, L9⟩
  · go_simp
    go_wp2_with fail
    refine hK.out _ _ (X3.alloc _) (fun hHeld => ?_)
    clear hK K
    try simp only [Act.put, List.setIfInBounds_toArray, List.set_cons_zero, List.set_cons_succ]
    have Q4 := Blk.new w0 3 #[.int .i64 0]
    have a4 := alloc_size w0 (.cells #[.int .i64 0] 3)
    have X4 := X3.alloc (.cells #[.int .i64 0] 3)
    have R4 := R3.alloc (.cells #[.int .i64 0] 3)
    have C4 := C3.alloc (.cells #[.int .i64 0] 3)
    have G4 := gr_alloc G3 (.cells #[.int .i64 0] 3)
    have Z4 := Z3.alloc (by omega) (.cells #[.int .i64 0] 3)
    clear hHeld X3 R3 C3 G3 Z3
    have hq : bx < w0.heap.size := b3
    generalize w0.alloc (.cells #[.int .i64 0] 3) = w4 at Q4 X4 R4 C4 G4 Z4 a4 ⊢
    have b4 : bx < w4.heap.size := by omega
    have ha4 := Lib.hid a4
    clear a4
    obtain ⟨q, hq4⟩ : ∃ q, w0.heap.size = q := ⟨_, rfl⟩
    rw [hq4] at Q4 hq
    try rw [hq4]
    try simp only [hq4]
    have hqq4 := Lib.hid hq4
    clear hq4
    have hHeld := X4
    refine wpAnyH_ready (rs := [3, 7]) (by kernel_rfl) (by simp) ?_
    refine AllReadyH.cons (o := ⟨some 14, _, _, _, _, _⟩) rfl (fun K hK => ?_) (AllReadyH.cons (o := ⟨some 18, _, _, _, _, _⟩) rfl (fun K hK => ?_) AllReadyH.nil)
    · go_simp
      refine (dList w.heap.size g A n c _ C4 hn2).mono ?_; rintro e w5 ⟨⟨v, l, rfl, hl3, O'⟩, C5, g'⟩
      have hlk := Lib.hid hl3
      clear hl3
      have t5 := g'.size
      have X5 := X4.grown g' hxg
      have R5 := R4.grown g' hrg
      have G5 := gr_trans G4 g'
      have Z5 := rd_newer Z4 hlo' g' (Nat.lt_succ_self _) (by omega)
      have O5 : w5.ownsRow (bx + 1) 3 1 v l.length (zints l) := own_base O'.1 (by omega)
      have Q5 := Q4.grown g' (by intro e; have := Option.some.inj e; omega)
      have b5 : bx < w5.heap.size := by omega
      clear O' g'
      go_wp2_with fail
      refine hK.out _ _ (X5) (fun hHeld => ?_)
      clear hK K
      try simp only [Act.put, List.setIfInBounds_toArray, List.set_cons_zero, List.set_cons_succ]
      refine wpAnyH_ready (rs := [5, 7]) (by kernel_rfl) (by simp) ?_
      refine AllReadyH.cons (o := ⟨some 16, _, _, _, _, _⟩) rfl (fun K hK => ?_) (AllReadyH.cons (o := ⟨some 18, _, _, _, _, _⟩) rfl (fun K hK => ?_) AllReadyH.nil)
      · refine step_append_any _ rfl (.tmp 14) (.tmp 15) 25 rfl (bx + 1) 3 i0 (.int .i64 0) 1 8 Try.underlying25 hi0 hz0 hz1 hz2 rfl (by decide) v l.length (zints l) rfl O5 (q + 1) _ 1 1 [.int .i64 0] rfl (rd_blk1 Q5) (fun u hu => by obtain rfl := List.mem_singleton.1 hu; rfl) (by have := hlk.out; unfold maxLen; omega) (by have := hlk.out; omega) (by omega) ?_
        intro v6 w6 O6 gA _
        rw [zints_snoc] at O6
        have hb := fun k (e : some k = _) => (O5.lt k e.symm).1
        have X6 := X5.grown gA (fun e => by have := hb _ e; omega)
        have R6 := R5.grown gA (fun e => by have := hb _ e; omega)
        have C6 := C5.far gA (fun k e => by have := hb k e.symm; omega)
        have G6 : w1.grownBy w6 (some g) := gr_chain G5 (.inr fun k e => by have := hb k e.symm; omega) gA
        have Z6 := Z5.grown gA (by omega) (fun k e => by have := hb k e.symm; omega)
        have t6 := gA.size
        obtain ⟨m, hm⟩ : ∃ m, l ++ [0] = m := ⟨_, rfl⟩
        have hml : l.length + 1 = m.length := by rw [← hm, List.length_append]; rfl
        rw [hm, hml] at O6
        have HM := Lib.hid (show m.length ≤ 4 by have := hlk.out; omega)
        obtain ⟨A6, c6, rfl⟩ := (Row.mk O6).form
        have b6 : bx < w6.heap.size := by omega
        clear hb hm hml X5 R5 C5 G5 Z5 O5 Q5 gA
        refine hK.out _ _ (X6) (fun hHeld => ?_)
        clear hK K
        try simp only [Act.put, List.setIfInBounds_toArray, List.set_cons_zero, List.set_cons_succ]
        refine wpAnyH_ready (rs := [7]) (by kernel_rfl) (by simp) ?_
        refine AllReadyH.cons (o := ⟨some 18, _, _, _, _, _⟩) rfl (fun K hK => ?_) AllReadyH.nil
        go_simp
        go_wp2_with fail
        refine hK.out _ _ (X6.alloc _) (fun hHeld => ?_)
        clear hK K
        try simp only [Act.put, List.setIfInBounds_toArray, List.set_cons_zero, List.set_cons_succ]
        have P7 := Blk.new w6 3 #[.int .i64 97, .int .i64 98, .int .i64 99, .int .i64 49]
        have a7 := alloc_size w6 (.cells #[.int .i64 97, .int .i64 98, .int .i64 99, .int .i64 49] 3)
        have X7 := X6.alloc (.cells #[.int .i64 97, .int .i64 98, .int .i64 99, .int .i64 49] 3)
        have R7 := R6.alloc (.cells #[.int .i64 97, .int .i64 98, .int .i64 99, .int .i64 49] 3)
        have C7 := C6.alloc (.cells #[.int .i64 97, .int .i64 98, .int .i64 99, .int .i64 49] 3)
        have G7 := gr_alloc G6 (.cells #[.int .i64 97, .int .i64 98, .int .i64 99, .int .i64 49] 3)
        have Z7 := Z6.alloc (by omega) (.cells #[.int .i64 97, .int .i64 98, .int .i64 99, .int .i64 49] 3)
        have O7 := O6.alloc (.cells #[.int .i64 97, .int .i64 98, .int .i64 99, .int .i64 49] 3)
        clear hHeld X6 R6 C6 G6 Z6 O6
        have hp : bx < w6.heap.size := b6
        generalize w6.alloc (.cells #[.int .i64 97, .int .i64 98, .int .i64 99, .int .i64 49] 3) = w7 at P7 X7 R7 C7 G7 Z7 a7 O7 ⊢
        have b7 : bx < w7.heap.size := by omega
        have ha7 := Lib.hid a7
        clear a7
        obtain ⟨p, hq7⟩ : ∃ p, w6.heap.size = p := ⟨_, rfl⟩
        rw [hq7] at P7 hp
        try rw [hq7]
        try simp only [hq7]
        have hqq7 := Lib.hid hq7
        clear hq7
        have hHeld := X7
        refine wpAnyH_ready (rs := [8]) (by kernel_rfl) (by simp) ?_
        refine AllReadyH.cons (o := ⟨some 19, _, _, _, _, _⟩) rfl (fun K hK => ?_) AllReadyH.nil
        go_simp
        refine (dInt w.heap.size g p 4 [97, 98, 99, 49] _ C7 rfl (by omega) (by omega) P7 (by omega)).mono ?_; rintro e w8 ⟨⟨y, rfl, hy⟩, hc8, g'⟩
        have t8 := g'.size
        have X8 := X7.grown g' hxg
        have R8 := R7.grown g' hrg
        have G8 := gr_trans G7 g'
        have rz8 := rd_newer Z7 hlo' g' (Nat.lt_succ_self _) (by omega)
        have O8 := own_gr O7 g' (by omega)
        have hy2 : 0 ≤ y ∧ y < 256 := by simp only [List.mem_cons, List.not_mem_nil, or_false] at hy; omega
        have ey : IntKind.u8.wrap y = y := by rw [IntKind.wrap_u8]; omega
        clear hy X7 R7 C7 G7 Z7 O7 P7 g'
        go_wp2_with fail
        refine hK.out _ _ (X8) (fun hHeld => ?_)
        clear hK K
        try simp only [Act.put, List.setIfInBounds_toArray, List.set_cons_zero, List.set_cons_succ]
        refine wpAnyH_take (i := 9) (oi := ⟨some 20, _, _, _, _, _⟩) (v := ?_) rfl (by kernel_rfl) (by kernel_rfl) (by kernel_rfl) (fun _ _ _ h => h) (Or.inl ⟨by rfl, ?_⟩) (by assumption) ?_
        case refine_2 => (intro w hSw; skip; go_simp; first | done | with_reducible rfl)
        simp only [Act.put, List.setIfInBounds_toArray, List.set_cons_zero, List.set_cons_succ]
        have f8 := R8.frozen
        have p8 := R8.cell
        refine wpAnyH_ready (rs := [10]) (by kernel_rfl) (by simp) ?_
        refine AllReadyH.cons (o := ⟨none, _, _, _, _, _⟩) rfl (fun K hK => ?_) AllReadyH.nil
        go_simp
        go_wp2_with fail
        refine hK.out _ _ (X8.farb (by omega) _) (fun hHeld => ?_)
        clear hK K
        try simp only [Act.put, List.setIfInBounds_toArray, List.set_cons_zero, List.set_cons_succ]
        clear p8 f8
        refine wpAnyH_take (i := 11) (oi := ⟨some 3, _, _, _, _, _⟩) (v := ?_) rfl (by kernel_rfl) (by kernel_rfl) (by kernel_rfl) (fun _ _ _ h => h) (Or.inl ⟨by rfl, ?_⟩) (by assumption) ?_
        case refine_2 => (intro w hSw; skip; go_simp; first | done | with_reducible rfl)
        simp only [Act.put, List.setIfInBounds_toArray, List.set_cons_zero, List.set_cons_succ]
        refine wpAnyH_take (i := 12) (oi := ⟨some 4, _, _, _, _, _⟩) (v := ?_) rfl (by kernel_rfl) (by kernel_rfl) (by kernel_rfl) (fun _ _ _ h => h) (Or.inl ⟨by rfl, ?_⟩) (by assumption) ?_
        case refine_2 => (intro w hSw; skip; go_simp; first | done | with_reducible rfl)
        simp only [Act.put, List.setIfInBounds_toArray, List.set_cons_zero, List.set_cons_succ]
        refine wpAnyH_done (by kernel_rfl) ?_ _
        have g9 := gr_set (gr_refl w8 (some w.heap.size)) (p := ⟨w.heap.size, 0, none⟩) (.inl rfl) (.slice A n c)
        have rz9 := rd_newer rz8 hlo' g9 (by omega) (by omega)
        have O9 := own_gr O8 g9 (by omega)
        have L9 := bl_setb (b := w.heap.size) (j := 0) (bl_gr L1 G8 (fun k e => by cases e; omega)) (Nat.le_refl _) (.slice A n c)
        have R9 := R8.set_ 0 (.slice A n c)
        have s9 := g9.size
        clear X8 R8 G8 rz8 O8 hc8
        go_wp2_with fail
        exact bodyPost_ret (res_cellT2 rfl _ _ _ _ _ _ rfl R9 Try.underlying30 (by kernel_rfl)) rfl ⟨⟨A, n, c, zs, A6, c6, m, _, rfl, ⟨hzn, hn2, HM.out⟩, ⟨y, rfl, hy2⟩, htx, rz9.more (by omega), (Row.mk O9).reads⟩, L9⟩
      · go_simp
        go_wp2_with fail
        refine hK.out _ _ (X5.alloc _) (fun hHeld => ?_)
        clear hK K
        try simp only [Act.put, List.setIfInBounds_toArray, List.set_cons_zero, List.set_cons_succ]
        have P6 := Blk.new w5 3 #[.int .i64 97, .int .i64 98, .int .i64 99, .int .i64 49]
        have a6 := alloc_size w5 (.cells #[.int .i64 97, .int .i64 98, .int .i64 99, .int .i64 49] 3)
        have X6 := X5.alloc (.cells #[.int .i64 97, .int .i64 98, .int .i64 99, .int .i64 49] 3)
        have R6 := R5.alloc (.cells #[.int .i64 97, .int .i64 98, .int .i64 99, .int .i64 49] 3)
        have C6 := C5.alloc (.cells #[.int .i64 97, .int .i64 98, .int .i64 99, .int .i64 49] 3)
        have G6 := gr_alloc G5 (.cells #[.int .i64 97, .int .i64 98, .int .i64 99, .int .i64 49] 3)
        have Z6 := Z5.alloc (by omega) (.cells #[.int .i64 97, .int .i64 98, .int .i64 99, .int .i64 49] 3)
        have O6 := O5.alloc (.cells #[.int .i64 97, .int .i64 98, .int .i64 99, .int .i64 49] 3)
        have Q6 := Q5.alloc (.cells #[.int .i64 97, .int .i64 98, .int .i64 99, .int .i64 49] 3)
        have hpv : some w5.heap.size ≠ v.ownBlock := fun e => by have := (O5.lt _ e.symm).2; omega
        clear hHeld X5 R5 C5 G5 Z5 O5 Q5
        have hp : bx < w5.heap.size := b5
        generalize w5.alloc (.cells #[.int .i64 97, .int .i64 98, .int .i64 99, .int .i64 49] 3) = w6 at P6 X6 R6 C6 G6 Z6 a6 O6 Q6 hpv ⊢
        have b6 : bx < w6.heap.size := by omega
        have ha6 := Lib.hid a6
        clear a6
        obtain ⟨p, hq6⟩ : ∃ p, w5.heap.size = p := ⟨_, rfl⟩
        rw [hq6] at P6 hp hpv
        try rw [hq6]
        try simp only [hq6]
        have hqq6 := Lib.hid hq6
        clear hq6
        have hHeld := X6
        refine wpAnyH_ready (rs := [5]) (by kernel_rfl) (by simp) ?_
        refine AllReadyH.cons (o := ⟨some 16, _, _, _, _, _⟩) rfl (fun K hK => ?_) AllReadyH.nil
        refine step_append_any _ rfl (.tmp 14) (.tmp 15) 25 rfl (bx + 1) 3 i0 (.int .i64 0) 1 8 Try.underlying25 hi0 hz0 hz1 hz2 rfl (by decide) v l.length (zints l) rfl O6 (q + 1) _ 1 1 [.int .i64 0] rfl (rd_blk1 Q6) (fun u hu => by obtain rfl := List.mem_singleton.1 hu; rfl) (by have := hlk.out; unfold maxLen; omega) (by have := hlk.out; omega) (by omega) ?_
        intro v6 w7 O7 gA _
        rw [zints_snoc] at O7
        have hb := fun k (e : some k = _) => (O6.lt k e.symm).1
        have X7 := X6.grown gA (fun e => by have := hb _ e; omega)
        have R7 := R6.grown gA (fun e => by have := hb _ e; omega)
        have C7 := C6.far gA (fun k e => by have := hb k e.symm; omega)
        have G7 : w1.grownBy w7 (some g) := gr_chain G6 (.inr fun k e => by have := hb k e.symm; omega) gA
        have Z7 := Z6.grown gA (by omega) (fun k e => by have := hb k e.symm; omega)
        have t7 := gA.size
        have P7 := P6.grown gA hpv
        obtain ⟨m, hm⟩ : ∃ m, l ++ [0] = m := ⟨_, rfl⟩
        have hml : l.length + 1 = m.length := by rw [← hm, List.length_append]; rfl
        rw [hm, hml] at O7
        have HM := Lib.hid (show m.length ≤ 4 by have := hlk.out; omega)
        obtain ⟨A6, c6, rfl⟩ := (Row.mk O7).form
        have b7 : bx < w7.heap.size := by omega
        clear hb hm hml X6 R6 C6 G6 Z6 O6 Q6 gA
        refine hK.out _ _ (X7) (fun hHeld => ?_)
        clear hK K
        try simp only [Act.put, List.setIfInBounds_toArray, List.set_cons_zero, List.set_cons_succ]
        refine wpAnyH_ready (rs := [8]) (by kernel_rfl) (by simp) ?_
        refine AllReadyH.cons (o := ⟨some 19, _, _, _, _, _⟩) rfl (fun K hK => ?_) AllReadyH.nil
        go_simp
        refine (dInt w.heap.size g p 4 [97, 98, 99, 49] _ C7 rfl (by omega) (by omega) P7 (by omega)).mono ?_; rintro e w8 ⟨⟨y, rfl, hy⟩, hc8, g'⟩
        have t8 := g'.size
        have X8 := X7.grown g' hxg
        have R8 := R7.grown g' hrg
        have G8 := gr_trans G7 g'
        have rz8 := rd_newer Z7 hlo' g' (Nat.lt_succ_self _) (by omega)
        have O8 := own_gr O7 g' (by omega)
        have hy2 : 0 ≤ y ∧ y < 256 := by simp only [List.mem_cons, List.not_mem_nil, or_false] at hy; omega
        have ey : IntKind.u8.wrap y = y := by rw [IntKind.wrap_u8]; omega
        clear hy X7 R7 C7 G7 Z7 O7 P7 g'
        go_wp2_with fail
        refine hK.out _ _ (X8) (fun hHeld => ?_)
        clear hK K
        try simp only [Act.put, List.setIfInBounds_toArray, List.set_cons_zero, List.set_cons_succ]
        refine wpAnyH_take (i := 9) (oi := ⟨some 20, _, _, _, _, _⟩) (v := ?_) rfl (by kernel_rfl) (by kernel_rfl) (by kernel_rfl) (fun _ _ _ h => h) (Or.inl ⟨by rfl, ?_⟩) (by assumption) ?_
        case refine_2 => (intro w hSw; skip; go_simp; first | done | with_reducible rfl)
        simp only [Act.put, List.setIfInBounds_toArray, List.set_cons_zero, List.set_cons_succ]
        have f8 := R8.frozen
        have p8 := R8.cell
        refine wpAnyH_ready (rs := [10]) (by kernel_rfl) (by simp) ?_
        refine AllReadyH.cons (o := ⟨none, _, _, _, _, _⟩) rfl (fun K hK => ?_) AllReadyH.nil
        go_simp
        go_wp2_with fail
        refine hK.out _ _ (X8.farb (by omega) _) (fun hHeld => ?_)
        clear hK K
        try simp only [Act.put, List.setIfInBounds_toArray, List.set_cons_zero, List.set_cons_succ]
        clear p8 f8
        refine wpAnyH_take (i := 11) (oi := ⟨some 3, _, _, _, _, _⟩) (v := ?_) rfl (by kernel_rfl) (by kernel_rfl) (by kernel_rfl) (fun _ _ _ h => h) (Or.inl ⟨by rfl, ?_⟩) (by assumption) ?_
        case refine_2 => (intro w hSw; skip; go_simp; first | done | with_reducible rfl)
        simp only [Act.put, List.setIfInBounds_toArray, List.set_cons_zero, List.set_cons_succ]
        refine wpAnyH_take (i := 12) (oi := ⟨some 4, _, _, _, _, _⟩) (v := ?_) rfl (by kernel_rfl) (by kernel_rfl) (by kernel_rfl) (fun _ _ _ h => h) (Or.inl ⟨by rfl, ?_⟩) (by assumption) ?_
        case refine_2 => (intro w hSw; skip; go_simp; first | done | with_reducible rfl)
        simp only [Act.put, List.setIfInBounds_toArray, List.set_cons_zero, List.set_cons_succ]
        refine wpAnyH_done (by kernel_rfl) ?_ _
        have g9 := gr_set (gr_refl w8 (some w.heap.size)) (p := ⟨w.heap.size, 0, none⟩) (.inl rfl) (.slice A n c)
        have rz9 := rd_newer rz8 hlo' g9 (by omega) (by omega)
        have O9 := own_gr O8 g9 (by omega)
        have L9 := bl_setb (b := w.heap.size) (j := 0) (bl_gr L1 G8 (fun k e => by cases e; omega)) (Nat.le_refl _) (.slice A n c)
        have R9 := R8.set_ 0 (.slice A n c)
        have s9 := g9.size
        clear X8 R8 G8 rz8 O8 hc8
        go_wp2_with fail
        exact bodyPost_ret (res_cellT2 rfl _ _ _ _ _ _ rfl R9 Try.underlying30 (by kernel_rfl)) rfl ⟨⟨A, n, c, zs, A6, c6, m, _, rfl, ⟨hzn, hn2, HM.out⟩, ⟨y, rfl, hy2⟩, htx, rz9.more (by omega), (Row.mk O9).reads⟩, L9⟩
    · go_simp
      go_wp2_with fail
      refine hK.out _ _ (X4.alloc _) (fun hHeld => ?_)
      clear hK K
      try simp only [Act.put, List.setIfInBounds_toArray, List.set_cons_zero, List.set_cons_succ]
      have P5 := Blk.new w4 3 #[.int .i64 97, .int .i64 98, .int .i64 99, .int .i64 49]
      have a5 := alloc_size w4 (.cells #[.int .i64 97, .int .i64 98, .int .i64 99, .int .i64 49] 3)
      have X5 := X4.alloc (.cells #[.int .i64 97, .int .i64 98, .int .i64 99, .int .i64 49] 3)
      have R5 := R4.alloc (.cells #[.int .i64 97, .int .i64 98, .int .i64 99, .int .i64 49] 3)
      have C5 := C4.alloc (.cells #[.int .i64 97, .int .i64 98, .int .i64 99, .int .i64 49] 3)
      have G5 := gr_alloc G4 (.cells #[.int .i64 97, .int .i64 98, .int .i64 99, .int .i64 49] 3)
      have Z5 := Z4.alloc (by omega) (.cells #[.int .i64 97, .int .i64 98, .int .i64 99, .int .i64 49] 3)
      have Q5 := Q4.alloc (.cells #[.int .i64 97, .int .i64 98, .int .i64 99, .int .i64 49] 3)
      clear hHeld X4 R4 C4 G4 Z4 Q4
      have hp : bx < w4.heap.size := b4
      generalize w4.alloc (.cells #[.int .i64 97, .int .i64 98, .int .i64 99, .int .i64 49] 3) = w5 at P5 X5 R5 C5 G5 Z5 a5 Q5 ⊢
      have b5 : bx < w5.heap.size := by omega
      have ha5 := Lib.hid a5
      clear a5
      obtain ⟨p, hq5⟩ : ∃ p, w4.heap.size = p := ⟨_, rfl⟩
      rw [hq5] at P5 hp
      try rw [hq5]
      try simp only [hq5]
      have hqq5 := Lib.hid hq5
      clear hq5
      have hHeld := X5
      refine wpAnyH_ready (rs := [3]) (by kernel_rfl) (by simp) ?_
      refine AllReadyH.cons (o := ⟨some 14, _, _, _, _, _⟩) rfl (fun K hK => ?_) AllReadyH.nil
      go_simp
      refine (dList w.heap.size g A n c _ C5 hn2).mono ?_; rintro e w6 ⟨⟨v, l, rfl, hl3, O'⟩, C6, g'⟩
      have hlk := Lib.hid hl3
      clear hl3
      have t6 := g'.size
      have X6 := X5.grown g' hxg
      have R6 := R5.grown g' hrg
      have G6 := gr_trans G5 g'
      have Z6 := rd_newer Z5 hlo' g' (Nat.lt_succ_self _) (by omega)
      have O6 : w6.ownsRow (bx + 1) 3 1 v l.length (zints l) := own_base O'.1 (by omega)
      have Q6 := Q5.grown g' (by intro e; have := Option.some.inj e; omega)
      have P6 := P5.grown g' (by intro e; have := Option.some.inj e; omega)
      have hpv : some p ≠ v.ownBlock := fun e => by have := (O'.1.lt p e.symm).1; have := P5.lt; omega
      have b6 : bx < w6.heap.size := by omega
      clear O' g'
      go_wp2_with fail
      refine hK.out _ _ (X6) (fun hHeld => ?_)
      clear hK K
      try simp only [Act.put, List.setIfInBounds_toArray, List.set_cons_zero, List.set_cons_succ]
      refine wpAnyH_ready (rs := [5]) (by kernel_rfl) (by simp) ?_
      refine AllReadyH.cons (o := ⟨some 16, _, _, _, _, _⟩) rfl (fun K hK => ?_) AllReadyH.nil
      refine step_append_any _ rfl (.tmp 14) (.tmp 15) 25 rfl (bx + 1) 3 i0 (.int .i64 0) 1 8 Try.underlying25 hi0 hz0 hz1 hz2 rfl (by decide) v l.length (zints l) rfl O6 (q + 1) _ 1 1 [.int .i64 0] rfl (rd_blk1 Q6) (fun u hu => by obtain rfl := List.mem_singleton.1 hu; rfl) (by have := hlk.out; unfold maxLen; omega) (by have := hlk.out; omega) (by omega) ?_
      intro v6 w7 O7 gA _
      rw [zints_snoc] at O7
      have hb := fun k (e : some k = _) => (O6.lt k e.symm).1
      have X7 := X6.grown gA (fun e => by have := hb _ e; omega)
      have R7 := R6.grown gA (fun e => by have := hb _ e; omega)
      have C7 := C6.far gA (fun k e => by have := hb k e.symm; omega)
      have G7 : w1.grownBy w7 (some g) := gr_chain G6 (.inr fun k e => by have := hb k e.symm; omega) gA
      have Z7 := Z6.grown gA (by omega) (fun k e => by have := hb k e.symm; omega)
      have t7 := gA.size
      have P7 := P6.grown gA hpv
      obtain ⟨m, hm⟩ : ∃ m, l ++ [0] = m := ⟨_, rfl⟩
      have hml : l.length + 1 = m.length := by rw [← hm, List.length_append]; rfl
      rw [hm, hml] at O7
      have HM := Lib.hid (show m.length ≤ 4 by have := hlk.out; omega)
      obtain ⟨A6, c6, rfl⟩ := (Row.mk O7).form
      have b7 : bx < w7.heap.size := by omega
      clear hb hm hml X6 R6 C6 G6 Z6 O6 Q6 gA
      refine hK.out _ _ (X7) (fun hHeld => ?_)
      clear hK K
      try simp only [Act.put, List.setIfInBounds_toArray, List.set_cons_zero, List.set_cons_succ]
      refine wpAnyH_ready (rs := [8]) (by kernel_rfl) (by simp) ?_
      refine AllReadyH.cons (o := ⟨some 19, _, _, _, _, _⟩) rfl (fun K hK => ?_) AllReadyH.nil
      go_simp
      refine (dInt w.heap.size g p 4 [97, 98, 99, 49] _ C7 rfl (by omega) (by omega) P7 (by omega)).mono ?_; rintro e w8 ⟨⟨y, rfl, hy⟩, hc8, g'⟩
      have t8 := g'.size
      have X8 := X7.grown g' hxg
      have R8 := R7.grown g' hrg
      have G8 := gr_trans G7 g'
      have rz8 := rd_newer Z7 hlo' g' (Nat.lt_succ_self _) (by omega)
      have O8 := own_gr O7 g' (by omega)
      have hy2 : 0 ≤ y ∧ y < 256 := by simp only [List.mem_cons, List.not_mem_nil, or_false] at hy; omega
      have ey : IntKind.u8.wrap y = y := by rw [IntKind.wrap_u8]; omega
      clear hy X7 R7 C7 G7 Z7 O7 P7 g'
      go_wp2_with fail
      refine hK.out _ _ (X8) (fun hHeld => ?_)
      clear hK K
      try simp only [Act.put, List.setIfInBounds_toArray, List.set_cons_zero, List.set_cons_succ]
      refine wpAnyH_take (i := 9) (oi := ⟨some 20, _, _, _, _, _⟩) (v := ?_) rfl (by kernel_rfl) (by kernel_rfl) (by kernel_rfl) (fun _ _ _ h => h) (Or.inl ⟨by rfl, ?_⟩) (by assumption) ?_
      case refine_2 => (intro w hSw; skip; go_simp; first | done | with_reducible rfl)
      simp only [Act.put, List.setIfInBounds_toArray, List.set_cons_zero, List.set_cons_succ]
      have f8 := R8.frozen
      have p8 := R8.cell
      refine wpAnyH_ready (rs := [10]) (by kernel_rfl) (by simp) ?_
      refine AllReadyH.cons (o := ⟨none, _, _, _, _, _⟩) rfl (fun K hK => ?_) AllReadyH.nil
      go_simp
      go_wp2_with fail
      refine hK.out _ _ (X8.farb (by omega) _) (fun hHeld => ?_)
      clear hK K
      try simp only [Act.put, List.setIfInBounds_toArray, List.set_cons_zero, List.set_cons_succ]
      clear p8 f8
      refine wpAnyH_take (i := 11) (oi := ⟨some 3, _, _, _, _, _⟩) (v := ?_) rfl (by kernel_rfl) (by kernel_rfl) (by kernel_rfl) (fun _ _ _ h => h) (Or.inl ⟨by rfl, ?_⟩) (by assumption) ?_
      case refine_2 => (intro w hSw; skip; go_simp; first | done | with_reducible rfl)
      simp only [Act.put, List.setIfInBounds_toArray, List.set_cons_zero, List.set_cons_succ]
      refine wpAnyH_take (i := 12) (oi := ⟨some 4, _, _, _, _, _⟩) (v := ?_) rfl (by kernel_rfl) (by kernel_rfl) (by kernel_rfl) (fun _ _ _ h => h) (Or.inl ⟨by rfl, ?_⟩) (by assumption) ?_
      case refine_2 => (intro w hSw; skip; go_simp; first | done | with_reducible rfl)
      simp only [Act.put, List.setIfInBounds_toArray, List.set_cons_zero, List.set_cons_succ]
      refine wpAnyH_done (by kernel_rfl) ?_ _
      have g9 := gr_set (gr_refl w8 (some w.heap.size)) (p := ⟨w.heap.size, 0, none⟩) (.inl rfl) (.slice A n c)
      have rz9 := rd_newer rz8 hlo' g9 (by omega) (by omega)
      have O9 := own_gr O8 g9 (by omega)
      have L9 := bl_setb (b := w.heap.size) (j := 0) (bl_gr L1 G8 (fun k e => by cases e; omega)) (Nat.le_refl _) (.slice A n c)
      have R9 := R8.set_ 0 (.slice A n c)
      have s9 := g9.size
      clear X8 R8 G8 rz8 O8 hc8
      go_wp2_with fail
      exact bodyPost_ret (res_cellT2 rfl _ _ _ _ _ _ rfl R9 Try.underlying30 (by kernel_rfl)) rfl ⟨⟨A, n, c, zs, A6, c6, m, _, rfl, ⟨hzn, hn2, HM.out⟩, ⟨y, rfl, hy2⟩, htx, rz9.more (by omega), (Row.mk O9).reads⟩, L9⟩
  · go_simp
    go_wp2_with fail
    refine hK.out _ _ (X3.alloc _) (fun hHeld => ?_)
    clear hK K
    try simp only [Act.put, List.setIfInBounds_toArray, List.set_cons_zero, List.set_cons_succ]
    have P4 := Blk.new w0 3 #[.int .i64 97, .int .i64 98, .int .i64 99, .int .i64 49]
    have a4 := alloc_size w0 (.cells #[.int .i64 97, .int .i64 98, .int .i64 99, .int .i64 49] 3)
    have X4 := X3.alloc (.cells #[.int .i64 97, .int .i64 98, .int .i64 99, .int .i64 49] 3)
    have R4 := R3.alloc (.cells #[.int .i64 97, .int .i64 98, .int .i64 99, .int .i64 49] 3)
    have C4 := C3.alloc (.cells #[.int .i64 97, .int .i64 98, .int .i64 99, .int .i64 49] 3)
    have G4 := gr_alloc G3 (.cells #[.int .i64 97, .int .i64 98, .int .i64 99, .int .i64 49] 3)
    have Z4 := Z3.alloc (by omega) (.cells #[.int .i64 97, .int .i64 98, .int .i64 99, .int .i64 49] 3)
    clear hHeld X3 R3 C3 G3 Z3
    have hp : bx < w0.heap.size := b3
    generalize w0.alloc (.cells #[.int .i64 97, .int .i64 98, .int .i64 99, .int .i64 49] 3) = w4 at P4 X4 R4 C4 G4 Z4 a4 ⊢
    have b4 : bx < w4.heap.size := by omega
    have ha4 := Lib.hid a4
    clear a4
    obtain ⟨p, hq4⟩ : ∃ p, w0.heap.size = p := ⟨_, rfl⟩
    rw [hq4] at P4 hp
    try rw [hq4]
    try simp only [hq4]
    have hqq4 := Lib.hid hq4
    clear hq4
    have hHeld := X4
    refine wpAnyH_ready (rs := [3, 4]) (by kernel_rfl) (by simp) ?_
    refine AllReadyH.cons (o := ⟨some 14, _, _, _, _, _⟩) rfl (fun K hK => ?_) (AllReadyH.cons (o := ⟨some 15, _, _, _, _, _⟩) rfl (fun K hK => ?_) AllReadyH.nil)
    · go_simp
      refine (dList w.heap.size g A n c _ C4 hn2).mono ?_; rintro e w5 ⟨⟨v, l, rfl, hl3, O'⟩, C5, g'⟩
      have hlk := Lib.hid hl3
      clear hl3
      have t5 := g'.size
      have X5 := X4.grown g' hxg
      have R5 := R4.grown g' hrg
      have G5 := gr_trans G4 g'
      have Z5 := rd_newer Z4 hlo' g' (Nat.lt_succ_self _) (by omega)
      have O5 : w5.ownsRow (bx + 1) 3 1 v l.length (zints l) := own_base O'.1 (by omega)
      have P5 := P4.grown g' (by intro e; have := Option.some.inj e; omega)
      have hpv : some p ≠ v.ownBlock := fun e => by have := (O'.1.lt p e.symm).1; have := P4.lt; omega
      have b5 : bx < w5.heap.size := by omega
      clear O' g'
      go_wp2_with fail
      refine hK.out _ _ (X5) (fun hHeld => ?_)
      clear hK K
      try simp only [Act.put, List.setIfInBounds_toArray, List.set_cons_zero, List.set_cons_succ]
      refine wpAnyH_ready (rs := [4]) (by kernel_rfl) (by simp) ?_
      refine AllReadyH.cons (o := ⟨some 15, _, _, _, _, _⟩) rfl (fun K hK => ?_) AllReadyH.nil
      go_simp
      go_wp2_with fail
      refine hK.out _ _ (X5.alloc _) (fun hHeld => ?_)
      clear hK K
      try simp only [Act.put, List.setIfInBounds_toArray, List.set_cons_zero, List.set_cons_succ]
      have Q6 := Blk.new w5 3 #[.int .i64 0]
      have a6 := alloc_size w5 (.cells #[.int .i64 0] 3)
      have X6 := X5.alloc (.cells #[.int .i64 0] 3)
      have R6 := R5.alloc (.cells #[.int .i64 0] 3)
      have C6 := C5.alloc (.cells #[.int .i64 0] 3)
      have G6 := gr_alloc G5 (.cells #[.int .i64 0] 3)
      have Z6 := Z5.alloc (by omega) (.cells #[.int .i64 0] 3)
      have O6 := O5.alloc (.cells #[.int .i64 0] 3)
      have P6 := P5.alloc (.cells #[.int .i64 0] 3)
      clear hHeld X5 R5 C5 G5 Z5 O5 P5
      have hq : bx < w5.heap.size := b5
      generalize w5.alloc (.cells #[.int .i64 0] 3) = w6 at Q6 X6 R6 C6 G6 Z6 a6 O6 P6 ⊢
      have b6 : bx < w6.heap.size := by omega
      have ha6 := Lib.hid a6
      clear a6
      obtain ⟨q, hq6⟩ : ∃ q, w5.heap.size = q := ⟨_, rfl⟩
      rw [hq6] at Q6 hq
      try rw [hq6]
      try simp only [hq6]
      have hqq6 := Lib.hid hq6
      clear hq6
      have hHeld := X6
      refine wpAnyH_ready (rs := [5]) (by kernel_rfl) (by simp) ?_
      refine AllReadyH.cons (o := ⟨some 16, _, _, _, _, _⟩) rfl (fun K hK => ?_) AllReadyH.nil
      refine step_append_any _ rfl (.tmp 14) (.tmp 15) 25 rfl (bx + 1) 3 i0 (.int .i64 0) 1 8 Try.underlying25 hi0 hz0 hz1 hz2 rfl (by decide) v l.length (zints l) rfl O6 (q + 1) _ 1 1 [.int .i64 0] rfl (rd_blk1 Q6) (fun u hu => by obtain rfl := List.mem_singleton.1 hu; rfl) (by have := hlk.out; unfold maxLen; omega) (by have := hlk.out; omega) (by omega) ?_
      intro v6 w7 O7 gA _
      rw [zints_snoc] at O7
      have hb := fun k (e : some k = _) => (O6.lt k e.symm).1
      have X7 := X6.grown gA (fun e => by have := hb _ e; omega)
      have R7 := R6.grown gA (fun e => by have := hb _ e; omega)
      have C7 := C6.far gA (fun k e => by have := hb k e.symm; omega)
      have G7 : w1.grownBy w7 (some g) := gr_chain G6 (.inr fun k e => by have := hb k e.symm; omega) gA
      have Z7 := Z6.grown gA (by omega) (fun k e => by have := hb k e.symm; omega)
      have t7 := gA.size
      have P7 := P6.grown gA hpv
      obtain ⟨m, hm⟩ : ∃ m, l ++ [0] = m := ⟨_, rfl⟩
      have hml : l.length + 1 = m.length := by rw [← hm, List.length_append]; rfl
      rw [hm, hml] at O7
      have HM := Lib.hid (show m.length ≤ 4 by have := hlk.out; omega)
      obtain ⟨A6, c6, rfl⟩ := (Row.mk O7).form
      have b7 : bx < w7.heap.size := by omega
      clear hb hm hml X6 R6 C6 G6 Z6 O6 Q6 gA
      refine hK.out _ _ (X7) (fun hHeld => ?_)
      clear hK K
      try simp only [Act.put, List.setIfInBounds_toArray, List.set_cons_zero, List.set_cons_succ]
      refine wpAnyH_ready (rs := [8]) (by kernel_rfl) (by simp) ?_
      refine AllReadyH.cons (o := ⟨some 19, _, _, _, _, _⟩) rfl (fun K hK => ?_) AllReadyH.nil
      go_simp
      refine (dInt w.heap.size g p 4 [97, 98, 99, 49] _ C7 rfl (by omega) (by omega) P7 (by omega)).mono ?_; rintro e w8 ⟨⟨y, rfl, hy⟩, hc8, g'⟩
      have t8 := g'.size
      have X8 := X7.grown g' hxg
      have R8 := R7.grown g' hrg
      have G8 := gr_trans G7 g'
      have rz8 := rd_newer Z7 hlo' g' (Nat.lt_succ_self _) (by omega)
      have O8 := own_gr O7 g' (by omega)
      have hy2 : 0 ≤ y ∧ y < 256 := by simp only [List.mem_cons, List.not_mem_nil, or_false] at hy; omega
      have ey : IntKind.u8.wrap y = y := by rw [IntKind.wrap_u8]; omega
      clear hy X7 R7 C7 G7 Z7 O7 P7 g'
      go_wp2_with fail
      refine hK.out _ _ (X8) (fun hHeld => ?_)
      clear hK K
      try simp only [Act.put, List.setIfInBounds_toArray, List.set_cons_zero, List.set_cons_succ]
      refine wpAnyH_take (i := 9) (oi := ⟨some 20, _, _, _, _, _⟩) (v := ?_) rfl (by kernel_rfl) (by kernel_rfl) (by kernel_rfl) (fun _ _ _ h => h) (Or.inl ⟨by rfl, ?_⟩) (by assumption) ?_
      case refine_2 => (intro w hSw; skip; go_simp; first | done | with_reducible rfl)
      simp only [Act.put, List.setIfInBounds_toArray, List.set_cons_zero, List.set_cons_succ]
      have f8 := R8.frozen
      have p8 := R8.cell
      refine wpAnyH_ready (rs := [10]) (by kernel_rfl) (by simp) ?_
      refine AllReadyH.cons (o := ⟨none, _, _, _, _, _⟩) rfl (fun K hK => ?_) AllReadyH.nil
      go_simp
      go_wp2_with fail
      refine hK.out _ _ (X8.farb (by omega) _) (fun hHeld => ?_)
      clear hK K
      try simp only [Act.put, List.setIfInBounds_toArray, List.set_cons_zero, List.set_cons_succ]
      clear p8 f8
      refine wpAnyH_take (i := 11) (oi := ⟨some 3, _, _, _, _, _⟩) (v := ?_) rfl (by kernel_rfl) (by kernel_rfl) (by kernel_rfl) (fun _ _ _ h => h) (Or.inl ⟨by rfl, ?_⟩) (by assumption) ?_
      case refine_2 => (intro w hSw; skip; go_simp; first | done | with_reducible rfl)
      simp only [Act.put, List.setIfInBounds_toArray, List.set_cons_zero, List.set_cons_succ]
      refine wpAnyH_take (i := 12) (oi := ⟨some 4, _, _, _, _, _⟩) (v := ?_) rfl (by kernel_rfl) (by kernel_rfl) (by kernel_rfl) (fun _ _ _ h => h) (Or.inl ⟨by rfl, ?_⟩) (by assumption) ?_
      case refine_2 => (intro w hSw; skip; go_simp; first | done | with_reducible rfl)
      simp only [Act.put, List.setIfInBounds_toArray, List.set_cons_zero, List.set_cons_succ]
      refine wpAnyH_done (by kernel_rfl) ?_ _
      have g9 := gr_set (gr_refl w8 (some w.heap.size)) (p := ⟨w.heap.size, 0, none⟩) (.inl rfl) (.slice A n c)
      have rz9 := rd_newer rz8 hlo' g9 (by omega) (by omega)
      have O9 := own_gr O8 g9 (by omega)
      have L9 := bl_setb (b := w.heap.size) (j := 0) (bl_gr L1 G8 (fun k e => by cases e; omega)) (Nat.le_refl _) (.slice A n c)
      have R9 := R8.set_ 0 (.slice A n c)
      have s9 := g9.size
      clear X8 R8 G8 rz8 O8 hc8
      go_wp2_with fail
      exact bodyPost_ret (res_cellT2 rfl _ _ _ _ _ _ rfl R9 Try.underlying30 (by kernel_rfl)) rfl ⟨⟨A, n, c, zs, A6, c6, m, _, rfl, ⟨hzn, hn2, HM.out⟩, ⟨y, rfl, hy2⟩, htx, rz9.more (by omega), (Row.mk O9).reads⟩, L9⟩
    · go_simp
      go_wp2_with fail
      refine hK.out _ _ (X4.alloc _) (fun hHeld => ?_)
      clear hK K
      try simp only [Act.put, List.setIfInBounds_toArray, List.set_cons_zero, List.set_cons_succ]
      have Q5 := Blk.new w4 3 #[.int .i64 0]
      have a5 := alloc_size w4 (.cells #[.int .i64 0] 3)
      have X5 := X4.alloc (.cells #[.int .i64 0] 3)
      have R5 := R4.alloc (.cells #[.int .i64 0] 3)
      have C5 := C4.alloc (.cells #[.int .i64 0] 3)
      have G5 := gr_alloc G4 (.cells #[.int .i64 0] 3)
      have Z5 := Z4.alloc (by omega) (.cells #[.int .i64 0] 3)
      have P5 := P4.alloc (.cells #[.int .i64 0] 3)
      clear hHeld X4 R4 C4 G4 Z4 P4
      have hq : bx < w4.heap.size := b4
      generalize w4.alloc (.cells #[.int .i64 0] 3) = w5 at Q5 X5 R5 C5 G5 Z5 a5 P5 ⊢
      have b5 : bx < w5.heap.size := by omega
      have ha5 := Lib.hid a5
      clear a5
      obtain ⟨q, hq5⟩ : ∃ q, w4.heap.size = q := ⟨_, rfl⟩
      rw [hq5] at Q5 hq
      try rw [hq5]
      try simp only [hq5]
      have hqq5 := Lib.hid hq5
      clear hq5
      have hHeld := X5
      refine wpAnyH_ready (rs := [3]) (by kernel_rfl) (by simp) ?_
      refine AllReadyH.cons (o := ⟨some 14, _, _, _, _, _⟩) rfl (fun K hK => ?_) AllReadyH.nil
      go_simp
      refine (dList w.heap.size g A n c _ C5 hn2).mono ?_; rintro e w6 ⟨⟨v, l, rfl, hl3, O'⟩, C6, g'⟩
      have hlk := Lib.hid hl3
      clear hl3
      have t6 := g'.size
      have X6 := X5.grown g' hxg
      have R6 := R5.grown g' hrg
      have G6 := gr_trans G5 g'
      have Z6 := rd_newer Z5 hlo' g' (Nat.lt_succ_self _) (by omega)
      have O6 : w6.ownsRow (bx + 1) 3 1 v l.length (zints l) := own_base O'.1 (by omega)
      have Q6 := Q5.grown g' (by intro e; have := Option.some.inj e; omega)
      have P6 := P5.grown g' (by intro e; have := Option.some.inj e; omega)
      have hpv : some p ≠ v.ownBlock := fun e => by have := (O'.1.lt p e.symm).1; have := P5.lt; omega
      have b6 : bx < w6.heap.size := by omega
      clear O' g'
      go_wp2_with fail
      refine hK.out _ _ (X6) (fun hHeld => ?_)
      clear hK K
      try simp only [Act.put, List.setIfInBounds_toArray, List.set_cons_zero, List.set_cons_succ]
      refine wpAnyH_ready (rs := [5]) (by kernel_rfl) (by simp) ?_
      refine AllReadyH.cons (o := ⟨some 16, _, _, _, _, _⟩) rfl (fun K hK => ?_) AllReadyH.nil
      refine step_append_any _ rfl (.tmp 14) (.tmp 15) 25 rfl (bx + 1) 3 i0 (.int .i64 0) 1 8 Try.underlying25 hi0 hz0 hz1 hz2 rfl (by decide) v l.length (zints l) rfl O6 (q + 1) _ 1 1 [.int .i64 0] rfl (rd_blk1 Q6) (fun u hu => by obtain rfl := List.mem_singleton.1 hu; rfl) (by have := hlk.out; unfold maxLen; omega) (by have := hlk.out; omega) (by omega) ?_
      intro v6 w7 O7 gA _
      rw [zints_snoc] at O7
      have hb := fun k (e : some k = _) => (O6.lt k e.symm).1
      have X7 := X6.grown gA (fun e => by have := hb _ e; omega)
      have R7 := R6.grown gA (fun e => by have := hb _ e; omega)
      have C7 := C6.far gA (fun k e => by have := hb k e.symm; omega)
      have G7 : w1.grownBy w7 (some g) := gr_chain G6 (.inr fun k e => by have := hb k e.symm; omega) gA
      have Z7 := Z6.grown gA (by omega) (fun k e => by have := hb k e.symm; omega)
      have t7 := gA.size
      have P7 := P6.grown gA hpv
      obtain ⟨m, hm⟩ : ∃ m, l ++ [0] = m := ⟨_, rfl⟩
      have hml : l.length + 1 = m.length := by rw [← hm, List.length_append]; rfl
      rw [hm, hml] at O7
      have HM := Lib.hid (show m.length ≤ 4 by have := hlk.out; omega)
      obtain ⟨A6, c6, rfl⟩ := (Row.mk O7).form
      have b7 : bx < w7.heap.size := by omega
      clear hb hm hml X6 R6 C6 G6 Z6 O6 Q6 gA
      refine hK.out _ _ (X7) (fun hHeld => ?_)
      clear hK K
      try simp only [Act.put, List.setIfInBounds_toArray, List.set_cons_zero, List.set_cons_succ]
      refine wpAnyH_ready (rs := [8]) (by kernel_rfl) (by simp) ?_
      refine AllReadyH.cons (o := ⟨some 19, _, _, _, _, _⟩) rfl (fun K hK => ?_) AllReadyH.nil
      go_simp
      refine (dInt w.heap.size g p 4 [97, 98, 99, 49] _ C7 rfl (by omega) (by omega) P7 (by omega)).mono ?_; rintro e w8 ⟨⟨y, rfl, hy⟩, hc8, g'⟩
      have t8 := g'.size
      have X8 := X7.grown g' hxg
      have R8 := R7.grown g' hrg
      have G8 := gr_trans G7 g'
      have rz8 := rd_newer Z7 hlo' g' (Nat.lt_succ_self _) (by omega)
      have O8 := own_gr O7 g' (by omega)
      have hy2 : 0 ≤ y ∧ y < 256 := by simp only [List.mem_cons, List.not_mem_nil, or_false] at hy; omega
      have ey : IntKind.u8.wrap y = y := by rw [IntKind.wrap_u8]; omega
      clear hy X7 R7 C7 G7 Z7 O7 P7 g'
      go_wp2_with fail
      refine hK.out _ _ (X8) (fun hHeld => ?_)
      clear hK K
      try simp only [Act.put, List.setIfInBounds_toArray, List.set_cons_zero, List.set_cons_succ]
      refine wpAnyH_take (i := 9) (oi := ⟨some 20, _, _, _, _, _⟩) (v := ?_) rfl (by kernel_rfl) (by kernel_rfl) (by kernel_rfl) (fun _ _ _ h => h) (Or.inl ⟨by rfl, ?_⟩) (by assumption) ?_
      case refine_2 => (intro w hSw; skip; go_simp; first | done | with_reducible rfl)
      simp only [Act.put, List.setIfInBounds_toArray, List.set_cons_zero, List.set_cons_succ]
      have f8 := R8.frozen
      have p8 := R8.cell
      refine wpAnyH_ready (rs := [10]) (by kernel_rfl) (by simp) ?_
      refine AllReadyH.cons (o := ⟨none, _, _, _, _, _⟩) rfl (fun K hK => ?_) AllReadyH.nil
      go_simp
      go_wp2_with fail
      refine hK.out _ _ (X8.farb (by omega) _) (fun hHeld => ?_)
      clear hK K
      try simp only [Act.put, List.setIfInBounds_toArray, List.set_cons_zero, List.set_cons_succ]
      clear p8 f8
      refine wpAnyH_take (i := 11) (oi := ⟨some 3, _, _, _, _, _⟩) (v := ?_) rfl (by kernel_rfl) (by kernel_rfl) (by kernel_rfl) (fun _ _ _ h => h) (Or.inl ⟨by rfl, ?_⟩) (by assumption) ?_
      case refine_2 => (intro w hSw; skip; go_simp; first | done | with_reducible rfl)
      simp only [Act.put, List.setIfInBounds_toArray, List.set_cons_zero, List.set_cons_succ]
      refine wpAnyH_take (i := 12) (oi := ⟨some 4, _, _, _, _, _⟩) (v := ?_) rfl (by kernel_rfl) (by kernel_rfl) (by kernel_rfl) (fun _ _ _ h => h) (Or.inl ⟨by rfl, ?_⟩) (by assumption) ?_
      case refine_2 => (intro w hSw; skip; go_simp; first | done | with_reducible rfl)
      simp only [Act.put, List.setIfInBounds_toArray, List.set_cons_zero, List.set_cons_succ]
      refine wpAnyH_done (by kernel_rfl) ?_ _
      have g9 := gr_set (gr_refl w8 (some w.heap.size)) (p := ⟨w.heap.size, 0, none⟩) (.inl rfl) (.slice A n c)
      have rz9 := rd_newer rz8 hlo' g9 (by omega) (by omega)
      have O9 := own_gr O8 g9 (by omega)
      have L9 := bl_setb (b := w.heap.size) (j := 0) (bl_gr L1 G8 (fun k e => by cases e; omega)) (Nat.le_refl _) (.slice A n c)
      have R9 := R8.set_ 0 (.slice A n c)
      have s9 := g9.size
      clear X8 R8 G8 rz8 O8 hc8
      go_wp2_with fail
      exact bodyPost_ret (res_cellT2 rfl _ _ _ _ _ _ rfl R9 Try.underlying30 (by kernel_rfl)) rfl ⟨⟨A, n, c, zs, A6, c6, m, _, rfl, ⟨hzn, hn2, HM.out⟩, ⟨y, rfl, hy2⟩, htx, rz9.more (by omega), (Row.mk O9).reads⟩, L9⟩

end Go.Proofs.Ytnoekbgmhnhneaa
