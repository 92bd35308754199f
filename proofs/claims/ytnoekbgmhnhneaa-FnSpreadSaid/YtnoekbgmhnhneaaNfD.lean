/- Walk over the reference's l5Any: drawn machines, right or not. -/
import Derived.Test.YtnoekbgmhnhneaaRexE
import Derived.Test.YtnoekbgmhnhneaaNfaOf
import Derived.Deep.CutRange
import Derived.Deep.RegionHeld3
import Derived.Deep.RegionWith
namespace Go.Proofs.Ytnoekbgmhnhneaa
open Go.RowKit

theorem small_three : ∀ {fr : Fr (Int × ByteArray)}, FrOk qThree fr → FrOk qSmall fr
  | .nil, _ => trivial
  | .cons _ _ _, h => ⟨Nat.le_trans h.1 (by omega), h.2.1, small_three h.2.2.1, small_three h.2.2.2⟩
/-- A node's text is not too long. -/
def tSm (z : (Int × ByteArray × Int × Int)) : Prop := z.2.1.size ≤ 1048576
theorem tSm_nil (a : Int) (b c : Int) : tSm (a, ⟨#[]⟩, b, c) := Nat.zero_le _
theorem lay_text : ∀ {fr : Fr (Int × ByteArray)}, FrOk qSmall fr → (∀ p z, z ∈ layF fr p → tSm z) ∧ ∀ p b z, z ∈ layA fr p b → tSm z
  | .nil, _ => ⟨fun p z h => (by cases h), fun p b z h => (by cases h)⟩
  | .cons a k r, h => by
    obtain ⟨k1, k2⟩ := lay_text h.2.2.1
    obtain ⟨r1, r2⟩ := lay_text h.2.2.2
    have hR : ∀ p z, z ∈ layR a k p → tSm z := fun p z hz => by
      unfold layR layO at hz
      split at hz
      · obtain rfl := List.mem_singleton.1 hz; exact h.1
      split at hz
      · obtain rfl := List.mem_singleton.1 hz; exact tSm_nil _ _ _
      split at hz
      · obtain rfl := List.mem_singleton.1 hz; exact h.1
      split at hz
      · obtain rfl := List.mem_singleton.1 hz; exact tSm_nil _ _ _
      split at hz
      · obtain rfl := List.mem_singleton.1 hz; exact tSm_nil _ _ _
      split at hz
      · exact k1 _ _ hz
      split at hz
      · exact k2 _ _ _ hz
      split at hz
      · rcases List.mem_cons.1 hz with rfl | hz
        · exact tSm_nil _ _ _
        · rcases List.mem_append.1 hz with hz | hz
          · exact k1 _ _ hz
          · obtain rfl := List.mem_singleton.1 hz; exact tSm_nil _ _ _
      split at hz
      · rcases List.mem_append.1 hz with hz | hz
        · exact k1 _ _ hz
        · obtain rfl := List.mem_singleton.1 hz; exact tSm_nil _ _ _
      split at hz
      · rcases List.mem_cons.1 hz with rfl | hz
        · exact tSm_nil _ _ _
        · exact k1 _ _ hz
      · cases hz
    refine ⟨fun p z hz => ?_, fun p b z hz => ?_⟩
    · rw [layF_cons] at hz
      rcases List.mem_append.1 hz with hz | hz
      · exact hR _ _ hz
      · exact r1 _ _ hz
    · by_cases h0 : r.len = 0
      · have e : r = .nil := by
          cases r with
          | nil => rfl
          | cons x l t => simp [Fr.len] at h0
        subst e
        exact hR _ _ hz
      · rw [layA_cons _ _ _ _ _ h0] at hz
        rcases List.mem_cons.1 hz with rfl | hz
        · exact tSm_nil _ _ _
        · rcases List.mem_append.1 hz with hz | hz
          · exact hR _ _ hz
          · rcases List.mem_cons.1 hz with rfl | hz
            · exact tSm_nil _ _ _
            · exact r2 _ _ _ hz
theorem nfaL_text {zk : Int} {zs : ByteArray} {kids : Fr (Int × ByteArray)} (hz : zs.size ≤ 1048576) (hk : FrOk qSmall kids) (hl : kids.len ≤ 9223372036854775807) : ∀ z, z ∈ nfaL zk zs kids → tSm z := fun z h => by
  unfold nfaL at h
  split at h
  · rcases List.mem_append.1 h with h | h
    · exact (lay_text (fr := .cons (zk, zs) kids .nil) ⟨hz, hl, hk, trivial⟩).1 0 z (by rw [layF_cons, layF_nil, List.append_nil]; exact h)
    · obtain rfl := List.mem_singleton.1 h
      exact tSm_nil _ _ _
  · cases h
/-- A node's place is set. -/
def setJ (ys : List (Int × ByteArray × Int × Int)) (k j : Nat) (z : Int) : List (Int × ByteArray × Int × Int) := ys.modify k fun y => if j = 0 then (z, y.2.1, y.2.2.1, y.2.2.2) else if j = 2 then (y.1, y.2.1, z, y.2.2.2) else (y.1, y.2.1, y.2.2.1, z)
theorem setJ_len (ys : List (Int × ByteArray × Int × Int)) (k j : Nat) (z : Int) : (setJ ys k j z).length = ys.length := by unfold setJ; exact List.length_modify _ _ _
theorem setJ_text {ys : List (Int × ByteArray × Int × Int)} (h : ∀ z, z ∈ ys → tSm z) (k j : Nat) (z : Int) : ∀ x, x ∈ setJ ys k j z → tSm x := fun x hx => by
  obtain ⟨i, hi, rfl⟩ := List.getElem_of_mem hx
  unfold setJ at hi ⊢
  rw [List.length_modify] at hi
  rw [List.getElem_modify]
  have := h _ (List.getElem_mem hi)
  split
  · split
    · exact this
    · split <;> exact this
  · exact this
theorem setJ_flat : ∀ (ys : List (Int × ByteArray × Int × Int)) (k j : Nat) (z : Int), (j = 0 ∨ j = 2 ∨ j = 3) → k < ys.length → (flat nodeC ys).set (k * 4 + j) (.int .i64 z) = flat nodeC (setJ ys k j z)
  | [], k, j, z, _, h => by simp at h
  | y :: ys, 0, j, z, hj, _ => by
    rw [flat_cons]
    rcases hj with rfl | rfl | rfl
    · show _ = flat nodeC ((z, y.2.1, y.2.2.1, y.2.2.2) :: ys)
      rw [flat_cons]
      rfl
    · show _ = flat nodeC ((y.1, y.2.1, z, y.2.2.2) :: ys)
      rw [flat_cons]
      rfl
    · show _ = flat nodeC ((y.1, y.2.1, y.2.2.1, z) :: ys)
      rw [flat_cons]
      rfl
  | y :: ys, k + 1, j, z, hj, h => by
    have ih := setJ_flat ys k j z hj (by simpa using h)
    show _ = flat nodeC (y :: setJ ys k j z)
    rw [flat_cons, flat_cons, ← ih, List.set_append_right _ _ (by rw [nodeC_len]; omega), nodeC_len]
    congr 2
    omega
theorem flat_take (zs : List (Int × ByteArray × Int × Int)) (m : Nat) {j : Nat} {u : Value} (h : (flat nodeC (zs.take m))[j]? = some u) : (flat nodeC zs)[j]? = some u := by
  have e : flat nodeC zs = flat nodeC (zs.take m) ++ flat nodeC (zs.drop m) := by rw [← flat_app_, List.take_append_drop]
  rw [e, List.getElem?_append_left]
  · exact h
  · rcases Nat.lt_or_ge j (flat nodeC (zs.take m)).length with h1 | h1
    · exact h1
    · rw [List.getElem?_eq_none h1] at h
      cases h
theorem rd_takeN {w : World} {B m n : Nat} {A : Option Addr} {zs : List (Int × ByteArray × Int × Int)} (h : Reads w B 4 A n (flat nodeC zs)) (hl : zs.length = n) (hm : m ≤ n) : Reads w B 4 A m (flat nodeC (zs.take m)) := by
  refine ⟨by rw [flat_len nodeC_len, List.length_take]; omega, fun h0 => ?_⟩
  obtain ⟨b, off, e, hb, hc⟩ := h.2 (by omega)
  exact ⟨b, off, e, hb, fun j u hu => hc j u (flat_take zs m hu)⟩
/-- It hands back a machine. -/
def RetNA (w : World) (e : Ending) (w' : World) : Prop := ∃ (A : Option Addr) (n c : Nat) (zs : List (Int × ByteArray × Int × Int)), e = .returned (.agg #[.slice A n c]) ∧ (zs.length = n ∧ n ≤ 1000) ∧ (∀ z, z ∈ zs → tSm z) ∧ Reads w' w'.heap.size 4 A n (flat nodeC zs) ∧ (0 < n → ∃ b off, A = some ⟨b, off, none⟩ ∧ w.heap.size ≤ b)
/-- What is newer than a block stays where that block alone is written. -/
theorem rd_newer {w w' : World} {B size n lo g : Nat} {A : Option Addr} {xs : List Value} (h : Reads w B size A n xs) (hlo : 0 < n → ∃ b off, A = some ⟨b, off, none⟩ ∧ lo ≤ b) (hg : w.grownBy w' (some g)) (hgl : g < lo) (hB : B ≤ w.heap.size) : Reads w' B size A n xs :=
  ⟨h.1, fun hn => by
    obtain ⟨b, off, e, hb, hc⟩ := h.2 hn
    obtain ⟨b', off', e', hb'⟩ := hlo hn
    rw [e] at e'
    cases e'
    exact ⟨b, off, e, hb, fun j u hu => (World.cell?_of_block (hg.block b (by omega) (fun e => by have := Option.some.inj e; omega))).trans (hc j u hu)⟩⟩

set_option maxRecDepth 20000 in
set_option maxHeartbeats 4000000 in
theorem dNfAny (B g : Nat) (w : World) (hc : Cur B w g) :
    Calls Try.prog 66 #[.pointer (some ⟨g, 0, none⟩)] w fun e w' => RetNA w e w' ∧ Cur B w' g ∧ w.grownBy w' (some g) := by
  have hgl := hc.lt
  have hBg := hc.le
  have R0 := Blk.new w 30 #[.slice none 0 0]
  have hc0 := hc.alloc (.cells #[.slice none 0 0] 30)
  have G0 := gr_alloc (gr_refl w (some g)) (.cells #[.slice none 0 0] 30)
  go_enter Try.func66, Try.ntmps66
  go_wp2_with fail
  refine (dDraw B g 3 (by omega) _ hc0).mono ?_; rintro e w1 ⟨⟨zk, zs, kids, A1, c1, rfl, hS1, hgd⟩, hc1, g1⟩
  have R1 := R0.grown g1 (by intro e; cases e; omega)
  have G1 := gr_trans G0 g1
  have sz1 := G1.size
  have hw1 := R1.lt
  have hkl := kids.len_size
  have hks : kids.size ≤ 1000 := by have := hgd.2.2.1; simp [pD] at this; omega
  have hzs : zs.size ≤ 1048576 := Nat.le_trans hgd.2.2.2.1 (by omega)
  have hkq := small_three hgd.2.2.2.2
  have hnt := nfaL_text (zk := zk) hzs hkq (by omega)
  have hnl := nfaL_len zk zs kids
  have cS := sNfaOf zk zs kids A1 c1 w1 (by omega) hzs hkq (hS1.more (Nat.zero_le _) (Nat.le_refl _))
  generalize nfaL zk zs kids = ns at cS hnt hnl
  have CS := Lib.hid cS
  clear cS hgd hS1 R0 G0 hc0
  go_wp2_with fail
  refine CS.out.mono ?_; rintro e w2 ⟨⟨A3, c3, rfl, O2⟩, b2⟩
  have R2 := R1.keep b2
  have hc2 := hc1.keep b2
  have G2 := gr_below G1 b2
  clear R1 hc1 G1 CS g1
  go_upto_region 2 with fail
  have X3 := Blk.new w2 30 #[.slice A3 ns.length c3]
  have b3 := bl_alloc (Below.refl w2.heap.size w2) (.cells #[.slice A3 ns.length c3] 30)
  have R3 := R2.keep b3
  have hc3 := hc2.keep b3
  have G3 := gr_below G2 b3
  have O3 := O2.keep b3
  have sz2 := b2.size
  have hbx : w2.heap.size < (w2.alloc (.cells #[.slice A3 ns.length c3] 30)).heap.size := by rw [alloc_size]; exact Nat.lt_succ_self _
  clear R2 hc2 G2 O2 b3
  generalize w2.alloc (.cells #[.slice A3 ns.length c3] 30) = w3 at X3 R3 hc3 G3 O3 hbx ⊢
  have hn : ns.length ≤ 1000 := hnl
  by_cases h0 : ns.length = 0
  · have h0' : ((ns.length : Int) == 0) = true := by simp [h0]
    have HN := Lib.hid h0
    clear h0
    have hne := own_blk_ne O3.1 R3 (by decide)
    have RD := (Row.mk (ownsRow_setCell_other (a := ⟨w.heap.size, 0, none⟩) O3.1 hne (.slice A3 ns.length c3))).reads
    generalize w2.heap.size = bx at X3 sz2 hbx ⊢
    have pX := X3.cell
    have pR := R3.cell
    have fR := R3.frozen
    go_wp2_with fail
    exact bodyPost_ret (res_cell1 rfl _ _ _ _ _ _ rfl (R3.set_ 0 _) Try.underlying30 (by kernel_rfl)) rfl ⟨⟨_, _, _, ns, rfl, ⟨rfl, hn⟩, hnt, RD, fun h => absurd h (by have := HN.out; omega)⟩, hc3.setn (by omega) _, gr_setn G3 (Nat.le_refl _) _⟩
  have hn0 : 0 < ns.length := by omega
  have hn0' : (0 : Int) < (ns.length : Int) := by omega
  have h0' : ((ns.length : Int) == 0) = false := by simp [h0]
  clear h0
  obtain ⟨ga, rfl, hga1, hga2⟩ := own_blk O3.1 hn0
  have hga3 := O3.2 ga rfl
  have hcap := O3.cap
  generalize w2.heap.size = bx at X3 sz2 hbx O3 hga3 ⊢
  have hXg : some bx ≠ some g := by intro e; have := Option.some.inj e; omega
  have hRg : some w.heap.size ≠ some g := by intro e; have := Option.some.inj e; omega
  have hOg : ∀ k, some g = some k → k < w1.heap.size ∨ bx ≤ k := fun k e => by cases e; exact .inl (by omega)
  have hc3d : Cur B w3.drew g := hc3
  have cX := X3.cell
  go_wp2_with fail
  clear cX
  refine wp_region_held_drew (S := (fun y => Blk y bx 30 #[.slice (some ⟨ga, 0, none⟩) ns.length c3])) (by kernel_rfl) ?_ (fun hHeld => ?_)
  · exact X3.drew
  refine wpAnyH_take (i := 0) (oi := ⟨some 13, _, _, _, _, _⟩) (v := ?_) rfl (by kernel_rfl) (by kernel_rfl) (by kernel_rfl) (fun _ _ _ h => h) (Or.inl ⟨by rfl, ?_⟩) (by assumption) ?_
  case refine_2 => (intro w hSw; skip; go_simp; first | done | with_reducible rfl)
  simp only [Act.put, List.setIfInBounds_toArray, List.set_cons_zero, List.set_cons_succ]
  refine wpAnyH_take (i := 1) (oi := ⟨some 14, _, _, _, _, _⟩) (v := ?_) rfl (by kernel_rfl) (by kernel_rfl) (by kernel_rfl) (fun _ _ _ h => h) (Or.inl ⟨by rfl, ?_⟩) (by assumption) ?_
  case refine_2 => (intro w hSw; have p := hSw.cell; go_simp; first | done | with_reducible rfl)
  simp only [Act.put, List.setIfInBounds_toArray, List.set_cons_zero, List.set_cons_succ]
  refine wpAnyH_take (i := 2) (oi := ⟨some 15, _, _, _, _, _⟩) (v := ?_) rfl (by kernel_rfl) (by kernel_rfl) (by kernel_rfl) (fun _ _ _ h => h) (Or.inl ⟨by rfl, ?_⟩) (by assumption) ?_
  case refine_2 => (intro w hSw; skip; go_simp; first | done | with_reducible rfl)
  simp only [Act.put, List.setIfInBounds_toArray, List.set_cons_zero, List.set_cons_succ]
  refine wpAnyH_take (i := 3) (oi := ⟨some 16, _, _, _, _, _⟩) (v := ?_) rfl (by kernel_rfl) (by kernel_rfl) (by kernel_rfl) (fun _ _ _ h => h) (Or.inl ⟨by rfl, ?_⟩) (by assumption) ?_
  case refine_2 => (intro w hSw; skip; go_simp; first | done | with_reducible rfl)
  simp only [Act.put, List.setIfInBounds_toArray, List.set_cons_zero, List.set_cons_succ]
  refine wpAnyH_take (i := 4) (oi := ⟨some 17, _, _, _, _, _⟩) (v := ?_) rfl (by kernel_rfl) (by kernel_rfl) (by kernel_rfl) (fun _ _ _ h => h) (Or.inl ⟨by rfl, ?_⟩) (by assumption) ?_
  case refine_2 => (intro w hSw; have p := hSw.cell; go_simp; first | done | with_reducible rfl)
  simp only [Act.put, List.setIfInBounds_toArray, List.set_cons_zero, List.set_cons_succ]
  refine wpAnyH_take (i := 5) (oi := ⟨some 18, _, _, _, _, _⟩) (v := ?_) rfl (by kernel_rfl) (by kernel_rfl) (by kernel_rfl) (fun _ _ _ h => h) (Or.inl ⟨by rfl, ?_⟩) (by assumption) ?_
  case refine_2 => (intro w hSw; skip; go_simp; first | done | with_reducible rfl)
  simp only [Act.put, List.setIfInBounds_toArray, List.set_cons_zero, List.set_cons_succ]
  refine wpAnyH_ready (rs := [6]) (by kernel_rfl) (by simp) ?_
  refine AllReadyH.cons (o := ⟨some 19, _, _, _, _, _⟩) rfl (fun K hK => ?_) AllReadyH.nil
  go_simp
  refine (dBelow B g _ _ hc3d (by omega)).mono ?_; rintro e w4 ⟨⟨y, rfl, hy0, hy1, _⟩, hc4, g4⟩; have hy2 := hy1 (by omega); clear hy1; obtain ⟨k, rfl⟩ := Int.eq_ofNat_of_zero_le hy0; have hk : k < ns.length := (by omega)
  go_wp2_with fail
  refine hK.out _ _ (X3.drew.grown g4 hXg) (fun hHeld => ?_)
  clear hK K
  try simp only [Act.put, List.setIfInBounds_toArray, List.set_cons_zero, List.set_cons_succ]
  refine wpAnyH_take (i := 7) (oi := ⟨some 20, _, _, _, _, _⟩) (v := ?_) rfl (by kernel_rfl) (by kernel_rfl) (by kernel_rfl) (fun _ _ _ h => h) (Or.inl ⟨by rfl, ?_⟩) (by assumption) ?_
  case refine_2 => (intro w hSw; skip; go_simp; (try rw [if_pos (by omega)]); first | done | with_reducible rfl)
  simp only [Act.put, List.setIfInBounds_toArray, List.set_cons_zero, List.set_cons_succ]
  refine wpAnyH_take (i := 8) (oi := ⟨some 4, _, _, _, _, _⟩) (v := ?_) rfl (by kernel_rfl) (by kernel_rfl) (by kernel_rfl) (fun _ _ _ h => h) (Or.inl ⟨by rfl, ?_⟩) (by assumption) ?_
  case refine_2 => (intro w hSw; skip; go_simp; first | done | with_reducible rfl)
  simp only [Act.put, List.setIfInBounds_toArray, List.set_cons_zero, List.set_cons_succ]
  refine wpAnyH_done (by kernel_rfl) ?_ _
  have X4 := hHeld
  have O4 := (show Row w3.drew w1.heap.size bx 76 4 _ ns.length (flat nodeC ns) from ⟨O3.1.drew, O3.2⟩).far g4 hOg
  have R4 := R3.drew.grown g4 hRg
  have G4 : w.grownBy w4 (some g) := gr_trans (show w.grownBy w3.drew (some g) from ⟨G3.os, G3.tape, G3.output, G3.size, G3.block⟩) g4
  have szd : w3.drew.heap.size = w3.heap.size := rfl
  have sz4 := g4.size
  clear hHeld X3 O3 R3 G3 hc3 hc3d g4 h0'
  go_wp2_with fail
  refine (dBelow B g 10 _ hc4 (by omega)).mono ?_; rintro e w5 ⟨⟨x, rfl, hx0, _, _⟩, hc5, g5⟩
  have X5 := X4.grown g5 hXg
  have O5 := O4.far g5 hOg
  have R5 := R4.grown g5 hRg
  have G5 := gr_trans G4 g5
  have sz5 := g5.size
  have lt5 := hc5.lt
  clear X4 O4 R4 G4 g5 hc4
  by_cases h0 : x = 0
  · subst h0
    go_wp2_with fail
    refine (dBelow B g 9 _ hc5 (by omega)).mono ?_; rintro e w6 ⟨⟨z, rfl, _, _, _⟩, hc6, g6⟩
    have hL6 := X5.grown g6 hXg
    have O6 := O5.far g6 hOg
    have R6 := R5.grown g6 hRg
    have G6 := gr_trans G5 g6
    have lt6 := hc6.lt
    have szg6 := g6.size
    have pc := O6.1.cellAt (k * 4) (by omega)
    obtain ⟨u, hu⟩ : ∃ u, (flat nodeC ns)[k * 4]? = some (.int .i64 u) := by
      obtain ⟨b0, o0, e0, _, n0, n1, n2, n3⟩ := rd_node O6.reads hk
      cases e0
      rw [Nat.zero_add] at n0 n2 n3
      exact ⟨_, pc.symm.trans n0⟩
    rw [hu] at pc
    have pf := O6.1.frozenAt (k * 4)
    have HS := O6.1.stored (k * 4) (.int .i64 z)
    have hfl := setJ_flat ns k 0 z (by omega) hk
    rw [Nat.add_zero] at hfl
    rw [hfl] at HS
    clear hfl
    have hne := own_blk_ne HS.1 (R6.grown HS.2 (by intro e; have := Option.some.inj e; omega)) (by decide)
    have RD := (Row.mk (ownsRow_setCell_other (a := ⟨w.heap.size, 0, none⟩) HS.1 hne (.slice (some ⟨ga, 0, none⟩) ns.length c3))).reads
    have hc7 := hc6.far HS.2 (fun q e => by cases e; omega)
    have X7 := hL6.grown HS.2 (by intro e; have := Option.some.inj e; omega)
    have R7 := R6.grown HS.2 (by intro e; have := Option.some.inj e; omega)
    have G7 := gr_setn G6 (b := ga) (j := k * 4) (by omega) (.int .i64 z)
    have LJ := setJ_len ns k 0 z
    have TJ := setJ_text hnt k 0 z
    clear hu HS G6 hL6 O6 R6
    have pX := X7.cell
    have pR := R7.cell
    have fR := R7.frozen
    go_wp2_with fail
    exact bodyPost_ret (res_cell1 rfl _ _ _ _ _ _ rfl (R7.set_ 0 _) Try.underlying30 (by kernel_rfl)) rfl ⟨⟨_, _, _, setJ ns k 0 z, rfl, ⟨LJ, hn⟩, TJ, RD, fun _ => ⟨ga, 0, rfl, by omega⟩⟩, hc7.setn (by omega) _, gr_setn G7 (Nat.le_refl _) _⟩
  have q0 : (x == 0) = false := by simp [h0]
  by_cases h1 : x = 1
  · subst h1
    go_wp2_with fail
    refine (dInt B g w5.heap.size 3 [-1, 0, 300] _ (hc5.alloc _) rfl (by omega) (by omega) (Blk.new w5 _ _) (by omega)).mono ?_; rintro e w6 ⟨⟨z, rfl, _⟩, hc6, g6'⟩; have g6 := gr_trans (gr_alloc (gr_refl w5 (some g)) _) g6'
    have hL6 := X5.grown g6 hXg
    have O6 := O5.far g6 hOg
    have R6 := R5.grown g6 hRg
    have G6 := gr_trans G5 g6
    have lt6 := hc6.lt
    have szg6 := g6.size
    have pc := O6.1.cellAt (k * 4 + 2) (by omega)
    obtain ⟨u, hu⟩ : ∃ u, (flat nodeC ns)[k * 4 + 2]? = some (.int .i64 u) := by
      obtain ⟨b0, o0, e0, _, n0, n1, n2, n3⟩ := rd_node O6.reads hk
      cases e0
      rw [Nat.zero_add] at n0 n2 n3
      exact ⟨_, pc.symm.trans n2⟩
    rw [hu] at pc
    have pf := O6.1.frozenAt (k * 4 + 2)
    have HS := O6.1.stored (k * 4 + 2) (.int .i64 z)
    have hfl := setJ_flat ns k 2 z (by omega) hk
    rw [hfl] at HS
    clear hfl
    have hne := own_blk_ne HS.1 (R6.grown HS.2 (by intro e; have := Option.some.inj e; omega)) (by decide)
    have RD := (Row.mk (ownsRow_setCell_other (a := ⟨w.heap.size, 0, none⟩) HS.1 hne (.slice (some ⟨ga, 0, none⟩) ns.length c3))).reads
    have hc7 := hc6.far HS.2 (fun q e => by cases e; omega)
    have X7 := hL6.grown HS.2 (by intro e; have := Option.some.inj e; omega)
    have R7 := R6.grown HS.2 (by intro e; have := Option.some.inj e; omega)
    have G7 := gr_setn G6 (b := ga) (j := k * 4 + 2) (by omega) (.int .i64 z)
    have LJ := setJ_len ns k 2 z
    have TJ := setJ_text hnt k 2 z
    clear hu HS G6 hL6 O6 R6
    have pX := X7.cell
    have pR := R7.cell
    have fR := R7.frozen
    go_wp2_with fail
    exact bodyPost_ret (res_cell1 rfl _ _ _ _ _ _ rfl (R7.set_ 0 _) Try.underlying30 (by kernel_rfl)) rfl ⟨⟨_, _, _, setJ ns k 2 z, rfl, ⟨LJ, hn⟩, TJ, RD, fun _ => ⟨ga, 0, rfl, by omega⟩⟩, hc7.setn (by omega) _, gr_setn G7 (Nat.le_refl _) _⟩
  have q1 : (x == 1) = false := by simp [h1]
  by_cases h2 : x = 2
  · subst h2
    go_wp2_with fail
    refine (dInt B g w5.heap.size 4 [-1, 0, 1, 300] _ (hc5.alloc _) rfl (by omega) (by omega) (Blk.new w5 _ _) (by omega)).mono ?_; rintro e w6 ⟨⟨z, rfl, _⟩, hc6, g6'⟩; have g6 := gr_trans (gr_alloc (gr_refl w5 (some g)) _) g6'
    have hL6 := X5.grown g6 hXg
    have O6 := O5.far g6 hOg
    have R6 := R5.grown g6 hRg
    have G6 := gr_trans G5 g6
    have lt6 := hc6.lt
    have szg6 := g6.size
    have pc := O6.1.cellAt (k * 4 + 3) (by omega)
    obtain ⟨u, hu⟩ : ∃ u, (flat nodeC ns)[k * 4 + 3]? = some (.int .i64 u) := by
      obtain ⟨b0, o0, e0, _, n0, n1, n2, n3⟩ := rd_node O6.reads hk
      cases e0
      rw [Nat.zero_add] at n0 n2 n3
      exact ⟨_, pc.symm.trans n3⟩
    rw [hu] at pc
    have pf := O6.1.frozenAt (k * 4 + 3)
    have HS := O6.1.stored (k * 4 + 3) (.int .i64 z)
    have hfl := setJ_flat ns k 3 z (by omega) hk
    rw [hfl] at HS
    clear hfl
    have hne := own_blk_ne HS.1 (R6.grown HS.2 (by intro e; have := Option.some.inj e; omega)) (by decide)
    have RD := (Row.mk (ownsRow_setCell_other (a := ⟨w.heap.size, 0, none⟩) HS.1 hne (.slice (some ⟨ga, 0, none⟩) ns.length c3))).reads
    have hc7 := hc6.far HS.2 (fun q e => by cases e; omega)
    have X7 := hL6.grown HS.2 (by intro e; have := Option.some.inj e; omega)
    have R7 := R6.grown HS.2 (by intro e; have := Option.some.inj e; omega)
    have G7 := gr_setn G6 (b := ga) (j := k * 4 + 3) (by omega) (.int .i64 z)
    have LJ := setJ_len ns k 3 z
    have TJ := setJ_text hnt k 3 z
    clear hu HS G6 hL6 O6 R6
    have pX := X7.cell
    have pR := R7.cell
    have fR := R7.frozen
    go_wp2_with fail
    exact bodyPost_ret (res_cell1 rfl _ _ _ _ _ _ rfl (R7.set_ 0 _) Try.underlying30 (by kernel_rfl)) rfl ⟨⟨_, _, _, setJ ns k 3 z, rfl, ⟨LJ, hn⟩, TJ, RD, fun _ => ⟨ga, 0, rfl, by omega⟩⟩, hc7.setn (by omega) _, gr_setn G7 (Nat.le_refl _) _⟩
  have q2 : (x == 2) = false := by simp [h2]
  by_cases h3 : x = 3
  · subst h3
    obtain ⟨m, hm⟩ : ∃ m, ns.length = m + 1 := ⟨ns.length - 1, by omega⟩
    have HMn := Lib.hid hm
    have et : ((ns.length : Int) - 1).toNat = m := by omega
    have ew : IntKind.i64.wrap ((ns.length : Int) - 1) = (m : Int) := by rw [IntKind.wrap_i64]; omega
    have hmc : (m : Int) ≤ (c3 : Int) := by omega
    have hmn : m ≤ ns.length := by omega
    clear hm
    have ne1 := own_blk_ne O5.1 X5 (by decide)
    have ne2 := own_blk_ne O5.1 R5 (by decide)
    have RD := rd_takeN (Row.mk (ownsRow_setCell_other (a := ⟨w.heap.size, 0, none⟩) (ownsRow_setCell_other (a := ⟨bx, 0, none⟩) O5.1 ne1 (.slice (some ⟨ga, 0, none⟩) m c3)) ne2 (.slice (some ⟨ga, 0, none⟩) m c3))).reads rfl hmn
    have hxr : (bx == w.heap.size) = false := by simp; omega
    have hxr' : (w.heap.size == bx) = false := by simp; omega
    have TT : ∀ z, z ∈ ns.take m → tSm z := fun z hz => hnt z (List.mem_of_mem_take hz)
    have pX := X5.cell
    have fX := X5.frozen
    have pR := R5.cell
    have fR := R5.frozen
    go_wp2_with fail
    exact bodyPost_ret (res_cell1 rfl _ _ _ _ _ _ rfl ((R5.farb (by omega) _).set_ 0 _) Try.underlying30 (by kernel_rfl)) rfl ⟨⟨_, _, _, ns.take m, rfl, ⟨by rw [List.length_take]; omega, by omega⟩, TT, RD, fun _ => ⟨ga, 0, rfl, by omega⟩⟩, (hc5.setn (by omega) _).setn (by omega) _, gr_setn (gr_setn G5 (by omega) _) (Nat.le_refl _) _⟩
  have q3 : (x == 3) = false := by simp [h3]
  have hne := own_blk_ne O5.1 R5 (by decide)
  have RD := (Row.mk (ownsRow_setCell_other (a := ⟨w.heap.size, 0, none⟩) O5.1 hne (.slice (some ⟨ga, 0, none⟩) ns.length c3))).reads
  have pX := X5.cell
  have pR := R5.cell
  have fR := R5.frozen
  go_wp2_with fail
  exact bodyPost_ret (res_cell1 rfl _ _ _ _ _ _ rfl (R5.set_ 0 _) Try.underlying30 (by kernel_rfl)) rfl ⟨⟨_, _, _, ns, rfl, ⟨rfl, hn⟩, hnt, RD, fun _ => ⟨ga, 0, rfl, by omega⟩⟩, hc5.setn (by omega) _, gr_setn G5 (Nat.le_refl _) _⟩

end Go.Proofs.Ytnoekbgmhnhneaa
