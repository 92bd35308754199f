/- Walks over the reference's draws: DrawRexText, DrawParseRex. -/
import Derived.Test.YtdfcgnbklnceiaaRexF
import Derived.Test.YtdfcgnbklnceiaaParL
namespace Go.Proofs.Ytdfcgnbklnceiaa
open Go.RowKit

theorem three_of : ∀ {fr : Fr (Int × ByteArray)}, FrOk qThree fr → FrOk qSmall fr
  | .nil, _ => trivial
  | .cons _ _ _, h => ⟨Nat.le_trans h.1 (by decide), h.2.1, three_of h.2.2.1, three_of h.2.2.2⟩
theorem wt_three : ∀ {fr : Fr (Int × ByteArray)}, FrOk qThree fr → wt gRex fr ≤ 4 * fr.size
  | .nil, _ => Nat.le_refl _
  | .cons a k r, h => by
    have h1 := wt_three h.2.2.1
    have h2 := wt_three h.2.2.2
    have h3 : a.2.size ≤ 3 := h.1
    simp only [wt, gRex, Fr.size]
    omega
set_option maxRecDepth 20000 in
set_option maxHeartbeats 2000000 in
theorem dRexText (A0 : Option Addr) (n0 c0 : Nat) (bs : List Int) (w : World) (hR : Reads w w.heap.size 1 A0 n0 (u8s bs)) (hZ : Byt bs) (hn : n0 ≤ 1048576) :
    Calls Try.prog 37 #[.slice A0 n0 c0] w fun e w' => RetAny w e w' ∧ Below w.heap.size w w' := by
  have R0 := Blk.new w 30 #[.int .i64 0, .string ⟨#[]⟩, .slice none 0 0]
  have L0 := bl_alloc (Below.refl w.heap.size w) (.cells #[.int .i64 0, .string ⟨#[]⟩, .slice none 0 0] 30)
  have hR0 := hR.alloc (Nat.le_refl _) (.cells #[.int .i64 0, .string ⟨#[]⟩, .slice none 0 0] 30)
  have es := Nat.le_of_eq (alloc_size w (.cells #[.int .i64 0, .string ⟨#[]⟩, .slice none 0 0] 30)).symm
  go_enter Try.func37, Try.ntmps37
  go_wp2_with fail
  refine (dNew w.heap.size n0 c0 A0 bs _ hR0 hZ (by omega) hn).mono ?_; rintro e w1 ⟨g, rfl, hc1, hg, b1⟩
  have L1 := bl_trans L0 b1
  have R1 := R0.keep b1
  have hgw : w.heap.size < g := by omega
  have hg1 := hc1.lt
  clear R0 L0 hR0 b1 hg es
  go_wp2_with fail
  refine (dAny w.heap.size g _ hc1).mono ?_; rintro e w2 ⟨⟨zk, zs, kids, A, c, rfl, hS2, hsm⟩, hc2, G2⟩
  have R2 := R1.grown G2 (by simp; omega)
  have s2 := G2.size
  have L2 := bl_gr L1 G2 (fun k e => by cases e; omega)
  have r2 := R2.cell
  have f2 := R2.frozen
  go_wp2_with fail
  exact bodyPost_ret (res_cell1 rfl _ _ _ _ _ _ rfl (((R2.set_ 0 _).set_ 1 _).set_ 2 _) Try.underlying30 (by kernel_rfl)) rfl ⟨⟨zk, zs, kids, A, c, rfl, (((hS2.setb (.inl (by omega)) _).setb (.inl (by omega)) _).setb (.inl (by omega)) _).more (by omega) (by simp), hsm⟩, bl_setb (bl_setb (bl_setb L2 (Nat.le_refl _) _) (Nat.le_refl _) _) (Nat.le_refl _) _⟩
theorem rexB_good {k : Int} {s : ByteArray} {kids : Fr (Int × ByteArray)} (h : goodR 3 k s kids) : rexB k s kids = true := by
  unfold rexB
  have h3 : kids.size + 1 ≤ 40 := h.2.2.1
  have h2 : okG hereB 2 kids = true := h.2.1 1 (by omega)
  rw [h.1, h2, decide_eq_true (by omega)]
  rfl

set_option maxRecDepth 20000 in
set_option maxHeartbeats 4000000 in
theorem dParse (A0 : Option Addr) (n0 c0 : Nat) (bs : List Int) (w : World) (hR : Reads w w.heap.size 1 A0 n0 (u8s bs)) (hZ : Byt bs) (hn : n0 ≤ 1048576) :
    Calls Try.prog 39 #[.slice A0 n0 c0] w fun e w' => RetS (fun s => s.size ≤ 2000) e ∧ Below w.heap.size w w' := by
  go_enter Try.func39, Try.ntmps39
  go_wp2_with fail
  refine (dNew w.heap.size n0 c0 A0 bs _ hR hZ (by omega) hn).mono ?_; rintro e w1 ⟨g, rfl, hc1, hg, L1⟩
  go_wp2_with fail
  refine (dDraw w.heap.size g 3 (by omega) _ hc1).mono ?_; rintro e w2 ⟨⟨zk, zs, kids, A, c, rfl, hS2, hgood⟩, hc2, G2⟩
  have L2 := bl_gr L1 G2 (fun k e => by cases e; omega)
  have hb := rexB_good hgood
  have hkl : kids.size + 1 ≤ 40 := hgood.2.2.1
  have hzl : zs.size ≤ 3 := hgood.2.2.2.1
  have hwt := wt_three hgood.2.2.2.2
  have hT : (rexTx zk zs kids).size ≤ 1000 := by unfold rexTx; rw [if_pos hb]; exact (rexB_small hb).2.2.2
  have C := sRexText zk zs kids A c w2 (by omega) (by omega) (three_of hgood.2.2.2.2) (by omega) (hS2.more (Nat.zero_le _) (Nat.le_refl _))
  obtain ⟨T, hTe⟩ : ∃ T, rexTx zk zs kids = T := ⟨_, rfl⟩
  rw [hTe] at C hT
  have CC := Lib.hid C
  clear C hTe hS2 hgood hb hkl hzl hwt
  go_wp2_with fail
  refine CC.out.mono ?_; rintro e w3 ⟨rfl, b3⟩
  have hc3 := hc2.keep b3
  have L3 := bl_trans L2 b3
  clear CC
  go_wp2_with fail
  refine (dBelow w.heap.size g 5 _ hc3 (by omega)).mono ?_; rintro e w4 ⟨⟨x, rfl, hx0, hx1, _⟩, hc4, hg4⟩
  have L4 := bl_gr L3 hg4 (fun k e => by cases e; omega)
  clear hx0 hx1
  by_cases x0 : x = 0
  · subst x0
    go_wp2_with fail
    refine (dStr w.heap.size g w4.heap.size 14 [⟨#[]⟩, ⟨#[40, 97, 41]⟩, ⟨#[97, 42, 42]⟩, ⟨#[91, 98, 97, 93]⟩, ⟨#[91]⟩, ⟨#[97, 124]⟩, ⟨#[40, 41]⟩, ⟨#[40, 97, 98, 41, 99]⟩, ⟨#[97, 41]⟩, ⟨#[92]⟩, ⟨#[40, 97, 124, 98, 41, 124, 99]⟩, ⟨#[120, 40, 97, 124, 98, 41, 42, 36]⟩, ⟨#[94]⟩, ⟨#[42]⟩] _ (hc4.alloc _) rfl (by omega) (by omega) (Blk.new w4 _ _) (by have := hc4.lt; omega)).mono ?_; rintro e w5 ⟨⟨z, rfl, hz⟩, hc5, hg5⟩
    have hzz := (show ∀ z ∈ ([⟨#[]⟩, ⟨#[40, 97, 41]⟩, ⟨#[97, 42, 42]⟩, ⟨#[91, 98, 97, 93]⟩, ⟨#[91]⟩, ⟨#[97, 124]⟩, ⟨#[40, 41]⟩, ⟨#[40, 97, 98, 41, 99]⟩, ⟨#[97, 41]⟩, ⟨#[92]⟩, ⟨#[40, 97, 124, 98, 41, 124, 99]⟩, ⟨#[120, 40, 97, 124, 98, 41, 42, 36]⟩, ⟨#[94]⟩, ⟨#[42]⟩] : List ByteArray), z.size ≤ 2000 by decide) z hz
    have L5 := bl_gr (bl_alloc L4 _) hg5 (fun k e => by cases e; omega)
    clear hz
    go_wp2_with fail
    go_ret
    exact ⟨⟨z, rfl, hzz⟩, L5⟩
  have b0 : (x == 0) = false := by simp [x0]
  by_cases x1 : x = 1
  · subst x1
    have ew : IntKind.i64.wrap ((T.size : Int) + 1) = (T.size : Int) + 1 := IntWalk.i64_in _ (by omega)
    go_wp2_with fail
    refine (dBelow w.heap.size g ((T.size : Int) + 1) _ hc4 (by omega)).mono ?_; rintro e w4 ⟨⟨y, rfl, hy0, hy1, _⟩, hc4, hg4⟩
    have L4 := bl_gr L4 hg4 (fun k e => by cases e; omega)
    have hy2 : y ≤ T.size := by have := hy1 (by omega); omega
    clear hy1
    go_upto_region 8 with fail
    refine wp_region_held_drew (S := fun x : World => Cur w.heap.size x g) (by kernel_rfl) ?_ (fun hHeld => ?_)
    · exact hc4.drew1 1
    refine wpAnyH_take (i := 0) (oi := ⟨some 25, _, _, _, _, _⟩) (v := ?_) rfl (by kernel_rfl) (by kernel_rfl) (by kernel_rfl) (fun _ _ _ h => h) (Or.inl ⟨by rfl, ?_⟩) (by assumption) ?_
    case refine_2 => (intro w hSw; skip; go_simp; first | done | with_reducible rfl)
    simp only [Act.put, List.setIfInBounds_toArray, List.set_cons_zero, List.set_cons_succ]
    refine wpAnyH_take (i := 1) (oi := ⟨some 26, _, _, _, _, _⟩) (v := ?_) rfl (by kernel_rfl) (by kernel_rfl) (by kernel_rfl) (fun _ _ _ h => h) (Or.inl ⟨by rfl, ?_⟩) (by assumption) ?_
    case refine_2 => (intro w hSw; skip; go_simp; first | done | with_reducible rfl)
    simp only [Act.put, List.setIfInBounds_toArray, List.set_cons_zero, List.set_cons_succ]
    refine wpAnyH_take (i := 2) (oi := ⟨some 27, _, _, _, _, _⟩) (v := ?_) rfl (by kernel_rfl) (by kernel_rfl) (by kernel_rfl) (fun _ _ _ h => h) (Or.inl ⟨by rfl, ?_⟩) (by assumption) ?_
    case refine_2 => (intro w hSw; skip; go_simp; first | done | with_reducible rfl)
    simp only [Act.put, List.setIfInBounds_toArray, List.set_cons_zero, List.set_cons_succ]
    refine wpAnyH_take (i := 3) (oi := ⟨some 28, _, _, _, _, _⟩) (v := ?_) rfl (by kernel_rfl) (by kernel_rfl) (by kernel_rfl) (fun _ _ _ h => h) (Or.inl ⟨by rfl, ?_⟩) (by assumption) ?_
    case refine_2 => (intro w hSw; skip; go_simp; first | done | with_reducible rfl)
    simp only [Act.put, List.setIfInBounds_toArray, List.set_cons_zero, List.set_cons_succ]
    refine wpAnyH_take (i := 7) (oi := ⟨some 32, _, _, _, _, _⟩) (v := ?_) rfl (by kernel_rfl) (by kernel_rfl) (by kernel_rfl) (fun _ _ _ h => h) (Or.inl ⟨by rfl, ?_⟩) (by assumption) ?_
    case refine_2 => (intro w hSw; skip; go_simp; first | done | with_reducible rfl)
    simp only [Act.put, List.setIfInBounds_toArray, List.set_cons_zero, List.set_cons_succ]
    refine wpAnyH_take (i := 8) (oi := ⟨some 33, _, _, _, _, _⟩) (v := ?_) rfl (by kernel_rfl) (by kernel_rfl) (by kernel_rfl) (fun _ _ _ h => h) (Or.inl ⟨by rfl, ?_⟩) (by assumption) ?_
    case refine_2 => (intro w hSw; skip; go_simp; first | done | with_reducible rfl)
    simp only [Act.put, List.setIfInBounds_toArray, List.set_cons_zero, List.set_cons_succ]
    refine wpAnyH_take (i := 9) (oi := ⟨some 34, _, _, _, _, _⟩) (v := ?_) rfl (by kernel_rfl) (by kernel_rfl) (by kernel_rfl) (fun _ _ _ h => h) (Or.inl ⟨by rfl, ?_⟩) (by assumption) ?_
    case refine_2 => (intro w hSw; skip; go_simp; first | done | with_reducible rfl)
    simp only [Act.put, List.setIfInBounds_toArray, List.set_cons_zero, List.set_cons_succ]
    refine wpAnyH_ready (rs := [4]) (by kernel_rfl) (by simp) ?_
    refine AllReadyH.cons (o := ⟨some 29, _, _, _, _, _⟩) rfl (fun K hK => ?_) AllReadyH.nil
    go_simp
    go_wp2_with fail
    refine hK.out _ _ (hc4.drew1 1 |>.alloc _) (fun hHeld => ?_)
    clear hK K
    try simp only [Act.put, List.setIfInBounds_toArray, List.set_cons_zero, List.set_cons_succ]
    refine wpAnyH_ready (rs := [5]) (by kernel_rfl) (by simp) ?_
    refine AllReadyH.cons (o := ⟨some 30, _, _, _, _, _⟩) rfl (fun K hK => ?_) AllReadyH.nil
    go_simp
    refine (dStr w.heap.size g w4.drew.heap.size 6 [⟨#[40]⟩, ⟨#[41]⟩, ⟨#[42]⟩, ⟨#[124]⟩, ⟨#[91]⟩, ⟨#[97]⟩] _ ((hc4.drew1 1).alloc _) rfl (by omega) (by omega) (Blk.new w4.drew _ _) (by have := hc4.lt; show w4.heap.size ≠ g; omega)).mono ?_; rintro e w5 ⟨⟨z, rfl, hz⟩, hc5, hg5⟩
    go_wp2_with fail
    refine hK.out _ _ (hc5) (fun hHeld => ?_)
    clear hK K
    try simp only [Act.put, List.setIfInBounds_toArray, List.set_cons_zero, List.set_cons_succ]
    have hzz := (show ∀ z ∈ ([⟨#[40]⟩, ⟨#[41]⟩, ⟨#[42]⟩, ⟨#[124]⟩, ⟨#[91]⟩, ⟨#[97]⟩] : List ByteArray), z.size ≤ 2 by decide) z hz
    clear hz
    have hcc1 : ¬ 9223372036854775807 < y.toNat + z.size := by omega
    have hcc2 : ¬ 9223372036854775807 < y.toNat + z.size + (T.size - y.toNat) := by omega
    refine wpAnyH_take (i := 6) (oi := ⟨some 31, _, _, _, _, _⟩) (v := ?_) rfl (by kernel_rfl) (by kernel_rfl) (by kernel_rfl) (fun _ _ _ h => h) (Or.inl ⟨by rfl, ?_⟩) (by assumption) ?_
    case refine_2 => (intro w hSw; skip; go_simp; first | done | with_reducible rfl)
    simp only [Act.put, List.setIfInBounds_toArray, List.set_cons_zero, List.set_cons_succ]
    refine wpAnyH_take (i := 10) (oi := ⟨some 35, _, _, _, _, _⟩) (v := ?_) rfl (by kernel_rfl) (by kernel_rfl) (by kernel_rfl) (fun _ _ _ h => h) (Or.inl ⟨by rfl, ?_⟩) (by assumption) ?_
    case refine_2 => (intro w hSw; skip; go_simp; first | done | with_reducible rfl)
    simp only [Act.put, List.setIfInBounds_toArray, List.set_cons_zero, List.set_cons_succ]
    refine wpAnyH_take (i := 11) (oi := ⟨some 2, _, _, _, _, _⟩) (v := ?_) rfl (by kernel_rfl) (by kernel_rfl) (by kernel_rfl) (fun _ _ _ h => h) (Or.inl ⟨by rfl, ?_⟩) (by assumption) ?_
    case refine_2 => (intro w hSw; skip; go_simp; first | done | with_reducible rfl)
    simp only [Act.put, List.setIfInBounds_toArray, List.set_cons_zero, List.set_cons_succ]
    refine wpAnyH_done (by kernel_rfl) ?_ _
    have L5 := bl_gr (bl_alloc (bl_drewN L4 1) _) hg5 (fun k e => by cases e; omega)
    go_wp2_with fail
    go_ret
    refine ⟨⟨_, rfl, ?_⟩, L5⟩
    simp only [ByteArray.size_append, ByteArray.size_extract]
    omega
  have b1 : (x == 1) = false := by simp [x1]
  go_wp2_with fail
  go_ret
  exact ⟨⟨T, rfl, by omega⟩, L4⟩

end Go.Proofs.Ytdfcgnbklnceiaa
