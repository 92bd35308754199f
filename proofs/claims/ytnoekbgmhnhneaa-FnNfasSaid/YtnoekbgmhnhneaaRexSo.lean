/- Walk over the reference's l3Ok: is a regular expression right, but for how many parts it has. -/
import Derived.Test.YtnoekbgmhnhneaaQ1
import Derived.Deep.RegionHeld3
namespace Go.Proofs.Ytnoekbgmhnhneaa
open Go.RowKit

theorem okS_no {pk : Int} {x : Fr (Int × ByteArray)} {i : Nat} {a : (Int × ByteArray)} {k : Fr (Int × ByteArray)} (h : x.drop i = .cons a k (x.drop (i + 1))) (hn : ((okS a.1 k && swB a.1 a.2 k) && !(a.1 == pk && !repB pk)) = false) : okS pk (x.drop i) = false := by rw [h, okS, hn, Bool.false_and]
theorem okS_yes {pk : Int} {x : Fr (Int × ByteArray)} {i : Nat} {a : (Int × ByteArray)} {k : Fr (Int × ByteArray)} (h : x.drop i = .cons a k (x.drop (i + 1))) (hn : ((okS a.1 k && swB a.1 a.2 k) && !(a.1 == pk && !repB pk)) = true) : okS pk (x.drop i) = okS pk (x.drop (i + 1)) := by rw [h, okS, hn, Bool.true_and]
set_option maxHeartbeats 4000000 in
theorem sOk_step (K : Nat) (zk : Int) (zs : ByteArray) (kids : Fr (Int × ByteArray)) (A : Option Addr) (c : Nat) (w : World) (hK : kids.size ≤ K) (hl : kids.size ≤ 1048576) (hz : zs.size ≤ 1048576) (hq : FrOk qSmall kids) (hS : Sl rexC w 0 w.heap.size A kids)
    (ih : ∀ (kids : Fr (Int × ByteArray)), kids.size < K → FrOk qSmall kids → ∀ (zk : Int) (zs : ByteArray) (A : Option Addr) (c : Nat) (w : World), zs.size ≤ 1048576 → Sl rexC w 0 w.heap.size A kids → Calls Try.prog 81 #[.agg #[.int .i64 zk, .string zs, .slice A kids.len c]] w fun e w' => e = .returned (.bool (okS zk kids && swB zk zs kids)) ∧ Below w.heap.size w w') :
    Calls Try.prog 81 #[.agg #[.int .i64 zk, .string zs, .slice A kids.len c]] w fun e w' => e = .returned (.bool (okS zk kids && swB zk zs kids)) ∧ Below w.heap.size w w' := by
  have B := Blk.new w 45 #[.int .i64 zk, .string zs, .slice A kids.len c]
  have L0 := bl_alloc (Below.refl w.heap.size w) (.cells #[.int .i64 zk, .string zs, .slice A kids.len c] 45)
  have hlen := kids.len_size
  have IHH := Lib.hid ih
  have HQ := Lib.hid hq
  obtain ⟨R, hR⟩ : ∃ R, okS zk kids = R := ⟨_, rfl⟩
  rw [hR]
  have HR := Lib.hid hR
  clear ih hq hR
  go_enter Try.func81, Try.ntmps81
  go_wp2_with fail
  go_loopw [3] (fun i wr => ∃ k : Nat, k ≤ kids.len ∧ i = .int .i64 k ∧ okS zk (kids.drop k) = R ∧ Blk wr w.heap.size 45 #[.int .i64 zk, .string zs, .slice A kids.len c] ∧ Below w.heap.size w wr) (fun i _ => kids.len - (intOf i).toNat)
  case atStart => exact ⟨0, Nat.zero_le _, rfl, by rw [Fr.drop_zero]; exact HR.out, B, L0⟩
  case round =>
    obtain ⟨k, hk, rfl, hE, hB, hL⟩ := hrel
    have cb := hB.cell
    by_cases hlt : k < kids.len
    · obtain ⟨b, o, a, k1, A1, c1, rfl, hb, hd, hks, hSk, q0, q1, q2⟩ := at_Rex (hS.below hL (Nat.le_refl _)) hlt
      have hqk := FrOk.drop k HQ.out
      rw [hd] at hqk
      obtain ⟨hqa, _, hqk, _⟩ := hqk
      obtain ⟨yk, ys⟩ := a
      simp only at q0 q1
      have hlt' : (k : Int) < (kids.len : Int) := by omega
      have hbb : b < wr.heap.size := Nat.lt_of_lt_of_le hb hL.size
      have cZ := fun w h => IHH.out k1 (by omega) hqk yk ys A1 c1 w hqa h
      obtain ⟨z, hz⟩ : ∃ z, (okS yk k1 && swB yk ys k1) = z := ⟨_, rfl⟩
      rw [hz] at cZ
      have CZ := Lib.hid cZ
      clear cZ
      cases z
      · rw [okS_no hd (by rw [hz, Bool.false_and])] at hE
        subst hE
        clear hd hz HR hqk
        go_wp2_with fail
        refine wp_region_held_drew (S := (fun x => Blk x w.heap.size 45 #[.int .i64 zk, .string zs, .slice (some ⟨b, o, none⟩) kids.len c] ∧ (x.cell? ⟨b, o + k * 3, none⟩ = some (.int .i64 yk) ∧ x.cell? ⟨b, o + k * 3 + 1, none⟩ = some (.string ys) ∧ x.cell? ⟨b, o + k * 3 + 2, none⟩ = some (.slice A1 k1.len c1)) ∧ Sl rexC x 0 wr.heap.size A1 k1 ∧ wr.heap.size ≤ x.heap.size)) (by kernel_rfl) ?_ (fun hHeld => ?_)
        · exact ⟨hB.drew, ⟨q0, q1, q2⟩, hSk.keep (fun _ _ _ => rfl) (Nat.le_refl _) hL.size, Nat.le_refl _⟩
        refine wpAnyH_take (i := 0) (oi := ⟨some 11, _, _, _, _, _⟩) (v := ?_) rfl (by kernel_rfl) (by kernel_rfl) (by kernel_rfl) (fun _ _ _ h => h) (Or.inl ⟨by rfl, ?_⟩) (by assumption) ?_
        case refine_2 => (intro w hSw; obtain ⟨hx1, ⟨p0, p1, p2⟩, _, _⟩ := hSw; have d1 := hx1.cell; go_simp; first | done | with_reducible rfl)
        simp only [Act.put, List.setIfInBounds_toArray, List.set_cons_zero, List.set_cons_succ]
        refine wpAnyH_take (i := 1) (oi := ⟨some 12, _, _, _, _, _⟩) (v := ?_) rfl (by kernel_rfl) (by kernel_rfl) (by kernel_rfl) (fun _ _ _ h => h) (Or.inl ⟨by rfl, ?_⟩) (by assumption) ?_
        case refine_2 => (intro w hSw; obtain ⟨hx1, ⟨p0, p1, p2⟩, _, _⟩ := hSw; have d1 := hx1.cell; go_simp; first | done | with_reducible rfl)
        simp only [Act.put, List.setIfInBounds_toArray, List.set_cons_zero, List.set_cons_succ]
        refine wpAnyH_take (i := 2) (oi := ⟨some 13, _, _, _, _, _⟩) (v := ?_) rfl (by kernel_rfl) (by kernel_rfl) (by kernel_rfl) (fun _ _ _ h => h) (Or.inl ⟨by rfl, ?_⟩) (by assumption) ?_
        case refine_2 => (intro w hSw; obtain ⟨hx1, ⟨p0, p1, p2⟩, _, _⟩ := hSw; have d1 := hx1.cell; go_simp; first | done | with_reducible rfl)
        simp only [Act.put, List.setIfInBounds_toArray, List.set_cons_zero, List.set_cons_succ]
        refine wpAnyH_take (i := 3) (oi := ⟨some 14, _, _, _, _, _⟩) (v := ?_) rfl (by kernel_rfl) (by kernel_rfl) (by kernel_rfl) (fun _ _ _ h => h) (Or.inl ⟨by rfl, ?_⟩) (by assumption) ?_
        case refine_2 => (intro w hSw; obtain ⟨hx1, ⟨p0, p1, p2⟩, _, _⟩ := hSw; have d1 := hx1.cell; go_simp; first | done | with_reducible rfl)
        simp only [Act.put, List.setIfInBounds_toArray, List.set_cons_zero, List.set_cons_succ]
        refine wpAnyH_take (i := 4) (oi := ⟨some 15, _, _, _, _, _⟩) (v := ?_) rfl (by kernel_rfl) (by kernel_rfl) (by kernel_rfl) (fun _ _ _ h => h) (Or.inl ⟨by rfl, ?_⟩) (by assumption) ?_
        case refine_2 => (intro w hSw; obtain ⟨hx1, ⟨p0, p1, p2⟩, _, _⟩ := hSw; have d1 := hx1.cell; go_simp; first | done | with_reducible rfl)
        simp only [Act.put, List.setIfInBounds_toArray, List.set_cons_zero, List.set_cons_succ]
        refine wpAnyH_ready (rs := [5]) (by kernel_rfl) (by simp) ?_
        refine AllReadyH.cons (o := ⟨some 16, _, _, _, _, _⟩) rfl (fun K hK => ?_) AllReadyH.nil
        go_simp
        refine (CZ.out _ (hHeld.2.2.1.more (Nat.le_refl _) hHeld.2.2.2)).mono ?_; rintro e w1 ⟨rfl, b1⟩
        go_wp2_with fail
        refine hK.out _ _ (⟨hHeld.1.keep b1, ⟨(b1.cell (Nat.lt_of_lt_of_le hbb hHeld.2.2.2)).trans hHeld.2.1.1, (b1.cell (Nat.lt_of_lt_of_le hbb hHeld.2.2.2)).trans hHeld.2.1.2.1, (b1.cell (Nat.lt_of_lt_of_le hbb hHeld.2.2.2)).trans hHeld.2.1.2.2⟩, hHeld.2.2.1.below b1 hHeld.2.2.2, Nat.le_trans hHeld.2.2.2 b1.size⟩) (fun hHeld => ?_)
        clear hK K
        try simp only [Act.put, List.setIfInBounds_toArray, List.set_cons_zero, List.set_cons_succ]
        refine wpAnyH_take (i := 6) (oi := ⟨some 17, _, _, _, _, _⟩) (v := ?_) rfl (by kernel_rfl) (by kernel_rfl) (by kernel_rfl) (fun _ _ _ h => h) (Or.inl ⟨by rfl, ?_⟩) (by assumption) ?_
        case refine_2 => (intro w hSw; obtain ⟨hx1, ⟨p0, p1, p2⟩, _, _⟩ := hSw; have d1 := hx1.cell; go_simp; first | done | with_reducible rfl)
        simp only [Act.put, List.setIfInBounds_toArray, List.set_cons_zero, List.set_cons_succ]
        refine wpAnyH_take (i := 7) (oi := ⟨some 18, _, _, _, _, _⟩) (v := ?_) rfl (by kernel_rfl) (by kernel_rfl) (by kernel_rfl) (fun _ _ _ h => h) (Or.inl ⟨by rfl, ?_⟩) (by assumption) ?_
        case refine_2 => (intro w hSw; obtain ⟨hx1, ⟨p0, p1, p2⟩, _, _⟩ := hSw; have d1 := hx1.cell; go_simp; first | done | with_reducible rfl)
        simp only [Act.put, List.setIfInBounds_toArray, List.set_cons_zero, List.set_cons_succ]
        refine wpAnyH_take (i := 8) (oi := ⟨some 19, _, _, _, _, _⟩) (v := undef) rfl (by kernel_rfl) (by kernel_rfl) (by kernel_rfl) (fun _ _ _ h => h) (Or.inr ⟨by rfl, rfl⟩) (by assumption) ?_
        simp only [Act.put, List.setIfInBounds_toArray, List.set_cons_zero, List.set_cons_succ]
        refine wpAnyH_take (i := 9) (oi := ⟨some 20, _, _, _, _, _⟩) (v := undef) rfl (by kernel_rfl) (by kernel_rfl) (by kernel_rfl) (fun _ _ _ h => h) (Or.inr ⟨by rfl, rfl⟩) (by assumption) ?_
        simp only [Act.put, List.setIfInBounds_toArray, List.set_cons_zero, List.set_cons_succ]
        refine wpAnyH_take (i := 10) (oi := ⟨some 21, _, _, _, _, _⟩) (v := undef) rfl (by kernel_rfl) (by kernel_rfl) (by kernel_rfl) (fun _ _ _ h => h) (Or.inr ⟨by rfl, rfl⟩) (by assumption) ?_
        simp only [Act.put, List.setIfInBounds_toArray, List.set_cons_zero, List.set_cons_succ]
        refine wpAnyH_take (i := 11) (oi := ⟨some 22, _, _, _, _, _⟩) (v := undef) rfl (by kernel_rfl) (by kernel_rfl) (by kernel_rfl) (fun _ _ _ h => h) (Or.inr ⟨by rfl, rfl⟩) (by assumption) ?_
        simp only [Act.put, List.setIfInBounds_toArray, List.set_cons_zero, List.set_cons_succ]
        refine wpAnyH_take (i := 12) (oi := ⟨some 23, _, _, _, _, _⟩) (v := undef) rfl (by kernel_rfl) (by kernel_rfl) (by kernel_rfl) (fun _ _ _ h => h) (Or.inr ⟨by rfl, rfl⟩) (by assumption) ?_
        simp only [Act.put, List.setIfInBounds_toArray, List.set_cons_zero, List.set_cons_succ]
        refine wpAnyH_take (i := 13) (oi := ⟨some 24, _, _, _, _, _⟩) (v := undef) rfl (by kernel_rfl) (by kernel_rfl) (by kernel_rfl) (fun _ _ _ h => h) (Or.inr ⟨by rfl, rfl⟩) (by assumption) ?_
        simp only [Act.put, List.setIfInBounds_toArray, List.set_cons_zero, List.set_cons_succ]
        refine wpAnyH_take (i := 14) (oi := ⟨some 25, _, _, _, _, _⟩) (v := undef) rfl (by kernel_rfl) (by kernel_rfl) (by kernel_rfl) (fun _ _ _ h => h) (Or.inr ⟨by rfl, rfl⟩) (by assumption) ?_
        simp only [Act.put, List.setIfInBounds_toArray, List.set_cons_zero, List.set_cons_succ]
        refine wpAnyH_take (i := 15) (oi := ⟨some 26, _, _, _, _, _⟩) (v := undef) rfl (by kernel_rfl) (by kernel_rfl) (by kernel_rfl) (fun _ _ _ h => h) (Or.inr ⟨by rfl, rfl⟩) (by assumption) ?_
        simp only [Act.put, List.setIfInBounds_toArray, List.set_cons_zero, List.set_cons_succ]
        refine wpAnyH_take (i := 16) (oi := ⟨some 27, _, _, _, _, _⟩) (v := undef) rfl (by kernel_rfl) (by kernel_rfl) (by kernel_rfl) (fun _ _ _ h => h) (Or.inr ⟨by rfl, rfl⟩) (by assumption) ?_
        simp only [Act.put, List.setIfInBounds_toArray, List.set_cons_zero, List.set_cons_succ]
        refine wpAnyH_take (i := 17) (oi := ⟨some 28, _, _, _, _, _⟩) (v := undef) rfl (by kernel_rfl) (by kernel_rfl) (by kernel_rfl) (fun _ _ _ h => h) (Or.inr ⟨by rfl, rfl⟩) (by assumption) ?_
        simp only [Act.put, List.setIfInBounds_toArray, List.set_cons_zero, List.set_cons_succ]
        refine wpAnyH_take (i := 18) (oi := ⟨some 29, _, _, _, _, _⟩) (v := undef) rfl (by kernel_rfl) (by kernel_rfl) (by kernel_rfl) (fun _ _ _ h => h) (Or.inr ⟨by rfl, rfl⟩) (by assumption) ?_
        simp only [Act.put, List.setIfInBounds_toArray, List.set_cons_zero, List.set_cons_succ]
        refine wpAnyH_take (i := 19) (oi := ⟨some 30, _, _, _, _, _⟩) (v := undef) rfl (by kernel_rfl) (by kernel_rfl) (by kernel_rfl) (fun _ _ _ h => h) (Or.inr ⟨by rfl, rfl⟩) (by assumption) ?_
        simp only [Act.put, List.setIfInBounds_toArray, List.set_cons_zero, List.set_cons_succ]
        refine wpAnyH_take (i := 20) (oi := ⟨some 31, _, _, _, _, _⟩) (v := undef) rfl (by kernel_rfl) (by kernel_rfl) (by kernel_rfl) (fun _ _ _ h => h) (Or.inr ⟨by rfl, rfl⟩) (by assumption) ?_
        simp only [Act.put, List.setIfInBounds_toArray, List.set_cons_zero, List.set_cons_succ]
        refine wpAnyH_take (i := 21) (oi := ⟨some 32, _, _, _, _, _⟩) (v := undef) rfl (by kernel_rfl) (by kernel_rfl) (by kernel_rfl) (fun _ _ _ h => h) (Or.inr ⟨by rfl, rfl⟩) (by assumption) ?_
        simp only [Act.put, List.setIfInBounds_toArray, List.set_cons_zero, List.set_cons_succ]
        refine wpAnyH_take (i := 22) (oi := ⟨some 33, _, _, _, _, _⟩) (v := undef) rfl (by kernel_rfl) (by kernel_rfl) (by kernel_rfl) (fun _ _ _ h => h) (Or.inr ⟨by rfl, rfl⟩) (by assumption) ?_
        simp only [Act.put, List.setIfInBounds_toArray, List.set_cons_zero, List.set_cons_succ]
        refine wpAnyH_take (i := 23) (oi := ⟨some 34, _, _, _, _, _⟩) (v := ?_) rfl (by kernel_rfl) (by kernel_rfl) (by kernel_rfl) (fun _ _ _ h => h) (Or.inl ⟨by rfl, ?_⟩) (by assumption) ?_
        case refine_2 => (intro w hSw; obtain ⟨hx1, ⟨p0, p1, p2⟩, _, _⟩ := hSw; have d1 := hx1.cell; go_simp; first | done | with_reducible rfl)
        simp only [Act.put, List.setIfInBounds_toArray, List.set_cons_zero, List.set_cons_succ]
        refine wpAnyH_done (by kernel_rfl) ?_ _
        go_wp2_with fail
        go_ret
        exact ⟨rfl, bl_trans hL.drew b1⟩
      · cases hs : (yk == zk)
        · have HE := Lib.hid ((okS_yes hd (by rw [hz, hs]; rfl)).symm.trans hE)
          clear hd hz HR hqk hE
          go_wp2_with fail
          refine wp_region_held_drew (S := (fun x => Blk x w.heap.size 45 #[.int .i64 zk, .string zs, .slice (some ⟨b, o, none⟩) kids.len c] ∧ (x.cell? ⟨b, o + k * 3, none⟩ = some (.int .i64 yk) ∧ x.cell? ⟨b, o + k * 3 + 1, none⟩ = some (.string ys) ∧ x.cell? ⟨b, o + k * 3 + 2, none⟩ = some (.slice A1 k1.len c1)) ∧ Sl rexC x 0 wr.heap.size A1 k1 ∧ wr.heap.size ≤ x.heap.size)) (by kernel_rfl) ?_ (fun hHeld => ?_)
          · exact ⟨hB.drew, ⟨q0, q1, q2⟩, hSk.keep (fun _ _ _ => rfl) (Nat.le_refl _) hL.size, Nat.le_refl _⟩
          refine wpAnyH_take (i := 0) (oi := ⟨some 11, _, _, _, _, _⟩) (v := ?_) rfl (by kernel_rfl) (by kernel_rfl) (by kernel_rfl) (fun _ _ _ h => h) (Or.inl ⟨by rfl, ?_⟩) (by assumption) ?_
          case refine_2 => (intro w hSw; obtain ⟨hx1, ⟨p0, p1, p2⟩, _, _⟩ := hSw; have d1 := hx1.cell; go_simp; first | done | with_reducible rfl)
          simp only [Act.put, List.setIfInBounds_toArray, List.set_cons_zero, List.set_cons_succ]
          refine wpAnyH_take (i := 1) (oi := ⟨some 12, _, _, _, _, _⟩) (v := ?_) rfl (by kernel_rfl) (by kernel_rfl) (by kernel_rfl) (fun _ _ _ h => h) (Or.inl ⟨by rfl, ?_⟩) (by assumption) ?_
          case refine_2 => (intro w hSw; obtain ⟨hx1, ⟨p0, p1, p2⟩, _, _⟩ := hSw; have d1 := hx1.cell; go_simp; first | done | with_reducible rfl)
          simp only [Act.put, List.setIfInBounds_toArray, List.set_cons_zero, List.set_cons_succ]
          refine wpAnyH_take (i := 2) (oi := ⟨some 13, _, _, _, _, _⟩) (v := ?_) rfl (by kernel_rfl) (by kernel_rfl) (by kernel_rfl) (fun _ _ _ h => h) (Or.inl ⟨by rfl, ?_⟩) (by assumption) ?_
          case refine_2 => (intro w hSw; obtain ⟨hx1, ⟨p0, p1, p2⟩, _, _⟩ := hSw; have d1 := hx1.cell; go_simp; first | done | with_reducible rfl)
          simp only [Act.put, List.setIfInBounds_toArray, List.set_cons_zero, List.set_cons_succ]
          refine wpAnyH_take (i := 3) (oi := ⟨some 14, _, _, _, _, _⟩) (v := ?_) rfl (by kernel_rfl) (by kernel_rfl) (by kernel_rfl) (fun _ _ _ h => h) (Or.inl ⟨by rfl, ?_⟩) (by assumption) ?_
          case refine_2 => (intro w hSw; obtain ⟨hx1, ⟨p0, p1, p2⟩, _, _⟩ := hSw; have d1 := hx1.cell; go_simp; first | done | with_reducible rfl)
          simp only [Act.put, List.setIfInBounds_toArray, List.set_cons_zero, List.set_cons_succ]
          refine wpAnyH_take (i := 4) (oi := ⟨some 15, _, _, _, _, _⟩) (v := ?_) rfl (by kernel_rfl) (by kernel_rfl) (by kernel_rfl) (fun _ _ _ h => h) (Or.inl ⟨by rfl, ?_⟩) (by assumption) ?_
          case refine_2 => (intro w hSw; obtain ⟨hx1, ⟨p0, p1, p2⟩, _, _⟩ := hSw; have d1 := hx1.cell; go_simp; first | done | with_reducible rfl)
          simp only [Act.put, List.setIfInBounds_toArray, List.set_cons_zero, List.set_cons_succ]
          refine wpAnyH_ready (rs := [5]) (by kernel_rfl) (by simp) ?_
          refine AllReadyH.cons (o := ⟨some 16, _, _, _, _, _⟩) rfl (fun K hK => ?_) AllReadyH.nil
          go_simp
          refine (CZ.out _ (hHeld.2.2.1.more (Nat.le_refl _) hHeld.2.2.2)).mono ?_; rintro e w1 ⟨rfl, b1⟩
          go_wp2_with fail
          refine hK.out _ _ (⟨hHeld.1.keep b1, ⟨(b1.cell (Nat.lt_of_lt_of_le hbb hHeld.2.2.2)).trans hHeld.2.1.1, (b1.cell (Nat.lt_of_lt_of_le hbb hHeld.2.2.2)).trans hHeld.2.1.2.1, (b1.cell (Nat.lt_of_lt_of_le hbb hHeld.2.2.2)).trans hHeld.2.1.2.2⟩, hHeld.2.2.1.below b1 hHeld.2.2.2, Nat.le_trans hHeld.2.2.2 b1.size⟩) (fun hHeld => ?_)
          clear hK K
          try simp only [Act.put, List.setIfInBounds_toArray, List.set_cons_zero, List.set_cons_succ]
          refine wpAnyH_take (i := 6) (oi := ⟨some 17, _, _, _, _, _⟩) (v := ?_) rfl (by kernel_rfl) (by kernel_rfl) (by kernel_rfl) (fun _ _ _ h => h) (Or.inl ⟨by rfl, ?_⟩) (by assumption) ?_
          case refine_2 => (intro w hSw; obtain ⟨hx1, ⟨p0, p1, p2⟩, _, _⟩ := hSw; have d1 := hx1.cell; go_simp; first | done | with_reducible rfl)
          simp only [Act.put, List.setIfInBounds_toArray, List.set_cons_zero, List.set_cons_succ]
          refine wpAnyH_take (i := 7) (oi := ⟨some 18, _, _, _, _, _⟩) (v := ?_) rfl (by kernel_rfl) (by kernel_rfl) (by kernel_rfl) (fun _ _ _ h => h) (Or.inl ⟨by rfl, ?_⟩) (by assumption) ?_
          case refine_2 => (intro w hSw; obtain ⟨hx1, ⟨p0, p1, p2⟩, _, _⟩ := hSw; have d1 := hx1.cell; go_simp; first | done | with_reducible rfl)
          simp only [Act.put, List.setIfInBounds_toArray, List.set_cons_zero, List.set_cons_succ]
          refine wpAnyH_take (i := 8) (oi := ⟨some 19, _, _, _, _, _⟩) (v := ?_) rfl (by kernel_rfl) (by kernel_rfl) (by kernel_rfl) (fun _ _ _ h => h) (Or.inl ⟨by rfl, ?_⟩) (by assumption) ?_
          case refine_2 => (intro w hSw; obtain ⟨hx1, ⟨p0, p1, p2⟩, _, _⟩ := hSw; have d1 := hx1.cell; go_simp; first | done | with_reducible rfl)
          simp only [Act.put, List.setIfInBounds_toArray, List.set_cons_zero, List.set_cons_succ]
          refine wpAnyH_take (i := 9) (oi := ⟨some 20, _, _, _, _, _⟩) (v := ?_) rfl (by kernel_rfl) (by kernel_rfl) (by kernel_rfl) (fun _ _ _ h => h) (Or.inl ⟨by rfl, ?_⟩) (by assumption) ?_
          case refine_2 => (intro w hSw; obtain ⟨hx1, ⟨p0, p1, p2⟩, _, _⟩ := hSw; have d1 := hx1.cell; go_simp; first | done | with_reducible rfl)
          simp only [Act.put, List.setIfInBounds_toArray, List.set_cons_zero, List.set_cons_succ]
          refine wpAnyH_take (i := 10) (oi := ⟨some 21, _, _, _, _, _⟩) (v := ?_) rfl (by kernel_rfl) (by kernel_rfl) (by kernel_rfl) (fun _ _ _ h => h) (Or.inl ⟨by rfl, ?_⟩) (by assumption) ?_
          case refine_2 => (intro w hSw; obtain ⟨hx1, ⟨p0, p1, p2⟩, _, _⟩ := hSw; have d1 := hx1.cell; go_simp; first | done | with_reducible rfl)
          simp only [Act.put, List.setIfInBounds_toArray, List.set_cons_zero, List.set_cons_succ]
          refine wpAnyH_take (i := 11) (oi := ⟨some 22, _, _, _, _, _⟩) (v := ?_) rfl (by kernel_rfl) (by kernel_rfl) (by kernel_rfl) (fun _ _ _ h => h) (Or.inl ⟨by rfl, ?_⟩) (by assumption) ?_
          case refine_2 => (intro w hSw; obtain ⟨hx1, ⟨p0, p1, p2⟩, _, _⟩ := hSw; have d1 := hx1.cell; go_simp; first | done | with_reducible rfl)
          simp only [Act.put, List.setIfInBounds_toArray, List.set_cons_zero, List.set_cons_succ]
          refine wpAnyH_take (i := 12) (oi := ⟨some 23, _, _, _, _, _⟩) (v := ?_) rfl (by kernel_rfl) (by kernel_rfl) (by kernel_rfl) (fun _ _ _ h => h) (Or.inl ⟨by rfl, ?_⟩) (by assumption) ?_
          case refine_2 => (intro w hSw; obtain ⟨hx1, ⟨p0, p1, p2⟩, _, _⟩ := hSw; have d1 := hx1.cell; go_simp; first | done | with_reducible rfl)
          simp only [Act.put, List.setIfInBounds_toArray, List.set_cons_zero, List.set_cons_succ]
          refine wpAnyH_take (i := 13) (oi := ⟨some 24, _, _, _, _, _⟩) (v := ?_) rfl (by kernel_rfl) (by kernel_rfl) (by kernel_rfl) (fun _ _ _ h => h) (Or.inl ⟨by rfl, ?_⟩) (by assumption) ?_
          case refine_2 => (intro w hSw; obtain ⟨hx1, ⟨p0, p1, p2⟩, _, _⟩ := hSw; have d1 := hx1.cell; go_simp; first | done | with_reducible rfl)
          simp only [Act.put, List.setIfInBounds_toArray, List.set_cons_zero, List.set_cons_succ]
          refine wpAnyH_take (i := 14) (oi := ⟨some 25, _, _, _, _, _⟩) (v := ?_) rfl (by kernel_rfl) (by kernel_rfl) (by kernel_rfl) (fun _ _ _ h => h) (Or.inl ⟨by rfl, ?_⟩) (by assumption) ?_
          case refine_2 => (intro w hSw; obtain ⟨hx1, ⟨p0, p1, p2⟩, _, _⟩ := hSw; have d1 := hx1.cell; go_simp; first | done | with_reducible rfl)
          simp only [Act.put, List.setIfInBounds_toArray, List.set_cons_zero, List.set_cons_succ]
          refine wpAnyH_take (i := 15) (oi := ⟨some 26, _, _, _, _, _⟩) (v := ?_) rfl (by kernel_rfl) (by kernel_rfl) (by kernel_rfl) (fun _ _ _ h => h) (Or.inl ⟨by rfl, ?_⟩) (by assumption) ?_
          case refine_2 => (intro w hSw; obtain ⟨hx1, ⟨p0, p1, p2⟩, _, _⟩ := hSw; have d1 := hx1.cell; go_simp; first | done | with_reducible rfl)
          simp only [Act.put, List.setIfInBounds_toArray, List.set_cons_zero, List.set_cons_succ]
          refine wpAnyH_take (i := 16) (oi := ⟨some 27, _, _, _, _, _⟩) (v := ?_) rfl (by kernel_rfl) (by kernel_rfl) (by kernel_rfl) (fun _ _ _ h => h) (Or.inl ⟨by rfl, ?_⟩) (by assumption) ?_
          case refine_2 => (intro w hSw; obtain ⟨hx1, ⟨p0, p1, p2⟩, _, _⟩ := hSw; have d1 := hx1.cell; go_simp; first | done | with_reducible rfl)
          simp only [Act.put, List.setIfInBounds_toArray, List.set_cons_zero, List.set_cons_succ]
          refine wpAnyH_take (i := 17) (oi := ⟨some 28, _, _, _, _, _⟩) (v := ?_) rfl (by kernel_rfl) (by kernel_rfl) (by kernel_rfl) (fun _ _ _ h => h) (Or.inl ⟨by rfl, ?_⟩) (by assumption) ?_
          case refine_2 => (intro w hSw; obtain ⟨hx1, ⟨p0, p1, p2⟩, _, _⟩ := hSw; have d1 := hx1.cell; go_simp; first | done | with_reducible rfl)
          simp only [Act.put, List.setIfInBounds_toArray, List.set_cons_zero, List.set_cons_succ]
          refine wpAnyH_take (i := 18) (oi := ⟨some 29, _, _, _, _, _⟩) (v := undef) rfl (by kernel_rfl) (by kernel_rfl) (by kernel_rfl) (fun _ _ _ h => h) (Or.inr ⟨by rfl, rfl⟩) (by assumption) ?_
          simp only [Act.put, List.setIfInBounds_toArray, List.set_cons_zero, List.set_cons_succ]
          refine wpAnyH_take (i := 19) (oi := ⟨some 30, _, _, _, _, _⟩) (v := undef) rfl (by kernel_rfl) (by kernel_rfl) (by kernel_rfl) (fun _ _ _ h => h) (Or.inr ⟨by rfl, rfl⟩) (by assumption) ?_
          simp only [Act.put, List.setIfInBounds_toArray, List.set_cons_zero, List.set_cons_succ]
          refine wpAnyH_take (i := 20) (oi := ⟨some 31, _, _, _, _, _⟩) (v := undef) rfl (by kernel_rfl) (by kernel_rfl) (by kernel_rfl) (fun _ _ _ h => h) (Or.inr ⟨by rfl, rfl⟩) (by assumption) ?_
          simp only [Act.put, List.setIfInBounds_toArray, List.set_cons_zero, List.set_cons_succ]
          refine wpAnyH_take (i := 21) (oi := ⟨some 32, _, _, _, _, _⟩) (v := undef) rfl (by kernel_rfl) (by kernel_rfl) (by kernel_rfl) (fun _ _ _ h => h) (Or.inr ⟨by rfl, rfl⟩) (by assumption) ?_
          simp only [Act.put, List.setIfInBounds_toArray, List.set_cons_zero, List.set_cons_succ]
          refine wpAnyH_take (i := 22) (oi := ⟨some 33, _, _, _, _, _⟩) (v := ?_) rfl (by kernel_rfl) (by kernel_rfl) (by kernel_rfl) (fun _ _ _ h => h) (Or.inl ⟨by rfl, ?_⟩) (by assumption) ?_
          case refine_2 => (intro w hSw; obtain ⟨hx1, ⟨p0, p1, p2⟩, _, _⟩ := hSw; have d1 := hx1.cell; go_simp; first | done | with_reducible rfl)
          simp only [Act.put, List.setIfInBounds_toArray, List.set_cons_zero, List.set_cons_succ]
          refine wpAnyH_take (i := 23) (oi := ⟨some 34, _, _, _, _, _⟩) (v := ?_) rfl (by kernel_rfl) (by kernel_rfl) (by kernel_rfl) (fun _ _ _ h => h) (Or.inl ⟨by rfl, ?_⟩) (by assumption) ?_
          case refine_2 => (intro w hSw; obtain ⟨hx1, ⟨p0, p1, p2⟩, _, _⟩ := hSw; have d1 := hx1.cell; go_simp; first | done | with_reducible rfl)
          simp only [Act.put, List.setIfInBounds_toArray, List.set_cons_zero, List.set_cons_succ]
          refine wpAnyH_done (by kernel_rfl) ?_ _
          go_wp2_with fail
          go_roundw
          case rel => exact ⟨k + 1, by omega, by go_num, HE.out, hHeld.1, bl_trans hL.drew b1⟩
          case measure => simp [intOf]; omega
        · have cR := fun w => sRep zk w
          obtain ⟨r, hr⟩ : ∃ r, repB zk = r := ⟨_, rfl⟩
          rw [hr] at cR
          have CR := Lib.hid cR
          clear cR
          cases r
          · rw [okS_no hd (by rw [hz, hs, hr]; rfl)] at hE
            subst hE
            clear hd hz HR hqk hr
            go_wp2_with fail
            refine wp_region_held_drew (S := (fun x => Blk x w.heap.size 45 #[.int .i64 zk, .string zs, .slice (some ⟨b, o, none⟩) kids.len c] ∧ (x.cell? ⟨b, o + k * 3, none⟩ = some (.int .i64 yk) ∧ x.cell? ⟨b, o + k * 3 + 1, none⟩ = some (.string ys) ∧ x.cell? ⟨b, o + k * 3 + 2, none⟩ = some (.slice A1 k1.len c1)) ∧ Sl rexC x 0 wr.heap.size A1 k1 ∧ wr.heap.size ≤ x.heap.size)) (by kernel_rfl) ?_ (fun hHeld => ?_)
            · exact ⟨hB.drew, ⟨q0, q1, q2⟩, hSk.keep (fun _ _ _ => rfl) (Nat.le_refl _) hL.size, Nat.le_refl _⟩
            refine wpAnyH_take (i := 0) (oi := ⟨some 11, _, _, _, _, _⟩) (v := ?_) rfl (by kernel_rfl) (by kernel_rfl) (by kernel_rfl) (fun _ _ _ h => h) (Or.inl ⟨by rfl, ?_⟩) (by assumption) ?_
            case refine_2 => (intro w hSw; obtain ⟨hx1, ⟨p0, p1, p2⟩, _, _⟩ := hSw; have d1 := hx1.cell; go_simp; first | done | with_reducible rfl)
            simp only [Act.put, List.setIfInBounds_toArray, List.set_cons_zero, List.set_cons_succ]
            refine wpAnyH_take (i := 1) (oi := ⟨some 12, _, _, _, _, _⟩) (v := ?_) rfl (by kernel_rfl) (by kernel_rfl) (by kernel_rfl) (fun _ _ _ h => h) (Or.inl ⟨by rfl, ?_⟩) (by assumption) ?_
            case refine_2 => (intro w hSw; obtain ⟨hx1, ⟨p0, p1, p2⟩, _, _⟩ := hSw; have d1 := hx1.cell; go_simp; first | done | with_reducible rfl)
            simp only [Act.put, List.setIfInBounds_toArray, List.set_cons_zero, List.set_cons_succ]
            refine wpAnyH_take (i := 2) (oi := ⟨some 13, _, _, _, _, _⟩) (v := ?_) rfl (by kernel_rfl) (by kernel_rfl) (by kernel_rfl) (fun _ _ _ h => h) (Or.inl ⟨by rfl, ?_⟩) (by assumption) ?_
            case refine_2 => (intro w hSw; obtain ⟨hx1, ⟨p0, p1, p2⟩, _, _⟩ := hSw; have d1 := hx1.cell; go_simp; first | done | with_reducible rfl)
            simp only [Act.put, List.setIfInBounds_toArray, List.set_cons_zero, List.set_cons_succ]
            refine wpAnyH_take (i := 3) (oi := ⟨some 14, _, _, _, _, _⟩) (v := ?_) rfl (by kernel_rfl) (by kernel_rfl) (by kernel_rfl) (fun _ _ _ h => h) (Or.inl ⟨by rfl, ?_⟩) (by assumption) ?_
            case refine_2 => (intro w hSw; obtain ⟨hx1, ⟨p0, p1, p2⟩, _, _⟩ := hSw; have d1 := hx1.cell; go_simp; first | done | with_reducible rfl)
            simp only [Act.put, List.setIfInBounds_toArray, List.set_cons_zero, List.set_cons_succ]
            refine wpAnyH_take (i := 4) (oi := ⟨some 15, _, _, _, _, _⟩) (v := ?_) rfl (by kernel_rfl) (by kernel_rfl) (by kernel_rfl) (fun _ _ _ h => h) (Or.inl ⟨by rfl, ?_⟩) (by assumption) ?_
            case refine_2 => (intro w hSw; obtain ⟨hx1, ⟨p0, p1, p2⟩, _, _⟩ := hSw; have d1 := hx1.cell; go_simp; first | done | with_reducible rfl)
            simp only [Act.put, List.setIfInBounds_toArray, List.set_cons_zero, List.set_cons_succ]
            refine wpAnyH_ready (rs := [5]) (by kernel_rfl) (by simp) ?_
            refine AllReadyH.cons (o := ⟨some 16, _, _, _, _, _⟩) rfl (fun K hK => ?_) AllReadyH.nil
            go_simp
            refine (CZ.out _ (hHeld.2.2.1.more (Nat.le_refl _) hHeld.2.2.2)).mono ?_; rintro e w1 ⟨rfl, b1⟩
            go_wp2_with fail
            refine hK.out _ _ (⟨hHeld.1.keep b1, ⟨(b1.cell (Nat.lt_of_lt_of_le hbb hHeld.2.2.2)).trans hHeld.2.1.1, (b1.cell (Nat.lt_of_lt_of_le hbb hHeld.2.2.2)).trans hHeld.2.1.2.1, (b1.cell (Nat.lt_of_lt_of_le hbb hHeld.2.2.2)).trans hHeld.2.1.2.2⟩, hHeld.2.2.1.below b1 hHeld.2.2.2, Nat.le_trans hHeld.2.2.2 b1.size⟩) (fun hHeld => ?_)
            clear hK K
            try simp only [Act.put, List.setIfInBounds_toArray, List.set_cons_zero, List.set_cons_succ]
            refine wpAnyH_take (i := 6) (oi := ⟨some 17, _, _, _, _, _⟩) (v := ?_) rfl (by kernel_rfl) (by kernel_rfl) (by kernel_rfl) (fun _ _ _ h => h) (Or.inl ⟨by rfl, ?_⟩) (by assumption) ?_
            case refine_2 => (intro w hSw; obtain ⟨hx1, ⟨p0, p1, p2⟩, _, _⟩ := hSw; have d1 := hx1.cell; go_simp; first | done | with_reducible rfl)
            simp only [Act.put, List.setIfInBounds_toArray, List.set_cons_zero, List.set_cons_succ]
            refine wpAnyH_take (i := 7) (oi := ⟨some 18, _, _, _, _, _⟩) (v := ?_) rfl (by kernel_rfl) (by kernel_rfl) (by kernel_rfl) (fun _ _ _ h => h) (Or.inl ⟨by rfl, ?_⟩) (by assumption) ?_
            case refine_2 => (intro w hSw; obtain ⟨hx1, ⟨p0, p1, p2⟩, _, _⟩ := hSw; have d1 := hx1.cell; go_simp; first | done | with_reducible rfl)
            simp only [Act.put, List.setIfInBounds_toArray, List.set_cons_zero, List.set_cons_succ]
            refine wpAnyH_take (i := 8) (oi := ⟨some 19, _, _, _, _, _⟩) (v := ?_) rfl (by kernel_rfl) (by kernel_rfl) (by kernel_rfl) (fun _ _ _ h => h) (Or.inl ⟨by rfl, ?_⟩) (by assumption) ?_
            case refine_2 => (intro w hSw; obtain ⟨hx1, ⟨p0, p1, p2⟩, _, _⟩ := hSw; have d1 := hx1.cell; go_simp; first | done | with_reducible rfl)
            simp only [Act.put, List.setIfInBounds_toArray, List.set_cons_zero, List.set_cons_succ]
            refine wpAnyH_take (i := 9) (oi := ⟨some 20, _, _, _, _, _⟩) (v := ?_) rfl (by kernel_rfl) (by kernel_rfl) (by kernel_rfl) (fun _ _ _ h => h) (Or.inl ⟨by rfl, ?_⟩) (by assumption) ?_
            case refine_2 => (intro w hSw; obtain ⟨hx1, ⟨p0, p1, p2⟩, _, _⟩ := hSw; have d1 := hx1.cell; go_simp; first | done | with_reducible rfl)
            simp only [Act.put, List.setIfInBounds_toArray, List.set_cons_zero, List.set_cons_succ]
            refine wpAnyH_take (i := 10) (oi := ⟨some 21, _, _, _, _, _⟩) (v := ?_) rfl (by kernel_rfl) (by kernel_rfl) (by kernel_rfl) (fun _ _ _ h => h) (Or.inl ⟨by rfl, ?_⟩) (by assumption) ?_
            case refine_2 => (intro w hSw; obtain ⟨hx1, ⟨p0, p1, p2⟩, _, _⟩ := hSw; have d1 := hx1.cell; go_simp; first | done | with_reducible rfl)
            simp only [Act.put, List.setIfInBounds_toArray, List.set_cons_zero, List.set_cons_succ]
            refine wpAnyH_take (i := 11) (oi := ⟨some 22, _, _, _, _, _⟩) (v := ?_) rfl (by kernel_rfl) (by kernel_rfl) (by kernel_rfl) (fun _ _ _ h => h) (Or.inl ⟨by rfl, ?_⟩) (by assumption) ?_
            case refine_2 => (intro w hSw; obtain ⟨hx1, ⟨p0, p1, p2⟩, _, _⟩ := hSw; have d1 := hx1.cell; go_simp; first | done | with_reducible rfl)
            simp only [Act.put, List.setIfInBounds_toArray, List.set_cons_zero, List.set_cons_succ]
            refine wpAnyH_take (i := 12) (oi := ⟨some 23, _, _, _, _, _⟩) (v := ?_) rfl (by kernel_rfl) (by kernel_rfl) (by kernel_rfl) (fun _ _ _ h => h) (Or.inl ⟨by rfl, ?_⟩) (by assumption) ?_
            case refine_2 => (intro w hSw; obtain ⟨hx1, ⟨p0, p1, p2⟩, _, _⟩ := hSw; have d1 := hx1.cell; go_simp; first | done | with_reducible rfl)
            simp only [Act.put, List.setIfInBounds_toArray, List.set_cons_zero, List.set_cons_succ]
            refine wpAnyH_take (i := 13) (oi := ⟨some 24, _, _, _, _, _⟩) (v := ?_) rfl (by kernel_rfl) (by kernel_rfl) (by kernel_rfl) (fun _ _ _ h => h) (Or.inl ⟨by rfl, ?_⟩) (by assumption) ?_
            case refine_2 => (intro w hSw; obtain ⟨hx1, ⟨p0, p1, p2⟩, _, _⟩ := hSw; have d1 := hx1.cell; go_simp; first | done | with_reducible rfl)
            simp only [Act.put, List.setIfInBounds_toArray, List.set_cons_zero, List.set_cons_succ]
            refine wpAnyH_take (i := 14) (oi := ⟨some 25, _, _, _, _, _⟩) (v := ?_) rfl (by kernel_rfl) (by kernel_rfl) (by kernel_rfl) (fun _ _ _ h => h) (Or.inl ⟨by rfl, ?_⟩) (by assumption) ?_
            case refine_2 => (intro w hSw; obtain ⟨hx1, ⟨p0, p1, p2⟩, _, _⟩ := hSw; have d1 := hx1.cell; go_simp; first | done | with_reducible rfl)
            simp only [Act.put, List.setIfInBounds_toArray, List.set_cons_zero, List.set_cons_succ]
            refine wpAnyH_take (i := 15) (oi := ⟨some 26, _, _, _, _, _⟩) (v := ?_) rfl (by kernel_rfl) (by kernel_rfl) (by kernel_rfl) (fun _ _ _ h => h) (Or.inl ⟨by rfl, ?_⟩) (by assumption) ?_
            case refine_2 => (intro w hSw; obtain ⟨hx1, ⟨p0, p1, p2⟩, _, _⟩ := hSw; have d1 := hx1.cell; go_simp; first | done | with_reducible rfl)
            simp only [Act.put, List.setIfInBounds_toArray, List.set_cons_zero, List.set_cons_succ]
            refine wpAnyH_take (i := 16) (oi := ⟨some 27, _, _, _, _, _⟩) (v := ?_) rfl (by kernel_rfl) (by kernel_rfl) (by kernel_rfl) (fun _ _ _ h => h) (Or.inl ⟨by rfl, ?_⟩) (by assumption) ?_
            case refine_2 => (intro w hSw; obtain ⟨hx1, ⟨p0, p1, p2⟩, _, _⟩ := hSw; have d1 := hx1.cell; go_simp; first | done | with_reducible rfl)
            simp only [Act.put, List.setIfInBounds_toArray, List.set_cons_zero, List.set_cons_succ]
            refine wpAnyH_take (i := 17) (oi := ⟨some 28, _, _, _, _, _⟩) (v := ?_) rfl (by kernel_rfl) (by kernel_rfl) (by kernel_rfl) (fun _ _ _ h => h) (Or.inl ⟨by rfl, ?_⟩) (by assumption) ?_
            case refine_2 => (intro w hSw; obtain ⟨hx1, ⟨p0, p1, p2⟩, _, _⟩ := hSw; have d1 := hx1.cell; go_simp; first | done | with_reducible rfl)
            simp only [Act.put, List.setIfInBounds_toArray, List.set_cons_zero, List.set_cons_succ]
            refine wpAnyH_take (i := 18) (oi := ⟨some 29, _, _, _, _, _⟩) (v := ?_) rfl (by kernel_rfl) (by kernel_rfl) (by kernel_rfl) (fun _ _ _ h => h) (Or.inl ⟨by rfl, ?_⟩) (by assumption) ?_
            case refine_2 => (intro w hSw; obtain ⟨hx1, ⟨p0, p1, p2⟩, _, _⟩ := hSw; have d1 := hx1.cell; go_simp; first | done | with_reducible rfl)
            simp only [Act.put, List.setIfInBounds_toArray, List.set_cons_zero, List.set_cons_succ]
            refine wpAnyH_take (i := 19) (oi := ⟨some 30, _, _, _, _, _⟩) (v := ?_) rfl (by kernel_rfl) (by kernel_rfl) (by kernel_rfl) (fun _ _ _ h => h) (Or.inl ⟨by rfl, ?_⟩) (by assumption) ?_
            case refine_2 => (intro w hSw; obtain ⟨hx1, ⟨p0, p1, p2⟩, _, _⟩ := hSw; have d1 := hx1.cell; go_simp; first | done | with_reducible rfl)
            simp only [Act.put, List.setIfInBounds_toArray, List.set_cons_zero, List.set_cons_succ]
            refine wpAnyH_ready (rs := [20]) (by kernel_rfl) (by simp) ?_
            refine AllReadyH.cons (o := ⟨some 31, _, _, _, _, _⟩) rfl (fun K hK => ?_) AllReadyH.nil
            go_simp
            refine (CR.out _).mono ?_; rintro e w2 ⟨rfl, rfl⟩; have b2 := Below.refl w2.heap.size w2
            go_wp2_with fail
            refine hK.out _ _ (⟨hHeld.1.keep b2, ⟨(b2.cell (Nat.lt_of_lt_of_le hbb hHeld.2.2.2)).trans hHeld.2.1.1, (b2.cell (Nat.lt_of_lt_of_le hbb hHeld.2.2.2)).trans hHeld.2.1.2.1, (b2.cell (Nat.lt_of_lt_of_le hbb hHeld.2.2.2)).trans hHeld.2.1.2.2⟩, hHeld.2.2.1.below b2 hHeld.2.2.2, Nat.le_trans hHeld.2.2.2 b2.size⟩) (fun hHeld => ?_)
            clear hK K
            try simp only [Act.put, List.setIfInBounds_toArray, List.set_cons_zero, List.set_cons_succ]
            refine wpAnyH_take (i := 21) (oi := ⟨some 32, _, _, _, _, _⟩) (v := ?_) rfl (by kernel_rfl) (by kernel_rfl) (by kernel_rfl) (fun _ _ _ h => h) (Or.inl ⟨by rfl, ?_⟩) (by assumption) ?_
            case refine_2 => (intro w hSw; obtain ⟨hx1, ⟨p0, p1, p2⟩, _, _⟩ := hSw; have d1 := hx1.cell; go_simp; first | done | with_reducible rfl)
            simp only [Act.put, List.setIfInBounds_toArray, List.set_cons_zero, List.set_cons_succ]
            refine wpAnyH_take (i := 22) (oi := ⟨some 33, _, _, _, _, _⟩) (v := ?_) rfl (by kernel_rfl) (by kernel_rfl) (by kernel_rfl) (fun _ _ _ h => h) (Or.inl ⟨by rfl, ?_⟩) (by assumption) ?_
            case refine_2 => (intro w hSw; obtain ⟨hx1, ⟨p0, p1, p2⟩, _, _⟩ := hSw; have d1 := hx1.cell; go_simp; first | done | with_reducible rfl)
            simp only [Act.put, List.setIfInBounds_toArray, List.set_cons_zero, List.set_cons_succ]
            refine wpAnyH_take (i := 23) (oi := ⟨some 34, _, _, _, _, _⟩) (v := ?_) rfl (by kernel_rfl) (by kernel_rfl) (by kernel_rfl) (fun _ _ _ h => h) (Or.inl ⟨by rfl, ?_⟩) (by assumption) ?_
            case refine_2 => (intro w hSw; obtain ⟨hx1, ⟨p0, p1, p2⟩, _, _⟩ := hSw; have d1 := hx1.cell; go_simp; first | done | with_reducible rfl)
            simp only [Act.put, List.setIfInBounds_toArray, List.set_cons_zero, List.set_cons_succ]
            refine wpAnyH_done (by kernel_rfl) ?_ _
            go_wp2_with fail
            go_ret
            exact ⟨rfl, bl_trans hL.drew b1⟩
          · have HE := Lib.hid ((okS_yes hd (by rw [hz, hs, hr]; rfl)).symm.trans hE)
            clear hd hz HR hqk hr hE
            go_wp2_with fail
            refine wp_region_held_drew (S := (fun x => Blk x w.heap.size 45 #[.int .i64 zk, .string zs, .slice (some ⟨b, o, none⟩) kids.len c] ∧ (x.cell? ⟨b, o + k * 3, none⟩ = some (.int .i64 yk) ∧ x.cell? ⟨b, o + k * 3 + 1, none⟩ = some (.string ys) ∧ x.cell? ⟨b, o + k * 3 + 2, none⟩ = some (.slice A1 k1.len c1)) ∧ Sl rexC x 0 wr.heap.size A1 k1 ∧ wr.heap.size ≤ x.heap.size)) (by kernel_rfl) ?_ (fun hHeld => ?_)
            · exact ⟨hB.drew, ⟨q0, q1, q2⟩, hSk.keep (fun _ _ _ => rfl) (Nat.le_refl _) hL.size, Nat.le_refl _⟩
            refine wpAnyH_take (i := 0) (oi := ⟨some 11, _, _, _, _, _⟩) (v := ?_) rfl (by kernel_rfl) (by kernel_rfl) (by kernel_rfl) (fun _ _ _ h => h) (Or.inl ⟨by rfl, ?_⟩) (by assumption) ?_
            case refine_2 => (intro w hSw; obtain ⟨hx1, ⟨p0, p1, p2⟩, _, _⟩ := hSw; have d1 := hx1.cell; go_simp; first | done | with_reducible rfl)
            simp only [Act.put, List.setIfInBounds_toArray, List.set_cons_zero, List.set_cons_succ]
            refine wpAnyH_take (i := 1) (oi := ⟨some 12, _, _, _, _, _⟩) (v := ?_) rfl (by kernel_rfl) (by kernel_rfl) (by kernel_rfl) (fun _ _ _ h => h) (Or.inl ⟨by rfl, ?_⟩) (by assumption) ?_
            case refine_2 => (intro w hSw; obtain ⟨hx1, ⟨p0, p1, p2⟩, _, _⟩ := hSw; have d1 := hx1.cell; go_simp; first | done | with_reducible rfl)
            simp only [Act.put, List.setIfInBounds_toArray, List.set_cons_zero, List.set_cons_succ]
            refine wpAnyH_take (i := 2) (oi := ⟨some 13, _, _, _, _, _⟩) (v := ?_) rfl (by kernel_rfl) (by kernel_rfl) (by kernel_rfl) (fun _ _ _ h => h) (Or.inl ⟨by rfl, ?_⟩) (by assumption) ?_
            case refine_2 => (intro w hSw; obtain ⟨hx1, ⟨p0, p1, p2⟩, _, _⟩ := hSw; have d1 := hx1.cell; go_simp; first | done | with_reducible rfl)
            simp only [Act.put, List.setIfInBounds_toArray, List.set_cons_zero, List.set_cons_succ]
            refine wpAnyH_take (i := 3) (oi := ⟨some 14, _, _, _, _, _⟩) (v := ?_) rfl (by kernel_rfl) (by kernel_rfl) (by kernel_rfl) (fun _ _ _ h => h) (Or.inl ⟨by rfl, ?_⟩) (by assumption) ?_
            case refine_2 => (intro w hSw; obtain ⟨hx1, ⟨p0, p1, p2⟩, _, _⟩ := hSw; have d1 := hx1.cell; go_simp; first | done | with_reducible rfl)
            simp only [Act.put, List.setIfInBounds_toArray, List.set_cons_zero, List.set_cons_succ]
            refine wpAnyH_take (i := 4) (oi := ⟨some 15, _, _, _, _, _⟩) (v := ?_) rfl (by kernel_rfl) (by kernel_rfl) (by kernel_rfl) (fun _ _ _ h => h) (Or.inl ⟨by rfl, ?_⟩) (by assumption) ?_
            case refine_2 => (intro w hSw; obtain ⟨hx1, ⟨p0, p1, p2⟩, _, _⟩ := hSw; have d1 := hx1.cell; go_simp; first | done | with_reducible rfl)
            simp only [Act.put, List.setIfInBounds_toArray, List.set_cons_zero, List.set_cons_succ]
            refine wpAnyH_ready (rs := [5]) (by kernel_rfl) (by simp) ?_
            refine AllReadyH.cons (o := ⟨some 16, _, _, _, _, _⟩) rfl (fun K hK => ?_) AllReadyH.nil
            go_simp
            refine (CZ.out _ (hHeld.2.2.1.more (Nat.le_refl _) hHeld.2.2.2)).mono ?_; rintro e w1 ⟨rfl, b1⟩
            go_wp2_with fail
            refine hK.out _ _ (⟨hHeld.1.keep b1, ⟨(b1.cell (Nat.lt_of_lt_of_le hbb hHeld.2.2.2)).trans hHeld.2.1.1, (b1.cell (Nat.lt_of_lt_of_le hbb hHeld.2.2.2)).trans hHeld.2.1.2.1, (b1.cell (Nat.lt_of_lt_of_le hbb hHeld.2.2.2)).trans hHeld.2.1.2.2⟩, hHeld.2.2.1.below b1 hHeld.2.2.2, Nat.le_trans hHeld.2.2.2 b1.size⟩) (fun hHeld => ?_)
            clear hK K
            try simp only [Act.put, List.setIfInBounds_toArray, List.set_cons_zero, List.set_cons_succ]
            refine wpAnyH_take (i := 6) (oi := ⟨some 17, _, _, _, _, _⟩) (v := ?_) rfl (by kernel_rfl) (by kernel_rfl) (by kernel_rfl) (fun _ _ _ h => h) (Or.inl ⟨by rfl, ?_⟩) (by assumption) ?_
            case refine_2 => (intro w hSw; obtain ⟨hx1, ⟨p0, p1, p2⟩, _, _⟩ := hSw; have d1 := hx1.cell; go_simp; first | done | with_reducible rfl)
            simp only [Act.put, List.setIfInBounds_toArray, List.set_cons_zero, List.set_cons_succ]
            refine wpAnyH_take (i := 7) (oi := ⟨some 18, _, _, _, _, _⟩) (v := ?_) rfl (by kernel_rfl) (by kernel_rfl) (by kernel_rfl) (fun _ _ _ h => h) (Or.inl ⟨by rfl, ?_⟩) (by assumption) ?_
            case refine_2 => (intro w hSw; obtain ⟨hx1, ⟨p0, p1, p2⟩, _, _⟩ := hSw; have d1 := hx1.cell; go_simp; first | done | with_reducible rfl)
            simp only [Act.put, List.setIfInBounds_toArray, List.set_cons_zero, List.set_cons_succ]
            refine wpAnyH_take (i := 8) (oi := ⟨some 19, _, _, _, _, _⟩) (v := ?_) rfl (by kernel_rfl) (by kernel_rfl) (by kernel_rfl) (fun _ _ _ h => h) (Or.inl ⟨by rfl, ?_⟩) (by assumption) ?_
            case refine_2 => (intro w hSw; obtain ⟨hx1, ⟨p0, p1, p2⟩, _, _⟩ := hSw; have d1 := hx1.cell; go_simp; first | done | with_reducible rfl)
            simp only [Act.put, List.setIfInBounds_toArray, List.set_cons_zero, List.set_cons_succ]
            refine wpAnyH_take (i := 9) (oi := ⟨some 20, _, _, _, _, _⟩) (v := ?_) rfl (by kernel_rfl) (by kernel_rfl) (by kernel_rfl) (fun _ _ _ h => h) (Or.inl ⟨by rfl, ?_⟩) (by assumption) ?_
            case refine_2 => (intro w hSw; obtain ⟨hx1, ⟨p0, p1, p2⟩, _, _⟩ := hSw; have d1 := hx1.cell; go_simp; first | done | with_reducible rfl)
            simp only [Act.put, List.setIfInBounds_toArray, List.set_cons_zero, List.set_cons_succ]
            refine wpAnyH_take (i := 10) (oi := ⟨some 21, _, _, _, _, _⟩) (v := ?_) rfl (by kernel_rfl) (by kernel_rfl) (by kernel_rfl) (fun _ _ _ h => h) (Or.inl ⟨by rfl, ?_⟩) (by assumption) ?_
            case refine_2 => (intro w hSw; obtain ⟨hx1, ⟨p0, p1, p2⟩, _, _⟩ := hSw; have d1 := hx1.cell; go_simp; first | done | with_reducible rfl)
            simp only [Act.put, List.setIfInBounds_toArray, List.set_cons_zero, List.set_cons_succ]
            refine wpAnyH_take (i := 11) (oi := ⟨some 22, _, _, _, _, _⟩) (v := ?_) rfl (by kernel_rfl) (by kernel_rfl) (by kernel_rfl) (fun _ _ _ h => h) (Or.inl ⟨by rfl, ?_⟩) (by assumption) ?_
            case refine_2 => (intro w hSw; obtain ⟨hx1, ⟨p0, p1, p2⟩, _, _⟩ := hSw; have d1 := hx1.cell; go_simp; first | done | with_reducible rfl)
            simp only [Act.put, List.setIfInBounds_toArray, List.set_cons_zero, List.set_cons_succ]
            refine wpAnyH_take (i := 12) (oi := ⟨some 23, _, _, _, _, _⟩) (v := ?_) rfl (by kernel_rfl) (by kernel_rfl) (by kernel_rfl) (fun _ _ _ h => h) (Or.inl ⟨by rfl, ?_⟩) (by assumption) ?_
            case refine_2 => (intro w hSw; obtain ⟨hx1, ⟨p0, p1, p2⟩, _, _⟩ := hSw; have d1 := hx1.cell; go_simp; first | done | with_reducible rfl)
            simp only [Act.put, List.setIfInBounds_toArray, List.set_cons_zero, List.set_cons_succ]
            refine wpAnyH_take (i := 13) (oi := ⟨some 24, _, _, _, _, _⟩) (v := ?_) rfl (by kernel_rfl) (by kernel_rfl) (by kernel_rfl) (fun _ _ _ h => h) (Or.inl ⟨by rfl, ?_⟩) (by assumption) ?_
            case refine_2 => (intro w hSw; obtain ⟨hx1, ⟨p0, p1, p2⟩, _, _⟩ := hSw; have d1 := hx1.cell; go_simp; first | done | with_reducible rfl)
            simp only [Act.put, List.setIfInBounds_toArray, List.set_cons_zero, List.set_cons_succ]
            refine wpAnyH_take (i := 14) (oi := ⟨some 25, _, _, _, _, _⟩) (v := ?_) rfl (by kernel_rfl) (by kernel_rfl) (by kernel_rfl) (fun _ _ _ h => h) (Or.inl ⟨by rfl, ?_⟩) (by assumption) ?_
            case refine_2 => (intro w hSw; obtain ⟨hx1, ⟨p0, p1, p2⟩, _, _⟩ := hSw; have d1 := hx1.cell; go_simp; first | done | with_reducible rfl)
            simp only [Act.put, List.setIfInBounds_toArray, List.set_cons_zero, List.set_cons_succ]
            refine wpAnyH_take (i := 15) (oi := ⟨some 26, _, _, _, _, _⟩) (v := ?_) rfl (by kernel_rfl) (by kernel_rfl) (by kernel_rfl) (fun _ _ _ h => h) (Or.inl ⟨by rfl, ?_⟩) (by assumption) ?_
            case refine_2 => (intro w hSw; obtain ⟨hx1, ⟨p0, p1, p2⟩, _, _⟩ := hSw; have d1 := hx1.cell; go_simp; first | done | with_reducible rfl)
            simp only [Act.put, List.setIfInBounds_toArray, List.set_cons_zero, List.set_cons_succ]
            refine wpAnyH_take (i := 16) (oi := ⟨some 27, _, _, _, _, _⟩) (v := ?_) rfl (by kernel_rfl) (by kernel_rfl) (by kernel_rfl) (fun _ _ _ h => h) (Or.inl ⟨by rfl, ?_⟩) (by assumption) ?_
            case refine_2 => (intro w hSw; obtain ⟨hx1, ⟨p0, p1, p2⟩, _, _⟩ := hSw; have d1 := hx1.cell; go_simp; first | done | with_reducible rfl)
            simp only [Act.put, List.setIfInBounds_toArray, List.set_cons_zero, List.set_cons_succ]
            refine wpAnyH_take (i := 17) (oi := ⟨some 28, _, _, _, _, _⟩) (v := ?_) rfl (by kernel_rfl) (by kernel_rfl) (by kernel_rfl) (fun _ _ _ h => h) (Or.inl ⟨by rfl, ?_⟩) (by assumption) ?_
            case refine_2 => (intro w hSw; obtain ⟨hx1, ⟨p0, p1, p2⟩, _, _⟩ := hSw; have d1 := hx1.cell; go_simp; first | done | with_reducible rfl)
            simp only [Act.put, List.setIfInBounds_toArray, List.set_cons_zero, List.set_cons_succ]
            refine wpAnyH_take (i := 18) (oi := ⟨some 29, _, _, _, _, _⟩) (v := ?_) rfl (by kernel_rfl) (by kernel_rfl) (by kernel_rfl) (fun _ _ _ h => h) (Or.inl ⟨by rfl, ?_⟩) (by assumption) ?_
            case refine_2 => (intro w hSw; obtain ⟨hx1, ⟨p0, p1, p2⟩, _, _⟩ := hSw; have d1 := hx1.cell; go_simp; first | done | with_reducible rfl)
            simp only [Act.put, List.setIfInBounds_toArray, List.set_cons_zero, List.set_cons_succ]
            refine wpAnyH_take (i := 19) (oi := ⟨some 30, _, _, _, _, _⟩) (v := ?_) rfl (by kernel_rfl) (by kernel_rfl) (by kernel_rfl) (fun _ _ _ h => h) (Or.inl ⟨by rfl, ?_⟩) (by assumption) ?_
            case refine_2 => (intro w hSw; obtain ⟨hx1, ⟨p0, p1, p2⟩, _, _⟩ := hSw; have d1 := hx1.cell; go_simp; first | done | with_reducible rfl)
            simp only [Act.put, List.setIfInBounds_toArray, List.set_cons_zero, List.set_cons_succ]
            refine wpAnyH_ready (rs := [20]) (by kernel_rfl) (by simp) ?_
            refine AllReadyH.cons (o := ⟨some 31, _, _, _, _, _⟩) rfl (fun K hK => ?_) AllReadyH.nil
            go_simp
            refine (CR.out _).mono ?_; rintro e w2 ⟨rfl, rfl⟩; have b2 := Below.refl w2.heap.size w2
            go_wp2_with fail
            refine hK.out _ _ (⟨hHeld.1.keep b2, ⟨(b2.cell (Nat.lt_of_lt_of_le hbb hHeld.2.2.2)).trans hHeld.2.1.1, (b2.cell (Nat.lt_of_lt_of_le hbb hHeld.2.2.2)).trans hHeld.2.1.2.1, (b2.cell (Nat.lt_of_lt_of_le hbb hHeld.2.2.2)).trans hHeld.2.1.2.2⟩, hHeld.2.2.1.below b2 hHeld.2.2.2, Nat.le_trans hHeld.2.2.2 b2.size⟩) (fun hHeld => ?_)
            clear hK K
            try simp only [Act.put, List.setIfInBounds_toArray, List.set_cons_zero, List.set_cons_succ]
            refine wpAnyH_take (i := 21) (oi := ⟨some 32, _, _, _, _, _⟩) (v := ?_) rfl (by kernel_rfl) (by kernel_rfl) (by kernel_rfl) (fun _ _ _ h => h) (Or.inl ⟨by rfl, ?_⟩) (by assumption) ?_
            case refine_2 => (intro w hSw; obtain ⟨hx1, ⟨p0, p1, p2⟩, _, _⟩ := hSw; have d1 := hx1.cell; go_simp; first | done | with_reducible rfl)
            simp only [Act.put, List.setIfInBounds_toArray, List.set_cons_zero, List.set_cons_succ]
            refine wpAnyH_take (i := 22) (oi := ⟨some 33, _, _, _, _, _⟩) (v := ?_) rfl (by kernel_rfl) (by kernel_rfl) (by kernel_rfl) (fun _ _ _ h => h) (Or.inl ⟨by rfl, ?_⟩) (by assumption) ?_
            case refine_2 => (intro w hSw; obtain ⟨hx1, ⟨p0, p1, p2⟩, _, _⟩ := hSw; have d1 := hx1.cell; go_simp; first | done | with_reducible rfl)
            simp only [Act.put, List.setIfInBounds_toArray, List.set_cons_zero, List.set_cons_succ]
            refine wpAnyH_take (i := 23) (oi := ⟨some 34, _, _, _, _, _⟩) (v := ?_) rfl (by kernel_rfl) (by kernel_rfl) (by kernel_rfl) (fun _ _ _ h => h) (Or.inl ⟨by rfl, ?_⟩) (by assumption) ?_
            case refine_2 => (intro w hSw; obtain ⟨hx1, ⟨p0, p1, p2⟩, _, _⟩ := hSw; have d1 := hx1.cell; go_simp; first | done | with_reducible rfl)
            simp only [Act.put, List.setIfInBounds_toArray, List.set_cons_zero, List.set_cons_succ]
            refine wpAnyH_done (by kernel_rfl) ?_ _
            go_wp2_with fail
            go_roundw
            case rel => exact ⟨k + 1, by omega, by go_num, HE.out, hHeld.1, bl_trans hL.drew b1⟩
            case measure => simp [intOf]; omega
    · obtain rfl : k = kids.len := by omega
      rw [Fr.drop_all] at hE
      have hRt : true = R := hE
      subst hRt
      clear hE HR
      by_cases n1 : zk = 1
      · subst n1
        by_cases hs1 : zs.size = 1
        · have gs : ((zs.size : Int) == 1) = true := by simp [hs1]
          have gs' : (zs.size == 1) = true := by simp [hs1]
          have hp : 0 < zs.size := by omega
          have hx := zs[0].toNat_lt
          have hx' : (zs[0].toNat : Int) < 256 := by omega
          have cb1 := fun w => sLit zs[0].toNat w (by omega) hx'
          obtain ⟨b, hb⟩ : ∃ b, litB zs[0].toNat = b := ⟨_, rfl⟩
          rw [hb] at cb1
          have CB := Lib.hid cb1
          clear cb1
          cases b
          · skip
            have HV := Lib.hid (show swB _ zs kids = false from by rw [sw_lit, gs', oneB_is hp, hb]; rfl)
            go_wp2_with fail
            refine (CB.out _).mono ?_; rintro e w1 ⟨rfl, rfl⟩
            go_wp2_with fail
            go_ret
            exact ⟨ret_bool (by rw [HV.out]; rfl), hL⟩
          · skip
            by_cases h0 : kids.len = 0
            · have g0 : ((kids.len : Int) == 0) = true := by simp [h0]
              have h0' : (kids.len == 0) = true := by simp [h0]
              have HV := Lib.hid (show swB _ zs kids = true from by rw [sw_lit, gs', oneB_is hp, hb, h0']; rfl)
              go_wp2_with fail
              refine (CB.out _).mono ?_; rintro e w1 ⟨rfl, rfl⟩
              go_wp2_with fail
              go_ret
              exact ⟨ret_bool (by rw [HV.out]; rfl), hL⟩
            · have g0 : ((kids.len : Int) == 0) = false := by simp [h0]
              have h0' : (kids.len == 0) = false := by simp [h0]
              have HV := Lib.hid (show swB _ zs kids = false from by rw [sw_lit, gs', oneB_is hp, hb, h0']; rfl)
              go_wp2_with fail
              refine (CB.out _).mono ?_; rintro e w1 ⟨rfl, rfl⟩
              go_wp2_with fail
              go_ret
              exact ⟨ret_bool (by rw [HV.out]; rfl), hL⟩
        · have gs : ((zs.size : Int) == 1) = false := beq_eq_false_iff_ne.2 (by omega)
          have gs' : (zs.size == 1) = false := by simp [hs1]
          have HV := Lib.hid (show swB _ zs kids = false from by rw [sw_lit, gs']; rfl)
          go_wp2_with fail
          go_ret
          exact ⟨ret_bool (by rw [HV.out]; rfl), hL⟩
      have m1 : (zk == 1) = false := by simp [n1]
      by_cases n3 : zk = 3
      · subst n3
        have cb1 := fun w => sSet zs w (by omega)
        obtain ⟨b, hb⟩ : ∃ b, setB zs = b := ⟨_, rfl⟩
        rw [hb] at cb1
        have CB := Lib.hid cb1
        clear cb1
        cases b
        · skip
          have HV := Lib.hid (show swB _ zs kids = false from by rw [sw_set, hb]; rfl)
          go_wp2_with fail
          refine (CB.out _).mono ?_; rintro e w1 ⟨rfl, b1⟩; have cb9 := (hB.keep b1).cell
          go_wp2_with fail
          go_ret
          exact ⟨ret_bool (by rw [HV.out]; rfl), bl_trans hL b1⟩
        · skip
          by_cases h0 : kids.len = 0
          · have g0 : ((kids.len : Int) == 0) = true := by simp [h0]
            have h0' : (kids.len == 0) = true := by simp [h0]
            have HV := Lib.hid (show swB _ zs kids = true from by rw [sw_set, hb, h0']; rfl)
            go_wp2_with fail
            refine (CB.out _).mono ?_; rintro e w1 ⟨rfl, b1⟩; have cb9 := (hB.keep b1).cell
            go_wp2_with fail
            go_ret
            exact ⟨ret_bool (by rw [HV.out]; rfl), bl_trans hL b1⟩
          · have g0 : ((kids.len : Int) == 0) = false := by simp [h0]
            have h0' : (kids.len == 0) = false := by simp [h0]
            have HV := Lib.hid (show swB _ zs kids = false from by rw [sw_set, hb, h0']; rfl)
            go_wp2_with fail
            refine (CB.out _).mono ?_; rintro e w1 ⟨rfl, b1⟩; have cb9 := (hB.keep b1).cell
            go_wp2_with fail
            go_ret
            exact ⟨ret_bool (by rw [HV.out]; rfl), bl_trans hL b1⟩
      have m3 : (zk == 3) = false := by simp [n3]
      by_cases n4 : zk = 4
      · subst n4
        have cb1 := fun w => sIn kids.len 2 8 w
        obtain ⟨b, hb⟩ : ∃ b, inI kids.len 2 8 = b := ⟨_, rfl⟩
        rw [hb] at cb1
        have CB := Lib.hid cb1
        clear cb1
        cases b
        · skip
          have HV := Lib.hid (show swB _ zs kids = false from by rw [sw_many (k := 4) (by simp), hb]; rfl)
          go_wp2_with fail
          refine (CB.out _).mono ?_; rintro e w1 ⟨rfl, rfl⟩
          go_wp2_with fail
          go_ret
          exact ⟨ret_bool (by rw [HV.out]; rfl), hL⟩
        · skip
          cases he : zs.toList.isEmpty
          · skip
            have HV := Lib.hid (show swB _ zs kids = false from by rw [sw_many (k := 4) (by simp), hb, he]; rfl)
            go_wp2_with fail
            refine (CB.out _).mono ?_; rintro e w1 ⟨rfl, rfl⟩
            go_wp2_with fail
            go_ret
            exact ⟨ret_bool (by rw [HV.out]; rfl), hL⟩
          · skip
            have HV := Lib.hid (show swB _ zs kids = true from by rw [sw_many (k := 4) (by simp), hb, he]; rfl)
            go_wp2_with fail
            refine (CB.out _).mono ?_; rintro e w1 ⟨rfl, rfl⟩
            go_wp2_with fail
            go_ret
            exact ⟨ret_bool (by rw [HV.out]; rfl), hL⟩
      have m4 : (zk == 4) = false := by simp [n4]
      by_cases n5 : zk = 5
      · subst n5
        have cb1 := fun w => sIn kids.len 2 8 w
        obtain ⟨b, hb⟩ : ∃ b, inI kids.len 2 8 = b := ⟨_, rfl⟩
        rw [hb] at cb1
        have CB := Lib.hid cb1
        clear cb1
        cases b
        · skip
          have HV := Lib.hid (show swB _ zs kids = false from by rw [sw_many (k := 5) (by simp), hb]; rfl)
          go_wp2_with fail
          refine (CB.out _).mono ?_; rintro e w1 ⟨rfl, rfl⟩
          go_wp2_with fail
          go_ret
          exact ⟨ret_bool (by rw [HV.out]; rfl), hL⟩
        · skip
          cases he : zs.toList.isEmpty
          · skip
            have HV := Lib.hid (show swB _ zs kids = false from by rw [sw_many (k := 5) (by simp), hb, he]; rfl)
            go_wp2_with fail
            refine (CB.out _).mono ?_; rintro e w1 ⟨rfl, rfl⟩
            go_wp2_with fail
            go_ret
            exact ⟨ret_bool (by rw [HV.out]; rfl), hL⟩
          · skip
            have HV := Lib.hid (show swB _ zs kids = true from by rw [sw_many (k := 5) (by simp), hb, he]; rfl)
            go_wp2_with fail
            refine (CB.out _).mono ?_; rintro e w1 ⟨rfl, rfl⟩
            go_wp2_with fail
            go_ret
            exact ⟨ret_bool (by rw [HV.out]; rfl), hL⟩
      have m5 : (zk == 5) = false := by simp [n5]
      by_cases n6 : zk = 6
      · subst n6
        by_cases h1 : kids.len = 1
        · have g1 : ((kids.len : Int) == 1) = true := by simp [h1]
          have g1' : (kids.len == 1) = true := by simp [h1]
          obtain ⟨b, o, a, k1, A1, c1, rfl, hb, hd, hks, hSk, q0, q1, q2⟩ := at_Rex (hS.below hL (Nat.le_refl _)) (i := 0) (by omega)
          obtain ⟨yk, ys⟩ := a
          simp only [Nat.zero_mul, Nat.add_zero] at q0 q1 q2
          rw [Fr.drop_zero] at hd
          have hrep : repF kids = repB yk := repF_is hd
          have hlt0 : (0 : Int) < kids.len := by omega
          clear hd
          have cb1 := fun w => sRep yk w
          obtain ⟨r, hr⟩ : ∃ r, repB yk = r := ⟨_, rfl⟩
          rw [hr] at cb1
          have CB := Lib.hid cb1
          clear cb1
          cases r
          · skip
            cases he : zs.toList.isEmpty
            · skip
              have HV := Lib.hid (show swB _ zs kids = false from by rw [sw_rep (k := 6) (by simp), g1', hrep, hr, he]; rfl)
              go_wp2_with fail
              refine (CB.out _).mono ?_; rintro e w1 ⟨rfl, rfl⟩
              go_wp2_with fail
              go_ret
              exact ⟨ret_bool (by rw [HV.out]; rfl), hL⟩
            · skip
              have HV := Lib.hid (show swB _ zs kids = true from by rw [sw_rep (k := 6) (by simp), g1', hrep, hr, he]; rfl)
              go_wp2_with fail
              refine (CB.out _).mono ?_; rintro e w1 ⟨rfl, rfl⟩
              go_wp2_with fail
              go_ret
              exact ⟨ret_bool (by rw [HV.out]; rfl), hL⟩
          · skip
            have HV := Lib.hid (show swB _ zs kids = false from by rw [sw_rep (k := 6) (by simp), g1', hrep, hr]; rfl)
            go_wp2_with fail
            refine (CB.out _).mono ?_; rintro e w1 ⟨rfl, rfl⟩
            go_wp2_with fail
            go_ret
            exact ⟨ret_bool (by rw [HV.out]; rfl), hL⟩
        · have g1 : ((kids.len : Int) == 1) = false := beq_eq_false_iff_ne.2 (by omega)
          have g1' : (kids.len == 1) = false := by simp [h1]
          have HV := Lib.hid (show swB _ zs kids = false from by rw [sw_rep (k := 6) (by simp), g1']; rfl)
          go_wp2_with fail
          go_ret
          exact ⟨ret_bool (by rw [HV.out]; rfl), hL⟩
      have m6 : (zk == 6) = false := by simp [n6]
      by_cases n7 : zk = 7
      · subst n7
        by_cases h1 : kids.len = 1
        · have g1 : ((kids.len : Int) == 1) = true := by simp [h1]
          have g1' : (kids.len == 1) = true := by simp [h1]
          obtain ⟨b, o, a, k1, A1, c1, rfl, hb, hd, hks, hSk, q0, q1, q2⟩ := at_Rex (hS.below hL (Nat.le_refl _)) (i := 0) (by omega)
          obtain ⟨yk, ys⟩ := a
          simp only [Nat.zero_mul, Nat.add_zero] at q0 q1 q2
          rw [Fr.drop_zero] at hd
          have hrep : repF kids = repB yk := repF_is hd
          have hlt0 : (0 : Int) < kids.len := by omega
          clear hd
          have cb1 := fun w => sRep yk w
          obtain ⟨r, hr⟩ : ∃ r, repB yk = r := ⟨_, rfl⟩
          rw [hr] at cb1
          have CB := Lib.hid cb1
          clear cb1
          cases r
          · skip
            cases he : zs.toList.isEmpty
            · skip
              have HV := Lib.hid (show swB _ zs kids = false from by rw [sw_rep (k := 7) (by simp), g1', hrep, hr, he]; rfl)
              go_wp2_with fail
              refine (CB.out _).mono ?_; rintro e w1 ⟨rfl, rfl⟩
              go_wp2_with fail
              go_ret
              exact ⟨ret_bool (by rw [HV.out]; rfl), hL⟩
            · skip
              have HV := Lib.hid (show swB _ zs kids = true from by rw [sw_rep (k := 7) (by simp), g1', hrep, hr, he]; rfl)
              go_wp2_with fail
              refine (CB.out _).mono ?_; rintro e w1 ⟨rfl, rfl⟩
              go_wp2_with fail
              go_ret
              exact ⟨ret_bool (by rw [HV.out]; rfl), hL⟩
          · skip
            have HV := Lib.hid (show swB _ zs kids = false from by rw [sw_rep (k := 7) (by simp), g1', hrep, hr]; rfl)
            go_wp2_with fail
            refine (CB.out _).mono ?_; rintro e w1 ⟨rfl, rfl⟩
            go_wp2_with fail
            go_ret
            exact ⟨ret_bool (by rw [HV.out]; rfl), hL⟩
        · have g1 : ((kids.len : Int) == 1) = false := beq_eq_false_iff_ne.2 (by omega)
          have g1' : (kids.len == 1) = false := by simp [h1]
          have HV := Lib.hid (show swB _ zs kids = false from by rw [sw_rep (k := 7) (by simp), g1']; rfl)
          go_wp2_with fail
          go_ret
          exact ⟨ret_bool (by rw [HV.out]; rfl), hL⟩
      have m7 : (zk == 7) = false := by simp [n7]
      by_cases n8 : zk = 8
      · subst n8
        by_cases h1 : kids.len = 1
        · have g1 : ((kids.len : Int) == 1) = true := by simp [h1]
          have g1' : (kids.len == 1) = true := by simp [h1]
          obtain ⟨b, o, a, k1, A1, c1, rfl, hb, hd, hks, hSk, q0, q1, q2⟩ := at_Rex (hS.below hL (Nat.le_refl _)) (i := 0) (by omega)
          obtain ⟨yk, ys⟩ := a
          simp only [Nat.zero_mul, Nat.add_zero] at q0 q1 q2
          rw [Fr.drop_zero] at hd
          have hrep : repF kids = repB yk := repF_is hd
          have hlt0 : (0 : Int) < kids.len := by omega
          clear hd
          have cb1 := fun w => sRep yk w
          obtain ⟨r, hr⟩ : ∃ r, repB yk = r := ⟨_, rfl⟩
          rw [hr] at cb1
          have CB := Lib.hid cb1
          clear cb1
          cases r
          · skip
            cases he : zs.toList.isEmpty
            · skip
              have HV := Lib.hid (show swB _ zs kids = false from by rw [sw_rep (k := 8) (by simp), g1', hrep, hr, he]; rfl)
              go_wp2_with fail
              refine (CB.out _).mono ?_; rintro e w1 ⟨rfl, rfl⟩
              go_wp2_with fail
              go_ret
              exact ⟨ret_bool (by rw [HV.out]; rfl), hL⟩
            · skip
              have HV := Lib.hid (show swB _ zs kids = true from by rw [sw_rep (k := 8) (by simp), g1', hrep, hr, he]; rfl)
              go_wp2_with fail
              refine (CB.out _).mono ?_; rintro e w1 ⟨rfl, rfl⟩
              go_wp2_with fail
              go_ret
              exact ⟨ret_bool (by rw [HV.out]; rfl), hL⟩
          · skip
            have HV := Lib.hid (show swB _ zs kids = false from by rw [sw_rep (k := 8) (by simp), g1', hrep, hr]; rfl)
            go_wp2_with fail
            refine (CB.out _).mono ?_; rintro e w1 ⟨rfl, rfl⟩
            go_wp2_with fail
            go_ret
            exact ⟨ret_bool (by rw [HV.out]; rfl), hL⟩
        · have g1 : ((kids.len : Int) == 1) = false := beq_eq_false_iff_ne.2 (by omega)
          have g1' : (kids.len == 1) = false := by simp [h1]
          have HV := Lib.hid (show swB _ zs kids = false from by rw [sw_rep (k := 8) (by simp), g1']; rfl)
          go_wp2_with fail
          go_ret
          exact ⟨ret_bool (by rw [HV.out]; rfl), hL⟩
      have m8 : (zk == 8) = false := by simp [n8]
      by_cases n2 : zk = 2
      · subst n2
        by_cases h0 : kids.len = 0
        · have g0 : ((kids.len : Int) == 0) = true := by simp [h0]
          have h0' : (kids.len == 0) = true := by simp [h0]
          cases he : zs.toList.isEmpty
          · skip
            have HV := Lib.hid (show swB _ zs kids = false from by rw [sw_leaf (k := 2) (by simp), h0', he]; rfl)
            go_wp2_with fail
            go_ret
            exact ⟨ret_bool (by rw [HV.out]; rfl), hL⟩
          · skip
            have HV := Lib.hid (show swB _ zs kids = true from by rw [sw_leaf (k := 2) (by simp), h0', he]; rfl)
            go_wp2_with fail
            go_ret
            exact ⟨ret_bool (by rw [HV.out]; rfl), hL⟩
        · have g0 : ((kids.len : Int) == 0) = false := by simp [h0]
          have h0' : (kids.len == 0) = false := by simp [h0]
          have HV := Lib.hid (show swB _ zs kids = false from by rw [sw_leaf (k := 2) (by simp), h0']; rfl)
          go_wp2_with fail
          go_ret
          exact ⟨ret_bool (by rw [HV.out]; rfl), hL⟩
      have m2 : (zk == 2) = false := by simp [n2]
      by_cases n9 : zk = 9
      · subst n9
        by_cases h0 : kids.len = 0
        · have g0 : ((kids.len : Int) == 0) = true := by simp [h0]
          have h0' : (kids.len == 0) = true := by simp [h0]
          cases he : zs.toList.isEmpty
          · skip
            have HV := Lib.hid (show swB _ zs kids = false from by rw [sw_leaf (k := 9) (by simp), h0', he]; rfl)
            go_wp2_with fail
            go_ret
            exact ⟨ret_bool (by rw [HV.out]; rfl), hL⟩
          · skip
            have HV := Lib.hid (show swB _ zs kids = true from by rw [sw_leaf (k := 9) (by simp), h0', he]; rfl)
            go_wp2_with fail
            go_ret
            exact ⟨ret_bool (by rw [HV.out]; rfl), hL⟩
        · have g0 : ((kids.len : Int) == 0) = false := by simp [h0]
          have h0' : (kids.len == 0) = false := by simp [h0]
          have HV := Lib.hid (show swB _ zs kids = false from by rw [sw_leaf (k := 9) (by simp), h0']; rfl)
          go_wp2_with fail
          go_ret
          exact ⟨ret_bool (by rw [HV.out]; rfl), hL⟩
      have m9 : (zk == 9) = false := by simp [n9]
      by_cases n10 : zk = 10
      · subst n10
        by_cases h0 : kids.len = 0
        · have g0 : ((kids.len : Int) == 0) = true := by simp [h0]
          have h0' : (kids.len == 0) = true := by simp [h0]
          cases he : zs.toList.isEmpty
          · skip
            have HV := Lib.hid (show swB _ zs kids = false from by rw [sw_leaf (k := 10) (by simp), h0', he]; rfl)
            go_wp2_with fail
            go_ret
            exact ⟨ret_bool (by rw [HV.out]; rfl), hL⟩
          · skip
            have HV := Lib.hid (show swB _ zs kids = true from by rw [sw_leaf (k := 10) (by simp), h0', he]; rfl)
            go_wp2_with fail
            go_ret
            exact ⟨ret_bool (by rw [HV.out]; rfl), hL⟩
        · have g0 : ((kids.len : Int) == 0) = false := by simp [h0]
          have h0' : (kids.len == 0) = false := by simp [h0]
          have HV := Lib.hid (show swB _ zs kids = false from by rw [sw_leaf (k := 10) (by simp), h0']; rfl)
          go_wp2_with fail
          go_ret
          exact ⟨ret_bool (by rw [HV.out]; rfl), hL⟩
      have m10 : (zk == 10) = false := by simp [n10]
      by_cases n11 : zk = 11
      · subst n11
        by_cases h0 : kids.len = 0
        · have g0 : ((kids.len : Int) == 0) = true := by simp [h0]
          have h0' : (kids.len == 0) = true := by simp [h0]
          cases he : zs.toList.isEmpty
          · skip
            have HV := Lib.hid (show swB _ zs kids = false from by rw [sw_leaf (k := 11) (by simp), h0', he]; rfl)
            go_wp2_with fail
            go_ret
            exact ⟨ret_bool (by rw [HV.out]; rfl), hL⟩
          · skip
            have HV := Lib.hid (show swB _ zs kids = true from by rw [sw_leaf (k := 11) (by simp), h0', he]; rfl)
            go_wp2_with fail
            go_ret
            exact ⟨ret_bool (by rw [HV.out]; rfl), hL⟩
        · have g0 : ((kids.len : Int) == 0) = false := by simp [h0]
          have h0' : (kids.len == 0) = false := by simp [h0]
          have HV := Lib.hid (show swB _ zs kids = false from by rw [sw_leaf (k := 11) (by simp), h0']; rfl)
          go_wp2_with fail
          go_ret
          exact ⟨ret_bool (by rw [HV.out]; rfl), hL⟩
      have m11 : (zk == 11) = false := by simp [n11]
      have HV := Lib.hid (show swB _ zs kids = false from sw_none (by intro j hj; simp only [List.mem_cons, List.not_mem_nil, or_false] at hj; rcases hj with rfl | rfl | rfl | rfl | rfl | rfl | rfl | rfl | rfl | rfl | rfl <;> assumption) zs kids)
      go_wp2_with fail
      go_ret
      exact ⟨ret_bool (by rw [HV.out]; rfl), hL⟩

theorem sOk_any (K : Nat) : ∀ (kids : Fr (Int × ByteArray)), kids.size ≤ K → K ≤ 1048576 → FrOk qSmall kids → ∀ (zk : Int) (zs : ByteArray) (A : Option Addr) (c : Nat) (w : World), zs.size ≤ 1048576 → Sl rexC w 0 w.heap.size A kids → Calls Try.prog 81 #[.agg #[.int .i64 zk, .string zs, .slice A kids.len c]] w fun e w' => e = .returned (.bool (okS zk kids && swB zk zs kids)) ∧ Below w.heap.size w w' := by
  induction K with
  | zero =>
    intro kids hK _ hq zk zs A c w hz hS
    exact sOk_step 0 zk zs kids A c w hK (by omega) hz hq hS (fun kids h => by omega)
  | succ K ih =>
    intro kids hK hb hq zk zs A c w hz hS
    exact sOk_step (K + 1) zk zs kids A c w hK (by omega) hz hq hS (fun kids h hq => ih kids (by omega) (by omega) hq)

end Go.Proofs.Ytnoekbgmhnhneaa
