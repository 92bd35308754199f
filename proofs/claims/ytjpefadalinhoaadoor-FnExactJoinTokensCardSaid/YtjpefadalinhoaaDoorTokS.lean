/- Walks over the laws' helpers on rows of tokens: szTokenS, toTokenS, eqTokenS. Lengths are at most 2 to the 30th in these contracts. -/
import Derived.Test.YtjpefadalinhoaaDoorFlat
import Derived.Test.YtjpefadalinhoaaDoorStrB
import Derived.Test.YtjpefadalinhoaaDoorTok
import Derived.Deep.RegionHeld3
namespace Go.Proofs.YtjpefadalinhoaaDoor
open Go.RowKit

/-- A token's cells. -/
def tkC (t : (Int × Int × ByteArray)) : List Value := [.int .i64 t.1, .int .i64 t.2.1, .string t.2.2]
theorem tkC_len (t : (Int × Int × ByteArray)) : (tkC t).length = 3 := rfl
/-- The tokens' texts. -/
def tkS (ts : List (Int × Int × ByteArray)) : List ByteArray := ts.map (·.2.2)
theorem rd_tk {w : World} {B : Nat} {A : Option Addr} {ts : List (Int × Int × ByteArray)} (h : Reads w B 3 A ts.length (flat tkC ts)) {i : Nat} (hi : i < ts.length) :
    ∃ b off, A = some ⟨b, off, none⟩ ∧ b < B ∧ w.cell? ⟨b, off + i * 3, none⟩ = some (.int .i64 ts[i].1) ∧ w.cell? ⟨b, off + i * 3 + 1, none⟩ = some (.int .i64 ts[i].2.1) ∧ w.cell? ⟨b, off + i * 3 + 2, none⟩ = some (.string ts[i].2.2) := by
  obtain ⟨b, off, e, hb, hc⟩ := rd_flat tkC_len h hi
  exact ⟨b, off, e, hb, hc 0 _ rfl, hc 1 _ rfl, hc 2 _ rfl⟩
theorem info_tk : (Tryd.prog.info? 26).map (fun i => (i.zero, i.size, i.bytes)) = some (some (.agg #[.int .i64 0, .int .i64 0, .string ⟨#[]⟩]), 3, 32) := by kernel_rfl

set_option maxHeartbeats 1000000 in
theorem szTokenS_any (A : Option Addr) (c : Nat) (left : Int) (zs : List (Int × Int × ByteArray)) (w : World) (hR : Reads w w.heap.size 3 A zs.length (flat tkC zs)) (hZ : ∀ z ∈ zs, z.2.2.size ≤ 9223372036854775807) (hn : zs.length ≤ 9223372036854775807) (h0 : 0 ≤ left) (h1 : left ≤ 1048576) :
    Calls Tryd.prog 9 #[.slice A zs.length c, .int .i64 left] w fun e w' => e = .returned (.int .i64 (szS left (tkS zs))) ∧ Below w.heap.size w w' := by
  have hsl : (tkS zs).length = zs.length := by simp [tkS]
  by_cases hl : left - (zs.length : Int) < 0
  · have E : szS left (tkS zs) = -1 := by unfold szS; rw [hsl, if_pos hl]
    rw [E]
    go_enter Tryd.func9, Tryd.ntmps9
    go_wp2_with fail
    go_ret
    exact ⟨rfl, Below.refl _ _⟩
  · have E : szL (left - zs.length) ((tkS zs).drop 0) = szS left (tkS zs) := by unfold szS; rw [hsl, if_neg hl]; rfl
    generalize szS left (tkS zs) = R at E ⊢
    have HE := Lib.hid E
    have HSL := Lib.hid hsl
    clear E hsl
    go_enter Tryd.func9, Tryd.ntmps9
    go_wp2_with fail
    go_loopw [1, 5] (fun l i wr => ∃ (k : Nat) (y : Int), k ≤ zs.length ∧ i = .int .i64 k ∧ l = .int .i64 y ∧ 0 ≤ y ∧ y ≤ 1048576 ∧ szL y ((tkS zs).drop k) = R ∧ Below w.heap.size w wr) (fun _ i _ => zs.length - (intOf i).toNat)
    case atStart => exact ⟨0, _, Nat.zero_le _, rfl, rfl, by omega, by omega, HE.out, Below.refl _ _⟩
    case round =>
      obtain ⟨k, y, hk, rfl, rfl, hy0, hy1, hE, hL⟩ := hrel
      by_cases hlt : k < zs.length
      · obtain ⟨b, off, rfl, hb, q0, q1, q2⟩ := rd_tk (hR.below hL) hlt
        have hz := hZ _ (List.getElem_mem hlt)
        have hlt' : (k : Int) < (zs.length : Int) := by omega
        have hget : (tkS zs)[k]'(by rw [HSL.out]; exact hlt) = zs[k].2.2 := by simp [tkS]
        rw [szL_drop (tkS zs) k y (by rw [HSL.out]; exact hlt), hget] at hE
        clear hget
        generalize zs[k] = z at *
        obtain ⟨zk, zn, zt⟩ := z
        have C := szToken_any zk zn y zt wr hz hy0 hy1
        unfold szStr at C
        by_cases hs : y - (zt.size : Int) < 0
        · rw [if_pos hs] at hE
          rw [if_pos hs] at C
          have CC := Lib.hid C
          subst hE
          clear HE C
          go_wp2_with fail
          refine CC.out.mono ?_; rintro e w1 ⟨rfl, b1⟩
          go_wp2_with fail
          go_ret
          exact ⟨rfl, bl_trans hL b1⟩
        · rw [if_neg hs] at hE
          rw [if_neg hs] at C
          have CC := Lib.hid C
          have H := Lib.hid hE
          clear hE HE C
          go_wp2_with fail
          refine CC.out.mono ?_; rintro e w1 ⟨rfl, b1⟩
          go_wp2_with fail
          go_roundw
          case rel => exact ⟨k + 1, _, by omega, by go_num, rfl, by omega, by omega, H.out, bl_trans hL b1⟩
          case measure => simp [intOf]; omega
      · obtain rfl : k = zs.length := by omega
        rw [← HSL.out, List.drop_length] at hE
        have hE' : y = R := hE
        subst hE'
        clear HE hE
        go_wp2_with fail
        go_ret
        exact ⟨rfl, hL⟩

/-- It hands back new tokens. -/
def RetTk (R : List (Int × Int × ByteArray) → Prop) (w : World) (e : Ending) (w' : World) : Prop := ∃ (v : Value) (zs : List (Int × Int × ByteArray)), e = .returned v ∧ R zs ∧ Row w' w.heap.size w'.heap.size 26 3 v zs.length (flat tkC zs)
set_option maxHeartbeats 1000000 in
theorem toTokenS_any (A : Option Addr) (c : Nat) (zs : List (Int × Int × ByteArray)) (w : World) (hR : Reads w w.heap.size 3 A zs.length (flat tkC zs)) (hn : zs.length ≤ 1073741824) :
    Calls Tryd.prog 11 #[.slice A zs.length c] w fun e w' => RetTk (fun ys => zs = ys) w e w' ∧ Below w.heap.size w w' := by
  have hn' : (zs.length : Int) ≤ 1073741824 := by omega
  obtain ⟨i0, hi, hz0, hz1, hz2⟩ := info_parts info_tk
  obtain ⟨ys, hys⟩ : ∃ ys : List (Int × Int × ByteArray), ys = List.replicate zs.length (0, 0, ⟨#[]⟩) := ⟨_, rfl⟩
  have hyl : Hid (zs.length = ys.length) := by unfold Hid; rw [hys]; simp
  have hrep2 : Hid ((List.replicate zs.length [Value.int .i64 0, Value.int .i64 0, Value.string ⟨#[]⟩]).flatten = flat tkC ys) := by
    unfold Hid
    rw [hys]
    unfold flat
    rw [List.flatMap_replicate]
    rfl
  clear hys
  go_enter Tryd.func11, Tryd.ntmps11
  go_wp2_with (at_make; refine wpList_makeN rfl _ _ 32 rfl 26 i0 (.agg #[.int .i64 0, .int .i64 0, .string ⟨#[]⟩]) 3 32 Tryd.underlying32 hi hz0 hz1 hz2 rfl _ _ zs.length rfl rfl (by omega) (by omega) ?_)
  intro w1 hO hL
  rw [hrep2.out] at hO
  go_wp2_with fail
  go_loopw [4] (fun i wr => ∃ k : Nat, k ≤ zs.length ∧ i = .int .i64 k ∧ wr.ownsRow w.heap.size 26 3 (.slice (some ⟨w.heap.size, 0, none⟩) zs.length zs.length) zs.length (flat tkC (uptoG zs ys k)) ∧ Below w.heap.size w wr) (fun i _ => zs.length - (intOf i).toNat)
  case atStart => exact ⟨0, Nat.zero_le _, rfl, by rw [uptoG_zero]; exact hO, hL⟩
  case round =>
    obtain ⟨k, hk, rfl, hOr, hLr⟩ := hrel
    by_cases hlt : k < zs.length
    · obtain ⟨b, off, rfl, hb, q0, q1, q2⟩ := rd_tk (hR.below hLr) hlt
      have hlt' : (k : Int) < (zs.length : Int) := by omega
      have hu := uptoG_succ zs ys k hyl.out hlt
      have hul : k < (uptoG zs ys k).length := by rw [uptoG_len _ _ _ hyl.out hk]; exact hlt
      have hcg := fun c hc => flat_get tkC_len (uptoG zs ys k) k hul c hc
      have HU := Lib.hid hu
      clear hu
      generalize zs[k] = z at *
      obtain ⟨zk, zn, zt⟩ := z
      go_wp2_with fail
      refine (toToken_any zk zn zt _).mono ?_; rintro e w2 ⟨rfl, b2⟩
      have hO2 : w2.ownsRow _ _ _ _ _ _ := ((Row.mk hOr).keep b2).1
      have c0 := hO2.cellAt (k * 3) (by omega)
      have c1 := hO2.cellAt (k * 3 + 1) (by omega)
      have c2 := hO2.cellAt (k * 3 + 2) (by omega)
      rw [hcg 1 (by omega)] at c1
      rw [hcg 2 (by omega)] at c2
      have h0 := hcg 0 (by omega)
      rw [Nat.add_zero] at h0
      rw [h0] at c0
      have f0 := hO2.frozenAt (k * 3)
      have f1 := hO2.frozenAt (k * 3 + 1)
      have f2 := hO2.frozenAt (k * 3 + 2)
      clear h0 hcg
      have hS := (((hO2.stored (k * 3) (.int .i64 zk)).1.stored (k * 3 + 1) (.int .i64 zn)).1.stored (k * 3 + 2) (.string zt)).1
      rw [flat_set3 tkC_len (zk, zn, zt) rfl _ k hul, HU.out] at hS
      have HS := Lib.hid hS
      clear hS
      generalize (uptoG zs ys k)[k] = y at *
      obtain ⟨yk, yn, yt⟩ := y
      simp only [tkC] at c0 c1 c2
      go_wp2_with fail
      go_roundw
      case rel => exact ⟨k + 1, by omega, by go_num, HS.out, bl_set (bl_set (bl_set (bl_trans hLr b2) (Nat.le_refl _) _) (Nat.le_refl _) _) (Nat.le_refl _) _⟩
      case measure => simp [intOf]; omega
    · obtain rfl : k = zs.length := by omega
      rw [uptoG_all _ _ hyl.out] at hOr
      have H := Lib.hid hOr
      clear hOr
      go_wp2_with fail
      go_ret
      exact ⟨⟨_, zs, rfl, rfl, Row.mk H.out⟩, hLr⟩

set_option maxHeartbeats 400000 in
theorem eqToken_any (k n : Int) (s : ByteArray) (w : World) :
    Calls Tryd.prog 19 #[.agg #[.int .i64 k, .int .i64 n, .string s], .agg #[.int .i64 k, .int .i64 n, .string s]] w fun e w' => e = .returned (.bool true) ∧ Below w.heap.size w w' := by
  go_enter Tryd.func19, Tryd.ntmps19
  go_wp2_with fail
  go_ret
  exact ⟨rfl, by repeat (first | exact Below.refl _ _ | refine bl_drewN ?_ _ | refine Below.drew ?_ | refine bl_alloc ?_ _ | refine bl_set ?_ (by simp) _ | refine bl_trans ?_ (by assumption))⟩


set_option maxHeartbeats 1000000 in
theorem eqTokenS_any (A A' : Option Addr) (c c' : Nat) (zs : List (Int × Int × ByteArray)) (w : World) (hR : Reads w w.heap.size 3 A zs.length (flat tkC zs)) (hR' : Reads w w.heap.size 3 A' zs.length (flat tkC zs)) (hn : zs.length ≤ 1073741824) :
    Calls Tryd.prog 13 #[.slice A zs.length c, .slice A' zs.length c'] w fun e w' => e = .returned (.bool true) ∧ Below w.heap.size w w' := by
  have hn' : (zs.length : Int) ≤ 1073741824 := by omega
  go_enter Tryd.func13, Tryd.ntmps13
  go_wp2_with fail
  go_loopw [5] (fun i wr => ∃ k : Nat, k ≤ zs.length ∧ i = .int .i64 k ∧ Below w.heap.size w wr) (fun i _ => zs.length - (intOf i).toNat)
  case atStart => exact ⟨0, Nat.zero_le _, rfl, Below.refl _ _⟩
  case round =>
    obtain ⟨k, hk, rfl, hL⟩ := hrel
    by_cases hlt : k < zs.length
    · obtain ⟨b, off, rfl, hb, q0, q1, q2⟩ := rd_tk (hR.below hL) hlt
      obtain ⟨b', off', rfl, hb', r0, r1, r2⟩ := rd_tk (hR'.below hL) hlt
      have hlt' : (k : Int) < (zs.length : Int) := by omega
      have hbb : b < wr.drew.heap.size := Nat.lt_of_lt_of_le hb hL.size
      have hbb' : b' < wr.drew.heap.size := Nat.lt_of_lt_of_le hb' hL.size
      generalize zs[k] = z at *
      obtain ⟨zk, zn, zt⟩ := z
      go_wp2_with fail
      refine wp_region_held_drew (S := (fun x => (x.cell? ⟨b, off + k * 3, none⟩ = some (.int .i64 zk) ∧ x.cell? ⟨b, off + k * 3 + 1, none⟩ = some (.int .i64 zn) ∧ x.cell? ⟨b, off + k * 3 + 2, none⟩ = some (.string zt)) ∧ x.cell? ⟨b', off' + k * 3, none⟩ = some (.int .i64 zk) ∧ x.cell? ⟨b', off' + k * 3 + 1, none⟩ = some (.int .i64 zn) ∧ x.cell? ⟨b', off' + k * 3 + 2, none⟩ = some (.string zt))) (by kernel_rfl) ?_ (fun hHeld => ?_)
      · exact ⟨⟨q0, q1, q2⟩, r0, r1, r2⟩
      refine wpAnyH_take (i := 0) (oi := ⟨some 17, _, _, _, _, _⟩) (v := ?_) rfl (by kernel_rfl) (by kernel_rfl) (by kernel_rfl) (fun _ _ _ h => h) (Or.inl ⟨by rfl, ?_⟩) (by assumption) ?_
      case refine_2 => (intro w hSw; obtain ⟨⟨p0, p1, p2⟩, u0, u1, u2⟩ := hSw; go_simp; first | done | with_reducible rfl)
      simp only [Act.put, List.setIfInBounds_toArray, List.set_cons_zero, List.set_cons_succ]
      refine wpAnyH_take (i := 1) (oi := ⟨some 18, _, _, _, _, _⟩) (v := ?_) rfl (by kernel_rfl) (by kernel_rfl) (by kernel_rfl) (fun _ _ _ h => h) (Or.inl ⟨by rfl, ?_⟩) (by assumption) ?_
      case refine_2 => (intro w hSw; obtain ⟨⟨p0, p1, p2⟩, u0, u1, u2⟩ := hSw; go_simp; first | done | with_reducible rfl)
      simp only [Act.put, List.setIfInBounds_toArray, List.set_cons_zero, List.set_cons_succ]
      refine wpAnyH_take (i := 2) (oi := ⟨some 19, _, _, _, _, _⟩) (v := ?_) rfl (by kernel_rfl) (by kernel_rfl) (by kernel_rfl) (fun _ _ _ h => h) (Or.inl ⟨by rfl, ?_⟩) (by assumption) ?_
      case refine_2 => (intro w hSw; obtain ⟨⟨p0, p1, p2⟩, u0, u1, u2⟩ := hSw; go_simp; first | done | with_reducible rfl)
      simp only [Act.put, List.setIfInBounds_toArray, List.set_cons_zero, List.set_cons_succ]
      refine wpAnyH_take (i := 3) (oi := ⟨some 20, _, _, _, _, _⟩) (v := ?_) rfl (by kernel_rfl) (by kernel_rfl) (by kernel_rfl) (fun _ _ _ h => h) (Or.inl ⟨by rfl, ?_⟩) (by assumption) ?_
      case refine_2 => (intro w hSw; obtain ⟨⟨p0, p1, p2⟩, u0, u1, u2⟩ := hSw; go_simp; first | done | with_reducible rfl)
      simp only [Act.put, List.setIfInBounds_toArray, List.set_cons_zero, List.set_cons_succ]
      refine wpAnyH_take (i := 4) (oi := ⟨some 21, _, _, _, _, _⟩) (v := ?_) rfl (by kernel_rfl) (by kernel_rfl) (by kernel_rfl) (fun _ _ _ h => h) (Or.inl ⟨by rfl, ?_⟩) (by assumption) ?_
      case refine_2 => (intro w hSw; obtain ⟨⟨p0, p1, p2⟩, u0, u1, u2⟩ := hSw; go_simp; first | done | with_reducible rfl)
      simp only [Act.put, List.setIfInBounds_toArray, List.set_cons_zero, List.set_cons_succ]
      refine wpAnyH_take (i := 5) (oi := ⟨some 22, _, _, _, _, _⟩) (v := ?_) rfl (by kernel_rfl) (by kernel_rfl) (by kernel_rfl) (fun _ _ _ h => h) (Or.inl ⟨by rfl, ?_⟩) (by assumption) ?_
      case refine_2 => (intro w hSw; obtain ⟨⟨p0, p1, p2⟩, u0, u1, u2⟩ := hSw; go_simp; first | done | with_reducible rfl)
      simp only [Act.put, List.setIfInBounds_toArray, List.set_cons_zero, List.set_cons_succ]
      refine wpAnyH_take (i := 6) (oi := ⟨some 23, _, _, _, _, _⟩) (v := ?_) rfl (by kernel_rfl) (by kernel_rfl) (by kernel_rfl) (fun _ _ _ h => h) (Or.inl ⟨by rfl, ?_⟩) (by assumption) ?_
      case refine_2 => (intro w hSw; obtain ⟨⟨p0, p1, p2⟩, u0, u1, u2⟩ := hSw; go_simp; first | done | with_reducible rfl)
      simp only [Act.put, List.setIfInBounds_toArray, List.set_cons_zero, List.set_cons_succ]
      refine wpAnyH_take (i := 7) (oi := ⟨some 24, _, _, _, _, _⟩) (v := ?_) rfl (by kernel_rfl) (by kernel_rfl) (by kernel_rfl) (fun _ _ _ h => h) (Or.inl ⟨by rfl, ?_⟩) (by assumption) ?_
      case refine_2 => (intro w hSw; obtain ⟨⟨p0, p1, p2⟩, u0, u1, u2⟩ := hSw; go_simp; first | done | with_reducible rfl)
      simp only [Act.put, List.setIfInBounds_toArray, List.set_cons_zero, List.set_cons_succ]
      refine wpAnyH_ready (rs := [8]) (by kernel_rfl) (by simp) ?_
      refine AllReadyH.cons (o := ⟨some 25, _, _, _, _, _⟩) rfl (fun K hK => ?_) AllReadyH.nil
      go_simp
      refine (eqToken_any zk zn zt _).mono ?_; rintro e w1 ⟨rfl, b1⟩
      go_wp2_with fail
      refine hK.out _ _ (⟨⟨(b1.cell hbb).trans q0, (b1.cell hbb).trans q1, (b1.cell hbb).trans q2⟩, (b1.cell hbb').trans r0, (b1.cell hbb').trans r1, (b1.cell hbb').trans r2⟩) (fun hHeld => ?_)
      clear hK K
      try simp only [Act.put, List.setIfInBounds_toArray, List.set_cons_zero, List.set_cons_succ]
      refine wpAnyH_take (i := 9) (oi := ⟨some 26, _, _, _, _, _⟩) (v := ?_) rfl (by kernel_rfl) (by kernel_rfl) (by kernel_rfl) (fun _ _ _ h => h) (Or.inl ⟨by rfl, ?_⟩) (by assumption) ?_
      case refine_2 => (intro w hSw; skip; go_simp; first | done | with_reducible rfl)
      simp only [Act.put, List.setIfInBounds_toArray, List.set_cons_zero, List.set_cons_succ]
      refine wpAnyH_done (by kernel_rfl) ?_ _
      go_wp2_with fail
      go_roundw
      case rel => exact ⟨k + 1, by omega, by go_num, bl_trans hL.drew b1⟩
      case measure => simp [intOf]; omega
    · obtain rfl : k = zs.length := by omega
      go_wp2_with fail
      go_ret
      exact ⟨rfl, hL⟩

end Go.Proofs.YtjpefadalinhoaaDoor
