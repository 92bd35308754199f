/- Walks over the reference's rows and matrices of yes and no: l4Takes, l4None, l4Same, l4Row. -/
import Derived.Test.YtnoekbgmhnhneaaEndsX
import Derived.Test.YtnoekbgmhnhneaaEndsM
namespace Go.Proofs.Ytnoekbgmhnhneaa
open Go.RowKit

set_option maxHeartbeats 1000000 in
theorem sTakes (k : Int) (s : ByteArray) (c : Int) (w : World) (hs : s.size ≤ 9223372036854775807) (h0 : 0 ≤ c) (h1 : c < 256) :
    Calls Try.prog 58 #[.int .i64 k, .string s, .int .u8 c] w fun e w' => e = .returned (.bool (takeB k s c)) ∧ w' = w := by
  by_cases hk : k = 2
  · subst hk
    rw [show takeB 2 s c = true from rfl]
    go_enter Try.func58, Try.ntmps58
    go_wp2_with fail
    go_ret
    exact ⟨rfl, rfl⟩
  · have hkb : (k == 2) = false := beq_eq_false_iff_ne.2 hk
    have E1 := fun h => Lib.hid (show takeB k s c = false by unfold takeB; rw [hkb, hasB_not h0 h1 h]; rfl)
    have E2 := fun (i : Nat) (hi : i < s.size) (e : (s[i].toNat : Int) = c) => Lib.hid (show takeB k s c = true by unfold takeB; rw [← e, hasB_at hi]; simp)
    clear hk
    generalize takeB k s c = R at E1 E2 ⊢
    go_enter Try.func58, Try.ntmps58
    go_wp2_with fail
    go_loop [7] (fun i => ∃ n : Nat, n ≤ s.size ∧ i = .int .i64 n ∧ ∀ j, j < n → ∀ hj : j < s.size, (s[j].toNat : Int) ≠ c) (fun i => s.size - (intOf i).toNat)
    case atStart => exact ⟨0, Nat.zero_le _, rfl, fun j hj => absurd hj (Nat.not_lt_zero _)⟩
    case round =>
      obtain ⟨n, hn, rfl, hN⟩ := hrel
      by_cases hlt : (n : Int) < s.size
      · have hkn : n < s.size := by omega
        have hx := s[n].toNat_lt
        have hx' : (s[n].toNat : Int) < 256 := by omega
        have HN := Lib.hid hN
        clear hN E1
        cases he : ((s[n].toNat : Int) == c)
        · have hne := Lib.hid (beq_eq_false_iff_ne.1 he)
          clear E2
          go_wp2_with fail
          go_round
          case rel => exact ⟨n + 1, by omega, by go_num, fun j hj hjs => by
            rcases Nat.lt_or_ge j n with h | h
            · exact HN.out j h hjs
            · have : j = n := by omega
              subst this
              exact hne.out⟩
          case measure => simp [intOf]; omega
        · have E := E2 n hkn (beq_iff_eq.1 he)
          clear E2
          go_wp2_with fail
          go_ret
          exact ⟨ret_bool (by rw [E.out]), rfl⟩
      · have E := E1 fun i hi => hN i (by omega) hi
        clear E1 E2 hN
        go_wp2_with fail
        go_ret
        exact ⟨ret_bool (by rw [E.out]), rfl⟩

set_option maxRecDepth 20000 in
set_option maxHeartbeats 1000000 in
theorem sNone (s : ByteArray) (w : World) (hs : s.size ≤ 1048576) :
    Calls Try.prog 120 #[.string s] w fun e w' => RetM (s.size + 1) noR w e w' ∧ Below w.heap.size w w' := by
  obtain ⟨i0, hi, hz0, hz1, hz2⟩ := info_parts info_bool
  obtain ⟨j0, hj, hy0, hy1, hy2⟩ := info_parts info_bools
  go_enter Try.func120, Try.ntmps120
  go_wp2_with fail
  go_loopw [3, 4] (fun v i wr => ∃ (k : Nat) (g : Nat → Nat) (M : Nat → Nat → Bool), k ≤ s.size + 1 ∧ i = .int .i64 k ∧ MatK wr w.heap.size wr.heap.size v (s.size + 1) k g M ∧ (∀ x y, x < k → M x y = false) ∧ Below w.heap.size w wr) (fun _ i _ => s.size + 1 - (intOf i).toNat)
  case atStart => exact ⟨0, fun _ => 0, fun _ _ => false, Nat.zero_le _, rfl, ⟨Row.mk (World.ownsRow_made w #[] 0 (Nat.le_refl _) (by simp [maxLen]) (by simp)), fun i hi => absurd hi (Nat.not_lt_zero _), fun i j hi => absurd hi (Nat.not_lt_zero _)⟩, fun _ _ _ => rfl, bl_alloc (Below.refl _ _) _⟩
  case round =>
    obtain ⟨k, g, M, hk, rfl, hM, hF, hL⟩ := hrel
    by_cases hle : (k : Int) ≤ s.size
    · have ew : IntKind.i64.wrap ((s.size : Int) + 1) = (s.size : Int) + 1 := IntWalk.i64_in _ (by omega)
      go_wp2_with (at_make; refine wpList_makeN rfl _ _ 99 rfl 4 i0 (.bool false) 1 1 Try.underlying99 hi hz0 hz1 hz2 rfl _ _ (s.size + 1) rfl rfl (by omega) (by omega) ?_)
      intro w1 hO1 b1
      have hO2 : w1.ownsRow wr.heap.size 4 1 (.slice (some ⟨wr.heap.size, 0, none⟩) (s.size + 1) (s.size + 1)) (s.size + 1) (bools (fun _ => false) (s.size + 1)) := by
        rw [← bools_zero]
        exact hO1
      clear hO1
      have hv := (hM.keep b1).1.1
      have hLw := hL.size
      have b1s := b1.size
      go_wp2_with (at_builtin; refine wpList_push rfl _ _ 118 rfl w.heap.size 99 j0 (.slice none 0 0) 1 24 Try.underlying118 hj hy0 hy1 hy2 rfl (by decide) _ _ _ rfl hv _ rfl rfl rfl (by omega) (by omega) (by omega) ?_)
      intro v' w2 hO3 hg3
      have hM2 := MatK.snoc (V := fun _ => false) hM b1 hO2 hO3 hg3 hLw (Nat.le_refl _)
      have hL2 := (bl_trans hL b1).grown hg3 (Nat.le_trans hLw b1s) (fun q e => by have := (hv.lt q e).1; omega)
      go_wp2_with fail
      go_roundw
      case rel => exact ⟨k + 1, _, _, by omega, by go_num, hM2, fun x y hx => by
        by_cases e : x = k
        · rw [e, putF_same]
        · rw [putF_other _ _ e]
          exact hF x y (by omega), hL2⟩
      case measure => simp [intOf]; omega
    · obtain rfl : k = s.size + 1 := by omega
      go_wp2_with fail
      go_ret
      exact ⟨⟨_, g, M, rfl, hM, fun x y hx _ => ⟨fun h => absurd h (by rw [hF x y hx]; exact Bool.false_ne_true), fun h => False.elim h⟩⟩, hL⟩

set_option maxHeartbeats 1000000 in
theorem sSame4 (s : ByteArray) (w : World) (hs : s.size ≤ 1048576) :
    Calls Try.prog 117 #[.string s] w fun e w' => RetM (s.size + 1) idR w e w' ∧ Below w.heap.size w w' := by
  have C := Lib.hid (sNone s w hs)
  obtain ⟨m, hm⟩ : ∃ m, s.size + 1 = m := ⟨_, rfl⟩
  rw [hm] at C ⊢
  have hm1 : s.size < m := by omega
  have hm2 : m ≤ s.size + 1 := by omega
  clear hm
  go_enter Try.func117, Try.ntmps117
  go_wp2_with fail
  refine C.out.mono ?_; rintro e w1 ⟨⟨v, g, M0, rfl, hM0, hI0⟩, b1⟩
  obtain ⟨b, c, rfl, hb1, hb2, _⟩ := hM0.form (by omega)
  go_wp2_with fail
  go_loopw [4] (fun i wr => ∃ (k : Nat) (M : Nat → Nat → Bool), k ≤ m ∧ i = .int .i64 k ∧ MatK wr w.heap.size w1.heap.size (.slice (some ⟨b, 0, none⟩) m c) m m g M ∧ (∀ x y, x < m → y < m → (M x y = true ↔ x = y ∧ x < k)) ∧ Below w.heap.size w wr ∧ w1.heap.size ≤ wr.heap.size) (fun i _ => m - (intOf i).toNat)
  case atStart => exact ⟨0, M0, Nat.zero_le _, rfl, hM0, fun x y hx hy => by rw [hI0 x y hx hy]; exact ⟨fun h => h.elim, fun h => absurd h.2 (Nat.not_lt_zero _)⟩, b1, Nat.le_refl _⟩
  case round =>
    obtain ⟨k, M, hk, rfl, hM, hF, hL, hz⟩ := hrel
    by_cases hle : (k : Int) ≤ s.size
    · have hkm : k < m := by omega
      have hkm' : (k : Int) < (m : Int) := by omega
      have p1 := hM.row hkm
      have p2 := hM.frozen hkm k
      have p3 := hM.cell hkm hkm
      have hg := hM.lt hkm
      have hM2 := hM.set hkm (j := k) true
      have hL2 := bl_setb (j := k) hL hg.1 (.bool true)
      go_wp2_with fail
      go_roundw
      case rel => exact ⟨k + 1, _, by omega, by go_num, hM2, fun x y hx hy => by
        by_cases e : x = k
        · subst e
          rw [updM_row]
          by_cases e2 : y = x
          · subst e2
            rw [upd_same]
            simp
          · rw [upd_other _ _ e2, hF x y hx hy]
            exact ⟨fun h => absurd h.1.symm e2, fun h => absurd h.1.symm e2⟩
        · rw [updM_other _ _ _ e, hF x y hx hy]
          exact ⟨fun h => ⟨h.1, by omega⟩, fun h => ⟨h.1, by omega⟩⟩, hL2, by simpa using hz⟩
      case measure => simp [intOf]; omega
    · have hkm : k = m := by omega
      go_wp2_with fail
      go_ret
      exact ⟨⟨_, g, M, rfl, hM.more (Nat.le_refl _) hz, fun x y hx hy => by rw [hF x y hx hy]; exact ⟨fun h => h.1, fun h => ⟨h, by omega⟩⟩⟩, hL⟩

theorem info_int_ : (Try.prog.info? 3).map (fun i => (i.zero, i.size, i.bytes)) = some (some (.int .i64 0), 1, 8) := by kernel_rfl
set_option maxHeartbeats 1000000 in
theorem sRow (A : Option Addr) (m c : Nat) (V : Nat → Bool) (w : World) (hm : m ≤ 1048577) (hR : VecR w w.heap.size A m V) :
    Calls Try.prog 96 #[.slice A m c] w fun e w' => RetI (rowI V m) w e w' ∧ Below w.heap.size w w' := by
  obtain ⟨i0, hi, hz0, hz1, hz2⟩ := info_parts info_int_
  go_enter Try.func96, Try.ntmps96
  go_wp2_with fail
  go_loopw [3, 4] (fun v i wr => ∃ k : Nat, k ≤ m ∧ i = .int .i64 k ∧ wr.ownsRow w.heap.size 3 1 v (rowI V k).length (ints (rowI V k)) ∧ Below w.heap.size w wr) (fun _ i _ => m - (intOf i).toNat)
  case atStart => exact ⟨0, Nat.zero_le _, rfl, World.ownsRow_made w #[] 0 (Nat.le_refl _) (by simp [maxLen]) (by simp), bl_alloc (Below.refl _ _) _⟩
  case round =>
    obtain ⟨k, hk, rfl, hO, hL⟩ := hrel
    by_cases hlt : k < m
    · have hlt' : (k : Int) < (m : Int) := by omega
      have hmm : (m : Int) ≤ 1048577 := by omega
      obtain ⟨b, off, rfl, hb, hc⟩ := (hR.keep hL (Nat.le_refl _)).at_ (by omega)
      have p1 := hc k hlt
      have hlen := rowI_len V k
      have hLs := hL.size
      clear hc
      cases hv : V k
      · rw [hv] at p1
        have HE := Lib.hid (rowI_no hv)
        clear hv
        go_wp2_with fail
        go_roundw
        case rel => exact ⟨k + 1, by omega, by go_num, by rw [HE.out]; exact hO, hL⟩
        case measure => simp [intOf]; omega
      · rw [hv] at p1
        have HE := Lib.hid (rowI_yes hv)
        clear hv
        go_wp2_with (at_builtin; refine wpList_push rfl _ _ 25 rfl w.heap.size 3 i0 (.int .i64 0) 1 8 Try.underlying25 hi hz0 hz1 hz2 rfl (by decide) _ _ _ rfl hO _ rfl rfl rfl (by omega) (by omega) hLs ?_)
        intro v' w2 hO3 hg3
        have hL2 := hL.grown hg3 hLs (fun q e => by have := (hO.lt q e).1; omega)
        go_wp2_with fail
        go_roundw
        case rel => exact ⟨k + 1, by omega, by go_num, by rw [HE.out, List.length_append, ← ints_snoc]; exact hO3, hL2⟩
        case measure => simp [intOf]; omega
    · obtain rfl : k = m := by omega
      go_wp2_with fail
      go_ret
      exact ⟨⟨_, rfl, Row.mk hO⟩, hL⟩

end Go.Proofs.Ytnoekbgmhnhneaa
