/- Walk over the reference's matrix of a right expression: l4All. -/
import Derived.Test.YtnoekbgmhnhneaaEndsT
import Derived.Test.YtnoekbgmhnhneaaEndsU
import Derived.Test.YtnoekbgmhnhneaaEndsY
namespace Go.Proofs.Ytnoekbgmhnhneaa
open Go.RowKit

set_option maxRecDepth 20000 in
set_option maxHeartbeats 8000000 in
theorem sAll_step (s : ByteArray) (m : Nat) (hm : Hid (s.size + 1 = m)) (hs : s.size ≤ 1048576) (K : Nat) (zk : Int) (zs : ByteArray) (kids : Fr (Int × ByteArray)) (A : Option Addr) (c : Nat) (w : World) (hK : kids.size ≤ K) (hl : kids.size ≤ 1048576) (hH : hereB zk zs kids = true) (hA : okA kids = true) (hw : zs.size + wt gRex kids ≤ 1048576) (hS : Sl rexC w 0 w.heap.size A kids)
    (ih : ∀ (kids : Fr (Int × ByteArray)), kids.size < K → ∀ (zk : Int) (zs : ByteArray) (A : Option Addr) (c : Nat) (w : World), hereB zk zs kids = true → okA kids = true → zs.size + wt gRex kids ≤ 1048576 → Sl rexC w 0 w.heap.size A kids → Calls Try.prog 95 #[.agg #[.int .i64 zk, .string zs, .slice A kids.len c], .string s] w fun e w' => RetM m (relOf s zk zs (rowR s kids)) w e w' ∧ Below w.heap.size w w') :
    Calls Try.prog 95 #[.agg #[.int .i64 zk, .string zs, .slice A kids.len c], .string s] w fun e w' => RetM m (relOf s zk zs (rowR s kids)) w e w' ∧ Below w.heap.size w w' := by
  have IHH := Lib.hid ih
  clear ih
  have hm1 : m ≤ 1048577 := by have := hm.out; omega
  have hm0 : 0 < m := by have := hm.out; omega
  by_cases n1 : zk = 1
  · subst n1
    rw [rel_one (k := 1) (by simp)]
    have B := Blk.new w 45 #[.int .i64 1, .string zs, .slice A kids.len c]
    have L0 := bl_alloc (Below.refl w.heap.size w) (.cells #[.int .i64 1, .string zs, .slice A kids.len c] 45)
    have C := sSame4 s (w.alloc (.cells #[.int .i64 1, .string zs, .slice A kids.len c] 45)) hs
    rw [hm.out] at C
    have CC := Lib.hid C
    clear C
    go_enter Try.func95, Try.ntmps95
    go_wp2_with fail
    refine CC.out.mono ?_; rintro e w1 ⟨⟨v, g, M0, rfl, hM0, hI0⟩, b1⟩
    replace B := B.keep b1
    have L1 := bl_trans L0 b1
    have es := alloc_size w (.cells #[.int .i64 1, .string zs, .slice A kids.len c] 45)
    rw [es] at hM0
    clear es
    have s1 := L1.size
    obtain ⟨b, c0, rfl, _, hb0, _⟩ := hM0.form hm0
    have pB := B.cell
    have CO := Lib.hid (sOne 1 zs A kids.len c s m w1 hm hs (by omega))
    go_wp2_with fail
    refine CO.out.mono ?_; rintro e w2 ⟨⟨v, g2, M2, rfl, hM2, hI2⟩, b2⟩
    go_wp2_with fail
    go_ret
    exact ⟨⟨_, g2, M2, rfl, hM2.more (by omega) (Nat.le_refl _), hI2⟩, bl_trans L1 b2⟩
  have m1 : (zk == 1) = false := by simp [n1]
  by_cases n2 : zk = 2
  · subst n2
    rw [rel_one (k := 2) (by simp)]
    have B := Blk.new w 45 #[.int .i64 2, .string zs, .slice A kids.len c]
    have L0 := bl_alloc (Below.refl w.heap.size w) (.cells #[.int .i64 2, .string zs, .slice A kids.len c] 45)
    have C := sSame4 s (w.alloc (.cells #[.int .i64 2, .string zs, .slice A kids.len c] 45)) hs
    rw [hm.out] at C
    have CC := Lib.hid C
    clear C
    go_enter Try.func95, Try.ntmps95
    go_wp2_with fail
    refine CC.out.mono ?_; rintro e w1 ⟨⟨v, g, M0, rfl, hM0, hI0⟩, b1⟩
    replace B := B.keep b1
    have L1 := bl_trans L0 b1
    have es := alloc_size w (.cells #[.int .i64 2, .string zs, .slice A kids.len c] 45)
    rw [es] at hM0
    clear es
    have s1 := L1.size
    obtain ⟨b, c0, rfl, _, hb0, _⟩ := hM0.form hm0
    have pB := B.cell
    have CO := Lib.hid (sOne 2 zs A kids.len c s m w1 hm hs (by omega))
    go_wp2_with fail
    refine CO.out.mono ?_; rintro e w2 ⟨⟨v, g2, M2, rfl, hM2, hI2⟩, b2⟩
    go_wp2_with fail
    go_ret
    exact ⟨⟨_, g2, M2, rfl, hM2.more (by omega) (Nat.le_refl _), hI2⟩, bl_trans L1 b2⟩
  have m2 : (zk == 2) = false := by simp [n2]
  by_cases n3 : zk = 3
  · subst n3
    rw [rel_one (k := 3) (by simp)]
    have B := Blk.new w 45 #[.int .i64 3, .string zs, .slice A kids.len c]
    have L0 := bl_alloc (Below.refl w.heap.size w) (.cells #[.int .i64 3, .string zs, .slice A kids.len c] 45)
    have C := sSame4 s (w.alloc (.cells #[.int .i64 3, .string zs, .slice A kids.len c] 45)) hs
    rw [hm.out] at C
    have CC := Lib.hid C
    clear C
    go_enter Try.func95, Try.ntmps95
    go_wp2_with fail
    refine CC.out.mono ?_; rintro e w1 ⟨⟨v, g, M0, rfl, hM0, hI0⟩, b1⟩
    replace B := B.keep b1
    have L1 := bl_trans L0 b1
    have es := alloc_size w (.cells #[.int .i64 3, .string zs, .slice A kids.len c] 45)
    rw [es] at hM0
    clear es
    have s1 := L1.size
    obtain ⟨b, c0, rfl, _, hb0, _⟩ := hM0.form hm0
    have pB := B.cell
    have CO := Lib.hid (sOne 3 zs A kids.len c s m w1 hm hs (by omega))
    go_wp2_with fail
    refine CO.out.mono ?_; rintro e w2 ⟨⟨v, g2, M2, rfl, hM2, hI2⟩, b2⟩
    go_wp2_with fail
    go_ret
    exact ⟨⟨_, g2, M2, rfl, hM2.more (by omega) (Nat.le_refl _), hI2⟩, bl_trans L1 b2⟩
  have m3 : (zk == 3) = false := by simp [n3]
  by_cases n4 : zk = 4
  · subst n4
    rw [rel_cat]
    have hkl : (kids.len : Int) ≤ 1048576 := by have := kids.len_size; omega
    have B := Blk.new w 45 #[.int .i64 4, .string zs, .slice A kids.len c]
    have L0 := bl_alloc (Below.refl w.heap.size w) (.cells #[.int .i64 4, .string zs, .slice A kids.len c] 45)
    have C := sSame4 s (w.alloc (.cells #[.int .i64 4, .string zs, .slice A kids.len c] 45)) hs
    rw [hm.out] at C
    have CC := Lib.hid C
    clear C
    go_enter Try.func95, Try.ntmps95
    go_wp2_with fail
    refine CC.out.mono ?_; rintro e w1 ⟨⟨v, g, M0, rfl, hM0, hI0⟩, b1⟩
    replace B := B.keep b1
    have L1 := bl_trans L0 b1
    have es := alloc_size w (.cells #[.int .i64 4, .string zs, .slice A kids.len c] 45)
    rw [es] at hM0
    clear es
    have s1 := L1.size
    obtain ⟨b, c0, rfl, _, hb0, _⟩ := hM0.form hm0
    have pB := B.cell
    go_wp2_with fail
    clear pB
    go_loopw [5, 6] (fun ov i wr => ∃ (k : Nat) (g : Nat → Nat) (M : Nat → Nat → Bool), k ≤ kids.len ∧ i = .int .i64 k ∧ MatK wr (w.heap.size + 1) wr.heap.size ov m m g M ∧ IsM m M (catR ((rowR s kids).take k)) ∧ Blk wr w.heap.size 45 #[.int .i64 4, .string zs, .slice A kids.len c] ∧ Below w.heap.size w wr) (fun _ i _ => kids.len - (intOf i).toNat)
    case atStart => exact ⟨0, g, M0, Nat.zero_le _, rfl, hM0, hI0, B, L1⟩
    case round =>
      clear hM0 hI0 B L1 s1 hb0
      obtain ⟨k, g3, M3, hk, rfl, hM3, hI3, hB, hL⟩ := hrel
      obtain ⟨b3, c3, rfl, _, _, _⟩ := hM3.form hm0
      have pB := hB.cell
      have hLs := hL.size
      by_cases hlt : k < kids.len
      · have hlt' : (k : Int) < (kids.len : Int) := by omega
        obtain ⟨bx, ox, l, k1, A1, c1, rfl, hbx, hd, hks, hSk, q0, q1, q2⟩ := at_Rex (hS.below hL (Nat.le_refl _)) hlt
        obtain ⟨h1, h2⟩ := okR_at hA hd
        have hwa := wtR_at hd
        have hct := cat_take (t := s) hlt hd
        obtain ⟨yk, ys⟩ := l
        simp only at q0 q1 h1 hwa hct
        have hF := fwd_of s yk ys k1
        rw [hm.out] at hF
        have hFc := fwd_cat (fwd_take (fwd_row s kids) k)
        rw [hm.out] at hFc
        have CE := Lib.hid (IHH.out k1 (by omega) yk ys A1 c1 wr h1 h2 (by omega) (hSk.more (Nat.le_refl _) hL.size))
        generalize relOf s yk ys (rowR s k1) = R at hct hF CE
        generalize catR ((rowR s kids).take k) = R0 at hct hFc hI3
        have HC := Lib.hid hct
        clear hct hd h1 h2
        go_wp2_with fail
        refine CE.out.mono ?_; rintro e w4 ⟨⟨v, g4, M4, rfl, hM4, hI4⟩, b4⟩
        obtain ⟨b4', c4, rfl, _, _, _⟩ := hM4.form hm0
        have L4 := bl_trans hL b4
        have CT := Lib.hid (sThen s m b3 c3 (w.heap.size + 1) wr.heap.size g3 M3 R0 b4' c4 wr.heap.size w4.heap.size g4 M4 R w4 hm hs (hM3.keep b4) hM4 hI3 hI4 hFc hF)
        go_wp2_with fail
        refine CT.out.mono ?_; rintro e w5 ⟨⟨v, g5, M5, rfl, hM5, hI5⟩, b5⟩
        have L5 := bl_trans L4 b5
        have hB5 := (hB.keep b4).keep b5
        have hM5' := hM5.more (lo' := w.heap.size + 1) (hi' := w5.heap.size) (by have := b4.size; have := hB.lt; omega) (Nat.le_refl _)
        go_wp2_with fail
        go_roundw
        case rel => exact ⟨k + 1, g5, M5, by omega, by go_num, hM5', by rw [HC.out]; exact hI5, hB5, L5⟩
        case measure => (simp [intOf] <;> omega)
      · obtain rfl : k = kids.len := by omega
        rw [List.take_of_length_le (by rw [rowR_len]; exact Nat.le_refl _)] at hI3
        have HI := Lib.hid hI3
        clear hI3
        go_wp2_with fail
        go_ret
        exact ⟨⟨_, g3, M3, rfl, hM3.more (by omega) (Nat.le_refl _), HI.out⟩, hL⟩
  have m4 : (zk == 4) = false := by simp [n4]
  by_cases n5 : zk = 5
  · subst n5
    rw [rel_alt]
    have hkl : (kids.len : Int) ≤ 1048576 := by have := kids.len_size; omega
    have B := Blk.new w 45 #[.int .i64 5, .string zs, .slice A kids.len c]
    have L0 := bl_alloc (Below.refl w.heap.size w) (.cells #[.int .i64 5, .string zs, .slice A kids.len c] 45)
    have C := sSame4 s (w.alloc (.cells #[.int .i64 5, .string zs, .slice A kids.len c] 45)) hs
    rw [hm.out] at C
    have CC := Lib.hid C
    clear C
    go_enter Try.func95, Try.ntmps95
    go_wp2_with fail
    refine CC.out.mono ?_; rintro e w1 ⟨⟨v, g, M0, rfl, hM0, hI0⟩, b1⟩
    replace B := B.keep b1
    have L1 := bl_trans L0 b1
    have es := alloc_size w (.cells #[.int .i64 5, .string zs, .slice A kids.len c] 45)
    rw [es] at hM0
    clear es
    have s1 := L1.size
    obtain ⟨b, c0, rfl, _, hb0, _⟩ := hM0.form hm0
    have pB := B.cell
    clear hM0 hI0
    have C := sNone s w1 hs
    rw [hm.out] at C
    have CN := Lib.hid C
    clear C
    go_wp2_with fail
    clear pB
    refine CN.out.mono ?_; rintro e w2 ⟨⟨v, g, M0, rfl, hM0, hI0⟩, b2⟩
    have L2 := bl_trans L1 b2
    have B2 := B.keep b2
    obtain ⟨b3, c3, rfl, _, hb3, _⟩ := hM0.form hm0
    have pB := B2.cell
    go_wp2_with fail
    clear pB
    go_loopw [7] (fun i wr => ∃ (k : Nat) (M : Nat → Nat → Bool), k ≤ kids.len ∧ i = .int .i64 k ∧ MatK wr w1.heap.size w2.heap.size (.slice (some ⟨b3, 0, none⟩) m c3) m m g M ∧ IsM m M (altR ((rowR s kids).take k)) ∧ Blk wr w.heap.size 45 #[.int .i64 5, .string zs, .slice A kids.len c] ∧ Below w.heap.size w wr ∧ w2.heap.size ≤ wr.heap.size) (fun i _ => kids.len - (intOf i).toNat)
    case atStart => exact ⟨0, M0, Nat.zero_le _, rfl, hM0, hI0, B2, L2, Nat.le_refl _⟩
    case round =>
      have hlt1 := B.lt
      clear hM0 hI0 L1 hb0 B2 B
      obtain ⟨k, M3, hk, rfl, hM3, hI3, hB, hL, hz⟩ := hrel
      have pB := hB.cell
      by_cases hlt : k < kids.len
      · have hlt' : (k : Int) < (kids.len : Int) := by omega
        obtain ⟨bx, ox, l, k1, A1, c1, rfl, hbx, hd, hks, hSk, q0, q1, q2⟩ := at_Rex (hS.below hL (Nat.le_refl _)) hlt
        obtain ⟨h1, h2⟩ := okR_at hA hd
        have hwa := wtR_at hd
        have hct := alt_take (t := s) hlt hd
        obtain ⟨yk, ys⟩ := l
        simp only at q0 q1 h1 hwa hct
        have hF := fwd_of s yk ys k1
        rw [hm.out] at hF
        have CE := Lib.hid (IHH.out k1 (by omega) yk ys A1 c1 wr h1 h2 (by omega) (hSk.more (Nat.le_refl _) hL.size))
        generalize relOf s yk ys (rowR s k1) = R at hct hF CE
        generalize altR ((rowR s kids).take k) = R0 at hct hI3
        have HC := Lib.hid hct
        clear hct hd h1 h2
        go_wp2_with fail
        refine CE.out.mono ?_; rintro e w4 ⟨⟨v, g4, M4, rfl, hM4, hI4⟩, b4⟩
        obtain ⟨b4', c4, rfl, _, _, _⟩ := hM4.form hm0
        have L4 := bl_trans hL b4
        have CT := Lib.hid (sAdd m b3 c3 b4' c4 w1.heap.size w2.heap.size wr.heap.size w4.heap.size g g4 M3 M4 w4 hm1 (hM3.keep b4) hM4 hz)
        go_wp2_with fail
        refine CT.out.mono ?_; rintro e w5 ⟨⟨rfl, M5, hM5, hA5⟩, b5⟩
        have L5 := bl_far L4 b5 (by omega)
        have hB5 := (hB.keep b4).below b5 hlt1
        have hz5 : w2.heap.size ≤ w5.heap.size := Nat.le_trans hz (Nat.le_trans b4.size b5.size)
        have HI := Lib.hid (show IsM m M5 (orR R0 R) from fun x y hx hy => hA5.end_ hF hI3 hI4 hx hy)
        clear hA5
        go_wp2_with fail
        go_roundw
        case rel => exact ⟨k + 1, M5, by omega, by go_num, hM5, by rw [HC.out]; exact HI.out, hB5, L5, hz5⟩
        case measure => (simp [intOf] <;> omega)
      · obtain rfl : k = kids.len := by omega
        rw [List.take_of_length_le (by rw [rowR_len]; exact Nat.le_refl _)] at hI3
        have HI := Lib.hid hI3
        clear hI3
        go_wp2_with fail
        go_ret
        exact ⟨⟨_, g, M3, rfl, hM3.more (by omega) hz, HI.out⟩, hL⟩
  have m5 : (zk == 5) = false := by simp [n5]
  by_cases n6 : zk = 6
  · subst n6
    have hlen := repR_len (k := 6) (by simp) hH
    rw [rel_star]
    obtain ⟨R, hR0⟩ : ∃ R, hdR (rowR s kids) = R := ⟨_, rfl⟩
    rw [hR0]
    have hR := Lib.hid hR0
    clear hR0
    have B := Blk.new w 45 #[.int .i64 6, .string zs, .slice A kids.len c]
    have L0 := bl_alloc (Below.refl w.heap.size w) (.cells #[.int .i64 6, .string zs, .slice A kids.len c] 45)
    have C := sSame4 s (w.alloc (.cells #[.int .i64 6, .string zs, .slice A kids.len c] 45)) hs
    rw [hm.out] at C
    have CC := Lib.hid C
    clear C
    go_enter Try.func95, Try.ntmps95
    go_wp2_with fail
    refine CC.out.mono ?_; rintro e w1 ⟨⟨v, g, M0, rfl, hM0, hI0⟩, b1⟩
    replace B := B.keep b1
    have L1 := bl_trans L0 b1
    have es := alloc_size w (.cells #[.int .i64 6, .string zs, .slice A kids.len c] 45)
    rw [es] at hM0
    clear es
    have s1 := L1.size
    obtain ⟨b, c0, rfl, _, hb0, _⟩ := hM0.form hm0
    have pB := B.cell
    obtain ⟨bx, ox, l, k1, A1, c1, rfl, hbx, hd, hks, hSk, q0, q1, q2⟩ := at_Rex (hS.below L1 (Nat.le_refl _)) (i := 0) hlen
    obtain ⟨h1, h2⟩ := okR_at hA hd
    have hwa := wtR_at hd
    obtain ⟨yk, ys⟩ := l
    simp only [Nat.zero_mul, Nat.add_zero] at q0 q1 q2
    simp only at h1 hwa
    rw [Fr.drop_zero] at hd
    have hR2 := hdR_row (t := s) hd
    rw [hR.out] at hR2
    simp only at hR2
    have hF := fwd_of s yk ys k1
    rw [hm.out, ← hR2] at hF
    have ce := IHH.out k1 (by omega) yk ys A1 c1 w1 h1 h2 (by omega) (hSk.more (Nat.le_refl _) L1.size)
    rw [← hR2] at ce
    have CE := Lib.hid ce
    clear ce hR2
    have hlt0 : (0 : Int) < kids.len := by omega
    clear hd hM0 hI0
    go_wp2_with fail
    refine CE.out.mono ?_; rintro e w2 ⟨⟨v, g2, M2, rfl, hM2, hI2⟩, b2⟩
    have L2 := bl_trans L1 b2
    obtain ⟨b2', c2, rfl, _, _, _⟩ := hM2.form hm0
    have CM := Lib.hid (sMany s m b2' c2 w1.heap.size w2.heap.size g2 M2 R w2 hm hs hM2 hI2 hF)
    go_wp2_with fail
    refine CM.out.mono ?_; rintro e w3 ⟨⟨v, g3, M3, rfl, hM3, hI3⟩, b3⟩
    have s2 := b2.size
    go_wp2_with fail
    go_ret
    exact ⟨⟨_, g3, M3, rfl, hM3.more (by omega) (Nat.le_refl _), hI3⟩, bl_trans L2 b3⟩
  have m6 : (zk == 6) = false := by simp [n6]
  by_cases n7 : zk = 7
  · subst n7
    have hlen := repR_len (k := 7) (by simp) hH
    rw [rel_plus]
    obtain ⟨R, hR0⟩ : ∃ R, hdR (rowR s kids) = R := ⟨_, rfl⟩
    rw [hR0]
    have hR := Lib.hid hR0
    clear hR0
    have B := Blk.new w 45 #[.int .i64 7, .string zs, .slice A kids.len c]
    have L0 := bl_alloc (Below.refl w.heap.size w) (.cells #[.int .i64 7, .string zs, .slice A kids.len c] 45)
    have C := sSame4 s (w.alloc (.cells #[.int .i64 7, .string zs, .slice A kids.len c] 45)) hs
    rw [hm.out] at C
    have CC := Lib.hid C
    clear C
    go_enter Try.func95, Try.ntmps95
    go_wp2_with fail
    refine CC.out.mono ?_; rintro e w1 ⟨⟨v, g, M0, rfl, hM0, hI0⟩, b1⟩
    replace B := B.keep b1
    have L1 := bl_trans L0 b1
    have es := alloc_size w (.cells #[.int .i64 7, .string zs, .slice A kids.len c] 45)
    rw [es] at hM0
    clear es
    have s1 := L1.size
    obtain ⟨b, c0, rfl, _, hb0, _⟩ := hM0.form hm0
    have pB := B.cell
    obtain ⟨bx, ox, l, k1, A1, c1, rfl, hbx, hd, hks, hSk, q0, q1, q2⟩ := at_Rex (hS.below L1 (Nat.le_refl _)) (i := 0) hlen
    obtain ⟨h1, h2⟩ := okR_at hA hd
    have hwa := wtR_at hd
    obtain ⟨yk, ys⟩ := l
    simp only [Nat.zero_mul, Nat.add_zero] at q0 q1 q2
    simp only at h1 hwa
    rw [Fr.drop_zero] at hd
    have hR2 := hdR_row (t := s) hd
    rw [hR.out] at hR2
    simp only at hR2
    have hF := fwd_of s yk ys k1
    rw [hm.out, ← hR2] at hF
    have ce := IHH.out k1 (by omega) yk ys A1 c1 w1 h1 h2 (by omega) (hSk.more (Nat.le_refl _) L1.size)
    rw [← hR2] at ce
    have CE := Lib.hid ce
    clear ce hR2
    have hlt0 : (0 : Int) < kids.len := by omega
    clear hd hM0 hI0
    go_wp2_with fail
    refine CE.out.mono ?_; rintro e w2 ⟨⟨v, g2, M2, rfl, hM2, hI2⟩, b2⟩
    have L2 := bl_trans L1 b2
    obtain ⟨b2', c2, rfl, _, _, _⟩ := hM2.form hm0
    have CM := Lib.hid (sMany s m b2' c2 w1.heap.size w2.heap.size g2 M2 R w2 hm hs hM2 hI2 hF)
    go_wp2_with fail
    refine CM.out.mono ?_; rintro e w3 ⟨⟨v, g3, M3, rfl, hM3, hI3⟩, b3⟩
    have L3 := bl_trans L2 b3
    obtain ⟨b3', c3, rfl, _, _, _⟩ := hM3.form hm0
    have s2 := b2.size
    have s3 := b3.size
    have CT := Lib.hid (sThen s m b2' c2 w1.heap.size w2.heap.size g2 M2 R b3' c3 w2.heap.size w3.heap.size g3 M3 (starR R) w3 hm hs (hM2.keep b3) hM3 hI2 hI3 hF hF.star)
    go_wp2_with fail
    refine CT.out.mono ?_; rintro e w4 ⟨⟨v, g4, M4, rfl, hM4, hI4⟩, b4⟩
    go_wp2_with fail
    go_ret
    exact ⟨⟨_, g4, M4, rfl, hM4.more (by omega) (Nat.le_refl _), hI4⟩, bl_trans L3 b4⟩
  have m7 : (zk == 7) = false := by simp [n7]
  by_cases n8 : zk = 8
  · subst n8
    have hlen := repR_len (k := 8) (by simp) hH
    rw [rel_opt]
    obtain ⟨R, hR0⟩ : ∃ R, hdR (rowR s kids) = R := ⟨_, rfl⟩
    rw [hR0]
    have hR := Lib.hid hR0
    clear hR0
    have B := Blk.new w 45 #[.int .i64 8, .string zs, .slice A kids.len c]
    have L0 := bl_alloc (Below.refl w.heap.size w) (.cells #[.int .i64 8, .string zs, .slice A kids.len c] 45)
    have C := sSame4 s (w.alloc (.cells #[.int .i64 8, .string zs, .slice A kids.len c] 45)) hs
    rw [hm.out] at C
    have CC := Lib.hid C
    clear C
    go_enter Try.func95, Try.ntmps95
    go_wp2_with fail
    refine CC.out.mono ?_; rintro e w1 ⟨⟨v, g, M0, rfl, hM0, hI0⟩, b1⟩
    replace B := B.keep b1
    have L1 := bl_trans L0 b1
    have es := alloc_size w (.cells #[.int .i64 8, .string zs, .slice A kids.len c] 45)
    rw [es] at hM0
    clear es
    have s1 := L1.size
    obtain ⟨b, c0, rfl, _, hb0, _⟩ := hM0.form hm0
    have pB := B.cell
    obtain ⟨bx, ox, l, k1, A1, c1, rfl, hbx, hd, hks, hSk, q0, q1, q2⟩ := at_Rex (hS.below L1 (Nat.le_refl _)) (i := 0) hlen
    obtain ⟨h1, h2⟩ := okR_at hA hd
    have hwa := wtR_at hd
    obtain ⟨yk, ys⟩ := l
    simp only [Nat.zero_mul, Nat.add_zero] at q0 q1 q2
    simp only at h1 hwa
    rw [Fr.drop_zero] at hd
    have hR2 := hdR_row (t := s) hd
    rw [hR.out] at hR2
    simp only at hR2
    have hF := fwd_of s yk ys k1
    rw [hm.out, ← hR2] at hF
    have ce := IHH.out k1 (by omega) yk ys A1 c1 w1 h1 h2 (by omega) (hSk.more (Nat.le_refl _) L1.size)
    rw [← hR2] at ce
    have CE := Lib.hid ce
    clear ce hR2
    have hlt0 : (0 : Int) < kids.len := by omega
    clear hd
    go_wp2_with fail
    refine CE.out.mono ?_; rintro e w2 ⟨⟨v, g2, M2, rfl, hM2, hI2⟩, b2⟩
    have L2 := bl_trans L1 b2
    obtain ⟨b2', c2, rfl, _, _, _⟩ := hM2.form hm0
    have s2 := b2.size
    have CT := Lib.hid (sAdd m b c0 b2' c2 (w.heap.size + 1) w1.heap.size w1.heap.size w2.heap.size g g2 M0 M2 w2 hm1 (hM0.keep b2) hM2 (Nat.le_refl _))
    go_wp2_with fail
    refine CT.out.mono ?_; rintro e w5 ⟨⟨rfl, M5, hM5, hA5⟩, b5⟩
    have L5 := bl_far L2 b5 (by omega)
    have HI := Lib.hid (show IsM m M5 (orR idR R) from fun x y hx hy => hA5.end_ hF hI0 hI2 hx hy)
    have s5 := b5.size
    clear hA5 hI0
    go_wp2_with fail
    go_ret
    exact ⟨⟨_, g, M5, rfl, hM5.more (by omega) (by omega), HI.out⟩, L5⟩
  have m8 : (zk == 8) = false := by simp [n8]
  by_cases n10 : zk = 10
  · subst n10
    rw [rel_begin]
    have hm2 : s.size < m := by have := hm.out; omega
    have hm3 : m ≤ s.size + 1 := by have := hm.out; omega
    have B := Blk.new w 45 #[.int .i64 10, .string zs, .slice A kids.len c]
    have L0 := bl_alloc (Below.refl w.heap.size w) (.cells #[.int .i64 10, .string zs, .slice A kids.len c] 45)
    have C := sSame4 s (w.alloc (.cells #[.int .i64 10, .string zs, .slice A kids.len c] 45)) hs
    rw [hm.out] at C
    have CC := Lib.hid C
    clear C
    go_enter Try.func95, Try.ntmps95
    go_wp2_with fail
    refine CC.out.mono ?_; rintro e w1 ⟨⟨v, g, M0, rfl, hM0, hI0⟩, b1⟩
    replace B := B.keep b1
    have L1 := bl_trans L0 b1
    have es := alloc_size w (.cells #[.int .i64 10, .string zs, .slice A kids.len c] 45)
    rw [es] at hM0
    clear es
    have s1 := L1.size
    obtain ⟨b, c0, rfl, _, hb0, _⟩ := hM0.form hm0
    have pB := B.cell
    go_wp2_with fail
    clear pB
    go_loopw [9] (fun i wr => ∃ (k : Nat) (M : Nat → Nat → Bool), k ≤ m ∧ i = .int .i64 k ∧ MatK wr (w.heap.size + 1) w1.heap.size (.slice (some ⟨b, 0, none⟩) m c0) m m g M ∧ (∀ x y, x < m → y < m → (M x y = true ↔ x = y ∧ (x < k → x = 0))) ∧ Blk wr w.heap.size 45 #[.int .i64 10, .string zs, .slice A kids.len c] ∧ Below w.heap.size w wr ∧ w1.heap.size ≤ wr.heap.size) (fun i _ => m - (intOf i).toNat)
    case atStart => exact ⟨0, M0, Nat.zero_le _, rfl, hM0, fun x y hx hy => (hI0 x y hx hy).trans ⟨fun h => ⟨h, fun h => absurd h (Nat.not_lt_zero _)⟩, fun h => h.1⟩, B, L1, Nat.le_refl _⟩
    case round =>
      clear hM0 hI0 B L1 s1 hb0
      obtain ⟨k, M3, hk, rfl, hM3, hF, hB, hL, hz⟩ := hrel
      have pB := hB.cell
      by_cases hlt : k < m
      · have hle : (k : Int) ≤ (s.size : Int) := by omega
        have hlt' : (k : Int) < (m : Int) := by omega
        have p1 := hM3.row hlt
        have p2 := hM3.cell hlt hlt
        have p3 := hM3.frozen hlt k
        have hgk := hM3.lt hlt
        have hST : ∀ (t : Bool), (t = true ↔ (k + 0 : Nat) = k ∧ (k = 0)) → ∀ x y, x < m → y < m → (updM M3 k k t x y = true ↔ x = y ∧ (x < k + 1 → x = 0)) := fun t ht x y hx hy => by
          by_cases e : x = k
          · subst e
            rw [updM_row]
            by_cases e2 : y = x
            · subst e2
              rw [upd_same, ht]
              exact ⟨fun h => ⟨rfl, fun _ => h.2⟩, fun h => ⟨rfl, h.2 (by omega)⟩⟩
            · rw [upd_other _ _ e2, hF x y hx hy]
              exact ⟨fun h => absurd h.1.symm e2, fun h => absurd h.1.symm e2⟩
          · rw [updM_other _ _ _ e, hF x y hx hy]
            exact ⟨fun h => ⟨h.1, fun h' => h.2 (by omega)⟩, fun h => ⟨h.1, fun h' => h.2 (by omega)⟩⟩
        clear hF
        cases hc : ((k : Int) == 0)
        · have hne : ¬ k = 0 := fun e => by subst e; simp at hc
          have HM := Lib.hid ((hM3.set hlt (j := k) false).drew)
          have HF := Lib.hid (hST false ⟨fun h => (by cases h), fun h => absurd h.2 hne⟩)
          have hSB := (hB.farb (b := g k) (j := k) (by omega) (.bool false)).drew
          have hSL := (bl_setb (b := g k) (j := k) hL (by omega) (.bool false)).drew
          have hSz : w1.heap.size ≤ (wr.setCell ⟨g k, k, none⟩ (.bool false)).drew.heap.size := by simpa using hz
          clear hST hM3 hB
          skip
          go_wp2_with fail
          go_big_region
          go_wp2_with fail
          go_roundw
          case rel => exact ⟨k + 1, _, by omega, by go_num, HM.out, HF.out, hSB, hSL, hSz⟩
          case measure => (simp [intOf] <;> omega)
        · have heq : k = 0 := by have := beq_iff_eq.1 hc; omega
          have HEQ := Lib.hid heq
          clear heq
          have HM := Lib.hid ((hM3.set hlt (j := k) true).drew)
          have HF := Lib.hid (hST true ⟨fun _ => ⟨rfl, HEQ.out⟩, fun _ => rfl⟩)
          have hSB := (hB.farb (b := g k) (j := k) (by omega) (.bool true)).drew
          have hSL := (bl_setb (b := g k) (j := k) hL (by omega) (.bool true)).drew
          have hSz : w1.heap.size ≤ (wr.setCell ⟨g k, k, none⟩ (.bool true)).drew.heap.size := by simpa using hz
          clear hST hM3 hB
          skip
          go_wp2_with fail
          go_big_region
          go_wp2_with fail
          go_roundw
          case rel => exact ⟨k + 1, _, by omega, by go_num, HM.out, HF.out, hSB, hSL, hSz⟩
          case measure => (simp [intOf] <;> omega)
      · obtain rfl : k = m := by omega
        have HI := Lib.hid hF
        clear hF
        have hgt : ¬ (k : Int) ≤ (s.size : Int) := by omega
        go_wp2_with fail
        go_ret
        exact ⟨⟨_, g, M3, rfl, hM3.more (by omega) hz, fun x y hx hy => (HI.out x y hx hy).trans ⟨fun h => ⟨h.1, h.2 hx⟩, fun h => ⟨h.1, fun _ => h.2⟩⟩⟩, hL⟩
  have m10 : (zk == 10) = false := by simp [n10]
  by_cases n11 : zk = 11
  · subst n11
    rw [rel_end]
    have hm2 : s.size < m := by have := hm.out; omega
    have hm3 : m ≤ s.size + 1 := by have := hm.out; omega
    have B := Blk.new w 45 #[.int .i64 11, .string zs, .slice A kids.len c]
    have L0 := bl_alloc (Below.refl w.heap.size w) (.cells #[.int .i64 11, .string zs, .slice A kids.len c] 45)
    have C := sSame4 s (w.alloc (.cells #[.int .i64 11, .string zs, .slice A kids.len c] 45)) hs
    rw [hm.out] at C
    have CC := Lib.hid C
    clear C
    go_enter Try.func95, Try.ntmps95
    go_wp2_with fail
    refine CC.out.mono ?_; rintro e w1 ⟨⟨v, g, M0, rfl, hM0, hI0⟩, b1⟩
    replace B := B.keep b1
    have L1 := bl_trans L0 b1
    have es := alloc_size w (.cells #[.int .i64 11, .string zs, .slice A kids.len c] 45)
    rw [es] at hM0
    clear es
    have s1 := L1.size
    obtain ⟨b, c0, rfl, _, hb0, _⟩ := hM0.form hm0
    have pB := B.cell
    go_wp2_with fail
    clear pB
    go_loopw [9] (fun i wr => ∃ (k : Nat) (M : Nat → Nat → Bool), k ≤ m ∧ i = .int .i64 k ∧ MatK wr (w.heap.size + 1) w1.heap.size (.slice (some ⟨b, 0, none⟩) m c0) m m g M ∧ (∀ x y, x < m → y < m → (M x y = true ↔ x = y ∧ (x < k → x = s.size))) ∧ Blk wr w.heap.size 45 #[.int .i64 11, .string zs, .slice A kids.len c] ∧ Below w.heap.size w wr ∧ w1.heap.size ≤ wr.heap.size) (fun i _ => m - (intOf i).toNat)
    case atStart => exact ⟨0, M0, Nat.zero_le _, rfl, hM0, fun x y hx hy => (hI0 x y hx hy).trans ⟨fun h => ⟨h, fun h => absurd h (Nat.not_lt_zero _)⟩, fun h => h.1⟩, B, L1, Nat.le_refl _⟩
    case round =>
      clear hM0 hI0 B L1 s1 hb0
      obtain ⟨k, M3, hk, rfl, hM3, hF, hB, hL, hz⟩ := hrel
      have pB := hB.cell
      by_cases hlt : k < m
      · have hle : (k : Int) ≤ (s.size : Int) := by omega
        have hlt' : (k : Int) < (m : Int) := by omega
        have p1 := hM3.row hlt
        have p2 := hM3.cell hlt hlt
        have p3 := hM3.frozen hlt k
        have hgk := hM3.lt hlt
        have hST : ∀ (t : Bool), (t = true ↔ (k + 0 : Nat) = k ∧ (k = s.size)) → ∀ x y, x < m → y < m → (updM M3 k k t x y = true ↔ x = y ∧ (x < k + 1 → x = s.size)) := fun t ht x y hx hy => by
          by_cases e : x = k
          · subst e
            rw [updM_row]
            by_cases e2 : y = x
            · subst e2
              rw [upd_same, ht]
              exact ⟨fun h => ⟨rfl, fun _ => h.2⟩, fun h => ⟨rfl, h.2 (by omega)⟩⟩
            · rw [upd_other _ _ e2, hF x y hx hy]
              exact ⟨fun h => absurd h.1.symm e2, fun h => absurd h.1.symm e2⟩
          · rw [updM_other _ _ _ e, hF x y hx hy]
            exact ⟨fun h => ⟨h.1, fun h' => h.2 (by omega)⟩, fun h => ⟨h.1, fun h' => h.2 (by omega)⟩⟩
        clear hF
        cases hc : ((k : Int) == (s.size : Int))
        · have hne : ¬ k = s.size := fun e => by subst e; simp at hc
          have HM := Lib.hid ((hM3.set hlt (j := k) false).drew)
          have HF := Lib.hid (hST false ⟨fun h => (by cases h), fun h => absurd h.2 hne⟩)
          have hSB := (hB.farb (b := g k) (j := k) (by omega) (.bool false)).drew
          have hSL := (bl_setb (b := g k) (j := k) hL (by omega) (.bool false)).drew
          have hSz : w1.heap.size ≤ (wr.setCell ⟨g k, k, none⟩ (.bool false)).drew.heap.size := by simpa using hz
          clear hST hM3 hB
          skip
          go_wp2_with fail
          go_big_region
          go_wp2_with fail
          go_roundw
          case rel => exact ⟨k + 1, _, by omega, by go_num, HM.out, HF.out, hSB, hSL, hSz⟩
          case measure => (simp [intOf] <;> omega)
        · have heq : k = s.size := by have := beq_iff_eq.1 hc; omega
          have HEQ := Lib.hid heq
          clear heq
          have HM := Lib.hid ((hM3.set hlt (j := k) true).drew)
          have HF := Lib.hid (hST true ⟨fun _ => ⟨rfl, HEQ.out⟩, fun _ => rfl⟩)
          have hSB := (hB.farb (b := g k) (j := k) (by omega) (.bool true)).drew
          have hSL := (bl_setb (b := g k) (j := k) hL (by omega) (.bool true)).drew
          have hSz : w1.heap.size ≤ (wr.setCell ⟨g k, k, none⟩ (.bool true)).drew.heap.size := by simpa using hz
          clear hST hM3 hB
          skip
          go_wp2_with fail
          go_big_region
          go_wp2_with fail
          go_roundw
          case rel => exact ⟨k + 1, _, by omega, by go_num, HM.out, HF.out, hSB, hSL, hSz⟩
          case measure => (simp [intOf] <;> omega)
      · obtain rfl : k = m := by omega
        have HI := Lib.hid hF
        clear hF
        have hgt : ¬ (k : Int) ≤ (s.size : Int) := by omega
        go_wp2_with fail
        go_ret
        exact ⟨⟨_, g, M3, rfl, hM3.more (by omega) hz, fun x y hx hy => (HI.out x y hx hy).trans ⟨fun h => ⟨h.1, h.2 hx⟩, fun h => ⟨h.1, fun _ => h.2⟩⟩⟩, hL⟩
  have m11 : (zk == 11) = false := by simp [n11]
  by_cases n9 : zk = 9
  · subst n9
    rw [rel_empty]
    have B := Blk.new w 45 #[.int .i64 9, .string zs, .slice A kids.len c]
    have L0 := bl_alloc (Below.refl w.heap.size w) (.cells #[.int .i64 9, .string zs, .slice A kids.len c] 45)
    have C := sSame4 s (w.alloc (.cells #[.int .i64 9, .string zs, .slice A kids.len c] 45)) hs
    rw [hm.out] at C
    have CC := Lib.hid C
    clear C
    go_enter Try.func95, Try.ntmps95
    go_wp2_with fail
    refine CC.out.mono ?_; rintro e w1 ⟨⟨v, g, M0, rfl, hM0, hI0⟩, b1⟩
    replace B := B.keep b1
    have L1 := bl_trans L0 b1
    have es := alloc_size w (.cells #[.int .i64 9, .string zs, .slice A kids.len c] 45)
    rw [es] at hM0
    clear es
    have s1 := L1.size
    obtain ⟨b, c0, rfl, _, hb0, _⟩ := hM0.form hm0
    have pB := B.cell
    go_wp2_with fail
    go_ret
    exact ⟨⟨_, g, M0, rfl, hM0.more (by omega) (Nat.le_refl _), hI0⟩, L1⟩
  have m9 : (zk == 9) = false := by simp [n9]
  exfalso
  rw [here_none (by intro j hj; simp only [List.mem_cons, List.not_mem_nil, or_false] at hj; rcases hj with rfl | rfl | rfl | rfl | rfl | rfl | rfl | rfl | rfl | rfl | rfl <;> assumption) zs kids] at hH
  cases hH

theorem sAll_any (s : ByteArray) (m : Nat) (hm : Hid (s.size + 1 = m)) (hs : s.size ≤ 1048576) (K : Nat) : ∀ (kids : Fr (Int × ByteArray)), kids.size ≤ K → K ≤ 1048576 → ∀ (zk : Int) (zs : ByteArray) (A : Option Addr) (c : Nat) (w : World), hereB zk zs kids = true → okA kids = true → zs.size + wt gRex kids ≤ 1048576 → Sl rexC w 0 w.heap.size A kids → Calls Try.prog 95 #[.agg #[.int .i64 zk, .string zs, .slice A kids.len c], .string s] w fun e w' => RetM m (relOf s zk zs (rowR s kids)) w e w' ∧ Below w.heap.size w w' := by
  induction K with
  | zero =>
    intro kids hK _ zk zs A c w h1 h2 h3 hS
    exact sAll_step s m hm hs 0 zk zs kids A c w hK (by omega) h1 h2 h3 hS (fun kids h => by omega)
  | succ K ih =>
    intro kids hK hb zk zs A c w h1 h2 h3 hS
    exact sAll_step s m hm hs (K + 1) zk zs kids A c w hK (by omega) h1 h2 h3 hS (fun kids h => ih kids (by omega) (by omega))

end Go.Proofs.Ytnoekbgmhnhneaa
