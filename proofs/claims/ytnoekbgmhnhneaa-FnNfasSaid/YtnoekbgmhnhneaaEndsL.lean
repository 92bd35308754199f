/- Walks over EndsOf, Longest, Matches, the program's and the reference's. -/
import Derived.Test.YtnoekbgmhnhneaaEndsA
import Derived.Test.YtnoekbgmhnhneaaEndsJ
import Derived.Test.YtnoekbgmhnhneaaRexOk
namespace Go.Proofs.Ytnoekbgmhnhneaa
open Go.RowKit

theorem rexB_okR {k : Int} {s : ByteArray} {kids : Fr (Int × ByteArray)} (h : rexB k s kids = true) : hereB k s kids = true ∧ okA kids = true := by
  unfold rexB at h
  rw [okG_split, Bool.and_eq_true, Bool.and_eq_true, Bool.and_eq_true] at h
  exact ⟨h.1.1, h.1.2.2⟩
/-- Where an expression that begins at i may end. -/
noncomputable def endV (zk : Int) (zs : ByteArray) (kids : Fr (Int × ByteArray)) (s : ByteArray) (i : Nat) : Nat → Bool := fun j => bof (relOf s zk zs (rowR s kids) i j)
noncomputable def endsB (zk : Int) (zs : ByteArray) (kids : Fr (Int × ByteArray)) (s : ByteArray) (a : Int) : List Nat := if rexB zk zs kids = true ∧ s.size ≤ 200 ∧ 0 ≤ a ∧ a ≤ s.size then rowI (endV zk zs kids s a.toNat) (s.size + 1) else []
theorem endsB_no {zk : Int} {zs : ByteArray} {kids : Fr (Int × ByteArray)} {s : ByteArray} {a : Int} (h : ¬ (rexB zk zs kids = true ∧ s.size ≤ 200 ∧ 0 ≤ a ∧ a ≤ s.size)) : endsB zk zs kids s a = [] := if_neg h
theorem endsB_yes {zk : Int} {zs : ByteArray} {kids : Fr (Int × ByteArray)} {s : ByteArray} {a : Nat} (h : rexB zk zs kids = true) (h1 : s.size ≤ 200) (h2 : a ≤ s.size) : endsB zk zs kids s a = rowI (endV zk zs kids s a) (s.size + 1) := if_pos ⟨h, h1, by omega, by omega⟩
noncomputable def longO (zk : Int) (zs : ByteArray) (kids : Fr (Int × ByteArray)) (s : ByteArray) : Option (Nat × Nat) := if rexB zk zs kids = true ∧ s.size ≤ 200 then longB (endV zk zs kids s) (s.size + 1) else none
theorem longO_no {zk : Int} {zs : ByteArray} {kids : Fr (Int × ByteArray)} {s : ByteArray} (h : ¬ (rexB zk zs kids = true ∧ s.size ≤ 200)) : longO zk zs kids s = none := if_neg h
theorem longO_yes {zk : Int} {zs : ByteArray} {kids : Fr (Int × ByteArray)} {s : ByteArray} (h : rexB zk zs kids = true) (h1 : s.size ≤ 200) : longO zk zs kids s = longB (endV zk zs kids s) (s.size + 1) := if_pos ⟨h, h1⟩
/-- What is said of the longest. -/
def longA : Option (Nat × Nat) → Array Value
  | none => #[.int .i64 0, .int .i64 0, .bool false]
  | some (a, b) => #[.int .i64 a, .int .i64 b, .bool true]
theorem last_at {l : List Nat} (h : l.length ≠ 0) : l[l.length - 1]? = some (l.getLastD 0) := by
  cases l with
  | nil => exact absurd rfl h
  | cons a l => rw [← List.getLast?_eq_getElem?, List.getLastD_cons, List.getLast?_cons, List.getLastD_eq_getLast?]
theorem retI_zero (w w0 : World) (h : w0.heap.size ≤ w.heap.size) : RetI [] w0 (.returned (.slice (some ⟨w.heap.size, 0, none⟩) 0 0)) (w.alloc (.cells #[] 3)) := ⟨_, rfl, Row.mk (World.ownsRow_made w #[] 0 h (by simp [maxLen]) (by simp))⟩
theorem retI_nil (w w0 : World) : RetI [] w0 (.returned (.slice none 0 0)) w := ⟨_, rfl, ⟨World.ownsRow_nil _ _ _ _, fun k hk => by simp [Value.ownBlock] at hk⟩⟩

set_option maxRecDepth 20000 in
set_option maxHeartbeats 4000000 in
theorem iFrom (zk : Int) (zs : ByteArray) (kids : Fr (Int × ByteArray)) (A : Option Addr) (c : Nat) (s : ByteArray) (a m : Nat) (w : World) (hm : Hid (s.size + 1 = m)) (hl : kids.size ≤ 1048576) (h1 : hereB zk zs kids = true) (h2 : okA kids = true) (hw : zs.size + wt gRex kids ≤ 1048576) (hs : s.size ≤ 1048576) (ha : a < m) (hS : Sl rexC w 0 w.heap.size A kids) :
    Calls Try.prog 94 #[.agg #[.int .i64 zk, .string zs, .slice A kids.len c], .string s, .int .i64 a] w fun e w' => RetI (rowI (endV zk zs kids s a) m) w e w' ∧ Below w.heap.size w w' := by
  obtain ⟨i0, hi, hz0, hz1, hz2⟩ := info_parts info_bool
  obtain ⟨j0, hj, hy0, hy1, hy2⟩ := info_parts info_int_
  have hm1 : m ≤ 1048577 := by have := hm.out; omega
  have hmm : (m : Int) ≤ 1048577 := by omega
  have ha' : (a : Int) < (m : Int) := by omega
  have HM := Lib.hid (show (s.size : Int) + 1 = (m : Int) by have := hm.out; omega)
  have B := Blk.new w 45 #[.int .i64 zk, .string zs, .slice A kids.len c]
  have L0 := bl_alloc (Below.refl w.heap.size w) (.cells #[.int .i64 zk, .string zs, .slice A kids.len c] 45)
  have ew : IntKind.i64.wrap ((s.size : Int) + 1) = (s.size : Int) + 1 := IntWalk.i64_in _ (by omega)
  have CS := Lib.hid fun V Af cf w hS hR => iSpan_any s m hm hs kids.size kids (Nat.le_refl _) hl zk zs A c V Af cf w h1 h2 hw hS hR
  clear h1 h2
  go_enter Try.func94, Try.ntmps94
  go_wp2_with (at_make; refine wpList_makeN rfl _ _ 99 rfl 4 i0 (.bool false) 1 1 Try.underlying99 hi hz0 hz1 hz2 rfl .i64 .i64 m (congrArg (Value.int .i64) HM.out) (congrArg (Value.int .i64) HM.out) (by omega) (by omega) ?_)
  intro w1 hO1 b1
  have hV0 : Vec w1 (w.heap.size + 1) w1.heap.size (.slice (some ⟨w.heap.size + 1, 0, none⟩) m m) m (fun _ => false) := Row.mk (by rw [← bools_zero]; first | exact hO1 | (rw [← flat_one]; exact hO1))
  clear hO1 ew
  have L1 := bl_far L0 b1 (Nat.le_succ _)
  have s1 := L1.size
  have B1 := B.below b1 (Nat.lt_succ_self _)
  have hlt1 := B1.lt
  have p1 := hV0.cell ha
  have p2 := hV0.frozen a
  have hV1 := hV0.set (k := a) true
  have L2 := bl_setb (b := w.heap.size + 1) (j := a) L1 (by omega) (.bool true)
  have B2 := B1.farb (b := w.heap.size + 1) (j := a) (by omega) (.bool true)
  have s2 : w1.heap.size ≤ (w1.setCell ⟨w.heap.size + 1, a, none⟩ (.bool true)).heap.size := by simp
  have pB := B2.cell
  clear B B1 L0 b1 hV0
  go_wp2_with fail
  clear p1 p2
  generalize w1.setCell ⟨w.heap.size + 1, a, none⟩ (.bool true) = w2 at hV1 L2 B2 s2 pB ⊢
  refine (CS.out _ _ m w2 ((hS.below L2 (Nat.le_refl _)).more (Nat.le_refl _) L2.size) hV1.reads).mono ?_; rintro e w3 ⟨⟨v, V, rfl, hV, hI⟩, b3⟩
  have L3 := bl_trans L2 b3
  have s3 := b3.size
  obtain ⟨g, c', rfl, hg, _⟩ := hV.form (by omega)
  have hE : rowI V m = rowI (endV zk zs kids s a) m := rowI_congr fun j hj => eq_bof ((hI j hj).trans ⟨fun ⟨i, _, h3, h4⟩ => by
    by_cases e : i = a
    · rw [← e]; exact h4
    · rw [upd_other _ _ e] at h3
      exact absurd h3 Bool.false_ne_true, fun h => ⟨a, ha, upd_same _ _ _, h⟩⟩)
  have HEE := Lib.hid hE
  clear hE hI pB CS
  go_wp2_with fail
  go_loopw [8, 23] (fun v i wr => ∃ k : Nat, k ≤ m ∧ i = .int .i64 k ∧ wr.ownsRow w3.heap.size 3 1 v (rowI V k).length (ints (rowI V k)) ∧ Below w3.heap.size w3 wr) (fun _ i _ => m - (intOf i).toNat)
  case atStart => exact ⟨0, Nat.zero_le _, rfl, World.ownsRow_nil _ _ _ _, Below.refl _ _⟩
  case round =>
    obtain ⟨k, hk, rfl, hO, hLr⟩ := hrel
    by_cases hlt : k < m
    · have hlt' : (k : Int) < (m : Int) := by omega
      have p1 := (hV.keep hLr).cell hlt
      have hlen := rowI_len V k
      have hLs := hLr.size
      cases hv : V k
      · rw [hv] at p1
        have HE := Lib.hid (rowI_no hv)
        clear hv
        go_wp2_with fail
        go_roundw
        case rel => exact ⟨k + 1, by omega, by go_num, by rw [HE.out]; exact hO, hLr⟩
        case measure => (simp [intOf] <;> omega)
      · rw [hv] at p1
        have HE := Lib.hid (rowI_yes hv)
        clear hv
        go_wp2_with (at_builtin; refine wpList_push rfl _ _ 25 rfl w3.heap.size 3 j0 (.int .i64 0) 1 8 Try.underlying25 hj hy0 hy1 hy2 rfl (by decide) _ _ _ rfl hO _ rfl rfl rfl (by omega) (by omega) hLs ?_)
        intro v' w4 hO3 hg3
        have hL4 := hLr.grown hg3 hLs (fun q e => by have := (hO.lt q e).1; omega)
        go_wp2_with fail
        go_roundw
        case rel => exact ⟨k + 1, by omega, by go_num, by rw [HE.out, List.length_append, ← ints_snoc]; exact hO3, hL4⟩
        case measure => (simp [intOf] <;> omega)
    · obtain rfl : k = m := by omega
      go_wp2_with fail
      go_ret
      rw [← HEE.out]
      exact ⟨⟨_, rfl, (Row.mk hO).more (by omega) (Nat.le_refl _)⟩, bl_trans L3 hLr⟩

set_option maxRecDepth 20000 in
set_option maxHeartbeats 4000000 in
theorem sLongest (zk : Int) (zs : ByteArray) (kids : Fr (Int × ByteArray)) (A : Option Addr) (c : Nat) (s : ByteArray) (w : World) (hl : kids.size ≤ 1048576) (hz : zs.size ≤ 1048576) (hq : FrOk qSmall kids) (hw : zs.size + wt gRex kids ≤ 1048576) (hs : s.size ≤ 1048576) (hS : Sl rexC w 0 w.heap.size A kids) :
    Calls Try.prog 74 #[.agg #[.int .i64 zk, .string zs, .slice A kids.len c], .string s] w fun e w' => e = .returned (.tuple (longA (longO zk zs kids s))) ∧ Below w.heap.size w w' := by
  have B := Blk.new w 45 #[.int .i64 zk, .string zs, .slice A kids.len c]
  have L0 := bl_alloc (Below.refl w.heap.size w) (.cells #[.int .i64 zk, .string zs, .slice A kids.len c] 45)
  have C := sRexOk zk zs kids A c _ hl hz hq ((hS.below L0 (Nat.le_refl _)).more (Nat.le_refl _) L0.size)
  cases hb : rexB zk zs kids
  · rw [hb] at C
    have CC := Lib.hid C
    clear C
    rw [longO_no (fun h => by rw [hb] at h; exact absurd h.1 Bool.false_ne_true)]
    clear hb
    go_enter Try.func74, Try.ntmps74
    go_wp2_with fail
    refine CC.out.mono ?_; rintro e w1 ⟨rfl, b1⟩
    have L1 := bl_trans L0 b1
    have B1 := Blk.keep B b1
    have pB := B1.cell
    go_wp2_with fail
    go_ret3
    exact ⟨rfl, L1⟩
  rw [hb] at C
  have CC := Lib.hid C
  clear C
  by_cases h2 : s.size ≤ 200
  case neg =>
    rw [longO_no (fun h => h2 h.2)]
    have h3 : (200 : Int) < (s.size : Int) := by omega
    clear hb
    go_enter Try.func74, Try.ntmps74
    go_wp2_with fail
    refine CC.out.mono ?_; rintro e w1 ⟨rfl, b1⟩
    have L1 := bl_trans L0 b1
    have B1 := Blk.keep B b1
    have pB := B1.cell
    go_wp2_with fail
    go_ret3
    exact ⟨rfl, L1⟩
  have h3 : ¬ (200 : Int) < (s.size : Int) := by omega
  rw [longO_yes hb h2]
  obtain ⟨r1, r2⟩ := rexB_okR hb
  obtain ⟨m, hm0⟩ : ∃ m, s.size + 1 = m := ⟨_, rfl⟩
  have hm := Lib.hid hm0
  have hm1 : s.size < m := by omega
  have hm2 : m ≤ s.size + 1 := by omega
  rw [hm0]
  clear hm0 hb
  have E1 := fun h => Lib.hid (longB_none (V := endV zk zs kids s) (m := m) h)
  have E2 := fun (k : Nat) hk h h1 => Lib.hid (longB_some (V := endV zk zs kids s) (m := m) (k := k) hk h h1)
  generalize longB (endV zk zs kids s) m = RR at E1 E2 ⊢
  have hmm : m ≤ 1048577 := by omega
  have CA := Lib.hid fun w hS => sAll_any s m hm hs kids.size kids (Nat.le_refl _) hl zk zs A c w r1 r2 hw hS
  clear r1 r2
  go_enter Try.func74, Try.ntmps74
  go_wp2_with fail
  refine CC.out.mono ?_; rintro e w1 ⟨rfl, b1⟩
  have L1 := bl_trans L0 b1
  have B1 := Blk.keep B b1
  have pB := B1.cell
  go_wp2_with fail
  refine (CA.out _ ((hS.below L1 (Nat.le_refl _)).more (Nat.le_refl _) L1.size)).mono ?_; rintro e w2 ⟨⟨v, g, M, rfl, hM, hI⟩, b2⟩
  have L2 := bl_trans L1 b2
  have s2 := L2.size
  obtain ⟨b, c', rfl, _, _, _⟩ := hM.form (by omega)
  have hE : ∀ i, i < m → rowI (endV zk zs kids s i) m = rowI (M i) m := fun i hi => (rowI_congr fun j hj => eq_bof (hI i j hi hj)).symm
  have HE := Lib.hid hE
  clear hE hI pB
  generalize endV zk zs kids s = EV at E1 E2 HE
  go_wp2_with fail
  go_loopw [8] (fun i wr => ∃ k : Nat, k ≤ m ∧ i = .int .i64 k ∧ (∀ i, i < k → (rowI (EV i) m).length = 0) ∧ Below w2.heap.size w2 wr) (fun i _ => m - (intOf i).toNat)
  case atStart => exact ⟨0, Nat.zero_le _, rfl, fun i hi => absurd hi (Nat.not_lt_zero _), Below.refl _ _⟩
  case round =>
    obtain ⟨k, hk, rfl, hN, hL⟩ := hrel
    by_cases hlt : k < m
    · have hle : (k : Int) ≤ (s.size : Int) := by omega
      have hkm' : (k : Int) < (m : Int) := by omega
      have HN := Lib.hid hN
      clear hN E1
      have hMr := hM.keep hL
      have p1 := hMr.row hlt
      have CR := sRow _ m m (M k) wr hmm (hMr.2.1 k hlt).reads
      rw [← HE.out k hlt] at CR
      have CRR := Lib.hid CR
      clear CR
      go_wp2_with fail
      refine CRR.out.mono ?_; rintro e w3 ⟨⟨v, rfl, hO⟩, b3⟩
      have L3 := bl_trans hL b3
      have hlen := rowI_len (EV k) m
      have E3 := E2 k hlt HN.out
      clear E2
      have hget := fun h => last_at (l := rowI (EV k) m) h
      have hig := fun (i : Nat) hi => ints_get (rowI (EV k) m) (i := i) hi
      obtain ⟨X, hX⟩ : ∃ X, rowI (EV k) m = X := ⟨_, rfl⟩
      rw [hX] at hO hlen E3 hget hig
      have HX := Lib.hid hX
      clear hX
      by_cases h0 : X.length = 0
      · obtain rfl : X = [] := List.eq_nil_of_length_eq_zero h0
        have h0 := Lib.hid (show (rowI (EV k) m).length = 0 by rw [HX.out]; rfl)
        clear E3 hget hig
        obtain ⟨Av, cv, rfl⟩ := hO.form
        skip
        go_wp2_with fail
        go_roundw
        case rel => exact ⟨k + 1, by omega, by go_num, fun i hi => by rcases Nat.lt_or_ge i k with h | h; exact HN.out i h; (have : i = k := by omega); rw [this]; exact h0.out, L3⟩
        case measure => (simp [intOf] <;> omega)
      · have EE := E3 h0
        clear E3
        have hpos : 0 < X.length := by omega
        obtain ⟨Av, cv, rfl⟩ := hO.form
        obtain ⟨gv, rfl, _, _⟩ := own_blk hO.1 hpos
        have pc : w3.cell? ⟨gv, X.length - 1, none⟩ = some (.int .i64 (X.getLastD 0 : Nat)) := by
          rw [hO.1.cellAt _ (by omega)]
          unfold ints
          rw [List.getElem?_map, hget h0]
          rfl
        have h63 : (X.length : Int) ≤ 1048577 := by omega
        have hpos' : (0 : Int) < (X.length : Int) := by omega
        have ew : IntKind.i64.wrap ((X.length : Int) - 1) = (X.length : Int) - 1 := IntWalk.i64_in _ (by omega)
        have e1 : ((X.length : Int) - 1).toNat = X.length - 1 := by omega
        have e2 : 0 ≤ (X.length : Int) - 1 := by omega
        have e3 : (X.length : Int) - 1 < (X.length : Int) := by omega
        have e4 : (1 : Int) ≤ (X.length : Int) := by omega
        have e5 : 1 ≤ X.length := by omega
        generalize X.getLastD 0 = y at pc EE
        clear hget hig h0
        go_wp2_with fail
        go_quiet (fail)
        go_wp2_with fail
        go_ret3
        exact ⟨by rw [EE.out]; rfl, bl_drewN (bl_trans L2 L3) _⟩
    · obtain rfl : k = m := by omega
      have E := E1 hN
      clear E1 E2 hN
      have hgt : ¬ (k : Int) ≤ (s.size : Int) := by omega
      go_wp2_with fail
      go_ret3
      exact ⟨by rw [E.out]; rfl, bl_trans L2 hL⟩

set_option maxRecDepth 20000 in
set_option maxHeartbeats 4000000 in
theorem iLongest (zk : Int) (zs : ByteArray) (kids : Fr (Int × ByteArray)) (A : Option Addr) (c : Nat) (s : ByteArray) (w : World) (hl : kids.size ≤ 1048576) (hz : zs.size ≤ 1048576) (hq : FrOk qSmall kids) (hw : zs.size + wt gRex kids ≤ 1048576) (hs : s.size ≤ 1048576) (hS : Sl rexC w 0 w.heap.size A kids) :
    Calls Try.prog 73 #[.agg #[.int .i64 zk, .string zs, .slice A kids.len c], .string s] w fun e w' => e = .returned (.tuple (longA (longO zk zs kids s))) ∧ Below w.heap.size w w' := by
  have B := Blk.new w 45 #[.int .i64 zk, .string zs, .slice A kids.len c]
  have L0 := bl_alloc (Below.refl w.heap.size w) (.cells #[.int .i64 zk, .string zs, .slice A kids.len c] 45)
  have C := iRexOk zk zs kids A c _ hl hz hq ((hS.below L0 (Nat.le_refl _)).more (Nat.le_refl _) L0.size)
  cases hb : rexB zk zs kids
  · rw [hb] at C
    have CC := Lib.hid C
    clear C
    rw [longO_no (fun h => by rw [hb] at h; exact absurd h.1 Bool.false_ne_true)]
    clear hb
    go_enter Try.func73, Try.ntmps73
    go_wp2_with fail
    refine CC.out.mono ?_; rintro e w1 ⟨rfl, b1⟩
    have L1 := bl_trans L0 b1
    have B1 := Blk.keep B b1
    have pB := B1.cell
    go_wp2_with fail
    go_ret3
    exact ⟨rfl, L1⟩
  rw [hb] at C
  have CC := Lib.hid C
  clear C
  by_cases h2 : s.size ≤ 200
  case neg =>
    rw [longO_no (fun h => h2 h.2)]
    have h3 : (200 : Int) < (s.size : Int) := by omega
    clear hb
    go_enter Try.func73, Try.ntmps73
    go_wp2_with fail
    refine CC.out.mono ?_; rintro e w1 ⟨rfl, b1⟩
    have L1 := bl_trans L0 b1
    have B1 := Blk.keep B b1
    have pB := B1.cell
    go_wp2_with fail
    go_ret3
    exact ⟨rfl, L1⟩
  have h3 : ¬ (200 : Int) < (s.size : Int) := by omega
  rw [longO_yes hb h2]
  obtain ⟨r1, r2⟩ := rexB_okR hb
  obtain ⟨m, hm0⟩ : ∃ m, s.size + 1 = m := ⟨_, rfl⟩
  have hm := Lib.hid hm0
  have hm1 : s.size < m := by omega
  have hm2 : m ≤ s.size + 1 := by omega
  rw [hm0]
  clear hm0 hb
  have E1 := fun h => Lib.hid (longB_none (V := endV zk zs kids s) (m := m) h)
  have E2 := fun (k : Nat) hk h h1 => Lib.hid (longB_some (V := endV zk zs kids s) (m := m) (k := k) hk h h1)
  generalize longB (endV zk zs kids s) m = RR at E1 E2 ⊢
  have CF := Lib.hid fun (k : Nat) (hk : k < m) w hS => iFrom zk zs kids A c s k m w hm hl r1 r2 hw hs hk hS
  clear r1 r2
  generalize endV zk zs kids s = EV at E1 E2 CF
  go_enter Try.func73, Try.ntmps73
  go_wp2_with fail
  refine CC.out.mono ?_; rintro e w1 ⟨rfl, b1⟩
  have L1 := bl_trans L0 b1
  have B1 := Blk.keep B b1
  have pB := B1.cell
  go_wp2_with fail
  clear pB
  go_loopw [7] (fun i wr => ∃ k : Nat, k ≤ m ∧ i = .int .i64 k ∧ (∀ i, i < k → (rowI (EV i) m).length = 0) ∧ Blk wr w.heap.size 45 #[.int .i64 zk, .string zs, .slice A kids.len c] ∧ Below w.heap.size w wr) (fun i _ => m - (intOf i).toNat)
  case atStart => exact ⟨0, Nat.zero_le _, rfl, fun i hi => absurd hi (Nat.not_lt_zero _), B1, L1⟩
  case round =>
    obtain ⟨k, hk, rfl, hN, hB, hL⟩ := hrel
    have pB := hB.cell
    by_cases hlt : k < m
    · have hle : (k : Int) ≤ (s.size : Int) := by omega
      have HN := Lib.hid hN
      clear hN E1
      go_wp2_with fail
      refine (CF.out k hlt _ ((hS.below hL (Nat.le_refl _)).more (Nat.le_refl _) hL.size)).mono ?_; rintro e w3 ⟨⟨v, rfl, hO⟩, b3⟩
      have L3 := bl_trans hL b3
      have B3 := hB.keep b3
      have hlen := rowI_len (EV k) m
      have E3 := E2 k hlt HN.out
      clear E2
      have hget := fun h => last_at (l := rowI (EV k) m) h
      have hig := fun (i : Nat) hi => ints_get (rowI (EV k) m) (i := i) hi
      obtain ⟨X, hX⟩ : ∃ X, rowI (EV k) m = X := ⟨_, rfl⟩
      rw [hX] at hO hlen E3 hget hig
      have HX := Lib.hid hX
      clear hX
      by_cases h0 : X.length = 0
      · obtain rfl : X = [] := List.eq_nil_of_length_eq_zero h0
        have h0 := Lib.hid (show (rowI (EV k) m).length = 0 by rw [HX.out]; rfl)
        clear E3 hget hig
        obtain ⟨Av, cv, rfl⟩ := hO.form
        skip
        go_wp2_with fail
        go_roundw
        case rel => exact ⟨k + 1, by omega, by go_num, fun i hi => by rcases Nat.lt_or_ge i k with h | h; exact HN.out i h; (have : i = k := by omega); rw [this]; exact h0.out, B3, L3⟩
        case measure => (simp [intOf] <;> omega)
      · have EE := E3 h0
        clear E3
        have hpos : 0 < X.length := by omega
        obtain ⟨Av, cv, rfl⟩ := hO.form
        obtain ⟨gv, rfl, _, _⟩ := own_blk hO.1 hpos
        have pc : w3.cell? ⟨gv, X.length - 1, none⟩ = some (.int .i64 (X.getLastD 0 : Nat)) := by
          rw [hO.1.cellAt _ (by omega)]
          unfold ints
          rw [List.getElem?_map, hget h0]
          rfl
        have h63 : (X.length : Int) ≤ 1048577 := by omega
        have hpos' : (0 : Int) < (X.length : Int) := by omega
        have ew : IntKind.i64.wrap ((X.length : Int) - 1) = (X.length : Int) - 1 := IntWalk.i64_in _ (by omega)
        have e1 : ((X.length : Int) - 1).toNat = X.length - 1 := by omega
        have e2 : 0 ≤ (X.length : Int) - 1 := by omega
        have e3 : (X.length : Int) - 1 < (X.length : Int) := by omega
        have e4 : (1 : Int) ≤ (X.length : Int) := by omega
        have e5 : 1 ≤ X.length := by omega
        generalize X.getLastD 0 = y at pc EE
        clear hget hig h0
        go_wp2_with fail
        go_quiet (fail)
        go_wp2_with fail
        go_ret3
        exact ⟨by rw [EE.out]; rfl, bl_drewN L3 _⟩
    · obtain rfl : k = m := by omega
      have E := E1 hN
      clear E1 E2 hN
      have hgt : ¬ (k : Int) ≤ (s.size : Int) := by omega
      go_wp2_with fail
      go_ret3
      exact ⟨by rw [E.out]; rfl, hL⟩

set_option maxHeartbeats 1000000 in
theorem sMatches (zk : Int) (zs : ByteArray) (kids : Fr (Int × ByteArray)) (A : Option Addr) (c : Nat) (s : ByteArray) (w : World) (hl : kids.size ≤ 1048576) (hz : zs.size ≤ 1048576) (hq : FrOk qSmall kids) (hw : zs.size + wt gRex kids ≤ 1048576) (hs : s.size ≤ 1048576) (hS : Sl rexC w 0 w.heap.size A kids) :
    Calls Try.prog 40 #[.agg #[.int .i64 zk, .string zs, .slice A kids.len c], .string s] w fun e w' => e = .returned (.bool (longO zk zs kids s).isSome) ∧ Below w.heap.size w w' := by
  have B := Blk.new w 45 #[.int .i64 zk, .string zs, .slice A kids.len c]
  have L0 := bl_alloc (Below.refl w.heap.size w) (.cells #[.int .i64 zk, .string zs, .slice A kids.len c] 45)
  have C := sLongest zk zs kids A c s _ hl hz hq hw hs ((hS.below L0 (Nat.le_refl _)).more (Nat.le_refl _) L0.size)
  have pB := B.cell
  generalize longO zk zs kids s = X at C ⊢
  cases X with
  | none =>
    have CC := Lib.hid C
    clear C
    go_enter Try.func40, Try.ntmps40
    go_wp2_with fail
    refine CC.out.mono ?_; rintro e w1 ⟨rfl, b1⟩
    unfold longA
    go_wp2_with fail
    go_ret
    exact ⟨rfl, bl_trans L0 b1⟩
  | some x =>
    obtain ⟨x, y⟩ := x
    have CC := Lib.hid C
    clear C
    go_enter Try.func40, Try.ntmps40
    go_wp2_with fail
    refine CC.out.mono ?_; rintro e w1 ⟨rfl, b1⟩
    unfold longA
    go_wp2_with fail
    go_ret
    exact ⟨rfl, bl_trans L0 b1⟩

set_option maxHeartbeats 1000000 in
theorem iMatches (zk : Int) (zs : ByteArray) (kids : Fr (Int × ByteArray)) (A : Option Addr) (c : Nat) (s : ByteArray) (w : World) (hl : kids.size ≤ 1048576) (hz : zs.size ≤ 1048576) (hq : FrOk qSmall kids) (hw : zs.size + wt gRex kids ≤ 1048576) (hs : s.size ≤ 1048576) (hS : Sl rexC w 0 w.heap.size A kids) :
    Calls Try.prog 39 #[.agg #[.int .i64 zk, .string zs, .slice A kids.len c], .string s] w fun e w' => e = .returned (.bool (longO zk zs kids s).isSome) ∧ Below w.heap.size w w' := by
  have B := Blk.new w 45 #[.int .i64 zk, .string zs, .slice A kids.len c]
  have L0 := bl_alloc (Below.refl w.heap.size w) (.cells #[.int .i64 zk, .string zs, .slice A kids.len c] 45)
  have C := iLongest zk zs kids A c s _ hl hz hq hw hs ((hS.below L0 (Nat.le_refl _)).more (Nat.le_refl _) L0.size)
  have pB := B.cell
  generalize longO zk zs kids s = X at C ⊢
  cases X with
  | none =>
    have CC := Lib.hid C
    clear C
    go_enter Try.func39, Try.ntmps39
    go_wp2_with fail
    refine CC.out.mono ?_; rintro e w1 ⟨rfl, b1⟩
    unfold longA
    go_wp2_with fail
    go_ret
    exact ⟨rfl, bl_trans L0 b1⟩
  | some x =>
    obtain ⟨x, y⟩ := x
    have CC := Lib.hid C
    clear C
    go_enter Try.func39, Try.ntmps39
    go_wp2_with fail
    refine CC.out.mono ?_; rintro e w1 ⟨rfl, b1⟩
    unfold longA
    go_wp2_with fail
    go_ret
    exact ⟨rfl, bl_trans L0 b1⟩

end Go.Proofs.Ytnoekbgmhnhneaa
