/- Walk over the program's ends of a right expression: spanOf. -/
import Derived.Test.YtnoekbgmhnhneaaEndsI
import Derived.Deep.RegionHeld3
import Derived.Deep.LoopGhost
namespace Go.Proofs.Ytnoekbgmhnhneaa
open Go.RowKit

/-- It hands back a new row: the places that are reached. -/
def RetSp (m : Nat) (V : Nat → Bool) (R : Rel) (w : World) (e : Ending) (w' : World) : Prop := ∃ (v : Value) (V' : Nat → Bool), e = .returned v ∧ Vec w' w.heap.size w'.heap.size v m V' ∧ ∀ j, j < m → (V' j = true ↔ img m V R j)
theorem JoinI.or_ {V W V' : Nat → Bool} {m : Nat} {g : Bool} (h : JoinI V W V' m g) {j : Nat} (hj : j < m) : V' j = true ↔ V j = true ∨ W j = true := by
  rw [h.1 j, decide_eq_true hj]
  simp
theorem img_id {m : Nat} {V : Nat → Bool} {j : Nat} (hj : j < m) : img m V idR j ↔ V j = true :=
  ⟨fun ⟨i, _, h1, h2⟩ => by have e : i = j := h2; rw [← e]; exact h1, fun h => ⟨j, hj, h, rfl⟩⟩
theorem img_or {m : Nat} {V : Nat → Bool} {R S : Rel} {j : Nat} : img m V (orR R S) j ↔ img m V R j ∨ img m V S j :=
  ⟨fun ⟨i, hi, h1, h2⟩ => h2.imp (fun h => ⟨i, hi, h1, h⟩) (fun h => ⟨i, hi, h1, h⟩), fun h => h.elim (fun ⟨i, hi, h1, h2⟩ => ⟨i, hi, h1, .inl h2⟩) (fun ⟨i, hi, h1, h2⟩ => ⟨i, hi, h1, .inr h2⟩)⟩
theorem img_of {m : Nat} {V V0 : Nat → Bool} {R S : Rel} (h0 : ∀ j, j < m → (V0 j = true ↔ img m V R j)) (hR : Fwd m R) {j : Nat} : img m V0 S j ↔ img m V (compR R S) j := by
  constructor
  · rintro ⟨k, hk, h1, h2⟩
    obtain ⟨i, hi, h3, h4⟩ := (h0 k hk).1 h1
    exact ⟨i, hi, h3, k, h4, h2⟩
  · rintro ⟨i, hi, h3, k, h4, h2⟩
    have hk := (hR i k hi h4).2
    exact ⟨k, hk, (h0 k hk).2 ⟨i, hi, h3, h4⟩, h2⟩
theorem img_same {m : Nat} {V V0 : Nat → Bool} {S : Rel} (h0 : ∀ j, j < m → (V0 j = true ↔ V j = true)) {j : Nat} : img m V0 S j ↔ img m V S j :=
  ⟨fun ⟨i, hi, h1, h2⟩ => ⟨i, hi, (h0 i hi).1 h1, h2⟩, fun ⟨i, hi, h1, h2⟩ => ⟨i, hi, (h0 i hi).2 h1, h2⟩⟩
theorem img_no {m : Nat} {V : Nat → Bool} {j : Nat} : ¬ img m V noR j := fun ⟨_, _, _, h⟩ => h

set_option maxRecDepth 20000 in
set_option maxHeartbeats 16000000 in
theorem iSpan_step (s : ByteArray) (m : Nat) (hm : Hid (s.size + 1 = m)) (hs : s.size ≤ 1048576) (K : Nat) (zk : Int) (zs : ByteArray) (kids : Fr (Int × ByteArray)) (A : Option Addr) (c : Nat) (V : Nat → Bool) (Af : Option Addr) (cf : Nat) (w : World) (hK : kids.size ≤ K) (hl : kids.size ≤ 1048576) (hH : hereB zk zs kids = true) (hA : okA kids = true) (hw : zs.size + wt gRex kids ≤ 1048576) (hS : Sl rexC w 0 w.heap.size A kids) (hR : VecR w w.heap.size Af m V)
    (ih : ∀ (kids : Fr (Int × ByteArray)), kids.size < K → ∀ (zk : Int) (zs : ByteArray) (A : Option Addr) (c : Nat) (V : Nat → Bool) (Af : Option Addr) (cf : Nat) (w : World), hereB zk zs kids = true → okA kids = true → zs.size + wt gRex kids ≤ 1048576 → Sl rexC w 0 w.heap.size A kids → VecR w w.heap.size Af m V → Calls Try.prog 116 #[.agg #[.int .i64 zk, .string zs, .slice A kids.len c], .string s, .slice Af m cf] w fun e w' => RetSp m V (relOf s zk zs (rowR s kids)) w e w' ∧ Below w.heap.size w w') :
    Calls Try.prog 116 #[.agg #[.int .i64 zk, .string zs, .slice A kids.len c], .string s, .slice Af m cf] w fun e w' => RetSp m V (relOf s zk zs (rowR s kids)) w e w' ∧ Below w.heap.size w w' := by
  have IHH := Lib.hid ih
  clear ih
  have hm1 : m ≤ 1048577 := by have := hm.out; omega
  have hm0 : 0 < m := by have := hm.out; omega
  have HM := Lib.hid (show (s.size : Int) + 1 = (m : Int) by have := hm.out; omega)
  by_cases n1 : zk = 1
  · subst n1
    rw [rel_one (k := 1) (by simp)]
    have hm2 : s.size < m := by have := hm.out; omega
    have hm3 : m ≤ s.size + 1 := by have := hm.out; omega
    obtain ⟨i0, hi, hz0, hz1, hz2⟩ := info_parts info_bool
    have B := Blk.new w 45 #[.int .i64 1, .string zs, .slice A kids.len c]
    have L0 := bl_alloc (Below.refl w.heap.size w) (.cells #[.int .i64 1, .string zs, .slice A kids.len c] 45)
    obtain ⟨bf, of_, rfl, hbf, hcf⟩ := hR.at_ hm0
    have HCF := Lib.hid fun (x : World) (L : Below w.heap.size w x) (k : Nat) (hk : k < m) => (show x.cell? ⟨bf, of_ + k, none⟩ = w.cell? ⟨bf, of_ + k, none⟩ from L.cell (by show bf < w.heap.size; exact hbf)).trans (hcf k hk)
    clear hcf
    have ew : IntKind.i64.wrap ((s.size : Int) + 1) = (s.size : Int) + 1 := IntWalk.i64_in _ (by omega)
    go_enter Try.func116, Try.ntmps116
    go_wp2_with (at_make; refine wpList_makeN rfl _ _ 99 rfl 4 i0 (.bool false) 1 1 Try.underlying99 hi hz0 hz1 hz2 rfl .i64 .i64 m (congrArg (Value.int .i64) HM.out) (congrArg (Value.int .i64) HM.out) (by omega) (by omega) ?_)
    intro w1 hO1 b1
    have es := alloc_size w (.cells #[.int .i64 1, .string zs, .slice A kids.len c] 45)
    clear es
    have hV0 : Vec w1 (w.heap.size + 1) w1.heap.size (.slice (some ⟨w.heap.size + 1, 0, none⟩) m m) m (fun _ => false) := Row.mk (by rw [← bools_zero]; first | exact hO1 | (rw [← flat_one]; exact hO1))
    have hout : w.heap.size + 1 < w1.heap.size := (hV0.1.lt _ rfl).2
    clear hO1 ew
    have L1 := bl_far L0 b1 (Nat.le_succ _)
    have s1 := L1.size
    have B1 := B.below b1 (Nat.lt_succ_self _)
    clear b1 B L0
    have hlt1 := B1.lt
    have pB := B1.cell
    go_wp2_with fail
    clear pB
    go_loopw [8] (fun i wr => ∃ (k : Nat) (V' : Nat → Bool), k ≤ s.size ∧ i = .int .i64 k ∧ Vec wr (w.heap.size + 1) w1.heap.size (.slice (some ⟨w.heap.size + 1, 0, none⟩) m m) m V' ∧ (∀ j, j < m → (V' j = true ↔ ∃ i, i < k ∧ V i = true ∧ oneR s 1 zs i j)) ∧ Blk wr w.heap.size 45 #[.int .i64 1, .string zs, .slice A kids.len c] ∧ Below w.heap.size w wr ∧ w1.heap.size ≤ wr.heap.size) (fun i _ => s.size - (intOf i).toNat)
    case atStart => exact ⟨0, fun _ => false, Nat.zero_le _, rfl, hV0, fun j hj => ⟨fun h => (by cases h), fun ⟨i, h, _⟩ => absurd h (Nat.not_lt_zero _)⟩, B1, L1, Nat.le_refl _⟩
    case round =>
      clear hV0 B1 L1 s1
      obtain ⟨k, V1, hk, rfl, hV1, hI1, hB, hL, hz⟩ := hrel
      by_cases hlt : k < s.size
      · have hlt' : (k : Int) < (s.size : Int) := by omega
        have hkm : k < m := by omega
        have hkm' : (k : Int) < (m : Int) := by omega
        have hkm1 : k + 1 < m := by omega
        have hkm1' : (k : Int) + 1 < (m : Int) := by omega
        have hx := s[k].toNat_lt
        have hx' : (s[k].toNat : Int) < 256 := by omega
        have ew : IntKind.i64.wrap ((k : Int) + 1) = (k : Int) + 1 := IntWalk.i64_in _ (by omega)
        have e1 : ((k : Int) + 1).toNat = k + 1 := by omega
        have e0 : 0 ≤ (k : Int) + 1 := by omega
        have hST : ∀ t : Bool, (t = true ↔ V k = true ∧ takeB 1 zs (s[k].toNat : Int) = true) → ∀ j, j < m → (upd V1 (k + 1) t j = true ↔ ∃ i, i < k + 1 ∧ V i = true ∧ oneR s 1 zs i j) := fun t ht j hj => by
          by_cases e : j = k + 1
          · subst e
            rw [upd_same, ht]
            exact ⟨fun h => ⟨k, by omega, h.1, rfl, hlt, h.2⟩, fun ⟨i, _, h2, h3, h4, h5⟩ => by
              obtain rfl : k = i := by omega
              exact ⟨h2, h5⟩⟩
          · rw [upd_other _ _ e, hI1 j hj]
            exact ⟨fun ⟨i, h1, h2⟩ => ⟨i, by omega, h2⟩, fun ⟨i, h1, h2, h3, h4⟩ => ⟨i, by omega, h2, h3, h4⟩⟩
        have HST := Lib.hid hST
        clear hST hI1
        have p1 := HCF.out wr hL k hkm
        have HCK := Lib.hid fun x L => HCF.out x L k hkm
        cases hv : V k
        · rw [hv] at p1
          have p2 := hV1.cell hkm1
          have p3 := hV1.frozen (k + 1)
          have HF := Lib.hid (HST.out false ⟨fun h => (by cases h), fun h => by rw [hv] at h; exact absurd h.1 Bool.false_ne_true⟩)
          have HV := Lib.hid ((hV1.set (k := k + 1) false).drew)
          have hSB := (hB.farb (b := w.heap.size + 1) (j := k + 1) (by omega) (.bool false)).drew
          have hSL := (bl_setb (b := w.heap.size + 1) (j := k + 1) hL (by omega) (.bool false)).drew
          have hSz : w1.heap.size ≤ (wr.setCell ⟨w.heap.size + 1, k + 1, none⟩ (.bool false)).drew.heap.size := by simpa using hz
          clear hV1 hB hv HST HCK
          go_wp2_with fail
          go_big_region
          go_wp2_with fail
          go_roundw
          case rel => exact ⟨k + 1, _, by omega, by go_num, HV.out, HF.out, hSB, hSL, hSz⟩
          case measure => (simp [intOf] <;> omega)
        · have hcK : ∀ x, Below w.heap.size w x → x.cell? ⟨bf, of_ + k, none⟩ = some (.bool true) := fun x L => by rw [HCK.out x L, hv]
          have HK := Lib.hid hcK
          clear hcK p1
          have HF := Lib.hid (HST.out (takeB 1 zs (s[k].toNat : Int)) ⟨fun h => ⟨hv, h⟩, fun h => h.2⟩)
          have CT := Lib.hid fun w => iTakes 1 zs (.slice A kids.len c) (s[k].toNat : Int) w (by simp)
          generalize takeB 1 zs (s[k].toNat : Int) = xb at CT HF
          clear hv HST HCK
          go_wp2_with fail
          refine wp_region_held_drew (S := (fun x => Blk x w.heap.size 45 #[.int .i64 1, .string zs, .slice A kids.len c] ∧ (∃ V2, Vec x (w.heap.size + 1) w1.heap.size (.slice (some ⟨w.heap.size + 1, 0, none⟩) m m) m V2) ∧ Below w.heap.size w x)) (by kernel_rfl) ?_ (fun hHeld => ?_)
          · exact ⟨hB.drew, ⟨V1, hV1.drew⟩, hL.drew⟩
          refine wpAnyH_take (i := 0) (oi := ⟨some 29, _, _, _, _, _⟩) (v := ?_) rfl (by kernel_rfl) (by kernel_rfl) (by kernel_rfl) (fun _ _ _ h => h) (Or.inl ⟨by rfl, ?_⟩) (by assumption) ?_
          case refine_2 => (intro w hSw; skip; go_simp; first | done | with_reducible rfl)
          simp only [Act.put, List.setIfInBounds_toArray, List.set_cons_zero, List.set_cons_succ]
          refine wpAnyH_take (i := 1) (oi := ⟨some 30, _, _, _, _, _⟩) (v := ?_) rfl (by kernel_rfl) (by kernel_rfl) (by kernel_rfl) (fun _ _ _ h => h) (Or.inl ⟨by rfl, ?_⟩) (by assumption) ?_
          case refine_2 => (intro w hSw; skip; go_simp; first | done | with_reducible rfl)
          simp only [Act.put, List.setIfInBounds_toArray, List.set_cons_zero, List.set_cons_succ]
          refine wpAnyH_take (i := 2) (oi := ⟨some 31, _, _, _, _, _⟩) (v := ?_) rfl (by kernel_rfl) (by kernel_rfl) (by kernel_rfl) (fun _ _ _ h => h) (Or.inl ⟨by rfl, ?_⟩) (by assumption) ?_
          case refine_2 => (intro w hSw; skip; go_simp; first | done | with_reducible rfl)
          simp only [Act.put, List.setIfInBounds_toArray, List.set_cons_zero, List.set_cons_succ]
          refine wpAnyH_take (i := 3) (oi := ⟨some 32, _, _, _, _, _⟩) (v := ?_) rfl (by kernel_rfl) (by kernel_rfl) (by kernel_rfl) (fun _ _ _ h => h) (Or.inl ⟨by rfl, ?_⟩) (by assumption) ?_
          case refine_2 => (intro w hSw; skip; go_simp; first | done | with_reducible rfl)
          simp only [Act.put, List.setIfInBounds_toArray, List.set_cons_zero, List.set_cons_succ]
          refine wpAnyH_take (i := 4) (oi := ⟨some 33, _, _, _, _, _⟩) (v := ?_) rfl (by kernel_rfl) (by kernel_rfl) (by kernel_rfl) (fun _ _ _ h => h) (Or.inl ⟨by rfl, ?_⟩) (by assumption) ?_
          case refine_2 => (intro w hSw; skip; go_simp; first | done | with_reducible rfl)
          simp only [Act.put, List.setIfInBounds_toArray, List.set_cons_zero, List.set_cons_succ]
          refine wpAnyH_take (i := 5) (oi := ⟨some 34, _, _, _, _, _⟩) (v := ?_) rfl (by kernel_rfl) (by kernel_rfl) (by kernel_rfl) (fun _ _ _ h => h) (Or.inl ⟨by rfl, ?_⟩) (by assumption) ?_
          case refine_2 => (intro w hSw; skip; go_simp; first | done | with_reducible rfl)
          simp only [Act.put, List.setIfInBounds_toArray, List.set_cons_zero, List.set_cons_succ]
          refine wpAnyH_take (i := 6) (oi := ⟨some 35, _, _, _, _, _⟩) (v := ?_) rfl (by kernel_rfl) (by kernel_rfl) (by kernel_rfl) (fun _ _ _ h => h) (Or.inl ⟨by rfl, ?_⟩) (by assumption) ?_
          case refine_2 => (intro w hSw; have p := HK.out _ hSw.2.2; go_simp; first | done | with_reducible rfl)
          simp only [Act.put, List.setIfInBounds_toArray, List.set_cons_zero, List.set_cons_succ]
          refine wpAnyH_take (i := 7) (oi := ⟨some 36, _, _, _, _, _⟩) (v := ?_) rfl (by kernel_rfl) (by kernel_rfl) (by kernel_rfl) (fun _ _ _ h => h) (Or.inl ⟨by rfl, ?_⟩) (by assumption) ?_
          case refine_2 => (intro w hSw; skip; go_simp; first | done | with_reducible rfl)
          simp only [Act.put, List.setIfInBounds_toArray, List.set_cons_zero, List.set_cons_succ]
          refine wpAnyH_take (i := 8) (oi := ⟨some 37, _, _, _, _, _⟩) (v := ?_) rfl (by kernel_rfl) (by kernel_rfl) (by kernel_rfl) (fun _ _ _ h => h) (Or.inl ⟨by rfl, ?_⟩) (by assumption) ?_
          case refine_2 => (intro w hSw; have p := hSw.1.cell; go_simp; first | done | with_reducible rfl)
          simp only [Act.put, List.setIfInBounds_toArray, List.set_cons_zero, List.set_cons_succ]
          refine wpAnyH_take (i := 9) (oi := ⟨some 38, _, _, _, _, _⟩) (v := ?_) rfl (by kernel_rfl) (by kernel_rfl) (by kernel_rfl) (fun _ _ _ h => h) (Or.inl ⟨by rfl, ?_⟩) (by assumption) ?_
          case refine_2 => (intro w hSw; skip; go_simp; first | done | with_reducible rfl)
          simp only [Act.put, List.setIfInBounds_toArray, List.set_cons_zero, List.set_cons_succ]
          refine wpAnyH_take (i := 10) (oi := ⟨some 39, _, _, _, _, _⟩) (v := ?_) rfl (by kernel_rfl) (by kernel_rfl) (by kernel_rfl) (fun _ _ _ h => h) (Or.inl ⟨by rfl, ?_⟩) (by assumption) ?_
          case refine_2 => (intro w hSw; skip; go_simp; first | done | with_reducible rfl)
          simp only [Act.put, List.setIfInBounds_toArray, List.set_cons_zero, List.set_cons_succ]
          refine wpAnyH_take (i := 11) (oi := ⟨some 40, _, _, _, _, _⟩) (v := ?_) rfl (by kernel_rfl) (by kernel_rfl) (by kernel_rfl) (fun _ _ _ h => h) (Or.inl ⟨by rfl, ?_⟩) (by assumption) ?_
          case refine_2 => (intro w hSw; skip; go_simp; first | done | with_reducible rfl)
          simp only [Act.put, List.setIfInBounds_toArray, List.set_cons_zero, List.set_cons_succ]
          refine wpAnyH_ready (rs := [12]) (by kernel_rfl) (by simp) ?_
          refine AllReadyH.cons (o := ⟨some 41, _, _, _, _, _⟩) rfl (fun K hK => ?_) AllReadyH.nil
          go_simp
          refine (CT.out _).mono ?_; rintro e w4 ⟨rfl, b4⟩
          go_wp2_with fail
          refine hK.out _ _ (⟨hHeld.1.keep b4, ⟨V1, hV1.drew.keep b4⟩, bl_trans hHeld.2.2 b4⟩) (fun hHeld => ?_)
          clear hK K
          try simp only [Act.put, List.setIfInBounds_toArray, List.set_cons_zero, List.set_cons_succ]
          have hV4 := hV1.drew.keep b4
          have p2 := hV4.cell hkm1
          have p3 := hV4.frozen (k + 1)
          have hB4 := hB.drew.keep b4
          have hL4 := bl_trans hL.drew b4
          have hz4 : w1.heap.size ≤ w4.heap.size := Nat.le_trans hz b4.size
          refine wpAnyH_take (i := 13) (oi := ⟨some 42, _, _, _, _, _⟩) (v := ?_) rfl (by kernel_rfl) (by kernel_rfl) (by kernel_rfl) (fun _ _ _ h => h) (Or.inl ⟨by rfl, ?_⟩) (by assumption) ?_
          case refine_2 => (intro w hSw; skip; go_simp; first | done | with_reducible rfl)
          simp only [Act.put, List.setIfInBounds_toArray, List.set_cons_zero, List.set_cons_succ]
          refine wpAnyH_take (i := 14) (oi := ⟨some 43, _, _, _, _, _⟩) (v := ?_) rfl (by kernel_rfl) (by kernel_rfl) (by kernel_rfl) (fun _ _ _ h => h) (Or.inl ⟨by rfl, ?_⟩) (by assumption) ?_
          case refine_2 => (intro w hSw; skip; go_simp; first | done | with_reducible rfl)
          simp only [Act.put, List.setIfInBounds_toArray, List.set_cons_zero, List.set_cons_succ]
          refine wpAnyH_ready (rs := [15]) (by kernel_rfl) (by simp) ?_
          refine AllReadyH.cons (o := ⟨none, _, _, _, _, _⟩) rfl (fun K hK => ?_) AllReadyH.nil
          go_simp
          go_wp2_with fail
          have HV := Lib.hid (hV4.set (k := k + 1) xb)
          have hSB := hB4.farb (b := w.heap.size + 1) (j := k + 1) (by omega) (.bool xb)
          have hSL := bl_setb (b := w.heap.size + 1) (j := k + 1) hL4 (by omega) (.bool xb)
          have hSz : w1.heap.size ≤ (w4.setCell ⟨w.heap.size + 1, k + 1, none⟩ (.bool xb)).heap.size := by simpa using hz4
          refine hK.out _ _ ⟨hSB, ⟨_, HV.out⟩, hSL⟩ (fun hHeld => ?_)
          clear hK K hHeld
          try simp only [Act.put, List.setIfInBounds_toArray, List.set_cons_zero, List.set_cons_succ]
          refine wpAnyH_done (by kernel_rfl) ?_ _
          clear p2 p3 hV4 hB4 hL4 hV1 hB
          go_wp2_with fail
          go_roundw
          case rel => exact ⟨k + 1, _, by omega, by go_num, HV.out, HF.out, hSB, hSL, hSz⟩
          case measure => (simp [intOf] <;> omega)
      · obtain rfl : k = s.size := by omega
        have HI := Lib.hid hI1
        clear hI1
        go_wp2_with fail
        go_ret
        exact ⟨⟨_, V1, rfl, hV1.more (by omega) hz, fun j hj => (HI.out j hj).trans ⟨fun ⟨i, h1, h2⟩ => ⟨i, by omega, h2⟩, fun ⟨i, h1, h2, h3⟩ => ⟨i, by obtain ⟨_, h4, _⟩ := h3; exact h4, h2, h3⟩⟩⟩, hL⟩
  have m1 : (zk == 1) = false := by simp [n1]
  by_cases n2 : zk = 2
  · subst n2
    rw [rel_one (k := 2) (by simp)]
    have hm2 : s.size < m := by have := hm.out; omega
    have hm3 : m ≤ s.size + 1 := by have := hm.out; omega
    obtain ⟨i0, hi, hz0, hz1, hz2⟩ := info_parts info_bool
    have B := Blk.new w 45 #[.int .i64 2, .string zs, .slice A kids.len c]
    have L0 := bl_alloc (Below.refl w.heap.size w) (.cells #[.int .i64 2, .string zs, .slice A kids.len c] 45)
    obtain ⟨bf, of_, rfl, hbf, hcf⟩ := hR.at_ hm0
    have HCF := Lib.hid fun (x : World) (L : Below w.heap.size w x) (k : Nat) (hk : k < m) => (show x.cell? ⟨bf, of_ + k, none⟩ = w.cell? ⟨bf, of_ + k, none⟩ from L.cell (by show bf < w.heap.size; exact hbf)).trans (hcf k hk)
    clear hcf
    have ew : IntKind.i64.wrap ((s.size : Int) + 1) = (s.size : Int) + 1 := IntWalk.i64_in _ (by omega)
    go_enter Try.func116, Try.ntmps116
    go_wp2_with (at_make; refine wpList_makeN rfl _ _ 99 rfl 4 i0 (.bool false) 1 1 Try.underlying99 hi hz0 hz1 hz2 rfl .i64 .i64 m (congrArg (Value.int .i64) HM.out) (congrArg (Value.int .i64) HM.out) (by omega) (by omega) ?_)
    intro w1 hO1 b1
    have es := alloc_size w (.cells #[.int .i64 2, .string zs, .slice A kids.len c] 45)
    clear es
    have hV0 : Vec w1 (w.heap.size + 1) w1.heap.size (.slice (some ⟨w.heap.size + 1, 0, none⟩) m m) m (fun _ => false) := Row.mk (by rw [← bools_zero]; first | exact hO1 | (rw [← flat_one]; exact hO1))
    have hout : w.heap.size + 1 < w1.heap.size := (hV0.1.lt _ rfl).2
    clear hO1 ew
    have L1 := bl_far L0 b1 (Nat.le_succ _)
    have s1 := L1.size
    have B1 := B.below b1 (Nat.lt_succ_self _)
    clear b1 B L0
    have hlt1 := B1.lt
    have pB := B1.cell
    go_wp2_with fail
    clear pB
    go_loopw [8] (fun i wr => ∃ (k : Nat) (V' : Nat → Bool), k ≤ s.size ∧ i = .int .i64 k ∧ Vec wr (w.heap.size + 1) w1.heap.size (.slice (some ⟨w.heap.size + 1, 0, none⟩) m m) m V' ∧ (∀ j, j < m → (V' j = true ↔ ∃ i, i < k ∧ V i = true ∧ oneR s 2 zs i j)) ∧ Blk wr w.heap.size 45 #[.int .i64 2, .string zs, .slice A kids.len c] ∧ Below w.heap.size w wr ∧ w1.heap.size ≤ wr.heap.size) (fun i _ => s.size - (intOf i).toNat)
    case atStart => exact ⟨0, fun _ => false, Nat.zero_le _, rfl, hV0, fun j hj => ⟨fun h => (by cases h), fun ⟨i, h, _⟩ => absurd h (Nat.not_lt_zero _)⟩, B1, L1, Nat.le_refl _⟩
    case round =>
      clear hV0 B1 L1 s1
      obtain ⟨k, V1, hk, rfl, hV1, hI1, hB, hL, hz⟩ := hrel
      by_cases hlt : k < s.size
      · have hlt' : (k : Int) < (s.size : Int) := by omega
        have hkm : k < m := by omega
        have hkm' : (k : Int) < (m : Int) := by omega
        have hkm1 : k + 1 < m := by omega
        have hkm1' : (k : Int) + 1 < (m : Int) := by omega
        have hx := s[k].toNat_lt
        have hx' : (s[k].toNat : Int) < 256 := by omega
        have ew : IntKind.i64.wrap ((k : Int) + 1) = (k : Int) + 1 := IntWalk.i64_in _ (by omega)
        have e1 : ((k : Int) + 1).toNat = k + 1 := by omega
        have e0 : 0 ≤ (k : Int) + 1 := by omega
        have hST : ∀ t : Bool, (t = true ↔ V k = true ∧ takeB 2 zs (s[k].toNat : Int) = true) → ∀ j, j < m → (upd V1 (k + 1) t j = true ↔ ∃ i, i < k + 1 ∧ V i = true ∧ oneR s 2 zs i j) := fun t ht j hj => by
          by_cases e : j = k + 1
          · subst e
            rw [upd_same, ht]
            exact ⟨fun h => ⟨k, by omega, h.1, rfl, hlt, h.2⟩, fun ⟨i, _, h2, h3, h4, h5⟩ => by
              obtain rfl : k = i := by omega
              exact ⟨h2, h5⟩⟩
          · rw [upd_other _ _ e, hI1 j hj]
            exact ⟨fun ⟨i, h1, h2⟩ => ⟨i, by omega, h2⟩, fun ⟨i, h1, h2, h3, h4⟩ => ⟨i, by omega, h2, h3, h4⟩⟩
        have HST := Lib.hid hST
        clear hST hI1
        have p1 := HCF.out wr hL k hkm
        have HCK := Lib.hid fun x L => HCF.out x L k hkm
        cases hv : V k
        · rw [hv] at p1
          have p2 := hV1.cell hkm1
          have p3 := hV1.frozen (k + 1)
          have HF := Lib.hid (HST.out false ⟨fun h => (by cases h), fun h => by rw [hv] at h; exact absurd h.1 Bool.false_ne_true⟩)
          have HV := Lib.hid ((hV1.set (k := k + 1) false).drew)
          have hSB := (hB.farb (b := w.heap.size + 1) (j := k + 1) (by omega) (.bool false)).drew
          have hSL := (bl_setb (b := w.heap.size + 1) (j := k + 1) hL (by omega) (.bool false)).drew
          have hSz : w1.heap.size ≤ (wr.setCell ⟨w.heap.size + 1, k + 1, none⟩ (.bool false)).drew.heap.size := by simpa using hz
          clear hV1 hB hv HST HCK
          go_wp2_with fail
          go_big_region
          go_wp2_with fail
          go_roundw
          case rel => exact ⟨k + 1, _, by omega, by go_num, HV.out, HF.out, hSB, hSL, hSz⟩
          case measure => (simp [intOf] <;> omega)
        · have hcK : ∀ x, Below w.heap.size w x → x.cell? ⟨bf, of_ + k, none⟩ = some (.bool true) := fun x L => by rw [HCK.out x L, hv]
          have HK := Lib.hid hcK
          clear hcK p1
          have HF := Lib.hid (HST.out (takeB 2 zs (s[k].toNat : Int)) ⟨fun h => ⟨hv, h⟩, fun h => h.2⟩)
          have CT := Lib.hid fun w => iTakes 2 zs (.slice A kids.len c) (s[k].toNat : Int) w (by simp)
          generalize takeB 2 zs (s[k].toNat : Int) = xb at CT HF
          clear hv HST HCK
          go_wp2_with fail
          refine wp_region_held_drew (S := (fun x => Blk x w.heap.size 45 #[.int .i64 2, .string zs, .slice A kids.len c] ∧ (∃ V2, Vec x (w.heap.size + 1) w1.heap.size (.slice (some ⟨w.heap.size + 1, 0, none⟩) m m) m V2) ∧ Below w.heap.size w x)) (by kernel_rfl) ?_ (fun hHeld => ?_)
          · exact ⟨hB.drew, ⟨V1, hV1.drew⟩, hL.drew⟩
          refine wpAnyH_take (i := 0) (oi := ⟨some 29, _, _, _, _, _⟩) (v := ?_) rfl (by kernel_rfl) (by kernel_rfl) (by kernel_rfl) (fun _ _ _ h => h) (Or.inl ⟨by rfl, ?_⟩) (by assumption) ?_
          case refine_2 => (intro w hSw; skip; go_simp; first | done | with_reducible rfl)
          simp only [Act.put, List.setIfInBounds_toArray, List.set_cons_zero, List.set_cons_succ]
          refine wpAnyH_take (i := 1) (oi := ⟨some 30, _, _, _, _, _⟩) (v := ?_) rfl (by kernel_rfl) (by kernel_rfl) (by kernel_rfl) (fun _ _ _ h => h) (Or.inl ⟨by rfl, ?_⟩) (by assumption) ?_
          case refine_2 => (intro w hSw; skip; go_simp; first | done | with_reducible rfl)
          simp only [Act.put, List.setIfInBounds_toArray, List.set_cons_zero, List.set_cons_succ]
          refine wpAnyH_take (i := 2) (oi := ⟨some 31, _, _, _, _, _⟩) (v := ?_) rfl (by kernel_rfl) (by kernel_rfl) (by kernel_rfl) (fun _ _ _ h => h) (Or.inl ⟨by rfl, ?_⟩) (by assumption) ?_
          case refine_2 => (intro w hSw; skip; go_simp; first | done | with_reducible rfl)
          simp only [Act.put, List.setIfInBounds_toArray, List.set_cons_zero, List.set_cons_succ]
          refine wpAnyH_take (i := 3) (oi := ⟨some 32, _, _, _, _, _⟩) (v := ?_) rfl (by kernel_rfl) (by kernel_rfl) (by kernel_rfl) (fun _ _ _ h => h) (Or.inl ⟨by rfl, ?_⟩) (by assumption) ?_
          case refine_2 => (intro w hSw; skip; go_simp; first | done | with_reducible rfl)
          simp only [Act.put, List.setIfInBounds_toArray, List.set_cons_zero, List.set_cons_succ]
          refine wpAnyH_take (i := 4) (oi := ⟨some 33, _, _, _, _, _⟩) (v := ?_) rfl (by kernel_rfl) (by kernel_rfl) (by kernel_rfl) (fun _ _ _ h => h) (Or.inl ⟨by rfl, ?_⟩) (by assumption) ?_
          case refine_2 => (intro w hSw; skip; go_simp; first | done | with_reducible rfl)
          simp only [Act.put, List.setIfInBounds_toArray, List.set_cons_zero, List.set_cons_succ]
          refine wpAnyH_take (i := 5) (oi := ⟨some 34, _, _, _, _, _⟩) (v := ?_) rfl (by kernel_rfl) (by kernel_rfl) (by kernel_rfl) (fun _ _ _ h => h) (Or.inl ⟨by rfl, ?_⟩) (by assumption) ?_
          case refine_2 => (intro w hSw; skip; go_simp; first | done | with_reducible rfl)
          simp only [Act.put, List.setIfInBounds_toArray, List.set_cons_zero, List.set_cons_succ]
          refine wpAnyH_take (i := 6) (oi := ⟨some 35, _, _, _, _, _⟩) (v := ?_) rfl (by kernel_rfl) (by kernel_rfl) (by kernel_rfl) (fun _ _ _ h => h) (Or.inl ⟨by rfl, ?_⟩) (by assumption) ?_
          case refine_2 => (intro w hSw; have p := HK.out _ hSw.2.2; go_simp; first | done | with_reducible rfl)
          simp only [Act.put, List.setIfInBounds_toArray, List.set_cons_zero, List.set_cons_succ]
          refine wpAnyH_take (i := 7) (oi := ⟨some 36, _, _, _, _, _⟩) (v := ?_) rfl (by kernel_rfl) (by kernel_rfl) (by kernel_rfl) (fun _ _ _ h => h) (Or.inl ⟨by rfl, ?_⟩) (by assumption) ?_
          case refine_2 => (intro w hSw; skip; go_simp; first | done | with_reducible rfl)
          simp only [Act.put, List.setIfInBounds_toArray, List.set_cons_zero, List.set_cons_succ]
          refine wpAnyH_take (i := 8) (oi := ⟨some 37, _, _, _, _, _⟩) (v := ?_) rfl (by kernel_rfl) (by kernel_rfl) (by kernel_rfl) (fun _ _ _ h => h) (Or.inl ⟨by rfl, ?_⟩) (by assumption) ?_
          case refine_2 => (intro w hSw; have p := hSw.1.cell; go_simp; first | done | with_reducible rfl)
          simp only [Act.put, List.setIfInBounds_toArray, List.set_cons_zero, List.set_cons_succ]
          refine wpAnyH_take (i := 9) (oi := ⟨some 38, _, _, _, _, _⟩) (v := ?_) rfl (by kernel_rfl) (by kernel_rfl) (by kernel_rfl) (fun _ _ _ h => h) (Or.inl ⟨by rfl, ?_⟩) (by assumption) ?_
          case refine_2 => (intro w hSw; skip; go_simp; first | done | with_reducible rfl)
          simp only [Act.put, List.setIfInBounds_toArray, List.set_cons_zero, List.set_cons_succ]
          refine wpAnyH_take (i := 10) (oi := ⟨some 39, _, _, _, _, _⟩) (v := ?_) rfl (by kernel_rfl) (by kernel_rfl) (by kernel_rfl) (fun _ _ _ h => h) (Or.inl ⟨by rfl, ?_⟩) (by assumption) ?_
          case refine_2 => (intro w hSw; skip; go_simp; first | done | with_reducible rfl)
          simp only [Act.put, List.setIfInBounds_toArray, List.set_cons_zero, List.set_cons_succ]
          refine wpAnyH_take (i := 11) (oi := ⟨some 40, _, _, _, _, _⟩) (v := ?_) rfl (by kernel_rfl) (by kernel_rfl) (by kernel_rfl) (fun _ _ _ h => h) (Or.inl ⟨by rfl, ?_⟩) (by assumption) ?_
          case refine_2 => (intro w hSw; skip; go_simp; first | done | with_reducible rfl)
          simp only [Act.put, List.setIfInBounds_toArray, List.set_cons_zero, List.set_cons_succ]
          refine wpAnyH_ready (rs := [12]) (by kernel_rfl) (by simp) ?_
          refine AllReadyH.cons (o := ⟨some 41, _, _, _, _, _⟩) rfl (fun K hK => ?_) AllReadyH.nil
          go_simp
          refine (CT.out _).mono ?_; rintro e w4 ⟨rfl, b4⟩
          go_wp2_with fail
          refine hK.out _ _ (⟨hHeld.1.keep b4, ⟨V1, hV1.drew.keep b4⟩, bl_trans hHeld.2.2 b4⟩) (fun hHeld => ?_)
          clear hK K
          try simp only [Act.put, List.setIfInBounds_toArray, List.set_cons_zero, List.set_cons_succ]
          have hV4 := hV1.drew.keep b4
          have p2 := hV4.cell hkm1
          have p3 := hV4.frozen (k + 1)
          have hB4 := hB.drew.keep b4
          have hL4 := bl_trans hL.drew b4
          have hz4 : w1.heap.size ≤ w4.heap.size := Nat.le_trans hz b4.size
          refine wpAnyH_take (i := 13) (oi := ⟨some 42, _, _, _, _, _⟩) (v := ?_) rfl (by kernel_rfl) (by kernel_rfl) (by kernel_rfl) (fun _ _ _ h => h) (Or.inl ⟨by rfl, ?_⟩) (by assumption) ?_
          case refine_2 => (intro w hSw; skip; go_simp; first | done | with_reducible rfl)
          simp only [Act.put, List.setIfInBounds_toArray, List.set_cons_zero, List.set_cons_succ]
          refine wpAnyH_take (i := 14) (oi := ⟨some 43, _, _, _, _, _⟩) (v := ?_) rfl (by kernel_rfl) (by kernel_rfl) (by kernel_rfl) (fun _ _ _ h => h) (Or.inl ⟨by rfl, ?_⟩) (by assumption) ?_
          case refine_2 => (intro w hSw; skip; go_simp; first | done | with_reducible rfl)
          simp only [Act.put, List.setIfInBounds_toArray, List.set_cons_zero, List.set_cons_succ]
          refine wpAnyH_ready (rs := [15]) (by kernel_rfl) (by simp) ?_
          refine AllReadyH.cons (o := ⟨none, _, _, _, _, _⟩) rfl (fun K hK => ?_) AllReadyH.nil
          go_simp
          go_wp2_with fail
          have HV := Lib.hid (hV4.set (k := k + 1) xb)
          have hSB := hB4.farb (b := w.heap.size + 1) (j := k + 1) (by omega) (.bool xb)
          have hSL := bl_setb (b := w.heap.size + 1) (j := k + 1) hL4 (by omega) (.bool xb)
          have hSz : w1.heap.size ≤ (w4.setCell ⟨w.heap.size + 1, k + 1, none⟩ (.bool xb)).heap.size := by simpa using hz4
          refine hK.out _ _ ⟨hSB, ⟨_, HV.out⟩, hSL⟩ (fun hHeld => ?_)
          clear hK K hHeld
          try simp only [Act.put, List.setIfInBounds_toArray, List.set_cons_zero, List.set_cons_succ]
          refine wpAnyH_done (by kernel_rfl) ?_ _
          clear p2 p3 hV4 hB4 hL4 hV1 hB
          go_wp2_with fail
          go_roundw
          case rel => exact ⟨k + 1, _, by omega, by go_num, HV.out, HF.out, hSB, hSL, hSz⟩
          case measure => (simp [intOf] <;> omega)
      · obtain rfl : k = s.size := by omega
        have HI := Lib.hid hI1
        clear hI1
        go_wp2_with fail
        go_ret
        exact ⟨⟨_, V1, rfl, hV1.more (by omega) hz, fun j hj => (HI.out j hj).trans ⟨fun ⟨i, h1, h2⟩ => ⟨i, by omega, h2⟩, fun ⟨i, h1, h2, h3⟩ => ⟨i, by obtain ⟨_, h4, _⟩ := h3; exact h4, h2, h3⟩⟩⟩, hL⟩
  have m2 : (zk == 2) = false := by simp [n2]
  by_cases n3 : zk = 3
  · subst n3
    rw [rel_one (k := 3) (by simp)]
    have hm2 : s.size < m := by have := hm.out; omega
    have hm3 : m ≤ s.size + 1 := by have := hm.out; omega
    obtain ⟨i0, hi, hz0, hz1, hz2⟩ := info_parts info_bool
    have B := Blk.new w 45 #[.int .i64 3, .string zs, .slice A kids.len c]
    have L0 := bl_alloc (Below.refl w.heap.size w) (.cells #[.int .i64 3, .string zs, .slice A kids.len c] 45)
    obtain ⟨bf, of_, rfl, hbf, hcf⟩ := hR.at_ hm0
    have HCF := Lib.hid fun (x : World) (L : Below w.heap.size w x) (k : Nat) (hk : k < m) => (show x.cell? ⟨bf, of_ + k, none⟩ = w.cell? ⟨bf, of_ + k, none⟩ from L.cell (by show bf < w.heap.size; exact hbf)).trans (hcf k hk)
    clear hcf
    have ew : IntKind.i64.wrap ((s.size : Int) + 1) = (s.size : Int) + 1 := IntWalk.i64_in _ (by omega)
    go_enter Try.func116, Try.ntmps116
    go_wp2_with (at_make; refine wpList_makeN rfl _ _ 99 rfl 4 i0 (.bool false) 1 1 Try.underlying99 hi hz0 hz1 hz2 rfl .i64 .i64 m (congrArg (Value.int .i64) HM.out) (congrArg (Value.int .i64) HM.out) (by omega) (by omega) ?_)
    intro w1 hO1 b1
    have es := alloc_size w (.cells #[.int .i64 3, .string zs, .slice A kids.len c] 45)
    clear es
    have hV0 : Vec w1 (w.heap.size + 1) w1.heap.size (.slice (some ⟨w.heap.size + 1, 0, none⟩) m m) m (fun _ => false) := Row.mk (by rw [← bools_zero]; first | exact hO1 | (rw [← flat_one]; exact hO1))
    have hout : w.heap.size + 1 < w1.heap.size := (hV0.1.lt _ rfl).2
    clear hO1 ew
    have L1 := bl_far L0 b1 (Nat.le_succ _)
    have s1 := L1.size
    have B1 := B.below b1 (Nat.lt_succ_self _)
    clear b1 B L0
    have hlt1 := B1.lt
    have pB := B1.cell
    go_wp2_with fail
    clear pB
    go_loopw [8] (fun i wr => ∃ (k : Nat) (V' : Nat → Bool), k ≤ s.size ∧ i = .int .i64 k ∧ Vec wr (w.heap.size + 1) w1.heap.size (.slice (some ⟨w.heap.size + 1, 0, none⟩) m m) m V' ∧ (∀ j, j < m → (V' j = true ↔ ∃ i, i < k ∧ V i = true ∧ oneR s 3 zs i j)) ∧ Blk wr w.heap.size 45 #[.int .i64 3, .string zs, .slice A kids.len c] ∧ Below w.heap.size w wr ∧ w1.heap.size ≤ wr.heap.size) (fun i _ => s.size - (intOf i).toNat)
    case atStart => exact ⟨0, fun _ => false, Nat.zero_le _, rfl, hV0, fun j hj => ⟨fun h => (by cases h), fun ⟨i, h, _⟩ => absurd h (Nat.not_lt_zero _)⟩, B1, L1, Nat.le_refl _⟩
    case round =>
      clear hV0 B1 L1 s1
      obtain ⟨k, V1, hk, rfl, hV1, hI1, hB, hL, hz⟩ := hrel
      by_cases hlt : k < s.size
      · have hlt' : (k : Int) < (s.size : Int) := by omega
        have hkm : k < m := by omega
        have hkm' : (k : Int) < (m : Int) := by omega
        have hkm1 : k + 1 < m := by omega
        have hkm1' : (k : Int) + 1 < (m : Int) := by omega
        have hx := s[k].toNat_lt
        have hx' : (s[k].toNat : Int) < 256 := by omega
        have ew : IntKind.i64.wrap ((k : Int) + 1) = (k : Int) + 1 := IntWalk.i64_in _ (by omega)
        have e1 : ((k : Int) + 1).toNat = k + 1 := by omega
        have e0 : 0 ≤ (k : Int) + 1 := by omega
        have hST : ∀ t : Bool, (t = true ↔ V k = true ∧ takeB 3 zs (s[k].toNat : Int) = true) → ∀ j, j < m → (upd V1 (k + 1) t j = true ↔ ∃ i, i < k + 1 ∧ V i = true ∧ oneR s 3 zs i j) := fun t ht j hj => by
          by_cases e : j = k + 1
          · subst e
            rw [upd_same, ht]
            exact ⟨fun h => ⟨k, by omega, h.1, rfl, hlt, h.2⟩, fun ⟨i, _, h2, h3, h4, h5⟩ => by
              obtain rfl : k = i := by omega
              exact ⟨h2, h5⟩⟩
          · rw [upd_other _ _ e, hI1 j hj]
            exact ⟨fun ⟨i, h1, h2⟩ => ⟨i, by omega, h2⟩, fun ⟨i, h1, h2, h3, h4⟩ => ⟨i, by omega, h2, h3, h4⟩⟩
        have HST := Lib.hid hST
        clear hST hI1
        have p1 := HCF.out wr hL k hkm
        have HCK := Lib.hid fun x L => HCF.out x L k hkm
        cases hv : V k
        · rw [hv] at p1
          have p2 := hV1.cell hkm1
          have p3 := hV1.frozen (k + 1)
          have HF := Lib.hid (HST.out false ⟨fun h => (by cases h), fun h => by rw [hv] at h; exact absurd h.1 Bool.false_ne_true⟩)
          have HV := Lib.hid ((hV1.set (k := k + 1) false).drew)
          have hSB := (hB.farb (b := w.heap.size + 1) (j := k + 1) (by omega) (.bool false)).drew
          have hSL := (bl_setb (b := w.heap.size + 1) (j := k + 1) hL (by omega) (.bool false)).drew
          have hSz : w1.heap.size ≤ (wr.setCell ⟨w.heap.size + 1, k + 1, none⟩ (.bool false)).drew.heap.size := by simpa using hz
          clear hV1 hB hv HST HCK
          go_wp2_with fail
          go_big_region
          go_wp2_with fail
          go_roundw
          case rel => exact ⟨k + 1, _, by omega, by go_num, HV.out, HF.out, hSB, hSL, hSz⟩
          case measure => (simp [intOf] <;> omega)
        · have hcK : ∀ x, Below w.heap.size w x → x.cell? ⟨bf, of_ + k, none⟩ = some (.bool true) := fun x L => by rw [HCK.out x L, hv]
          have HK := Lib.hid hcK
          clear hcK p1
          have HF := Lib.hid (HST.out (takeB 3 zs (s[k].toNat : Int)) ⟨fun h => ⟨hv, h⟩, fun h => h.2⟩)
          have CT := Lib.hid fun w => iTakes 3 zs (.slice A kids.len c) (s[k].toNat : Int) w (by simp)
          generalize takeB 3 zs (s[k].toNat : Int) = xb at CT HF
          clear hv HST HCK
          go_wp2_with fail
          refine wp_region_held_drew (S := (fun x => Blk x w.heap.size 45 #[.int .i64 3, .string zs, .slice A kids.len c] ∧ (∃ V2, Vec x (w.heap.size + 1) w1.heap.size (.slice (some ⟨w.heap.size + 1, 0, none⟩) m m) m V2) ∧ Below w.heap.size w x)) (by kernel_rfl) ?_ (fun hHeld => ?_)
          · exact ⟨hB.drew, ⟨V1, hV1.drew⟩, hL.drew⟩
          refine wpAnyH_take (i := 0) (oi := ⟨some 29, _, _, _, _, _⟩) (v := ?_) rfl (by kernel_rfl) (by kernel_rfl) (by kernel_rfl) (fun _ _ _ h => h) (Or.inl ⟨by rfl, ?_⟩) (by assumption) ?_
          case refine_2 => (intro w hSw; skip; go_simp; first | done | with_reducible rfl)
          simp only [Act.put, List.setIfInBounds_toArray, List.set_cons_zero, List.set_cons_succ]
          refine wpAnyH_take (i := 1) (oi := ⟨some 30, _, _, _, _, _⟩) (v := ?_) rfl (by kernel_rfl) (by kernel_rfl) (by kernel_rfl) (fun _ _ _ h => h) (Or.inl ⟨by rfl, ?_⟩) (by assumption) ?_
          case refine_2 => (intro w hSw; skip; go_simp; first | done | with_reducible rfl)
          simp only [Act.put, List.setIfInBounds_toArray, List.set_cons_zero, List.set_cons_succ]
          refine wpAnyH_take (i := 2) (oi := ⟨some 31, _, _, _, _, _⟩) (v := ?_) rfl (by kernel_rfl) (by kernel_rfl) (by kernel_rfl) (fun _ _ _ h => h) (Or.inl ⟨by rfl, ?_⟩) (by assumption) ?_
          case refine_2 => (intro w hSw; skip; go_simp; first | done | with_reducible rfl)
          simp only [Act.put, List.setIfInBounds_toArray, List.set_cons_zero, List.set_cons_succ]
          refine wpAnyH_take (i := 3) (oi := ⟨some 32, _, _, _, _, _⟩) (v := ?_) rfl (by kernel_rfl) (by kernel_rfl) (by kernel_rfl) (fun _ _ _ h => h) (Or.inl ⟨by rfl, ?_⟩) (by assumption) ?_
          case refine_2 => (intro w hSw; skip; go_simp; first | done | with_reducible rfl)
          simp only [Act.put, List.setIfInBounds_toArray, List.set_cons_zero, List.set_cons_succ]
          refine wpAnyH_take (i := 4) (oi := ⟨some 33, _, _, _, _, _⟩) (v := ?_) rfl (by kernel_rfl) (by kernel_rfl) (by kernel_rfl) (fun _ _ _ h => h) (Or.inl ⟨by rfl, ?_⟩) (by assumption) ?_
          case refine_2 => (intro w hSw; skip; go_simp; first | done | with_reducible rfl)
          simp only [Act.put, List.setIfInBounds_toArray, List.set_cons_zero, List.set_cons_succ]
          refine wpAnyH_take (i := 5) (oi := ⟨some 34, _, _, _, _, _⟩) (v := ?_) rfl (by kernel_rfl) (by kernel_rfl) (by kernel_rfl) (fun _ _ _ h => h) (Or.inl ⟨by rfl, ?_⟩) (by assumption) ?_
          case refine_2 => (intro w hSw; skip; go_simp; first | done | with_reducible rfl)
          simp only [Act.put, List.setIfInBounds_toArray, List.set_cons_zero, List.set_cons_succ]
          refine wpAnyH_take (i := 6) (oi := ⟨some 35, _, _, _, _, _⟩) (v := ?_) rfl (by kernel_rfl) (by kernel_rfl) (by kernel_rfl) (fun _ _ _ h => h) (Or.inl ⟨by rfl, ?_⟩) (by assumption) ?_
          case refine_2 => (intro w hSw; have p := HK.out _ hSw.2.2; go_simp; first | done | with_reducible rfl)
          simp only [Act.put, List.setIfInBounds_toArray, List.set_cons_zero, List.set_cons_succ]
          refine wpAnyH_take (i := 7) (oi := ⟨some 36, _, _, _, _, _⟩) (v := ?_) rfl (by kernel_rfl) (by kernel_rfl) (by kernel_rfl) (fun _ _ _ h => h) (Or.inl ⟨by rfl, ?_⟩) (by assumption) ?_
          case refine_2 => (intro w hSw; skip; go_simp; first | done | with_reducible rfl)
          simp only [Act.put, List.setIfInBounds_toArray, List.set_cons_zero, List.set_cons_succ]
          refine wpAnyH_take (i := 8) (oi := ⟨some 37, _, _, _, _, _⟩) (v := ?_) rfl (by kernel_rfl) (by kernel_rfl) (by kernel_rfl) (fun _ _ _ h => h) (Or.inl ⟨by rfl, ?_⟩) (by assumption) ?_
          case refine_2 => (intro w hSw; have p := hSw.1.cell; go_simp; first | done | with_reducible rfl)
          simp only [Act.put, List.setIfInBounds_toArray, List.set_cons_zero, List.set_cons_succ]
          refine wpAnyH_take (i := 9) (oi := ⟨some 38, _, _, _, _, _⟩) (v := ?_) rfl (by kernel_rfl) (by kernel_rfl) (by kernel_rfl) (fun _ _ _ h => h) (Or.inl ⟨by rfl, ?_⟩) (by assumption) ?_
          case refine_2 => (intro w hSw; skip; go_simp; first | done | with_reducible rfl)
          simp only [Act.put, List.setIfInBounds_toArray, List.set_cons_zero, List.set_cons_succ]
          refine wpAnyH_take (i := 10) (oi := ⟨some 39, _, _, _, _, _⟩) (v := ?_) rfl (by kernel_rfl) (by kernel_rfl) (by kernel_rfl) (fun _ _ _ h => h) (Or.inl ⟨by rfl, ?_⟩) (by assumption) ?_
          case refine_2 => (intro w hSw; skip; go_simp; first | done | with_reducible rfl)
          simp only [Act.put, List.setIfInBounds_toArray, List.set_cons_zero, List.set_cons_succ]
          refine wpAnyH_take (i := 11) (oi := ⟨some 40, _, _, _, _, _⟩) (v := ?_) rfl (by kernel_rfl) (by kernel_rfl) (by kernel_rfl) (fun _ _ _ h => h) (Or.inl ⟨by rfl, ?_⟩) (by assumption) ?_
          case refine_2 => (intro w hSw; skip; go_simp; first | done | with_reducible rfl)
          simp only [Act.put, List.setIfInBounds_toArray, List.set_cons_zero, List.set_cons_succ]
          refine wpAnyH_ready (rs := [12]) (by kernel_rfl) (by simp) ?_
          refine AllReadyH.cons (o := ⟨some 41, _, _, _, _, _⟩) rfl (fun K hK => ?_) AllReadyH.nil
          go_simp
          refine (CT.out _).mono ?_; rintro e w4 ⟨rfl, b4⟩
          go_wp2_with fail
          refine hK.out _ _ (⟨hHeld.1.keep b4, ⟨V1, hV1.drew.keep b4⟩, bl_trans hHeld.2.2 b4⟩) (fun hHeld => ?_)
          clear hK K
          try simp only [Act.put, List.setIfInBounds_toArray, List.set_cons_zero, List.set_cons_succ]
          have hV4 := hV1.drew.keep b4
          have p2 := hV4.cell hkm1
          have p3 := hV4.frozen (k + 1)
          have hB4 := hB.drew.keep b4
          have hL4 := bl_trans hL.drew b4
          have hz4 : w1.heap.size ≤ w4.heap.size := Nat.le_trans hz b4.size
          refine wpAnyH_take (i := 13) (oi := ⟨some 42, _, _, _, _, _⟩) (v := ?_) rfl (by kernel_rfl) (by kernel_rfl) (by kernel_rfl) (fun _ _ _ h => h) (Or.inl ⟨by rfl, ?_⟩) (by assumption) ?_
          case refine_2 => (intro w hSw; skip; go_simp; first | done | with_reducible rfl)
          simp only [Act.put, List.setIfInBounds_toArray, List.set_cons_zero, List.set_cons_succ]
          refine wpAnyH_take (i := 14) (oi := ⟨some 43, _, _, _, _, _⟩) (v := ?_) rfl (by kernel_rfl) (by kernel_rfl) (by kernel_rfl) (fun _ _ _ h => h) (Or.inl ⟨by rfl, ?_⟩) (by assumption) ?_
          case refine_2 => (intro w hSw; skip; go_simp; first | done | with_reducible rfl)
          simp only [Act.put, List.setIfInBounds_toArray, List.set_cons_zero, List.set_cons_succ]
          refine wpAnyH_ready (rs := [15]) (by kernel_rfl) (by simp) ?_
          refine AllReadyH.cons (o := ⟨none, _, _, _, _, _⟩) rfl (fun K hK => ?_) AllReadyH.nil
          go_simp
          go_wp2_with fail
          have HV := Lib.hid (hV4.set (k := k + 1) xb)
          have hSB := hB4.farb (b := w.heap.size + 1) (j := k + 1) (by omega) (.bool xb)
          have hSL := bl_setb (b := w.heap.size + 1) (j := k + 1) hL4 (by omega) (.bool xb)
          have hSz : w1.heap.size ≤ (w4.setCell ⟨w.heap.size + 1, k + 1, none⟩ (.bool xb)).heap.size := by simpa using hz4
          refine hK.out _ _ ⟨hSB, ⟨_, HV.out⟩, hSL⟩ (fun hHeld => ?_)
          clear hK K hHeld
          try simp only [Act.put, List.setIfInBounds_toArray, List.set_cons_zero, List.set_cons_succ]
          refine wpAnyH_done (by kernel_rfl) ?_ _
          clear p2 p3 hV4 hB4 hL4 hV1 hB
          go_wp2_with fail
          go_roundw
          case rel => exact ⟨k + 1, _, by omega, by go_num, HV.out, HF.out, hSB, hSL, hSz⟩
          case measure => (simp [intOf] <;> omega)
      · obtain rfl : k = s.size := by omega
        have HI := Lib.hid hI1
        clear hI1
        go_wp2_with fail
        go_ret
        exact ⟨⟨_, V1, rfl, hV1.more (by omega) hz, fun j hj => (HI.out j hj).trans ⟨fun ⟨i, h1, h2⟩ => ⟨i, by omega, h2⟩, fun ⟨i, h1, h2, h3⟩ => ⟨i, by obtain ⟨_, h4, _⟩ := h3; exact h4, h2, h3⟩⟩⟩, hL⟩
  have m3 : (zk == 3) = false := by simp [n3]
  by_cases n4 : zk = 4
  · subst n4
    rw [rel_cat]
    have hkl : (kids.len : Int) ≤ 1048576 := by have := kids.len_size; omega
    obtain ⟨i0, hi, hz0, hz1, hz2⟩ := info_parts info_bool
    have B := Blk.new w 45 #[.int .i64 4, .string zs, .slice A kids.len c]
    have L0 := bl_alloc (Below.refl w.heap.size w) (.cells #[.int .i64 4, .string zs, .slice A kids.len c] 45)
    obtain ⟨bf, of_, rfl, hbf, hcf⟩ := hR.at_ hm0
    have HCF := Lib.hid fun (x : World) (L : Below w.heap.size w x) (k : Nat) (hk : k < m) => (show x.cell? ⟨bf, of_ + k, none⟩ = w.cell? ⟨bf, of_ + k, none⟩ from L.cell (by show bf < w.heap.size; exact hbf)).trans (hcf k hk)
    clear hcf
    have ew : IntKind.i64.wrap ((s.size : Int) + 1) = (s.size : Int) + 1 := IntWalk.i64_in _ (by omega)
    go_enter Try.func116, Try.ntmps116
    go_wp2_with (at_make; refine wpList_makeN rfl _ _ 99 rfl 4 i0 (.bool false) 1 1 Try.underlying99 hi hz0 hz1 hz2 rfl .i64 .i64 m (congrArg (Value.int .i64) HM.out) (congrArg (Value.int .i64) HM.out) (by omega) (by omega) ?_)
    intro w1 hO1 b1
    have es := alloc_size w (.cells #[.int .i64 4, .string zs, .slice A kids.len c] 45)
    clear es
    have hV0 : Vec w1 (w.heap.size + 1) w1.heap.size (.slice (some ⟨w.heap.size + 1, 0, none⟩) m m) m (fun _ => false) := Row.mk (by rw [← bools_zero]; first | exact hO1 | (rw [← flat_one]; exact hO1))
    have hout : w.heap.size + 1 < w1.heap.size := (hV0.1.lt _ rfl).2
    clear hO1 ew
    have L1 := bl_far L0 b1 (Nat.le_succ _)
    have s1 := L1.size
    have B1 := B.below b1 (Nat.lt_succ_self _)
    clear b1 B L0
    have hlt1 := B1.lt
    have pB := B1.cell
    have hVf := hR.keep L1 (Nat.le_trans (Nat.le_refl _) L1.size)
    have CC := Lib.hid (iClone _ m cf V w1 hm0 hm1 hVf)
    clear hVf hV0
    go_wp2_with fail
    refine CC.out.mono ?_; rintro e w2 ⟨⟨v, rfl, hV2⟩, b2⟩
    have L2 := bl_trans L1 b2
    have B2 := B1.keep b2
    have s2 := b2.size
    clear CC pB
    have pB := B2.cell
    go_wp2_with fail
    clear pB
    go_loopw [7, 51] (fun ov i wr => ∃ (k : Nat) (V' : Nat → Bool), k ≤ kids.len ∧ i = .int .i64 k ∧ Vec wr (w.heap.size + 1) wr.heap.size ov m V' ∧ (∀ j, j < m → (V' j = true ↔ img m V (catR ((rowR s kids).take k)) j)) ∧ Blk wr w.heap.size 45 #[.int .i64 4, .string zs, .slice A kids.len c] ∧ Below w.heap.size w wr) (fun _ i _ => kids.len - (intOf i).toNat)
    case atStart => exact ⟨0, V, Nat.zero_le _, rfl, hV2.more (by omega) (Nat.le_refl _), fun j hj => (img_id hj).symm, B2, L2⟩
    case round =>
      clear hV2 B1 L1 s1 B2 L2
      obtain ⟨k, V1, hk, rfl, hV1, hI1, hB, hL⟩ := hrel
      obtain ⟨gv, cv, rfl, hgv, _⟩ := hV1.form hm0
      by_cases hlt : k < kids.len
      · have hlt' : (k : Int) < (kids.len : Int) := by omega
        obtain ⟨bx, ox, l, k1, A1, c1, hAe, hbx, hd, hks, hSk, q0, q1, q2⟩ := at_Rex (hS.below hL (Nat.le_refl _)) hlt
        subst hAe
        obtain ⟨h1, h2⟩ := okR_at hA hd
        have hwa := wtR_at hd
        have hct := cat_take (t := s) hlt hd
        obtain ⟨yk, ys⟩ := l
        simp only at q0 q1 h1 hwa hct
        have hFc := fwd_cat (fwd_take (fwd_row s kids) k)
        rw [hm.out] at hFc
        have L3 := bl_alloc hL (.cells #[.int .i64 yk, .string ys, .slice A1 k1.len c1] 45)
        have n3 := bl_alloc (Below.refl wr.heap.size wr) (.cells #[.int .i64 yk, .string ys, .slice A1 k1.len c1] 45)
        have CE := Lib.hid (IHH.out k1 (by omega) yk ys A1 c1 V1 _ cv (wr.alloc (.cells #[.int .i64 yk, .string ys, .slice A1 k1.len c1] 45)) h1 h2 (by omega) ((hSk.below (B := wr.heap.size) n3 hL.size).more (Nat.le_refl _) L3.size) (hV1.keep n3).reads)
        generalize relOf s yk ys (rowR s k1) = R at hct CE
        generalize catR ((rowR s kids).take k) = R0 at hct hFc hI1
        have HC := Lib.hid hct
        clear hct hd h1 h2
        have hLs := hL.size
        go_wp2_with fail
        refine CE.out.mono ?_; rintro e w4 ⟨⟨v4, V4, rfl, hV4, hI4⟩, b4⟩
        have L4 := bl_trans L3 b4
        have B4 := (hB.alloc _).keep b4
        have hI5 : ∀ j, j < m → (V4 j = true ↔ img m V (compR R0 R) j) := fun j hj => (hI4 j hj).trans (img_of hI1 hFc)
        rw [← HC.out] at hI5
        have HI := Lib.hid hI5
        clear hI5 hI4 hI1 n3
        have n4 := L3.size
        rw [alloc_size] at hV4
        go_wp2_with fail
        go_roundw
        case rel => exact ⟨k + 1, V4, by omega, by go_num, hV4.more (by omega) (Nat.le_refl _), HI.out, B4, L4⟩
        case measure => (simp [intOf] <;> omega)
      · obtain rfl : k = kids.len := by omega
        rw [List.take_of_length_le (by rw [rowR_len]; exact Nat.le_refl _)] at hI1
        have HI := Lib.hid hI1
        clear hI1
        go_wp2_with fail
        go_ret
        exact ⟨⟨_, V1, rfl, hV1.more (by omega) (Nat.le_refl _), HI.out⟩, hL⟩
  have m4 : (zk == 4) = false := by simp [n4]
  by_cases n5 : zk = 5
  · subst n5
    rw [rel_alt]
    have hkl : (kids.len : Int) ≤ 1048576 := by have := kids.len_size; omega
    obtain ⟨i0, hi, hz0, hz1, hz2⟩ := info_parts info_bool
    have B := Blk.new w 45 #[.int .i64 5, .string zs, .slice A kids.len c]
    have L0 := bl_alloc (Below.refl w.heap.size w) (.cells #[.int .i64 5, .string zs, .slice A kids.len c] 45)
    obtain ⟨bf, of_, rfl, hbf, hcf⟩ := hR.at_ hm0
    have HCF := Lib.hid fun (x : World) (L : Below w.heap.size w x) (k : Nat) (hk : k < m) => (show x.cell? ⟨bf, of_ + k, none⟩ = w.cell? ⟨bf, of_ + k, none⟩ from L.cell (by show bf < w.heap.size; exact hbf)).trans (hcf k hk)
    clear hcf
    have ew : IntKind.i64.wrap ((s.size : Int) + 1) = (s.size : Int) + 1 := IntWalk.i64_in _ (by omega)
    go_enter Try.func116, Try.ntmps116
    go_wp2_with (at_make; refine wpList_makeN rfl _ _ 99 rfl 4 i0 (.bool false) 1 1 Try.underlying99 hi hz0 hz1 hz2 rfl .i64 .i64 m (congrArg (Value.int .i64) HM.out) (congrArg (Value.int .i64) HM.out) (by omega) (by omega) ?_)
    intro w1 hO1 b1
    have es := alloc_size w (.cells #[.int .i64 5, .string zs, .slice A kids.len c] 45)
    clear es
    have hV0 : Vec w1 (w.heap.size + 1) w1.heap.size (.slice (some ⟨w.heap.size + 1, 0, none⟩) m m) m (fun _ => false) := Row.mk (by rw [← bools_zero]; first | exact hO1 | (rw [← flat_one]; exact hO1))
    have hout : w.heap.size + 1 < w1.heap.size := (hV0.1.lt _ rfl).2
    clear hO1 ew
    have L1 := bl_far L0 b1 (Nat.le_succ _)
    have s1 := L1.size
    have B1 := B.below b1 (Nat.lt_succ_self _)
    clear b1 B L0
    have hlt1 := B1.lt
    have pB := B1.cell
    go_wp2_with fail
    clear pB
    go_loopw [65] (fun i wr => ∃ (k : Nat) (V' : Nat → Bool), k ≤ kids.len ∧ i = .int .i64 k ∧ Vec wr (w.heap.size + 1) w1.heap.size (.slice (some ⟨w.heap.size + 1, 0, none⟩) m m) m V' ∧ (∀ j, j < m → (V' j = true ↔ img m V (altR ((rowR s kids).take k)) j)) ∧ Blk wr w.heap.size 45 #[.int .i64 5, .string zs, .slice A kids.len c] ∧ Below w.heap.size w wr ∧ w1.heap.size ≤ wr.heap.size) (fun i _ => kids.len - (intOf i).toNat)
    case atStart => exact ⟨0, fun _ => false, Nat.zero_le _, rfl, hV0, fun j hj => ⟨fun h => (by cases h), fun h => absurd h img_no⟩, B1, L1, Nat.le_refl _⟩
    case round =>
      clear hV0 B1 L1 s1
      obtain ⟨k, V1, hk, rfl, hV1, hI1, hB, hL, hz⟩ := hrel
      by_cases hlt : k < kids.len
      · have hlt' : (k : Int) < (kids.len : Int) := by omega
        obtain ⟨bx, ox, l, k1, A1, c1, hAe, hbx, hd, hks, hSk, q0, q1, q2⟩ := at_Rex (hS.below hL (Nat.le_refl _)) hlt
        subst hAe
        obtain ⟨h1, h2⟩ := okR_at hA hd
        have hwa := wtR_at hd
        have hct := alt_take (t := s) hlt hd
        obtain ⟨yk, ys⟩ := l
        simp only at q0 q1 h1 hwa hct
        have L3 := bl_alloc hL (.cells #[.int .i64 yk, .string ys, .slice A1 k1.len c1] 45)
        have n3 := bl_alloc (Below.refl wr.heap.size wr) (.cells #[.int .i64 yk, .string ys, .slice A1 k1.len c1] 45)
        have CE := Lib.hid (IHH.out k1 (by omega) yk ys A1 c1 V _ cf (wr.alloc (.cells #[.int .i64 yk, .string ys, .slice A1 k1.len c1] 45)) h1 h2 (by omega) ((hSk.below (B := wr.heap.size) n3 hL.size).more (Nat.le_refl _) L3.size) (hR.keep L3 L3.size))
        generalize relOf s yk ys (rowR s k1) = R at hct CE
        generalize altR ((rowR s kids).take k) = R0 at hct hI1
        have HC := Lib.hid hct
        clear hct hd h1 h2
        have hLs := hL.size
        go_wp2_with fail
        refine CE.out.mono ?_; rintro e w4 ⟨⟨v4, V4, rfl, hV4, hI4⟩, b4⟩
        have L4 := bl_trans L3 b4
        have B4 := (hB.alloc _).keep b4
        rw [alloc_size] at hV4
        have n4 := b4.size
        rw [alloc_size] at n4
        obtain ⟨gb, gc, rfl, hgb, _⟩ := hV4.form hm0
        have J := Lib.hid (iJoin m (w.heap.size + 1) m gb 0 gc (w.heap.size + 1) w1.heap.size V1 V4 w4 hm1 ((hV1.keep n3).keep b4) (by omega) (fun j hj => by rw [Nat.zero_add]; exact hV4.cell hj))
        clear n3
        go_wp2_with fail
        refine J.out.mono ?_; rintro e w5 ⟨⟨gr, V5, rfl, hV5, hJ5⟩, b5⟩
        have L5 := bl_far L4 b5 (by omega)
        have B5 := B4.below b5 (by omega)
        have s5 := b5.size
        have hI5 : ∀ j, j < m → (V5 j = true ↔ img m V (orR R0 R) j) := fun j hj => by rw [hJ5.or_ hj, hI1 j hj, hI4 j hj, img_or]
        rw [← HC.out] at hI5
        have HI := Lib.hid hI5
        clear hI5 hI4 hI1 hJ5 J
        go_wp2_with fail
        go_roundw
        case rel => exact ⟨k + 1, V5, by omega, by go_num, hV5, HI.out, B5, L5, by omega⟩
        case measure => (simp [intOf] <;> omega)
      · obtain rfl : k = kids.len := by omega
        rw [List.take_of_length_le (by rw [rowR_len]; exact Nat.le_refl _)] at hI1
        have HI := Lib.hid hI1
        clear hI1
        go_wp2_with fail
        go_ret
        exact ⟨⟨_, V1, rfl, hV1.more (by omega) hz, HI.out⟩, hL⟩
  have m5 : (zk == 5) = false := by simp [n5]
  by_cases n6 : zk = 6
  · subst n6
    have hlen := repR_len (k := 6) (by simp) hH
    rw [rel_star]
    obtain ⟨R, hR0⟩ : ∃ R, hdR (rowR s kids) = R := ⟨_, rfl⟩
    rw [hR0]
    have hRR := Lib.hid hR0
    clear hR0
    obtain ⟨i0, hi, hz0, hz1, hz2⟩ := info_parts info_bool
    have B := Blk.new w 45 #[.int .i64 6, .string zs, .slice A kids.len c]
    have L0 := bl_alloc (Below.refl w.heap.size w) (.cells #[.int .i64 6, .string zs, .slice A kids.len c] 45)
    obtain ⟨bf, of_, rfl, hbf, hcf⟩ := hR.at_ hm0
    have HCF := Lib.hid fun (x : World) (L : Below w.heap.size w x) (k : Nat) (hk : k < m) => (show x.cell? ⟨bf, of_ + k, none⟩ = w.cell? ⟨bf, of_ + k, none⟩ from L.cell (by show bf < w.heap.size; exact hbf)).trans (hcf k hk)
    clear hcf
    have ew : IntKind.i64.wrap ((s.size : Int) + 1) = (s.size : Int) + 1 := IntWalk.i64_in _ (by omega)
    go_enter Try.func116, Try.ntmps116
    go_wp2_with (at_make; refine wpList_makeN rfl _ _ 99 rfl 4 i0 (.bool false) 1 1 Try.underlying99 hi hz0 hz1 hz2 rfl .i64 .i64 m (congrArg (Value.int .i64) HM.out) (congrArg (Value.int .i64) HM.out) (by omega) (by omega) ?_)
    intro w1 hO1 b1
    have es := alloc_size w (.cells #[.int .i64 6, .string zs, .slice A kids.len c] 45)
    clear es
    have hV0 : Vec w1 (w.heap.size + 1) w1.heap.size (.slice (some ⟨w.heap.size + 1, 0, none⟩) m m) m (fun _ => false) := Row.mk (by rw [← bools_zero]; first | exact hO1 | (rw [← flat_one]; exact hO1))
    have hout : w.heap.size + 1 < w1.heap.size := (hV0.1.lt _ rfl).2
    clear hO1 ew
    have L1 := bl_far L0 b1 (Nat.le_succ _)
    have s1 := L1.size
    have B1 := B.below b1 (Nat.lt_succ_self _)
    clear b1 B L0
    have hlt1 := B1.lt
    have pB := B1.cell
    have J1 := Lib.hid (iJoin m (w.heap.size + 1) m bf of_ cf (w.heap.size + 1) w1.heap.size (fun _ => false) V w1 hm1 hV0 (by omega) (HCF.out w1 L1))
    go_wp2_with fail
    refine J1.out.mono ?_; rintro e w2 ⟨⟨g1, V2, rfl, hV2, hJ2⟩, b2⟩
    have L2 := bl_far L1 b2 (by omega)
    have B2 := B1.below b2 (by omega)
    have s2 := b2.size
    clear J1
    have hI2 : ∀ j, j < m → (V2 j = true ↔ V j = true) := fun j hj => by rw [hJ2.or_ hj]; simp
    clear hJ2
    have HV0 := Lib.hid hI2
    clear hI2
    clear pB
    go_wp2_with fail
    go_loopg [] (noes V2 m) (fun g wr => ∃ V', g = noes V' m ∧ Vec wr (w.heap.size + 1) w1.heap.size (.slice (some ⟨w.heap.size + 1, 0, none⟩) m m) m V' ∧ LoopI m V2 R V' ∧ Blk wr w.heap.size 45 #[.int .i64 6, .string zs, .slice A kids.len c] ∧ Below w.heap.size w wr ∧ w1.heap.size ≤ wr.heap.size)
    case atStart => exact ⟨V2, rfl, hV2, LoopI.zero _ _ _, B2, L2, by omega⟩
    case round =>
      obtain ⟨Vx, rfl, hVx, hLx, hBx, hL, hz⟩ := hrel
      have pB := hBx.cell
      obtain ⟨by_, oy, l, k1, A1, c1, hAe, hbx, hd, hks, hSk, q0, q1, q2⟩ := at_Rex (hS.below hL (Nat.le_refl _)) (i := 0) hlen
      first | subst hAe | (simp only [Option.some.injEq, Addr.mk.injEq, and_true] at hAe; obtain ⟨rfl, rfl⟩ := hAe)
      obtain ⟨h1, h2⟩ := okR_at hA hd
      have hwa := wtR_at hd
      obtain ⟨yk, ys⟩ := l
      simp only [Nat.zero_mul, Nat.add_zero] at q0 q1 q2
      simp only at h1 hwa
      rw [Fr.drop_zero] at hd
      have hR2 := hdR_row (t := s) hd
      rw [hRR.out] at hR2
      simp only at hR2
      have hF := fwd_of s yk ys k1
      rw [hm.out, ← hR2] at hF
      have ce := IHH.out k1 (by omega) yk ys A1 c1 Vx _ m wr h1 h2 (by omega) (hSk.more (Nat.le_refl _) hL.size) hVx.reads
      rw [← hR2] at ce
      have CE := Lib.hid ce
      clear ce hR2 hd h1 h2
      have hlt0 : (0 : Int) < kids.len := by omega
      go_wp2_with fail
      refine CE.out.mono ?_; rintro e w5 ⟨⟨vv, V5, rfl, hV5, hI5⟩, b5⟩
      obtain ⟨gb, gc, rfl, hgb, _⟩ := hV5.form hm0
      have J5 := Lib.hid (iJoin m (w.heap.size + 1) m gb 0 gc (w.heap.size + 1) w1.heap.size Vx V5 w5 hm1 (hVx.keep b5) (by omega) (fun j hj => by rw [Nat.zero_add]; exact hV5.cell hj))
      have L5 := bl_trans hL b5
      have B5 := hBx.keep b5
      have s5 := b5.size
      clear CE
      go_wp2_with fail
      refine J5.out.mono ?_; rintro e w6 ⟨⟨gr, V6, rfl, hV6, hJ6⟩, b6⟩
      have L6 := bl_far L5 b6 (by omega)
      have B6 := B5.below b6 (by omega)
      have s6 := b6.size
      clear J5
      have hLx6 : LoopI m V2 R V6 := hLx.more fun j hj => by rw [hJ6.or_ hj, hI5 j hj]
      cases gr
      · have hcl : ∀ j, j < m → img m V6 R j → V6 j = true := fun j hj hi' => by
          have hsame : ∀ j, j < m → (V6 j = true ↔ Vx j = true) := fun j hj => by
            rw [hJ6.or_ hj]
            refine ⟨fun h => h.elim id fun h5 => ?_, .inl⟩
            cases hx : Vx j with
            | true => rfl
            | false => exact absurd (hJ6.2.2 ⟨j, hj, h5, hx⟩) Bool.false_ne_true
          exact (hJ6.or_ hj).2 (.inr ((hI5 j hj).2 ((img_same hsame).1 hi')))
        have HE := Lib.hid fun j hj => hLx6.end_ hF hcl (j := j) hj
        clear hcl hLx6 hJ6 hI5 hLx
        go_wp2_with fail
        go_ret
        exact ⟨⟨_, V6, rfl, hV6.more (by omega) (by omega), fun j hj => (HE.out j hj).trans (img_same HV0.out)⟩, L6⟩
      · have hms : noes V6 m < noes Vx m := by
          obtain ⟨j, hj, h5, hx⟩ := hJ6.2.1 rfl
          exact noes_lt (fun j hj h => (hJ6.or_ hj).2 (.inl h)) hj hx ((hJ6.or_ hj).2 (.inr h5))
        have HLX := Lib.hid hLx6
        clear hLx6 hJ6 hI5 hLx
        go_wp2_with fail
        go_roundg (noes V6 m)
        case rel => exact ⟨V6, rfl, hV6, HLX.out, B6, L6, by omega⟩
        case measure => exact hms
  have m6 : (zk == 6) = false := by simp [n6]
  by_cases n7 : zk = 7
  · subst n7
    have hlen := repR_len (k := 7) (by simp) hH
    rw [rel_plus]
    obtain ⟨R, hR0⟩ : ∃ R, hdR (rowR s kids) = R := ⟨_, rfl⟩
    rw [hR0]
    have hRR := Lib.hid hR0
    clear hR0
    obtain ⟨i0, hi, hz0, hz1, hz2⟩ := info_parts info_bool
    have B := Blk.new w 45 #[.int .i64 7, .string zs, .slice A kids.len c]
    have L0 := bl_alloc (Below.refl w.heap.size w) (.cells #[.int .i64 7, .string zs, .slice A kids.len c] 45)
    obtain ⟨bf, of_, rfl, hbf, hcf⟩ := hR.at_ hm0
    have HCF := Lib.hid fun (x : World) (L : Below w.heap.size w x) (k : Nat) (hk : k < m) => (show x.cell? ⟨bf, of_ + k, none⟩ = w.cell? ⟨bf, of_ + k, none⟩ from L.cell (by show bf < w.heap.size; exact hbf)).trans (hcf k hk)
    clear hcf
    have ew : IntKind.i64.wrap ((s.size : Int) + 1) = (s.size : Int) + 1 := IntWalk.i64_in _ (by omega)
    go_enter Try.func116, Try.ntmps116
    go_wp2_with (at_make; refine wpList_makeN rfl _ _ 99 rfl 4 i0 (.bool false) 1 1 Try.underlying99 hi hz0 hz1 hz2 rfl .i64 .i64 m (congrArg (Value.int .i64) HM.out) (congrArg (Value.int .i64) HM.out) (by omega) (by omega) ?_)
    intro w1 hO1 b1
    have es := alloc_size w (.cells #[.int .i64 7, .string zs, .slice A kids.len c] 45)
    clear es
    have hV0 : Vec w1 (w.heap.size + 1) w1.heap.size (.slice (some ⟨w.heap.size + 1, 0, none⟩) m m) m (fun _ => false) := Row.mk (by rw [← bools_zero]; first | exact hO1 | (rw [← flat_one]; exact hO1))
    have hout : w.heap.size + 1 < w1.heap.size := (hV0.1.lt _ rfl).2
    clear hO1 ew
    have L1 := bl_far L0 b1 (Nat.le_succ _)
    have s1 := L1.size
    have B1 := B.below b1 (Nat.lt_succ_self _)
    clear b1 B L0
    have hlt1 := B1.lt
    have pB := B1.cell
    obtain ⟨bx, ox, l, k1, A1, c1, rfl, hbx, hd, hks, hSk, q0, q1, q2⟩ := at_Rex (hS.below L1 (Nat.le_refl _)) (i := 0) hlen
    obtain ⟨h1, h2⟩ := okR_at hA hd
    have hwa := wtR_at hd
    obtain ⟨yk, ys⟩ := l
    simp only [Nat.zero_mul, Nat.add_zero] at q0 q1 q2
    simp only at h1 hwa
    rw [Fr.drop_zero] at hd
    have hR2 := hdR_row (t := s) hd
    rw [hRR.out] at hR2
    simp only at hR2
    have hF := fwd_of s yk ys k1
    rw [hm.out, ← hR2] at hF
    have ce := fun V Af cf h => IHH.out k1 (by omega) yk ys A1 c1 V Af cf w1 h1 h2 (by omega) (hSk.more (Nat.le_refl _) L1.size) h
    rw [← hR2] at ce
    have CE := Lib.hid ce
    clear ce hR2 hd h1 h2
    have hlt0 : (0 : Int) < kids.len := by omega
    have HF := Lib.hid hF
    go_wp2_with fail
    refine (CE.out V _ cf (hR.keep L1 (Nat.le_trans (Nat.le_refl _) L1.size))).mono ?_; rintro e w2 ⟨⟨vv, V2, rfl, hV2, hI2⟩, b2⟩
    obtain ⟨gb, gc, rfl, hgb, _⟩ := hV2.form hm0
    have L2 := bl_trans L1 b2
    have B2 := B1.keep b2
    have s2 := b2.size
    clear CE
    have hV02 := hV0.keep b2
    clear pB
    have pB := B2.cell
    have J2 := Lib.hid (iJoin m (w.heap.size + 1) m gb 0 gc (w.heap.size + 1) w1.heap.size (fun _ => false) V2 w2 hm1 hV02 (by omega) (fun j hj => by rw [Nat.zero_add]; exact hV2.cell hj))
    go_wp2_with fail
    refine J2.out.mono ?_; rintro e w3 ⟨⟨g2, V3, rfl, hV3, hJ3⟩, b3⟩
    have L3 := bl_far L2 b3 (by omega)
    have B3 := B2.below b3 (by omega)
    have s3 := b3.size
    clear J2
    have hI3 : ∀ j, j < m → (V3 j = true ↔ img m V R j) := fun j hj => by rw [hJ3.or_ hj, hI2 j hj]; simp
    clear hJ3 hI2 hF q0 q1 q2 hSk
    have HV0 := Lib.hid hI3
    clear hI3
    clear pB
    go_wp2_with fail
    go_loopg [] (noes V3 m) (fun g wr => ∃ V', g = noes V' m ∧ Vec wr (w.heap.size + 1) w1.heap.size (.slice (some ⟨w.heap.size + 1, 0, none⟩) m m) m V' ∧ LoopI m V3 R V' ∧ Blk wr w.heap.size 45 #[.int .i64 7, .string zs, .slice (some ⟨bx, ox, none⟩) kids.len c] ∧ Below w.heap.size w wr ∧ w1.heap.size ≤ wr.heap.size)
    case atStart => exact ⟨V3, rfl, hV3, LoopI.zero _ _ _, B3, L3, by omega⟩
    case round =>
      obtain ⟨Vx, rfl, hVx, hLx, hBx, hL, hz⟩ := hrel
      have pB := hBx.cell
      obtain ⟨by_, oy, l, k1, A1, c1, hAe, hbx, hd, hks, hSk, q0, q1, q2⟩ := at_Rex (hS.below hL (Nat.le_refl _)) (i := 0) hlen
      first | subst hAe | (simp only [Option.some.injEq, Addr.mk.injEq, and_true] at hAe; obtain ⟨rfl, rfl⟩ := hAe)
      obtain ⟨h1, h2⟩ := okR_at hA hd
      have hwa := wtR_at hd
      obtain ⟨yk, ys⟩ := l
      simp only [Nat.zero_mul, Nat.add_zero] at q0 q1 q2
      simp only at h1 hwa
      rw [Fr.drop_zero] at hd
      have hR2 := hdR_row (t := s) hd
      rw [hRR.out] at hR2
      simp only at hR2
      have hF := fwd_of s yk ys k1
      rw [hm.out, ← hR2] at hF
      have ce := IHH.out k1 (by omega) yk ys A1 c1 Vx _ m wr h1 h2 (by omega) (hSk.more (Nat.le_refl _) hL.size) hVx.reads
      rw [← hR2] at ce
      have CE := Lib.hid ce
      clear ce hR2 hd h1 h2
      have hlt0 : (0 : Int) < kids.len := by omega
      go_wp2_with fail
      refine CE.out.mono ?_; rintro e w5 ⟨⟨vv, V5, rfl, hV5, hI5⟩, b5⟩
      obtain ⟨gb, gc, rfl, hgb, _⟩ := hV5.form hm0
      have J5 := Lib.hid (iJoin m (w.heap.size + 1) m gb 0 gc (w.heap.size + 1) w1.heap.size Vx V5 w5 hm1 (hVx.keep b5) (by omega) (fun j hj => by rw [Nat.zero_add]; exact hV5.cell hj))
      have L5 := bl_trans hL b5
      have B5 := hBx.keep b5
      have s5 := b5.size
      clear CE
      go_wp2_with fail
      refine J5.out.mono ?_; rintro e w6 ⟨⟨gr, V6, rfl, hV6, hJ6⟩, b6⟩
      have L6 := bl_far L5 b6 (by omega)
      have B6 := B5.below b6 (by omega)
      have s6 := b6.size
      clear J5
      have hLx6 : LoopI m V3 R V6 := hLx.more fun j hj => by rw [hJ6.or_ hj, hI5 j hj]
      cases gr
      · have hcl : ∀ j, j < m → img m V6 R j → V6 j = true := fun j hj hi' => by
          have hsame : ∀ j, j < m → (V6 j = true ↔ Vx j = true) := fun j hj => by
            rw [hJ6.or_ hj]
            refine ⟨fun h => h.elim id fun h5 => ?_, .inl⟩
            cases hx : Vx j with
            | true => rfl
            | false => exact absurd (hJ6.2.2 ⟨j, hj, h5, hx⟩) Bool.false_ne_true
          exact (hJ6.or_ hj).2 (.inr ((hI5 j hj).2 ((img_same hsame).1 hi')))
        have HE := Lib.hid fun j hj => hLx6.end_ hF hcl (j := j) hj
        clear hcl hLx6 hJ6 hI5 hLx
        go_wp2_with fail
        go_ret
        exact ⟨⟨_, V6, rfl, hV6.more (by omega) (by omega), fun j hj => (HE.out j hj).trans (img_of HV0.out HF.out)⟩, L6⟩
      · have hms : noes V6 m < noes Vx m := by
          obtain ⟨j, hj, h5, hx⟩ := hJ6.2.1 rfl
          exact noes_lt (fun j hj h => (hJ6.or_ hj).2 (.inl h)) hj hx ((hJ6.or_ hj).2 (.inr h5))
        have HLX := Lib.hid hLx6
        clear hLx6 hJ6 hI5 hLx
        go_wp2_with fail
        go_roundg (noes V6 m)
        case rel => exact ⟨V6, rfl, hV6, HLX.out, B6, L6, by omega⟩
        case measure => exact hms
  have m7 : (zk == 7) = false := by simp [n7]
  by_cases n8 : zk = 8
  · subst n8
    have hlen := repR_len (k := 8) (by simp) hH
    rw [rel_opt]
    obtain ⟨R, hR0⟩ : ∃ R, hdR (rowR s kids) = R := ⟨_, rfl⟩
    rw [hR0]
    have hRR := Lib.hid hR0
    clear hR0
    obtain ⟨i0, hi, hz0, hz1, hz2⟩ := info_parts info_bool
    have B := Blk.new w 45 #[.int .i64 8, .string zs, .slice A kids.len c]
    have L0 := bl_alloc (Below.refl w.heap.size w) (.cells #[.int .i64 8, .string zs, .slice A kids.len c] 45)
    obtain ⟨bf, of_, rfl, hbf, hcf⟩ := hR.at_ hm0
    have HCF := Lib.hid fun (x : World) (L : Below w.heap.size w x) (k : Nat) (hk : k < m) => (show x.cell? ⟨bf, of_ + k, none⟩ = w.cell? ⟨bf, of_ + k, none⟩ from L.cell (by show bf < w.heap.size; exact hbf)).trans (hcf k hk)
    clear hcf
    have ew : IntKind.i64.wrap ((s.size : Int) + 1) = (s.size : Int) + 1 := IntWalk.i64_in _ (by omega)
    go_enter Try.func116, Try.ntmps116
    go_wp2_with (at_make; refine wpList_makeN rfl _ _ 99 rfl 4 i0 (.bool false) 1 1 Try.underlying99 hi hz0 hz1 hz2 rfl .i64 .i64 m (congrArg (Value.int .i64) HM.out) (congrArg (Value.int .i64) HM.out) (by omega) (by omega) ?_)
    intro w1 hO1 b1
    have es := alloc_size w (.cells #[.int .i64 8, .string zs, .slice A kids.len c] 45)
    clear es
    have hV0 : Vec w1 (w.heap.size + 1) w1.heap.size (.slice (some ⟨w.heap.size + 1, 0, none⟩) m m) m (fun _ => false) := Row.mk (by rw [← bools_zero]; first | exact hO1 | (rw [← flat_one]; exact hO1))
    have hout : w.heap.size + 1 < w1.heap.size := (hV0.1.lt _ rfl).2
    clear hO1 ew
    have L1 := bl_far L0 b1 (Nat.le_succ _)
    have s1 := L1.size
    have B1 := B.below b1 (Nat.lt_succ_self _)
    clear b1 B L0
    have hlt1 := B1.lt
    have pB := B1.cell
    have J1 := Lib.hid (iJoin m (w.heap.size + 1) m bf of_ cf (w.heap.size + 1) w1.heap.size (fun _ => false) V w1 hm1 hV0 (by omega) (HCF.out w1 L1))
    go_wp2_with fail
    refine J1.out.mono ?_; rintro e w2 ⟨⟨g1, V2, rfl, hV2, hJ2⟩, b2⟩
    have L2 := bl_far L1 b2 (by omega)
    have B2 := B1.below b2 (by omega)
    have s2 := b2.size
    clear J1
    clear pB
    have pB := B2.cell
    obtain ⟨bx, ox, l, k1, A1, c1, rfl, hbx, hd, hks, hSk, q0, q1, q2⟩ := at_Rex (hS.below L2 (Nat.le_refl _)) (i := 0) hlen
    obtain ⟨h1, h2⟩ := okR_at hA hd
    have hwa := wtR_at hd
    obtain ⟨yk, ys⟩ := l
    simp only [Nat.zero_mul, Nat.add_zero] at q0 q1 q2
    simp only at h1 hwa
    rw [Fr.drop_zero] at hd
    have hR2 := hdR_row (t := s) hd
    rw [hRR.out] at hR2
    simp only at hR2
    have hF := fwd_of s yk ys k1
    rw [hm.out, ← hR2] at hF
    have ce := fun V Af cf h => IHH.out k1 (by omega) yk ys A1 c1 V Af cf w2 h1 h2 (by omega) (hSk.more (Nat.le_refl _) L2.size) h
    rw [← hR2] at ce
    have CE := Lib.hid ce
    clear ce hR2 hd h1 h2
    have hlt0 : (0 : Int) < kids.len := by omega
    go_wp2_with fail
    refine (CE.out V _ cf (hR.keep L2 (Nat.le_trans (Nat.le_refl _) L2.size))).mono ?_; rintro e w3 ⟨⟨vv, V3, rfl, hV3, hI3⟩, b3⟩
    obtain ⟨gb, gc, rfl, hgb, _⟩ := hV3.form hm0
    have L3 := bl_trans L2 b3
    have B3 := B2.keep b3
    have s3 := b3.size
    clear CE
    have hV23 := hV2.keep b3
    have J3 := Lib.hid (iJoin m (w.heap.size + 1) m gb 0 gc (w.heap.size + 1) w1.heap.size V2 V3 w3 hm1 hV23 (by omega) (fun j hj => by rw [Nat.zero_add]; exact hV3.cell hj))
    go_wp2_with fail
    refine J3.out.mono ?_; rintro e w4 ⟨⟨g3, V4, rfl, hV4, hJ4⟩, b4⟩
    have L4 := bl_far L3 b4 (by omega)
    have B4 := B3.below b4 (by omega)
    have s4 := b4.size
    clear J3
    have HJ := Lib.hid hJ2
    have HJ4 := Lib.hid hJ4
    have HI := Lib.hid hI3
    clear hJ2 hJ4 hI3
    go_wp2_with fail
    go_ret
    exact ⟨⟨_, V4, rfl, hV4.more (by omega) (by omega), fun j hj => by rw [HJ4.out.or_ hj, HJ.out.or_ hj, HI.out j hj, img_or, img_id hj]; simp⟩, L4⟩
  have m8 : (zk == 8) = false := by simp [n8]
  by_cases n10 : zk = 10
  · subst n10
    rw [rel_begin]
    have hm2 : s.size < m := by have := hm.out; omega
    have hm2' : (s.size : Int) < (m : Int) := by omega
    have hm0' : (0 : Int) < (m : Int) := by omega
    obtain ⟨i0, hi, hz0, hz1, hz2⟩ := info_parts info_bool
    have B := Blk.new w 45 #[.int .i64 10, .string zs, .slice A kids.len c]
    have L0 := bl_alloc (Below.refl w.heap.size w) (.cells #[.int .i64 10, .string zs, .slice A kids.len c] 45)
    obtain ⟨bf, of_, rfl, hbf, hcf⟩ := hR.at_ hm0
    have HCF := Lib.hid fun (x : World) (L : Below w.heap.size w x) (k : Nat) (hk : k < m) => (show x.cell? ⟨bf, of_ + k, none⟩ = w.cell? ⟨bf, of_ + k, none⟩ from L.cell (by show bf < w.heap.size; exact hbf)).trans (hcf k hk)
    clear hcf
    have ew : IntKind.i64.wrap ((s.size : Int) + 1) = (s.size : Int) + 1 := IntWalk.i64_in _ (by omega)
    go_enter Try.func116, Try.ntmps116
    go_wp2_with (at_make; refine wpList_makeN rfl _ _ 99 rfl 4 i0 (.bool false) 1 1 Try.underlying99 hi hz0 hz1 hz2 rfl .i64 .i64 m (congrArg (Value.int .i64) HM.out) (congrArg (Value.int .i64) HM.out) (by omega) (by omega) ?_)
    intro w1 hO1 b1
    have es := alloc_size w (.cells #[.int .i64 10, .string zs, .slice A kids.len c] 45)
    clear es
    have hV0 : Vec w1 (w.heap.size + 1) w1.heap.size (.slice (some ⟨w.heap.size + 1, 0, none⟩) m m) m (fun _ => false) := Row.mk (by rw [← bools_zero]; first | exact hO1 | (rw [← flat_one]; exact hO1))
    have hout : w.heap.size + 1 < w1.heap.size := (hV0.1.lt _ rfl).2
    clear hO1 ew
    have L1 := bl_far L0 b1 (Nat.le_succ _)
    have s1 := L1.size
    have B1 := B.below b1 (Nat.lt_succ_self _)
    clear b1 B L0
    have hlt1 := B1.lt
    have pB := B1.cell
    have p1 := HCF.out w1 L1 0 (by omega)
    have p2 := hV0.cell (k := 0) (by omega)
    have p3 := hV0.frozen 0
    have HV := Lib.hid (hV0.set (k := 0) (V 0))
    have hSL := bl_setb (b := w.heap.size + 1) (j := 0) L1 (by omega) (.bool (V 0))
    have hI : ∀ j, j < m → (upd (fun _ => false) 0 (V 0) j = true ↔ img m V (fun i j => i = j ∧ i = 0) j) := fun j hj => by
      by_cases e : j = 0
      · subst e
        rw [upd_same]
        exact ⟨fun h => ⟨0, by omega, h, rfl, rfl⟩, fun ⟨i, _, h1, h2, h3⟩ => by rw [← h3]; exact h1⟩
      · rw [upd_other _ _ e]
        exact ⟨fun h => (by cases h), fun ⟨i, _, h1, h2, h3⟩ => absurd (h2.symm.trans h3) e⟩
    have HI := Lib.hid hI
    clear hI
    generalize V 0 = xb at p1 HV hSL HI
    rw [Nat.add_zero] at p1
    go_wp2_with fail
    try go_big_region
    try go_wp2_with fail
    go_ret
    first
      | exact ⟨⟨_, _, rfl, HV.out.drew.more (by omega) (by simp), HI.out⟩, hSL.drew⟩
      | exact ⟨⟨_, _, rfl, HV.out.more (by omega) (by simp), HI.out⟩, hSL⟩
  have m10 : (zk == 10) = false := by simp [n10]
  by_cases n11 : zk = 11
  · subst n11
    rw [rel_end]
    have hm2 : s.size < m := by have := hm.out; omega
    have hm2' : (s.size : Int) < (m : Int) := by omega
    have hm0' : (0 : Int) < (m : Int) := by omega
    obtain ⟨i0, hi, hz0, hz1, hz2⟩ := info_parts info_bool
    have B := Blk.new w 45 #[.int .i64 11, .string zs, .slice A kids.len c]
    have L0 := bl_alloc (Below.refl w.heap.size w) (.cells #[.int .i64 11, .string zs, .slice A kids.len c] 45)
    obtain ⟨bf, of_, rfl, hbf, hcf⟩ := hR.at_ hm0
    have HCF := Lib.hid fun (x : World) (L : Below w.heap.size w x) (k : Nat) (hk : k < m) => (show x.cell? ⟨bf, of_ + k, none⟩ = w.cell? ⟨bf, of_ + k, none⟩ from L.cell (by show bf < w.heap.size; exact hbf)).trans (hcf k hk)
    clear hcf
    have ew : IntKind.i64.wrap ((s.size : Int) + 1) = (s.size : Int) + 1 := IntWalk.i64_in _ (by omega)
    go_enter Try.func116, Try.ntmps116
    go_wp2_with (at_make; refine wpList_makeN rfl _ _ 99 rfl 4 i0 (.bool false) 1 1 Try.underlying99 hi hz0 hz1 hz2 rfl .i64 .i64 m (congrArg (Value.int .i64) HM.out) (congrArg (Value.int .i64) HM.out) (by omega) (by omega) ?_)
    intro w1 hO1 b1
    have es := alloc_size w (.cells #[.int .i64 11, .string zs, .slice A kids.len c] 45)
    clear es
    have hV0 : Vec w1 (w.heap.size + 1) w1.heap.size (.slice (some ⟨w.heap.size + 1, 0, none⟩) m m) m (fun _ => false) := Row.mk (by rw [← bools_zero]; first | exact hO1 | (rw [← flat_one]; exact hO1))
    have hout : w.heap.size + 1 < w1.heap.size := (hV0.1.lt _ rfl).2
    clear hO1 ew
    have L1 := bl_far L0 b1 (Nat.le_succ _)
    have s1 := L1.size
    have B1 := B.below b1 (Nat.lt_succ_self _)
    clear b1 B L0
    have hlt1 := B1.lt
    have pB := B1.cell
    have p1 := HCF.out w1 L1 s.size (by omega)
    have p2 := hV0.cell (k := s.size) (by omega)
    have p3 := hV0.frozen s.size
    have HV := Lib.hid (hV0.set (k := s.size) (V s.size))
    have hSL := bl_setb (b := w.heap.size + 1) (j := s.size) L1 (by omega) (.bool (V s.size))
    have hI : ∀ j, j < m → (upd (fun _ => false) s.size (V s.size) j = true ↔ img m V (fun i j => i = j ∧ i = s.size) j) := fun j hj => by
      by_cases e : j = s.size
      · rw [e]
        rw [upd_same]
        exact ⟨fun h => ⟨s.size, by omega, h, rfl, rfl⟩, fun ⟨i, _, h1, h2, h3⟩ => by rw [← h3]; exact h1⟩
      · rw [upd_other _ _ e]
        exact ⟨fun h => (by cases h), fun ⟨i, _, h1, h2, h3⟩ => absurd (h2.symm.trans h3) e⟩
    have HI := Lib.hid hI
    clear hI
    generalize V s.size = xb at p1 HV hSL HI
    go_wp2_with fail
    try go_big_region
    try go_wp2_with fail
    go_ret
    first
      | exact ⟨⟨_, _, rfl, HV.out.drew.more (by omega) (by simp), HI.out⟩, hSL.drew⟩
      | exact ⟨⟨_, _, rfl, HV.out.more (by omega) (by simp), HI.out⟩, hSL⟩
  have m11 : (zk == 11) = false := by simp [n11]
  by_cases n9 : zk = 9
  · subst n9
    rw [rel_empty]
    obtain ⟨i0, hi, hz0, hz1, hz2⟩ := info_parts info_bool
    have B := Blk.new w 45 #[.int .i64 9, .string zs, .slice A kids.len c]
    have L0 := bl_alloc (Below.refl w.heap.size w) (.cells #[.int .i64 9, .string zs, .slice A kids.len c] 45)
    obtain ⟨bf, of_, rfl, hbf, hcf⟩ := hR.at_ hm0
    have HCF := Lib.hid fun (x : World) (L : Below w.heap.size w x) (k : Nat) (hk : k < m) => (show x.cell? ⟨bf, of_ + k, none⟩ = w.cell? ⟨bf, of_ + k, none⟩ from L.cell (by show bf < w.heap.size; exact hbf)).trans (hcf k hk)
    clear hcf
    have ew : IntKind.i64.wrap ((s.size : Int) + 1) = (s.size : Int) + 1 := IntWalk.i64_in _ (by omega)
    go_enter Try.func116, Try.ntmps116
    go_wp2_with (at_make; refine wpList_makeN rfl _ _ 99 rfl 4 i0 (.bool false) 1 1 Try.underlying99 hi hz0 hz1 hz2 rfl .i64 .i64 m (congrArg (Value.int .i64) HM.out) (congrArg (Value.int .i64) HM.out) (by omega) (by omega) ?_)
    intro w1 hO1 b1
    have es := alloc_size w (.cells #[.int .i64 9, .string zs, .slice A kids.len c] 45)
    clear es
    have hV0 : Vec w1 (w.heap.size + 1) w1.heap.size (.slice (some ⟨w.heap.size + 1, 0, none⟩) m m) m (fun _ => false) := Row.mk (by rw [← bools_zero]; first | exact hO1 | (rw [← flat_one]; exact hO1))
    have hout : w.heap.size + 1 < w1.heap.size := (hV0.1.lt _ rfl).2
    clear hO1 ew
    have L1 := bl_far L0 b1 (Nat.le_succ _)
    have s1 := L1.size
    have B1 := B.below b1 (Nat.lt_succ_self _)
    clear b1 B L0
    have hlt1 := B1.lt
    have pB := B1.cell
    have J1 := Lib.hid (iJoin m (w.heap.size + 1) m bf of_ cf (w.heap.size + 1) w1.heap.size (fun _ => false) V w1 hm1 hV0 (by omega) (HCF.out w1 L1))
    go_wp2_with fail
    refine J1.out.mono ?_; rintro e w2 ⟨⟨g1, V2, rfl, hV2, hJ2⟩, b2⟩
    have L2 := bl_far L1 b2 (by omega)
    have B2 := B1.below b2 (by omega)
    have s2 := b2.size
    clear J1
    have HJ := Lib.hid hJ2
    clear hJ2
    go_wp2_with fail
    go_ret
    exact ⟨⟨_, V2, rfl, hV2.more (by omega) (by omega), fun j hj => by rw [HJ.out.or_ hj, img_id hj]; simp⟩, L2⟩
  have m9 : (zk == 9) = false := by simp [n9]
  exfalso
  rw [here_none (by intro j hj; simp only [List.mem_cons, List.not_mem_nil, or_false] at hj; rcases hj with rfl | rfl | rfl | rfl | rfl | rfl | rfl | rfl | rfl | rfl | rfl <;> assumption) zs kids] at hH
  cases hH

theorem iSpan_any (s : ByteArray) (m : Nat) (hm : Hid (s.size + 1 = m)) (hs : s.size ≤ 1048576) (K : Nat) : ∀ (kids : Fr (Int × ByteArray)), kids.size ≤ K → K ≤ 1048576 → ∀ (zk : Int) (zs : ByteArray) (A : Option Addr) (c : Nat) (V : Nat → Bool) (Af : Option Addr) (cf : Nat) (w : World), hereB zk zs kids = true → okA kids = true → zs.size + wt gRex kids ≤ 1048576 → Sl rexC w 0 w.heap.size A kids → VecR w w.heap.size Af m V → Calls Try.prog 116 #[.agg #[.int .i64 zk, .string zs, .slice A kids.len c], .string s, .slice Af m cf] w fun e w' => RetSp m V (relOf s zk zs (rowR s kids)) w e w' ∧ Below w.heap.size w w' := by
  induction K with
  | zero =>
    intro kids hK _ zk zs A c V Af cf w h1 h2 h3 hS hR
    exact iSpan_step s m hm hs 0 zk zs kids A c V Af cf w hK (by omega) h1 h2 h3 hS hR (fun kids h => by omega)
  | succ K ih =>
    intro kids hK hb zk zs A c V Af cf w h1 h2 h3 hS hR
    exact iSpan_step s m hm hs (K + 1) zk zs kids A c V Af cf w hK (by omega) h1 h2 h3 hS hR (fun kids h => ih kids (by omega) (by omega))

end Go.Proofs.Ytnoekbgmhnhneaa
