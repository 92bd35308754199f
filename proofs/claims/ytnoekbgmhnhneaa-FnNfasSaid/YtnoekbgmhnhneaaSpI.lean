/- Walk over the program's visit: what spread's closure meets. -/
import Derived.Test.YtnoekbgmhnhneaaSpV
import Derived.Test.YtnoekbgmhnhneaaEndsM
import Derived.Test.YtnoekbgmhnhneaaNodeS
import Derived.Deep.RegionHeld3
import Derived.Deep.RegionWith
import Derived.Deep.CutRange
namespace Go.Proofs.Ytnoekbgmhnhneaa
open Go.RowKit

/-- The world in which visit runs. -/
structure VisW (w : World) (B bm bn bv ba bs g m cz lo hi : Nat) (A : Option Addr) (zs : List (Int × ByteArray × Int × Int)) (a s : Int) (V : Nat → Bool) : Prop where
  met : Blk w bm 99 #[.slice (some ⟨g, 0, none⟩) m m]
  nfa : Blk w bn 30 #[.slice A m cz]
  fn : Blk w bv 100 #[.func (.func 77) #[] #[.pointer (some ⟨bm, 0, none⟩), .pointer (some ⟨bn, 0, none⟩), .pointer (some ⟨bv, 0, none⟩), .pointer (some ⟨ba, 0, none⟩), .pointer (some ⟨bs, 0, none⟩)]]
  at_ : Blk w ba 3 #[.int .i64 a]
  sz : Blk w bs 3 #[.int .i64 s]
  row : Vec w lo hi (.slice (some ⟨g, 0, none⟩) m m) m V
  nd : Reads w B 4 A m (flat nodeC zs)
  hB : B ≤ w.heap.size
  hg : B ≤ g
section
variable {w w' : World} {B bm bn bv ba bs g m cz lo hi : Nat} {A : Option Addr} {zs : List (Int × ByteArray × Int × Int)} {a s : Int} {V V' : Nat → Bool}
theorem VisW.ne_ (h : VisW w B bm bn bv ba bs g m cz lo hi A zs a s V) {b : Nat} {t : TypeId} {cs : Array Value} (hb : Blk w b t cs) (ht : 4 ≠ t) : b ≠ g := fun e => by
  subst e
  exact own_blk_ne h.row.1 hb ht rfl
theorem VisW.grown (h : VisW w B bm bn bv ba bs g m cz lo hi A zs a s V) (hg : w.grownBy w' (some g)) (hr : Vec w' lo hi (.slice (some ⟨g, 0, none⟩) m m) m V') : VisW w' B bm bn bv ba bs g m cz lo hi A zs a s V' where
  met := h.met.grown hg (fun e => h.ne_ h.met (by decide) (Option.some.inj e))
  nfa := h.nfa.grown hg (fun e => h.ne_ h.nfa (by decide) (Option.some.inj e))
  fn := h.fn.grown hg (fun e => h.ne_ h.fn (by decide) (Option.some.inj e))
  at_ := h.at_.grown hg (fun e => h.ne_ h.at_ (by decide) (Option.some.inj e))
  sz := h.sz.grown hg (fun e => h.ne_ h.sz (by decide) (Option.some.inj e))
  row := hr
  nd := h.nd.grown hg h.hB (fun k e => by cases e; exact h.hg)
  hB := Nat.le_trans h.hB hg.size
  hg := h.hg
end
theorem inI_of_nxt {l : List Int} {x n : Int} (h : l = [x]) (k : ∀ j, j ∈ l → 0 ≤ j ∧ j ≤ n) : 0 ≤ x ∧ x ≤ n := k x (by rw [h]; exact List.mem_singleton.2 rfl)
set_option maxRecDepth 20000 in
set_option maxHeartbeats 4000000 in
theorem iVisit (zs : List (Int × ByteArray × Int × Int)) (a s : Int) (A : Option Addr) (B bm bn bv ba bs g m cz lo hi : Nat) (hzl : zs.length = m) (hz : m ≤ 1048576) (hzx : ∀ z ∈ zs, z.2.1.size ≤ 9223372036854775807) (hzn : nfaB zs = true) :
    ∀ (K : Nat) (V : Nat → Bool) (w : World) (k : Nat), unm V m < K → k < m → VisW w B bm bn bv ba bs g m cz lo hi A zs a s V →
    Calls Try.prog 77 #[.int .i64 k, .pointer (some ⟨bm, 0, none⟩), .pointer (some ⟨bn, 0, none⟩), .pointer (some ⟨bv, 0, none⟩), .pointer (some ⟨ba, 0, none⟩), .pointer (some ⟨bs, 0, none⟩)] w fun e w' => e = .returned (.tuple #[]) ∧ ∃ V', Vec w' lo hi (.slice (some ⟨g, 0, none⟩) m m) m V' ∧ VisM zs a s k m V V' ∧ w.grownBy w' (some g) := by
  subst hzl
  intro K
  induction K with
  | zero => intro V w k h; omega
  | succ K ih =>
    intro V w k hK hk hW
    have hk' : (k : Int) < (zs.length : Int) := by omega
    have hm' : (zs.length : Int) ≤ 1048576 := by omega
    have IH := Lib.hid ih
    clear ih
    have cm := hW.met.cell
    have ck := hW.row.cell hk
    cases hv : V k with
    | true =>
      rw [hv] at ck
      have HV := Lib.hid hv
      clear hv
      go_enter Try.func77, Try.ntmps77
      go_wp2_with fail
      exact bodyPost_ret (results_none rfl _ _ _) rfl ⟨rfl, V, hW.row, VisM.old hk HV.out, gr_refl _ _⟩
    | false =>
      rw [hv] at ck
      have cf := hW.row.frozen k
      go_enter Try.func77, Try.ntmps77
      go_upto_region 2 with fail
      have G0 : w.grownBy (w.setCell ⟨g, k, none⟩ (.bool true)) (some g) := gr_set (p := ⟨g, k, none⟩) (gr_refl w (some g)) (.inl rfl) _
      have W1 := hW.grown G0 (hW.row.set true)
      have hK1 := unm_lt hv zs.length hk
      have HM1 := Lib.hid (fun i V2 hn h => VisM.one (a := a) (s := s) (i := i) (V2 := V2) hk (inI_iff.2 (by omega)) hn h : ∀ i V2, nxt zs a s k = [i] → VisM zs a s i zs.length (upd V k true) V2 → VisM zs a s k zs.length V V2)
      have HM2 := Lib.hid (fun i j V2 V3 hn h h' => VisM.two (a := a) (s := s) (i := i) (j := j) (V2 := V2) (V3 := V3) hk (inI_iff.2 (by omega)) hn h h' : ∀ i j V2 V3, nxt zs a s k = [i, j] → VisM zs a s i zs.length (upd V k true) V2 → VisM zs a s j zs.length V2 V3 → VisM zs a s k zs.length V V3)
      have HM0 := Lib.hid (fun hn => VisM.none (V := V) (a := a) (s := s) hk (inI_iff.2 (by omega)) hn : nxt zs a s k = [] → VisM zs a s k zs.length V (upd V k true))
      clear hW hv ck cf cm
      generalize w.setCell ⟨g, k, none⟩ (.bool true) = w1 at G0 W1 ⊢
      generalize upd V k true = V1 at W1 HM0 HM1 HM2 hK1
      have hxn : nodeB zs.length (ndAt zs k) = true := by
        unfold nfaB at hzn
        rw [Bool.and_eq_true] at hzn
        exact List.all_eq_true.1 hzn.1 _ (by rw [← ndAt_get (k := (k : Int)) (by rw [Int.toNat_natCast]; exact hk)]; exact List.getElem_mem _)
      have HNX := Lib.hid (fun j hj => inI_iff.1 (nd_nxt (a := a) (s := s) (k := (k : Int)) (j := j) hxn hj))
      have N2 := Lib.hid (fun h => nxt_two (a := a) (s := s) (k := (k : Int)) (zs := zs) h)
      have N1 := Lib.hid (fun h h2 => nxt_one (a := a) (s := s) (k := (k : Int)) (zs := zs) h h2)
      have N0 := Lib.hid (fun h h2 => nxt_none (a := a) (s := s) (k := (k : Int)) (zs := zs) h h2)
      obtain ⟨bz, oz, hAe, hbz0, n0, n1, n2, n3⟩ := rd_node W1.nd hk
      subst hAe
      rw [show zs[k] = ndAt zs k by rw [← ndAt_get (k := (k : Int)) (by rw [Int.toNat_natCast]; exact hk)]; simp only [Int.toNat_natCast]] at n0 n1 n2 n3
      have hxs := hzx (ndAt zs k) (by rw [← ndAt_get (k := (k : Int)) (by rw [Int.toNat_natCast]; exact hk)]; exact List.getElem_mem _)
      generalize ndAt zs k = x at n0 n1 n2 n3 hxs HNX N2 N1 N0
      obtain ⟨xk, xs, xa, xb⟩ := x
      simp only at n0 n1 n2 n3 hxs HNX N2 N1 N0
      clear hxn
      have cn := W1.nfa.cell
      go_upto_region 3 with fail
      have W2 := W1.grown (gr_alloc (gr_refl w1 (some g)) (.cells #[.int .i64 xk, .string xs, .int .i64 xa, .int .i64 xb] 76)) (W1.row.keep (bl_alloc (Below.refl _ _) _))
      have G2 := gr_alloc G0 (.cells #[.int .i64 xk, .string xs, .int .i64 xa, .int .i64 xb] 76)
      have BX := Blk.new w1 76 #[.int .i64 xk, .string xs, .int .i64 xa, .int .i64 xb]
      clear W1 G0 n0 n1 n2 n3 cn
      generalize w1.alloc (.cells #[.int .i64 xk, .string xs, .int .i64 xa, .int .i64 xb] 76) = w2 at W2 G2 BX ⊢
      generalize w1.heap.size = bx at BX ⊢
      have px := BX.cell
      have pv := W2.fn.cell
      by_cases k4 : xk = 4
      · subst k4
        have hn := N2.out rfl
        have HM := Lib.hid (fun V2 V3 h h' => HM2.out _ _ V2 V3 hn h h')
        obtain ⟨a0, a1⟩ := HNX.out xa (by rw [hn]; exact List.mem_cons_self ..)
        obtain ⟨b0, b1⟩ := HNX.out xb (by rw [hn]; exact List.mem_cons_of_mem _ (List.mem_singleton.2 rfl))
        clear HM0 HM1 HM2 N0 N1 N2 HNX hn
        obtain ⟨ia, rfl⟩ := Int.eq_ofNat_of_zero_le a0
        obtain ⟨ib, rfl⟩ := Int.eq_ofNat_of_zero_le b0
        have C1 := Lib.hid (IH.out V1 w2 ia (by omega) (by omega) W2)
        go_wp2_with fail
        refine C1.out.mono ?_; rintro e w3 ⟨rfl, V2, hr2, hm2, g3⟩
        have W3 := W2.grown g3 hr2
        have hle := unm_mono hm2.2 zs.length
        have HM2 := Lib.hid hm2
        have BX3 := BX.grown g3 (fun e => W2.ne_ BX (by decide) (Option.some.inj e))
        have C2 := Lib.hid (IH.out V2 w3 ib (by omega) (by omega) W3)
        clear px pv C1 hm2 hr2
        have px := BX3.cell
        have pv := W3.fn.cell
        go_wp2_with fail
        refine C2.out.mono ?_; rintro e w4 ⟨rfl, V3, hr3, hm3, g4⟩
        have HM3 := Lib.hid hm3
        clear px pv C2 hm3
        go_wp2_with fail
        exact bodyPost_end (results_none rfl _ _ _) rfl ⟨rfl, V3, hr3, HM.out V2 V3 HM2.out HM3.out, gr_trans (gr_trans G2 g3) g4⟩
      have m4 : (xk == 4) = false := by simp [k4]
      have N1 := Lib.hid (N1.out k4)
      have N0 := Lib.hid (N0.out k4)
      clear N2 HM2
      have HY := Lib.hid (fun V2 hc h => HM1.out _ V2 (N1.out hc) h)
      have HX := Lib.hid (fun hc => inI_of_nxt (N1.out hc) HNX.out)
      have HN := Lib.hid (fun hc => HM0.out (N0.out hc))
      clear N0 N1 HNX HM0 HM1
      by_cases k5 : xk = 5
      · subst k5
        clear k4
        by_cases ha : a = 0
        · have q : (a == 0) = true := by simp [ha]
          have HM := Lib.hid (fun V2 h => HY.out V2 (.inl ⟨rfl, ha⟩) h)
          obtain ⟨a0, a1⟩ := HX.out (.inl ⟨rfl, ha⟩)
          clear ha HN HY HX
          obtain ⟨ia, rfl⟩ := Int.eq_ofNat_of_zero_le a0
          have C1 := Lib.hid (IH.out V1 w2 ia (by omega) (by omega) W2)
          have pa := W2.at_.cell
          have ps := W2.sz.cell
          go_wp2_with fail
          refine C1.out.mono ?_; rintro e w3 ⟨rfl, V2, hr2, hm2, g3⟩
          have HM2 := Lib.hid hm2
          clear px pv pa ps C1 hm2
          go_wp2_with fail
          exact bodyPost_end (results_none rfl _ _ _) rfl ⟨rfl, V2, hr2, HM.out V2 HM2.out, gr_trans G2 g3⟩
        · have q : (a == 0) = false := by simp [ha]
          have HM := Lib.hid (HN.out (by omega))
          clear ha HN HY HX
          have pa := W2.at_.cell
          have ps := W2.sz.cell
          go_wp2_with fail
          exact bodyPost_end (results_none rfl _ _ _) rfl ⟨rfl, V1, W2.row, HM.out, G2⟩
      by_cases k6 : xk = 6
      · subst k6
        clear k4 k5
        by_cases ha : a = s
        · have q : (a == s) = true := by simp [ha]
          have HM := Lib.hid (fun V2 h => HY.out V2 (.inr ⟨rfl, ha⟩) h)
          obtain ⟨a0, a1⟩ := HX.out (.inr ⟨rfl, ha⟩)
          clear ha HN HY HX
          obtain ⟨ia, rfl⟩ := Int.eq_ofNat_of_zero_le a0
          have C1 := Lib.hid (IH.out V1 w2 ia (by omega) (by omega) W2)
          have pa := W2.at_.cell
          have ps := W2.sz.cell
          go_wp2_with fail
          refine C1.out.mono ?_; rintro e w3 ⟨rfl, V2, hr2, hm2, g3⟩
          have HM2 := Lib.hid hm2
          clear px pv pa ps C1 hm2
          go_wp2_with fail
          exact bodyPost_end (results_none rfl _ _ _) rfl ⟨rfl, V2, hr2, HM.out V2 HM2.out, gr_trans G2 g3⟩
        · have q : (a == s) = false := by simp [ha]
          have HM := Lib.hid (HN.out (by omega))
          clear ha HN HY HX
          have pa := W2.at_.cell
          have ps := W2.sz.cell
          go_wp2_with fail
          exact bodyPost_end (results_none rfl _ _ _) rfl ⟨rfl, V1, W2.row, HM.out, G2⟩
      · have m5 : (xk == 5) = false := by simp [k5]
        have m6 : (xk == 6) = false := by simp [k6]
        have HM := Lib.hid (HN.out (by omega))
        clear HN HY HX k4 k5 k6
        have pa := W2.at_.cell
        have ps := W2.sz.cell
        go_wp2_with fail
        exact bodyPost_end (results_none rfl _ _ _) rfl ⟨rfl, V1, W2.row, HM.out, G2⟩

end Go.Proofs.Ytnoekbgmhnhneaa
