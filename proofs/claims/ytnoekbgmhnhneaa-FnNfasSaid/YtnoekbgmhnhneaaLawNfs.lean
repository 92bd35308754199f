/- FnNfas: the machine of a drawn expression is right, and matches just what the expression matches. No condition. -/
import Derived.Test.YtnoekbgmhnhneaaQ0
import Derived.Test.YtnoekbgmhnhneaaRexC
import Derived.Test.YtnoekbgmhnhneaaEndsL
import Derived.Test.YtnoekbgmhnhneaaNfI
import Derived.Test.YtnoekbgmhnhneaaNfaOf
import Derived.Test.YtnoekbgmhnhneaaNfaI
import Derived.Test.YtnoekbgmhnhneaaNmI
import Derived.Test.YtnoekbgmhnhneaaQ1
import Derived.Deep.RegionHeld3
import Derived.Deep.CutRange
namespace Go.Proofs.Ytnoekbgmhnhneaa
open Go.ChangeShapes Go.WideShapes Go.ChangeAt Go.RowKit

theorem three_of : ∀ {fr : Fr (Int × ByteArray)}, FrOk qThree fr → FrOk qSmall fr
  | .nil, _ => trivial
  | .cons _ _ _, h => ⟨Nat.le_trans h.1 (by decide), h.2.1, three_of h.2.2.1, three_of h.2.2.2⟩
theorem wt_three : ∀ {fr : Fr (Int × ByteArray)}, FrOk qThree fr → wt gRex fr ≤ 4 * fr.size
  | .nil, _ => Nat.le_refl _
  | .cons a k r, h => by
    have h1 := wt_three h.2.2.1
    have h2 := wt_three h.2.2.2
    have h3 : a.2.size ≤ 3 := h.1
    simp only [wt, gRex, Fr.size]
    omega

theorem rexB_of {k : Int} {s : ByteArray} {kids : Fr (Int × ByteArray)} (h : goodR 3 k s kids) : rexB k s kids = true := by
  unfold rexB
  have h3 : kids.size + 1 ≤ 40 := h.2.2.1
  have h2 : okG hereB 2 kids = true := h.2.1 1 (by omega)
  rw [h.1, h2, decide_eq_true (by omega)]
  rfl
theorem longB_inv {V : Nat → Nat → Bool} {m a b : Nat} (h : longB V m = some (a, b)) : a < m ∧ (∀ i, i < a → (rowI (V i) m).length = 0) ∧ (rowI (V a) m).length ≠ 0 ∧ b = (rowI (V a) m).getLastD 0 := by
  unfold longB at h
  obtain ⟨k, hk, e⟩ := Option.map_eq_some_iff.1 h
  injection e with e1 e2
  subst e1
  obtain ⟨h1, h2, h3⟩ := List.find?_range_eq_some.1 hk
  refine ⟨List.mem_range.1 h2, fun i hi => rowI_any.2 (by have := h3 i hi; simpa using this), fun h0 => ?_, e2.symm⟩
  rw [rowI_any.1 h0] at h1
  cases h1
theorem longB_inv0 {V : Nat → Nat → Bool} {m : Nat} (h : longB V m = none) : ∀ i, i < m → (rowI (V i) m).length = 0 := by
  unfold longB at h
  have h1 := List.find?_eq_none.1 (Option.map_eq_none_iff.1 h)
  exact fun i hi => rowI_any.2 (by have := h1 i (List.mem_range.2 hi); simpa using this)
/-- A node's text is not too long. -/
def tSm (z : (Int × ByteArray × Int × Int)) : Prop := z.2.1.size ≤ 1048576
theorem tSm_nil (a : Int) (b c : Int) : tSm (a, ⟨#[]⟩, b, c) := Nat.zero_le _
theorem lay_text : ∀ {fr : Fr (Int × ByteArray)}, FrOk qSmall fr → (∀ p z, z ∈ layF fr p → tSm z) ∧ ∀ p b z, z ∈ layA fr p b → tSm z
  | .nil, _ => ⟨fun p z h => (by cases h), fun p b z h => (by cases h)⟩
  | .cons a k r, h => by
    obtain ⟨k1, k2⟩ := lay_text h.2.2.1
    obtain ⟨r1, r2⟩ := lay_text h.2.2.2
    have hR : ∀ p z, z ∈ layR a k p → tSm z := fun p z hz => by
      unfold layR layO at hz
      split at hz
      · obtain rfl := List.mem_singleton.1 hz; exact h.1
      split at hz
      · obtain rfl := List.mem_singleton.1 hz; exact tSm_nil _ _ _
      split at hz
      · obtain rfl := List.mem_singleton.1 hz; exact h.1
      split at hz
      · obtain rfl := List.mem_singleton.1 hz; exact tSm_nil _ _ _
      split at hz
      · obtain rfl := List.mem_singleton.1 hz; exact tSm_nil _ _ _
      split at hz
      · exact k1 _ _ hz
      split at hz
      · exact k2 _ _ _ hz
      split at hz
      · rcases List.mem_cons.1 hz with rfl | hz
        · exact tSm_nil _ _ _
        · rcases List.mem_append.1 hz with hz | hz
          · exact k1 _ _ hz
          · obtain rfl := List.mem_singleton.1 hz; exact tSm_nil _ _ _
      split at hz
      · rcases List.mem_append.1 hz with hz | hz
        · exact k1 _ _ hz
        · obtain rfl := List.mem_singleton.1 hz; exact tSm_nil _ _ _
      split at hz
      · rcases List.mem_cons.1 hz with rfl | hz
        · exact tSm_nil _ _ _
        · exact k1 _ _ hz
      · cases hz
    refine ⟨fun p z hz => ?_, fun p b z hz => ?_⟩
    · rw [layF_cons] at hz
      rcases List.mem_append.1 hz with hz | hz
      · exact hR _ _ hz
      · exact r1 _ _ hz
    · by_cases h0 : r.len = 0
      · have e : r = .nil := by
          cases r with
          | nil => rfl
          | cons x l t => simp [Fr.len] at h0
        subst e
        exact hR _ _ hz
      · rw [layA_cons _ _ _ _ _ h0] at hz
        rcases List.mem_cons.1 hz with rfl | hz
        · exact tSm_nil _ _ _
        · rcases List.mem_append.1 hz with hz | hz
          · exact hR _ _ hz
          · rcases List.mem_cons.1 hz with rfl | hz
            · exact tSm_nil _ _ _
            · exact r2 _ _ _ hz
theorem nfaL_text {zk : Int} {zs : ByteArray} {kids : Fr (Int × ByteArray)} (hz : zs.size ≤ 1048576) (hk : FrOk qSmall kids) (hl : kids.len ≤ 9223372036854775807) : ∀ z, z ∈ nfaL zk zs kids → tSm z := fun z h => by
  unfold nfaL at h
  split at h
  · rcases List.mem_append.1 h with h | h
    · exact (lay_text (fr := .cons (zk, zs) kids .nil) ⟨hz, hl, hk, trivial⟩).1 0 z (by rw [layF_cons, layF_nil, List.append_nil]; exact h)
    · obtain rfl := List.mem_singleton.1 h
      exact tSm_nil _ _ _
  · cases h
theorem nfaL_mac {zk : Int} {zs : ByteArray} {kids : Fr (Int × ByteArray)} (h : goodR 3 zk zs kids) : nfaL zk zs kids = macL zk zs kids ∧ hereB zk zs kids = true ∧ lOk kids = true ∧ szR (zk, zs) kids ≤ 299 := by
  have hr := rexB_of h
  have := szR_le (zk, zs) kids
  have h3 : kids.size + 1 ≤ 40 := h.2.2.1
  exact ⟨if_pos hr, h.1, lOk_of (h.2.1 1 (by omega)), by omega⟩
theorem nfaL_small {zk : Int} {zs : ByteArray} {kids : Fr (Int × ByteArray)} (h : goodR 3 zk zs kids) : ∀ z, z ∈ nfaL zk zs kids → z.2.1.size ≤ 1048576 :=
  nfaL_text (Nat.le_trans h.2.2.2.1 (by decide)) (three_of h.2.2.2.2) (by have h1 : kids.size + 1 ≤ 40 := h.2.2.1; have := kids.len_size; omega)
theorem nfaL_right {zk : Int} {zs : ByteArray} {kids : Fr (Int × ByteArray)} (h : goodR 3 zk zs kids) : nfaB (nfaL zk zs kids) = true := by
  obtain ⟨e, h1, h2, h3⟩ := nfaL_mac h
  rw [e]
  exact macL_ok h1 h2 h3
theorem nfas_eq {zk : Int} {zs : ByteArray} {kids : Fr (Int × ByteArray)} {s : ByteArray} (h : goodR 3 zk zs kids) (hs : s.size ≤ 200) (b : Bool) (hb : NmB (nfaL zk zs kids) s b) : b = (longO zk zs kids s).isSome := by
  obtain ⟨e, h1, h2, h3⟩ := nfaL_mac h
  rw [e] at hb
  have hm := macL_run h1 h2 h3 hb
  rw [longO_yes (rexB_of h) hs]
  refine Bool.eq_iff_iff.2 (hm.trans ⟨fun ⟨a, j, ha, hj, hr⟩ => ?_, fun hx => ?_⟩)
  · cases hl : longB (endV zk zs kids s) (s.size + 1) with
    | some _ => rfl
    | none =>
      have h0 := rowI_any.1 (longB_inv0 hl a (by omega))
      rw [List.any_eq_false] at h0
      exact absurd (bof_iff.2 hr) (h0 j (List.mem_range.2 (by omega)))
  · obtain ⟨⟨a, c⟩, hl⟩ := Option.isSome_iff_exists.1 hx
    obtain ⟨i1, _, i3, _⟩ := longB_inv hl
    have : (List.range (s.size + 1)).any (endV zk zs kids s a) = true := by
      cases hy : (List.range (s.size + 1)).any (endV zk zs kids s a) with
      | true => rfl
      | false => exact absurd (rowI_any.2 hy) i3
    obtain ⟨j, hj, hr⟩ := List.any_eq_true.1 this
    exact ⟨a, j, by omega, by have := List.mem_range.1 hj; omega, bof_iff.1 hr⟩
set_option maxRecDepth 100000 in
set_option maxHeartbeats 8000000 in
theorem FnNfas_walk (A0 : Option Addr) (c0 : Nat) (bs : List Int) (w : World) (hR : Reads w w.heap.size 1 A0 bs.length (u8s bs)) (hZ : Byt bs) :
    Calls Try.prog 8 #[.slice A0 bs.length c0] w fun e w' => e = .returned (.bool true) ∧ Below w.heap.size w w' := by
  have hfd : ∀ (A : Option Addr) (n c : Nat) (w : World), (Instr.field 30 (.agg #[.slice A n c]) 0).run Try.prog w = .ok (.slice A n c) w := fun _ _ _ _ => by kernel_rfl
  by_cases hn : bs.length ≤ 1048576
  case neg =>
    have hgt : (1048576 : Int) < (bs.length : Int) := by omega
    go_enter Try.func8, Try.ntmps8
    go_wp2_with fail
    refine (big_any _ _ _ _).mono ?_; rintro e w1 ⟨rfl, rfl⟩
    go_wp2_with fail
    go_ret
    exact ⟨rfl, Below.refl _ _⟩
  have hng : ¬ (1048576 : Int) < (bs.length : Int) := by omega
  go_enter Try.func8, Try.ntmps8
  go_wp2_with fail
  refine (big_any _ _ _ _).mono ?_; rintro e w0 ⟨rfl, rfl⟩
  go_wp2_with fail
  refine (dRex A0 bs.length c0 bs w0 hR hZ hn).mono ?_; rintro e w1 ⟨⟨zk, zs, kids, A, c, s, rfl, hs, ⟨hkc, hS1⟩, hgd⟩, b1⟩
  have hrb := rexB_of hgd
  have hq3 := three_of hgd.2.2.2.2
  have hk40 : kids.size + 1 ≤ 40 := hgd.2.2.1
  have hzs : zs.size ≤ 1048576 := Nat.le_trans hgd.2.2.2.1 (by decide)
  have hwt : zs.size + wt gRex kids ≤ 1048576 := by have h1 := wt_three hgd.2.2.2.2; have h3 := hgd.2.2.2.1; omega
  have hbb : ∀ b, NmB (nfaL zk zs kids) s b → b = (longO zk zs kids s).isSome := nfas_eq hgd (by omega)
  have hok := nfaL_right hgd
  have hnt := nfaL_small hgd
  have hnl := nfaL_len zk zs kids
  have cF := fun w h => iNfaOf zk zs kids A c w (by omega) hzs hq3 hkc h
  have cN := fun w h => sNfaOf zk zs kids A c w (by omega) hzs hq3 h
  have cI := fun w h => iMatches zk zs kids A c s w (by omega) hzs hq3 hwt (by omega) h
  have cS := fun w h => sMatches zk zs kids A c s w (by omega) hzs hq3 hwt (by omega) h
  generalize (longO zk zs kids s).isSome = q at hbb cI cS
  generalize nfaL zk zs kids = ns at hbb hok hnt hnl cF cN
  have CF := Lib.hid cF
  have CN := Lib.hid cN
  have CI := Lib.hid cI
  have CS := Lib.hid cS
  have HB := Lib.hid hbb
  clear cF cN cI cS hbb hgd hrb hng
  go_upto_region 4 with fail
  have X := Blk.new w1 45 #[.int .i64 zk, .string zs, .slice A kids.len c]
  have b2 := bl_alloc (Below.refl w1.heap.size w1) (.cells #[.int .i64 zk, .string zs, .slice A kids.len c] 45)
  generalize w1.alloc (.cells #[.int .i64 zk, .string zs, .slice A kids.len c] 45) = w2 at X b2 ⊢
  have pX := X.cell
  go_wp2_with fail
  clear pX
  refine (CF.out _ ((hS1.below b2 (Nat.le_refl _)).more (Nat.zero_le _) b2.size)).mono ?_; rintro e w3 ⟨⟨An, cn, rfl, Rn⟩, b3⟩
  replace X := X.keep b3
  have L3 := bl_trans b2 b3
  go_upto_region 5 with fail
  have Y := Blk.new w3 30 #[.slice An ns.length cn]
  have b4 := bl_alloc (Below.refl w3.heap.size w3) (.cells #[.slice An ns.length cn] 30)
  generalize w3.alloc (.cells #[.slice An ns.length cn] 30) = w4 at Y b4 ⊢
  replace X := X.keep b4
  replace Rn := Rn.keep b4
  have L4 := bl_trans L3 b4
  have hS4 := Lib.hid fun (y : World) (h : Below w4.heap.size w4 y) => ((hS1.below (bl_trans L4 h) (Nat.le_refl _)).more (lo' := 0) (hi' := y.heap.size) (Nat.zero_le _) (bl_trans L4 h).size).to
  have cK := fun w h => iNfaOk An cn ns w h (fun z hz => Nat.le_trans (hnt z hz) (by decide)) (by omega)
  rw [hok] at cK
  have CK := Lib.hid cK
  have CM := Lib.hid fun w h => iNfaMatches ns s An cn w (by omega) (fun z hz => Nat.le_trans (hnt z hz) (by decide)) (by omega) h
  clear cK hok
  have LW := bl_trans b1 L4
  cases q
  · refine wp_region_held_drew (S := (fun y => Below w4.heap.size w4 y)) (by kernel_rfl) ?_ (fun hHeld => ?_)
    · exact (Below.refl _ _).drew
    refine wpAnyH_take (i := 0) (oi := ⟨some 15, _, _, _, _, _⟩) (v := ?_) rfl (by kernel_rfl) (by kernel_rfl) (by kernel_rfl) (fun _ _ _ h => h) (Or.inl ⟨by rfl, ?_⟩) (by assumption) ?_
    case refine_2 => (intro w hSw; have p := (X.keep hSw).cell; have p' := (Y.keep hSw).cell; go_simp; first | done | with_reducible rfl)
    simp only [Act.put, List.setIfInBounds_toArray, List.set_cons_zero, List.set_cons_succ]
    refine wpAnyH_ready (rs := [1]) (by kernel_rfl) (by simp) ?_
    refine AllReadyH.cons (o := ⟨some 16, _, _, _, _, _⟩) rfl (fun K hK => ?_) AllReadyH.nil
    go_simp
    refine (CK.out _ (Rn.keep hHeld).reads).mono ?_; rintro e v1 ⟨rfl, d1⟩
    go_wp2_with fail
    refine hK.out _ _ (bl_trans hHeld d1) (fun hHeld => ?_)
    clear hK K
    try simp only [Act.put, List.setIfInBounds_toArray, List.set_cons_zero, List.set_cons_succ]
    refine wpAnyH_take (i := 2) (oi := ⟨some 17, _, _, _, _, _⟩) (v := ?_) rfl (by kernel_rfl) (by kernel_rfl) (by kernel_rfl) (fun _ _ _ h => h) (Or.inl ⟨by rfl, ?_⟩) (by assumption) ?_
    case refine_2 => (intro w hSw; skip; go_simp; first | done | with_reducible rfl)
    simp only [Act.put, List.setIfInBounds_toArray, List.set_cons_zero, List.set_cons_succ]
    refine wpAnyH_take (i := 3) (oi := ⟨some 18, _, _, _, _, _⟩) (v := ?_) rfl (by kernel_rfl) (by kernel_rfl) (by kernel_rfl) (fun _ _ _ h => h) (Or.inl ⟨by rfl, ?_⟩) (by assumption) ?_
    case refine_2 => (intro w hSw; have p := (X.keep hSw).cell; have p' := (Y.keep hSw).cell; go_simp; first | done | with_reducible rfl)
    simp only [Act.put, List.setIfInBounds_toArray, List.set_cons_zero, List.set_cons_succ]
    refine wpAnyH_take (i := 4) (oi := ⟨some 19, _, _, _, _, _⟩) (v := ?_) rfl (by kernel_rfl) (by kernel_rfl) (by kernel_rfl) (fun _ _ _ h => h) (Or.inl ⟨by rfl, ?_⟩) (by assumption) ?_
    case refine_2 => (intro w hSw; skip; go_simp; first | done | with_reducible rfl)
    simp only [Act.put, List.setIfInBounds_toArray, List.set_cons_zero, List.set_cons_succ]
    refine wpAnyH_take (i := 6) (oi := ⟨some 21, _, _, _, _, _⟩) (v := ?_) rfl (by kernel_rfl) (by kernel_rfl) (by kernel_rfl) (fun _ _ _ h => h) (Or.inl ⟨by rfl, ?_⟩) (by assumption) ?_
    case refine_2 => (intro w hSw; have p := (X.keep hSw).cell; have p' := (Y.keep hSw).cell; go_simp; first | done | with_reducible rfl)
    simp only [Act.put, List.setIfInBounds_toArray, List.set_cons_zero, List.set_cons_succ]
    refine wpAnyH_take (i := 7) (oi := ⟨some 22, _, _, _, _, _⟩) (v := ?_) rfl (by kernel_rfl) (by kernel_rfl) (by kernel_rfl) (fun _ _ _ h => h) (Or.inl ⟨by rfl, ?_⟩) (by assumption) ?_
    case refine_2 => (intro w hSw; skip; go_simp; first | done | with_reducible rfl)
    simp only [Act.put, List.setIfInBounds_toArray, List.set_cons_zero, List.set_cons_succ]
    refine wpAnyH_ready (rs := [5]) (by kernel_rfl) (by simp) ?_
    refine AllReadyH.cons (o := ⟨some 20, _, _, _, _, _⟩) rfl (fun K hK => ?_) AllReadyH.nil
    go_simp
    refine (CM.out _ (Rn.keep hHeld).reads).mono ?_; rintro e v2 ⟨⟨b', rfl, hb'⟩, d2⟩; obtain rfl := HB.out _ hb'; clear hb'
    go_wp2_with fail
    refine hK.out _ _ (bl_trans hHeld d2) (fun hHeld => ?_)
    clear hK K
    try simp only [Act.put, List.setIfInBounds_toArray, List.set_cons_zero, List.set_cons_succ]
    refine wpAnyH_ready (rs := [8]) (by kernel_rfl) (by simp) ?_
    refine AllReadyH.cons (o := ⟨some 23, _, _, _, _, _⟩) rfl (fun K hK => ?_) AllReadyH.nil
    go_simp
    refine (CI.out _ (hS4.out _ hHeld)).mono ?_; rintro e v3 ⟨rfl, d3⟩
    go_wp2_with fail
    refine hK.out _ _ (bl_trans hHeld d3) (fun hHeld => ?_)
    clear hK K
    try simp only [Act.put, List.setIfInBounds_toArray, List.set_cons_zero, List.set_cons_succ]
    refine wpAnyH_take (i := 9) (oi := ⟨some 24, _, _, _, _, _⟩) (v := ?_) rfl (by kernel_rfl) (by kernel_rfl) (by kernel_rfl) (fun _ _ _ h => h) (Or.inl ⟨by rfl, ?_⟩) (by assumption) ?_
    case refine_2 => (intro w hSw; skip; go_simp; first | done | with_reducible rfl)
    simp only [Act.put, List.setIfInBounds_toArray, List.set_cons_zero, List.set_cons_succ]
    refine wpAnyH_take (i := 10) (oi := ⟨some 25, _, _, _, _, _⟩) (v := ?_) rfl (by kernel_rfl) (by kernel_rfl) (by kernel_rfl) (fun _ _ _ h => h) (Or.inl ⟨by rfl, ?_⟩) (by assumption) ?_
    case refine_2 => (intro w hSw; skip; go_simp; first | done | with_reducible rfl)
    simp only [Act.put, List.setIfInBounds_toArray, List.set_cons_zero, List.set_cons_succ]
    refine wpAnyH_take (i := 11) (oi := ⟨some 26, _, _, _, _, _⟩) (v := ?_) rfl (by kernel_rfl) (by kernel_rfl) (by kernel_rfl) (fun _ _ _ h => h) (Or.inl ⟨by rfl, ?_⟩) (by assumption) ?_
    case refine_2 => (intro w hSw; skip; go_simp; first | done | with_reducible rfl)
    simp only [Act.put, List.setIfInBounds_toArray, List.set_cons_zero, List.set_cons_succ]
    refine wpAnyH_take (i := 12) (oi := ⟨some 27, _, _, _, _, _⟩) (v := ?_) rfl (by kernel_rfl) (by kernel_rfl) (by kernel_rfl) (fun _ _ _ h => h) (Or.inl ⟨by rfl, ?_⟩) (by assumption) ?_
    case refine_2 => (intro w hSw; have p := (X.keep hSw).cell; have p' := (Y.keep hSw).cell; go_simp; first | done | with_reducible rfl)
    simp only [Act.put, List.setIfInBounds_toArray, List.set_cons_zero, List.set_cons_succ]
    refine wpAnyH_take (i := 13) (oi := ⟨some 28, _, _, _, _, _⟩) (v := ?_) rfl (by kernel_rfl) (by kernel_rfl) (by kernel_rfl) (fun _ _ _ h => h) (Or.inl ⟨by rfl, ?_⟩) (by assumption) ?_
    case refine_2 => (intro w hSw; skip; go_simp; first | done | with_reducible rfl)
    simp only [Act.put, List.setIfInBounds_toArray, List.set_cons_zero, List.set_cons_succ]
    refine wpAnyH_take (i := 15) (oi := ⟨some 30, _, _, _, _, _⟩) (v := ?_) rfl (by kernel_rfl) (by kernel_rfl) (by kernel_rfl) (fun _ _ _ h => h) (Or.inl ⟨by rfl, ?_⟩) (by assumption) ?_
    case refine_2 => (intro w hSw; have p := (X.keep hSw).cell; have p' := (Y.keep hSw).cell; go_simp; first | done | with_reducible rfl)
    simp only [Act.put, List.setIfInBounds_toArray, List.set_cons_zero, List.set_cons_succ]
    refine wpAnyH_take (i := 16) (oi := ⟨some 31, _, _, _, _, _⟩) (v := ?_) rfl (by kernel_rfl) (by kernel_rfl) (by kernel_rfl) (fun _ _ _ h => h) (Or.inl ⟨by rfl, ?_⟩) (by assumption) ?_
    case refine_2 => (intro w hSw; skip; go_simp; first | done | with_reducible rfl)
    simp only [Act.put, List.setIfInBounds_toArray, List.set_cons_zero, List.set_cons_succ]
    refine wpAnyH_ready (rs := [14]) (by kernel_rfl) (by simp) ?_
    refine AllReadyH.cons (o := ⟨some 29, _, _, _, _, _⟩) rfl (fun K hK => ?_) AllReadyH.nil
    go_simp
    refine (CI.out _ (hS4.out _ hHeld)).mono ?_; rintro e v4 ⟨rfl, d4⟩
    go_wp2_with fail
    refine hK.out _ _ (bl_trans hHeld d4) (fun hHeld => ?_)
    clear hK K
    try simp only [Act.put, List.setIfInBounds_toArray, List.set_cons_zero, List.set_cons_succ]
    refine wpAnyH_ready (rs := [17]) (by kernel_rfl) (by simp) ?_
    refine AllReadyH.cons (o := ⟨some 32, _, _, _, _, _⟩) rfl (fun K hK => ?_) AllReadyH.nil
    go_simp
    refine (CS.out _ (hS4.out _ hHeld)).mono ?_; rintro e v5 ⟨rfl, d5⟩
    go_wp2_with fail
    refine hK.out _ _ (bl_trans hHeld d5) (fun hHeld => ?_)
    clear hK K
    try simp only [Act.put, List.setIfInBounds_toArray, List.set_cons_zero, List.set_cons_succ]
    refine wpAnyH_take (i := 18) (oi := ⟨some 33, _, _, _, _, _⟩) (v := ?_) rfl (by kernel_rfl) (by kernel_rfl) (by kernel_rfl) (fun _ _ _ h => h) (Or.inl ⟨by rfl, ?_⟩) (by assumption) ?_
    case refine_2 => (intro w hSw; skip; go_simp; first | done | with_reducible rfl)
    simp only [Act.put, List.setIfInBounds_toArray, List.set_cons_zero, List.set_cons_succ]
    refine wpAnyH_take (i := 19) (oi := ⟨some 34, _, _, _, _, _⟩) (v := ?_) rfl (by kernel_rfl) (by kernel_rfl) (by kernel_rfl) (fun _ _ _ h => h) (Or.inl ⟨by rfl, ?_⟩) (by assumption) ?_
    case refine_2 => (intro w hSw; skip; go_simp; first | done | with_reducible rfl)
    simp only [Act.put, List.setIfInBounds_toArray, List.set_cons_zero, List.set_cons_succ]
    refine wpAnyH_take (i := 20) (oi := ⟨some 35, _, _, _, _, _⟩) (v := ?_) rfl (by kernel_rfl) (by kernel_rfl) (by kernel_rfl) (fun _ _ _ h => h) (Or.inl ⟨by rfl, ?_⟩) (by assumption) ?_
    case refine_2 => (intro w hSw; skip; go_simp; first | done | with_reducible rfl)
    simp only [Act.put, List.setIfInBounds_toArray, List.set_cons_zero, List.set_cons_succ]
    refine wpAnyH_take (i := 21) (oi := ⟨some 36, _, _, _, _, _⟩) (v := ?_) rfl (by kernel_rfl) (by kernel_rfl) (by kernel_rfl) (fun _ _ _ h => h) (Or.inl ⟨by rfl, ?_⟩) (by assumption) ?_
    case refine_2 => (intro w hSw; skip; go_simp; first | done | with_reducible rfl)
    simp only [Act.put, List.setIfInBounds_toArray, List.set_cons_zero, List.set_cons_succ]
    refine wpAnyH_take (i := 22) (oi := ⟨some 37, _, _, _, _, _⟩) (v := ?_) rfl (by kernel_rfl) (by kernel_rfl) (by kernel_rfl) (fun _ _ _ h => h) (Or.inl ⟨by rfl, ?_⟩) (by assumption) ?_
    case refine_2 => (intro w hSw; have p := (X.keep hSw).cell; have p' := (Y.keep hSw).cell; go_simp; first | done | with_reducible rfl)
    simp only [Act.put, List.setIfInBounds_toArray, List.set_cons_zero, List.set_cons_succ]
    refine wpAnyH_take (i := 23) (oi := ⟨some 38, _, _, _, _, _⟩) (v := ?_) rfl (by kernel_rfl) (by kernel_rfl) (by kernel_rfl) (fun _ _ _ h => h) (Or.inl ⟨by rfl, ?_⟩) (by assumption) ?_
    case refine_2 => (intro w hSw; skip; go_simp; first | done | with_reducible rfl)
    simp only [Act.put, List.setIfInBounds_toArray, List.set_cons_zero, List.set_cons_succ]
    refine wpAnyH_take (i := 24) (oi := ⟨some 39, _, _, _, _, _⟩) (v := ?_) rfl (by kernel_rfl) (by kernel_rfl) (by kernel_rfl) (fun _ _ _ h => h) (Or.inl ⟨by rfl, ?_⟩) (by assumption) ?_
    case refine_2 => (intro w hSw; have p := (X.keep hSw).cell; have p' := (Y.keep hSw).cell; go_simp; first | done | with_reducible rfl)
    simp only [Act.put, List.setIfInBounds_toArray, List.set_cons_zero, List.set_cons_succ]
    refine wpAnyH_ready (rs := [25]) (by kernel_rfl) (by simp) ?_
    refine AllReadyH.cons (o := ⟨some 40, _, _, _, _, _⟩) rfl (fun K hK => ?_) AllReadyH.nil
    go_simp
    refine (CN.out _ (hS4.out _ hHeld)).mono ?_; rintro e v6 ⟨⟨A6, c6, rfl, O6⟩, d6⟩
    go_wp2_with fail
    refine hK.out _ _ (bl_trans hHeld d6) (fun hHeld => ?_)
    clear hK K
    try simp only [Act.put, List.setIfInBounds_toArray, List.set_cons_zero, List.set_cons_succ]
    refine wpAnyH_take (i := 26) (oi := ⟨some 41, _, _, _, _, _⟩) (v := ?_) rfl (by kernel_rfl) (by kernel_rfl) (by kernel_rfl) (fun _ _ _ h => h) (Or.inl ⟨by rfl, ?_⟩) (by assumption) ?_
    case refine_2 => (intro w hSw; skip; go_simp; first | done | with_reducible rfl)
    simp only [Act.put, List.setIfInBounds_toArray, List.set_cons_zero, List.set_cons_succ]
    refine wpAnyH_take (i := 27) (oi := ⟨some 42, _, _, _, _, _⟩) (v := ?_) rfl (by kernel_rfl) (by kernel_rfl) (by kernel_rfl) (fun _ _ _ h => h) (Or.inl ⟨by rfl, ?_⟩) (by assumption) ?_
    case refine_2 => (intro w hSw; skip; go_simp; first | done | with_reducible rfl)
    simp only [Act.put, List.setIfInBounds_toArray, List.set_cons_zero, List.set_cons_succ]
    refine wpAnyH_take (i := 28) (oi := ⟨some 43, _, _, _, _, _⟩) (v := ?_) rfl (by kernel_rfl) (by kernel_rfl) (by kernel_rfl) (fun _ _ _ h => h) (Or.inl ⟨by rfl, ?_⟩) (by assumption) ?_
    case refine_2 => (intro w hSw; skip; go_simp; first | done | with_reducible rfl)
    simp only [Act.put, List.setIfInBounds_toArray, List.set_cons_zero, List.set_cons_succ]
    refine wpAnyH_take (i := 29) (oi := ⟨some 44, _, _, _, _, _⟩) (v := ?_) rfl (by kernel_rfl) (by kernel_rfl) (by kernel_rfl) (fun _ _ _ h => h) (Or.inl ⟨by rfl, ?_⟩) (by assumption) ?_
    case refine_2 => (intro w hSw; skip; go_simp; first | done | with_reducible rfl)
    simp only [Act.put, List.setIfInBounds_toArray, List.set_cons_zero, List.set_cons_succ]
    refine wpAnyH_take (i := 30) (oi := ⟨some 2, _, _, _, _, _⟩) (v := ?_) rfl (by kernel_rfl) (by kernel_rfl) (by kernel_rfl) (fun _ _ _ h => h) (Or.inl ⟨by rfl, ?_⟩) (by assumption) ?_
    case refine_2 => (intro w hSw; skip; go_simp; first | done | with_reducible rfl)
    simp only [Act.put, List.setIfInBounds_toArray, List.set_cons_zero, List.set_cons_succ]
    refine wpAnyH_done (by kernel_rfl) ?_ _
    go_wp2_with fail
    go_ret
    exact ⟨rfl, bl_trans LW hHeld⟩
  · refine wp_region_held_drew (S := (fun y => Below w4.heap.size w4 y)) (by kernel_rfl) ?_ (fun hHeld => ?_)
    · exact (Below.refl _ _).drew
    refine wpAnyH_take (i := 0) (oi := ⟨some 15, _, _, _, _, _⟩) (v := ?_) rfl (by kernel_rfl) (by kernel_rfl) (by kernel_rfl) (fun _ _ _ h => h) (Or.inl ⟨by rfl, ?_⟩) (by assumption) ?_
    case refine_2 => (intro w hSw; have p := (X.keep hSw).cell; have p' := (Y.keep hSw).cell; go_simp; first | done | with_reducible rfl)
    simp only [Act.put, List.setIfInBounds_toArray, List.set_cons_zero, List.set_cons_succ]
    refine wpAnyH_ready (rs := [1]) (by kernel_rfl) (by simp) ?_
    refine AllReadyH.cons (o := ⟨some 16, _, _, _, _, _⟩) rfl (fun K hK => ?_) AllReadyH.nil
    go_simp
    refine (CK.out _ (Rn.keep hHeld).reads).mono ?_; rintro e v1 ⟨rfl, d1⟩
    go_wp2_with fail
    refine hK.out _ _ (bl_trans hHeld d1) (fun hHeld => ?_)
    clear hK K
    try simp only [Act.put, List.setIfInBounds_toArray, List.set_cons_zero, List.set_cons_succ]
    refine wpAnyH_take (i := 2) (oi := ⟨some 17, _, _, _, _, _⟩) (v := ?_) rfl (by kernel_rfl) (by kernel_rfl) (by kernel_rfl) (fun _ _ _ h => h) (Or.inl ⟨by rfl, ?_⟩) (by assumption) ?_
    case refine_2 => (intro w hSw; skip; go_simp; first | done | with_reducible rfl)
    simp only [Act.put, List.setIfInBounds_toArray, List.set_cons_zero, List.set_cons_succ]
    refine wpAnyH_take (i := 3) (oi := ⟨some 18, _, _, _, _, _⟩) (v := ?_) rfl (by kernel_rfl) (by kernel_rfl) (by kernel_rfl) (fun _ _ _ h => h) (Or.inl ⟨by rfl, ?_⟩) (by assumption) ?_
    case refine_2 => (intro w hSw; have p := (X.keep hSw).cell; have p' := (Y.keep hSw).cell; go_simp; first | done | with_reducible rfl)
    simp only [Act.put, List.setIfInBounds_toArray, List.set_cons_zero, List.set_cons_succ]
    refine wpAnyH_take (i := 4) (oi := ⟨some 19, _, _, _, _, _⟩) (v := ?_) rfl (by kernel_rfl) (by kernel_rfl) (by kernel_rfl) (fun _ _ _ h => h) (Or.inl ⟨by rfl, ?_⟩) (by assumption) ?_
    case refine_2 => (intro w hSw; skip; go_simp; first | done | with_reducible rfl)
    simp only [Act.put, List.setIfInBounds_toArray, List.set_cons_zero, List.set_cons_succ]
    refine wpAnyH_take (i := 6) (oi := ⟨some 21, _, _, _, _, _⟩) (v := ?_) rfl (by kernel_rfl) (by kernel_rfl) (by kernel_rfl) (fun _ _ _ h => h) (Or.inl ⟨by rfl, ?_⟩) (by assumption) ?_
    case refine_2 => (intro w hSw; have p := (X.keep hSw).cell; have p' := (Y.keep hSw).cell; go_simp; first | done | with_reducible rfl)
    simp only [Act.put, List.setIfInBounds_toArray, List.set_cons_zero, List.set_cons_succ]
    refine wpAnyH_take (i := 7) (oi := ⟨some 22, _, _, _, _, _⟩) (v := ?_) rfl (by kernel_rfl) (by kernel_rfl) (by kernel_rfl) (fun _ _ _ h => h) (Or.inl ⟨by rfl, ?_⟩) (by assumption) ?_
    case refine_2 => (intro w hSw; skip; go_simp; first | done | with_reducible rfl)
    simp only [Act.put, List.setIfInBounds_toArray, List.set_cons_zero, List.set_cons_succ]
    refine wpAnyH_ready (rs := [5]) (by kernel_rfl) (by simp) ?_
    refine AllReadyH.cons (o := ⟨some 20, _, _, _, _, _⟩) rfl (fun K hK => ?_) AllReadyH.nil
    go_simp
    refine (CM.out _ (Rn.keep hHeld).reads).mono ?_; rintro e v2 ⟨⟨b', rfl, hb'⟩, d2⟩; obtain rfl := HB.out _ hb'; clear hb'
    go_wp2_with fail
    refine hK.out _ _ (bl_trans hHeld d2) (fun hHeld => ?_)
    clear hK K
    try simp only [Act.put, List.setIfInBounds_toArray, List.set_cons_zero, List.set_cons_succ]
    refine wpAnyH_ready (rs := [8]) (by kernel_rfl) (by simp) ?_
    refine AllReadyH.cons (o := ⟨some 23, _, _, _, _, _⟩) rfl (fun K hK => ?_) AllReadyH.nil
    go_simp
    refine (CI.out _ (hS4.out _ hHeld)).mono ?_; rintro e v3 ⟨rfl, d3⟩
    go_wp2_with fail
    refine hK.out _ _ (bl_trans hHeld d3) (fun hHeld => ?_)
    clear hK K
    try simp only [Act.put, List.setIfInBounds_toArray, List.set_cons_zero, List.set_cons_succ]
    refine wpAnyH_take (i := 9) (oi := ⟨some 24, _, _, _, _, _⟩) (v := ?_) rfl (by kernel_rfl) (by kernel_rfl) (by kernel_rfl) (fun _ _ _ h => h) (Or.inl ⟨by rfl, ?_⟩) (by assumption) ?_
    case refine_2 => (intro w hSw; skip; go_simp; first | done | with_reducible rfl)
    simp only [Act.put, List.setIfInBounds_toArray, List.set_cons_zero, List.set_cons_succ]
    refine wpAnyH_take (i := 10) (oi := ⟨some 25, _, _, _, _, _⟩) (v := ?_) rfl (by kernel_rfl) (by kernel_rfl) (by kernel_rfl) (fun _ _ _ h => h) (Or.inl ⟨by rfl, ?_⟩) (by assumption) ?_
    case refine_2 => (intro w hSw; skip; go_simp; first | done | with_reducible rfl)
    simp only [Act.put, List.setIfInBounds_toArray, List.set_cons_zero, List.set_cons_succ]
    refine wpAnyH_take (i := 11) (oi := ⟨some 26, _, _, _, _, _⟩) (v := ?_) rfl (by kernel_rfl) (by kernel_rfl) (by kernel_rfl) (fun _ _ _ h => h) (Or.inl ⟨by rfl, ?_⟩) (by assumption) ?_
    case refine_2 => (intro w hSw; skip; go_simp; first | done | with_reducible rfl)
    simp only [Act.put, List.setIfInBounds_toArray, List.set_cons_zero, List.set_cons_succ]
    refine wpAnyH_take (i := 12) (oi := ⟨some 27, _, _, _, _, _⟩) (v := ?_) rfl (by kernel_rfl) (by kernel_rfl) (by kernel_rfl) (fun _ _ _ h => h) (Or.inl ⟨by rfl, ?_⟩) (by assumption) ?_
    case refine_2 => (intro w hSw; have p := (X.keep hSw).cell; have p' := (Y.keep hSw).cell; go_simp; first | done | with_reducible rfl)
    simp only [Act.put, List.setIfInBounds_toArray, List.set_cons_zero, List.set_cons_succ]
    refine wpAnyH_take (i := 13) (oi := ⟨some 28, _, _, _, _, _⟩) (v := ?_) rfl (by kernel_rfl) (by kernel_rfl) (by kernel_rfl) (fun _ _ _ h => h) (Or.inl ⟨by rfl, ?_⟩) (by assumption) ?_
    case refine_2 => (intro w hSw; skip; go_simp; first | done | with_reducible rfl)
    simp only [Act.put, List.setIfInBounds_toArray, List.set_cons_zero, List.set_cons_succ]
    refine wpAnyH_take (i := 15) (oi := ⟨some 30, _, _, _, _, _⟩) (v := ?_) rfl (by kernel_rfl) (by kernel_rfl) (by kernel_rfl) (fun _ _ _ h => h) (Or.inl ⟨by rfl, ?_⟩) (by assumption) ?_
    case refine_2 => (intro w hSw; have p := (X.keep hSw).cell; have p' := (Y.keep hSw).cell; go_simp; first | done | with_reducible rfl)
    simp only [Act.put, List.setIfInBounds_toArray, List.set_cons_zero, List.set_cons_succ]
    refine wpAnyH_take (i := 16) (oi := ⟨some 31, _, _, _, _, _⟩) (v := ?_) rfl (by kernel_rfl) (by kernel_rfl) (by kernel_rfl) (fun _ _ _ h => h) (Or.inl ⟨by rfl, ?_⟩) (by assumption) ?_
    case refine_2 => (intro w hSw; skip; go_simp; first | done | with_reducible rfl)
    simp only [Act.put, List.setIfInBounds_toArray, List.set_cons_zero, List.set_cons_succ]
    refine wpAnyH_ready (rs := [14]) (by kernel_rfl) (by simp) ?_
    refine AllReadyH.cons (o := ⟨some 29, _, _, _, _, _⟩) rfl (fun K hK => ?_) AllReadyH.nil
    go_simp
    refine (CI.out _ (hS4.out _ hHeld)).mono ?_; rintro e v4 ⟨rfl, d4⟩
    go_wp2_with fail
    refine hK.out _ _ (bl_trans hHeld d4) (fun hHeld => ?_)
    clear hK K
    try simp only [Act.put, List.setIfInBounds_toArray, List.set_cons_zero, List.set_cons_succ]
    refine wpAnyH_ready (rs := [17]) (by kernel_rfl) (by simp) ?_
    refine AllReadyH.cons (o := ⟨some 32, _, _, _, _, _⟩) rfl (fun K hK => ?_) AllReadyH.nil
    go_simp
    refine (CS.out _ (hS4.out _ hHeld)).mono ?_; rintro e v5 ⟨rfl, d5⟩
    go_wp2_with fail
    refine hK.out _ _ (bl_trans hHeld d5) (fun hHeld => ?_)
    clear hK K
    try simp only [Act.put, List.setIfInBounds_toArray, List.set_cons_zero, List.set_cons_succ]
    refine wpAnyH_take (i := 18) (oi := ⟨some 33, _, _, _, _, _⟩) (v := ?_) rfl (by kernel_rfl) (by kernel_rfl) (by kernel_rfl) (fun _ _ _ h => h) (Or.inl ⟨by rfl, ?_⟩) (by assumption) ?_
    case refine_2 => (intro w hSw; skip; go_simp; first | done | with_reducible rfl)
    simp only [Act.put, List.setIfInBounds_toArray, List.set_cons_zero, List.set_cons_succ]
    refine wpAnyH_take (i := 19) (oi := ⟨some 34, _, _, _, _, _⟩) (v := ?_) rfl (by kernel_rfl) (by kernel_rfl) (by kernel_rfl) (fun _ _ _ h => h) (Or.inl ⟨by rfl, ?_⟩) (by assumption) ?_
    case refine_2 => (intro w hSw; skip; go_simp; first | done | with_reducible rfl)
    simp only [Act.put, List.setIfInBounds_toArray, List.set_cons_zero, List.set_cons_succ]
    refine wpAnyH_take (i := 20) (oi := ⟨some 35, _, _, _, _, _⟩) (v := ?_) rfl (by kernel_rfl) (by kernel_rfl) (by kernel_rfl) (fun _ _ _ h => h) (Or.inl ⟨by rfl, ?_⟩) (by assumption) ?_
    case refine_2 => (intro w hSw; skip; go_simp; first | done | with_reducible rfl)
    simp only [Act.put, List.setIfInBounds_toArray, List.set_cons_zero, List.set_cons_succ]
    refine wpAnyH_take (i := 21) (oi := ⟨some 36, _, _, _, _, _⟩) (v := ?_) rfl (by kernel_rfl) (by kernel_rfl) (by kernel_rfl) (fun _ _ _ h => h) (Or.inl ⟨by rfl, ?_⟩) (by assumption) ?_
    case refine_2 => (intro w hSw; skip; go_simp; first | done | with_reducible rfl)
    simp only [Act.put, List.setIfInBounds_toArray, List.set_cons_zero, List.set_cons_succ]
    refine wpAnyH_take (i := 22) (oi := ⟨some 37, _, _, _, _, _⟩) (v := ?_) rfl (by kernel_rfl) (by kernel_rfl) (by kernel_rfl) (fun _ _ _ h => h) (Or.inl ⟨by rfl, ?_⟩) (by assumption) ?_
    case refine_2 => (intro w hSw; have p := (X.keep hSw).cell; have p' := (Y.keep hSw).cell; go_simp; first | done | with_reducible rfl)
    simp only [Act.put, List.setIfInBounds_toArray, List.set_cons_zero, List.set_cons_succ]
    refine wpAnyH_take (i := 23) (oi := ⟨some 38, _, _, _, _, _⟩) (v := ?_) rfl (by kernel_rfl) (by kernel_rfl) (by kernel_rfl) (fun _ _ _ h => h) (Or.inl ⟨by rfl, ?_⟩) (by assumption) ?_
    case refine_2 => (intro w hSw; skip; go_simp; first | done | with_reducible rfl)
    simp only [Act.put, List.setIfInBounds_toArray, List.set_cons_zero, List.set_cons_succ]
    refine wpAnyH_take (i := 24) (oi := ⟨some 39, _, _, _, _, _⟩) (v := ?_) rfl (by kernel_rfl) (by kernel_rfl) (by kernel_rfl) (fun _ _ _ h => h) (Or.inl ⟨by rfl, ?_⟩) (by assumption) ?_
    case refine_2 => (intro w hSw; have p := (X.keep hSw).cell; have p' := (Y.keep hSw).cell; go_simp; first | done | with_reducible rfl)
    simp only [Act.put, List.setIfInBounds_toArray, List.set_cons_zero, List.set_cons_succ]
    refine wpAnyH_ready (rs := [25]) (by kernel_rfl) (by simp) ?_
    refine AllReadyH.cons (o := ⟨some 40, _, _, _, _, _⟩) rfl (fun K hK => ?_) AllReadyH.nil
    go_simp
    refine (CN.out _ (hS4.out _ hHeld)).mono ?_; rintro e v6 ⟨⟨A6, c6, rfl, O6⟩, d6⟩
    go_wp2_with fail
    refine hK.out _ _ (bl_trans hHeld d6) (fun hHeld => ?_)
    clear hK K
    try simp only [Act.put, List.setIfInBounds_toArray, List.set_cons_zero, List.set_cons_succ]
    refine wpAnyH_take (i := 26) (oi := ⟨some 41, _, _, _, _, _⟩) (v := ?_) rfl (by kernel_rfl) (by kernel_rfl) (by kernel_rfl) (fun _ _ _ h => h) (Or.inl ⟨by rfl, ?_⟩) (by assumption) ?_
    case refine_2 => (intro w hSw; skip; go_simp; first | done | with_reducible rfl)
    simp only [Act.put, List.setIfInBounds_toArray, List.set_cons_zero, List.set_cons_succ]
    refine wpAnyH_take (i := 27) (oi := ⟨some 42, _, _, _, _, _⟩) (v := ?_) rfl (by kernel_rfl) (by kernel_rfl) (by kernel_rfl) (fun _ _ _ h => h) (Or.inl ⟨by rfl, ?_⟩) (by assumption) ?_
    case refine_2 => (intro w hSw; skip; go_simp; first | done | with_reducible rfl)
    simp only [Act.put, List.setIfInBounds_toArray, List.set_cons_zero, List.set_cons_succ]
    refine wpAnyH_take (i := 28) (oi := ⟨some 43, _, _, _, _, _⟩) (v := ?_) rfl (by kernel_rfl) (by kernel_rfl) (by kernel_rfl) (fun _ _ _ h => h) (Or.inl ⟨by rfl, ?_⟩) (by assumption) ?_
    case refine_2 => (intro w hSw; skip; go_simp; first | done | with_reducible rfl)
    simp only [Act.put, List.setIfInBounds_toArray, List.set_cons_zero, List.set_cons_succ]
    refine wpAnyH_take (i := 29) (oi := ⟨some 44, _, _, _, _, _⟩) (v := ?_) rfl (by kernel_rfl) (by kernel_rfl) (by kernel_rfl) (fun _ _ _ h => h) (Or.inl ⟨by rfl, ?_⟩) (by assumption) ?_
    case refine_2 => (intro w hSw; skip; go_simp; first | done | with_reducible rfl)
    simp only [Act.put, List.setIfInBounds_toArray, List.set_cons_zero, List.set_cons_succ]
    refine wpAnyH_take (i := 30) (oi := ⟨some 2, _, _, _, _, _⟩) (v := ?_) rfl (by kernel_rfl) (by kernel_rfl) (by kernel_rfl) (fun _ _ _ h => h) (Or.inl ⟨by rfl, ?_⟩) (by assumption) ?_
    case refine_2 => (intro w hSw; skip; go_simp; first | done | with_reducible rfl)
    simp only [Act.put, List.setIfInBounds_toArray, List.set_cons_zero, List.set_cons_succ]
    refine wpAnyH_done (by kernel_rfl) ?_ _
    go_wp2_with fail
    go_ret
    exact ⟨rfl, bl_trans LW hHeld⟩

set_option maxRecDepth 100000 in
theorem FnNfas_args {H : Type} {enc : TypeId × Value → H} (W : World) (base : Nat) (args : Array Value) (ds : List (DataW H)) (p : List MemPlace)
    (hval : ∀ (j : Nat) t v, Try.f8.params[j]? = some t → args[j]? = some v → Value.okWide Try.checked.prog W .any base t v)
    (hA : DataW.TrodAll enc Try.checked.prog W 0 (fun _ => true) true Try.f8.params.toList args.toList ds p) :
    Calls Try.checked.prog 8 args W fun e W' => e = .returned (.bool true) ∧ Below W.heap.size W W' := by
  rw [Try.params8] at hA hval
  obtain ⟨v0, d0, rfl, rfl, h0⟩ := trodAll_one hA
  obtain ⟨A0, c0, bs, rfl, R, Wf, hlz⟩ := open_nums Try.underlying54 Try.underlying5 (by kernel_rfl) (hval 0 54 v0 rfl rfl) h0
  exact FnNfas_walk A0 c0 bs W R (byt_of_wf Wf)

set_option maxRecDepth 100000 in
theorem FnNfas_holds : Rows.FnNfasSaid :=
  OpenClaim.holds_of_wide 8 Try.f8 rfl rfl rfl rfl rfl rfl rfl ⟨rfl, rfl, rfl, rfl, rfl⟩ rfl rfl rfl rfl rfl (by kernel_rfl) Try.func8 (by kernel_rfl)
    (of_decide_eq_true (by kernel_rfl)) (by unfold Func.isWrapper; rw [if_neg (of_decide_eq_false (by kernel_rfl))]; exact ⟨rfl, rfl⟩)
    (fun os started H enc _ => law_lift 8 Try.f8 Rows.fnNfasSpec 4 own laidOut started (by kernel_rfl) Try.func8 (by kernel_rfl) rfl (by kernel_rfl) Try.underlying4
      (fun ds h => by
        have hl : ds.length = 1 := h.trans (by kernel_rfl)
        obtain ⟨d, rfl⟩ := len1 hl
        rfl)
      (ChangeSpec.witness6 (enc := enc) (C := Try.checked) false ⟨#[], #[.slice none 0 0], []⟩ 8 (by kernel_rfl) (by kernel_rfl) (by kernel_rfl) (by kernel_rfl))
      FnNfas_args)
#print axioms FnNfas_holds

end Go.Proofs.Ytnoekbgmhnhneaa
