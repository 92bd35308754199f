import Derived.Test.YtemlnpncljomgaaGreatDoorRexTs
import Derived.Test.YtemlnpncljomgaaGreatDoorShelfB
import Derived.Test.YtemlnpncljomgaaGreatDoorShelfJ
import Derived.Lib.Bytealg
namespace Go.Proofs.YtemlnpncljomgaaGreatDoor
open Go.RowKit

def KIn (w : World) (KA : Option Addr) (n : Nat) (ks : List Int) : Prop := ks.length = n ∧ n ≤ 100 ∧ (0 < n → ∃ b, KA = some ⟨b, 0, none⟩ ∧ b < w.heap.size ∧ ∀ j, j < ks.length → w.cell? ⟨b, 0 + j, none⟩ = some (.int .i64 (ks.getD j 0)))
theorem KIn.none_ (w : World) : KIn w none 0 [] := ⟨rfl, by omega, fun h => by omega⟩
theorem KIn.keep {w w' : World} {KA : Option Addr} {n : Nat} {ks : List Int} (h : KIn w KA n ks) {B : Nat} (hb : Below B w w') (hB : w.heap.size ≤ B) (hs : w.heap.size ≤ w'.heap.size) : KIn w' KA n ks := ⟨h.1, h.2.1, fun hn => by
  obtain ⟨b, e, hlt, hc⟩ := h.2.2 hn
  exact ⟨b, e, by omega, fun j hj => (hb.cell (by show b < B; omega)).trans (hc j hj)⟩⟩
theorem KIn.blk {w : World} {b : Nat} {t : TypeId} {ks : List Int} (h : Blk w b t (ks.map (Value.int .i64)).toArray) (hn : ks.length ≤ 100) : KIn w (some ⟨b, 0, none⟩) ks.length ks := ⟨rfl, hn, fun _ => ⟨b, rfl, h.lt, fun j hj => by
  rw [Nat.zero_add, h.cell j]
  simp [List.getD, List.getElem?_eq_getElem hj]⟩⟩
theorem iHas (KA : Option Addr) (n kc : Nat) (ks : List Int) (x : Int) (w : World) (h : KIn w KA n ks) : Calls Tryz.prog 119 #[.slice KA n kc, .int .i64 x] w fun e w' => e = .returned (.bool (ks.contains x)) ∧ w' = w := by
  obtain ⟨hl, hn, hk⟩ := h
  rcases Nat.eq_zero_or_pos n with rfl | h0
  · have hks : ks = [] := List.eq_nil_of_length_eq_zero hl
    subst hks
    exact Tryz.slices_Contains_int_empty KA kc x w
  · obtain ⟨b, rfl, _, hc⟩ := hk h0
    have := Tryz.slices_Contains_int b 0 n kc ks x w (by omega) (by omega) hc
    rw [List.take_of_length_le (by omega)] at this
    exact this
theorem wrap_no {ks : List Int} {k : Int} (h : ks.contains k = false) (t : ByteArray) : wrapT ks k t = t := by unfold wrapT; rw [h]; rfl
theorem wrap_yes {ks : List Int} {k : Int} (h : ks.contains k = true) (t : ByteArray) : wrapT ks k t = ⟨#[40]⟩ ++ t ++ ⟨#[41]⟩ := by unfold wrapT; rw [h]; rfl
theorem hasK_at {k0 : Int} {x : Fr (Int × ByteArray)} {i : Nat} {a : (Int × ByteArray)} {k : Fr (Int × ByteArray)} (h : hasK k0 x = false) (hd : x.drop i = .cons a k (x.drop (i + 1))) : (a.1 == k0) = false := by
  have hdr : ∀ (y : Fr (Int × ByteArray)) (i : Nat), hasK k0 y = false → hasK k0 (y.drop i) = false := by
    intro y
    induction y with
    | nil => intro i _; cases i <;> rfl
    | cons a k r _ ih2 =>
      intro i h
      cases i with
      | zero => rw [Fr.drop_zero]; exact h
      | succ i =>
        rw [hasK, Bool.or_eq_false_iff] at h
        exact ih2 i h.2
  have h1 := hdr x i h
  rw [hd, hasK, Bool.or_eq_false_iff] at h1
  exact h1.1
theorem alt_none {s : ByteArray} {kids : Fr (Int × ByteArray)} (h : hereB 5 s kids = true) : hasK 5 kids = false := by
  rw [here_many (k := 5) (by simp)] at h
  simp at h
  exact h.2.2
theorem sVs_snocR (zs : List ByteArray) (z : ByteArray) : sVs (zs ++ [z]) = sVs zs ++ [.string z] := by simp [sVs]

set_option maxRecDepth 20000 in
set_option maxHeartbeats 8000000 in
theorem iText_false (K : Nat) (zk : Int) (zs : ByteArray) (kids : Fr (Int × ByteArray)) (A : Option Addr) (c : Nat) (KA : Option Addr) (n kc : Nat) (ks : List Int) (w : World) (hb : ks.contains zk = false) (hK : kids.size ≤ K) (hl : kids.size ≤ 1048576) (hH : hereB zk zs kids = true) (hA : okA kids = true) (hw : zs.size + wt gRex kids ≤ 1048576) (hS : Sl rexC w 0 w.heap.size A kids) (hk : KIn w KA n ks)
    (ih : ∀ (kids : Fr (Int × ByteArray)), kids.size < K → ∀ (zk : Int) (zs : ByteArray) (A : Option Addr) (c : Nat) (KA : Option Addr) (n kc : Nat) (ks : List Int) (w : World), hereB zk zs kids = true → okA kids = true → zs.size + wt gRex kids ≤ 1048576 → Sl rexC w 0 w.heap.size A kids → KIn w KA n ks → Calls Tryz.prog 102 #[.agg #[.int .i64 zk, .string zs, .slice A kids.len c], .slice KA n kc] w fun e w' => e = .returned (.string (wrapT ks zk (textOf zk zs (rowT kids)))) ∧ Below w.heap.size w w') :
    Calls Tryz.prog 102 #[.agg #[.int .i64 zk, .string zs, .slice A kids.len c], .slice KA n kc] w fun e w' => e = .returned (.string (wrapT ks zk (textOf zk zs (rowT kids)))) ∧ Below w.heap.size w w' := by
  rw [wrap_no hb]
  have B := Blk.new w 82 #[.int .i64 zk, .string zs, .slice A kids.len c]
  have L0 := bl_alloc (Below.refl w.heap.size w) (.cells #[.int .i64 zk, .string zs, .slice A kids.len c] 82)
  have IHH := Lib.hid ih
  have hC := fun w h => iHas KA n kc ks zk w h
  rw [hb] at hC
  have HC := Lib.hid hC
  clear ih hC hb
  have z1 : ((⟨#[91]⟩ : ByteArray) ++ zs).size = 1 + zs.size := by rw [ByteArray.size_append]; rfl
  have z2 : ((⟨#[91]⟩ : ByteArray) ++ zs ++ ⟨#[93]⟩).size = 2 + zs.size := by rw [ByteArray.size_append, z1]; show 1 + zs.size + 1 = _; omega
  have z3 : ((⟨#[40]⟩ : ByteArray) ++ zs).size = 1 + zs.size := by rw [ByteArray.size_append]; rfl
  have z4 : ((⟨#[40]⟩ : ByteArray) ++ (⟨#[91]⟩ ++ zs ++ ⟨#[93]⟩)).size = 3 + zs.size := by rw [ByteArray.size_append, z2]; show 1 + (2 + zs.size) = _; omega
  by_cases n1 : zk = 1
  · subst n1
    have HV := Lib.hid (show textOf 1 zs (rowT kids) = zs from rfl)
    rw [HV.out]
    skip
    go_enter Tryz.func102, Tryz.ntmps102
    go_wp2_with fail
    refine (HC.out _ (hk.keep L0 (Nat.le_refl _) L0.size)).mono ?_; rintro e u9 ⟨rfl, rfl⟩
    go_wp2_with fail
    go_ret
    exact ⟨rfl, L0⟩
  have m1 : (zk == 1) = false := by simp [n1]
  by_cases n2 : zk = 2
  · subst n2
    have HV := Lib.hid (show textOf 2 zs (rowT kids) = ⟨#[46]⟩ from rfl)
    rw [HV.out]
    skip
    go_enter Tryz.func102, Tryz.ntmps102
    go_wp2_with fail
    refine (HC.out _ (hk.keep L0 (Nat.le_refl _) L0.size)).mono ?_; rintro e u9 ⟨rfl, rfl⟩
    go_wp2_with fail
    go_ret
    exact ⟨rfl, L0⟩
  have m2 : (zk == 2) = false := by simp [n2]
  by_cases n3 : zk = 3
  · subst n3
    have HV := Lib.hid (show textOf 3 zs (rowT kids) = ⟨#[91]⟩ ++ zs ++ ⟨#[93]⟩ from rfl)
    rw [HV.out]
    skip
    go_enter Tryz.func102, Tryz.ntmps102
    go_wp2_with fail
    refine (HC.out _ (hk.keep L0 (Nat.le_refl _) L0.size)).mono ?_; rintro e u9 ⟨rfl, rfl⟩
    go_wp2_with fail
    go_ret
    exact ⟨rfl, L0⟩
  have m3 : (zk == 3) = false := by simp [n3]
  by_cases n4 : zk = 4
  · subst n4
    rw [text_cat]
    have hkl : (kids.len : Int) ≤ 1048576 := by have := kids.len_size; omega
    have HSZ := Lib.hid (fun k (hk : k ≤ kids.len) => Nat.le_trans (jnS_size [] (by simp) (rowT kids) k (by rw [rowT_len]; exact hk)) (Nat.le_trans (lenS_take _ _) (lenS_wt kids)))
    go_enter Tryz.func102, Tryz.ntmps102
    go_wp2_with fail
    go_loopw [5, 30] (fun sv i wr => ∃ (k : Nat) (a : ByteArray), k ≤ kids.len ∧ i = .int .i64 k ∧ sv = .string a ∧ jnS [] (rowW kids) k = a ∧ Blk wr w.heap.size 82 #[.int .i64 4, .string zs, .slice A kids.len c] ∧ Below w.heap.size w wr) (fun _ i _ => kids.len - (intOf i).toNat)
    case atStart => exact ⟨0, _, Nat.zero_le _, rfl, rfl, jnS_zero _ _, B, L0⟩
    case round =>
      obtain ⟨k, a, hkk, rfl, rfl, ha, hB, hL⟩ := hrel
      have has : a.size ≤ 5242880 := by
        have := HSZ.out k hkk
        rw [show jnS [] ((rowT kids).map fun x => wrapT [5] x.1 x.2) k = jnS [] (rowW kids) k from rfl, ha] at this
        omega
      by_cases hlt : k < kids.len
      · obtain ⟨b, o, l, k1, A1, c1, hAe, hb, hd, hks, hSk, q0, q1, q2⟩ := at_Rex (hS.below hL (Nat.le_refl _)) hlt
        subst hAe
        have cb := hB.cell
        obtain ⟨h1, h2⟩ := okA_at hA hd
        have hwa := wt_at hd
        have hat := rowW_at hlt hd
        obtain ⟨yk, ys⟩ := l
        simp only at q0 q1 h1 hwa hat
        have hlt' : (k : Int) < (kids.len : Int) := by omega
        have hj := jnS_cat (rowW kids) k (by rw [rowW_len]; exact hlt)
        rw [ha, hat] at hj
        have HJ := Lib.hid hj
        have L1 := bl_alloc hL (.cells #[.int .i64 yk, .string ys, .slice A1 k1.len c1] 82)
        have Q := Blk.new2 wr (.cells #[.int .i64 yk, .string ys, .slice A1 k1.len c1] 82) 3 #[.int .i64 5]
        have L2 := bl_alloc L1 (.cells #[.int .i64 5] 3)
        have hts : (wrapT [5] yk (textOf yk ys (rowT k1))).size ≤ 6291456 := by
          have r1 := textOf_size yk ys (rowT k1)
          have r2 := lenS_wt k1
          have r3 := wrapT_size [5] yk (textOf yk ys (rowT k1))
          omega
        have C := IHH.out k1 (by omega) yk ys A1 c1 _ 1 1 [5] _ h1 h2 (by omega) ((hSk.below (B := wr.heap.size) (bl_alloc (bl_alloc (Below.refl wr.heap.size wr) _) _) hL.size).more (Nat.le_refl _) L2.size) (KIn.blk (ks := [5]) Q (by decide))
        generalize wrapT [5] yk (textOf yk ys (rowT k1)) = t at C hts HJ
        have CC := Lib.hid C
        clear C ha hat hj hd h1 h2
        go_wp2_with fail
        refine CC.out.mono ?_; rintro e w1 ⟨rfl, b1⟩
        have hB1 := ((hB.alloc _).alloc _).keep b1
        go_wp2_with fail
        go_roundw
        case rel => exact ⟨k + 1, _, by omega, by go_num, rfl, HJ.out.symm, hB1, bl_trans L2 b1⟩
        case measure => simp [intOf]; omega
      · obtain rfl : k = kids.len := by omega
        have HA2 := Lib.hid ha
        have cb := hB.cell
        clear ha
        have y1 : ((⟨#[40]⟩ : ByteArray) ++ a).size = 1 + a.size := by rw [ByteArray.size_append]; rfl
        go_wp2_with fail
        refine (HC.out _ (hk.keep hL (Nat.le_refl _) hL.size)).mono ?_; rintro e u9 ⟨rfl, rfl⟩
        go_wp2_with fail
        go_ret
        exact ⟨ret_str (by rw [← HA2.out]), hL⟩
  have m4 : (zk == 4) = false := by simp [n4]
  by_cases n5 : zk = 5
  · subst n5
    rw [text_alt]
    have hno := Lib.hid (alt_none hH)
    obtain ⟨i0, hi, hz0, hz1, hz2⟩ := info_parts info_str
    have HL := Lib.hid (rowW_len kids)
    have hjs : (jnS [124] (rowW kids) kids.len).size ≤ 5242880 := by
      have := Nat.le_trans (jnS_size [124] (by simp) (rowT kids) kids.len (by rw [rowT_len]; exact Nat.le_refl _)) (Nat.le_trans (lenS_take _ _) (lenS_wt kids))
      rw [show jnS [124] ((rowT kids).map fun x => wrapT [5] x.1 x.2) kids.len = jnS [124] (rowW kids) kids.len from rfl] at this
      omega
    have CJ : ∀ (A : Option Addr) (c : Nat) (w : World), Row w 0 w.heap.size 9 1 (.slice A kids.len c) kids.len (sVs (rowW kids)) → Calls Tryz.prog 47 #[.slice A kids.len c, .string ⟨#[124]⟩] w fun e w' => e = .returned (.string (jnS [124] (rowW kids) kids.len)) ∧ Below w.heap.size w w' := by
      intro A c w hO
      have hR := hO.reads
      have hcap := hO.cap.1
      have hj2 := hjs
      rw [← HL.out] at hR hcap hj2 ⊢
      rw [jnS_all] at hj2 ⊢
      rcases Nat.eq_zero_or_pos (rowW kids).length with h0 | h0
      · have hz : rowW kids = [] := List.eq_nil_of_length_eq_zero h0
        rw [hz]
        exact (Tryz.strings_Join_none A c ⟨#[124]⟩ w).mono fun e w' ⟨he, hw⟩ => ⟨he, hw ▸ Below.refl _ _⟩
      · obtain ⟨b, off, rfl, hb, hx⟩ := hR.2 h0
        exact Tryz.strings_Join b off c (rowW kids) ⟨#[124]⟩ w (fun j x hj => hx j (.string x) (by unfold sVs; rw [List.getElem?_map, hj]; rfl)) hb (by have := HL.out; have := kids.len_size; omega) hcap (by
          have e1 : (⟨(Lib.join ((rowW kids).map (·.data.toList)) [124]).toArray⟩ : ByteArray).size = (Lib.join ((rowW kids).map (·.data.toList)) [124]).length := by simp [ByteArray.size]
          rw [e1] at hj2
          show (Lib.join ((rowW kids).map (·.data.toList)) [124]).length ≤ _
          omega)
    have HCJ := Lib.hid CJ
    have hlz := kids.len_size
    clear CJ
    generalize hJ : jnS [124] (rowW kids) kids.len = J at HCJ hjs ⊢
    clear hJ
    have y1 : ((⟨#[40]⟩ : ByteArray) ++ J).size = 1 + J.size := by rw [ByteArray.size_append]; rfl
    go_enter Tryz.func102, Tryz.ntmps102
    go_wp2_with fail
    go_loopw [8, 45] (fun v i wr => ∃ k : Nat, k ≤ kids.len ∧ i = .int .i64 k ∧ wr.ownsRow (w.heap.size + 1) 9 1 v k (sVs ((rowW kids).take k)) ∧ Blk wr w.heap.size 82 #[.int .i64 5, .string zs, .slice A kids.len c] ∧ Below w.heap.size w wr) (fun _ i _ => kids.len - (intOf i).toNat)
    case atStart => exact ⟨0, Nat.zero_le _, rfl, World.ownsRow_nil _ _ _ _, B, L0⟩
    case round =>
      obtain ⟨k, hkk, rfl, hO, hB, hL⟩ := hrel
      have cb := hB.cell
      by_cases hlt : k < kids.len
      · obtain ⟨b, o, l, k1, A1, c1, hAe, hb, hd, hks, hSk, q0, q1, q2⟩ := at_Rex (hS.below hL (Nat.le_refl _)) hlt
        subst hAe
        obtain ⟨h1, h2⟩ := okA_at hA hd
        have h5 := hasK_at hno.out hd
        have hwa := wt_at hd
        have hat := rowW_at hlt hd
        obtain ⟨yk, ys⟩ := l
        simp only at q0 q1 h1 hwa hat h5
        rw [wrap5_no h5] at hat
        have hlt' : (k : Int) < (kids.len : Int) := by omega
        have hkl : (kids.len : Int) ≤ 1048576 := by omega
        have HT := Lib.hid (show (rowW kids).take (k + 1) = (rowW kids).take k ++ [textOf yk ys (rowT k1)] by rw [List.take_succ_eq_append_getElem (by rw [HL.out]; exact hlt), hat])
        have L1 := bl_alloc hL (.cells #[.int .i64 yk, .string ys, .slice A1 k1.len c1] 82)
        have C := IHH.out k1 (by omega) yk ys A1 c1 none 0 0 [] (wr.alloc (.cells #[.int .i64 yk, .string ys, .slice A1 k1.len c1] 82)) h1 h2 (by omega) ((hSk.below (B := wr.heap.size) (bl_alloc (Below.refl wr.heap.size wr) _) hL.size).more (Nat.le_refl _) L1.size) (KIn.none_ _)
        rw [wrap_no (ks := []) rfl] at C
        generalize textOf yk ys (rowT k1) = t at C HT
        have CC := Lib.hid C
        clear C hat hd h1 h2
        go_wp2_with fail
        refine CC.out.mono ?_; rintro e w1 ⟨rfl, b1⟩
        have hL2 := bl_trans L1 b1
        have hO2 := ((Row.mk (hO.alloc (.cells #[.int .i64 yk, .string ys, .slice A1 k1.len c1] 82))).keep b1).1
        have hB1 := (hB.alloc (.cells #[.int .i64 yk, .string ys, .slice A1 k1.len c1] 82)).keep b1
        go_wp2_with (at_builtin; refine wpList_push rfl _ _ 59 rfl (w.heap.size + 1) 9 i0 (.string ⟨#[]⟩) 1 16 Tryz.underlying59 hi hz0 hz1 hz2 rfl (by decide) _ _ _ rfl hO2 _ rfl rfl rfl (by omega) (by omega) hB1.lt ?_)
        intro v' w2 hO3 hg3
        have hB2 := hB1.grown hg3 (fun e => by have := (hO2.lt _ e.symm).1; omega)
        go_wp2_with fail
        go_roundw
        case rel => exact ⟨k + 1, by omega, by go_num, by rw [HT.out, sVs_snocR]; exact hO3, hB2, hL2.grown hg3 hL2.size (fun q e => by have := (hO2.lt q e).1; omega)⟩
        case measure => simp [intOf]; omega
      · obtain rfl : k = kids.len := by omega
        rw [List.take_of_length_le (by rw [HL.out]; exact Nat.le_refl _)] at hO
        obtain ⟨Av, cv, rfl⟩ := (Row.mk hO).form
        go_wp2_with fail
        refine (HCJ.out Av cv _ ((Row.mk hO).more (Nat.zero_le _) (Nat.le_refl _))).mono ?_; rintro e w2 ⟨rfl, b2⟩
        have L2 := bl_trans hL b2
        have cb2 := (hB.keep b2).cell
        go_wp2_with fail
        refine (HC.out _ (hk.keep L2 (Nat.le_refl _) L2.size)).mono ?_; rintro e u9 ⟨rfl, rfl⟩
        go_wp2_with fail
        go_ret
        exact ⟨rfl, L2⟩
  have m5 : (zk == 5) = false := by simp [n5]
  by_cases n6 : zk = 6
  · subst n6
    have hlen := rep_len (k := 6) (by simp) hH
    obtain ⟨b, o, l, k1, A1, c1, rfl, hb, hd, hks, hSk, q0, q1, q2⟩ := at_Rex (hS.below L0 (Nat.le_refl _)) (i := 0) hlen
    obtain ⟨h1, h2⟩ := okA_at hA hd
    have hwa := wt_at hd
    obtain ⟨yk, ys⟩ := l
    simp only [Nat.zero_mul, Nat.add_zero] at q0 q1 q2
    simp only at h1 hwa
    rw [Fr.drop_zero] at hd
    have hone := one_row hd
    rw [show textOf 6 zs (rowT kids) = oneT (rowT kids) ++ ⟨#[42]⟩ from rfl, hone]
    have hlt0 : (0 : Int) < kids.len := by omega
    clear hd hone
    have hts : (wrapT [4, 5] yk (textOf yk ys (rowT k1))).size ≤ 6291456 := by
      have r1 := textOf_size yk ys (rowT k1)
      have r2 := lenS_wt k1
      have r3 := wrapT_size [4, 5] yk (textOf yk ys (rowT k1))
      omega
    have Q := Blk.new2 w (.cells #[.int .i64 6, .string zs, .slice (some ⟨b, o, none⟩) kids.len c] 82) 3 #[.int .i64 4, .int .i64 5]
    have L2 := bl_alloc L0 (.cells #[.int .i64 4, .int .i64 5] 3)
    have cO := IHH.out k1 (by omega) yk ys A1 c1 _ 2 2 [4, 5] _ h1 h2 (by omega) ((hSk.below (bl_alloc (Below.refl _ _) (.cells #[.int .i64 4, .int .i64 5] 3)) L0.size).more (Nat.le_refl _) L2.size) (KIn.blk (ks := [4, 5]) Q (by decide))
    simp only at cO ⊢
    generalize wrapT [4, 5] yk (textOf yk ys (rowT k1)) = T at cO hts ⊢
    have CO := Lib.hid cO
    clear cO
    have y0 : (T ++ ⟨#[42]⟩).size = T.size + 1 := by rw [ByteArray.size_append]; rfl
    have y1 : ((⟨#[40]⟩ : ByteArray) ++ (T ++ ⟨#[42]⟩)).size = 1 + (T.size + 1) := by rw [ByteArray.size_append, y0]; rfl
    go_enter Tryz.func102, Tryz.ntmps102
    go_wp2_with fail
    refine CO.out.mono ?_; rintro e w1 ⟨rfl, b1⟩
    have L3 := bl_trans L2 b1
    have cb := (Blk.keep (B.alloc _) b1).cell
    go_wp2_with fail
    refine (HC.out _ (hk.keep L3 (Nat.le_refl _) L3.size)).mono ?_; rintro e u9 ⟨rfl, rfl⟩
    go_wp2_with fail
    go_ret
    exact ⟨rfl, L3⟩
  have m6 : (zk == 6) = false := by simp [n6]
  by_cases n7 : zk = 7
  · subst n7
    have hlen := rep_len (k := 7) (by simp) hH
    obtain ⟨b, o, l, k1, A1, c1, rfl, hb, hd, hks, hSk, q0, q1, q2⟩ := at_Rex (hS.below L0 (Nat.le_refl _)) (i := 0) hlen
    obtain ⟨h1, h2⟩ := okA_at hA hd
    have hwa := wt_at hd
    obtain ⟨yk, ys⟩ := l
    simp only [Nat.zero_mul, Nat.add_zero] at q0 q1 q2
    simp only at h1 hwa
    rw [Fr.drop_zero] at hd
    have hone := one_row hd
    rw [show textOf 7 zs (rowT kids) = oneT (rowT kids) ++ ⟨#[43]⟩ from rfl, hone]
    have hlt0 : (0 : Int) < kids.len := by omega
    clear hd hone
    have hts : (wrapT [4, 5] yk (textOf yk ys (rowT k1))).size ≤ 6291456 := by
      have r1 := textOf_size yk ys (rowT k1)
      have r2 := lenS_wt k1
      have r3 := wrapT_size [4, 5] yk (textOf yk ys (rowT k1))
      omega
    have Q := Blk.new2 w (.cells #[.int .i64 7, .string zs, .slice (some ⟨b, o, none⟩) kids.len c] 82) 3 #[.int .i64 4, .int .i64 5]
    have L2 := bl_alloc L0 (.cells #[.int .i64 4, .int .i64 5] 3)
    have cO := IHH.out k1 (by omega) yk ys A1 c1 _ 2 2 [4, 5] _ h1 h2 (by omega) ((hSk.below (bl_alloc (Below.refl _ _) (.cells #[.int .i64 4, .int .i64 5] 3)) L0.size).more (Nat.le_refl _) L2.size) (KIn.blk (ks := [4, 5]) Q (by decide))
    simp only at cO ⊢
    generalize wrapT [4, 5] yk (textOf yk ys (rowT k1)) = T at cO hts ⊢
    have CO := Lib.hid cO
    clear cO
    have y0 : (T ++ ⟨#[43]⟩).size = T.size + 1 := by rw [ByteArray.size_append]; rfl
    have y1 : ((⟨#[40]⟩ : ByteArray) ++ (T ++ ⟨#[43]⟩)).size = 1 + (T.size + 1) := by rw [ByteArray.size_append, y0]; rfl
    go_enter Tryz.func102, Tryz.ntmps102
    go_wp2_with fail
    refine CO.out.mono ?_; rintro e w1 ⟨rfl, b1⟩
    have L3 := bl_trans L2 b1
    have cb := (Blk.keep (B.alloc _) b1).cell
    go_wp2_with fail
    refine (HC.out _ (hk.keep L3 (Nat.le_refl _) L3.size)).mono ?_; rintro e u9 ⟨rfl, rfl⟩
    go_wp2_with fail
    go_ret
    exact ⟨rfl, L3⟩
  have m7 : (zk == 7) = false := by simp [n7]
  by_cases n8 : zk = 8
  · subst n8
    have hlen := rep_len (k := 8) (by simp) hH
    obtain ⟨b, o, l, k1, A1, c1, rfl, hb, hd, hks, hSk, q0, q1, q2⟩ := at_Rex (hS.below L0 (Nat.le_refl _)) (i := 0) hlen
    obtain ⟨h1, h2⟩ := okA_at hA hd
    have hwa := wt_at hd
    obtain ⟨yk, ys⟩ := l
    simp only [Nat.zero_mul, Nat.add_zero] at q0 q1 q2
    simp only at h1 hwa
    rw [Fr.drop_zero] at hd
    have hone := one_row hd
    rw [show textOf 8 zs (rowT kids) = oneT (rowT kids) ++ ⟨#[63]⟩ from rfl, hone]
    have hlt0 : (0 : Int) < kids.len := by omega
    clear hd hone
    have hts : (wrapT [4, 5] yk (textOf yk ys (rowT k1))).size ≤ 6291456 := by
      have r1 := textOf_size yk ys (rowT k1)
      have r2 := lenS_wt k1
      have r3 := wrapT_size [4, 5] yk (textOf yk ys (rowT k1))
      omega
    have Q := Blk.new2 w (.cells #[.int .i64 8, .string zs, .slice (some ⟨b, o, none⟩) kids.len c] 82) 3 #[.int .i64 4, .int .i64 5]
    have L2 := bl_alloc L0 (.cells #[.int .i64 4, .int .i64 5] 3)
    have cO := IHH.out k1 (by omega) yk ys A1 c1 _ 2 2 [4, 5] _ h1 h2 (by omega) ((hSk.below (bl_alloc (Below.refl _ _) (.cells #[.int .i64 4, .int .i64 5] 3)) L0.size).more (Nat.le_refl _) L2.size) (KIn.blk (ks := [4, 5]) Q (by decide))
    simp only at cO ⊢
    generalize wrapT [4, 5] yk (textOf yk ys (rowT k1)) = T at cO hts ⊢
    have CO := Lib.hid cO
    clear cO
    have y0 : (T ++ ⟨#[63]⟩).size = T.size + 1 := by rw [ByteArray.size_append]; rfl
    have y1 : ((⟨#[40]⟩ : ByteArray) ++ (T ++ ⟨#[63]⟩)).size = 1 + (T.size + 1) := by rw [ByteArray.size_append, y0]; rfl
    go_enter Tryz.func102, Tryz.ntmps102
    go_wp2_with fail
    refine CO.out.mono ?_; rintro e w1 ⟨rfl, b1⟩
    have L3 := bl_trans L2 b1
    have cb := (Blk.keep (B.alloc _) b1).cell
    go_wp2_with fail
    refine (HC.out _ (hk.keep L3 (Nat.le_refl _) L3.size)).mono ?_; rintro e u9 ⟨rfl, rfl⟩
    go_wp2_with fail
    go_ret
    exact ⟨rfl, L3⟩
  have m8 : (zk == 8) = false := by simp [n8]
  by_cases n9 : zk = 9
  · subst n9
    have HV := Lib.hid (show textOf 9 zs (rowT kids) = ⟨#[40, 41]⟩ from rfl)
    rw [HV.out]
    skip
    go_enter Tryz.func102, Tryz.ntmps102
    go_wp2_with fail
    refine (HC.out _ (hk.keep L0 (Nat.le_refl _) L0.size)).mono ?_; rintro e u9 ⟨rfl, rfl⟩
    go_wp2_with fail
    go_ret
    exact ⟨rfl, L0⟩
  have m9 : (zk == 9) = false := by simp [n9]
  by_cases n10 : zk = 10
  · subst n10
    have HV := Lib.hid (show textOf 10 zs (rowT kids) = ⟨#[94]⟩ from rfl)
    rw [HV.out]
    skip
    go_enter Tryz.func102, Tryz.ntmps102
    go_wp2_with fail
    refine (HC.out _ (hk.keep L0 (Nat.le_refl _) L0.size)).mono ?_; rintro e u9 ⟨rfl, rfl⟩
    go_wp2_with fail
    go_ret
    exact ⟨rfl, L0⟩
  have m10 : (zk == 10) = false := by simp [n10]
  by_cases n11 : zk = 11
  · subst n11
    have HV := Lib.hid (show textOf 11 zs (rowT kids) = ⟨#[36]⟩ from rfl)
    rw [HV.out]
    skip
    go_enter Tryz.func102, Tryz.ntmps102
    go_wp2_with fail
    refine (HC.out _ (hk.keep L0 (Nat.le_refl _) L0.size)).mono ?_; rintro e u9 ⟨rfl, rfl⟩
    go_wp2_with fail
    go_ret
    exact ⟨rfl, L0⟩
  have m11 : (zk == 11) = false := by simp [n11]
  exfalso
  rw [here_none (by intro j hj; simp only [List.mem_cons, List.not_mem_nil, or_false] at hj; rcases hj with rfl | rfl | rfl | rfl | rfl | rfl | rfl | rfl | rfl | rfl | rfl <;> assumption) zs kids] at hH
  cases hH

set_option maxRecDepth 20000 in
set_option maxHeartbeats 8000000 in
theorem iText_true (K : Nat) (zk : Int) (zs : ByteArray) (kids : Fr (Int × ByteArray)) (A : Option Addr) (c : Nat) (KA : Option Addr) (n kc : Nat) (ks : List Int) (w : World) (hb : ks.contains zk = true) (hK : kids.size ≤ K) (hl : kids.size ≤ 1048576) (hH : hereB zk zs kids = true) (hA : okA kids = true) (hw : zs.size + wt gRex kids ≤ 1048576) (hS : Sl rexC w 0 w.heap.size A kids) (hk : KIn w KA n ks)
    (ih : ∀ (kids : Fr (Int × ByteArray)), kids.size < K → ∀ (zk : Int) (zs : ByteArray) (A : Option Addr) (c : Nat) (KA : Option Addr) (n kc : Nat) (ks : List Int) (w : World), hereB zk zs kids = true → okA kids = true → zs.size + wt gRex kids ≤ 1048576 → Sl rexC w 0 w.heap.size A kids → KIn w KA n ks → Calls Tryz.prog 102 #[.agg #[.int .i64 zk, .string zs, .slice A kids.len c], .slice KA n kc] w fun e w' => e = .returned (.string (wrapT ks zk (textOf zk zs (rowT kids)))) ∧ Below w.heap.size w w') :
    Calls Tryz.prog 102 #[.agg #[.int .i64 zk, .string zs, .slice A kids.len c], .slice KA n kc] w fun e w' => e = .returned (.string (wrapT ks zk (textOf zk zs (rowT kids)))) ∧ Below w.heap.size w w' := by
  rw [wrap_yes hb]
  have B := Blk.new w 82 #[.int .i64 zk, .string zs, .slice A kids.len c]
  have L0 := bl_alloc (Below.refl w.heap.size w) (.cells #[.int .i64 zk, .string zs, .slice A kids.len c] 82)
  have IHH := Lib.hid ih
  have hC := fun w h => iHas KA n kc ks zk w h
  rw [hb] at hC
  have HC := Lib.hid hC
  clear ih hC hb
  have z1 : ((⟨#[91]⟩ : ByteArray) ++ zs).size = 1 + zs.size := by rw [ByteArray.size_append]; rfl
  have z2 : ((⟨#[91]⟩ : ByteArray) ++ zs ++ ⟨#[93]⟩).size = 2 + zs.size := by rw [ByteArray.size_append, z1]; show 1 + zs.size + 1 = _; omega
  have z3 : ((⟨#[40]⟩ : ByteArray) ++ zs).size = 1 + zs.size := by rw [ByteArray.size_append]; rfl
  have z4 : ((⟨#[40]⟩ : ByteArray) ++ (⟨#[91]⟩ ++ zs ++ ⟨#[93]⟩)).size = 3 + zs.size := by rw [ByteArray.size_append, z2]; show 1 + (2 + zs.size) = _; omega
  by_cases n1 : zk = 1
  · subst n1
    have HV := Lib.hid (show textOf 1 zs (rowT kids) = zs from rfl)
    rw [HV.out]
    skip
    go_enter Tryz.func102, Tryz.ntmps102
    go_wp2_with fail
    refine (HC.out _ (hk.keep L0 (Nat.le_refl _) L0.size)).mono ?_; rintro e u9 ⟨rfl, rfl⟩
    go_wp2_with fail
    go_ret
    exact ⟨rfl, L0⟩
  have m1 : (zk == 1) = false := by simp [n1]
  by_cases n2 : zk = 2
  · subst n2
    have HV := Lib.hid (show textOf 2 zs (rowT kids) = ⟨#[46]⟩ from rfl)
    rw [HV.out]
    skip
    go_enter Tryz.func102, Tryz.ntmps102
    go_wp2_with fail
    refine (HC.out _ (hk.keep L0 (Nat.le_refl _) L0.size)).mono ?_; rintro e u9 ⟨rfl, rfl⟩
    go_wp2_with fail
    go_ret
    exact ⟨rfl, L0⟩
  have m2 : (zk == 2) = false := by simp [n2]
  by_cases n3 : zk = 3
  · subst n3
    have HV := Lib.hid (show textOf 3 zs (rowT kids) = ⟨#[91]⟩ ++ zs ++ ⟨#[93]⟩ from rfl)
    rw [HV.out]
    skip
    go_enter Tryz.func102, Tryz.ntmps102
    go_wp2_with fail
    refine (HC.out _ (hk.keep L0 (Nat.le_refl _) L0.size)).mono ?_; rintro e u9 ⟨rfl, rfl⟩
    go_wp2_with fail
    go_ret
    exact ⟨rfl, L0⟩
  have m3 : (zk == 3) = false := by simp [n3]
  by_cases n4 : zk = 4
  · subst n4
    rw [text_cat]
    have hkl : (kids.len : Int) ≤ 1048576 := by have := kids.len_size; omega
    have HSZ := Lib.hid (fun k (hk : k ≤ kids.len) => Nat.le_trans (jnS_size [] (by simp) (rowT kids) k (by rw [rowT_len]; exact hk)) (Nat.le_trans (lenS_take _ _) (lenS_wt kids)))
    go_enter Tryz.func102, Tryz.ntmps102
    go_wp2_with fail
    go_loopw [5, 30] (fun sv i wr => ∃ (k : Nat) (a : ByteArray), k ≤ kids.len ∧ i = .int .i64 k ∧ sv = .string a ∧ jnS [] (rowW kids) k = a ∧ Blk wr w.heap.size 82 #[.int .i64 4, .string zs, .slice A kids.len c] ∧ Below w.heap.size w wr) (fun _ i _ => kids.len - (intOf i).toNat)
    case atStart => exact ⟨0, _, Nat.zero_le _, rfl, rfl, jnS_zero _ _, B, L0⟩
    case round =>
      obtain ⟨k, a, hkk, rfl, rfl, ha, hB, hL⟩ := hrel
      have has : a.size ≤ 5242880 := by
        have := HSZ.out k hkk
        rw [show jnS [] ((rowT kids).map fun x => wrapT [5] x.1 x.2) k = jnS [] (rowW kids) k from rfl, ha] at this
        omega
      by_cases hlt : k < kids.len
      · obtain ⟨b, o, l, k1, A1, c1, hAe, hb, hd, hks, hSk, q0, q1, q2⟩ := at_Rex (hS.below hL (Nat.le_refl _)) hlt
        subst hAe
        have cb := hB.cell
        obtain ⟨h1, h2⟩ := okA_at hA hd
        have hwa := wt_at hd
        have hat := rowW_at hlt hd
        obtain ⟨yk, ys⟩ := l
        simp only at q0 q1 h1 hwa hat
        have hlt' : (k : Int) < (kids.len : Int) := by omega
        have hj := jnS_cat (rowW kids) k (by rw [rowW_len]; exact hlt)
        rw [ha, hat] at hj
        have HJ := Lib.hid hj
        have L1 := bl_alloc hL (.cells #[.int .i64 yk, .string ys, .slice A1 k1.len c1] 82)
        have Q := Blk.new2 wr (.cells #[.int .i64 yk, .string ys, .slice A1 k1.len c1] 82) 3 #[.int .i64 5]
        have L2 := bl_alloc L1 (.cells #[.int .i64 5] 3)
        have hts : (wrapT [5] yk (textOf yk ys (rowT k1))).size ≤ 6291456 := by
          have r1 := textOf_size yk ys (rowT k1)
          have r2 := lenS_wt k1
          have r3 := wrapT_size [5] yk (textOf yk ys (rowT k1))
          omega
        have C := IHH.out k1 (by omega) yk ys A1 c1 _ 1 1 [5] _ h1 h2 (by omega) ((hSk.below (B := wr.heap.size) (bl_alloc (bl_alloc (Below.refl wr.heap.size wr) _) _) hL.size).more (Nat.le_refl _) L2.size) (KIn.blk (ks := [5]) Q (by decide))
        generalize wrapT [5] yk (textOf yk ys (rowT k1)) = t at C hts HJ
        have CC := Lib.hid C
        clear C ha hat hj hd h1 h2
        go_wp2_with fail
        refine CC.out.mono ?_; rintro e w1 ⟨rfl, b1⟩
        have hB1 := ((hB.alloc _).alloc _).keep b1
        go_wp2_with fail
        go_roundw
        case rel => exact ⟨k + 1, _, by omega, by go_num, rfl, HJ.out.symm, hB1, bl_trans L2 b1⟩
        case measure => simp [intOf]; omega
      · obtain rfl : k = kids.len := by omega
        have HA2 := Lib.hid ha
        have cb := hB.cell
        clear ha
        have y1 : ((⟨#[40]⟩ : ByteArray) ++ a).size = 1 + a.size := by rw [ByteArray.size_append]; rfl
        go_wp2_with fail
        refine (HC.out _ (hk.keep hL (Nat.le_refl _) hL.size)).mono ?_; rintro e u9 ⟨rfl, rfl⟩
        go_wp2_with fail
        go_ret
        exact ⟨ret_str (by rw [← HA2.out]), hL⟩
  have m4 : (zk == 4) = false := by simp [n4]
  by_cases n5 : zk = 5
  · subst n5
    rw [text_alt]
    have hno := Lib.hid (alt_none hH)
    obtain ⟨i0, hi, hz0, hz1, hz2⟩ := info_parts info_str
    have HL := Lib.hid (rowW_len kids)
    have hjs : (jnS [124] (rowW kids) kids.len).size ≤ 5242880 := by
      have := Nat.le_trans (jnS_size [124] (by simp) (rowT kids) kids.len (by rw [rowT_len]; exact Nat.le_refl _)) (Nat.le_trans (lenS_take _ _) (lenS_wt kids))
      rw [show jnS [124] ((rowT kids).map fun x => wrapT [5] x.1 x.2) kids.len = jnS [124] (rowW kids) kids.len from rfl] at this
      omega
    have CJ : ∀ (A : Option Addr) (c : Nat) (w : World), Row w 0 w.heap.size 9 1 (.slice A kids.len c) kids.len (sVs (rowW kids)) → Calls Tryz.prog 47 #[.slice A kids.len c, .string ⟨#[124]⟩] w fun e w' => e = .returned (.string (jnS [124] (rowW kids) kids.len)) ∧ Below w.heap.size w w' := by
      intro A c w hO
      have hR := hO.reads
      have hcap := hO.cap.1
      have hj2 := hjs
      rw [← HL.out] at hR hcap hj2 ⊢
      rw [jnS_all] at hj2 ⊢
      rcases Nat.eq_zero_or_pos (rowW kids).length with h0 | h0
      · have hz : rowW kids = [] := List.eq_nil_of_length_eq_zero h0
        rw [hz]
        exact (Tryz.strings_Join_none A c ⟨#[124]⟩ w).mono fun e w' ⟨he, hw⟩ => ⟨he, hw ▸ Below.refl _ _⟩
      · obtain ⟨b, off, rfl, hb, hx⟩ := hR.2 h0
        exact Tryz.strings_Join b off c (rowW kids) ⟨#[124]⟩ w (fun j x hj => hx j (.string x) (by unfold sVs; rw [List.getElem?_map, hj]; rfl)) hb (by have := HL.out; have := kids.len_size; omega) hcap (by
          have e1 : (⟨(Lib.join ((rowW kids).map (·.data.toList)) [124]).toArray⟩ : ByteArray).size = (Lib.join ((rowW kids).map (·.data.toList)) [124]).length := by simp [ByteArray.size]
          rw [e1] at hj2
          show (Lib.join ((rowW kids).map (·.data.toList)) [124]).length ≤ _
          omega)
    have HCJ := Lib.hid CJ
    have hlz := kids.len_size
    clear CJ
    generalize hJ : jnS [124] (rowW kids) kids.len = J at HCJ hjs ⊢
    clear hJ
    have y1 : ((⟨#[40]⟩ : ByteArray) ++ J).size = 1 + J.size := by rw [ByteArray.size_append]; rfl
    go_enter Tryz.func102, Tryz.ntmps102
    go_wp2_with fail
    go_loopw [8, 45] (fun v i wr => ∃ k : Nat, k ≤ kids.len ∧ i = .int .i64 k ∧ wr.ownsRow (w.heap.size + 1) 9 1 v k (sVs ((rowW kids).take k)) ∧ Blk wr w.heap.size 82 #[.int .i64 5, .string zs, .slice A kids.len c] ∧ Below w.heap.size w wr) (fun _ i _ => kids.len - (intOf i).toNat)
    case atStart => exact ⟨0, Nat.zero_le _, rfl, World.ownsRow_nil _ _ _ _, B, L0⟩
    case round =>
      obtain ⟨k, hkk, rfl, hO, hB, hL⟩ := hrel
      have cb := hB.cell
      by_cases hlt : k < kids.len
      · obtain ⟨b, o, l, k1, A1, c1, hAe, hb, hd, hks, hSk, q0, q1, q2⟩ := at_Rex (hS.below hL (Nat.le_refl _)) hlt
        subst hAe
        obtain ⟨h1, h2⟩ := okA_at hA hd
        have h5 := hasK_at hno.out hd
        have hwa := wt_at hd
        have hat := rowW_at hlt hd
        obtain ⟨yk, ys⟩ := l
        simp only at q0 q1 h1 hwa hat h5
        rw [wrap5_no h5] at hat
        have hlt' : (k : Int) < (kids.len : Int) := by omega
        have hkl : (kids.len : Int) ≤ 1048576 := by omega
        have HT := Lib.hid (show (rowW kids).take (k + 1) = (rowW kids).take k ++ [textOf yk ys (rowT k1)] by rw [List.take_succ_eq_append_getElem (by rw [HL.out]; exact hlt), hat])
        have L1 := bl_alloc hL (.cells #[.int .i64 yk, .string ys, .slice A1 k1.len c1] 82)
        have C := IHH.out k1 (by omega) yk ys A1 c1 none 0 0 [] (wr.alloc (.cells #[.int .i64 yk, .string ys, .slice A1 k1.len c1] 82)) h1 h2 (by omega) ((hSk.below (B := wr.heap.size) (bl_alloc (Below.refl wr.heap.size wr) _) hL.size).more (Nat.le_refl _) L1.size) (KIn.none_ _)
        rw [wrap_no (ks := []) rfl] at C
        generalize textOf yk ys (rowT k1) = t at C HT
        have CC := Lib.hid C
        clear C hat hd h1 h2
        go_wp2_with fail
        refine CC.out.mono ?_; rintro e w1 ⟨rfl, b1⟩
        have hL2 := bl_trans L1 b1
        have hO2 := ((Row.mk (hO.alloc (.cells #[.int .i64 yk, .string ys, .slice A1 k1.len c1] 82))).keep b1).1
        have hB1 := (hB.alloc (.cells #[.int .i64 yk, .string ys, .slice A1 k1.len c1] 82)).keep b1
        go_wp2_with (at_builtin; refine wpList_push rfl _ _ 59 rfl (w.heap.size + 1) 9 i0 (.string ⟨#[]⟩) 1 16 Tryz.underlying59 hi hz0 hz1 hz2 rfl (by decide) _ _ _ rfl hO2 _ rfl rfl rfl (by omega) (by omega) hB1.lt ?_)
        intro v' w2 hO3 hg3
        have hB2 := hB1.grown hg3 (fun e => by have := (hO2.lt _ e.symm).1; omega)
        go_wp2_with fail
        go_roundw
        case rel => exact ⟨k + 1, by omega, by go_num, by rw [HT.out, sVs_snocR]; exact hO3, hB2, hL2.grown hg3 hL2.size (fun q e => by have := (hO2.lt q e).1; omega)⟩
        case measure => simp [intOf]; omega
      · obtain rfl : k = kids.len := by omega
        rw [List.take_of_length_le (by rw [HL.out]; exact Nat.le_refl _)] at hO
        obtain ⟨Av, cv, rfl⟩ := (Row.mk hO).form
        go_wp2_with fail
        refine (HCJ.out Av cv _ ((Row.mk hO).more (Nat.zero_le _) (Nat.le_refl _))).mono ?_; rintro e w2 ⟨rfl, b2⟩
        have L2 := bl_trans hL b2
        have cb2 := (hB.keep b2).cell
        go_wp2_with fail
        refine (HC.out _ (hk.keep L2 (Nat.le_refl _) L2.size)).mono ?_; rintro e u9 ⟨rfl, rfl⟩
        go_wp2_with fail
        go_ret
        exact ⟨rfl, L2⟩
  have m5 : (zk == 5) = false := by simp [n5]
  by_cases n6 : zk = 6
  · subst n6
    have hlen := rep_len (k := 6) (by simp) hH
    obtain ⟨b, o, l, k1, A1, c1, rfl, hb, hd, hks, hSk, q0, q1, q2⟩ := at_Rex (hS.below L0 (Nat.le_refl _)) (i := 0) hlen
    obtain ⟨h1, h2⟩ := okA_at hA hd
    have hwa := wt_at hd
    obtain ⟨yk, ys⟩ := l
    simp only [Nat.zero_mul, Nat.add_zero] at q0 q1 q2
    simp only at h1 hwa
    rw [Fr.drop_zero] at hd
    have hone := one_row hd
    rw [show textOf 6 zs (rowT kids) = oneT (rowT kids) ++ ⟨#[42]⟩ from rfl, hone]
    have hlt0 : (0 : Int) < kids.len := by omega
    clear hd hone
    have hts : (wrapT [4, 5] yk (textOf yk ys (rowT k1))).size ≤ 6291456 := by
      have r1 := textOf_size yk ys (rowT k1)
      have r2 := lenS_wt k1
      have r3 := wrapT_size [4, 5] yk (textOf yk ys (rowT k1))
      omega
    have Q := Blk.new2 w (.cells #[.int .i64 6, .string zs, .slice (some ⟨b, o, none⟩) kids.len c] 82) 3 #[.int .i64 4, .int .i64 5]
    have L2 := bl_alloc L0 (.cells #[.int .i64 4, .int .i64 5] 3)
    have cO := IHH.out k1 (by omega) yk ys A1 c1 _ 2 2 [4, 5] _ h1 h2 (by omega) ((hSk.below (bl_alloc (Below.refl _ _) (.cells #[.int .i64 4, .int .i64 5] 3)) L0.size).more (Nat.le_refl _) L2.size) (KIn.blk (ks := [4, 5]) Q (by decide))
    simp only at cO ⊢
    generalize wrapT [4, 5] yk (textOf yk ys (rowT k1)) = T at cO hts ⊢
    have CO := Lib.hid cO
    clear cO
    have y0 : (T ++ ⟨#[42]⟩).size = T.size + 1 := by rw [ByteArray.size_append]; rfl
    have y1 : ((⟨#[40]⟩ : ByteArray) ++ (T ++ ⟨#[42]⟩)).size = 1 + (T.size + 1) := by rw [ByteArray.size_append, y0]; rfl
    go_enter Tryz.func102, Tryz.ntmps102
    go_wp2_with fail
    refine CO.out.mono ?_; rintro e w1 ⟨rfl, b1⟩
    have L3 := bl_trans L2 b1
    have cb := (Blk.keep (B.alloc _) b1).cell
    go_wp2_with fail
    refine (HC.out _ (hk.keep L3 (Nat.le_refl _) L3.size)).mono ?_; rintro e u9 ⟨rfl, rfl⟩
    go_wp2_with fail
    go_ret
    exact ⟨rfl, L3⟩
  have m6 : (zk == 6) = false := by simp [n6]
  by_cases n7 : zk = 7
  · subst n7
    have hlen := rep_len (k := 7) (by simp) hH
    obtain ⟨b, o, l, k1, A1, c1, rfl, hb, hd, hks, hSk, q0, q1, q2⟩ := at_Rex (hS.below L0 (Nat.le_refl _)) (i := 0) hlen
    obtain ⟨h1, h2⟩ := okA_at hA hd
    have hwa := wt_at hd
    obtain ⟨yk, ys⟩ := l
    simp only [Nat.zero_mul, Nat.add_zero] at q0 q1 q2
    simp only at h1 hwa
    rw [Fr.drop_zero] at hd
    have hone := one_row hd
    rw [show textOf 7 zs (rowT kids) = oneT (rowT kids) ++ ⟨#[43]⟩ from rfl, hone]
    have hlt0 : (0 : Int) < kids.len := by omega
    clear hd hone
    have hts : (wrapT [4, 5] yk (textOf yk ys (rowT k1))).size ≤ 6291456 := by
      have r1 := textOf_size yk ys (rowT k1)
      have r2 := lenS_wt k1
      have r3 := wrapT_size [4, 5] yk (textOf yk ys (rowT k1))
      omega
    have Q := Blk.new2 w (.cells #[.int .i64 7, .string zs, .slice (some ⟨b, o, none⟩) kids.len c] 82) 3 #[.int .i64 4, .int .i64 5]
    have L2 := bl_alloc L0 (.cells #[.int .i64 4, .int .i64 5] 3)
    have cO := IHH.out k1 (by omega) yk ys A1 c1 _ 2 2 [4, 5] _ h1 h2 (by omega) ((hSk.below (bl_alloc (Below.refl _ _) (.cells #[.int .i64 4, .int .i64 5] 3)) L0.size).more (Nat.le_refl _) L2.size) (KIn.blk (ks := [4, 5]) Q (by decide))
    simp only at cO ⊢
    generalize wrapT [4, 5] yk (textOf yk ys (rowT k1)) = T at cO hts ⊢
    have CO := Lib.hid cO
    clear cO
    have y0 : (T ++ ⟨#[43]⟩).size = T.size + 1 := by rw [ByteArray.size_append]; rfl
    have y1 : ((⟨#[40]⟩ : ByteArray) ++ (T ++ ⟨#[43]⟩)).size = 1 + (T.size + 1) := by rw [ByteArray.size_append, y0]; rfl
    go_enter Tryz.func102, Tryz.ntmps102
    go_wp2_with fail
    refine CO.out.mono ?_; rintro e w1 ⟨rfl, b1⟩
    have L3 := bl_trans L2 b1
    have cb := (Blk.keep (B.alloc _) b1).cell
    go_wp2_with fail
    refine (HC.out _ (hk.keep L3 (Nat.le_refl _) L3.size)).mono ?_; rintro e u9 ⟨rfl, rfl⟩
    go_wp2_with fail
    go_ret
    exact ⟨rfl, L3⟩
  have m7 : (zk == 7) = false := by simp [n7]
  by_cases n8 : zk = 8
  · subst n8
    have hlen := rep_len (k := 8) (by simp) hH
    obtain ⟨b, o, l, k1, A1, c1, rfl, hb, hd, hks, hSk, q0, q1, q2⟩ := at_Rex (hS.below L0 (Nat.le_refl _)) (i := 0) hlen
    obtain ⟨h1, h2⟩ := okA_at hA hd
    have hwa := wt_at hd
    obtain ⟨yk, ys⟩ := l
    simp only [Nat.zero_mul, Nat.add_zero] at q0 q1 q2
    simp only at h1 hwa
    rw [Fr.drop_zero] at hd
    have hone := one_row hd
    rw [show textOf 8 zs (rowT kids) = oneT (rowT kids) ++ ⟨#[63]⟩ from rfl, hone]
    have hlt0 : (0 : Int) < kids.len := by omega
    clear hd hone
    have hts : (wrapT [4, 5] yk (textOf yk ys (rowT k1))).size ≤ 6291456 := by
      have r1 := textOf_size yk ys (rowT k1)
      have r2 := lenS_wt k1
      have r3 := wrapT_size [4, 5] yk (textOf yk ys (rowT k1))
      omega
    have Q := Blk.new2 w (.cells #[.int .i64 8, .string zs, .slice (some ⟨b, o, none⟩) kids.len c] 82) 3 #[.int .i64 4, .int .i64 5]
    have L2 := bl_alloc L0 (.cells #[.int .i64 4, .int .i64 5] 3)
    have cO := IHH.out k1 (by omega) yk ys A1 c1 _ 2 2 [4, 5] _ h1 h2 (by omega) ((hSk.below (bl_alloc (Below.refl _ _) (.cells #[.int .i64 4, .int .i64 5] 3)) L0.size).more (Nat.le_refl _) L2.size) (KIn.blk (ks := [4, 5]) Q (by decide))
    simp only at cO ⊢
    generalize wrapT [4, 5] yk (textOf yk ys (rowT k1)) = T at cO hts ⊢
    have CO := Lib.hid cO
    clear cO
    have y0 : (T ++ ⟨#[63]⟩).size = T.size + 1 := by rw [ByteArray.size_append]; rfl
    have y1 : ((⟨#[40]⟩ : ByteArray) ++ (T ++ ⟨#[63]⟩)).size = 1 + (T.size + 1) := by rw [ByteArray.size_append, y0]; rfl
    go_enter Tryz.func102, Tryz.ntmps102
    go_wp2_with fail
    refine CO.out.mono ?_; rintro e w1 ⟨rfl, b1⟩
    have L3 := bl_trans L2 b1
    have cb := (Blk.keep (B.alloc _) b1).cell
    go_wp2_with fail
    refine (HC.out _ (hk.keep L3 (Nat.le_refl _) L3.size)).mono ?_; rintro e u9 ⟨rfl, rfl⟩
    go_wp2_with fail
    go_ret
    exact ⟨rfl, L3⟩
  have m8 : (zk == 8) = false := by simp [n8]
  by_cases n9 : zk = 9
  · subst n9
    have HV := Lib.hid (show textOf 9 zs (rowT kids) = ⟨#[40, 41]⟩ from rfl)
    rw [HV.out]
    skip
    go_enter Tryz.func102, Tryz.ntmps102
    go_wp2_with fail
    refine (HC.out _ (hk.keep L0 (Nat.le_refl _) L0.size)).mono ?_; rintro e u9 ⟨rfl, rfl⟩
    go_wp2_with fail
    go_ret
    exact ⟨rfl, L0⟩
  have m9 : (zk == 9) = false := by simp [n9]
  by_cases n10 : zk = 10
  · subst n10
    have HV := Lib.hid (show textOf 10 zs (rowT kids) = ⟨#[94]⟩ from rfl)
    rw [HV.out]
    skip
    go_enter Tryz.func102, Tryz.ntmps102
    go_wp2_with fail
    refine (HC.out _ (hk.keep L0 (Nat.le_refl _) L0.size)).mono ?_; rintro e u9 ⟨rfl, rfl⟩
    go_wp2_with fail
    go_ret
    exact ⟨rfl, L0⟩
  have m10 : (zk == 10) = false := by simp [n10]
  by_cases n11 : zk = 11
  · subst n11
    have HV := Lib.hid (show textOf 11 zs (rowT kids) = ⟨#[36]⟩ from rfl)
    rw [HV.out]
    skip
    go_enter Tryz.func102, Tryz.ntmps102
    go_wp2_with fail
    refine (HC.out _ (hk.keep L0 (Nat.le_refl _) L0.size)).mono ?_; rintro e u9 ⟨rfl, rfl⟩
    go_wp2_with fail
    go_ret
    exact ⟨rfl, L0⟩
  have m11 : (zk == 11) = false := by simp [n11]
  exfalso
  rw [here_none (by intro j hj; simp only [List.mem_cons, List.not_mem_nil, or_false] at hj; rcases hj with rfl | rfl | rfl | rfl | rfl | rfl | rfl | rfl | rfl | rfl | rfl <;> assumption) zs kids] at hH
  cases hH

theorem iText_any (K : Nat) : ∀ (kids : Fr (Int × ByteArray)), kids.size ≤ K → K ≤ 1048576 → ∀ (zk : Int) (zs : ByteArray) (A : Option Addr) (c : Nat) (KA : Option Addr) (n kc : Nat) (ks : List Int) (w : World), hereB zk zs kids = true → okA kids = true → zs.size + wt gRex kids ≤ 1048576 → Sl rexC w 0 w.heap.size A kids → KIn w KA n ks → Calls Tryz.prog 102 #[.agg #[.int .i64 zk, .string zs, .slice A kids.len c], .slice KA n kc] w fun e w' => e = .returned (.string (wrapT ks zk (textOf zk zs (rowT kids)))) ∧ Below w.heap.size w w' := by
  induction K with
  | zero =>
    intro kids hK _ zk zs A c KA n kc ks w h1 h2 h3 hS hk
    cases hb : ks.contains zk
    · exact iText_false 0 zk zs kids A c KA n kc ks w hb hK (by omega) h1 h2 h3 hS hk (fun kids h => by omega)
    · exact iText_true 0 zk zs kids A c KA n kc ks w hb hK (by omega) h1 h2 h3 hS hk (fun kids h => by omega)
  | succ K ih =>
    intro kids hK hbd zk zs A c KA n kc ks w h1 h2 h3 hS hk
    cases hb : ks.contains zk
    · exact iText_false (K + 1) zk zs kids A c KA n kc ks w hb hK (by omega) h1 h2 h3 hS hk (fun kids h => ih kids (by omega) (by omega))
    · exact iText_true (K + 1) zk zs kids A c KA n kc ks w hb hK (by omega) h1 h2 h3 hS hk (fun kids h => ih kids (by omega) (by omega))

end Go.Proofs.YtemlnpncljomgaaGreatDoor
