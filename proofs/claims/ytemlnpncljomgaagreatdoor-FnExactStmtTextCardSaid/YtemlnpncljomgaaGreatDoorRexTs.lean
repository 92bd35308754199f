import Derived.Test.YtemlnpncljomgaaGreatDoorRexT
namespace Go.Proofs.YtemlnpncljomgaaGreatDoor
open Go.RowKit

theorem okA_at {x : Fr (Int × ByteArray)} {i : Nat} {a : (Int × ByteArray)} {k : Fr (Int × ByteArray)} (h : okA x = true) (hd : x.drop i = .cons a k (x.drop (i + 1))) : hereB a.1 a.2 k = true ∧ okA k = true := by
  have hdr : ∀ (y : Fr (Int × ByteArray)) (i : Nat), okA y = true → okA (y.drop i) = true := by
    intro y
    induction y with
    | nil => intro i _; cases i <;> rfl
    | cons a k r _ ih2 =>
      intro i h
      cases i with
      | zero => rw [Fr.drop_zero]; exact h
      | succ i =>
        rw [okA, Bool.and_eq_true] at h
        exact ih2 i h.2
  have h1 := hdr x i h
  rw [hd, okA, Bool.and_eq_true, Bool.and_eq_true] at h1
  exact h1.1
theorem wt_at {x : Fr (Int × ByteArray)} {i : Nat} {a : (Int × ByteArray)} {k : Fr (Int × ByteArray)} (hd : x.drop i = .cons a k (x.drop (i + 1))) : a.2.size + wt gRex k ≤ wt gRex x := by
  have h := wt_drop gRex x i
  rw [hd] at h
  simp only [wt, gRex] at h
  omega
theorem wrap5_yes (s a : ByteArray) : a ++ ⟨#[40]⟩ ++ s ++ ⟨#[41]⟩ = a ++ wrapT [5] 5 s := by
  show _ = a ++ brack s
  unfold brack
  rw [ByteArray.append_assoc, ByteArray.append_assoc, ByteArray.append_assoc]
theorem wrap5_no {k : Int} (h : (k == 5) = false) (s : ByteArray) : wrapT [5] k s = s := by
  unfold wrapT
  have : ([5] : List Int).contains k = false := by
    have h2 : k ≠ 5 := fun e => by subst e; cases h
    simp [h2]
  rw [this]
  rfl
theorem lenS_take (l : List (Int × ByteArray)) (k : Nat) : lenS (l.take k) ≤ lenS l := by
  unfold lenS
  conv => rhs; rw [← List.take_append_drop k l, List.map_append, List.sum_append]
  omega
def rowW (x : Fr (Int × ByteArray)) : List ByteArray := (rowT x).map fun x => wrapT [5] x.1 x.2
theorem rowW_len (x : Fr (Int × ByteArray)) : (rowW x).length = x.len := by unfold rowW; rw [List.length_map, rowT_len]
theorem rowW_at {x : Fr (Int × ByteArray)} {i : Nat} {a : (Int × ByteArray)} {k : Fr (Int × ByteArray)} (hi : i < x.len) (h : x.drop i = .cons a k (x.drop (i + 1))) : (rowW x)[i]'(by rw [rowW_len]; exact hi) = wrapT [5] a.1 (textOf a.1 a.2 (rowT k)) := by
  unfold rowW
  rw [List.getElem_map, rowT_at hi h]

set_option maxHeartbeats 4000000 in
theorem sJoinR (K : Nat) (sep : List UInt8) (s0 : ByteArray) (hs0 : s0 = ⟨sep.toArray⟩) (hsep : sep.length ≤ 1) (x : Fr (Int × ByteArray)) (A : Option Addr) (c : Nat) (w : World) (hx : x.size ≤ K) (hlen : x.len ≤ 1048576) (hok : okA x = true) (hw : wt gRex x ≤ 1048576) (hS : Sl rexC w 0 w.heap.size A x)
    (ih : ∀ (kids : Fr (Int × ByteArray)), kids.size < K → ∀ (zk : Int) (zs : ByteArray) (A : Option Addr) (c : Nat) (w : World), hereB zk zs kids = true → okA kids = true → zs.size + wt gRex kids ≤ 1048576 → Sl rexC w 0 w.heap.size A kids → Calls Tryz.prog 97 #[.agg #[.int .i64 zk, .string zs, .slice A kids.len c]] w fun e w' => e = .returned (.string (textOf zk zs (rowT kids))) ∧ Below w.heap.size w w') :
    Calls Tryz.prog 111 #[.slice A x.len c, .string s0, .int .i64 5] w fun e w' => e = .returned (.string (jnS sep (rowW x) x.len)) ∧ Below w.heap.size w w' := by
  have IHH := Lib.hid ih
  have HOK := Lib.hid hok
  have hs1 : s0.size ≤ 1 := by rw [hs0]; simpa [ByteArray.size] using hsep
  have HS0 := Lib.hid hs0
  have HSZ := Lib.hid (fun k (hk : k ≤ x.len) => Nat.le_trans (jnS_size sep hsep (rowT x) k (by rw [rowT_len]; exact hk)) (Nat.le_trans (lenS_take _ _) (lenS_wt x)))
  clear ih hok hs0
  go_enter Tryz.func111, Tryz.ntmps111
  go_wp2_with fail
  go_loopw [7, 8] (fun sv i wr => ∃ (k : Nat) (a : ByteArray), k ≤ x.len ∧ i = .int .i64 k ∧ sv = .string a ∧ jnS sep (rowW x) k = a ∧ Below w.heap.size w wr) (fun _ i _ => x.len - (intOf i).toNat)
  case atStart => exact ⟨0, _, Nat.zero_le _, rfl, rfl, jnS_zero _ _, Below.refl _ _⟩
  case round =>
    obtain ⟨k, a, hk, rfl, rfl, ha, hL⟩ := hrel
    by_cases hlt : k < x.len
    · obtain ⟨b, o, l, k1, A1, c1, rfl, hb, hd, hks, hSk, q0, q1, q2⟩ := at_Rex (hS.below hL (Nat.le_refl _)) hlt
      obtain ⟨yk, ys⟩ := l
      simp only at q0 q1
      have hlt' : (k : Int) < (x.len : Int) := by omega
      obtain ⟨h1, h2⟩ := okA_at HOK.out hd
      have hwa := wt_at hd
      have hat := rowW_at hlt hd
      have hkW : k < (rowW x).length := by rw [rowW_len]; exact hlt
      simp only at h1 hwa hat
      have cT := fun w h => IHH.out k1 (by omega) yk ys A1 c1 w h1 h2 (by omega) h
      have hts : (textOf yk ys (rowT k1)).size ≤ 6291456 := by
        have q1 := textOf_size yk ys (rowT k1)
        have q2 := lenS_wt k1
        omega
      have has : a.size ≤ 5242880 := by
        have := HSZ.out k hk
        rw [show jnS sep ((rowT x).map fun x => wrapT [5] x.1 x.2) k = jnS sep (rowW x) k from rfl, ha] at this
        omega
      generalize textOf yk ys (rowT k1) = t at cT hat hts
      have z1 : (a ++ s0).size = a.size + s0.size := ByteArray.size_append
      have z2 : (a ++ s0 ++ ⟨#[40]⟩).size = a.size + s0.size + 1 := by rw [ByteArray.size_append, z1]; rfl
      have z3 : (a ++ s0 ++ ⟨#[40]⟩ ++ t).size = a.size + s0.size + 1 + t.size := by rw [ByteArray.size_append, z2]
      have z4 : ((⟨#[]⟩ : ByteArray) ++ ⟨#[40]⟩).size = 1 := rfl
      have z5 : ((⟨#[]⟩ : ByteArray) ++ ⟨#[40]⟩ ++ t).size = 1 + t.size := by rw [ByteArray.size_append, z4]
      have CT := Lib.hid cT
      clear cT h1 h2 hd
      have hS1 := hSk.more (Nat.le_refl _) hL.size
      by_cases h0 : 0 < k
      · have hj := jnS_succ sep (rowW x) k hkW h0
        rw [ha, ← HS0.out, hat] at hj
        have h0' : (0 : Int) < k := by omega
        clear ha hat
        cases h5 : (yk == 5)
        · rw [wrap5_no h5] at hj
          have HJ := Lib.hid hj
          clear hj
          go_wp2_with fail
          refine (CT.out _ hS1).mono ?_; rintro e w1 ⟨rfl, b1⟩
          go_wp2_with fail
          go_roundw
          case rel => exact ⟨k + 1, _, by omega, by go_num, rfl, HJ.out.symm, bl_trans hL b1⟩
          case measure => simp [intOf]; omega
        · have h55 : yk = 5 := by simpa using h5
          subst h55
          rw [← wrap5_yes] at hj
          have HJ := Lib.hid hj
          clear hj
          go_wp2_with fail
          refine (CT.out _ hS1).mono ?_; rintro e w1 ⟨rfl, b1⟩
          go_wp2_with fail
          go_roundw
          case rel => exact ⟨k + 1, _, by omega, by go_num, rfl, HJ.out.symm, bl_trans hL b1⟩
          case measure => simp [intOf]; omega
      · obtain rfl : k = 0 := by omega
        have hj := jnS_one sep (rowW x) hkW
        rw [jnS_zero] at ha
        subst ha
        clear z1 z2 z3
        rw [hat] at hj
        rw [Nat.zero_mul, Nat.add_zero] at q0 q1 q2
        clear hat
        cases h5 : (yk == 5)
        · rw [wrap5_no h5] at hj
          have HJ := Lib.hid hj
          clear hj
          go_wp2_with fail
          refine (CT.out _ hS1).mono ?_; rintro e w1 ⟨rfl, b1⟩
          go_wp2_with fail
          go_roundw
          case rel => exact ⟨1, _, by omega, by go_num, rfl, HJ.out.symm, bl_trans hL b1⟩
          case measure => simp [intOf]; omega
        · have h55 : yk = 5 := by simpa using h5
          subst h55
          rw [← wrap5_yes] at hj
          have HJ := Lib.hid hj
          clear hj
          go_wp2_with fail
          refine (CT.out _ hS1).mono ?_; rintro e w1 ⟨rfl, b1⟩
          go_wp2_with fail
          go_roundw
          case rel => exact ⟨1, _, by omega, by go_num, rfl, HJ.out.symm, bl_trans hL b1⟩
          case measure => simp [intOf]; omega
    · obtain rfl : k = x.len := by omega
      have H := Lib.hid ha
      clear ha
      go_wp2_with fail
      go_ret
      exact ⟨ret_str H.out.symm, hL⟩

theorem one_wrap {k : Int} (h : k = 4 ∨ k = 5) (t : ByteArray) : wrapT [4, 5] k t = ⟨#[40]⟩ ++ t ++ ⟨#[41]⟩ := by rcases h with rfl | rfl <;> rfl
theorem one_plain {k : Int} (h4 : (k == 4) = false) (h5 : (k == 5) = false) (t : ByteArray) : wrapT [4, 5] k t = t := by
  unfold wrapT
  have a4 : k ≠ 4 := fun e => by subst e; cases h4
  have a5 : k ≠ 5 := fun e => by subst e; cases h5
  have : ([4, 5] : List Int).contains k = false := by simp [a4, a5]
  rw [this]
  rfl
set_option maxHeartbeats 1000000 in
theorem sOneR (zk : Int) (zs : ByteArray) (kids : Fr (Int × ByteArray)) (A : Option Addr) (c : Nat) (T : ByteArray) (hT : T.size ≤ 6291456) (w : World) (hS : Sl rexC w 0 w.heap.size A kids)
    (I : ∀ w, Sl rexC w 0 w.heap.size A kids → Calls Tryz.prog 97 #[.agg #[.int .i64 zk, .string zs, .slice A kids.len c]] w fun e w' => e = .returned (.string T) ∧ Below w.heap.size w w') :
    Calls Tryz.prog 112 #[.agg #[.int .i64 zk, .string zs, .slice A kids.len c]] w fun e w' => e = .returned (.string (wrapT [4, 5] zk T)) ∧ Below w.heap.size w w' := by
  have L0 := bl_alloc (Below.refl w.heap.size w) (.cells #[.int .i64 zk, .string zs, .slice A kids.len c] 82)
  have C := Lib.hid (I _ ((hS.below L0 (Nat.le_refl _)).more (Nat.le_refl _) L0.size))
  have z1 : ((⟨#[40]⟩ : ByteArray) ++ T).size = 1 + T.size := by rw [ByteArray.size_append]; rfl
  cases h4 : (zk == 4)
  case' false => cases h5 : (zk == 5)
  case' false.false => rw [one_plain h4 h5]
  case' false.true => (have e5 : zk = 5 := by simpa using h5); rw [one_wrap (.inr e5)]
  case' true => (have e4 : zk = 4 := by simpa using h4); rw [one_wrap (.inl e4)]
  all_goals
    try clear e5
    try clear e4
    go_enter Tryz.func112, Tryz.ntmps112
    go_wp2_with fail
    refine C.out.mono ?_; rintro e w1 ⟨rfl, b1⟩
    go_wp2_with fail
    go_ret
    exact ⟨rfl, bl_trans L0 b1⟩
theorem text_cat (zs : ByteArray) (kids : Fr (Int × ByteArray)) : textOf 4 zs (rowT kids) = jnS [] (rowW kids) kids.len := by rw [← rowT_len]; rfl
theorem text_alt (zs : ByteArray) (kids : Fr (Int × ByteArray)) : textOf 5 zs (rowT kids) = jnS [124] (rowW kids) kids.len := by rw [← rowT_len]; rfl
theorem one_row {x r k : Fr (Int × ByteArray)} {a : (Int × ByteArray)} (h : x = .cons a k r) : oneT (rowT x) = wrapT [4, 5] a.1 (textOf a.1 a.2 (rowT k)) := by rw [h]; rfl
theorem text_rep (s : ByteArray) (l : List (Int × ByteArray)) : textOf 6 s l = oneT l ++ ⟨#[42]⟩ ∧ textOf 7 s l = oneT l ++ ⟨#[43]⟩ ∧ textOf 8 s l = oneT l ++ ⟨#[63]⟩ := ⟨rfl, rfl, rfl⟩
theorem rep_len {k : Int} (hk : k = 6 ∨ k = 7 ∨ k = 8) {s : ByteArray} {kids : Fr (Int × ByteArray)} (h : hereB k s kids = true) : 0 < kids.len := by
  rw [here_rep hk] at h
  simp at h
  omega

set_option maxHeartbeats 4000000 in
theorem sText_step (K : Nat) (zk : Int) (zs : ByteArray) (kids : Fr (Int × ByteArray)) (A : Option Addr) (c : Nat) (w : World) (hK : kids.size ≤ K) (hl : kids.size ≤ 1048576) (hH : hereB zk zs kids = true) (hA : okA kids = true) (hw : zs.size + wt gRex kids ≤ 1048576) (hS : Sl rexC w 0 w.heap.size A kids)
    (ih : ∀ (kids : Fr (Int × ByteArray)), kids.size < K → ∀ (zk : Int) (zs : ByteArray) (A : Option Addr) (c : Nat) (w : World), hereB zk zs kids = true → okA kids = true → zs.size + wt gRex kids ≤ 1048576 → Sl rexC w 0 w.heap.size A kids → Calls Tryz.prog 97 #[.agg #[.int .i64 zk, .string zs, .slice A kids.len c]] w fun e w' => e = .returned (.string (textOf zk zs (rowT kids))) ∧ Below w.heap.size w w') :
    Calls Tryz.prog 97 #[.agg #[.int .i64 zk, .string zs, .slice A kids.len c]] w fun e w' => e = .returned (.string (textOf zk zs (rowT kids))) ∧ Below w.heap.size w w' := by
  have L0 := bl_alloc (Below.refl w.heap.size w) (.cells #[.int .i64 zk, .string zs, .slice A kids.len c] 82)
  have IHH := Lib.hid ih
  clear ih
  have z1 : ((⟨#[91]⟩ : ByteArray) ++ zs).size = 1 + zs.size := by rw [ByteArray.size_append]; rfl
  by_cases n1 : zk = 1
  · subst n1
    have HV := Lib.hid (show textOf 1 zs (rowT kids) = zs from rfl)
    rw [HV.out]
    go_enter Tryz.func97, Tryz.ntmps97
    go_wp2_with fail
    go_ret
    exact ⟨rfl, by repeat (first | exact Below.refl _ _ | refine bl_drewN ?_ _ | refine Below.drew ?_ | refine bl_alloc ?_ _ | refine bl_set ?_ (by simp) _ | refine bl_trans ?_ (by assumption))⟩
  have m1 : (zk == 1) = false := by simp [n1]
  by_cases n2 : zk = 2
  · subst n2
    have HV := Lib.hid (show textOf 2 zs (rowT kids) = ⟨#[46]⟩ from rfl)
    rw [HV.out]
    go_enter Tryz.func97, Tryz.ntmps97
    go_wp2_with fail
    go_ret
    exact ⟨rfl, by repeat (first | exact Below.refl _ _ | refine bl_drewN ?_ _ | refine Below.drew ?_ | refine bl_alloc ?_ _ | refine bl_set ?_ (by simp) _ | refine bl_trans ?_ (by assumption))⟩
  have m2 : (zk == 2) = false := by simp [n2]
  by_cases n3 : zk = 3
  · subst n3
    have HV := Lib.hid (show textOf 3 zs (rowT kids) = ⟨#[91]⟩ ++ zs ++ ⟨#[93]⟩ from rfl)
    rw [HV.out]
    go_enter Tryz.func97, Tryz.ntmps97
    go_wp2_with fail
    go_ret
    exact ⟨rfl, by repeat (first | exact Below.refl _ _ | refine bl_drewN ?_ _ | refine Below.drew ?_ | refine bl_alloc ?_ _ | refine bl_set ?_ (by simp) _ | refine bl_trans ?_ (by assumption))⟩
  have m3 : (zk == 3) = false := by simp [n3]
  by_cases n4 : zk = 4
  · subst n4
    rw [text_cat]
    have C := Lib.hid (sJoinR K [] ⟨#[]⟩ rfl (by simp) kids A c _ hK (by have := kids.len_size; omega) hA (by omega) ((hS.below L0 (Nat.le_refl _)).more (Nat.le_refl _) L0.size) IHH.out)
    generalize jnS _ (rowW kids) kids.len = T at C ⊢
    go_enter Tryz.func97, Tryz.ntmps97
    go_wp2_with fail
    refine C.out.mono ?_; rintro e w1 ⟨rfl, b1⟩
    go_wp2_with fail
    go_ret
    exact ⟨rfl, bl_trans L0 b1⟩
  have m4 : (zk == 4) = false := by simp [n4]
  by_cases n5 : zk = 5
  · subst n5
    rw [text_alt]
    have C := Lib.hid (sJoinR K [124] ⟨#[124]⟩ rfl (by simp) kids A c _ hK (by have := kids.len_size; omega) hA (by omega) ((hS.below L0 (Nat.le_refl _)).more (Nat.le_refl _) L0.size) IHH.out)
    generalize jnS _ (rowW kids) kids.len = T at C ⊢
    go_enter Tryz.func97, Tryz.ntmps97
    go_wp2_with fail
    refine C.out.mono ?_; rintro e w1 ⟨rfl, b1⟩
    go_wp2_with fail
    go_ret
    exact ⟨rfl, bl_trans L0 b1⟩
  have m5 : (zk == 5) = false := by simp [n5]
  by_cases n6 : zk = 6
  · subst n6
    have hlen := rep_len (k := 6) (by simp) hH
    obtain ⟨b, o, l, k1, A1, c1, rfl, hb, hd, hks, hSk, q0, q1, q2⟩ := at_Rex (hS.below L0 (Nat.le_refl _)) (i := 0) hlen
    obtain ⟨h1, h2⟩ := okA_at hA hd
    have hwa := wt_at hd
    obtain ⟨yk, ys⟩ := l
    simp only [Nat.zero_mul, Nat.add_zero] at q0 q1 q2
    simp only at h1 hwa
    rw [Fr.drop_zero] at hd
    have hone := one_row hd
    rw [show textOf 6 zs (rowT kids) = oneT (rowT kids) ++ ⟨#[42]⟩ from rfl, hone]
    have hlt0 : (0 : Int) < kids.len := by omega
    clear hd hone
    have hts : (textOf yk ys (rowT k1)).size ≤ 6291456 := by
      have r1 := textOf_size yk ys (rowT k1)
      have r2 := lenS_wt k1
      omega
    have hwz := wrapT_size [4, 5] yk (textOf yk ys (rowT k1))
    have cO := fun w h => sOneR yk ys k1 A1 c1 (textOf yk ys (rowT k1)) hts w h (fun w h => IHH.out k1 (by omega) yk ys A1 c1 w h1 h2 (by omega) h)
    simp only at cO ⊢
    generalize wrapT [4, 5] yk (textOf yk ys (rowT k1)) = T at cO hwz ⊢
    have CO := Lib.hid cO
    clear cO
    have hT2 : T.size ≤ 6291458 := by omega
    have hS1 := hSk.more (Nat.le_refl _) L0.size
    go_enter Tryz.func97, Tryz.ntmps97
    go_wp2_with fail
    refine (CO.out _ hS1).mono ?_; rintro e w1 ⟨rfl, b1⟩
    go_wp2_with fail
    go_ret
    exact ⟨rfl, bl_trans L0 b1⟩
  have m6 : (zk == 6) = false := by simp [n6]
  by_cases n7 : zk = 7
  · subst n7
    have hlen := rep_len (k := 7) (by simp) hH
    obtain ⟨b, o, l, k1, A1, c1, rfl, hb, hd, hks, hSk, q0, q1, q2⟩ := at_Rex (hS.below L0 (Nat.le_refl _)) (i := 0) hlen
    obtain ⟨h1, h2⟩ := okA_at hA hd
    have hwa := wt_at hd
    obtain ⟨yk, ys⟩ := l
    simp only [Nat.zero_mul, Nat.add_zero] at q0 q1 q2
    simp only at h1 hwa
    rw [Fr.drop_zero] at hd
    have hone := one_row hd
    rw [show textOf 7 zs (rowT kids) = oneT (rowT kids) ++ ⟨#[43]⟩ from rfl, hone]
    have hlt0 : (0 : Int) < kids.len := by omega
    clear hd hone
    have hts : (textOf yk ys (rowT k1)).size ≤ 6291456 := by
      have r1 := textOf_size yk ys (rowT k1)
      have r2 := lenS_wt k1
      omega
    have hwz := wrapT_size [4, 5] yk (textOf yk ys (rowT k1))
    have cO := fun w h => sOneR yk ys k1 A1 c1 (textOf yk ys (rowT k1)) hts w h (fun w h => IHH.out k1 (by omega) yk ys A1 c1 w h1 h2 (by omega) h)
    simp only at cO ⊢
    generalize wrapT [4, 5] yk (textOf yk ys (rowT k1)) = T at cO hwz ⊢
    have CO := Lib.hid cO
    clear cO
    have hT2 : T.size ≤ 6291458 := by omega
    have hS1 := hSk.more (Nat.le_refl _) L0.size
    go_enter Tryz.func97, Tryz.ntmps97
    go_wp2_with fail
    refine (CO.out _ hS1).mono ?_; rintro e w1 ⟨rfl, b1⟩
    go_wp2_with fail
    go_ret
    exact ⟨rfl, bl_trans L0 b1⟩
  have m7 : (zk == 7) = false := by simp [n7]
  by_cases n8 : zk = 8
  · subst n8
    have hlen := rep_len (k := 8) (by simp) hH
    obtain ⟨b, o, l, k1, A1, c1, rfl, hb, hd, hks, hSk, q0, q1, q2⟩ := at_Rex (hS.below L0 (Nat.le_refl _)) (i := 0) hlen
    obtain ⟨h1, h2⟩ := okA_at hA hd
    have hwa := wt_at hd
    obtain ⟨yk, ys⟩ := l
    simp only [Nat.zero_mul, Nat.add_zero] at q0 q1 q2
    simp only at h1 hwa
    rw [Fr.drop_zero] at hd
    have hone := one_row hd
    rw [show textOf 8 zs (rowT kids) = oneT (rowT kids) ++ ⟨#[63]⟩ from rfl, hone]
    have hlt0 : (0 : Int) < kids.len := by omega
    clear hd hone
    have hts : (textOf yk ys (rowT k1)).size ≤ 6291456 := by
      have r1 := textOf_size yk ys (rowT k1)
      have r2 := lenS_wt k1
      omega
    have hwz := wrapT_size [4, 5] yk (textOf yk ys (rowT k1))
    have cO := fun w h => sOneR yk ys k1 A1 c1 (textOf yk ys (rowT k1)) hts w h (fun w h => IHH.out k1 (by omega) yk ys A1 c1 w h1 h2 (by omega) h)
    simp only at cO ⊢
    generalize wrapT [4, 5] yk (textOf yk ys (rowT k1)) = T at cO hwz ⊢
    have CO := Lib.hid cO
    clear cO
    have hT2 : T.size ≤ 6291458 := by omega
    have hS1 := hSk.more (Nat.le_refl _) L0.size
    go_enter Tryz.func97, Tryz.ntmps97
    go_wp2_with fail
    refine (CO.out _ hS1).mono ?_; rintro e w1 ⟨rfl, b1⟩
    go_wp2_with fail
    go_ret
    exact ⟨rfl, bl_trans L0 b1⟩
  have m8 : (zk == 8) = false := by simp [n8]
  by_cases n10 : zk = 10
  · subst n10
    have HV := Lib.hid (show textOf 10 zs (rowT kids) = ⟨#[94]⟩ from rfl)
    rw [HV.out]
    go_enter Tryz.func97, Tryz.ntmps97
    go_wp2_with fail
    go_ret
    exact ⟨rfl, by repeat (first | exact Below.refl _ _ | refine bl_drewN ?_ _ | refine Below.drew ?_ | refine bl_alloc ?_ _ | refine bl_set ?_ (by simp) _ | refine bl_trans ?_ (by assumption))⟩
  have m10 : (zk == 10) = false := by simp [n10]
  by_cases n11 : zk = 11
  · subst n11
    have HV := Lib.hid (show textOf 11 zs (rowT kids) = ⟨#[36]⟩ from rfl)
    rw [HV.out]
    go_enter Tryz.func97, Tryz.ntmps97
    go_wp2_with fail
    go_ret
    exact ⟨rfl, by repeat (first | exact Below.refl _ _ | refine bl_drewN ?_ _ | refine Below.drew ?_ | refine bl_alloc ?_ _ | refine bl_set ?_ (by simp) _ | refine bl_trans ?_ (by assumption))⟩
  have m11 : (zk == 11) = false := by simp [n11]
  by_cases n9 : zk = 9
  · subst n9
    have HV := Lib.hid (show textOf 9 zs (rowT kids) = ⟨#[40, 41]⟩ from rfl)
    rw [HV.out]
    go_enter Tryz.func97, Tryz.ntmps97
    go_wp2_with fail
    go_ret
    exact ⟨rfl, by repeat (first | exact Below.refl _ _ | refine bl_drewN ?_ _ | refine Below.drew ?_ | refine bl_alloc ?_ _ | refine bl_set ?_ (by simp) _ | refine bl_trans ?_ (by assumption))⟩
  have m9 : (zk == 9) = false := by simp [n9]
  exfalso
  rw [here_none (by intro j hj; simp only [List.mem_cons, List.not_mem_nil, or_false] at hj; rcases hj with rfl | rfl | rfl | rfl | rfl | rfl | rfl | rfl | rfl | rfl | rfl <;> assumption) zs kids] at hH
  cases hH

theorem sText_any (K : Nat) : ∀ (kids : Fr (Int × ByteArray)), kids.size ≤ K → K ≤ 1048576 → ∀ (zk : Int) (zs : ByteArray) (A : Option Addr) (c : Nat) (w : World), hereB zk zs kids = true → okA kids = true → zs.size + wt gRex kids ≤ 1048576 → Sl rexC w 0 w.heap.size A kids → Calls Tryz.prog 97 #[.agg #[.int .i64 zk, .string zs, .slice A kids.len c]] w fun e w' => e = .returned (.string (textOf zk zs (rowT kids))) ∧ Below w.heap.size w w' := by
  induction K with
  | zero =>
    intro kids hK _ zk zs A c w h1 h2 h3 hS
    exact sText_step 0 zk zs kids A c w hK (by omega) h1 h2 h3 hS (fun kids h => by omega)
  | succ K ih =>
    intro kids hK hb zk zs A c w h1 h2 h3 hS
    exact sText_step (K + 1) zk zs kids A c w hK (by omega) h1 h2 h3 hS (fun kids h => ih kids (by omega) (by omega))

end Go.Proofs.YtemlnpncljomgaaGreatDoor
