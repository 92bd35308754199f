import Derived.Test.YtemlnpncljomgaaGreatDoorExprSp
import Derived.Test.YtemlnpncljomgaaGreatDoorQ0
import Derived.Test.YtemlnpncljomgaaGreatDoorRexT
import Derived.Test.YtemlnpncljomgaaGreatDoorQ1
namespace Go.Proofs.YtemlnpncljomgaaGreatDoor
open Go.RowKit

def txE (a : Int × Int × ByteArray) (l : List ByteArray) : ByteArray :=
  if a.1 = 1 then (if 0 ≤ a.2.1 ∧ a.2.1 ≤ 2147483647 then itoaS a.2.1 else ⟨#[]⟩)
  else if a.1 = 2 then (((⟨#[39]⟩ : ByteArray) ++ a.2.2) ++ ⟨#[39]⟩)
  else if a.1 = 3 then a.2.2
  else if a.1 = 4 then (((a.2.2 ++ ⟨#[91]⟩) ++ (jnS [44, 32] l l.length)) ++ ⟨#[93]⟩)
  else if a.1 = 5 then ((⟨#[36]⟩ : ByteArray) ++ (jnS [44, 32] l l.length))
  else if a.1 = 6 then (((((((⟨#[40]⟩ : ByteArray) ++ (l.getD 0 ⟨#[]⟩)) ++ ⟨#[32]⟩) ++ a.2.2) ++ ⟨#[32]⟩) ++ (l.getD 1 ⟨#[]⟩)) ++ ⟨#[41]⟩)
  else if a.1 = 7 then ((⟨#[33]⟩ : ByteArray) ++ (jnS [44, 32] l l.length))
  else if a.1 = 8 then ((⟨#[45]⟩ : ByteArray) ++ (jnS [44, 32] l l.length))
  else if a.1 = 9 then (((((⟨#[40]⟩ : ByteArray) ++ (jnS [44, 32] l l.length)) ++ ⟨#[32, 105, 110, 32]⟩) ++ a.2.2) ++ ⟨#[41]⟩)
  else if a.1 = 10 then (((((⟨#[40]⟩ : ByteArray) ++ (jnS [44, 32] l l.length)) ++ ⟨#[32, 126, 32, 47]⟩) ++ a.2.2) ++ ⟨#[47, 41]⟩)
  else if a.1 = 11 then (((a.2.2 ++ ⟨#[40]⟩) ++ (jnS [44, 32] l l.length)) ++ ⟨#[41]⟩)
  else if a.1 = 12 then (((⟨#[108, 101, 110, 103, 116, 104, 40]⟩ : ByteArray) ++ (jnS [44, 32] l l.length)) ++ ⟨#[41]⟩)
  else if a.1 = 13 then (((⟨#[115, 117, 98, 115, 116, 114, 40]⟩ : ByteArray) ++ (jnS [44, 32] l l.length)) ++ ⟨#[41]⟩)
  else if a.1 = 14 then (⟨#[110, 114]⟩ : ByteArray)
  else if a.1 = 15 then (⟨#[110, 102]⟩ : ByteArray)
  else if a.1 = 16 then (((⟨#[105, 110, 100, 101, 120, 40]⟩ : ByteArray) ++ (jnS [44, 32] l l.length)) ++ ⟨#[41]⟩)
  else if a.1 = 17 then (((⟨#[117, 112, 112, 101, 114, 40]⟩ : ByteArray) ++ (jnS [44, 32] l l.length)) ++ ⟨#[41]⟩)
  else if a.1 = 18 then (((((((⟨#[103, 115, 117, 98, 40]⟩ : ByteArray) ++ (l.getD 0 ⟨#[]⟩)) ++ ⟨#[32, 126, 32, 47]⟩) ++ a.2.2) ++ ⟨#[47, 44, 32]⟩) ++ (l.getD 1 ⟨#[]⟩)) ++ ⟨#[41]⟩)
  else ⟨#[]⟩
def rowX : Fr (Int × Int × ByteArray) → List ByteArray
  | .nil => []
  | .cons a k r => txE a (rowX k) :: rowX r
theorem rowX_len : ∀ fr : Fr (Int × Int × ByteArray), (rowX fr).length = fr.len
  | .nil => rfl
  | .cons _ _ r => by show (rowX r).length + 1 = r.len + 1; rw [rowX_len r]
theorem rowX_drop : ∀ (fr : Fr (Int × Int × ByteArray)) (i : Nat), rowX (fr.drop i) = (rowX fr).drop i
  | fr, 0 => by rw [Fr.drop_zero]; rfl
  | .nil, i + 1 => rfl
  | .cons _ _ r, i + 1 => rowX_drop r i
theorem rowX_at {fr : Fr (Int × Int × ByteArray)} {i : Nat} {a : Int × Int × ByteArray} {k : Fr (Int × Int × ByteArray)} (hi : i < fr.len) (h : fr.drop i = .cons a k (fr.drop (i + 1))) : (rowX fr)[i]'(by rw [rowX_len]; exact hi) = txE a (rowX k) := by
  have h1 := rowX_drop fr i
  rw [h, List.drop_eq_getElem_cons (by rw [rowX_len]; exact hi)] at h1
  injection h1 with h2 h3
  exact h2.symm
def lenX (l : List ByteArray) : Nat := (l.map fun x => x.size + 2).sum
theorem lenX_take (l : List ByteArray) (k : Nat) : lenX (l.take k) ≤ lenX l := by
  unfold lenX
  conv => rhs; rw [← List.take_append_drop k l, List.map_append, List.sum_append]
  omega
theorem jnX_size (l : List ByteArray) (k : Nat) : k ≤ l.length → (jnS [44, 32] l k).size ≤ lenX (l.take k) := by
  induction k with
  | zero => intro _; exact Nat.zero_le _
  | succ k ih =>
    intro hk
    have h1 := ih (by omega)
    have hkl : k < l.length := by omega
    have hl : lenX (l.take (k + 1)) = lenX (l.take k) + ((l[k]'hkl).size + 2) := by
      unfold lenX
      rw [List.take_succ_eq_append_getElem (by omega), List.map_append, List.sum_append]
      simp
    rcases Nat.eq_zero_or_pos k with rfl | h0
    · rw [← jnS_one _ _ hkl, ByteArray.size_append]
      have e0 : (⟨#[]⟩ : ByteArray).size = 0 := rfl
      omega
    · rw [← jnS_succ _ _ k hkl h0, ByteArray.size_append, ByteArray.size_append]
      have e0 : (⟨([44, 32] : List UInt8).toArray⟩ : ByteArray).size = 2 := rfl
      omega
theorem jnX_all (l : List ByteArray) : (jnS [44, 32] l l.length).size ≤ lenX l := Nat.le_trans (jnX_size l l.length (Nat.le_refl _)) (lenX_take _ _)
theorem getX_two (l : List ByteArray) : (l.getD 0 ⟨#[]⟩).size + (l.getD 1 ⟨#[]⟩).size ≤ lenX l := by
  have e0 : (⟨#[]⟩ : ByteArray).size = 0 := rfl
  match l with
  | [] => simp [e0]
  | [x] => simp [lenX, e0]
  | x :: y :: r => simp [lenX]; omega
theorem txE_size (a : Int × Int × ByteArray) (l : List ByteArray) : (txE a l).size ≤ 60 + a.2.2.size + lenX l := by
  have h1 := jnX_all l
  have h2 := getX_two l
  unfold txE
  by_cases h1_ : a.1 = 1
  · rw [if_pos h1_]
    by_cases hr : 0 ≤ a.2.1 ∧ a.2.1 ≤ 2147483647
    · rw [if_pos hr]
      have := itoaS_size a.2.1 (by omega) (by omega)
      omega
    · rw [if_neg hr]
      exact Nat.zero_le _
  rw [if_neg h1_]
  by_cases h2_ : a.1 = 2
  · rw [if_pos h2_]
    simp only [ByteArray.size_append]
    have c0 : (⟨#[39]⟩ : ByteArray).size = 1 := rfl
    have c2 : (⟨#[39]⟩ : ByteArray).size = 1 := rfl
    omega
  rw [if_neg h2_]
  by_cases h3_ : a.1 = 3
  · rw [if_pos h3_]
    omega
  rw [if_neg h3_]
  by_cases h4_ : a.1 = 4
  · rw [if_pos h4_]
    simp only [ByteArray.size_append]
    have c1 : (⟨#[91]⟩ : ByteArray).size = 1 := rfl
    have c3 : (⟨#[93]⟩ : ByteArray).size = 1 := rfl
    omega
  rw [if_neg h4_]
  by_cases h5_ : a.1 = 5
  · rw [if_pos h5_]
    simp only [ByteArray.size_append]
    have c0 : (⟨#[36]⟩ : ByteArray).size = 1 := rfl
    omega
  rw [if_neg h5_]
  by_cases h6_ : a.1 = 6
  · rw [if_pos h6_]
    simp only [ByteArray.size_append]
    have c0 : (⟨#[40]⟩ : ByteArray).size = 1 := rfl
    have c2 : (⟨#[32]⟩ : ByteArray).size = 1 := rfl
    have c4 : (⟨#[32]⟩ : ByteArray).size = 1 := rfl
    have c6 : (⟨#[41]⟩ : ByteArray).size = 1 := rfl
    omega
  rw [if_neg h6_]
  by_cases h7_ : a.1 = 7
  · rw [if_pos h7_]
    simp only [ByteArray.size_append]
    have c0 : (⟨#[33]⟩ : ByteArray).size = 1 := rfl
    omega
  rw [if_neg h7_]
  by_cases h8_ : a.1 = 8
  · rw [if_pos h8_]
    simp only [ByteArray.size_append]
    have c0 : (⟨#[45]⟩ : ByteArray).size = 1 := rfl
    omega
  rw [if_neg h8_]
  by_cases h9_ : a.1 = 9
  · rw [if_pos h9_]
    simp only [ByteArray.size_append]
    have c0 : (⟨#[40]⟩ : ByteArray).size = 1 := rfl
    have c2 : (⟨#[32, 105, 110, 32]⟩ : ByteArray).size = 4 := rfl
    have c4 : (⟨#[41]⟩ : ByteArray).size = 1 := rfl
    omega
  rw [if_neg h9_]
  by_cases h10_ : a.1 = 10
  · rw [if_pos h10_]
    simp only [ByteArray.size_append]
    have c0 : (⟨#[40]⟩ : ByteArray).size = 1 := rfl
    have c2 : (⟨#[32, 126, 32, 47]⟩ : ByteArray).size = 4 := rfl
    have c4 : (⟨#[47, 41]⟩ : ByteArray).size = 2 := rfl
    omega
  rw [if_neg h10_]
  by_cases h11_ : a.1 = 11
  · rw [if_pos h11_]
    simp only [ByteArray.size_append]
    have c1 : (⟨#[40]⟩ : ByteArray).size = 1 := rfl
    have c3 : (⟨#[41]⟩ : ByteArray).size = 1 := rfl
    omega
  rw [if_neg h11_]
  by_cases h12_ : a.1 = 12
  · rw [if_pos h12_]
    simp only [ByteArray.size_append]
    have c0 : (⟨#[108, 101, 110, 103, 116, 104, 40]⟩ : ByteArray).size = 7 := rfl
    have c2 : (⟨#[41]⟩ : ByteArray).size = 1 := rfl
    omega
  rw [if_neg h12_]
  by_cases h13_ : a.1 = 13
  · rw [if_pos h13_]
    simp only [ByteArray.size_append]
    have c0 : (⟨#[115, 117, 98, 115, 116, 114, 40]⟩ : ByteArray).size = 7 := rfl
    have c2 : (⟨#[41]⟩ : ByteArray).size = 1 := rfl
    omega
  rw [if_neg h13_]
  by_cases h14_ : a.1 = 14
  · rw [if_pos h14_]
    have c0 : (⟨#[110, 114]⟩ : ByteArray).size = 2 := rfl
    omega
  rw [if_neg h14_]
  by_cases h15_ : a.1 = 15
  · rw [if_pos h15_]
    have c0 : (⟨#[110, 102]⟩ : ByteArray).size = 2 := rfl
    omega
  rw [if_neg h15_]
  by_cases h16_ : a.1 = 16
  · rw [if_pos h16_]
    simp only [ByteArray.size_append]
    have c0 : (⟨#[105, 110, 100, 101, 120, 40]⟩ : ByteArray).size = 6 := rfl
    have c2 : (⟨#[41]⟩ : ByteArray).size = 1 := rfl
    omega
  rw [if_neg h16_]
  by_cases h17_ : a.1 = 17
  · rw [if_pos h17_]
    simp only [ByteArray.size_append]
    have c0 : (⟨#[117, 112, 112, 101, 114, 40]⟩ : ByteArray).size = 6 := rfl
    have c2 : (⟨#[41]⟩ : ByteArray).size = 1 := rfl
    omega
  rw [if_neg h17_]
  by_cases h18_ : a.1 = 18
  · rw [if_pos h18_]
    simp only [ByteArray.size_append]
    have c0 : (⟨#[103, 115, 117, 98, 40]⟩ : ByteArray).size = 5 := rfl
    have c2 : (⟨#[32, 126, 32, 47]⟩ : ByteArray).size = 4 := rfl
    have c4 : (⟨#[47, 44, 32]⟩ : ByteArray).size = 3 := rfl
    have c6 : (⟨#[41]⟩ : ByteArray).size = 1 := rfl
    omega
  rw [if_neg h18_]
  exact Nat.zero_le _
theorem lenX_wt : ∀ fr : Fr (Int × Int × ByteArray), lenX (rowX fr) ≤ 62 * wt gExpr fr
  | .nil => Nat.le_refl _
  | .cons a k r => by
    have h1 := txE_size a (rowX k)
    have h2 := lenX_wt k
    have h3 := lenX_wt r
    show (txE a (rowX k)).size + 2 + lenX (rowX r) ≤ 62 * (1 + a.2.2.size + wt gExpr k + wt gExpr r)
    omega
theorem jnX_wt {fr : Fr (Int × Int × ByteArray)} (h : wt gExpr fr ≤ 1048576) (k : Nat) (hk : k ≤ fr.len) : (jnS [44, 32] (rowX fr) k).size ≤ 70000000 := by
  have h1 := jnX_size (rowX fr) k (by rw [rowX_len]; exact hk)
  have h2 := lenX_take (rowX fr) k
  have h3 := lenX_wt fr
  omega
theorem txE_wt {a : Int × Int × ByteArray} {fr : Fr (Int × Int × ByteArray)} (h : a.2.2.size + wt gExpr fr ≤ 1048576) : (txE a (rowX fr)).size ≤ 70000000 := by
  have h1 := txE_size a (rowX fr)
  have h3 := lenX_wt fr
  omega
theorem okNA_at {x : Fr (Int × Int × ByteArray)} {i : Nat} {a : Int × Int × ByteArray} {k : Fr (Int × Int × ByteArray)} (h : okNA cntE.here x = true) (hd : x.drop i = .cons a k (x.drop (i + 1))) : hereE a k.len = true ∧ okNA cntE.here k = true := by
  have hdr : ∀ (y : Fr (Int × Int × ByteArray)) (i : Nat), okNA cntE.here y = true → okNA cntE.here (y.drop i) = true := by
    intro y
    induction y with
    | nil => intro i _; cases i <;> rfl
    | cons a k r _ ih2 =>
      intro i h
      cases i with
      | zero => rw [Fr.drop_zero]; exact h
      | succ i =>
        rw [okNA, Bool.and_eq_true] at h
        exact ih2 i h.2
  have h1 := hdr x i h
  rw [hd, okNA, Bool.and_eq_true, Bool.and_eq_true] at h1
  exact h1.1
theorem wtE_at {x : Fr (Int × Int × ByteArray)} {i : Nat} {a : Int × Int × ByteArray} {k : Fr (Int × Int × ByteArray)} (hd : x.drop i = .cons a k (x.drop (i + 1))) : a.2.2.size + wt gExpr k ≤ wt gExpr x := by
  have h := wt_drop gExpr x i
  rw [hd] at h
  simp only [wt, gExpr] at h
  omega
theorem kindE_len {k : Int} {s : ByteArray} {len : Nat} (h : kindE k s len = true) : k ≠ 11 → (len : Int) = (if k = 1 ∨ k = 2 ∨ k = 3 ∨ k = 14 ∨ k = 15 then 0 else if k = 6 ∨ k = 16 ∨ k = 18 then 2 else if k = 13 then 3 else 1) := by
  intro h11
  unfold kindE at h
  by_cases h1 : k = 1
  · subst h1
    simp at h ⊢; omega
  rw [if_neg h1] at h
  by_cases h2 : k = 2
  · subst h2
    simp at h ⊢; omega
  rw [if_neg h2] at h
  by_cases h3 : k = 3
  · subst h3
    simp at h ⊢; omega
  rw [if_neg h3] at h
  by_cases h4 : k = 4
  · subst h4
    simp at h ⊢; omega
  rw [if_neg h4] at h
  by_cases h5 : k = 5
  · subst h5
    simp at h ⊢; omega
  rw [if_neg h5] at h
  by_cases h6 : k = 6
  · subst h6
    simp at h ⊢; omega
  rw [if_neg h6] at h
  by_cases h7 : k = 7
  · subst h7
    simp at h ⊢; omega
  rw [if_neg h7] at h
  by_cases h8 : k = 8
  · subst h8
    simp at h ⊢; omega
  rw [if_neg h8] at h
  by_cases h9 : k = 9
  · subst h9
    simp at h ⊢; omega
  rw [if_neg h9] at h
  by_cases h10 : k = 10
  · subst h10
    simp at h ⊢; omega
  rw [if_neg h10] at h
  by_cases h11 : k = 11
  · subst h11
    exact absurd rfl h11
  rw [if_neg h11] at h
  by_cases h12 : k = 12
  · subst h12
    simp at h ⊢; omega
  rw [if_neg h12] at h
  by_cases h13 : k = 13
  · subst h13
    simp at h ⊢; omega
  rw [if_neg h13] at h
  by_cases h14 : k = 14
  · subst h14
    simp at h ⊢; omega
  rw [if_neg h14] at h
  by_cases h15 : k = 15
  · subst h15
    simp at h ⊢; omega
  rw [if_neg h15] at h
  by_cases h16 : k = 16
  · subst h16
    simp at h ⊢; omega
  rw [if_neg h16] at h
  by_cases h17 : k = 17
  · subst h17
    simp at h ⊢; omega
  rw [if_neg h17] at h
  by_cases h18 : k = 18
  · subst h18
    simp at h ⊢; omega
  rw [if_neg h18] at h
  cases h

theorem one_E {w : World} {lo hi : Nat} {A : Option Addr} {kids : Fr (Int × Int × ByteArray)} (h : Sl exprC w lo hi A kids) (hl : kids.len = 1) (hok : okNA cntE.here kids = true) :
    ∃ (b o : Nat) (k0 n0 : Int) (s0 : ByteArray) (x0 : Fr (Int × Int × ByteArray)) (A0 : Option Addr) (c0 : Nat), A = some ⟨b, o, none⟩ ∧ b < hi ∧ rowX kids = [txE (k0, n0, s0) (rowX x0)] ∧ (x0.size < kids.size ∧ hereE (k0, n0, s0) x0.len = true ∧ okNA cntE.here x0 = true ∧ s0.size + wt gExpr x0 ≤ wt gExpr kids ∧ Sl exprC w lo hi A0 x0) ∧ (w.cell? ⟨b, o, none⟩ = some (.int .i64 k0) ∧ w.cell? ⟨b, o + 1, none⟩ = some (.int .i64 n0) ∧ w.cell? ⟨b, o + 2, none⟩ = some (.string s0) ∧ w.cell? ⟨b, o + 3, none⟩ = some (.slice A0 x0.len c0)) := by
  obtain ⟨b, o, ⟨k0, n0, s0⟩, x0, A0, c0, e, hb, hd, hs, hS, q0, q1, q2, q3⟩ := at_Expr h (i := 0) (by omega)
  obtain ⟨h1, h2⟩ := okNA_at hok hd
  have h3 := wtE_at hd
  have h4 := rowX_len kids
  have h5 := rowX_at (by omega) hd
  have h6 : rowX kids = [txE (k0, n0, s0) (rowX x0)] := by
    rw [hl] at h4
    obtain ⟨t, ht⟩ := List.length_eq_one_iff.1 h4
    simp only [ht, List.getElem_cons_zero] at h5
    rw [ht, h5]
  simp only [Nat.zero_mul, Nat.add_zero] at q0 q1 q2 q3
  exact ⟨b, o, k0, n0, s0, x0, A0, c0, e, hb, h6, ⟨hs, h1, h2, h3, hS⟩, q0, q1, q2, q3⟩
theorem two_E {w : World} {lo hi : Nat} {A : Option Addr} {kids : Fr (Int × Int × ByteArray)} (h : Sl exprC w lo hi A kids) (hl : kids.len = 2) (hok : okNA cntE.here kids = true) :
    ∃ (b o : Nat) (k0 n0 : Int) (s0 : ByteArray) (x0 : Fr (Int × Int × ByteArray)) (A0 : Option Addr) (c0 : Nat) (k1 n1 : Int) (s1 : ByteArray) (x1 : Fr (Int × Int × ByteArray)) (A1 : Option Addr) (c1 : Nat), A = some ⟨b, o, none⟩ ∧ b < hi ∧ rowX kids = [txE (k0, n0, s0) (rowX x0), txE (k1, n1, s1) (rowX x1)] ∧ (x0.size < kids.size ∧ hereE (k0, n0, s0) x0.len = true ∧ okNA cntE.here x0 = true ∧ s0.size + wt gExpr x0 ≤ wt gExpr kids ∧ Sl exprC w lo hi A0 x0) ∧ (x1.size < kids.size ∧ hereE (k1, n1, s1) x1.len = true ∧ okNA cntE.here x1 = true ∧ s1.size + wt gExpr x1 ≤ wt gExpr kids ∧ Sl exprC w lo hi A1 x1) ∧ (w.cell? ⟨b, o, none⟩ = some (.int .i64 k0) ∧ w.cell? ⟨b, o + 1, none⟩ = some (.int .i64 n0) ∧ w.cell? ⟨b, o + 2, none⟩ = some (.string s0) ∧ w.cell? ⟨b, o + 3, none⟩ = some (.slice A0 x0.len c0)) ∧ (w.cell? ⟨b, o + 4, none⟩ = some (.int .i64 k1) ∧ w.cell? ⟨b, o + 4 + 1, none⟩ = some (.int .i64 n1) ∧ w.cell? ⟨b, o + 4 + 2, none⟩ = some (.string s1) ∧ w.cell? ⟨b, o + 4 + 3, none⟩ = some (.slice A1 x1.len c1)) := by
  obtain ⟨b, o, ⟨k0, n0, s0⟩, x0, A0, c0, e, hb, hd, hs, hS, q0, q1, q2, q3⟩ := at_Expr h (i := 0) (by omega)
  obtain ⟨b', o', ⟨k1, n1, s1⟩, x1, A1, c1, e', hb', hd', hs', hS', r0, r1, r2, r3⟩ := at_Expr h (i := 1) (by omega)
  rw [e] at e'
  simp only [Option.some.injEq, Addr.mk.injEq, and_true] at e'
  obtain ⟨rfl, rfl⟩ := e'
  obtain ⟨h1, h2⟩ := okNA_at hok hd
  obtain ⟨g1, g2⟩ := okNA_at hok hd'
  have h3 := wtE_at hd
  have g3 := wtE_at hd'
  have h4 := rowX_len kids
  have h5 := rowX_at (by omega) hd
  have g5 := rowX_at (by omega) hd'
  have h6 : rowX kids = [txE (k0, n0, s0) (rowX x0), txE (k1, n1, s1) (rowX x1)] := by
    rw [hl] at h4
    obtain ⟨t, u, ht⟩ := len2 h4
    simp only [ht, List.getElem_cons_zero, List.getElem_cons_succ] at h5 g5
    rw [ht, h5, g5]
  simp only [Nat.zero_mul, Nat.add_zero] at q0 q1 q2 q3
  simp only [Nat.one_mul] at r0 r1 r2 r3
  exact ⟨b, o, k0, n0, s0, x0, A0, c0, k1, n1, s1, x1, A1, c1, e, hb, h6, ⟨hs, h1, h2, h3, hS⟩, ⟨hs', g1, g2, g3, hS'⟩, ⟨q0, q1, q2, q3⟩, r0, r1, r2, r3⟩
theorem ba_nil (t : ByteArray) : (⟨#[]⟩ : ByteArray) ++ t = t := by
  apply ByteArray.ext
  rw [ByteArray.data_append]
  simp
theorem ba_end (a : ByteArray) : a ++ (⟨#[]⟩ : ByteArray) = a := by
  apply ByteArray.ext
  rw [ByteArray.data_append]
  simp
theorem jn_one (t : ByteArray) : jnS [44, 32] [t] ([t] : List ByteArray).length = t := by
  have := jnS_one [44, 32] [t] (by simp)
  rw [show ([t] : List ByteArray).length = 1 from rfl, ← this]
  exact ba_nil t
theorem kidsE_zero {k : Int} (h : k ≠ 1) {n : Int} {s : ByteArray} {len : Nat} (hh : hereE (k, n, s) len = true) : n = 0 ∧ kindE k s len = true := by
  by_cases hn : n = 0
  · subst hn
    rw [hereE_zero h] at hh
    exact ⟨rfl, hh⟩
  · rw [hereE_not h hn] at hh
    cases hh

end Go.Proofs.YtemlnpncljomgaaGreatDoor
