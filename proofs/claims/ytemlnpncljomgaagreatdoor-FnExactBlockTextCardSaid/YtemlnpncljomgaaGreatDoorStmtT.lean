import Derived.Test.YtemlnpncljomgaaGreatDoorStmtOk
import Derived.Test.YtemlnpncljomgaaGreatDoorExprTx
namespace Go.Proofs.YtemlnpncljomgaaGreatDoor
open Go.RowKit

def stx (a : Int × ByteArray × ByteArray) (x : List ByteArray) (P Q : ByteArray) (q : Bool) : ByteArray :=
  if a.1 = 1 then (((⟨#[112, 114, 105, 110, 116, 32]⟩ : ByteArray) ++ (jnS [44, 32] x x.length)) ++ ⟨#[59]⟩)
  else if a.1 = 2 then (((a.2.1 ++ ⟨#[32, 61, 32]⟩) ++ (x.getD 0 ⟨#[]⟩)) ++ ⟨#[59]⟩)
  else if a.1 = 3 then (((((a.2.1 ++ ⟨#[91]⟩) ++ (x.getD 0 ⟨#[]⟩)) ++ ⟨#[93, 32, 61, 32]⟩) ++ (x.getD 1 ⟨#[]⟩)) ++ ⟨#[59]⟩)
  else if a.1 = 4 then (((((⟨#[36]⟩ : ByteArray) ++ (x.getD 0 ⟨#[]⟩)) ++ ⟨#[32, 61, 32]⟩) ++ (x.getD 1 ⟨#[]⟩)) ++ ⟨#[59]⟩)
  else if a.1 = 5 then (if q = true then ((((((⟨#[105, 102, 32, 40]⟩ : ByteArray) ++ (x.getD 0 ⟨#[]⟩)) ++ ⟨#[41, 32]⟩) ++ P) ++ ⟨#[32, 101, 108, 115, 101, 32]⟩) ++ Q) else ((((⟨#[105, 102, 32, 40]⟩ : ByteArray) ++ (x.getD 0 ⟨#[]⟩)) ++ ⟨#[41, 32]⟩) ++ P))
  else if a.1 = 6 then ((((⟨#[119, 104, 105, 108, 101, 32, 40]⟩ : ByteArray) ++ (x.getD 0 ⟨#[]⟩)) ++ ⟨#[41, 32]⟩) ++ P)
  else if a.1 = 7 then ((((((⟨#[102, 111, 114, 32, 40]⟩ : ByteArray) ++ a.2.1) ++ ⟨#[32, 105, 110, 32]⟩) ++ a.2.2) ++ ⟨#[41, 32]⟩) ++ P)
  else if a.1 = 8 then (⟨#[110, 101, 120, 116, 59]⟩ : ByteArray)
  else if a.1 = 9 then (((⟨#[101, 120, 105, 116, 32]⟩ : ByteArray) ++ (x.getD 0 ⟨#[]⟩)) ++ ⟨#[59]⟩)
  else if a.1 = 10 then (((⟨#[114, 101, 116, 117, 114, 110, 32]⟩ : ByteArray) ++ (x.getD 0 ⟨#[]⟩)) ++ ⟨#[59]⟩)
  else if a.1 = 11 then (((((⟨#[100, 101, 108, 101, 116, 101, 32]⟩ : ByteArray) ++ a.2.1) ++ ⟨#[91]⟩) ++ (x.getD 0 ⟨#[]⟩)) ++ ⟨#[93, 59]⟩)
  else if a.1 = 12 then ((x.getD 0 ⟨#[]⟩) ++ ⟨#[59]⟩)
  else ⟨#[]⟩
def blkS : List ByteArray → ByteArray
  | l => l.foldl (fun s t => (s ++ t) ++ ⟨#[32]⟩) ⟨#[123, 32]⟩
theorem blkS_snoc (l : List ByteArray) (t : ByteArray) : blkS (l ++ [t]) = (blkS l ++ t) ++ ⟨#[32]⟩ := by unfold blkS; rw [List.foldl_append]; rfl
theorem blkS_succ {l : List ByteArray} {k : Nat} (h : k < l.length) : blkS (l.take (k + 1)) = (blkS (l.take k) ++ l[k]) ++ ⟨#[32]⟩ := by rw [List.take_succ_eq_append_getElem h, blkS_snoc]
def blkT (l : List ByteArray) : ByteArray := blkS l ++ ⟨#[125]⟩
def lenB (l : List ByteArray) : Nat := (l.map fun x => x.size + 1).sum
theorem blkS_size (l : List ByteArray) : ∀ k, k ≤ l.length → (blkS (l.take k)).size = 2 + lenB (l.take k) := by
  intro k
  induction k with
  | zero => intro _; rfl
  | succ k ih =>
    intro hk
    rw [blkS_succ (by omega), ByteArray.size_append, ByteArray.size_append, ih (by omega), List.take_succ_eq_append_getElem (by omega)]
    have e : (⟨#[32]⟩ : ByteArray).size = 1 := rfl
    rw [e]
    unfold lenB
    rw [List.map_append, List.sum_append]
    simp
    omega
theorem lenB_take (l : List ByteArray) (k : Nat) : lenB (l.take k) ≤ lenB l := by
  unfold lenB
  conv => rhs; rw [← List.take_append_drop k l, List.map_append, List.sum_append]
  omega
theorem blkT_size (l : List ByteArray) : (blkT l).size = 3 + lenB l := by
  have h := blkS_size l l.length (Nat.le_refl _)
  rw [List.take_length] at h
  unfold blkT
  rw [ByteArray.size_append, h]
  have e : (⟨#[125]⟩ : ByteArray).size = 1 := rfl
  omega
theorem stx_size (a : Int × ByteArray × ByteArray) (x : List ByteArray) (P Q : ByteArray) (q : Bool) : (stx a x P Q q).size ≤ 20 + a.2.1.size + a.2.2.size + lenX x + P.size + Q.size := by
  have h1 := jnX_all x
  have h2 := getX_two x
  unfold stx
  by_cases h1_ : a.1 = 1
  · rw [if_pos h1_]
    simp only [ByteArray.size_append]
    have c0 : (⟨#[112, 114, 105, 110, 116, 32]⟩ : ByteArray).size = 6 := rfl
    have c2 : (⟨#[59]⟩ : ByteArray).size = 1 := rfl
    omega
  rw [if_neg h1_]
  by_cases h2_ : a.1 = 2
  · rw [if_pos h2_]
    simp only [ByteArray.size_append]
    have c1 : (⟨#[32, 61, 32]⟩ : ByteArray).size = 3 := rfl
    have c3 : (⟨#[59]⟩ : ByteArray).size = 1 := rfl
    omega
  rw [if_neg h2_]
  by_cases h3_ : a.1 = 3
  · rw [if_pos h3_]
    simp only [ByteArray.size_append]
    have c1 : (⟨#[91]⟩ : ByteArray).size = 1 := rfl
    have c3 : (⟨#[93, 32, 61, 32]⟩ : ByteArray).size = 4 := rfl
    have c5 : (⟨#[59]⟩ : ByteArray).size = 1 := rfl
    omega
  rw [if_neg h3_]
  by_cases h4_ : a.1 = 4
  · rw [if_pos h4_]
    simp only [ByteArray.size_append]
    have c0 : (⟨#[36]⟩ : ByteArray).size = 1 := rfl
    have c2 : (⟨#[32, 61, 32]⟩ : ByteArray).size = 3 := rfl
    have c4 : (⟨#[59]⟩ : ByteArray).size = 1 := rfl
    omega
  rw [if_neg h4_]
  by_cases h5_ : a.1 = 5
  · rw [if_pos h5_]
    cases q
    all_goals
      simp only [Bool.false_eq_true, if_true, if_false, ByteArray.size_append]
      have c0 : (⟨#[105, 102, 32, 40]⟩ : ByteArray).size = 4 := rfl
      have c2 : (⟨#[41, 32]⟩ : ByteArray).size = 2 := rfl
      have c4 : (⟨#[32, 101, 108, 115, 101, 32]⟩ : ByteArray).size = 6 := rfl
      omega
  rw [if_neg h5_]
  by_cases h6_ : a.1 = 6
  · rw [if_pos h6_]
    simp only [ByteArray.size_append]
    have c0 : (⟨#[119, 104, 105, 108, 101, 32, 40]⟩ : ByteArray).size = 7 := rfl
    have c2 : (⟨#[41, 32]⟩ : ByteArray).size = 2 := rfl
    omega
  rw [if_neg h6_]
  by_cases h7_ : a.1 = 7
  · rw [if_pos h7_]
    simp only [ByteArray.size_append]
    have c0 : (⟨#[102, 111, 114, 32, 40]⟩ : ByteArray).size = 5 := rfl
    have c2 : (⟨#[32, 105, 110, 32]⟩ : ByteArray).size = 4 := rfl
    have c4 : (⟨#[41, 32]⟩ : ByteArray).size = 2 := rfl
    omega
  rw [if_neg h7_]
  by_cases h8_ : a.1 = 8
  · rw [if_pos h8_]
    have c0 : (⟨#[110, 101, 120, 116, 59]⟩ : ByteArray).size = 5 := rfl
    omega
  rw [if_neg h8_]
  by_cases h9_ : a.1 = 9
  · rw [if_pos h9_]
    simp only [ByteArray.size_append]
    have c0 : (⟨#[101, 120, 105, 116, 32]⟩ : ByteArray).size = 5 := rfl
    have c2 : (⟨#[59]⟩ : ByteArray).size = 1 := rfl
    omega
  rw [if_neg h9_]
  by_cases h10_ : a.1 = 10
  · rw [if_pos h10_]
    simp only [ByteArray.size_append]
    have c0 : (⟨#[114, 101, 116, 117, 114, 110, 32]⟩ : ByteArray).size = 7 := rfl
    have c2 : (⟨#[59]⟩ : ByteArray).size = 1 := rfl
    omega
  rw [if_neg h10_]
  by_cases h11_ : a.1 = 11
  · rw [if_pos h11_]
    simp only [ByteArray.size_append]
    have c0 : (⟨#[100, 101, 108, 101, 116, 101, 32]⟩ : ByteArray).size = 7 := rfl
    have c2 : (⟨#[91]⟩ : ByteArray).size = 1 := rfl
    have c4 : (⟨#[93, 59]⟩ : ByteArray).size = 2 := rfl
    omega
  rw [if_neg h11_]
  by_cases h12_ : a.1 = 12
  · rw [if_pos h12_]
    simp only [ByteArray.size_append]
    have c1 : (⟨#[59]⟩ : ByteArray).size = 1 := rfl
    omega
  rw [if_neg h12_]
  exact Nat.zero_le _
def rowS : St → List ByteArray
  | .nil => []
  | .cons a x p q r => stx a (rowX x) (blkT (rowS p)) (blkT (rowS q)) (decide (0 < q.len)) :: rowS r
theorem rowS_len : ∀ s : St, (rowS s).length = s.len
  | .nil => rfl
  | .cons _ _ _ _ r => by show (rowS r).length + 1 = r.len + 1; rw [rowS_len r]
theorem rowS_drop : ∀ (s : St) (i : Nat), rowS (s.drop i) = (rowS s).drop i
  | s, 0 => by rw [St.drop_zero]; rfl
  | .nil, i + 1 => rfl
  | .cons _ _ _ _ r, i + 1 => rowS_drop r i
theorem rowS_at {s : St} {i : Nat} {a : Int × ByteArray × ByteArray} {x : Fr (Int × Int × ByteArray)} {p q : St} (hi : i < s.len) (h : s.drop i = .cons a x p q (s.drop (i + 1))) : (rowS s)[i]'(by rw [rowS_len]; exact hi) = stx a (rowX x) (blkT (rowS p)) (blkT (rowS q)) (decide (0 < q.len)) := by
  have h1 := rowS_drop s i
  rw [h, List.drop_eq_getElem_cons (by rw [rowS_len]; exact hi)] at h1
  injection h1 with h2 h3
  exact h2.symm
theorem lenB_wt : ∀ s : St, lenB (rowS s) ≤ 62 * wtS gExpr s
  | .nil => Nat.le_refl _
  | .cons a x p q r => by
    have h1 := stx_size a (rowX x) (blkT (rowS p)) (blkT (rowS q)) (decide (0 < q.len))
    have h2 := lenX_wt x
    have h3 := lenB_wt p
    have h4 := lenB_wt q
    have h5 := lenB_wt r
    rw [blkT_size, blkT_size] at h1
    show (stx a (rowX x) (blkT (rowS p)) (blkT (rowS q)) (decide (0 < q.len))).size + 1 + lenB (rowS r) ≤ 62 * (1 + (a.2.1.size + a.2.2.size) + wt gExpr x + wtS gExpr p + wtS gExpr q + wtS gExpr r)
    omega
noncomputable def stO (a : Int × ByteArray × ByteArray) (x : Fr (Int × Int × ByteArray)) (p q : St) : ByteArray := if rightN cntS (a, x, p.len, q.len) (p.fr.app q.fr) = true then stx a (rowX x) (blkT (rowS p)) (blkT (rowS q)) (decide (0 < q.len)) else ⟨#[]⟩
noncomputable def rowO : St → List ByteArray
  | .nil => []
  | .cons a x p q r => stO a x p q :: rowO r
theorem rowO_len : ∀ s : St, (rowO s).length = s.len
  | .nil => rfl
  | .cons _ _ _ _ r => by show (rowO r).length + 1 = r.len + 1; rw [rowO_len r]
theorem rowO_drop : ∀ (s : St) (i : Nat), rowO (s.drop i) = (rowO s).drop i
  | s, 0 => by rw [St.drop_zero]; rfl
  | .nil, i + 1 => rfl
  | .cons _ _ _ _ r, i + 1 => rowO_drop r i
theorem rowO_at {s : St} {i : Nat} {a : Int × ByteArray × ByteArray} {x : Fr (Int × Int × ByteArray)} {p q : St} (hi : i < s.len) (h : s.drop i = .cons a x p q (s.drop (i + 1))) : (rowO s)[i]'(by rw [rowO_len]; exact hi) = stO a x p q := by
  have h1 := rowO_drop s i
  rw [h, List.drop_eq_getElem_cons (by rw [rowO_len]; exact hi)] at h1
  injection h1 with h2 h3
  exact h2.symm
theorem stO_size (a : Int × ByteArray × ByteArray) (x : Fr (Int × Int × ByteArray)) (p q : St) : (stO a x p q).size ≤ 62 * (1 + (a.2.1.size + a.2.2.size) + wt gExpr x + wtS gExpr p + wtS gExpr q) := by
  unfold stO
  split
  · have h1 := stx_size a (rowX x) (blkT (rowS p)) (blkT (rowS q)) (decide (0 < q.len))
    have h2 := lenX_wt x
    have h3 := lenB_wt p
    have h4 := lenB_wt q
    rw [blkT_size, blkT_size] at h1
    omega
  · exact Nat.zero_le _
theorem lenO_wt : ∀ s : St, lenB (rowO s) ≤ 63 * wtS gExpr s
  | .nil => Nat.le_refl _
  | .cons a x p q r => by
    have h1 := stO_size a x p q
    have h5 := lenO_wt r
    show (stO a x p q).size + 1 + lenB (rowO r) ≤ 63 * (1 + (a.2.1.size + a.2.2.size) + wt gExpr x + wtS gExpr p + wtS gExpr q + wtS gExpr r)
    omega
theorem okN_down {α : Type} (N : Cnt α) : ∀ (d : Int) (fr : Fr α), okN N (d + 1) fr = true → okN N d fr = true
  | _, .nil, _ => rfl
  | d, .cons a k r, h => by
    rw [okN, Bool.and_eq_true, Bool.and_eq_true, Bool.and_eq_true, decide_eq_true_eq] at h
    rw [okN, h.1.2.1, okN_down N (d + 1) k h.1.2.2, okN_down N d r h.2, decide_eq_true (show d ≤ N.D by omega)]
    rfl
theorem okN_app {α : Type} (N : Cnt α) (d : Int) : ∀ (a b : Fr α), okN N d (a.app b) = (okN N d a && okN N d b)
  | .nil, b => rfl
  | .cons a k r, b => by rw [Fr.app, okN, okN, okN_app N d r b]; simp only [Bool.and_assoc]
theorem row_right : ∀ (s : St), okN cntS 2 s.fr = true → s.fr.size ≤ 60 → rowO s = rowS s
  | .nil, _, _ => rfl
  | .cons a x p q r, h, hs => by
    rw [St.fr, okN, Bool.and_eq_true, Bool.and_eq_true, Bool.and_eq_true] at h
    obtain ⟨⟨_, h1, h2⟩, h3⟩ := h
    rw [St.fr, Fr.size] at hs
    have hr : rightN cntS (a, x, p.len, q.len) (p.fr.app q.fr) = true := by
      unfold rightN
      rw [h1, okN_down cntS 2 _ h2, decide_eq_true (show (((p.fr.app q.fr).size + 1 : Nat) : Int) ≤ cntS.M by show _ ≤ (60 : Int); omega)]
      rfl
    show stO a x p q :: rowO r = _ :: rowS r
    rw [row_right r h3 (by omega)]
    unfold stO
    rw [if_pos hr]
theorem rightS_parts {a : Int × ByteArray × ByteArray} {x : Fr (Int × Int × ByteArray)} {p q : St} (h : rightN cntS (a, x, p.len, q.len) (p.fr.app q.fr) = true) :
    termsB x = true ∧ headS a.1 a.2.1 a.2.2 x p.len q.len = true ∧ rowO p = rowS p ∧ rowO q = rowS q ∧ okNA cntS.here p.fr = true ∧ okNA cntS.here q.fr = true := by
  unfold rightN at h
  rw [Bool.and_eq_true, Bool.and_eq_true, decide_eq_true_eq] at h
  obtain ⟨⟨h1, h2⟩, h3⟩ := h
  have h1' : (termsB x && headS a.1 a.2.1 a.2.2 x p.len q.len) = true := h1
  rw [Bool.and_eq_true] at h1'
  have h2' := h2
  rw [okN_app, Bool.and_eq_true] at h2
  rw [okN_split, Bool.and_eq_true, okNA_app, Bool.and_eq_true] at h2'
  have h3' : (((p.fr.app q.fr).size + 1 : Nat) : Int) ≤ 60 := h3
  rw [Fr.app_size] at h3'
  exact ⟨h1'.1, h1'.2, row_right p h2.1 (by omega), row_right q h2.2 (by omega), h2'.2.1, h2'.2.2⟩
theorem termsB_ok : ∀ (x : Fr (Int × Int × ByteArray)), termsB x = true → okNA cntE.here x = true
  | .nil, _ => rfl
  | .cons a k r, h => by
    rw [termsB, Bool.and_eq_true] at h
    have := right_parts h.1
    rw [okNA, show cntE.here a k = true from this.1, this.2, termsB_ok r h.2]
    rfl
theorem hereS_at {s : St} {i : Nat} {a : Int × ByteArray × ByteArray} {x : Fr (Int × Int × ByteArray)} {p q : St} (h : okNA cntS.here s.fr = true) (hd : s.drop i = .cons a x p q (s.drop (i + 1))) : termsB x = true ∧ headS a.1 a.2.1 a.2.2 x p.len q.len = true ∧ okNA cntS.here p.fr = true ∧ okNA cntS.here q.fr = true := by
  have hdr : ∀ (y : St) (i : Nat), okNA cntS.here y.fr = true → okNA cntS.here (y.drop i).fr = true := by
    intro y
    induction y with
    | nil => intro i _; cases i <;> rfl
    | cons a x p q r _ _ ih2 =>
      intro i h
      cases i with
      | zero => rw [St.drop_zero]; exact h
      | succ i =>
        rw [St.fr, okNA, Bool.and_eq_true] at h
        exact ih2 i h.2
  have h1 := hdr s i h
  rw [hd, St.fr, okNA, Bool.and_eq_true, Bool.and_eq_true, okNA_app, Bool.and_eq_true] at h1
  obtain ⟨⟨h2, h3⟩, _⟩ := h1
  have h2' : (termsB x && headS a.1 a.2.1 a.2.2 x p.len q.len) = true := h2
  rw [Bool.and_eq_true] at h2'
  exact ⟨h2'.1, h2'.2, h3⟩
theorem wtS_at {s : St} {i : Nat} {a : Int × ByteArray × ByteArray} {x : Fr (Int × Int × ByteArray)} {p q : St} (hd : s.drop i = .cons a x p q (s.drop (i + 1))) : 1 + (a.2.1.size + a.2.2.size) + wt gExpr x + wtS gExpr p + wtS gExpr q ≤ wtS gExpr s := by
  have hdr : ∀ (y : St) (i : Nat), wtS gExpr (y.drop i) ≤ wtS gExpr y := by
    intro y
    induction y with
    | nil => intro i; cases i <;> exact Nat.le_refl _
    | cons a x p q r _ _ ih2 =>
      intro i
      cases i with
      | zero => rw [St.drop_zero]; exact Nat.le_refl _
      | succ i =>
        have := ih2 i
        show wtS gExpr (r.drop i) ≤ wtS gExpr (St.cons a x p q r)
        simp only [wtS]
        omega
  have h := hdr s i
  rw [hd] at h
  simp only [wtS] at h
  omega

end Go.Proofs.YtemlnpncljomgaaGreatDoor
