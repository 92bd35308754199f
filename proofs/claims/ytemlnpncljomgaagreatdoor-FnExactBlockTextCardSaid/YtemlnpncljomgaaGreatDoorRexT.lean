import Derived.Test.YtemlnpncljomgaaGreatDoorRexP
import Derived.Test.YtemlnpncljomgaaGreatDoorQ1
import Derived.Lib.Join
namespace Go.Proofs.YtemlnpncljomgaaGreatDoor
open Go.RowKit

theorem tb_append (l m : List UInt8) : (⟨l.toArray⟩ : ByteArray) ++ ⟨m.toArray⟩ = ⟨(l ++ m).toArray⟩ := by
  apply ByteArray.ext
  rw [ByteArray.data_append]
  simp
theorem tb_self (x : ByteArray) : x = ⟨x.data.toList.toArray⟩ := by cases x; simp
def jnS (sep : List UInt8) (xs : List ByteArray) (k : Nat) : ByteArray := ⟨(Lib.join ((xs.map (·.data.toList)).take k) sep).toArray⟩
theorem jnS_zero (sep : List UInt8) (xs : List ByteArray) : jnS sep xs 0 = ⟨#[]⟩ := rfl
theorem jnS_one (sep : List UInt8) (xs : List ByteArray) (h : 0 < xs.length) : (⟨#[]⟩ : ByteArray) ++ xs[0] = jnS sep xs 1 := by
  match xs, h with
  | x :: r, _ =>
    unfold jnS
    rw [tb_self (x :: r)[0], show (⟨#[]⟩ : ByteArray) = ⟨([] : List UInt8).toArray⟩ from rfl, tb_append]
    simp [Lib.join]
theorem jnS_succ (sep : List UInt8) (xs : List ByteArray) (k : Nat) (hk : k < xs.length) (h0 : 0 < k) : jnS sep xs k ++ ⟨sep.toArray⟩ ++ xs[k] = jnS sep xs (k + 1) := by
  match xs, hk with
  | x :: r, hk =>
    obtain ⟨j, rfl⟩ : ∃ j, k = j + 1 := ⟨k - 1, by omega⟩
    have hj : j < r.length := by simpa using hk
    unfold jnS
    rw [tb_self (x :: r)[j + 1], tb_append, tb_append]
    congr 2
    simp only [List.map_cons, List.take_succ_cons, List.getElem_cons_succ]
    rw [Lib.join_cons, Lib.join_cons, List.take_add_one, List.getElem?_map, List.getElem?_eq_getElem hj]
    unfold Lib.joinTail
    simp
theorem jnS_all (sep : List UInt8) (xs : List ByteArray) : jnS sep xs xs.length = ⟨(Lib.join (xs.map (·.data.toList)) sep).toArray⟩ := by
  unfold jnS
  rw [List.take_of_length_le (by simp)]
theorem jnS_cat (xs : List ByteArray) (k : Nat) (hk : k < xs.length) : jnS [] xs k ++ xs[k] = jnS [] xs (k + 1) := by
  rcases Nat.eq_zero_or_pos k with rfl | h0
  · rw [jnS_zero, jnS_one [] xs hk]
  · rw [← jnS_succ [] xs k hk h0]
    congr 1
    apply ByteArray.ext
    rw [ByteArray.data_append]
    simp
def brack (t : ByteArray) : ByteArray := ⟨#[40]⟩ ++ t ++ ⟨#[41]⟩
def wrapT (ks : List Int) (k : Int) (t : ByteArray) : ByteArray := if ks.contains k then brack t else t
def oneT : List (Int × ByteArray) → ByteArray
  | [] => ⟨#[]⟩
  | x :: _ => wrapT [4, 5] x.1 x.2
def textOf (k : Int) (s : ByteArray) (l : List (Int × ByteArray)) : ByteArray :=
  if k = 1 then s else if k = 2 then ⟨#[46]⟩ else if k = 3 then ⟨#[91]⟩ ++ s ++ ⟨#[93]⟩
  else if k = 4 then jnS [] (l.map fun x => wrapT [5] x.1 x.2) l.length
  else if k = 5 then jnS [124] (l.map fun x => wrapT [5] x.1 x.2) l.length
  else if k = 6 then oneT l ++ ⟨#[42]⟩ else if k = 7 then oneT l ++ ⟨#[43]⟩ else if k = 8 then oneT l ++ ⟨#[63]⟩
  else if k = 10 then ⟨#[94]⟩ else if k = 11 then ⟨#[36]⟩ else ⟨#[40, 41]⟩
def rowT : Fr (Int × ByteArray) → List (Int × ByteArray)
  | .nil => []
  | .cons a k r => (a.1, textOf a.1 a.2 (rowT k)) :: rowT r
theorem rowT_len : ∀ fr : Fr (Int × ByteArray), (rowT fr).length = fr.len
  | .nil => rfl
  | .cons _ _ r => by show (rowT r).length + 1 = r.len + 1; rw [rowT_len r]
theorem rowT_drop : ∀ (fr : Fr (Int × ByteArray)) (i : Nat), rowT (fr.drop i) = (rowT fr).drop i
  | fr, 0 => by rw [Fr.drop_zero]; rfl
  | .nil, i + 1 => rfl
  | .cons _ _ r, i + 1 => rowT_drop r i
theorem rowT_at {fr : Fr (Int × ByteArray)} {i : Nat} {a : Int × ByteArray} {k : Fr (Int × ByteArray)} (hi : i < fr.len) (h : fr.drop i = .cons a k (fr.drop (i + 1))) : (rowT fr)[i]'(by rw [rowT_len]; exact hi) = (a.1, textOf a.1 a.2 (rowT k)) := by
  have h1 := rowT_drop fr i
  rw [h, List.drop_eq_getElem_cons (by rw [rowT_len]; exact hi)] at h1
  injection h1 with h2 h3
  exact h2.symm
def lenS (l : List (Int × ByteArray)) : Nat := (l.map fun x => x.2.size + 3).sum
theorem wrapT_size (ks : List Int) (k : Int) (t : ByteArray) : (wrapT ks k t).size ≤ t.size + 2 := by
  unfold wrapT brack
  split
  · rw [ByteArray.size_append, ByteArray.size_append]
    have e1 : (⟨#[40]⟩ : ByteArray).size = 1 := rfl
    have e2 : (⟨#[41]⟩ : ByteArray).size = 1 := rfl
    omega
  · omega
theorem jnS_size (sep : List UInt8) (hs : sep.length ≤ 1) : ∀ (l : List (Int × ByteArray)) (k : Nat), k ≤ l.length → (jnS sep (l.map fun x => wrapT [5] x.1 x.2) k).size ≤ lenS (l.take k) := by
  intro l k
  induction k with
  | zero => intro _; exact Nat.zero_le _
  | succ k ih =>
    intro hk
    have h1 := ih (by omega)
    have hkl : k < (l.map fun x => wrapT [5] x.1 x.2).length := by simp; omega
    have hw : ((l.map fun x => wrapT [5] x.1 x.2)[k]'hkl).size ≤ (l[k]'(by omega)).2.size + 2 := by
      rw [List.getElem_map]; exact wrapT_size _ _ _
    have hl : lenS (l.take (k + 1)) = lenS (l.take k) + ((l[k]'(by omega)).2.size + 3) := by
      unfold lenS
      rw [List.take_succ_eq_append_getElem (by omega), List.map_append, List.sum_append]
      simp
    rcases Nat.eq_zero_or_pos k with rfl | h0
    · rw [← jnS_one sep _ hkl, ByteArray.size_append]
      have e0 : (⟨#[]⟩ : ByteArray).size = 0 := rfl
      omega
    · rw [← jnS_succ sep _ k hkl h0, ByteArray.size_append, ByteArray.size_append]
      have e0 : (⟨sep.toArray⟩ : ByteArray).size = sep.length := by simp [ByteArray.size]
      omega
theorem oneT_size (l : List (Int × ByteArray)) : (oneT l).size ≤ lenS l := by
  cases l with
  | nil => exact Nat.zero_le _
  | cons x r =>
    have := wrapT_size [4, 5] x.1 x.2
    show (wrapT [4, 5] x.1 x.2).size ≤ _
    unfold lenS
    rw [List.map_cons, List.sum_cons]
    omega
theorem textOf_size (k : Int) (s : ByteArray) (l : List (Int × ByteArray)) : (textOf k s l).size ≤ s.size + 2 + lenS l := by
  unfold textOf
  have c1 : ∀ b : UInt8, (⟨#[b]⟩ : ByteArray).size = 1 := fun _ => rfl
  have c2 : (⟨#[40, 41]⟩ : ByteArray).size = 2 := rfl
  have j1 := jnS_size [] (by simp) l l.length (Nat.le_refl _)
  have j2 := jnS_size [124] (by simp) l l.length (Nat.le_refl _)
  rw [List.take_length] at j1 j2
  have o1 := oneT_size l
  repeat' split
  all_goals (try simp only [ByteArray.size_append, c1, c2])
  all_goals omega
theorem lenS_wt : ∀ fr : Fr (Int × ByteArray), lenS (rowT fr) ≤ 5 * wt gRex fr
  | .nil => Nat.zero_le _
  | .cons a k r => by
    have h1 := lenS_wt k
    have h2 := lenS_wt r
    have h3 := textOf_size a.1 a.2 (rowT k)
    show lenS ((a.1, textOf a.1 a.2 (rowT k)) :: rowT r) ≤ _
    unfold lenS at h1 h2 h3 ⊢
    rw [List.map_cons, List.sum_cons]
    simp only [wt, gRex]
    omega

end Go.Proofs.YtemlnpncljomgaaGreatDoor
