/- Plain law: a text's words have no blank, none is empty, each stands in the text; joined by blanks they are split again the same. No program in sight. -/
import Derived.Test.YtjpefadalinhoaaSplit
import Derived.Lib.Join
import Derived.Lib.IndexMore
import Derived.Lib.IndexBytes
namespace Go.Proofs.Ytjpefadalinhoaa
open Go.RowKit

/-- The words of a list of bytes: those of cur are the word's so far. -/
def wl : List UInt8 → List UInt8 → List (List UInt8)
  | [], cur => if cur = [] then [] else [cur]
  | b :: r, cur => if spB b.toNat = true then (if cur = [] then wl r [] else cur :: wl r []) else wl r (cur ++ [b])
/-- No blank is in it. -/
def nbL (l : List UInt8) : Prop := ∀ b ∈ l, spB b.toNat = false
theorem bt_list (s : ByteArray) (pos : Nat) (h : pos < s.data.toList.length) : btAt s pos = s.data.toList[pos].toNat := by
  unfold btAt
  simp [List.getD, List.getElem?_eq_getElem h]
theorem ext_list (s : ByteArray) (a b : Nat) : s.extract a b = ⟨((s.data.toList.drop a).take (b - a)).toArray⟩ := by
  apply ByteArray.ext
  apply Array.toList_inj.1
  simp [ByteArray.data_extract, Array.toList_extract]
/-- A list's bytes as a text. -/
def tx (l : List UInt8) : ByteArray := ⟨l.toArray⟩
theorem spans_wl (s : ByteArray) : ∀ (f pos fr : Nat) (acc : List (Nat × Nat)), pos + f = s.size → fr ≤ pos →
    ((if (spansB s f pos fr acc).2 < s.size then (spansB s f pos fr acc).1 ++ [((spansB s f pos fr acc).2, s.size)] else (spansB s f pos fr acc).1).map fun x => s.extract x.1 x.2)
      = (acc.map fun x => s.extract x.1 x.2) ++ (wl (s.data.toList.drop pos) ((s.data.toList.drop fr).take (pos - fr))).map tx := by
  have hsz := Lib.size_eq s
  intro f
  induction f with
  | zero =>
    intro pos fr acc hp hfr
    have hps : pos = s.size := by omega
    subst hps
    have hd : s.data.toList.drop s.size = [] := List.drop_eq_nil_of_le (by omega)
    rw [hd]
    show (if fr < s.size then acc ++ [(fr, s.size)] else acc).map _ = _
    by_cases h : fr < s.size
    · rw [if_pos h, wl, if_neg (by
        intro he
        have := congrArg List.length he
        rw [List.length_take, List.length_drop] at this
        simp at this
        omega)]
      rw [List.map_append, List.map_cons, List.map_nil, List.map_cons, List.map_nil, ext_list]
      rfl
    · have : fr = s.size := by omega
      subst this
      rw [if_neg h, Nat.sub_self, List.take_zero, wl, if_pos rfl, List.map_nil, List.append_nil]
  | succ f ih =>
    intro pos fr acc hp hfr
    have hlt : pos < s.data.toList.length := by omega
    rw [List.drop_eq_getElem_cons hlt, wl, ← bt_list s pos hlt, spansB]
    have hcur : (s.data.toList.drop fr).take (pos - fr) = [] ↔ fr = pos := by
      constructor
      · intro he
        have := congrArg List.length he
        rw [List.length_take, List.length_drop] at this
        simp at this
        omega
      · intro h; subst h; simp
    by_cases hb : spB (btAt s pos) = true
    · rw [if_pos hb, if_pos hb, ih (pos + 1) (pos + 1) _ (by omega) (Nat.le_refl _), Nat.sub_self, List.take_zero]
      by_cases h : fr < pos
      · rw [if_pos h, if_neg (by rw [hcur]; omega), List.map_append, List.append_assoc, List.map_cons, List.map_nil, List.map_cons, ext_list]
        rfl
      · rw [if_neg h, if_pos (by rw [hcur]; omega)]
    · rw [if_neg hb, if_neg hb, ih (pos + 1) fr acc (by omega) (by omega)]
      congr 3
      rw [show pos + 1 - fr = (pos - fr) + 1 by omega, List.take_add_one, List.getElem?_drop, show fr + (pos - fr) = pos by omega, List.getElem?_eq_getElem hlt]
      rfl
theorem words_wl (s : ByteArray) : wordsOf s = (wl s.data.toList []).map tx := by
  have := spans_wl s s.size 0 0 [] (by omega) (Nat.le_refl _)
  unfold wordsOf
  rw [this]
  simp
theorem wl_app : ∀ (x r cur : List UInt8), nbL x → wl (x ++ r) cur = wl r (cur ++ x)
  | [], r, cur, _ => by simp
  | b :: x, r, cur, h => by
    rw [List.cons_append, wl, if_neg (by rw [h b (List.mem_cons_self ..)]; exact Bool.false_ne_true), wl_app x r _ (fun c hc => h c (List.mem_cons_of_mem _ hc))]
    simp
theorem wl_good : ∀ (l cur : List UInt8), nbL cur → ∀ x ∈ wl l cur, nbL x ∧ x ≠ []
  | [], cur, hc, x, hx => by
    rw [wl] at hx
    split at hx
    · cases hx
    · simp at hx; subst hx; exact ⟨hc, by assumption⟩
  | b :: r, cur, hc, x, hx => by
    rw [wl] at hx
    have n0 : nbL [] := fun _ h => by cases h
    split at hx
    · split at hx
      · exact wl_good r [] n0 x hx
      · rcases List.mem_cons.1 hx with rfl | h
        · exact ⟨hc, by assumption⟩
        · exact wl_good r [] n0 x h
    · refine wl_good r _ ?_ x hx
      intro c h
      rcases List.mem_append.1 h with h | h
      · exact hc c h
      · simp at h; subst h; simpa using (by assumption : ¬ spB c.toNat = true)
theorem wl_in : ∀ (l cur : List UInt8), ∀ x ∈ wl l cur, ∃ p q, cur ++ l = p ++ x ++ q
  | [], cur, x, hx => by
    rw [wl] at hx
    split at hx
    · cases hx
    · simp at hx; subst hx; exact ⟨[], [], by simp⟩
  | b :: r, cur, x, hx => by
    rw [wl] at hx
    split at hx
    · split at hx
      · obtain ⟨p, q, h⟩ := wl_in r [] x hx
        exact ⟨cur ++ b :: p, q, by rw [List.nil_append] at h; rw [h]; simp⟩
      · rcases List.mem_cons.1 hx with rfl | h
        · exact ⟨[], b :: r, by simp⟩
        · obtain ⟨p, q, h⟩ := wl_in r [] x h
          exact ⟨cur ++ b :: p, q, by rw [List.nil_append] at h; rw [h]; simp⟩
    · obtain ⟨p, q, h⟩ := wl_in r _ x hx
      exact ⟨p, q, by rw [← h]; simp⟩
theorem wl_join : ∀ (xs : List (List UInt8)), (∀ x ∈ xs, nbL x ∧ x ≠ []) → ∀ cur, nbL cur → cur ≠ [] → wl (xs.flatMap fun x => 32 :: x) cur = cur :: xs
  | [], _, cur, _, h => by simp [wl, h]
  | x :: xs, hx, cur, hc, h => by
    obtain ⟨h1, h2⟩ := hx x (List.mem_cons_self ..)
    rw [List.flatMap_cons, List.cons_append, wl, if_pos (by decide), if_neg h, wl_app x _ [] h1, List.nil_append, wl_join xs (fun y hy => hx y (List.mem_cons_of_mem _ hy)) x h1 h2]
theorem wl_joined (xs : List (List UInt8)) (hx : ∀ x ∈ xs, nbL x ∧ x ≠ []) : wl (Lib.join xs [32]) [] = xs := by
  match xs, hx with
  | [], _ => rfl
  | x :: xs, hx =>
    obtain ⟨h1, h2⟩ := hx x (List.mem_cons_self ..)
    rw [Lib.join_cons, wl_app x _ [] h1, List.nil_append]
    have : Lib.joinTail [32] xs = xs.flatMap fun x => 32 :: x := by
      unfold Lib.joinTail
      rw [List.flatMap_def]
      rfl
    rw [this, wl_join xs (fun y hy => hx y (List.mem_cons_of_mem _ hy)) x h1 h2]
theorem wl_sum : ∀ (l cur : List UInt8), ((wl l cur).map fun x => x.length + 1).sum ≤ l.length + cur.length + 1
  | [], cur => by
    rw [wl]
    split <;> simp
  | b :: r, cur => by
    rw [wl]
    split
    · split
      · have := wl_sum r []
        simp at this ⊢
        omega
      · have := wl_sum r []
        simp at this ⊢
        omega
    · have := wl_sum r (cur ++ [b])
      simp at this ⊢
      omega
/-- What is asked of each word. -/
def WordOk (s z : ByteArray) : Prop := z.data.toList ≠ [] ∧ Lib.index z.data.toList [32] = -1 ∧ Lib.index z.data.toList [9] = -1 ∧ 0 ≤ Lib.index s.data.toList z.data.toList ∧ z.size ≤ s.size
theorem nb_index {l : List UInt8} (h : nbL l) (c : UInt8) (hc : spB c.toNat = true) : Lib.index l [c] = -1 := by
  rw [Lib.index_one]
  induction l with
  | nil => rfl
  | cons b r ih =>
    have hb := h b (List.mem_cons_self ..)
    have hne : ¬ b = c := by rintro rfl; rw [hb] at hc; exact Bool.false_ne_true hc
    have := ih (fun x hx => h x (List.mem_cons_of_mem _ hx))
    simp [Lib.indexByte, hne, this]
theorem words_ok (s : ByteArray) : ∀ z ∈ wordsOf s, WordOk s z := by
  intro z hz
  rw [words_wl] at hz
  obtain ⟨x, hx, rfl⟩ := List.mem_map.1 hz
  have n0 : nbL [] := fun _ h => by cases h
  obtain ⟨h1, h2⟩ := wl_good _ _ n0 x hx
  obtain ⟨p, q, h⟩ := wl_in _ _ x hx
  rw [List.nil_append] at h
  have e : (tx x).data.toList = x := by simp [tx]
  refine ⟨by rw [e]; exact h2, by rw [e]; exact nb_index h1 32 (by decide), by rw [e]; exact nb_index h1 9 (by decide), ?_, ?_⟩
  · rw [e]
    rcases Lib.index_spec s.data.toList x with ⟨_, hn⟩ | ⟨i, hi, _⟩
    · have := hn p.length (by rw [h]; simp)
      rw [h] at this
      unfold Lib.occAt at this
      rw [List.append_assoc, List.drop_left] at this
      have hp : x.isPrefixOf (x ++ q) = true := List.isPrefixOf_iff_prefix.2 (List.prefix_append _ _)
      rw [hp] at this
      cases this
    · rw [hi]; omega
  · rw [Lib.size_eq, Lib.size_eq s, e, h]
    simp
    omega
theorem words_again (s : ByteArray) : wordsOf (tx (Lib.join ((wordsOf s).map (·.data.toList)) [32])) = wordsOf s := by
  have e : (wordsOf s).map (·.data.toList) = wl s.data.toList [] := by
    rw [words_wl, List.map_map]
    have : (fun x : ByteArray => x.data.toList) ∘ tx = id := by funext x; simp [tx]
    rw [this, List.map_id]
  rw [e, words_wl (tx _)]
  have n0 : nbL [] := fun _ h => by cases h
  have : (tx (Lib.join (wl s.data.toList []) [32])).data.toList = Lib.join (wl s.data.toList []) [32] := by simp [tx]
  rw [this, wl_joined _ (fun x hx => wl_good _ _ n0 x hx), ← words_wl]

end Go.Proofs.Ytjpefadalinhoaa
