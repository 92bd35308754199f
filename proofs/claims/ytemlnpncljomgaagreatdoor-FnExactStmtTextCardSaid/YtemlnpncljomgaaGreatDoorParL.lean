import Derived.Test.YtemlnpncljomgaaGreatDoorParW
import Derived.Test.YtemlnpncljomgaaGreatDoorRexTx
namespace Go.Proofs.YtemlnpncljomgaaGreatDoor
open Go.RowKit

theorem empt_is {s : ByteArray} (h : s.toList.isEmpty = true) : s = ⟨#[]⟩ := by
  rw [Lib.toList_data] at h
  obtain ⟨⟨l⟩⟩ := s
  cases l with
  | nil => rfl
  | cons x r => simp at h
theorem here_kinds {k : Int} {s : ByteArray} {kids : Fr (Int × ByteArray)} (h : hereB k s kids = true) :
    (k = 1 ∧ s.size = 1 ∧ oneB s = true ∧ kids = .nil) ∨ (k = 3 ∧ setB s = true ∧ kids = .nil) ∨ ((k = 2 ∨ k = 9 ∨ k = 10 ∨ k = 11) ∧ s = ⟨#[]⟩ ∧ kids = .nil) ∨
    ((k = 4 ∨ k = 5) ∧ s = ⟨#[]⟩ ∧ 2 ≤ kids.len ∧ kids.len ≤ 8 ∧ hasK k kids = false) ∨ ((k = 6 ∨ k = 7 ∨ k = 8) ∧ s = ⟨#[]⟩ ∧ ∃ a k', kids = .cons a k' .nil ∧ repB a.1 = false) := by
  have hn : ∀ fr : Fr (Int × ByteArray), fr.len = 0 → fr = .nil := fun fr h => by
    cases fr with
    | nil => rfl
    | cons a k r => simp [Fr.len] at h
  by_cases h1 : k = 1
  · subst h1
    rw [here_lit] at h
    simp only [Bool.and_eq_true, beq_iff_eq] at h
    exact .inl ⟨rfl, h.1, h.2.1, hn _ h.2.2⟩
  by_cases h3 : k = 3
  · subst h3
    rw [here_set] at h
    simp only [Bool.and_eq_true, beq_iff_eq] at h
    exact .inr (.inl ⟨rfl, h.1, hn _ h.2⟩)
  by_cases h2 : k = 2 ∨ k = 9 ∨ k = 10 ∨ k = 11
  · rw [here_leaf h2] at h
    simp only [Bool.and_eq_true, beq_iff_eq] at h
    exact .inr (.inr (.inl ⟨h2, empt_is h.1, hn _ h.2⟩))
  by_cases h4 : k = 4 ∨ k = 5
  · rw [here_many h4] at h
    simp only [Bool.and_eq_true, inI_iff, Bool.not_eq_true'] at h
    exact .inr (.inr (.inr (.inl ⟨h4, empt_is h.1, by omega, by omega, h.2.2⟩)))
  by_cases h6 : k = 6 ∨ k = 7 ∨ k = 8
  · rw [here_rep h6] at h
    simp only [Bool.and_eq_true, beq_iff_eq, Bool.not_eq_true'] at h
    refine .inr (.inr (.inr (.inr ⟨h6, empt_is h.1, ?_⟩)))
    match kids, h.2 with
    | .cons a k' r, hh =>
      have hr := hn r (by have := hh.1; simp only [Fr.len] at this; omega)
      subst hr
      exact ⟨a, k', rfl, hh.2⟩
  · exfalso
    rw [here_none (by intro j hj; simp only [List.mem_cons, List.not_mem_nil, or_false] at hj; rcases hj with rfl | rfl | rfl | rfl | rfl | rfl | rfl | rfl | rfl | rfl | rfl <;> intro e <;> subst e <;> simp_all) s kids] at h
    exact Bool.false_ne_true h
theorem here_size {k : Int} {s : ByteArray} {kids : Fr (Int × ByteArray)} (h : hereB k s kids = true) : s.size ≤ 10 := by
  rcases here_kinds h with ⟨_, h, _⟩ | ⟨_, h, _⟩ | ⟨_, h, _⟩ | ⟨_, h, _⟩ | ⟨_, h, _⟩
  · omega
  · unfold setB at h
    rw [Bool.and_eq_true, inI_iff] at h
    omega
  all_goals (subst h; exact Nat.zero_le _)
theorem okA_wt : ∀ fr : Fr (Int × ByteArray), okA fr = true → wt gRex fr ≤ 11 * fr.size
  | .nil, _ => Nat.zero_le _
  | .cons a k r, h => by
    rw [okA, Bool.and_eq_true, Bool.and_eq_true] at h
    have h1 := okA_wt k h.1.2
    have h2 := okA_wt r h.2
    have h3 := here_size h.1.1
    simp only [wt, gRex, Fr.size]
    omega
theorem okA_lenS : ∀ fr : Fr (Int × ByteArray), okA fr = true → lenS (rowT fr) ≤ 15 * fr.size
  | .nil, _ => Nat.zero_le _
  | .cons a k r, h => by
    rw [okA, Bool.and_eq_true, Bool.and_eq_true] at h
    have h1 := okA_lenS k h.1.2
    have h2 := okA_lenS r h.2
    have h3 := here_size h.1.1
    have h4 := textOf_size a.1 a.2 (rowT k)
    show lenS ((a.1, textOf a.1 a.2 (rowT k)) :: rowT r) ≤ _
    unfold lenS at h1 h2 h4 ⊢
    rw [List.map_cons, List.sum_cons]
    simp only [Fr.size]
    omega
theorem rexB_small {k : Int} {s : ByteArray} {kids : Fr (Int × ByteArray)} (h : rexB k s kids = true) : kids.size ≤ 59 ∧ s.size ≤ 10 ∧ s.size + wt gRex kids ≤ 1048576 ∧ (textOf k s (rowT kids)).size ≤ 1000 := by
  obtain ⟨h1, h2⟩ := rexB_ok h
  have hs : kids.size ≤ 59 := by
    unfold rexB at h
    rw [Bool.and_eq_true, decide_eq_true_eq] at h
    omega
  have q1 := here_size h1
  have q2 := okA_wt kids h2
  have q3 := okA_lenS kids h2
  have q4 := textOf_size k s (rowT kids)
  exact ⟨hs, q1, by omega, by omega⟩
def goodT (x : Tr) : Prop := hereB x.1.1 x.1.2 x.2 = true ∧ okA x.2 = true
def hgt : Fr (Int × ByteArray) → Nat
  | .nil => 0
  | .cons _ k r => max (hgt k + 1) (hgt r)
theorem okG_hgt : ∀ (fr : Fr (Int × ByteArray)) (d : Int), okG hereB d fr = true → d ≤ 7 → (hgt fr : Int) + d ≤ 7
  | .nil, d, _, hd => by simpa [hgt] using hd
  | .cons a k r, d, h, hd => by
    rw [okG, Bool.and_eq_true, Bool.and_eq_true, Bool.and_eq_true, decide_eq_true_eq] at h
    have h1 := okG_hgt k (d + 1) h.1.2.2 (by omega)
    have h2 := okG_hgt r d h.2 hd
    simp only [hgt]
    omega
theorem okA_cons {a : Int × ByteArray} {k r : Fr (Int × ByteArray)} (h : okA (.cons a k r) = true) : goodT (a, k) ∧ okA r = true := by
  rw [okA, Bool.and_eq_true, Bool.and_eq_true] at h
  exact ⟨h.1, h.2⟩
def txl (x : Tr) : List UInt8 := (textOf x.1.1 x.1.2 (rowT x.2)).data.toList
def wl (ks : List Int) (x : Tr) : List UInt8 := if ks.contains x.1.1 then 40 :: (txl x ++ [41]) else txl x
theorem wl_is (ks : List Int) (x : Tr) : (wrapT ks x.1.1 (textOf x.1.1 x.1.2 (rowT x.2))).data.toList = wl ks x := by
  unfold wrapT wl brack txl
  split
  · simp [ByteArray.data_append]
  · rfl
def catL : Fr (Int × ByteArray) → List UInt8
  | .nil => []
  | .cons a k r => wl [5] (a, k) ++ catL r
def altT : Fr (Int × ByteArray) → List UInt8
  | .nil => []
  | .cons a k r => 124 :: (wl [5] (a, k) ++ altT r)
theorem rowW_cons (a : Int × ByteArray) (k r : Fr (Int × ByteArray)) : (rowW (.cons a k r)).map (·.data.toList) = wl [5] (a, k) :: (rowW r).map (·.data.toList) := by
  show (wrapT [5] a.1 (textOf a.1 a.2 (rowT k))).data.toList :: _ = _
  rw [wl_is [5] (a, k)]
  rfl
theorem joinTail_cat : ∀ fr : Fr (Int × ByteArray), Lib.joinTail [] ((rowW fr).map (·.data.toList)) = catL fr
  | .nil => rfl
  | .cons a k r => by
    have := joinTail_cat r
    rw [rowW_cons, catL, ← this]
    unfold Lib.joinTail
    simp
theorem joinTail_alt : ∀ fr : Fr (Int × ByteArray), Lib.joinTail [124] ((rowW fr).map (·.data.toList)) = altT fr
  | .nil => rfl
  | .cons a k r => by
    have := joinTail_alt r
    rw [rowW_cons, altT, ← this]
    unfold Lib.joinTail
    simp
theorem txl_cat (s : ByteArray) (kids : Fr (Int × ByteArray)) : txl ((4, s), kids) = catL kids := by
  unfold txl
  rw [text_cat, ← rowW_len, jnS_all]
  show Lib.join _ [] = _
  cases kids with
  | nil => rfl
  | cons a k r => rw [rowW_cons, Lib.join_cons, joinTail_cat, catL]
theorem txl_alt (s : ByteArray) (a : Int × ByteArray) (k r : Fr (Int × ByteArray)) : txl ((5, s), .cons a k r) = wl [5] (a, k) ++ altT r := by
  unfold txl
  rw [text_alt, ← rowW_len, jnS_all]
  show Lib.join _ [124] = _
  rw [rowW_cons, Lib.join_cons, joinTail_alt]
theorem txl_rep {q : Int} (hq : q = 6 ∨ q = 7 ∨ q = 8) (s : ByteArray) (a : Int × ByteArray) (k : Fr (Int × ByteArray)) : ∃ c : UInt8, repK c.toNat = q ∧ txl ((q, s), .cons a k .nil) = wl [4, 5] (a, k) ++ [c] := by
  have hT : (oneT (rowT (.cons a k .nil))).data.toList = wl [4, 5] (a, k) := by rw [one_row rfl, wl_is [4, 5] (a, k)]
  obtain ⟨h6, h7, h8⟩ := text_rep s (rowT (.cons a k .nil))
  rcases hq with rfl | rfl | rfl
  · exact ⟨42, rfl, by unfold txl; show (textOf 6 s _).data.toList = _; rw [h6, ByteArray.data_append, Array.toList_append, hT]⟩
  · exact ⟨43, rfl, by unfold txl; show (textOf 7 s _).data.toList = _; rw [h7, ByteArray.data_append, Array.toList_append, hT]⟩
  · exact ⟨63, rfl, by unfold txl; show (textOf 8 s _).data.toList = _; rw [h8, ByteArray.data_append, Array.toList_append, hT]⟩
def hdB (c : Nat) : Prop := c ≠ 42 ∧ c ≠ 43 ∧ c ≠ 63 ∧ c ≠ 124 ∧ c ≠ 41 ∧ c ≠ 0 ∧ c ≠ 256
def HdOk (l : List UInt8) : Prop := ∃ b r, l = b :: r ∧ hdB b.toNat
set_option maxRecDepth 100000 in
theorem lit_hd : ∀ c : Nat, c < 256 → litB c = true → hdB c := by unfold hdB; decide
set_option maxRecDepth 100000 in
theorem lit_not : ∀ c : Nat, c < 256 → litB c = true → c ≠ 93 := by decide
theorem HdOk.app {l m : List UInt8} (h : HdOk l) : HdOk (l ++ m) := by
  obtain ⟨b, r, rfl, h⟩ := h
  exact ⟨b, r ++ m, rfl, h⟩
theorem wl_hd {ks : List Int} {x : Tr} (h : HdOk (txl x)) : HdOk (wl ks x) := by
  unfold wl
  split
  · exact ⟨40, _, rfl, by unfold hdB; decide⟩
  · exact h
theorem head_row : ∀ (fr : Fr (Int × ByteArray)), okA fr = true → ∀ a k r, fr = .cons a k r → HdOk (txl (a, k))
  | .nil, _, _, _, _, e => by cases e
  | .cons a k r, h, _, _, _, rfl => by
    obtain ⟨⟨h1, h2⟩, _⟩ := okA_cons h
    obtain ⟨q, s⟩ := a
    have ih := head_row k h2
    simp only at h1 h2
    rcases here_kinds h1 with ⟨rfl, e1, e2, rfl⟩ | ⟨rfl, e1, rfl⟩ | ⟨hk, rfl, rfl⟩ | ⟨hk, rfl, e1, e2, e3⟩ | ⟨hk, rfl, a', k', rfl, e1⟩
    · obtain ⟨⟨l⟩⟩ := s
      match l, e1, e2 with
      | [b], _, e2 =>
        refine ⟨b, [], rfl, lit_hd _ b.toNat_lt ?_⟩
        rw [oneB_is (s := ⟨⟨[b]⟩⟩) (by show 0 < 1; omega)] at e2
        exact e2
    · refine ⟨91, s.data.toList ++ [93], ?_, by unfold hdB; decide⟩
      show (⟨#[91]⟩ ++ s ++ ⟨#[93]⟩ : ByteArray).data.toList = _
      simp [ByteArray.data_append]
    · rcases hk with rfl | rfl | rfl | rfl
      · exact ⟨46, [], rfl, by unfold hdB; decide⟩
      · exact ⟨40, [41], rfl, by unfold hdB; decide⟩
      · exact ⟨94, [], rfl, by unfold hdB; decide⟩
      · exact ⟨36, [], rfl, by unfold hdB; decide⟩
    · match k, e1, ih with
      | .cons a' k' r', _, ih =>
        have hw := wl_hd (ks := [5]) (ih a' k' r' rfl)
        rcases hk with rfl | rfl
        · rw [txl_cat, catL]; exact hw.app
        · rw [txl_alt]; exact hw.app
    · obtain ⟨c, _, e⟩ := txl_rep hk ⟨#[]⟩ a' k'
      rw [e]
      exact (wl_hd (ih a' k' .nil rfl)).app
theorem head_ok {x : Tr} (h : goodT x) : HdOk (txl x) := head_row (.cons x.1 x.2 .nil) (by rw [okA, h.1, h.2]; rfl) x.1 x.2 .nil rfl
def At (s : ByteArray) : Nat → List UInt8 → Prop
  | _, [] => True
  | i, b :: l => bA s i = b.toNat ∧ At s (i + 1) l
theorem At.append {s : ByteArray} : ∀ {l m : List UInt8} {i : Nat}, At s i (l ++ m) → At s i l ∧ At s (i + l.length) m
  | [], m, i, h => ⟨trivial, h⟩
  | b :: l, m, i, h => by
    obtain ⟨h1, h2⟩ := At.append (l := l) h.2
    refine ⟨⟨h.1, h1⟩, ?_⟩
    rw [List.length_cons, show i + (l.length + 1) = i + 1 + l.length by omega]
    exact h2
theorem At.le {s : ByteArray} : ∀ {l : List UInt8} {i : Nat}, At s i l → i ≤ s.size → i + l.length ≤ s.size
  | [], i, _, hi => hi
  | b :: l, i, h, _ => by
    have hb := b.toNat_lt
    have h1 := bA_lt (s := s) (i := i) (by rw [h.1]; omega)
    have := At.le h.2 h1
    rw [List.length_cons]
    omega
theorem At.all (s : ByteArray) : ∀ (l : List UInt8) (i : Nat), s.data.toList.drop i = l → At s i l
  | [], _, _ => trivial
  | b :: l, i, h => by
    have hi : i < s.size := by
      rw [Lib.size_eq]
      rcases Nat.lt_or_ge i s.data.toList.length with h1 | h1
      · exact h1
      · rw [List.drop_eq_nil_of_le h1] at h; cases h
    rw [List.drop_eq_getElem_cons (by rw [← Lib.size_eq]; exact hi)] at h
    injection h with h1 h2
    refine ⟨?_, At.all s l (i + 1) h2⟩
    rw [bA_in hi, ← h1]
    rfl
theorem At.at_ {s : ByteArray} : ∀ {l : List UInt8} {i j : Nat} (hj : j < l.length), At s i l → bA s (i + j) = l[j].toNat
  | b :: l, i, 0, _, h => h.1
  | b :: l, i, j + 1, hj, h => by
    have := At.at_ (j := j) (by simpa using hj) h.2
    rw [show i + (j + 1) = i + 1 + j by omega, this]
    rfl
theorem At.piece {s : ByteArray} : ∀ {l : List UInt8} {i : Nat}, At s i l → (s.data.toList.drop i).take l.length = l
  | [], _, _ => by simp
  | b :: l, i, h => by
    have hb := b.toNat_lt
    have hi := bA_lt (s := s) (i := i) (by rw [h.1]; omega)
    have h2 := At.piece h.2
    rw [List.drop_eq_getElem_cons (by rw [← Lib.size_eq]; exact hi), List.length_cons, List.take_succ_cons, h2]
    have h1 := h.1
    rw [bA_in hi] at h1
    have : s.data.toList[i]'(by rw [← Lib.size_eq]; exact hi) = b := UInt8.toNat_inj.1 (by rw [← h1]; rfl)
    rw [this]
def frL : Fr (Int × ByteArray) → List Tr
  | .nil => []
  | .cons a k r => (a, k) :: frL r
theorem mkFr_frL : ∀ fr : Fr (Int × ByteArray), mkFr (frL fr) = fr
  | .nil => rfl
  | .cons a k r => by show Fr.cons a k (mkFr (frL r)) = _; rw [mkFr_frL r]
theorem frL_len : ∀ fr : Fr (Int × ByteArray), (frL fr).length = fr.len
  | .nil => rfl
  | .cons a k r => by show (frL r).length + 1 = r.len + 1; rw [frL_len r]
section
variable {z : Bool} {g : Nat → Option (Tr × Nat)} {s : ByteArray} {N : Nat}
def GG (s : ByteArray) (g : Nat → Option (Tr × Nat)) (N : Nat) : Prop := ∀ x : Tr, goodT x → hgt x.2 < N → ∀ i, At s i (txl x) → bA s (i + (txl x).length) = 41 → g i = some (x, i + (txl x).length)
theorem atom_leaf {x : Tr} (h : goodT x) (hk : x.1.1 ≠ 4 ∧ x.1.1 ≠ 5) (hr : repB x.1.1 = false) {i : Nat} (hA : At s i (txl x)) : atomP g s i = some (x, i + (txl x).length) := by
  obtain ⟨⟨q, t⟩, kids⟩ := x
  obtain ⟨h1, h2⟩ := h
  simp only at h1 h2 hk hr
  rcases here_kinds h1 with ⟨rfl, e1, e2, rfl⟩ | ⟨rfl, e1, rfl⟩ | ⟨hq, rfl, rfl⟩ | ⟨hq, _⟩ | ⟨hq, _⟩
  · obtain ⟨⟨l⟩⟩ := t
    match l, e1, e2, hA with
    | [b], _, e2, hA =>
      rw [oneB_is (s := ⟨⟨[b]⟩⟩) (by show 0 < 1; omega)] at e2
      have hb : bA s i = b.toNat := hA.1
      rw [atom_lit (by rw [hb]; exact e2), hb]
      have hbb : b.toNat.toUInt8 = b := by simp
      rw [hbb]
      rfl
  · have hs : txl ((3, t), .nil) = 91 :: (t.data.toList ++ [93]) := by
      show (⟨#[91]⟩ ++ t ++ ⟨#[93]⟩ : ByteArray).data.toList = _
      simp [ByteArray.data_append]
    rw [hs] at hA ⊢
    obtain ⟨a0, a1⟩ := hA
    obtain ⟨b1, b2⟩ := a1.append
    have hl : t.data.toList.length = t.size := (Lib.size_eq t).symm
    rw [hl] at b2
    have hlit : ∀ j (hj : j < t.size), litB t[j].toNat = true := fun j hj => by
      unfold setB at e1
      rw [Bool.and_eq_true, List.all_eq_true] at e1
      have := e1.1 j (List.mem_range.2 hj)
      unfold stB at this
      rw [dif_pos hj, Bool.and_eq_true] at this
      exact this.1
    have he : bA s (i + 1 + t.size) = 93 := b2.1
    have hlt := bA_lt (s := s) (i := i + 1 + t.size) (by omega)
    have hsk : skB s (i + 1) = i + 1 + t.size := skB_uniq (by omega) (by omega) (fun j q1 q2 => by
      obtain ⟨m, rfl⟩ : ∃ m, j = i + 1 + m := ⟨j - (i + 1), by omega⟩
      have hm : m < t.size := by omega
      rw [b1.at_ (j := m) (by rw [hl]; exact hm)]
      have e : t.data.toList[m]'(by rw [hl]; exact hm) = t[m] := rfl
      rw [e]
      exact lit_not _ (t[m].toNat_lt) (hlit m hm)) (fun _ => he)
    rw [atom_set (by rw [a0]; rfl), set_some (by rw [hsk]; exact hlt), hsk]
    have hp := b1.piece
    have ht : s.extract (i + 1) (i + 1 + t.size) = t := by
      apply ByteArray.ext
      apply Array.ext'
      rw [Lib.extract_data, show i + 1 + t.size - (i + 1) = t.data.toList.length by rw [hl]; omega]
      exact hp
    rw [ht]
    have hlen : (91 :: (t.data.toList ++ [93])).length = t.size + 2 := by simp [hl]
    rw [hlen, show i + 1 + t.size + 1 = i + (t.size + 2) by omega]
    rfl
  · rcases hq with rfl | rfl | rfl | rfl
    · exact atom_any hA.1
    · rw [atom_group hA.1, group_empty hA.2.1]; rfl
    · exact atom_begin hA.1
    · exact atom_end hA.1
  · omega
  · exfalso
    rcases hq with rfl | rfl | rfl <;> cases hr
theorem atom_brack (hG : GG s g N) {x : Tr} (h : goodT x) (hh : hgt x.2 < N) {i : Nat} (hA : At s i (40 :: (txl x ++ [41]))) : atomP g s i = some (x, i + (40 :: (txl x ++ [41])).length) := by
  obtain ⟨a0, a1⟩ := hA
  obtain ⟨b1, b2⟩ := a1.append
  have hc : bA s (i + 1 + (txl x).length) = 41 := b2.1
  obtain ⟨b, r, e, hb⟩ := head_ok h
  have h41 : bA s (i + 1) ≠ 41 := by
    rw [e] at b1
    rw [b1.1]
    exact hb.2.2.2.2.1
  rw [atom_group a0, group_some h41 (hG x h hh (i + 1) b1 hc) hc]
  have hlen : (40 :: (txl x ++ [41])).length = (txl x).length + 2 := by simp
  rw [hlen, show i + 1 + (txl x).length + 1 = i + ((txl x).length + 2) by omega]
theorem atom_rep (hG : GG s g N) {x : Tr} (h : goodT x) (hr : repB x.1.1 = false) (hh : hgt x.2 < N) {i : Nat} (hA : At s i (wl [4, 5] x)) : atomP g s i = some (x, i + (wl [4, 5] x).length) := by
  by_cases hk : x.1.1 = 4 ∨ x.1.1 = 5
  · have e : wl [4, 5] x = 40 :: (txl x ++ [41]) := by unfold wl; rw [if_pos (by rcases hk with h | h <;> rw [h] <;> rfl)]
    rw [e] at hA ⊢
    exact atom_brack hG h hh hA
  · have e : wl [4, 5] x = txl x := by unfold wl; rw [if_neg (by simp; omega)]
    rw [e] at hA ⊢
    exact atom_leaf h (by omega) hr hA
theorem item_good (hG : GG s g N) {x : Tr} (h : goodT x) (hk : x.1.1 ≠ 4 ∧ x.1.1 ≠ 5) (hh : hgt x.2 ≤ N) {i : Nat} (hA : At s i (txl x)) (hn : repK (bA s (i + (txl x).length)) = 0) : itemP g s i = some (x, i + (txl x).length) := by
  cases hr : repB x.1.1
  · exact item_plain (atom_leaf h hk hr hA) hn
  · obtain ⟨⟨q, t⟩, kids⟩ := x
    obtain ⟨h1, h2⟩ := h
    simp only at h1 h2 hk hr
    rcases here_kinds h1 with ⟨rfl, _⟩ | ⟨rfl, _⟩ | ⟨hq, _⟩ | ⟨hq, _⟩ | ⟨hq, rfl, a', k', rfl, e1⟩
    · cases hr
    · cases hr
    · exfalso; rcases hq with rfl | rfl | rfl | rfl <;> cases hr
    · exfalso; omega
    · obtain ⟨c, hc, e⟩ := txl_rep hq ⟨#[]⟩ a' k'
      rw [e] at hA ⊢
      obtain ⟨b1, b2⟩ := hA.append
      obtain ⟨hg', _⟩ := okA_cons h2
      have hhk : hgt k' < N := by simp only [hgt] at hh; omega
      have ha := atom_rep hG hg' e1 hhk b1
      have hc' : repK (bA s (i + (wl [4, 5] (a', k')).length)) = q := by rw [b2.1]; exact hc
      rw [item_rep ha hc' (by rcases hq with rfl | rfl | rfl <;> decide), List.length_append]
      rfl
theorem item_cat (hG : GG s g N) {x : Tr} (h : goodT x) (hk : x.1.1 ≠ 4) (hh : hgt x.2 < N) {i : Nat} (hA : At s i (wl [5] x)) (hn : repK (bA s (i + (wl [5] x).length)) = 0) : itemP g s i = some (x, i + (wl [5] x).length) := by
  by_cases h5 : x.1.1 = 5
  · have e : wl [5] x = 40 :: (txl x ++ [41]) := by unfold wl; rw [if_pos (by rw [h5]; rfl)]
    rw [e] at hA hn ⊢
    exact item_plain (atom_brack hG h hh hA) hn
  · have e : wl [5] x = txl x := by unfold wl; rw [if_neg (by simp; exact h5)]
    rw [e] at hA hn ⊢
    exact item_good hG h ⟨hk, h5⟩ (by omega) hA hn
theorem rep_hd {c : Nat} (h : hdB c) : repK c = 0 := by
  unfold hdB at h
  unfold repK
  rw [if_neg h.1, if_neg h.2.1, if_neg h.2.2.1]
theorem stop_hd {c : Nat} (h : hdB c) : stopB z c = false := by
  unfold hdB at h
  obtain ⟨_, _, _, h1, h2, h3, h4⟩ := h
  unfold stopB
  simp only [beq_eq_false_iff_ne.2 h1, beq_eq_false_iff_ne.2 h2, beq_eq_false_iff_ne.2 h3, beq_eq_false_iff_ne.2 h4, Bool.and_false, Bool.or_false]
theorem rep_stop {c : Nat} (h : stopB z c = true) : repK c = 0 := by
  unfold stopB at h
  simp only [Bool.or_eq_true, Bool.and_eq_true, beq_iff_eq] at h
  unfold repK
  rw [if_neg (by omega), if_neg (by omega), if_neg (by omega)]
theorem At.head {l : List UInt8} {i : Nat} (h : At s i l) (hl : HdOk l) : hdB (bA s i) := by
  obtain ⟨b, r, rfl, hb⟩ := hl
  rw [h.1]
  exact hb
theorem hasK_cons {q : Int} {a : Int × ByteArray} {k r : Fr (Int × ByteArray)} (h : hasK q (.cons a k r) = false) : a.1 ≠ q ∧ hasK q r = false := by
  rw [hasK, Bool.or_eq_false_iff] at h
  exact ⟨beq_eq_false_iff_ne.1 h.1, h.2⟩
theorem cat_row (hG : GG s g N) : ∀ (fr : Fr (Int × ByteArray)), okA fr = true → hasK 4 fr = false → hgt fr ≤ N → ∀ (f i : Nat) (L : List Tr), At s i (catL fr) → stopB z (bA s (i + (catL fr).length)) = true → itemsP z g s (f + fr.len) L i = some (L ++ frL fr, i + (catL fr).length)
  | .nil, _, _, _, f, i, L, _, hst => by
    have e : L ++ frL (.nil : Fr (Int × ByteArray)) = L := List.append_nil L
    rw [e]
    exact itemsP_stop hst _
  | .cons a k r, hok, hk4, hh, f, i, L, hA, hst => by
    obtain ⟨hg, hok'⟩ := okA_cons hok
    obtain ⟨hk, hk4'⟩ := hasK_cons hk4
    simp only [hgt] at hh
    rw [catL, List.length_append] at hst
    obtain ⟨b1, b2⟩ := At.append (show At s i (wl [5] (a, k) ++ catL r) from hA)
    have hs0 := stop_hd (z := z) (b1.head (wl_hd (head_ok hg)))
    have hn : repK (bA s (i + (wl [5] (a, k)).length)) = 0 := by
      cases r with
      | nil => exact rep_stop hst
      | cons a' k' r' => exact rep_hd (b2.head (by rw [catL]; exact (wl_hd (head_ok (okA_cons hok').1)).app))
    have hit := item_cat hG hg hk (show hgt k < N by omega) b1 hn
    show itemsP z g s (f + r.len + 1) L i = _
    simp only [itemsP, hs0, Bool.false_eq_true, if_false, hit]
    rw [cat_row hG r hok' hk4' (by omega) f _ (L ++ [(a, k)]) b2 (by rw [Nat.add_assoc]; exact hst), List.append_assoc, catL, List.length_append, Nat.add_assoc]
    rfl
theorem catL_len : ∀ fr : Fr (Int × ByteArray), okA fr = true → fr.len ≤ (catL fr).length
  | .nil, _ => Nat.zero_le _
  | .cons a k r, h => by
    obtain ⟨h1, h2⟩ := okA_cons h
    have := catL_len r h2
    obtain ⟨b, t, e, _⟩ := wl_hd (ks := [5]) (head_ok h1)
    rw [catL, e]
    simp only [Fr.len, List.length_append, List.length_cons]
    omega
theorem altT_len : ∀ fr : Fr (Int × ByteArray), fr.len ≤ (altT fr).length
  | .nil => Nat.zero_le _
  | .cons a k r => by
    have := altT_len r
    rw [altT]
    simp only [Fr.len, List.length_append, List.length_cons]
    omega
theorem cat_good (hG : GG s g N) {x : Tr} (h : goodT x) (hk : x.1.1 ≠ 5) (hh : hgt x.2 ≤ N) {i : Nat} (hi : i ≤ s.size) (hA : At s i (txl x)) (hst : stopB z (bA s (i + (txl x).length)) = true) : catP z g s i = some (x, i + (txl x).length) := by
  have hle := hA.le hi
  unfold catP
  by_cases h4 : x.1.1 = 4
  · obtain ⟨⟨q, t⟩, kids⟩ := x
    obtain ⟨h1, h2⟩ := h
    simp only at h1 h2 h4
    subst h4
    rcases here_kinds h1 with ⟨e, _⟩ | ⟨e, _⟩ | ⟨e, _⟩ | ⟨_, rfl, e1, e2, e3⟩ | ⟨e, _⟩
    · omega
    · omega
    · omega
    · rw [txl_cat] at hA hst hle ⊢
      have hl := catL_len kids h2
      obtain ⟨f, hf⟩ : ∃ f, s.size - i = f + kids.len := ⟨s.size - i - kids.len, by omega⟩
      rw [hf, cat_row hG kids h2 e3 hh f i [] hA hst, List.nil_append, fin_some (by rw [frL_len]; omega), node_more (by rw [frL_len]; exact e1), mkFr_frL]
    · omega
  · have hs0 := stop_hd (z := z) (hA.head (head_ok h))
    have hit := item_good hG h ⟨h4, hk⟩ hh hA (rep_stop hst)
    obtain ⟨b, r, e, _⟩ := head_ok h
    have hpos : 1 ≤ (txl x).length := by rw [e]; simp
    obtain ⟨f, hf⟩ : ∃ f, s.size - i = f + 1 := ⟨s.size - i - 1, by omega⟩
    rw [hf]
    simp only [itemsP, hs0, Bool.false_eq_true, if_false, hit]
    rw [itemsP_stop hst]
    rfl
theorem alt_row (hG : GG s g N) : ∀ (fr : Fr (Int × ByteArray)), okA fr = true → hasK 5 fr = false → hgt fr ≤ N → ∀ (f i : Nat) (L : List Tr), i ≤ s.size → At s i (altT fr) → (bA s (i + (altT fr).length) = 41 ∨ bA s (i + (altT fr).length) = 256) → catsP s (catP z g s) (f + fr.len) L i = some (L ++ frL fr, i + (altT fr).length)
  | .nil, _, _, _, f, i, L, _, _, hst => by
    have e : L ++ frL (.nil : Fr (Int × ByteArray)) = L := List.append_nil L
    rw [e]
    have : bA s i = 41 ∨ bA s i = 256 := hst
    exact catsP_stop (by omega) _
  | .cons a k r, hok, hk5, hh, f, i, L, hi, hA, hst => by
    obtain ⟨hg, hok'⟩ := okA_cons hok
    obtain ⟨hk, hk5'⟩ := hasK_cons hk5
    simp only [hgt] at hh
    have ew : wl [5] (a, k) = txl (a, k) := by unfold wl; rw [if_neg (by simp; exact hk)]
    have hT : altT (.cons a k r) = 124 :: (txl (a, k) ++ altT r) := by rw [altT, ew]
    have hlen : (altT (.cons a k r)).length = 1 + (txl (a, k)).length + (altT r).length := by rw [hT]; simp; omega
    have hle := hA.le hi
    rw [hT] at hA
    obtain ⟨a0, a1⟩ := hA
    obtain ⟨b1, b2⟩ := a1.append
    have hst2 : bA s (i + 1 + (txl (a, k)).length + (altT r).length) = 41 ∨ bA s (i + 1 + (txl (a, k)).length + (altT r).length) = 256 := by
      rw [hlen] at hst
      rw [show i + 1 + (txl (a, k)).length + (altT r).length = i + (1 + (txl (a, k)).length + (altT r).length) by omega]
      exact hst
    have hs1 : stopB z (bA s (i + 1 + (txl (a, k)).length)) = true := by
      cases r with
      | nil => have : bA s (i + 1 + (txl (a, k)).length) = 41 ∨ bA s (i + 1 + (txl (a, k)).length) = 256 := hst2
               unfold stopB; rcases this with h | h <;> rw [h] <;> cases z <;> rfl
      | cons a' k' r' => rw [b2.1]; cases z <;> rfl
    have hc := cat_good hG hg hk (by omega : hgt k ≤ N) (by omega) b1 hs1
    show catsP s (catP z g s) (f + r.len + 1) L i = _
    have e124 : bA s i = 124 := a0
    simp only [catsP, e124, if_true, hc]
    rw [alt_row hG r hok' hk5' (by omega) f _ (L ++ [(a, k)]) (by omega) b2 hst2, List.append_assoc, hlen, show i + 1 + (txl (a, k)).length + (altT r).length = i + (1 + (txl (a, k)).length + (altT r).length) by omega]
    rfl
theorem alt_good (hG : GG s g N) {x : Tr} (h : goodT x) (hh : hgt x.2 ≤ N) {i : Nat} (hi : i ≤ s.size) (hA : At s i (txl x)) (hst : bA s (i + (txl x).length) = 41 ∨ bA s (i + (txl x).length) = 256) : altF z g s i = some (x, i + (txl x).length) := by
  have hle := hA.le hi
  have hs1 : stopB z (bA s (i + (txl x).length)) = true := by unfold stopB; rcases hst with h | h <;> rw [h] <;> cases z <;> rfl
  unfold altF
  by_cases h5 : x.1.1 = 5
  · obtain ⟨⟨q, t⟩, kids⟩ := x
    obtain ⟨h1, h2⟩ := h
    simp only at h1 h2 h5
    subst h5
    rcases here_kinds h1 with ⟨e, _⟩ | ⟨e, _⟩ | ⟨e, _⟩ | ⟨_, rfl, e1, e2, e3⟩ | ⟨e, _⟩
    · omega
    · omega
    · omega
    · match kids, e1, e2, e3, hA, hst, hle, hh, h2 with
      | .cons a k r, e1, e2, e3, hA, hst, hle, hh, h2 =>
        obtain ⟨hg, hok'⟩ := okA_cons h2
        obtain ⟨hk, hk5'⟩ := hasK_cons e3
        simp only [hgt] at hh
        have ew : wl [5] (a, k) = txl (a, k) := by unfold wl; rw [if_neg (by simp; exact hk)]
        rw [txl_alt, ew] at hA hst hle ⊢
        rw [List.length_append] at hst hle ⊢
        obtain ⟨b1, b2⟩ := hA.append
        have hst2 : bA s (i + (txl (a, k)).length + (altT r).length) = 41 ∨ bA s (i + (txl (a, k)).length + (altT r).length) = 256 := by rw [Nat.add_assoc]; exact hst
        have hs1 : stopB z (bA s (i + (txl (a, k)).length)) = true := by
          match r, e1, b2 with
          | .cons a' k' r', _, b2 => rw [b2.1]; cases z <;> rfl
          | .nil, e1, _ => simp [Fr.len] at e1
        have hc := cat_good hG hg hk (by omega : hgt k ≤ N) hi b1 hs1
        have hl := altT_len r
        obtain ⟨f, hf⟩ : ∃ f, s.size - (i + (txl (a, k)).length) = f + r.len := ⟨s.size - (i + (txl (a, k)).length) - r.len, by omega⟩
        simp only [hc]
        rw [hf, alt_row hG r hok' hk5' (by omega) f _ [(a, k)] (by omega) b2 hst2]
        have hlen : (frL (.cons a k r)).length = r.len + 1 := frL_len _
        show finP 5 (some (frL (.cons a k r), _)) = _
        rw [fin_some (by rw [hlen]; omega), node_more (by rw [hlen]; simpa [Fr.len] using e1), mkFr_frL, Nat.add_assoc]
    · omega
  · simp only [cat_good hG h h5 hh hi hA hs1]
    rw [catsP_stop (by omega)]
    rfl
end
theorem altP_good {z : Bool} {s : ByteArray} : ∀ (N : Nat) (x : Tr), goodT x → hgt x.2 ≤ N → ∀ i, i ≤ s.size → At s i (txl x) → (bA s (i + (txl x).length) = 41 ∨ bA s (i + (txl x).length) = 256) → altP z s (N + 1) i = some (x, i + (txl x).length)
  | 0, x, h, hh, i, hi, hA, hst => alt_good (N := 0) (fun _ _ h => absurd h (Nat.not_lt_zero _)) h hh hi hA hst
  | N + 1, x, h, hh, i, hi, hA, hst => alt_good (N := N + 1) (fun y hy hlt j hj hn => by
      obtain ⟨b, r, e, _⟩ := head_ok hy
      have hb := b.toNat_lt
      exact altP_good N y hy (by omega) j (by
        have : bA s j = b.toNat := by rw [e] at hj; exact hj.1
        exact Nat.le_of_lt (bA_lt (by omega))) hj (.inl hn)) h hh hi hA hst
def parseP (z : Bool) (n : Nat) (s : ByteArray) : Option Tr :=
  match altP z s n 0 with
  | none => none
  | some (x, q) => if q = s.size ∧ rexB x.1.1 x.1.2 x.2 = true ∧ (rexTx x.1.1 x.1.2 x.2).toList = s.toList then some x else none
theorem bytes_eq {a b : ByteArray} (h : a.toList = b.toList) : a = b := by
  rw [Lib.toList_data, Lib.toList_data] at h
  apply ByteArray.ext
  exact Array.ext' h
theorem parse_text {z : Bool} {n : Nat} (hn : 6 ≤ n) {k : Int} {t : ByteArray} {kids : Fr (Int × ByteArray)} (h : rexB k t kids = true) : parseP z n (rexTx k t kids) = some ((k, t), kids) := by
  obtain ⟨h1, h2⟩ := rexB_ok h
  have hg : goodT ((k, t), kids) := ⟨h1, h2⟩
  have hh : hgt kids ≤ 5 := by
    unfold rexB at h
    rw [Bool.and_eq_true, Bool.and_eq_true] at h
    have := okG_hgt kids 2 h.1.2 (by omega)
    omega
  obtain ⟨N, rfl⟩ : ∃ N, n = N + 1 := ⟨n - 1, by omega⟩
  have ht : rexTx k t kids = textOf k t (rowT kids) := by unfold rexTx; rw [if_pos h]
  have hsz : (rexTx k t kids).size = (txl ((k, t), kids)).length := by rw [ht, Lib.size_eq]; rfl
  have hA : At (rexTx k t kids) 0 (txl ((k, t), kids)) := At.all _ _ 0 (by rw [ht]; rfl)
  have hp := altP_good (z := z) N ((k, t), kids) hg (by simp only; omega) 0 (Nat.zero_le _) hA (.inr (bA_out (by rw [hsz]; omega)))
  unfold parseP
  rw [hp]
  simp only [Nat.zero_add]
  rw [if_pos ⟨hsz.symm, h, trivial⟩]
theorem parse_sound {z : Bool} {n : Nat} {s : ByteArray} {x : Tr} (h : parseP z n s = some x) : rexB x.1.1 x.1.2 x.2 = true ∧ rexTx x.1.1 x.1.2 x.2 = s := by
  unfold parseP at h
  cases ha : altP z s n 0 with
  | none => rw [ha] at h; cases h
  | some y =>
    obtain ⟨y, q⟩ := y
    rw [ha] at h
    simp only at h
    split at h
    · rename_i hc
      injection h with h
      subst h
      exact ⟨hc.2.1, bytes_eq hc.2.2⟩
    · cases h
theorem parse_same (s : ByteArray) : parseP true 40 s = parseP false 9 s := by
  cases h1 : parseP true 40 s with
  | some x =>
    obtain ⟨q1, q2⟩ := parse_sound h1
    rw [← q2, parse_text (by omega) q1]
  | none =>
    cases h2 : parseP false 9 s with
    | none => rfl
    | some x =>
      obtain ⟨q1, q2⟩ := parse_sound h2
      rw [← q2, parse_text (by omega) q1] at h1
      cases h1
theorem parse_long {z : Bool} {n : Nat} {s : ByteArray} (h : 1000 < s.size) : parseP z n s = none := by
  cases h2 : parseP z n s with
  | none => rfl
  | some x =>
    obtain ⟨q1, q2⟩ := parse_sound h2
    have := (rexB_small q1).2.2.2
    unfold rexTx at q2
    rw [if_pos q1] at q2
    rw [q2] at this
    omega

end Go.Proofs.YtemlnpncljomgaaGreatDoor
