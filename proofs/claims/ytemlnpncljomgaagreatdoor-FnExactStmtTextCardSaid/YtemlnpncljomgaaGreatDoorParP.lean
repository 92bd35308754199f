import Derived.Test.YtemlnpncljomgaaGreatDoorRexT
import Derived.Test.YtemlnpncljomgaaGreatDoorQ1
namespace Go.Proofs.YtemlnpncljomgaaGreatDoor
open Go.RowKit

abbrev Tr := (Int × ByteArray) × Fr (Int × ByteArray)
def bA (s : ByteArray) (i : Nat) : Nat := if h : i < s.size then s[i].toNat else 256
theorem bA_in {s : ByteArray} {i : Nat} (h : i < s.size) : bA s i = s[i].toNat := by unfold bA; rw [dif_pos h]
theorem bA_out {s : ByteArray} {i : Nat} (h : s.size ≤ i) : bA s i = 256 := by unfold bA; rw [dif_neg (by omega)]
theorem bA_lt {s : ByteArray} {i : Nat} (h : bA s i ≠ 256) : i < s.size := by
  rcases Nat.lt_or_ge i s.size with h1 | h1
  · exact h1
  · exact absurd (bA_out h1) h
def skF (s : ByteArray) : Nat → Nat → Nat
  | 0, i => i
  | f + 1, i => if bA s i = 93 then i else skF s f (i + 1)
def skB (s : ByteArray) (i : Nat) : Nat := skF s (s.size - i) i
theorem skF_le (s : ByteArray) : ∀ f i, i ≤ skF s f i ∧ skF s f i ≤ i + f
  | 0, i => ⟨Nat.le_refl _, Nat.le_refl _⟩
  | f + 1, i => by
    have := skF_le s f (i + 1)
    unfold skF
    split <;> omega
theorem skB_le {s : ByteArray} {i : Nat} (h : i ≤ s.size) : i ≤ skB s i ∧ skB s i ≤ s.size := by
  have := skF_le s (s.size - i) i
  unfold skB
  omega
theorem skF_uniq (s : ByteArray) (q : Nat) : ∀ f i, i ≤ q → q ≤ i + f → (∀ j, i ≤ j → j < q → bA s j ≠ 93) → (q < i + f → bA s q = 93) → skF s f i = q
  | 0, i, h1, h2, _, _ => by show i = q; omega
  | f + 1, i, h1, h2, h3, h4 => by
    unfold skF
    rcases Nat.eq_or_lt_of_le h1 with h | h
    · subst h
      rw [if_pos (h4 (by omega))]
    · rw [if_neg (h3 i (Nat.le_refl _) h)]
      exact skF_uniq s q f (i + 1) h (by omega) (fun j hj => h3 j (by omega)) (fun hq => h4 (by omega))
theorem skB_uniq {s : ByteArray} {i q : Nat} (h1 : i ≤ q) (h2 : q ≤ s.size) (h3 : ∀ j, i ≤ j → j < q → bA s j ≠ 93) (h4 : q < s.size → bA s q = 93) : skB s i = q :=
  skF_uniq s q _ i h1 (by omega) h3 (fun h => h4 (by omega))
def leafT (k : Int) (t : ByteArray) : Tr := ((k, t), .nil)
section
variable (z : Bool) (g : Nat → Option (Tr × Nat)) (s : ByteArray)
def groupP (i : Nat) : Option (Tr × Nat) :=
  if bA s i = 41 then some (leafT 9 ⟨#[]⟩, i + 1)
  else match g i with
    | none => none
    | some (x, q) => if bA s q = 41 then some (x, q + 1) else none
def setP (i : Nat) : Option (Tr × Nat) := if skB s i < s.size then some (leafT 3 (s.extract i (skB s i)), skB s i + 1) else none
def atomP (i : Nat) : Option (Tr × Nat) :=
  if litB (bA s i) = true then some (leafT 1 ⟨#[(bA s i).toUInt8]⟩, i + 1)
  else if bA s i = 46 then some (leafT 2 ⟨#[]⟩, i + 1)
  else if bA s i = 94 then some (leafT 10 ⟨#[]⟩, i + 1)
  else if bA s i = 36 then some (leafT 11 ⟨#[]⟩, i + 1)
  else if bA s i = 91 then setP s (i + 1)
  else if bA s i = 40 then groupP g s (i + 1)
  else none
def repK (c : Nat) : Int := if c = 42 then 6 else if c = 43 then 7 else if c = 63 then 8 else 0
def moreP (x : Tr) (q : Nat) : Tr × Nat := if repK (bA s q) = 0 then (x, q) else (((repK (bA s q), ⟨#[]⟩), .cons x.1 x.2 .nil), q + 1)
def itemP (i : Nat) : Option (Tr × Nat) :=
  match atomP g s i with
  | none => none
  | some (x, q) => some (moreP s x q)
def stopB (c : Nat) : Bool := c == 124 || c == 41 || c == 256 || (z && c == 0)
def itemsP : Nat → List Tr → Nat → Option (List Tr × Nat)
  | 0, L, i => some (L, i)
  | f + 1, L, i => if stopB z (bA s i) = true then some (L, i) else
    match itemP g s i with
    | none => none
    | some (x, q) => itemsP f (L ++ [x]) q
def nodeP (k : Int) (L : List Tr) : Tr :=
  match L with
  | [x] => x
  | L => ((k, ⟨#[]⟩), mkFr L)
def finP (k : Int) : Option (List Tr × Nat) → Option (Tr × Nat)
  | none => none
  | some ([], _) => none
  | some (x :: r, q) => some (nodeP k (x :: r), q)
def catP (i : Nat) : Option (Tr × Nat) := finP 4 (itemsP z g s (s.size - i) [] i)
def catsP (c : Nat → Option (Tr × Nat)) : Nat → List Tr → Nat → Option (List Tr × Nat)
  | 0, L, i => some (L, i)
  | f + 1, L, i => if bA s i = 124 then
      match c (i + 1) with
      | none => none
      | some (x, q) => catsP c f (L ++ [x]) q
    else some (L, i)
def altF (i : Nat) : Option (Tr × Nat) :=
  match catP z g s i with
  | none => none
  | some (x, q) => finP 5 (catsP s (catP z g s) (s.size - q) [x] q)
def altP : Nat → Nat → Option (Tr × Nat)
  | 0, _ => none
  | n + 1, i => altF z (altP n) s i
end
def trOk (d : Nat) (x : Tr) : Prop := x.1.2.size + wt gRex x.2 + 2 ≤ 3 * d ∧ x.1.2.size ≤ 1048576 ∧ FrOk qSmall x.2
def Fwd (s : ByteArray) (g : Nat → Option (Tr × Nat)) : Prop := ∀ i x q, i ≤ s.size → g i = some (x, q) → i < q ∧ q ≤ s.size ∧ trOk (q - i) x
theorem mkFr_wt : ∀ L : List Tr, wt gRex (mkFr L) = (L.map fun x => x.1.2.size + wt gRex x.2 + 1).sum
  | [] => rfl
  | x :: r => by
    show 1 + x.1.2.size + wt gRex x.2 + wt gRex (mkFr r) = _
    rw [mkFr_wt r, List.map_cons, List.sum_cons]
    omega
def lsOk (d : Nat) (L : List Tr) : Prop := wt gRex (mkFr L) + L.length ≤ 3 * d ∧ L.length ≤ d ∧ ∀ x ∈ L, x.1.2.size ≤ 1048576 ∧ FrOk qSmall x.2
theorem lsOk.nil (d : Nat) : lsOk d [] := ⟨Nat.zero_le _, Nat.zero_le _, fun x h => by cases h⟩
theorem lsOk.snoc {d e : Nat} {L : List Tr} {x : Tr} (h : lsOk d L) (hx : trOk e x) : lsOk (d + e) (L ++ [x]) := by
  obtain ⟨h1, h2, h3⟩ := h
  obtain ⟨x1, x2, x3⟩ := hx
  refine ⟨?_, by rw [List.length_append]; have : [x].length = 1 := rfl; omega, fun y hy => ?_⟩
  · rw [mkFr_wt] at h1 ⊢
    rw [List.map_append, List.sum_append, List.length_append]
    have e1 : ([x].map fun x : Tr => x.1.2.size + wt gRex x.2 + 1).sum = x.1.2.size + wt gRex x.2 + 1 := by simp
    have e2 : [x].length = 1 := rfl
    omega
  · rcases List.mem_append.1 hy with h | h
    · exact h3 y h
    · rw [List.mem_singleton.1 h]; exact ⟨x2, x3⟩
theorem lsOk.more {d e : Nat} {L : List Tr} (h : lsOk d L) (hd : d ≤ e) : lsOk e L := ⟨by have := h.1; omega, Nat.le_trans h.2.1 hd, h.2.2⟩
theorem trOk.more {d e : Nat} {x : Tr} (h : trOk d x) (hd : d ≤ e) : trOk e x := ⟨by have := h.1; omega, h.2⟩
theorem frOk_mkT : ∀ L : List Tr, (∀ x ∈ L, x.1.2.size ≤ 1048576 ∧ FrOk qSmall x.2) → (mkFr L).size ≤ 9223372036854775807 → FrOk qSmall (mkFr L)
  | [], _, _ => trivial
  | x :: r, h, hs => by
    obtain ⟨h1, h2⟩ := h x (List.mem_cons_self ..)
    have hs' : x.2.size + (mkFr r).size + 1 ≤ 9223372036854775807 := hs
    have := x.2.len_size
    exact ⟨h1, by omega, h2, frOk_mkT r (fun y hy => h y (List.mem_cons_of_mem _ hy)) (by omega)⟩
theorem nodeP_ok {k : Int} {d : Nat} {L : List Tr} (h : lsOk d L) (h0 : L ≠ []) (hd : d ≤ 1048576) : trOk d (nodeP k L) := by
  obtain ⟨h1, h2, h3⟩ := h
  match L, h0 with
  | [x], _ =>
    obtain ⟨q1, q2⟩ := h3 x (List.mem_cons_self ..)
    refine ⟨?_, q1, q2⟩
    have : wt gRex (mkFr [x]) = 1 + x.1.2.size + wt gRex x.2 + 0 := rfl
    have e : [x].length = 1 := rfl
    show x.1.2.size + wt gRex x.2 + 2 ≤ _
    omega
  | x :: y :: r, _ =>
    have hsz := size_wt gRex (mkFr (x :: y :: r))
    refine ⟨?_, Nat.zero_le _, frOk_mkT _ h3 (by omega)⟩
    have e : (x :: y :: r).length = r.length + 2 := rfl
    show 0 + wt gRex (mkFr (x :: y :: r)) + 2 ≤ _
    omega
theorem leafT_ok {k : Int} {t : ByteArray} {d : Nat} (ht : t.size ≤ 1048576) (hd : t.size + 2 ≤ 3 * d) : trOk d (leafT k t) := ⟨by show t.size + 0 + 2 ≤ _; omega, ht, trivial⟩
section
variable {z : Bool} {g : Nat → Option (Tr × Nat)} {s : ByteArray}
theorem setP_fwd (hs : s.size ≤ 1048576) : Fwd s (setP s) := fun i x q hi h => by
  have hk := skB_le hi
  unfold setP at h
  split at h
  · simp only [Option.some.injEq, Prod.mk.injEq] at h
    obtain ⟨rfl, rfl⟩ := h
    exact ⟨by omega, by omega, leafT_ok (by rw [ByteArray.size_extract]; omega) (by rw [ByteArray.size_extract]; omega)⟩
  · cases h
theorem groupP_fwd (hg : Fwd s g) : Fwd s (groupP g s) := fun i x q hi h => by
  unfold groupP at h
  split at h
  · rename_i hb
    have := bA_lt (s := s) (i := i) (by omega)
    simp only [Option.some.injEq, Prod.mk.injEq] at h
    obtain ⟨rfl, rfl⟩ := h
    exact ⟨by omega, by omega, leafT_ok (Nat.zero_le _) (by show 0 + 2 ≤ _; omega)⟩
  · cases hgi : g i with
    | none => rw [hgi] at h; cases h
    | some y =>
      obtain ⟨y, p⟩ := y
      rw [hgi] at h
      simp only at h
      split at h
      · rename_i hb
        have := bA_lt (s := s) (i := p) (by omega)
        obtain ⟨h1, h2, h3⟩ := hg i y p hi hgi
        simp only [Option.some.injEq, Prod.mk.injEq] at h
        obtain ⟨rfl, rfl⟩ := h
        exact ⟨by omega, by omega, h3.more (by omega)⟩
      · cases h
theorem atomP_fwd (hs : s.size ≤ 1048576) (hg : Fwd s g) : Fwd s (atomP g s) := fun i x q hi h => by
  have hl : ∀ (k : Int) (t : ByteArray), t.size ≤ 1 → bA s i ≠ 256 → some (leafT k t, i + 1) = some (x, q) → i < q ∧ q ≤ s.size ∧ trOk (q - i) x := by
    intro k t ht hb h
    have := bA_lt hb
    simp only [Option.some.injEq, Prod.mk.injEq] at h
    obtain ⟨rfl, rfl⟩ := h
    exact ⟨by omega, by omega, leafT_ok (by omega) (by omega)⟩
  have hu : ∀ f : Nat → Option (Tr × Nat), Fwd s f → bA s i ≠ 256 → f (i + 1) = some (x, q) → i < q ∧ q ≤ s.size ∧ trOk (q - i) x := by
    intro f hf hb h
    have := bA_lt hb
    obtain ⟨h1, h2, h3⟩ := hf (i + 1) x q (by omega) h
    exact ⟨by omega, h2, h3.more (by omega)⟩
  unfold atomP at h
  split at h
  · rename_i hb
    exact hl _ _ (by show (1 : Nat) ≤ 1; omega) (fun e => by rw [e] at hb; revert hb; decide) h
  split at h
  · exact hl _ _ (by decide) (by omega) h
  split at h
  · exact hl _ _ (by decide) (by omega) h
  split at h
  · exact hl _ _ (by decide) (by omega) h
  split at h
  · exact hu _ (setP_fwd hs) (by omega) h
  split at h
  · exact hu _ (groupP_fwd hg) (by omega) h
  · cases h
theorem repK_lt {q : Nat} (h : repK (bA s q) ≠ 0) : q < s.size := bA_lt (fun e => h (by rw [e]; rfl))
theorem moreP_fwd {i q : Nat} {x : Tr} (h : i < q ∧ q ≤ s.size ∧ trOk (q - i) x) (hs : s.size ≤ 1048576) : i < (moreP s x q).2 ∧ (moreP s x q).2 ≤ s.size ∧ trOk ((moreP s x q).2 - i) (moreP s x q).1 := by
  obtain ⟨h1, h2, h3, h4, h5⟩ := h
  unfold moreP
  split
  · exact ⟨h1, h2, h3, h4, h5⟩
  · rename_i hr
    have hq := repK_lt hr
    have := len_wt gRex x.2
    refine ⟨by show i < q + 1; omega, hq, ?_, Nat.zero_le _, h4, by omega, h5, trivial⟩
    show 0 + (1 + x.1.2.size + wt gRex x.2 + 0) + 2 ≤ 3 * (q + 1 - i)
    omega
theorem itemP_fwd (hs : s.size ≤ 1048576) (hg : Fwd s g) : Fwd s (itemP g s) := fun i x q hi h => by
  unfold itemP at h
  cases ha : atomP g s i with
  | none => rw [ha] at h; cases h
  | some y =>
    obtain ⟨y, p⟩ := y
    rw [ha] at h
    have := moreP_fwd (atomP_fwd hs hg i y p hi ha) hs
    simp only [Option.some.injEq] at h
    rw [h] at this
    exact this
theorem itemsP_fwd (hs : s.size ≤ 1048576) (hg : Fwd s g) (i0 : Nat) : ∀ (f : Nat) (L : List Tr) (i : Nat) (L' : List Tr) (q : Nat), i0 ≤ i → i ≤ s.size → lsOk (i - i0) L → itemsP z g s f L i = some (L', q) → i ≤ q ∧ q ≤ s.size ∧ lsOk (q - i0) L' ∧ L.length ≤ L'.length
  | 0, L, i, L', q, h0, hi, hL, h => by
    simp only [itemsP, Option.some.injEq, Prod.mk.injEq] at h
    obtain ⟨rfl, rfl⟩ := h
    exact ⟨Nat.le_refl _, hi, hL, Nat.le_refl _⟩
  | f + 1, L, i, L', q, h0, hi, hL, h => by
    unfold itemsP at h
    split at h
    · simp only [Option.some.injEq, Prod.mk.injEq] at h
      obtain ⟨rfl, rfl⟩ := h
      exact ⟨Nat.le_refl _, hi, hL, Nat.le_refl _⟩
    · cases ha : itemP g s i with
      | none => rw [ha] at h; cases h
      | some y =>
        obtain ⟨y, p⟩ := y
        rw [ha] at h
        obtain ⟨h1, h2, h3⟩ := itemP_fwd hs hg i y p hi ha
        have := itemsP_fwd hs hg i0 f (L ++ [y]) p L' q (by omega) h2 ((hL.snoc h3).more (by omega)) h
        rw [List.length_append] at this
        exact ⟨by omega, this.2.1, this.2.2.1, by omega⟩
theorem itemsP_fuel (hs : s.size ≤ 1048576) (hg : Fwd s g) : ∀ (f f' : Nat) (L : List Tr) (i : Nat), i ≤ s.size → s.size - i ≤ f → s.size - i ≤ f' → itemsP z g s f L i = itemsP z g s f' L i
  | 0, 0, _, _, _, _, _ => rfl
  | 0, f' + 1, L, i, hi, h, _ => by
    have : stopB z (bA s i) = true := by rw [bA_out (by omega)]; rfl
    simp only [itemsP, this, if_true]
  | f + 1, 0, L, i, hi, _, h => by
    have : stopB z (bA s i) = true := by rw [bA_out (by omega)]; rfl
    simp only [itemsP, this, if_true]
  | f + 1, f' + 1, L, i, hi, h, h' => by
    unfold itemsP
    split
    · rfl
    · cases ha : itemP g s i with
      | none => rfl
      | some y =>
        obtain ⟨y, p⟩ := y
        obtain ⟨h1, h2, h3⟩ := itemP_fwd hs hg i y p hi ha
        exact itemsP_fuel hs hg f f' (L ++ [y]) p h2 (by omega) (by omega)
theorem itemsP_step (hs : s.size ≤ 1048576) (hg : Fwd s g) {L : List Tr} {i : Nat} (hi : i ≤ s.size) (hst : stopB z (bA s i) = false) : itemsP z g s (s.size - i) L i = (match itemP g s i with | none => none | some (x, q) => itemsP z g s (s.size - q) (L ++ [x]) q) := by
  have hl : i < s.size := bA_lt (fun e => by rw [e] at hst; cases z <;> cases hst)
  obtain ⟨f, hf⟩ : ∃ f, s.size - i = f + 1 := ⟨s.size - i - 1, by omega⟩
  rw [hf]
  simp only [itemsP, hst, Bool.false_eq_true, if_false]
  cases ha : itemP g s i with
  | none => rfl
  | some y =>
    obtain ⟨y, p⟩ := y
    obtain ⟨h1, h2, h3⟩ := itemP_fwd hs hg i y p hi ha
    exact itemsP_fuel hs hg _ _ _ p h2 (by omega) (by omega)
theorem itemsP_stop {L : List Tr} {i : Nat} (hst : stopB z (bA s i) = true) (f : Nat) : itemsP z g s f L i = some (L, i) := by
  cases f
  · rfl
  · simp only [itemsP, hst, if_true]
theorem finP_ok {k : Int} {X : Option (List Tr × Nat)} {x : Tr} {q : Nat} (h : finP k X = some (x, q)) : ∃ L, X = some (L, q) ∧ L ≠ [] ∧ x = nodeP k L := by
  match X, h with
  | some (y :: r, p), h =>
    simp only [finP, Option.some.injEq, Prod.mk.injEq] at h
    obtain ⟨rfl, rfl⟩ := h
    exact ⟨_, rfl, by simp, rfl⟩
theorem catP_fwd (hs : s.size ≤ 1048576) (hg : Fwd s g) : Fwd s (catP z g s) := fun i x q hi h => by
  obtain ⟨L, h1, h2, rfl⟩ := finP_ok h
  cases hst : stopB z (bA s i)
  · rw [itemsP_step hs hg hi hst] at h1
    cases ha : itemP g s i with
    | none => rw [ha] at h1; cases h1
    | some y =>
      obtain ⟨y, p⟩ := y
      obtain ⟨q1, q2, q3⟩ := itemP_fwd hs hg i y p hi ha
      rw [ha] at h1
      obtain ⟨b1, b2, b3, b4⟩ := itemsP_fwd hs hg i _ _ _ _ _ (by omega) q2 (((lsOk.nil 0).snoc q3).more (by omega)) h1
      exact ⟨by omega, b2, nodeP_ok b3 h2 (by omega)⟩
  · rw [itemsP_stop hst] at h1
    simp only [Option.some.injEq, Prod.mk.injEq] at h1
    exact absurd h1.1.symm h2
theorem catsP_fwd {c : Nat → Option (Tr × Nat)} (hc : Fwd s c) (i0 : Nat) : ∀ (f : Nat) (L : List Tr) (i : Nat) (L' : List Tr) (q : Nat), i0 ≤ i → i ≤ s.size → lsOk (i - i0) L → catsP s c f L i = some (L', q) → i ≤ q ∧ q ≤ s.size ∧ lsOk (q - i0) L' ∧ L.length ≤ L'.length
  | 0, L, i, L', q, h0, hi, hL, h => by
    simp only [catsP, Option.some.injEq, Prod.mk.injEq] at h
    obtain ⟨rfl, rfl⟩ := h
    exact ⟨Nat.le_refl _, hi, hL, Nat.le_refl _⟩
  | f + 1, L, i, L', q, h0, hi, hL, h => by
    unfold catsP at h
    split at h
    · rename_i hb
      have hl := bA_lt (s := s) (i := i) (by omega)
      cases ha : c (i + 1) with
      | none => rw [ha] at h; cases h
      | some y =>
        obtain ⟨y, p⟩ := y
        rw [ha] at h
        obtain ⟨h1, h2, h3⟩ := hc (i + 1) y p (by omega) ha
        have := catsP_fwd hc i0 f (L ++ [y]) p L' q (by omega) h2 ((hL.snoc h3).more (by omega)) h
        rw [List.length_append] at this
        exact ⟨by omega, this.2.1, this.2.2.1, by omega⟩
    · simp only [Option.some.injEq, Prod.mk.injEq] at h
      obtain ⟨rfl, rfl⟩ := h
      exact ⟨Nat.le_refl _, hi, hL, Nat.le_refl _⟩
theorem catsP_fuel {c : Nat → Option (Tr × Nat)} (hc : Fwd s c) : ∀ (f f' : Nat) (L : List Tr) (i : Nat), i ≤ s.size → s.size - i ≤ f → s.size - i ≤ f' → catsP s c f L i = catsP s c f' L i
  | 0, 0, _, _, _, _, _ => rfl
  | 0, f' + 1, L, i, hi, h, _ => by
    have : ¬ bA s i = 124 := by rw [bA_out (by omega)]; decide
    simp only [catsP, this, if_false]
  | f + 1, 0, L, i, hi, _, h => by
    have : ¬ bA s i = 124 := by rw [bA_out (by omega)]; decide
    simp only [catsP, this, if_false]
  | f + 1, f' + 1, L, i, hi, h, h' => by
    unfold catsP
    split
    · rename_i hb
      have hl := bA_lt (s := s) (i := i) (by omega)
      cases ha : c (i + 1) with
      | none => rfl
      | some y =>
        obtain ⟨y, p⟩ := y
        obtain ⟨h1, h2, h3⟩ := hc (i + 1) y p (by omega) ha
        exact catsP_fuel hc f f' (L ++ [y]) p h2 (by omega) (by omega)
    · rfl
theorem catsP_step {c : Nat → Option (Tr × Nat)} (hc : Fwd s c) {L : List Tr} {i : Nat} (hb : bA s i = 124) : catsP s c (s.size - i) L i = (match c (i + 1) with | none => none | some (x, q) => catsP s c (s.size - q) (L ++ [x]) q) := by
  have hl := bA_lt (s := s) (i := i) (by omega)
  obtain ⟨f, hf⟩ : ∃ f, s.size - i = f + 1 := ⟨s.size - i - 1, by omega⟩
  rw [hf]
  simp only [catsP, hb, if_true]
  cases ha : c (i + 1) with
  | none => rfl
  | some y =>
    obtain ⟨y, p⟩ := y
    obtain ⟨h1, h2, h3⟩ := hc (i + 1) y p (by omega) ha
    exact catsP_fuel hc _ _ _ p h2 (by omega) (by omega)
theorem catsP_stop {c : Nat → Option (Tr × Nat)} {L : List Tr} {i : Nat} (hst : bA s i ≠ 124) (f : Nat) : catsP s c f L i = some (L, i) := by
  cases f
  · rfl
  · simp only [catsP, hst, if_false]
theorem altF_fwd (hs : s.size ≤ 1048576) (hg : Fwd s g) : Fwd s (altF z g s) := fun i x q hi h => by
  unfold altF at h
  cases ha : catP z g s i with
  | none => rw [ha] at h; cases h
  | some y =>
    obtain ⟨y, p⟩ := y
    obtain ⟨h1, h2, h3⟩ := catP_fwd hs hg i y p hi ha
    rw [ha] at h
    simp only at h
    obtain ⟨L, e1, e2, rfl⟩ := finP_ok h
    obtain ⟨b1, b2, b3, b4⟩ := catsP_fwd (catP_fwd hs hg) i _ _ _ _ _ (by omega) h2 (((lsOk.nil 0).snoc h3).more (by omega)) e1
    exact ⟨by omega, b2, nodeP_ok b3 e2 (by omega)⟩
theorem altP_fwd (hs : s.size ≤ 1048576) : ∀ n, Fwd s (altP z s n)
  | 0, _, _, _, _, h => by cases h
  | n + 1, i, x, q, hi, h => altF_fwd hs (altP_fwd hs n) i x q hi h
end

end Go.Proofs.YtemlnpncljomgaaGreatDoor
