/- What a program's visit meets: plain laws over rows of yes and no. No program in sight. -/
import Derived.Test.YtnoekbgmhnhneaaSpR
import Derived.Test.YtnoekbgmhnhneaaEndsR
namespace Go.Proofs.Ytnoekbgmhnhneaa
open Go.RowKit

/-- How many places are not met. -/
def unm (V : Nat → Bool) : Nat → Nat
  | 0 => 0
  | m + 1 => unm V m + if V m then 0 else 1
theorem unm_mono {V V' : Nat → Bool} (h : ∀ i, V i = true → V' i = true) : ∀ m, unm V' m ≤ unm V m
  | 0 => Nat.le_refl _
  | m + 1 => by
    have := unm_mono h m
    have hm := h m
    unfold unm
    cases h1 : V m
    · cases V' m <;> simp <;> omega
    · rw [hm h1]
      simp
      omega
theorem unm_lt {V : Nat → Bool} {k : Nat} (hk : V k = false) : ∀ m, k < m → unm (upd V k true) m < unm V m
  | 0, h => by omega
  | m + 1, h => by
    unfold unm
    by_cases e : k = m
    · subst e
      have := unm_mono (V := V) (V' := upd V k true) (fun i hi => by
        by_cases e : i = k
        · rw [e, upd_same]
        · rw [upd_other V true e]; exact hi) k
      rw [upd_same, hk]
      simp
      omega
    · have := unm_lt hk m (by omega)
      rw [upd_other V true (Ne.symm e)]
      omega
/-- The places that are met. -/
def MV (m : Nat) (V : Nat → Bool) (x : Int) : Prop := 0 ≤ x ∧ x < m ∧ V x.toNat = true
theorem MV.upd_iff {m k : Nat} {V : Nat → Bool} (hk : k < m) (x : Int) : MV m (upd V k true) x ↔ MV m V x ∨ x = (k : Int) := by
  unfold MV
  by_cases e : x.toNat = k
  · rw [e, upd_same]
    constructor
    · rintro ⟨h0, h1, _⟩
      exact .inr (by omega)
    · rintro (⟨h0, h1, _⟩ | rfl)
      · exact ⟨h0, h1, rfl⟩
      · exact ⟨by omega, by omega, rfl⟩
  · rw [upd_other V true e]
    constructor
    · exact .inl
    · rintro (h | rfl)
      · exact h
      · exact absurd (Int.toNat_natCast k) e
/-- A place met anew, and all that it goes on to. -/
def VisM (zs : List (Int × ByteArray × Int × Int)) (a s : Int) (k : Int) (m : Nat) (V V' : Nat → Bool) : Prop := Vis zs a s k (MV m V) (MV m V') ∧ ∀ i, V i = true → V' i = true
section
variable {zs : List (Int × ByteArray × Int × Int)} {a s i j : Int} {m k : Nat} {V V2 V3 : Nat → Bool}
theorem VisM.old (hk : k < m) (h : V k = true) : VisM zs a s k m V V := ⟨Vis.old ⟨by omega, by omega, by rw [Int.toNat_natCast]; exact h⟩, fun _ h => h⟩
theorem upd_up (V : Nat → Bool) (k : Nat) : ∀ i, V i = true → upd V k true i = true := fun i hi => by
  by_cases e : i = k
  · rw [e, upd_same]
  · rw [upd_other V true e]; exact hi
theorem VisM.none (hk : k < m) (hi : inI k 0 ((zs.length : Int) - 1) = true) (hn : nxt zs a s k = []) : VisM zs a s k m V (upd V k true) := by
  have U := MV.upd_iff (V := V) hk
  refine ⟨⟨fun x hx => (U x).2 (.inl hx), (U _).2 (.inr rfl), fun x hx => ?_, fun x hx hn' y hy => ?_⟩, upd_up V k⟩
  · rcases (U x).1 hx with h | rfl
    · exact .inl h
    · exact .inr (.base (List.mem_singleton.2 rfl) hi)
  · rcases (U x).1 hx with h | rfl
    · exact absurd h hn'
    · rw [hn] at hy
      cases hy
theorem VisM.one (hk : k < m) (hi : inI k 0 ((zs.length : Int) - 1) = true) (hn : nxt zs a s k = [i]) (h : VisM zs a s i m (upd V k true) V2) : VisM zs a s k m V V2 := by
  have U := MV.upd_iff (V := V) hk
  obtain ⟨⟨v1, v2, v3, v4⟩, v5⟩ := h
  have hb : Rch zs a s [(k : Int)] k := .base (List.mem_singleton.2 rfl) hi
  refine ⟨⟨fun x hx => v1 x ((U x).2 (.inl hx)), v1 _ ((U _).2 (.inr rfl)), fun x hx => ?_, fun x hx hn' y hy => ?_⟩, fun i hi => v5 i (upd_up V k i hi)⟩
  · rcases v3 x hx with h | h
    · rcases (U x).1 h with h | rfl
      · exact .inl h
      · exact .inr hb
    · exact .inr (Rch.of (.step hb (by rw [hn]; exact List.mem_singleton.2 rfl)) h)
  · by_cases e : x = k
    · subst e
      rw [hn] at hy
      obtain rfl := List.mem_singleton.1 hy
      exact v2
    · exact v4 x hx (fun h => ((U x).1 h).elim hn' e) y hy
theorem VisM.two (hk : k < m) (hi : inI k 0 ((zs.length : Int) - 1) = true) (hn : nxt zs a s k = [i, j]) (h : VisM zs a s i m (upd V k true) V2) (h' : VisM zs a s j m V2 V3) : VisM zs a s k m V V3 := by
  have U := MV.upd_iff (V := V) hk
  obtain ⟨⟨v1, v2, v3, v4⟩, v5⟩ := h
  obtain ⟨⟨u1, u2, u3, u4⟩, u5⟩ := h'
  have hb : Rch zs a s [(k : Int)] k := .base (List.mem_singleton.2 rfl) hi
  refine ⟨⟨fun x hx => u1 x (v1 x ((U x).2 (.inl hx))), u1 _ (v1 _ ((U _).2 (.inr rfl))), fun x hx => ?_, fun x hx hn' y hy => ?_⟩, fun i hi => u5 i (v5 i (upd_up V k i hi))⟩
  · rcases u3 x hx with h | h
    · rcases v3 x h with h | h
      · rcases (U x).1 h with h | rfl
        · exact .inl h
        · exact .inr hb
      · exact .inr (Rch.of (.step hb (by rw [hn]; exact List.mem_cons_self ..)) h)
    · exact .inr (Rch.of (.step hb (by rw [hn]; exact List.mem_cons_of_mem _ (List.mem_singleton.2 rfl))) h)
  · by_cases e : x = k
    · subst e
      rw [hn] at hy
      rcases List.mem_cons.1 hy with rfl | hy
      · exact u1 _ v2
      · obtain rfl := List.mem_singleton.1 hy
        exact u2
    · by_cases e2 : MV m V2 x
      · exact u1 y (v4 x e2 (fun h => ((U x).1 h).elim hn' e) y hy)
      · exact u4 x hx e2 y hy
end
/-- The met places, in order. -/
def metZ (V : Nat → Bool) (k : Nat) : List Int := ((List.range k).filter V).map Int.ofNat
theorem metZ_succ (V : Nat → Bool) (k : Nat) : metZ V (k + 1) = if V k then metZ V k ++ [(k : Int)] else metZ V k := by
  unfold metZ
  rw [List.range_succ, List.filter_append, List.map_append]
  cases h : V k <;> simp [h]
theorem metZ_len (V : Nat → Bool) (k : Nat) : (metZ V k).length ≤ k := by
  unfold metZ
  rw [List.length_map]
  have := List.length_filter_le V (List.range k)
  rw [List.length_range] at this
  exact this
theorem metZ_mem (V : Nat → Bool) (m : Nat) (x : Int) : x ∈ metZ V m ↔ MV m V x := by
  unfold metZ MV
  rw [List.mem_map]
  constructor
  · rintro ⟨n, hn, rfl⟩
    rw [List.mem_filter, List.mem_range] at hn
    exact ⟨Int.natCast_nonneg n, Int.ofNat_lt.2 hn.1, hn.2⟩
  · rintro ⟨h0, h1, h2⟩
    refine ⟨x.toNat, ?_, Int.toNat_of_nonneg h0⟩
    rw [List.mem_filter, List.mem_range]
    exact ⟨by omega, h2⟩
theorem metZ_ris (V : Nat → Bool) (m : Nat) : Ris (metZ V m) :=
  List.pairwise_map.2 ((List.pairwise_lt_range.filter V).imp fun h => Int.ofNat_lt.2 h)
theorem sprR_met {zs : List (Int × ByteArray × Int × Int)} {a s : Int} {l : List Int} {m : Nat} {V : Nat → Bool} (h : VisAll zs a s l (MV m V)) : SprR zs a s l (metZ V m) :=
  ⟨metZ_ris V m, fun x => (metZ_mem V m x).trans (h.iff x)⟩

end Go.Proofs.Ytnoekbgmhnhneaa
