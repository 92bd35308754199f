/- A region whose last operation waits for all others: the others in whatever order, under a condition on the world (OrdersHeld), and then the last one without it. No program in sight. -/
import Derived.Test.YtalnkdbmbjplpaaFro
import Derived.Deep.RegionHeld3
namespace Go.Proofs.Ytalnkdbmbjplpaa
open Go

/-- What is asked where all but operation k have come up: that k does the rest. -/
def relQ (P : Program) (ops : Array Oper) (Q : Exit → Act → World → Prop) (k : Nat) : Exit → Act → World → Prop
  | .normal, a, w => wpOp P ops Q k (fun a w => Q .normal a w) a w
  | .exit i, a, w => Q (.exit i) a w
  | .goto l, a, w => Q (.goto l) a w
  | .ret, a, w => Q .ret a w
  | .panic c, a, w => Q (.panic c) a w
  | .outgrown, a, w => Q .outgrown a w
theorem relQ_normal {P : Program} {ops : Array Oper} {Q : Exit → Act → World → Prop} {k : Nat} {a : Act} {w : World} (h : wpOp P ops Q k (fun a w => Q .normal a w) a w) : relQ P ops Q k .normal a w := h
theorem wp_relQ {P : Program} {ops : Array Oper} {Q : Exit → Act → World → Prop} {k : Nat} {o : Oper} {a : Act} {w : World} {K : Act → World → Prop} (h : o.wp P a w K (relQ P ops Q k)) : o.wp P a w K Q := by
  unfold Oper.wp at *
  generalize (execOp a.eval o).run P w = r at *
  cases r with
  | ok n w' =>
    cases n <;> simp only [Oper.upon] at h ⊢ <;>
      first
        | exact h
        | exact Calls.mono h (fun e w'' he => by cases e <;> exact he)
        | exact Rows.mono h (fun _ _ he => he)
  | halt x w' => cases x <;> simp only [Oper.upon] at h ⊢ <;> exact h
theorem wanted_none {o : Oper} {y : Nat → Option Bool} (h : o.guard = none) : Region.wanted o y = true := by simp [Region.wanted, h]
theorem getD_both {l : Array Bool} {j : Nat} (hj : j < l.size) (d d' : Bool) : l.getD j d = l.getD j d' := by simp [Array.getD, hj]
section
variable {P : Program} {ops ops' : Array Oper} {Q : Exit → Act → World → Prop} {md : Region.Mode}
/-- Operation k of ops waits for all others; in ops' it waits for itself, and so never comes up. -/
theorem wpAny_release (k : Nat) (ok ok' : Oper) (hk : ops[k]? = some ok) (hk' : ops'[k]? = some ok') (hne : ∀ (j : Nat), j ≠ k → ops'[j]? = ops[j]?)
    (hg : ∀ (j : Nat) (o : Oper), ops[j]? = some o → o.guard = none) (hb : ∀ (j : Nat) (o : Oper), ops[j]? = some o → ∀ e ∈ o.after, Region.binds md e = true → e.on < j)
    (hs : ∃ e, e ∈ ok'.after ∧ Region.binds md e = true ∧ e.on = k) (ha : ∀ (j : Nat), j < ops.size → j ≠ k → ∃ e, e ∈ ok.after ∧ Region.binds md e = true ∧ (e.on = j ∨ ∃ o', ops[e.on]? = some o' ∧ ∃ e', e' ∈ o'.after ∧ Region.binds md e' = true ∧ e'.on = j)) :
    ∀ (fuel : Nat) (listed : Array Bool) (a : Act) (w : World), listed.size = ops.size → listed.getD k true = false → (∀ (j : Nat) (o : Oper), listed.getD j false = true → ops[j]? = some o → ∀ e ∈ o.after, Region.binds md e = true → listed.getD e.on false = true) → wpAny P md ops' (relQ P ops Q k) fuel listed a w → wpAny P md ops Q (fuel + 1) listed a w := by
  have hkl : k < ops.size := (Array.getElem?_eq_some_iff.1 hk).1
  have same : ∀ {j : Nat} {listed : Array Bool}, j ≠ k → (j ∈ Region.ready md ops listed ↔ j ∈ Region.ready md ops' listed) := fun {j listed} hj => by rw [mem_ready, mem_ready, hne j hj]
  have stuck : ∀ {listed : Array Bool}, listed.size = ops.size → listed.getD k true = false → ¬ k ∈ Region.ready md ops' listed := fun {listed} hz h0 h => by
    obtain ⟨_, o, ho, hal⟩ := mem_ready.1 h
    rw [hk'] at ho
    injection ho with ho
    subst ho
    obtain ⟨e, he, hbe, hon⟩ := hs
    have h1 := hal e he hbe
    rw [hon, getD_both (by omega) false true, h0] at h1
    cases h1
  have others : ∀ {listed : Array Bool}, listed.size = ops.size → (∀ (j : Nat) (o : Oper), listed.getD j false = true → ops[j]? = some o → ∀ e ∈ o.after, Region.binds md e = true → listed.getD e.on false = true) → k ∈ Region.ready md ops listed → ∀ j, j < ops.size → j ≠ k → listed.getD j true = true := fun {listed} hz hc h j hj hjk => by
    obtain ⟨_, o, ho, hal⟩ := mem_ready.1 h
    rw [hk] at ho
    injection ho with ho
    subst ho
    obtain ⟨e, he, hbe, hon⟩ := ha j hj hjk
    have h1 := hal e he hbe
    rcases hon with hon | ⟨o', ho', e', he', hbe', hon⟩
    · rw [hon, getD_both (by omega) false true] at h1
      exact h1
    · have h2 := hc e.on o' h1 ho' e' he' hbe'
      rw [hon, getD_both (by omega) false true] at h2
      exact h2
  have some_ : ∀ {listed : Array Bool}, listed.size = ops.size → listed.getD k true = false → Region.ready md ops listed ≠ [] := fun {listed} hz h0 he => by
    have hall : ∀ n j, j < n → j < ops.size → listed.getD j true = true := by
      intro n
      induction n with
      | zero => intro j hj; omega
      | succ n ih =>
        intro j hj hjs
        cases hx : listed.getD j true with
        | true => rfl
        | false =>
          have hm : j ∈ Region.ready md ops listed := mem_ready.2 ⟨hx, ops[j], Array.getElem?_eq_getElem hjs, fun e hee hbe => by
            have hlt := hb j _ (Array.getElem?_eq_getElem hjs) e hee hbe
            rw [getD_both (by omega) false true]
            exact ih e.on (by omega) (by omega)⟩
          rw [he] at hm
          cases hm
    have := hall (k + 1) k (Nat.lt_succ_self k) hkl
    rw [h0] at this
    cases this
  have none_ : ∀ {listed : Array Bool}, listed.size = ops.size → (∀ (j : Nat) (o : Oper), listed.getD j false = true → ops[j]? = some o → ∀ e ∈ o.after, Region.binds md e = true → listed.getD e.on false = true) → k ∈ Region.ready md ops listed → Region.ready md ops' listed = [] := fun {listed} hz hc h => by
    apply List.eq_nil_iff_forall_not_mem.2
    intro j hj
    have hjk : j ≠ k := fun e => by subst e; exact stuck hz (mem_ready.1 h).1 hj
    obtain ⟨h0, o, ho, _⟩ := mem_ready.1 ((same hjk).2 hj)
    rw [others hz hc h j (Array.getElem?_eq_some_iff.1 ho).1 hjk] at h0
    cases h0
  have done_ : ∀ {listed : Array Bool}, listed.size = ops.size → (∀ (j : Nat) (o : Oper), listed.getD j false = true → ops[j]? = some o → ∀ e ∈ o.after, Region.binds md e = true → listed.getD e.on false = true) → k ∈ Region.ready md ops listed → Region.ready md ops (listed.setIfInBounds k true) = [] := fun {listed} hz hc h => by
    apply List.eq_nil_iff_forall_not_mem.2
    intro j hj
    obtain ⟨h0, o, ho, _⟩ := mem_ready.1 hj
    have hjl := (Array.getElem?_eq_some_iff.1 ho).1
    by_cases hjk : j = k
    · subst hjk
      simp [Array.getD, hz, hjl] at h0
    · rw [getD_set_ne true (fun e => hjk e.symm), others hz hc h j hjl hjk] at h0
      cases h0
  have last : ∀ {fuel : Nat} {listed : Array Bool} {a : Act} {w : World}, listed.size = ops.size → (∀ (j : Nat) (o : Oper), listed.getD j false = true → ops[j]? = some o → ∀ e ∈ o.after, Region.binds md e = true → listed.getD e.on false = true) → k ∈ Region.ready md ops listed → relQ P ops Q k .normal a w → wpOp P ops Q k (wpAny P md ops Q fuel (listed.setIfInBounds k true)) a w := fun {fuel listed a w} hz hc h hq =>
    wpOp_mono (fun a' w' h' => wpAny_done (done_ hz hc h) h' fuel) hq
  intro fuel
  induction fuel with
  | zero =>
    intro listed a w hz h0 hc h
    refine ⟨fun he => absurd he (some_ hz h0), fun i hi => ?_⟩
    by_cases hik : i = k
    · subst hik
      exact last hz hc hi h.2
    · have := (same hik).1 hi
      rw [h.1] at this
      cases this
  | succ fuel ih =>
    intro listed a w hz h0 hc h
    refine ⟨fun he => absurd he (some_ hz h0), fun i hi => ?_⟩
    by_cases hik : i = k
    · subst hik
      exact last hz hc hi (h.1 (none_ hz hc hi))
    · have h1 := h.2 i ((same hik).1 hi)
      have hz' : (listed.setIfInBounds i true).size = ops.size := by simpa using hz
      have h0' : (listed.setIfInBounds i true).getD k true = false := by rw [getD_set_ne true hik]; exact h0
      have hc' : ∀ (j : Nat) (o : Oper), (listed.setIfInBounds i true).getD j false = true → ops[j]? = some o → ∀ e ∈ o.after, Region.binds md e = true → (listed.setIfInBounds i true).getD e.on false = true := fun j o hj ho e he hbe => by
        by_cases hji : i = j
        · subst hji
          obtain ⟨_, o', ho', hal⟩ := mem_ready.1 hi
          rw [ho] at ho'
          injection ho' with ho'
          subst ho'
          exact getD_set_true (hal e he hbe)
        · rw [getD_set_ne false hji] at hj
          exact getD_set_true (hc j o hj ho e he hbe)
      have h2 := wpOp_mono (fun a' w' h' => ih (listed.setIfInBounds i true) a' w' hz' h0' hc' h') h1
      unfold wpOp at h2 ⊢
      rw [hne i hik] at h2
      cases ho : ops[i]? with
      | none => simp only [ho] at h2 ⊢; exact h2
      | some o =>
        simp only [ho] at h2 ⊢
        rw [if_pos (wanted_none (hg i o ho))] at h2 ⊢
        exact h2.imp wp_relQ id
/-- The same, with what is asked of the operations as tests. -/
theorem wpAny_last (k : Nat) (ok : Oper) (hk : ops[k]? = some ok) (hg : ops.all (fun o => o.guard.isNone) = true)
    (hb : (List.range ops.size).all (fun j => match ops[j]? with | some o => o.after.all (fun e => !Region.binds md e || decide (e.on < j)) | none => true) = true)
    (hs : Region.binds md { on := k, ground := .data } = true) (ha : (List.range ops.size).all (fun j => decide (j = k) || ok.after.any (fun e => Region.binds md e && (decide (e.on = j) || match ops[e.on]? with | some o' => o'.after.any (fun e' => Region.binds md e' && decide (e'.on = j)) | none => false))) = true)
    (fuel : Nat) (listed : Array Bool) (a : Act) (w : World) (hz : listed.size = ops.size) (h0 : listed.all (fun b => !b) = true)
    (h : wpAny P md (ops.setIfInBounds k { ok with after := ok.after.push { on := k, ground := .data } }) (relQ P ops Q k) fuel listed a w) : wpAny P md ops Q (fuel + 1) listed a w := by
  have hkl : k < ops.size := (Array.getElem?_eq_some_iff.1 hk).1
  have hno : ∀ j, j < ops.size → ∀ {d : Bool}, listed.getD j d = false := fun j hj d => by
    have := Array.all_eq_true.1 h0 j (by omega)
    simpa [Array.getD, hz, hj] using this
  refine wpAny_release k ok { ok with after := ok.after.push { on := k, ground := .data } } hk (by simp [hkl]) (fun j hj => by rw [Array.getElem?_setIfInBounds_ne (fun e => hj e.symm)]) (fun j o ho => ?_) (fun j o ho e he hbe => ?_) ⟨_, by simp, hs, rfl⟩ (fun j hj hjk => ?_) fuel listed a w hz (hno k hkl) (fun j o hj ho => ?_) h
  · have := Array.all_eq_true_iff_forall_mem.1 hg o (Array.mem_of_getElem? ho)
    simpa using this
  · have h1 := List.all_eq_true.1 hb j (List.mem_range.2 (Array.getElem?_eq_some_iff.1 ho).1)
    simp only [ho] at h1
    have h2 := Array.all_eq_true_iff_forall_mem.1 h1 e he
    simpa [hbe] using h2
  · have h1 := List.all_eq_true.1 ha j (List.mem_range.2 hj)
    simp only [Bool.or_eq_true, decide_eq_true_eq] at h1
    obtain ⟨i, hi, h2⟩ := Array.any_eq_true.1 (h1.resolve_left hjk)
    simp only [Bool.and_eq_true, Bool.or_eq_true, decide_eq_true_eq] at h2
    refine ⟨_, Array.getElem_mem hi, h2.1, h2.2.imp id fun h3 => ?_⟩
    cases ho : ops[(ok.after[i]).on]? with
    | none => rw [ho] at h3; cases h3
    | some o' =>
      rw [ho] at h3
      obtain ⟨i', hi', h4⟩ := Array.any_eq_true.1 h3
      simp only [Bool.and_eq_true, decide_eq_true_eq] at h4
      exact ⟨o', rfl, _, Array.getElem_mem hi', h4.1, h4.2⟩
  · rw [hno j (Array.getElem?_eq_some_iff.1 ho).1] at hj
    cases hj
end

end Go.Proofs.Ytalnkdbmbjplpaa
