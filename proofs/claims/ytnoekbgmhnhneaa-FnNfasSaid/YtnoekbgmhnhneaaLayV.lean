/- Words for the program's lay: its contract, putting a node behind within a region that draws its order, setting a node's place. -/
import Derived.Test.YtnoekbgmhnhneaaLayW
import Derived.Test.YtnoekbgmhnhneaaQ0
import Derived.Test.YtnoekbgmhnhneaaQ1
namespace Go.Proofs.Ytnoekbgmhnhneaa
open Go.RowKit

/-- What lays a part (as function f), for parts with fewer than K parts; lengths are within capacities. -/
def LayD (f K : Nat) : Prop := ∀ (kids : Fr (Int × ByteArray)), kids.size < K → ∀ (zk : Int) (zs : ByteArray) (A : Option Addr) (c : Nat) (Ax : Option Addr) (cx : Nat) (xs : List (Int × ByteArray × Int × Int)) (base : Nat) (w : World), kids.size ≤ 60 → xs.length + 6 * (kids.size + 1) ≤ 100000 → hereB zk zs kids = true → lOk kids = true → base ≤ w.heap.size → kids.len ≤ c →
  w.ownsRow base 76 4 (.slice Ax xs.length cx) xs.length (flat nodeC xs) → SlC rexC w 0 base A kids →
  Calls Try.prog f #[.slice Ax xs.length cx, .agg #[.int .i64 zk, .string zs, .slice A kids.len c]] w fun e w' => RetL (fun ys => ys = xs ++ layR (zk, zs) kids xs.length) w (Value.slice Ax xs.length cx).ownBlock base e w'
section
variable {w w1 : World} {base c c1 : Nat} {A A1 : Option Addr} {xs ys : List (Int × ByteArray × Int × Int)}
theorem Lt.slc (h : w.ownsRow base 76 4 (.slice A xs.length c) xs.length (flat nodeC xs)) (k : Lt w (Value.slice A xs.length c).ownBlock base w1 A1 c1 ys) (hb : base ≤ w.heap.size) {A0 : Option Addr} {fr : Fr (Int × ByteArray)} (hS : SlC rexC w 0 base A0 fr) : SlC rexC w1 0 base A0 fr :=
  hS.keep (fun p _ hp => World.cell?_of_block (k.gr.block p.block (by omega) (fun e => by have := (h.lt _ e.symm).1; omega))) (Nat.le_refl _) (Nat.le_refl _)
theorem own_neT {b b' size size' n n' : Nat} {e e' : TypeId} {v v' : Value} {us us' : List Value} (h : w.ownsRow b e size v n us) (h' : w.ownsRow b' e' size' v' n' us') (hne : e' ≠ e) {g : Nat} (hg : v'.ownBlock = some g) (e2 : some g = v.ownBlock) : False := by
  rcases h'.2 with ⟨rfl, _⟩ | ⟨g', cap, cur, rfl, _, hh, _⟩
  · simp [Value.ownBlock] at hg
  · have : g' = g := by simpa [Value.ownBlock] using hg
    subst this
    exact own_blk_ne h hh (Ne.symm hne) e2.symm
/-- Another row of the call's own stays. -/
theorem Lt.row (h : w.ownsRow base 76 4 (.slice A xs.length c) xs.length (flat nodeC xs)) (k : Lt w (Value.slice A xs.length c).ownBlock base w1 A1 c1 ys) {b2 : Nat} {e : TypeId} {size n : Nat} {v : Value} {us : List Value} (hv : w.ownsRow b2 e size v n us) (he : e ≠ 76) : w1.ownsRow b2 e size v n us :=
  hv.kept k.gr (by
    cases hq : v.ownBlock with
    | none => exact .inl rfl
    | some g => exact .inr (fun e' => own_neT h hv he hq e'))
end
theorem step_node {W w : World} {ops : Array Oper} {o : Oper} {a : Act} {K : Act → World → Prop} {Q : Exit → Act → World → Prop} {E : Prop} (y : (Int × ByteArray × Int × Int)) (hgd : o.guard = none) (s x : Operand)
    (ho : o.op = .call { callee := .builtin .append, args := #[s, x], argTypes := #[28, 28] })
    (base : Nat) (A : Option Addr) (c : Nat) (xs : List (Int × ByteArray × Int × Int)) (hs : a.eval s = .slice A xs.length c) (hown : w.ownsRow base 76 4 (.slice A xs.length c) xs.length (flat nodeC xs))
    (hx : a.eval x = .slice (some ⟨w.heap.size, 0, none⟩) 1 1) (hW : W = w.alloc (.cells (nodeC y).toArray 76)) (h63 : xs.length ≤ 1000000) (hbase : base ≤ w.heap.size)
    (h : ∀ (A' : Option Addr) (c' : Nat) (ys : List (Int × ByteArray × Int × Int)) (w' : World), Hid (ys = xs ++ [y]) → Hid (ys.length = xs.length + 1) → Lt w (Value.slice A xs.length c).ownBlock base w' A' c' ys → K (a.put o.dst (.slice A' ys.length c')) w') :
    if Region.wanted o (yielded ops a.tmps) = true then Oper.wp Try.prog o a W K Q else E := by
  subst hW
  obtain ⟨i0, hi, hz0, hz1, hz2⟩ := info_parts info_node
  have hr : Reads (w.alloc (.cells (nodeC y).toArray 76)) (w.heap.size + 1) 4 (some ⟨w.heap.size, 0, none⟩) 1 (nodeC y) := ⟨rfl, fun _ => ⟨_, _, rfl, Nat.lt_succ_self _, fun j u hu => by
    rw [Nat.zero_add, World.cell?_alloc_mark]
    simpa using hu⟩⟩
  refine step_append_any _ hgd s x 28 ho base 76 i0 _ 4 40 Try.underlying28 hi hz0 hz1 hz2 rfl (by decide) _ _ _ hs (hown.alloc _) _ _ 1 1 (nodeC y) hx hr (fun u hu => ?_) (by unfold maxLen; omega)
    (by omega) (by rw [alloc_size]; omega) (fun v' w' hO hg hd => ?_)
  · simp only [nodeC, List.mem_cons, List.not_mem_nil, or_false] at hu
    rcases hu with rfl | rfl | rfl | rfl <;> rfl
  · obtain ⟨ys, hys⟩ : ∃ ys, ys = xs ++ [y] := ⟨_, rfl⟩
    have hl : ys.length = xs.length + 1 := by rw [hys, List.length_append]; rfl
    rw [← flat_one_, ← flat_app_, ← hys, ← hl] at hO
    obtain ⟨A', c', rfl⟩ := (Row.mk hO).form
    refine h A' c' ys w' hys hl ⟨hO, grown_alloc hg, ?_⟩
    rcases hd with e | e
    · exact .inl e
    · refine .inr fun k hk => ?_
      have := e.symm.trans hk
      rw [alloc_size] at this
      have := Option.some.inj this
      omega
/-- A node's place in a row. -/
def setN (ys : List (Int × ByteArray × Int × Int)) (k j : Nat) (z : Int) : List (Int × ByteArray × Int × Int) := ys.modify k fun y => if j = 2 then (y.1, y.2.1, z, y.2.2.2) else (y.1, y.2.1, y.2.2.1, z)
theorem setN_len (ys : List (Int × ByteArray × Int × Int)) (k j : Nat) (z : Int) : (setN ys k j z).length = ys.length := by unfold setN; exact List.length_modify _ _ _
theorem setN_flat : ∀ (ys : List (Int × ByteArray × Int × Int)) (k j : Nat) (z : Int), (j = 2 ∨ j = 3) → k < ys.length → (flat nodeC ys).set (k * 4 + j) (.int .i64 z) = flat nodeC (setN ys k j z)
  | [], k, j, z, _, h => by simp at h
  | y :: ys, 0, j, z, hj, _ => by
    rw [flat_cons]
    rcases hj with rfl | rfl
    · show _ = flat nodeC ((y.1, y.2.1, z, y.2.2.2) :: ys)
      rw [flat_cons]
      rfl
    · show _ = flat nodeC ((y.1, y.2.1, y.2.2.1, z) :: ys)
      rw [flat_cons]
      rfl
  | y :: ys, k + 1, j, z, hj, h => by
    have ih := setN_flat ys k j z hj (by simpa using h)
    show _ = flat nodeC (y :: setN ys k j z)
    rw [flat_cons, flat_cons, ← ih, List.set_append_right _ _ (by rw [nodeC_len]; omega), nodeC_len]
    congr 2
    omega
theorem setN_at : ∀ (xs zs : List (Int × ByteArray × Int × Int)) (y : (Int × ByteArray × Int × Int)) (j : Nat) (z : Int), setN (xs ++ y :: zs) xs.length j z = xs ++ (if j = 2 then (y.1, y.2.1, z, y.2.2.2) else (y.1, y.2.1, y.2.2.1, z)) :: zs
  | [], _, _, _, _ => rfl
  | x :: xs, zs, y, j, z => congrArg (x :: ·) (setN_at xs zs y j z)
theorem setN_at' (xs zs : List (Int × ByteArray × Int × Int)) (y : (Int × ByteArray × Int × Int)) (j k : Nat) (z : Int) (hk : k = xs.length) : setN (xs ++ y :: zs) k j z = xs ++ (if j = 2 then (y.1, y.2.1, z, y.2.2.2) else (y.1, y.2.1, y.2.2.1, z)) :: zs := by rw [hk]; exact setN_at xs zs y j z
/-- All alternatives but the last one, where each goes on behind at b. -/
def altN (b : Int) : Fr (Int × ByteArray) → Nat → List (Int × ByteArray × Int × Int)
  | .nil, _ => []
  | .cons a k r, p => if r.len = 0 then [] else (4, ⟨#[]⟩, (p : Int) + 1, (p : Int) + 2 + (szR a k : Nat)) :: (layR a k (p + 1) ++ ((4, ⟨#[]⟩, b, b) :: altN b r (p + szR a k + 2)))
/-- The last alternative. -/
def lastR : Fr (Int × ByteArray) → Nat → List (Int × ByteArray × Int × Int)
  | .nil, _ => []
  | .cons a k r, p => if r.len = 0 then layR a k p else lastR r (p + szR a k + 2)
/-- Where the alternatives go on behind. -/
def endP : Fr (Int × ByteArray) → Nat → List Int
  | .nil, _ => []
  | .cons a k r, p => if r.len = 0 then [] else ((p + szR a k + 1 : Nat) : Int) :: endP r (p + szR a k + 2)
theorem layA_alt (b : Int) : ∀ (fr : Fr (Int × ByteArray)) (p : Nat), layA fr p b = altN b fr p ++ lastR fr p
  | .nil, _ => rfl
  | .cons a k r, p => by
    by_cases h : r.len = 0
    · have e : r = .nil := by
        cases r with
        | nil => rfl
        | cons x l t => simp [Fr.len] at h
      subst e
      rw [layA_last]
      rfl
    · rw [layA_cons _ _ _ _ _ h, altN, if_neg h, lastR, if_neg h, layA_alt b r]
      simp only [List.append_assoc, List.cons_append]
theorem altN_last (b : Int) (a : Int × ByteArray) (k : Fr (Int × ByteArray)) (p : Nat) : altN b (.cons a k .nil) p = [] := rfl
theorem lastR_last (a : Int × ByteArray) (k : Fr (Int × ByteArray)) (p : Nat) : lastR (.cons a k .nil) p = layR a k p := rfl
theorem endP_last (a : Int × ByteArray) (k : Fr (Int × ByteArray)) (p : Nat) : endP (.cons a k .nil) p = [] := rfl
theorem altN_cons (b : Int) (a : Int × ByteArray) (k r : Fr (Int × ByteArray)) (p : Nat) (h : r.len ≠ 0) : altN b (.cons a k r) p = (4, ⟨#[]⟩, (p : Int) + 1, (p : Int) + 2 + (szR a k : Nat)) :: (layR a k (p + 1) ++ ((4, ⟨#[]⟩, b, b) :: altN b r (p + szR a k + 2))) := if_neg h
theorem endP_cons (a : Int × ByteArray) (k r : Fr (Int × ByteArray)) (p : Nat) (h : r.len ≠ 0) : endP (.cons a k r) p = ((p + szR a k + 1 : Nat) : Int) :: endP r (p + szR a k + 2) := if_neg h
/-- Both places of nodes are set, one behind the other. -/
def patch (z : Int) (ys : List (Int × ByteArray × Int × Int)) (ks : List Int) : List (Int × ByteArray × Int × Int) := ks.foldl (fun ys k => setN (setN ys k.toNat 2 z) k.toNat 3 z) ys
theorem patch_len (z : Int) : ∀ (ks : List Int) (ys : List (Int × ByteArray × Int × Int)), (patch z ys ks).length = ys.length
  | [], _ => rfl
  | k :: ks, ys => by
    show (patch z (setN (setN ys k.toNat 2 z) k.toNat 3 z) ks).length = _
    rw [patch_len z ks, setN_len, setN_len]
theorem patch_take (z : Int) (ys : List (Int × ByteArray × Int × Int)) (ks : List Int) {j : Nat} (h : j < ks.length) : patch z ys (ks.take (j + 1)) = setN (setN (patch z ys (ks.take j)) ks[j].toNat 2 z) ks[j].toNat 3 z := by
  unfold patch
  rw [List.take_succ_eq_append_getElem h, List.foldl_append]
  rfl
theorem patch_alt (z : Int) : ∀ (fr : Fr (Int × ByteArray)) (p : Nat) (xs Y : List (Int × ByteArray × Int × Int)), xs.length = p → lOk fr = true → patch z (xs ++ (altN 0 fr p ++ Y)) (endP fr p) = xs ++ (altN z fr p ++ Y)
  | .nil, _, _, _, _, _ => rfl
  | .cons a k r, p, xs, Y, hp, hk => by
    rw [lOk, Bool.and_eq_true, Bool.and_eq_true] at hk
    obtain ⟨⟨hh, hkk⟩, hr⟩ := hk
    by_cases h : r.len = 0
    · rw [altN, altN, endP, if_pos h, if_pos h, if_pos h]
      rfl
    · rw [altN_cons 0 _ _ _ _ h, altN_cons z _ _ _ _ h, endP_cons _ _ _ _ h]
      have hl := layR_len (a := a) hh hkk (p + 1)
      generalize layR a k (p + 1) = B at hl
      generalize hn : ((4, ⟨#[]⟩, (p : Int) + 1, (p : Int) + 2 + (szR a k : Nat)) : (Int × ByteArray × Int × Int)) = n
      have e1 : ∀ q : (Int × ByteArray × Int × Int), ∀ D : List (Int × ByteArray × Int × Int), xs ++ (n :: (B ++ (q :: D)) ++ Y) = (xs ++ n :: B) ++ q :: (D ++ Y) := fun q D => by simp only [List.append_assoc, List.cons_append]
      have hlen : (xs ++ n :: B).length = p + szR a k + 1 := by rw [List.length_append, List.length_cons, hl, hp]; omega
      rw [e1, e1]
      show patch z (setN (setN _ _ 2 z) _ 3 z) _ = _
      rw [Int.toNat_natCast, setN_at' _ _ _ 2 _ z hlen.symm, setN_at' _ _ _ 3 _ z hlen.symm]
      have e2 : ∀ q : (Int × ByteArray × Int × Int), ∀ D : List (Int × ByteArray × Int × Int), (xs ++ n :: B) ++ q :: D = (xs ++ n :: B ++ [q]) ++ D := fun q D => by simp only [List.append_assoc, List.cons_append, List.nil_append]
      rw [e2, e2 _ (altN z r _ ++ Y)]
      exact patch_alt z r (p + szR a k + 2) _ Y (by rw [List.length_append, hlen]; rfl) hr
theorem endP_lt : ∀ (fr : Fr (Int × ByteArray)) (p : Nat), lOk fr = true → ∀ x, x ∈ endP fr p → ∃ n : Nat, x = n ∧ n < p + (altN 0 fr p).length
  | .nil, _, _, x, hx => by cases hx
  | .cons a k r, p, hk, x, hx => by
    rw [lOk, Bool.and_eq_true, Bool.and_eq_true] at hk
    by_cases h : r.len = 0
    · rw [endP, if_pos h] at hx
      cases hx
    · rw [endP_cons _ _ _ _ h] at hx
      rw [altN_cons _ _ _ _ _ h, List.length_cons, List.length_append, List.length_cons, layR_len (a := a) hk.1.1 hk.1.2]
      rcases List.mem_cons.1 hx with rfl | hx
      · exact ⟨_, rfl, by omega⟩
      · obtain ⟨n, e, hn⟩ := endP_lt r (p + szR a k + 2) hk.2 x hx
        exact ⟨n, e, by omega⟩
theorem altN_len (b : Int) : ∀ (fr : Fr (Int × ByteArray)) (p : Nat), lOk fr = true → (altN b fr p).length + (lastR fr p).length = szF fr + 2 * (fr.len - 1) := fun fr p h => by
  rw [← List.length_append, ← layA_alt]
  exact (lay_len h).2 p b
section
variable {w w1 w2 : World} {r : Option Nat} {base c c1 g : Nat} {A A1 : Option Addr} {xs ys zs : List (Int × ByteArray × Int × Int)}
/-- Another row of the call's own was written. -/
theorem Lt.other (h : Lt w r base w1 A c ys) {e : TypeId} {size n : Nat} {v : Value} {us : List Value} (hv : w1.ownsRow w.heap.size e size v n us) (he : e ≠ 76) (hg : w1.grownBy w2 v.ownBlock) : Lt w r base w2 A c ys :=
  ⟨h.own.kept hg (by
    cases hq : (Value.slice A ys.length c).ownBlock with
    | none => exact .inl rfl
    | some g => exact .inr (fun e' => own_neT hv h.own he.symm hq e')), gr_chain h.gr (.inr fun k hk => (hv.lt k hk).1) hg, h.dj⟩
/-- A cell of the row was set. -/
theorem Lt.set_ (h : Lt w r base w1 (some ⟨g, 0, none⟩) c ys) (hO : w2.ownsRow base 76 4 (.slice (some ⟨g, 0, none⟩) zs.length c) zs.length (flat nodeC zs)) (hg : w1.grownBy w2 (some g)) : Lt w r base w2 (some ⟨g, 0, none⟩) c zs :=
  ⟨hO, gr_chain h.gr h.dj hg, h.dj⟩
end
/-- A node's place is set in the row. -/
theorem own_setN {w : World} {base c k j : Nat} {A : Option Addr} {ys : List (Int × ByteArray × Int × Int)} (h : w.ownsRow base 76 4 (.slice A ys.length c) ys.length (flat nodeC ys)) (hk : k < ys.length) (hj : j = 2 ∨ j = 3) (z : Int) :
    ∃ g, A = some ⟨g, 0, none⟩ ∧ (∃ u, w.cell? ⟨g, k * 4 + j, none⟩ = some (.int .i64 u)) ∧ w.frozen? ⟨g, k * 4 + j, none⟩ = false ∧
      (w.setCell ⟨g, k * 4 + j, none⟩ (.int .i64 z)).ownsRow base 76 4 (.slice (some ⟨g, 0, none⟩) (setN ys k j z).length c) (setN ys k j z).length (flat nodeC (setN ys k j z)) ∧
      w.grownBy (w.setCell ⟨g, k * 4 + j, none⟩ (.int .i64 z)) (some g) := by
  obtain ⟨g, rfl, _, _⟩ := own_blk h (by omega)
  have hS := h.stored (k * 4 + j) (.int .i64 z)
  refine ⟨g, rfl, ?_, h.frozenAt _, ?_, hS.2⟩
  · obtain ⟨b, off, e, _, n0, n1, n2, n3⟩ := rd_node (Reads.of_own h) hk
    cases e
    rw [Nat.zero_add] at n2 n3
    rcases hj with rfl | rfl
    · exact ⟨_, n2⟩
    · exact ⟨_, n3⟩
  · rw [setN_len, ← setN_flat ys k j z hj hk]
    exact hS.1

end Go.Proofs.Ytnoekbgmhnhneaa
