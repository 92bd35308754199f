/- The frame that all laws of this seat share: from a walk of the law's Go function (it returns true and changes nothing that was there) to the statement's own form. No condition. Small lemmas that all texts of this seat share. No condition. Words for memory: a slice that reads as a list (Reads), a block known whole (Blk), append onto a row of the call's own. Turned from the guide's page extra-words. No condition. Words for rows of the call's own (Row), for bytes (u8s), for results; small laws on what may have been written. No condition. Walks over the laws' helpers on bytes: toByteS, eqByteS, markByteS, heldByteS. Lengths are at most 2 to the 30th in these contracts. Arguments that are slices of numbers, opened. No condition. Rows of structs: elements of some cells each, laid one behind the other. No program in sight but the world's rows. Rows of trees in memory: each element is a label's cells and the slice of its own elements. No program in sight but the world's cells. Rows of Rexs in memory. Rows of trees of the call's own (Ow): aligned, not frozen; and what of them stays when they are marked (Sh, Mk). No program in sight. Rows of trees in memory, as in Tree, where each slice's length is within its capacity. No program in sight but the world's cells. Rows of trees built by append: the blocks of what lies within satisfy P; a row of labels and trees (Fit, mkFr). No program in sight. Walks over the reference's draws: the cursor over a draw's bytes. The contracts say only what a drawn number lies between. Walks over the reference's draws: the cursor over a draw's bytes. The contracts say only what a drawn number lies between. Walks over the reference's draws of texts: l1Str. Is a number within: l1In of the reference. No condition. Walks over digits, and 'is it within': isDigit, within of the program, l2Digit of the reference. No condition. -/
import Derived.Test.YtnoekbgmhnhneaaRows
import Derived.WalkKit
import Derived.ProofKit
import Derived.OpenShut
import Derived.ShutString
import Derived.ChangeOld
import Derived.Below
import Derived.WalkSpells
import Derived.WalkLawsBesides
import Derived.Lib.Hide
import Derived.BigQuiet
import Derived.Deep.QuietTactic
import Derived.Deep.Draws
import Derived.Laws.OwnMore
import Derived.Deep.AppendLies
import Derived.Maps.AppendAt
import Derived.RegionTactic
import Derived.Laws.Rows
import Derived.Laws.IdiomStrings
import Derived.OwnWalk
import Derived.ChangeSlices
import Derived.Deep.RegionWith
namespace Go.Proofs.Ytnoekbgmhnhneaa
open Go.ChangeShapes Go.WideShapes Go.ChangeAt Go.RowKit
open Go.ChangeMaps (open_string shut_string)

theorem own : ownKnob Try.prog.godebug = none := by kernel_rfl
theorem laidOut : laidOutB Try.prog = true := by kernel_rfl

section
variable {H : Type} {enc : TypeId × Value → H} {P : Program}

theorem trodAll_below (hl : laidOutB P = true) {W W' : World} (hb : Below W.heap.size W W') :
    ∀ (ts : List TypeId) (vs : List Value) (ds : List (DataW H)) (ps : List MemPlace), (∀ t ∈ ts, P.readableRec t = true ∧ t < P.types.size) → (∀ x ∈ ps, x.block < W.heap.size) →
      DataW.TrodAll enc P W 0 (fun _ => true) true ts vs ds ps → DataW.TrodAll enc P W' 0 (fun b => decide (b < W.heap.size)) true ts vs ds ps
  | [], [], [], _, _, _, h => h
  | t :: ts, v :: vs, d :: ds, ps, hr, hlt, ⟨p, q, h1, h2, e⟩ =>
    ⟨p, q, Below.trod hl (hr t List.mem_cons_self).1 (hr t List.mem_cons_self).2 h1 hb (fun x hx => hlt x (by rw [e]; exact List.mem_append_left _ hx)),
      trodAll_below hl hb ts vs ds q (fun t ht => hr t (List.mem_cons_of_mem _ ht)) (fun x hx => hlt x (by rw [e]; exact List.mem_append_right _ hx)) h2, e⟩
  | [], [], _ :: _, _, _, _, h => h.elim
  | [], _ :: _, _, _, _, _, h => h.elim
  | _ :: _, [], _, _, _, _, h => h.elim
  | _ :: _, _ :: _, [], _, _, _, h => h.elim

theorem trodAll_len {w : World} {base : Nat} {spare : Nat → Bool} {held : Bool} : ∀ (ts : List TypeId) (vs : List Value) (ds : List (DataW H)) (ps : List MemPlace),
      DataW.TrodAll enc P w base spare held ts vs ds ps → ds.length = ts.length
  | [], [], [], _, _ => rfl
  | _ :: ts, _ :: vs, _ :: ds, _, ⟨_, q, _, h2, _⟩ => by simp [trodAll_len ts vs ds q h2]
  | [], [], _ :: _, _, h => h.elim
  | [], _ :: _, _, _, h => h.elim
  | _ :: _, [], _, _, h => h.elim
  | _ :: _, _ :: _, [], _, h => h.elim

theorem post_law {f : Func} {s : ChangeSpec} {W W' : World} {args : Array Value} {ds : List (DataW H)} {before : List MemPlace} {tb : TypeId}
    (hl : laidOutB P = true) (hr : ∀ t ∈ f.params.toList, P.readableRec t = true ∧ t < P.types.size) (hvars : s.vars = [])
    (hres : f.resultTypes = #[tb]) (hT : P.underlying tb = some .bool)
    (hfn : s.fn H (ds ++ []) = { results := [.lit (.bool true)], args := ds, vars := [] })
    (hW : DataW.Whole enc P f.params.toList s.vars false W args.toList ds [] before) (hb : Below W.heap.size W W') :
    s.post enc P f false true false false W args (.bool true) W' := by
  have hW' := hW
  have hlt : ∀ x ∈ before, x.block < W.heap.size := fun x hx => by simpa using hW.lt x hx
  obtain ⟨p, q, hA, hV, e, hz, hn⟩ := hW
  rw [hvars] at hV
  have hq : q = [] := hV
  subst hq
  rw [List.append_nil] at e
  subst e
  refine ⟨ds, [], before, [], before, [], hW', ?_, ?_, ?_, hb.frame _, fun h => by cases h⟩
  · rw [hres, hfn]
    exact trodAll_mk1 (shut_bool hT true)
  · rw [hfn]
    exact trodAll_below hl hb _ _ _ _ hr hlt hA
  · rw [hfn, hvars]
    rfl
end

/-- FROM THE WALK TO THE LIFTED CONTRACT. -/
theorem law_lift {H : Type} {enc : TypeId × Value → H} {C : Checked} {os : Os} (K : FuncId) (f : Func) (s : ChangeSpec) (tb : TypeId)
    (hown : ownKnob C.prog.godebug = none) (hl : laidOutB C.prog = true) (started : os.Started) (noInit : C.prog.inits.idxOf? K = none) (hf : C.prog.funcs[K]? = some f)
    (hr : (f.params.toList.all fun t => C.prog.readableRec t && decide (t < C.prog.types.size)) = true) (hvars : s.vars = [])
    (hres : f.resultTypes = #[tb]) (hT : C.prog.underlying tb = some .bool)
    (hfn : ∀ ds : List (DataW H), ds.length = f.params.toList.length → s.fn H (ds ++ []) = { results := [.lit (.bool true)], args := ds, vars := [] })
    (witness : ∃ (w : World) (tape : Tape) (i : Input), w.os = os ∧ (w.forCall tape i).Shaped C.prog ∧ i.vars = [] ∧ Input.okWide C.prog (w.forCall tape i) .any w.heap.size K i ∧
      s.pre6 enc C.prog f [] false (w.forCall tape i).memory i.args ∧ Assume.holds {} C.prog (lone (Frame.enter C.prog K i.args .normal) [] (w.forCall tape i)))
    (walk : ∀ (W : World) (base : Nat) (args : Array Value) (ds : List (DataW H)) (p : List MemPlace),
      (∀ (j : Nat) t v, f.params[j]? = some t → args[j]? = some v → Value.okWide C.prog W .any base t v) →
      DataW.TrodAll enc C.prog W 0 (fun _ => true) true f.params.toList args.toList ds p →
      Calls C.prog K args W fun e W' => e = .returned (.bool true) ∧ Below W.heap.size W W') :
    ReturnsInHanded {} C os K .any (s.pre6 enc C.prog f [] false) (s.post enc C.prog f false true false false) := by
  refine returnsInHanded_of_change (C := C) hown started noInit hf witness ?_
  intro W base args ds gs before hval hW _ _
  have hW' := hW
  obtain ⟨p, q, hA, hV, _, _, _⟩ := hW
  rw [hvars] at hV
  obtain rfl : gs = [] := by
    cases gs with
    | nil => rfl
    | cons g gs => exact hV.elim
  refine (walk W base args ds p hval hA).mono fun e W' ⟨he, hb⟩ => ⟨_, he, ?_⟩
  exact post_law hl (fun t ht => by have := List.all_eq_true.1 hr t ht; simpa using this) hvars hres hT (hfn ds (trodAll_len _ _ _ _ hA)) hW' hb

end Go.Proofs.Ytnoekbgmhnhneaa
namespace Go.Proofs.Ytnoekbgmhnhneaa
open Go.ChangeShapes Go.WideShapes Go.ChangeAt Go.RowKit
open Go.ChangeMaps (open_string shut_string)

theorem len0 {α : Type} {l : List α} (h : l.length = 0) : l = [] := List.eq_nil_of_length_eq_zero h
theorem len1 {α : Type} {l : List α} (h : l.length = 1) : ∃ a, l = [a] := by
  match l, h with
  | [a], _ => exact ⟨a, rfl⟩
theorem len2 {α : Type} {l : List α} (h : l.length = 2) : ∃ a b, l = [a, b] := by
  match l, h with
  | [a, b], _ => exact ⟨a, b, rfl⟩
theorem len3 {α : Type} {l : List α} (h : l.length = 3) : ∃ a b c, l = [a, b, c] := by
  match l, h with
  | [a, b, c], _ => exact ⟨a, b, c, rfl⟩
theorem len4 {α : Type} {l : List α} (h : l.length = 4) : ∃ a b c d, l = [a, b, c, d] := by
  match l, h with
  | [a, b, c, d], _ => exact ⟨a, b, c, d, rfl⟩

theorem ret_int {k : IntKind} {a b : Int} (h : a = b) : Ending.returned (.int k a) = .returned (.int k b) := by rw [h]
theorem ret_str {a b : ByteArray} (h : a = b) : Ending.returned (.string a) = .returned (.string b) := by rw [h]
theorem ret_bool {a b : Bool} (h : a = b) : Ending.returned (.bool a) = .returned (.bool b) := by rw [h]

theorem and_u32 (n : Int) : bits .and .i64 n 4294967295 = n % 4294967296 := by
  have h127 : (BitVec.ofInt 64 4294967295).toNat = 2 ^ 32 - 1 := by decide
  have key : (BitVec.ofInt 64 n &&& BitVec.ofInt 64 4294967295).toNat = (n % ((2 ^ 64 : Nat) : Int)).toNat % 2 ^ 32 := by
    rw [BitVec.toNat_and, BitVec.toNat_ofInt, h127, Nat.and_two_pow_sub_one_eq_mod]
  show IntKind.i64.wrap ((BitVec.ofInt 64 n &&& BitVec.ofInt 64 4294967295).toNat : Nat) = n % 4294967296
  rw [key, IntKind.wrap_i64]
  omega

theorem wrap32_bd (n : Int) : -2147483648 ≤ wrap32 n ∧ wrap32 n ≤ 2147483647 := by unfold wrap32; omega
theorem wrap64_wrap32 (n : Int) : wrap64 (wrap32 n) = wrap32 n := by unfold wrap64 wrap32; omega

theorem bl_alloc {a w : World} (h : Below a.heap.size a w) (o : Obj) : Below a.heap.size a (w.alloc o) := h.alloc h.size o
theorem bl_drewN {a w : World} (h : Below a.heap.size a w) (n : Nat) : Below a.heap.size a (w.drewN n) := ⟨h.os, h.tape, h.output, h.size, h.block⟩
theorem bl_set {a w : World} (h : Below a.heap.size a w) {p : Addr} (hp : a.heap.size ≤ p.block) (u : Value) : Below a.heap.size a (w.setCell p u) := h.setCell hp u
theorem bl_trans {a w w1 : World} (h : Below a.heap.size a w) (k : Below w.heap.size w w1) : Below a.heap.size a w1 := h.trans (k.mono h.size)

end Go.Proofs.Ytnoekbgmhnhneaa
namespace Go.Proofs.Ytnoekbgmhnhneaa
open Go.RowKit

theorem add_plain (b off j : Nat) : (⟨b, off, none⟩ : Addr).add j = ⟨b, off + j, none⟩ := by unfold Addr.add; split <;> simp_all

/-- The slice value '.slice A n c' holds the cells xs (size cells an element) and lies below block B. -/
def Reads (w : World) (B size : Nat) (A : Option Addr) (n : Nat) (xs : List Value) : Prop :=
  xs.length = n * size ∧ (0 < n → ∃ b off, A = some ⟨b, off, none⟩ ∧ b < B ∧ ∀ j u, xs[j]? = some u → w.cell? ⟨b, off + j, none⟩ = some u)

section
variable {w w' : World} {B B' size n : Nat} {A : Option Addr} {xs : List Value}
theorem Reads.none_ : Reads w B size A 0 [] := ⟨by simp, fun h => absurd h (by omega)⟩
theorem Reads.at_ {k : Nat} (h : Reads w B 1 A n xs) (hk : k < n) : ∃ b off u, A = some ⟨b, off, none⟩ ∧ b < B ∧ xs[k]? = some u ∧ w.cell? ⟨b, off + k, none⟩ = some u := by
  obtain ⟨b, off, e, hb, hc⟩ := h.2 (by omega)
  have hl : k < xs.length := by have := h.1; omega
  exact ⟨b, off, xs[k], e, hb, List.getElem?_eq_getElem hl, hc k _ (List.getElem?_eq_getElem hl)⟩
theorem Reads.keep (h : Reads w B size A n xs) (hk : ∀ p : Addr, p.block < B → w'.cell? p = w.cell? p) : Reads w' B size A n xs :=
  ⟨h.1, fun hn => by
    obtain ⟨b, off, e, hb, hc⟩ := h.2 hn
    exact ⟨b, off, e, hb, fun j u hu => (hk _ hb).trans (hc j u hu)⟩⟩
theorem Reads.more (h : Reads w B size A n xs) (hB : B ≤ B') : Reads w B' size A n xs :=
  ⟨h.1, fun hn => by
    obtain ⟨b, off, e, hb, hc⟩ := h.2 hn
    exact ⟨b, off, e, by omega, hc⟩⟩
theorem Reads.below (h : Reads w B size A n xs) (hb : Below B w w') : Reads w' B size A n xs := h.keep fun _ hp => hb.cell hp
theorem Reads.drew (h : Reads w B size A n xs) : Reads w.drew B size A n xs := h
theorem Reads.drewN (h : Reads w B size A n xs) (k : Nat) : Reads (w.drewN k) B size A n xs := h
theorem Reads.alloc (h : Reads w B size A n xs) (hB : B ≤ w.heap.size) (o : Obj) : Reads (w.alloc o) B size A n xs := h.keep fun p hp => World.cell?_alloc_lt w o p (by omega)
theorem Reads.setCell (h : Reads w B size A n xs) {p : Addr} (hB : B ≤ p.block) (u : Value) : Reads (w.setCell p u) B size A n xs :=
  h.keep fun q hq => World.cell?_setCell_other w p q u (fun e => by subst e; omega)
theorem Reads.grown (h : Reads w B size A n xs) {row : Option Nat} (hg : w.grownBy w' row) (hB : B ≤ w.heap.size) (hr : ∀ g, row = some g → B ≤ g) : Reads w' B size A n xs :=
  h.keep fun p hp => World.cell?_of_block (hg.block p.block (by omega) (fun e => by have := hr _ e.symm; omega))
theorem Reads.of_own {base : Nat} {e : TypeId} {c : Nat} (h : w.ownsRow base e size (.slice A n c) n xs) : Reads w w.heap.size size A n xs := by
  refine ⟨h.1, fun hn => ?_⟩
  obtain ⟨g, cap, hv, _, hlt⟩ := h.form hn
  have hA : A = some ⟨g, 0, none⟩ := by injection hv
  subst hA
  exact ⟨g, 0, rfl, hlt, fun j u hu => by rw [← add_plain]; exact h.cells (g := g) rfl j u hu⟩
end

def Blk (w : World) (g : Nat) (t : TypeId) (cs : Array Value) : Prop := w.heap[g]? = some (.cells cs t (0, 0))

section
variable {w w' : World} {g : Nat} {t : TypeId} {cs : Array Value}
theorem Blk.lt (h : Blk w g t cs) : g < w.heap.size := by
  rcases Nat.lt_or_ge g w.heap.size with hlt | hge
  · exact hlt
  · unfold Blk at h; rw [Array.getElem?_eq_none hge] at h; cases h
theorem Blk.cell (h : Blk w g t cs) (i : Nat) : w.cell? ⟨g, i, none⟩ = cs[i]? := cell_of_row w g i cs t (0, 0) h
theorem Blk.frozen (h : Blk w g t cs) (i : Nat) : w.frozen? ⟨g, i, none⟩ = false := by
  unfold Blk at h
  simp [World.frozen?, h]
theorem Blk.new (w : World) (t : TypeId) (cs : Array Value) : Blk (w.alloc (.cells cs t)) w.heap.size t cs := heap_alloc_new w _
theorem Blk.drew (h : Blk w g t cs) : Blk w.drew g t cs := h
theorem Blk.drewN (h : Blk w g t cs) (n : Nat) : Blk (w.drewN n) g t cs := h
theorem Blk.alloc (h : Blk w g t cs) (o : Obj) : Blk (w.alloc o) g t cs := (Below.heap_alloc w o g h.lt).trans h
theorem Blk.set_ (h : Blk w g t cs) (i : Nat) (u : Value) : Blk (w.setCell ⟨g, i, none⟩ u) g t (cs.setIfInBounds i u) := by
  unfold Blk at h ⊢
  simp [World.setCell, Array.getElem?_modify, h]
theorem Blk.far (h : Blk w g t cs) {p : Addr} (hp : g ≠ p.block) (u : Value) : Blk (w.setCell p u) g t cs := (Below.heap_setCell w p u g hp).trans h
theorem Blk.below {B : Nat} (h : Blk w g t cs) (hb : Below B w w') (hg : g < B) : Blk w' g t cs := (hb.block g hg).trans h
theorem Blk.grown {row : Option Nat} (h : Blk w g t cs) (hb : w.grownBy w' row) (hg : some g ≠ row) : Blk w' g t cs := (hb.block g h.lt hg).trans h
theorem Blk.ne_ {g' : Nat} {t' : TypeId} {cs' : Array Value} (h : Blk w g t cs) (h' : Blk w g' t' cs') (hne : t ≠ t') : g ≠ g' := by
  rintro rfl
  unfold Blk at h h'
  rw [h] at h'
  injection h' with h'
  injection h' with _ ht
  exact hne ht
theorem own_blk_ne {base : Nat} {e : TypeId} {size n : Nat} {v : Value} {xs : List Value} (h : w.ownsRow base e size v n xs) (hg : Blk w g t cs) (hne : e ≠ t) : v.ownBlock ≠ some g := by
  rcases h.2 with ⟨rfl, _⟩ | ⟨g', cap, cur, rfl, _, hh, _⟩
  · simp [Value.ownBlock]
  · intro he
    have : g' = g := by simpa [Value.ownBlock] using he
    subst this
    exact Blk.ne_ (t := e) hh hg hne rfl
end

/-- A block keeps over a call that changes nothing that was there. -/
theorem Blk.keep {w w' : World} {g : Nat} {t : TypeId} {cs : Array Value} (h : Blk w g t cs) (hb : Below w.heap.size w w') : Blk w' g t cs := h.below hb h.lt

section
variable {P : Program} (w : World)

theorem run_append_of_nil (base : Nat) (t ty e : TypeId) (i : TypeInfo) (size : Nat) (ht : P.underlying t = some (.slice e)) (hi : P.info? e = some i)
    (v : Value) (n : Nat) (xs : List Value) (hown : w.ownsRow base e size v n xs) (c : Nat) : (Builtin.append_ #[t, t] ty #[v, .slice none 0 c]).run P w = .ok v w := by
  rcases hown.2 with ⟨rfl, rfl⟩ | ⟨g, cap, cur, rfl, _, _, hnc, _⟩
  · simp [Builtin.append_, run_underlying ht, sizeOf, typeInfo, hi, Builtin.lenOf, Builtin.firstCells]
  · simp [Builtin.append_, run_underlying ht, sizeOf, typeInfo, hi, Builtin.lenOf, Builtin.firstCells, hnc, storeCells]

theorem run_append_any (base : Nat) (t ty e : TypeId) (i : TypeInfo) (z : Value) (size bytes : Nat) (ht : P.underlying t = some (.slice e)) (hi : P.info? e = some i) (hz : i.zero = some z)
    (hsize : i.size = size) (hby : i.bytes = bytes) (hzs : z.cells.size = size) (hsz : 0 < size)
    (v : Value) (n : Nat) (xs : List Value) (hown : w.ownsRow base e size v n xs)
    (B : Nat) (A : Option Addr) (m c : Nat) (news : List Value) (hr : Reads w B size A m news) (h1 : ∀ u ∈ news, u.oneCell' = true)
    (h63 : n + m ≤ maxLen) (hbytes : (n + m) * bytes ≤ 140737488355328) (hbase : base ≤ w.heap.size) :
    ∃ v' w', (Builtin.append_ #[t, t] ty #[v, .slice A m c]).run P w = .ok v' w' ∧ w'.ownsRow base e size v' (n + m) (xs ++ news) ∧ w.grownBy w' v.ownBlock ∧
      (v'.ownBlock = v.ownBlock ∨ v'.ownBlock = some w.heap.size) := by
  rcases A with _ | ad
  · have hm : m = 0 := by
      rcases Nat.eq_zero_or_pos m with h0 | h0
      · exact h0
      · obtain ⟨_, _, h, _⟩ := hr.2 h0
        cases h
    subst hm
    have hn : news = [] := List.eq_nil_of_length_eq_zero (by simpa using hr.1)
    subst hn
    exact ⟨v, w, run_append_of_nil w base t ty e i size ht hi v n xs hown c, by simpa using hown, World.grownBy.refl w _, .inl rfl⟩
  · have hcells : ∀ j u, news[j]? = some u → w.cell? (ad.add j) = some u := by
      intro j u hu
      rcases Nat.eq_zero_or_pos m with h0 | h0
      · subst h0
        have hn : news = [] := List.eq_nil_of_length_eq_zero (by simpa using hr.1)
        subst hn
        simp at hu
      · obtain ⟨b, off, h, _, hc⟩ := hr.2 h0
        injection h with h
        subst h
        rw [add_plain]
        exact hc j u hu
    obtain ⟨v', w', hrun, h2, h3, _, h5⟩ := run_append_own_at (P := P) w base t ty e i z size bytes ht hi hz hsize hby hzs hsz v n xs hown ad m c news hr.1 hcells h1 h63 hbytes hbase
    exact ⟨v', w', hrun, h2, h3, h5⟩

theorem wp_append_any {o : Oper} {a : Act} {K : Act → World → Prop} {Q : Exit → Act → World → Prop} (s x : Operand) (t : TypeId)
    (ho : o.op = .call { callee := .builtin .append, args := #[s, x], argTypes := #[t, t] })
    (base : Nat) (e : TypeId) (i : TypeInfo) (z : Value) (size bytes : Nat) (ht : P.underlying t = some (.slice e)) (hi : P.info? e = some i) (hz : i.zero = some z)
    (hsize : i.size = size) (hby : i.bytes = bytes) (hzs : z.cells.size = size) (hsz : 0 < size)
    (v : Value) (n : Nat) (xs : List Value) (hs : a.eval s = v) (hown : w.ownsRow base e size v n xs)
    (B : Nat) (A : Option Addr) (m c : Nat) (news : List Value) (hx : a.eval x = .slice A m c) (hr : Reads w B size A m news) (h1 : ∀ u ∈ news, u.oneCell' = true)
    (h63 : n + m ≤ maxLen) (hbytes : (n + m) * bytes ≤ 140737488355328) (hbase : base ≤ w.heap.size)
    (h : ∀ v' w', w'.ownsRow base e size v' (n + m) (xs ++ news) → w.grownBy w' v.ownBlock → (v'.ownBlock = v.ownBlock ∨ v'.ownBlock = some w.heap.size) → K (a.put o.dst v') w') : o.wp P a w K Q := by
  obtain ⟨v', w', hrun, h2, h3, h4⟩ := run_append_any (P := P) w base t o.type e i z size bytes ht hi hz hsize hby hzs hsz v n xs hown B A m c news hr h1 h63 hbytes hbase
  unfold Oper.wp execOp
  simp only [ho, resolve, invoke, builtin, Sem.run_bind, Sem.run_pure, Result.andThen_ok, List.map_toArray, List.map_cons, List.map_nil, hs, hx, hrun]
  exact h v' w' h2 h3 h4

theorem wpList_append_any {ops : Array Oper} {rest : List Oper} {o : Oper} {a : Act} {Q : Exit → Act → World → Prop} (hgd : o.guard = none) (s x : Operand) (t : TypeId)
    (ho : o.op = .call { callee := .builtin .append, args := #[s, x], argTypes := #[t, t] })
    (base : Nat) (e : TypeId) (i : TypeInfo) (z : Value) (size bytes : Nat) (ht : P.underlying t = some (.slice e)) (hi : P.info? e = some i) (hz : i.zero = some z)
    (hsize : i.size = size) (hby : i.bytes = bytes) (hzs : z.cells.size = size) (hsz : 0 < size)
    (v : Value) (n : Nat) (xs : List Value) (hs : a.eval s = v) (hown : w.ownsRow base e size v n xs)
    (B : Nat) (A : Option Addr) (m c : Nat) (news : List Value) (hx : a.eval x = .slice A m c) (hr : Reads w B size A m news) (h1 : ∀ u ∈ news, u.oneCell' = true)
    (h63 : n + m ≤ maxLen) (hbytes : (n + m) * bytes ≤ 140737488355328) (hbase : base ≤ w.heap.size)
    (h : ∀ v' w', w'.ownsRow base e size v' (n + m) (xs ++ news) → w.grownBy w' v.ownBlock → (v'.ownBlock = v.ownBlock ∨ v'.ownBlock = some w.heap.size) → wpList P ops Q rest (a.put o.dst v') w') : wpList P ops Q (o :: rest) a w :=
  wpList_plain hgd fun _ hK => wp_append_any w s x t ho base e i z size bytes ht hi hz hsize hby hzs hsz v n xs hs hown B A m c news hx hr h1 h63 hbytes hbase fun v' w' h2 h3 h4 => hK _ _ (h v' w' h2 h3 h4)

theorem step_append_any {ops : Array Oper} {o : Oper} {a : Act} {K : Act → World → Prop} {Q : Exit → Act → World → Prop} {E : Prop} (hgd : o.guard = none) (s x : Operand) (t : TypeId)
    (ho : o.op = .call { callee := .builtin .append, args := #[s, x], argTypes := #[t, t] })
    (base : Nat) (e : TypeId) (i : TypeInfo) (z : Value) (size bytes : Nat) (ht : P.underlying t = some (.slice e)) (hi : P.info? e = some i) (hz : i.zero = some z)
    (hsize : i.size = size) (hby : i.bytes = bytes) (hzs : z.cells.size = size) (hsz : 0 < size)
    (v : Value) (n : Nat) (xs : List Value) (hs : a.eval s = v) (hown : w.ownsRow base e size v n xs)
    (B : Nat) (A : Option Addr) (m c : Nat) (news : List Value) (hx : a.eval x = .slice A m c) (hr : Reads w B size A m news) (h1 : ∀ u ∈ news, u.oneCell' = true)
    (h63 : n + m ≤ maxLen) (hbytes : (n + m) * bytes ≤ 140737488355328) (hbase : base ≤ w.heap.size)
    (h : ∀ v' w', w'.ownsRow base e size v' (n + m) (xs ++ news) → w.grownBy w' v.ownBlock → (v'.ownBlock = v.ownBlock ∨ v'.ownBlock = some w.heap.size) → K (a.put o.dst v') w') :
    if Region.wanted o (yielded ops a.tmps) = true then Oper.wp P o a w K Q else E := by
  have hw : Region.wanted o (yielded ops a.tmps) = true := by simp [Region.wanted, hgd]
  rw [if_pos hw]
  exact wp_append_any w s x t ho base e i z size bytes ht hi hz hsize hby hzs hsz v n xs hs hown B A m c news hx hr h1 h63 hbytes hbase h
end

theorem own_base {w : World} {base base' : Nat} {e : TypeId} {size : Nat} {v : Value} {n : Nat} {xs : List Value} (h : w.ownsRow base e size v n xs) (hb : base' ≤ base) : w.ownsRow base' e size v n xs := by
  obtain ⟨h1, h2⟩ := h
  refine ⟨h1, ?_⟩
  rcases h2 with h2 | ⟨g, cap, cur, hv, hg, r⟩
  · exact .inl h2
  · exact .inr ⟨g, cap, cur, hv, by omega, r⟩

/-! ### make([]T, n) -/
theorem range_add_map {α : Type} (f : Nat → α) (a b : Nat) : (List.range (a + b)).map f = (List.range a).map f ++ (List.range b).map (fun j => f (a + j)) := by
  rw [List.range_add, List.map_append, List.map_map]
  rfl
theorem madeCells_flat (zc : Array Value) : ∀ n : Nat, (madeCells zc (n * zc.size)).toList = (List.replicate n zc.toList).flatten := by
  intro n
  have h0 : (madeCells zc (n * zc.size)).toList = (List.range (n * zc.size)).map (zc[· % zc.size]!) := by simp [madeCells]
  rw [h0]
  clear h0
  induction n with
  | zero => simp
  | succ n ih =>
    rw [Nat.succ_mul, range_add_map, ih, List.replicate_succ', List.flatten_append]
    congr 1
    simp only [List.flatten_cons, List.flatten_nil, List.append_nil]
    apply List.ext_getElem
    · simp
    · intro j h1 h2
      have hj : j < zc.size := by simpa using h1
      have e : j % zc.size = j := Nat.mod_eq_of_lt hj
      simp [e, hj]

theorem wpList_makeN {P : Program} {w : World} {ops : Array Oper} {rest : List Oper} {o : Oper} {a : Act} {Q : Exit → Act → World → Prop} (hgd : o.guard = none) (l c : Operand) (t : TypeId) (hop : o.op = Op.makeSlice t l c)
    (e : TypeId) (i : TypeInfo) (z : Value) (size bytes : Nat) (ht : P.underlying t = some (.slice e)) (hi : P.info? e = some i) (hz : i.zero = some z)
    (hsize : i.size = size) (hby : i.bytes = bytes) (hzs : z.cells.size = size) (kl kc : IntKind) (n : Nat) (hl : a.eval l = .int kl (n : Int)) (hc : a.eval c = .int kc (n : Int))
    (hn : n ≤ 1099511627776) (hbytes : bytes ≤ 128)
    (h : ∀ w', w'.ownsRow w.heap.size e size (.slice (some ⟨w.heap.size, 0, none⟩) n n) n (List.replicate n z.cells.toList).flatten → Below w.heap.size w w' → wpList P ops Q rest (a.put o.dst (.slice (some ⟨w.heap.size, 0, none⟩) n n)) w') :
    wpList P ops Q (o :: rest) a w := by
  refine wpList_make_full w hgd l c t hop w.heap.size e i z size ht hi hz hsize kl kc _ _ n hl hc rfl rfl (by rw [hby]; exact Nat.le_trans (Nat.mul_le_mul hbytes hn) (by omega)) (by unfold maxLen; omega) (Nat.le_refl _) ?_
  intro w' hO hg
  have hO' := hO
  rw [← hzs, madeCells_flat] at hO'
  rw [hzs] at hO'
  exact h w' hO' ((Below.refl _ _).grown hg (Nat.le_refl _) (fun k hk => by cases hk))
theorem flat_one (n : Nat) (z : Value) : (List.replicate n [z]).flatten = List.replicate n z := by simp

/-! ### append of ONE element onto a row of the call's own -/
theorem grown_alloc {w w2 : World} {o : Obj} {row : Option Nat} (h : (w.alloc o).grownBy w2 row) : w.grownBy w2 row :=
  ⟨h.os, h.tape, h.output, Nat.le_trans (by simp) h.size, fun k hk hne => (h.block k (by simp; omega) hne).trans (heap_alloc_old w o hk)⟩
theorem bl_grown {a w w2 : World} {e : TypeId} {size n : Nat} {v : Value} {xs : List Value} (h : Below a.heap.size a w) (hO : w.ownsRow a.heap.size e size v n xs) (hg : w.grownBy w2 v.ownBlock) : Below a.heap.size a w2 :=
  h.grown hg h.size (fun g e => (hO.lt g e).1)

theorem wpList_push {P : Program} {w : World} {ops : Array Oper} {rest : List Oper} {o : Oper} {a : Act} {Q : Exit → Act → World → Prop} (hgd : o.guard = none) (s x : Operand) (t : TypeId)
    (ho : o.op = .call { callee := .builtin .append, args := #[s, x], argTypes := #[t, t] })
    (base : Nat) (e : TypeId) (i : TypeInfo) (z : Value) (size bytes : Nat) (ht : P.underlying t = some (.slice e)) (hi : P.info? e = some i) (hz : i.zero = some z)
    (hsize : i.size = size) (hby : i.bytes = bytes) (hzs : z.cells.size = size) (hsz : 0 < size)
    (v : Value) (n : Nat) (xs : List Value) (hs : a.eval s = v) (hown : w.ownsRow base e size v n xs)
    (news : List Value) (hl : news.length = size) (hx : a.eval x = .slice (some ⟨w.heap.size, 0, none⟩) 1 1) (h1 : news.all Value.oneCell' = true)
    (h63 : n + 1 ≤ 1099511627776) (hbytes : bytes ≤ 128) (hbase : base ≤ w.heap.size)
    (h : ∀ v' w', w'.ownsRow base e size v' (n + 1) (xs ++ news) → w.grownBy w' v.ownBlock → wpList P ops Q rest (a.put o.dst v') w') :
    wpList P ops Q (o :: rest) a (w.alloc (.cells news.toArray e)) := by
  refine wpList_append_own _ hgd s x t ho base e i z size bytes ht hi hz hsize hby hzs hsz v n xs hs (hown.alloc _) ⟨w.heap.size, 0, none⟩ 1 1 news hx (by omega) ?_ (fun u hu => List.all_eq_true.1 h1 u hu) (by unfold maxLen; omega)
    (Nat.le_trans (Nat.mul_le_mul h63 hbytes) (by omega)) (by simp; omega) (fun v' w' hO hg _ => h v' w' hO (grown_alloc hg))
  intro j u hu
  have hadd : (⟨w.heap.size, 0, none⟩ : Addr).add j = ⟨w.heap.size, j, none⟩ := by unfold Addr.add; split <;> simp_all
  rw [hadd, World.cell?_alloc_mark]
  simpa using hu

end Go.Proofs.Ytnoekbgmhnhneaa
namespace Go.Proofs.Ytnoekbgmhnhneaa
open Go.RowKit


/-- The slice value v owns the cells xs, in a block between lo and hi. -/
def Row (w : World) (lo hi : Nat) (e : TypeId) (size : Nat) (v : Value) (n : Nat) (xs : List Value) : Prop := w.ownsRow lo e size v n xs ∧ ∀ k, v.ownBlock = some k → k < hi
section
variable {w w' : World} {lo hi size n : Nat} {e : TypeId} {v : Value} {xs : List Value}
theorem Row.mk (h : w.ownsRow lo e size v n xs) : Row w lo w.heap.size e size v n xs := ⟨h, fun k hk => (h.lt k hk).2⟩
theorem Row.more (h : Row w lo hi e size v n xs) {lo' hi' : Nat} (h1 : lo' ≤ lo) (h2 : hi ≤ hi') : Row w lo' hi' e size v n xs := ⟨own_base h.1 h1, fun k hk => Nat.lt_of_lt_of_le (h.2 k hk) h2⟩
theorem Row.far (h : Row w lo hi e size v n xs) {r : Option Nat} (hg : w.grownBy w' r) (hr : ∀ k, r = some k → k < lo ∨ hi ≤ k) : Row w' lo hi e size v n xs :=
  ⟨h.1.kept hg (by
    cases hv : v.ownBlock with
    | none => exact .inl rfl
    | some k =>
      refine .inr (fun e => ?_)
      have h1 := (h.1.lt k hv).1
      have h2 := h.2 k hv
      rcases hr k e.symm with h3 | h3 <;> omega), h.2⟩
theorem Row.keep (h : Row w lo hi e size v n xs) (hb : Below w.heap.size w w') : Row w' lo hi e size v n xs :=
  h.far (r := none) ⟨hb.os, hb.tape, hb.output, hb.size, fun k hk _ => hb.block k hk⟩ (fun k hk => by cases hk)
theorem Row.form (h : Row w lo hi e size v n xs) : ∃ A c, v = .slice A n c := by
  rcases h.1.2 with ⟨rfl, rfl⟩ | ⟨g, cap, cur, rfl, _⟩
  · exact ⟨_, _, rfl⟩
  · exact ⟨_, _, rfl⟩
theorem Row.cap {A : Option Addr} {c : Nat} (h : Row w lo hi e size (.slice A n c) n xs) : n ≤ c ∧ c ≤ 9223372036854775807 := by
  rcases h.1.2 with ⟨h1, h2⟩ | ⟨g, cap, cur, h1, _, _, h2, h3, _⟩
  · simp only [Value.slice.injEq] at h1
    omega
  · simp only [Value.slice.injEq] at h1
    obtain ⟨_, _, rfl⟩ := h1
    exact ⟨h2, h3⟩
theorem Row.len (h : Row w lo hi e size v n xs) : xs.length = n * size := h.1.1
theorem Row.reads {A : Option Addr} {c : Nat} (h : Row w lo hi e size (.slice A n c) n xs) : Reads w w.heap.size size A n xs := Reads.of_own h.1
theorem Row.grow (h : Row w lo hi e size v n xs) (hg : w.grownBy w' v.ownBlock) {a : World} (hb : Below a.heap.size a w) (hlo : a.heap.size ≤ lo) : Below a.heap.size a w' := hb.grown hg hb.size (fun k hk => Nat.le_trans hlo (h.1.lt k hk).1)
end
def u8s (zs : List Int) : List Value := zs.map (Value.int .u8)
def Byt (zs : List Int) : Prop := ∀ z ∈ zs, 0 ≤ z ∧ z < 256

/-- It hands back a number of which R holds. -/
def RetInt (R : Int → Prop) (e : Ending) : Prop := ∃ x : Int, e = .returned (.int .i64 x) ∧ R x
/-- It hands back new bytes of which R holds. -/
def RetB (R : List Int → Prop) (w : World) (e : Ending) (w' : World) : Prop := ∃ (v : Value) (zs : List Int), e = .returned v ∧ R zs ∧ Byt zs ∧ Row w' w.heap.size w'.heap.size 5 1 v zs.length (u8s zs)
theorem rd_below {w w' : World} {size n : Nat} {A : Option Addr} {xs : List Value} (h : Reads w w.heap.size size A n xs) (hb : Below w.heap.size w w') : Reads w' w'.heap.size size A n xs := (h.below hb).more hb.size
theorem gr_refl (w : World) (r : Option Nat) : w.grownBy w r := ⟨rfl, rfl, rfl, Nat.le_refl _, fun _ _ _ => rfl⟩
theorem gr_trans {a b c : World} {r : Option Nat} (h : a.grownBy b r) (k : b.grownBy c r) : a.grownBy c r :=
  ⟨k.os.trans h.os, k.tape.trans h.tape, k.output.trans h.output, Nat.le_trans h.size k.size, fun i hi hne => (k.block i (Nat.lt_of_lt_of_le hi h.size) hne).trans (h.block i hi hne)⟩
theorem gr_drewN {a w : World} {r : Option Nat} (h : a.grownBy w r) (n : Nat) : a.grownBy (w.drewN n) r := ⟨h.os, h.tape, h.output, h.size, h.block⟩
theorem gr_alloc {a w : World} {r : Option Nat} (h : a.grownBy w r) (o : Obj) : a.grownBy (w.alloc o) r :=
  ⟨h.os, h.tape, h.output, Nat.le_trans h.size (by simp), fun i hi hne => (Below.heap_alloc w o i (Nat.lt_of_lt_of_le hi h.size)).trans (h.block i hi hne)⟩
theorem gr_set {a w : World} {g : Nat} (h : a.grownBy w (some g)) {p : Addr} (hp : p.block = g ∨ a.heap.size ≤ p.block) (u : Value) : a.grownBy (w.setCell p u) (some g) :=
  ⟨h.os, h.tape, h.output, by simpa [World.setCell] using h.size, fun i hi hne => (Below.heap_setCell w p u i (by
    rintro rfl
    rcases hp with hp | hp
    · exact hne (by rw [hp])
    · omega)).trans (h.block i hi hne)⟩
theorem gr_below {a w w1 : World} {r : Option Nat} (h : a.grownBy w r) (k : Below w.heap.size w w1) : a.grownBy w1 r :=
  ⟨k.os.trans h.os, k.tape.trans h.tape, k.output.trans h.output, Nat.le_trans h.size k.size, fun i hi hne => (k.block i (Nat.lt_of_lt_of_le hi h.size)).trans (h.block i hi hne)⟩
theorem bl_gr {a w w1 : World} {r : Option Nat} (h : Below a.heap.size a w) (k : w.grownBy w1 r) (hr : ∀ g, r = some g → a.heap.size ≤ g) : Below a.heap.size a w1 := h.grown k h.size hr

theorem own_gr {w w' : World} {base size n g : Nat} {e : TypeId} {v : Value} {xs : List Value} (h : w.ownsRow base e size v n xs) (hg : w.grownBy w' (some g)) (hne : g < base) : w'.ownsRow base e size v n xs :=
  h.kept hg (by
    cases hv : v.ownBlock with
    | none => exact .inl rfl
    | some k => have := (h.lt k hv).1; exact .inr (by simp; omega))
theorem info_u8 : (Try.prog.info? 5).map (fun i => (i.zero, i.size, i.bytes)) = some (some (.int .u8 0), 1, 1) := by kernel_rfl
theorem u8s_snoc (zs : List Int) (z : Int) : u8s zs ++ [.int .u8 z] = u8s (zs ++ [z]) := by simp [u8s]
theorem Byt.snoc {zs : List Int} {z : Int} (h : Byt zs) (h0 : 0 ≤ z) (h1 : z < 256) : Byt (zs ++ [z]) := by
  intro x hx
  rcases List.mem_append.1 hx with hx | hx
  · exact h x hx
  · simp at hx; subst hx; exact ⟨h0, h1⟩

end Go.Proofs.Ytnoekbgmhnhneaa
namespace Go.Proofs.Ytnoekbgmhnhneaa
open Go.RowKit

theorem u8s_len (zs : List Int) : (u8s zs).length = zs.length := by simp [u8s]
theorem u8s_get (zs : List Int) (k : Nat) (hk : k < zs.length) : (u8s zs)[k]? = some (.int .u8 zs[k]) := by simp [u8s, hk]
theorem rd_at {w : World} {B : Nat} {A : Option Addr} {zs : List Int} (h : Reads w B 1 A zs.length (u8s zs)) {k : Nat} (hk : k < zs.length) :
    ∃ b off, A = some ⟨b, off, none⟩ ∧ b < B ∧ w.cell? ⟨b, off + k, none⟩ = some (.int .u8 zs[k]) := by
  obtain ⟨b, off, u, e, hb, hu, hc⟩ := h.at_ hk
  rw [u8s_get zs k hk] at hu
  cases hu
  exact ⟨b, off, e, hb, hc⟩
theorem own_at {w : World} {lo : Nat} {A : Option Addr} {c : Nat} {e : TypeId} {n : Nat} {xs : List Value} (h : w.ownsRow lo e 1 (.slice A n c) n xs) {k : Nat} (hk : k < n) :
    ∃ g, A = some ⟨g, 0, none⟩ ∧ lo ≤ g ∧ g < w.heap.size ∧ w.cell? ⟨g, k, none⟩ = xs[k]? ∧ w.frozen? ⟨g, k, none⟩ = false := by
  rcases h.2 with ⟨h', h0⟩ | ⟨g, cap, cur, h', hg, _⟩
  · omega
  · simp only [Value.slice.injEq, true_and] at h'
    obtain ⟨rfl, rfl⟩ := h'
    refine ⟨g, rfl, hg, ?_, h.cellAt k (by omega), h.frozenAt k⟩
    exact (h.lt g rfl).2


end Go.Proofs.Ytnoekbgmhnhneaa
namespace Go.Proofs.Ytnoekbgmhnhneaa
open Go.ChangeShapes Go.WideShapes Go.ChangeAt Go.RowKit

theorem open_nums {H : Type} {enc : TypeId × Value → H} {P : Program} {w : World} {k : IntKind} {r : Reach} {b0 : Nat} {t e : TypeId} {v : Value} {d : DataW H} {ps : List MemPlace}
    (ht : P.underlying t = some (.slice e)) (he : P.underlying e = some (.int k)) (hc : P.cellsOf e = 1) (hval : Value.okWide P w r b0 t v) (h : DataW.Trod enc P w 0 (fun _ => true) true t v d ps) :
    ∃ (A : Option Addr) (c : Nat) (zs : List Int), v = .slice A zs.length c ∧ Reads w w.heap.size 1 A zs.length (zs.map (Value.int k)) ∧ (∀ z ∈ zs, (Lit.int k z).wf = true) ∧ zs.length ≤ 9223372036854775807 := by
  obtain ⟨a, len, cap, rfl⟩ := okWide_slice ht hval
  obtain ⟨fuel, hf⟩ := h
  rcases open_ints ht he hc hf with ⟨hcs, _⟩ | ⟨x, l, c, zs, hcs, _, hl, hm, hz, _, hcell, hwz⟩
  · simp [Value.cells] at hcs
    obtain ⟨rfl, rfl, rfl⟩ := hcs
    exact ⟨none, 0, [], rfl, ⟨by simp, fun h => absurd h (by simp)⟩, (fun _ h => by cases h), by simp⟩
  · simp [Value.cells] at hcs
    obtain ⟨rfl, rfl, rfl⟩ := hcs
    have hzl : zs.length = cap := by simpa using hz
    have hlen : (zs.take len).length = len := by rw [List.length_take]; omega
    refine ⟨some x, cap, zs.take len, by rw [hlen], ⟨by simp, fun hp => ?_⟩, fun z h => hwz z (List.mem_of_mem_take h), ?_⟩
    · rw [hlen] at hp
      have c0 := hcell 0 (by omega)
      have hs := World.cell?_spot c0
      obtain ⟨b, off, sp⟩ := x
      have hsp : sp = none := by simpa [Addr.add] using hs
      subst hsp
      refine ⟨b, off, rfl, World.block_lt_of_cell? w _ c0, fun j u hu => ?_⟩
      rw [List.getElem?_map, List.getElem?_take] at hu
      split at hu
      · have hj : j < zs.length := by omega
        have := hcell j hj
        rw [add_plain] at this
        rw [this]
        rw [List.getElem?_eq_getElem hj] at hu
        simp at hu
        rw [← hu]
        simp [List.getD, List.getElem?_eq_getElem hj]
      · cases hu
    · rw [hlen]
      unfold maxLen at hm
      omega
theorem byt_of_wf {zs : List Int} (h : ∀ z ∈ zs, (Lit.int .u8 z).wf = true) : Byt zs := by
  intro z hz
  have := h z hz
  simp only [Lit.wf, IntKind.min, IntKind.max, IntKind.signed, IntKind.bits, Bool.and_eq_true] at this
  simp at this
  omega
end Go.Proofs.Ytnoekbgmhnhneaa
namespace Go.Proofs.Ytnoekbgmhnhneaa
open Go.RowKit

/-- The elements' cells, one behind the other. -/
def flat {α : Type} (f : α → List Value) (l : List α) : List Value := l.flatMap f
theorem flat_nil {α : Type} (f : α → List Value) : flat f [] = [] := rfl
theorem flat_cons {α : Type} (f : α → List Value) (a : α) (l : List α) : flat f (a :: l) = f a ++ flat f l := by simp [flat]
theorem flat_snoc {α : Type} (f : α → List Value) (l : List α) (a : α) : flat f l ++ f a = flat f (l ++ [a]) := by simp [flat]
theorem flat_len {α : Type} {f : α → List Value} {m : Nat} (hm : ∀ a, (f a).length = m) (l : List α) : (flat f l).length = l.length * m := by
  induction l with
  | nil => simp [flat]
  | cons a l ih => rw [flat_cons, List.length_append, hm, ih, List.length_cons, Nat.succ_mul, Nat.add_comm]
theorem flat_get {α : Type} {f : α → List Value} {m : Nat} (hm : ∀ a, (f a).length = m) (l : List α) (i : Nat) (hi : i < l.length) (c : Nat) (hc : c < m) : (flat f l)[i * m + c]? = (f l[i])[c]? := by
  induction l generalizing i with
  | nil => simp at hi
  | cons a l ih =>
    rw [flat_cons]
    cases i with
    | zero => rw [Nat.zero_mul, Nat.zero_add, List.getElem?_append_left (by rw [hm]; exact hc)]; rfl
    | succ i =>
      have hi' : i < l.length := by simpa using hi
      have e : (i + 1) * m + c = m + (i * m + c) := by rw [Nat.succ_mul]; omega
      rw [e, List.getElem?_append_right (by rw [hm]; omega), hm, Nat.add_sub_cancel_left, ih i hi']
      rfl
theorem rd_flat {α : Type} {f : α → List Value} {m : Nat} (hm : ∀ a, (f a).length = m) {w : World} {B : Nat} {A : Option Addr} {l : List α} (h : Reads w B m A l.length (flat f l)) {i : Nat} (hi : i < l.length) :
    ∃ b off, A = some ⟨b, off, none⟩ ∧ b < B ∧ ∀ c u, (f l[i])[c]? = some u → w.cell? ⟨b, off + i * m + c, none⟩ = some u := by
  obtain ⟨b, off, e, hb, hc⟩ := h.2 (by omega)
  refine ⟨b, off, e, hb, fun c u hu => ?_⟩
  have hcm : c < m := by
    rcases Nat.lt_or_ge c (f l[i]).length with h1 | h1
    · rw [hm] at h1; exact h1
    · rw [List.getElem?_eq_none h1] at hu; cases hu
  have := hc (i * m + c) u (by rw [flat_get hm l i hi c hcm]; exact hu)
  rw [← Nat.add_assoc] at this
  exact this
/-- The first k of the one, then the other's. -/
def uptoG {α : Type} (zs ys : List α) (k : Nat) : List α := zs.take k ++ ys.drop k
theorem uptoG_zero {α : Type} (zs ys : List α) : uptoG zs ys 0 = ys := by simp [uptoG]
theorem uptoG_all {α : Type} (zs ys : List α) (h : zs.length = ys.length) : uptoG zs ys zs.length = zs := by simp [uptoG, List.drop_eq_nil_of_le (show ys.length ≤ zs.length by omega)]
theorem uptoG_len {α : Type} (zs ys : List α) (k : Nat) (h : zs.length = ys.length) (hk : k ≤ zs.length) : (uptoG zs ys k).length = zs.length := by simp [uptoG]; omega
theorem uptoG_succ {α : Type} (zs ys : List α) (k : Nat) (hl : zs.length = ys.length) (hk : k < zs.length) : (uptoG zs ys k).set k zs[k] = uptoG zs ys (k + 1) := by
  unfold uptoG
  apply List.ext_getElem?
  intro j
  rw [List.getElem?_set]
  have h1 : (List.take k zs).length = k := by rw [List.length_take]; omega
  have h2 : (List.take (k + 1) zs).length = k + 1 := by rw [List.length_take]; omega
  by_cases hj : k = j
  · subst hj
    rw [if_pos rfl, if_pos (by rw [List.length_append, h1, List.length_drop]; omega), List.getElem?_append_left (by rw [h2]; omega), List.getElem?_take, if_pos (by omega), List.getElem?_eq_getElem hk]
  · rw [if_neg hj]
    rcases Nat.lt_or_ge j k with h | h
    · rw [List.getElem?_append_left (by rw [h1]; exact h), List.getElem?_append_left (by rw [h2]; omega), List.getElem?_take, List.getElem?_take, if_pos h, if_pos (by omega)]
    · rw [List.getElem?_append_right (by rw [h1]; omega), List.getElem?_append_right (by rw [h2]; omega), h1, h2, List.getElem?_drop, List.getElem?_drop]
      congr 1
      omega
theorem own_blk {w : World} {lo size : Nat} {A : Option Addr} {c : Nat} {e : TypeId} {n : Nat} {xs : List Value} (h : w.ownsRow lo e size (.slice A n c) n xs) (hn : 0 < n) :
    ∃ g, A = some ⟨g, 0, none⟩ ∧ lo ≤ g ∧ g < w.heap.size := by
  rcases h.2 with ⟨h', h0⟩ | ⟨g, cap, cur, h', hg, _⟩
  · simp only [Value.slice.injEq] at h'; omega
  · simp only [Value.slice.injEq, true_and] at h'
    obtain ⟨rfl, rfl⟩ := h'
    exact ⟨g, rfl, hg, (h.lt g rfl).2⟩

theorem len_3 {l : List Value} (h : l.length = 3) : ∃ x0 x1 x2, l = [x0, x1, x2] := by
  match l, h with
  | [x0, x1, x2], _ => exact ⟨x0, x1, x2, rfl⟩
theorem flat_set3 {α : Type} {f : α → List Value} (hm : ∀ a, (f a).length = 3) (a : α) {v0 v1 v2 : Value} (hf : f a = [v0, v1, v2]) : ∀ (l : List α) (k : Nat), k < l.length →
    (((flat f l).set (k * 3) v0).set (k * 3 + 1) v1).set (k * 3 + 2) v2 = flat f (l.set k a)
  | [], k, h => by simp at h
  | b :: l, 0, _ => by
    obtain ⟨x0, x1, x2, hb⟩ := len_3 (hm b)
    rw [List.set_cons_zero, flat_cons, flat_cons, hb, hf]
    rfl
  | b :: l, k + 1, h => by
    obtain ⟨x0, x1, x2, hb⟩ := len_3 (hm b)
    have ih := flat_set3 hm a hf l k (by simpa using h)
    rw [List.set_cons_succ, flat_cons, flat_cons, hb, ← ih, Nat.succ_mul]
    rfl

theorem len_4 {l : List Value} (h : l.length = 4) : ∃ x0 x1 x2 x3, l = [x0, x1, x2, x3] := by
  match l, h with
  | [x0, x1, x2, x3], _ => exact ⟨x0, x1, x2, x3, rfl⟩
theorem flat_set4 {α : Type} {f : α → List Value} (hm : ∀ a, (f a).length = 4) (a : α) {v0 v1 v2 v3 : Value} (hf : f a = [v0, v1, v2, v3]) : ∀ (l : List α) (k : Nat), k < l.length →
    ((((flat f l).set (k * 4) v0).set (k * 4 + 1) v1).set (k * 4 + 2) v2).set (k * 4 + 3) v3 = flat f (l.set k a)
  | [], k, h => by simp at h
  | b :: l, 0, _ => by
    obtain ⟨x0, x1, x2, x3, hb⟩ := len_4 (hm b)
    rw [List.set_cons_zero, flat_cons, flat_cons, hb, hf]
    rfl
  | b :: l, k + 1, h => by
    obtain ⟨x0, x1, x2, x3, hb⟩ := len_4 (hm b)
    have ih := flat_set4 hm a hf l k (by simpa using h)
    rw [List.set_cons_succ, flat_cons, flat_cons, hb, ← ih, Nat.succ_mul]
    rfl

theorem len_6 {l : List Value} (h : l.length = 6) : ∃ x0 x1 x2 x3 x4 x5, l = [x0, x1, x2, x3, x4, x5] := by
  match l, h with
  | [x0, x1, x2, x3, x4, x5], _ => exact ⟨x0, x1, x2, x3, x4, x5, rfl⟩
theorem flat_set6 {α : Type} {f : α → List Value} (hm : ∀ a, (f a).length = 6) (a : α) {v0 v1 v2 v3 v4 v5 : Value} (hf : f a = [v0, v1, v2, v3, v4, v5]) : ∀ (l : List α) (k : Nat), k < l.length →
    ((((((flat f l).set (k * 6) v0).set (k * 6 + 1) v1).set (k * 6 + 2) v2).set (k * 6 + 3) v3).set (k * 6 + 4) v4).set (k * 6 + 5) v5 = flat f (l.set k a)
  | [], k, h => by simp at h
  | b :: l, 0, _ => by
    obtain ⟨x0, x1, x2, x3, x4, x5, hb⟩ := len_6 (hm b)
    rw [List.set_cons_zero, flat_cons, flat_cons, hb, hf]
    rfl
  | b :: l, k + 1, h => by
    obtain ⟨x0, x1, x2, x3, x4, x5, hb⟩ := len_6 (hm b)
    have ih := flat_set6 hm a hf l k (by simpa using h)
    rw [List.set_cons_succ, flat_cons, flat_cons, hb, ← ih, Nat.succ_mul]
    rfl

end Go.Proofs.Ytnoekbgmhnhneaa
namespace Go.Proofs.Ytnoekbgmhnhneaa
open Go.RowKit

theorem res_cell1 {fn : Func} {p : Tmp} {ty : TypeId} (h : fn.results = #[.cell p ty]) (tmps : Array Value) (P : Program) (w : World) (g : Nat) (t : TypeId) (cs : Array Value) {fs : _}
    (hp : tmps.getD p undef = .pointer (some ⟨g, 0, none⟩)) (hg : Blk w g t cs)
    (hu : P.underlying ty = some (.struct fs)) (hi : (P.info? ty).map (·.size) = some cs.size) :
    (results fn tmps).run P w = .ok (.agg cs) w := by
  have hp' : tmps[p]?.getD undef = .pointer (some ⟨g, 0, none⟩) := by simpa using hp
  simp [results, h, hp', asAddr, run_loadVar_row w g t ty cs (0, 0) (.struct fs) hg hu rfl hi]
theorem alloc_size (w : World) (o : Obj) : (w.alloc o).heap.size = w.heap.size + 1 := Array.size_push _
theorem Blk.new2 (w : World) (o : Obj) (t : TypeId) (cs : Array Value) : Blk ((w.alloc o).alloc (.cells cs t)) (w.heap.size + 1) t cs := heap_alloc2_new w _ _
theorem Blk.farb {w : World} {g b j : Nat} {t : TypeId} {cs : Array Value} (h : Blk w g t cs) (hp : g ≠ b) (u : Value) : Blk (w.setCell ⟨b, j, none⟩ u) g t cs := h.far (p := ⟨b, j, none⟩) hp u
theorem bl_setb {B b j : Nat} {a w : World} (h : Below B a w) (hp : B ≤ b) (u : Value) : Below B a (w.setCell ⟨b, j, none⟩ u) := Below.setCell (p := ⟨b, j, none⟩) h hp u
/-- What is left; -1: too little. -/
def left_ (l : Int) (n : Nat) : Int := if l - n < 0 then -1 else l - n
theorem left_neg {l : Int} {n : Nat} (h : left_ l n < 0) : left_ l n = -1 ∧ l < n := by
  unfold left_ at h ⊢
  split at h
  · exact ⟨if_pos (by assumption), by omega⟩
  · omega
theorem left_pos {l : Int} {n : Nat} (h : ¬ left_ l n < 0) : left_ l n = l - n ∧ (n : Int) ≤ l := by
  unfold left_ at h ⊢
  split at h
  · omega
  · exact ⟨if_neg (by assumption), by omega⟩
theorem left_is {l : Int} {n : Nat} (h : l < n) : left_ l n = -1 := by unfold left_; rw [if_pos (by omega)]
/-- A row of trees: the first one's label, its kids, and the trees behind it. -/
inductive Fr (α : Type) where
  | nil : Fr α
  | cons (a : α) (kids rest : Fr α) : Fr α
namespace Fr
variable {α : Type}
def len : Fr α → Nat
  | .nil => 0
  | .cons _ _ r => r.len + 1
def size : Fr α → Nat
  | .nil => 0
  | .cons _ k r => k.size + r.size + 1
def drop : Fr α → Nat → Fr α
  | fr, 0 => fr
  | .nil, _ + 1 => .nil
  | .cons _ _ r, n + 1 => r.drop n
theorem drop_zero (fr : Fr α) : fr.drop 0 = fr := by cases fr <;> rfl
theorem drop_at : ∀ (fr : Fr α) (i : Nat), i < fr.len → ∃ a k, fr.drop i = .cons a k (fr.drop (i + 1))
  | .nil, i, h => by simp [len] at h
  | .cons a k r, 0, _ => ⟨a, k, by rw [drop_zero]; show _ = Fr.cons a k (r.drop 0); rw [drop_zero]⟩
  | .cons a k r, i + 1, h => drop_at r i (by simpa [len] using h)
theorem drop_all : ∀ (fr : Fr α), fr.drop fr.len = .nil
  | .nil => rfl
  | .cons _ _ r => drop_all r
theorem drop_len : ∀ (fr : Fr α) (i : Nat), (fr.drop i).len = fr.len - i
  | fr, 0 => by rw [drop_zero]; rfl
  | .nil, i + 1 => by simp [drop, len]
  | .cons _ _ r, i + 1 => by show (r.drop i).len = r.len + 1 - (i + 1); rw [drop_len r i]; omega
theorem drop_size : ∀ (fr : Fr α) (i : Nat), (fr.drop i).size ≤ fr.size
  | fr, 0 => by rw [drop_zero]; exact Nat.le_refl _
  | .nil, i + 1 => Nat.le_refl _
  | .cons _ k r, i + 1 => by have := drop_size r i; show (r.drop i).size ≤ k.size + r.size + 1; omega
theorem size_pos {fr : Fr α} (h : fr.size = 0) : fr = .nil := by cases fr with | nil => rfl | cons a k r => simp [size] at h
theorem len_size : ∀ (fr : Fr α), fr.len ≤ fr.size
  | .nil => Nat.le_refl _
  | .cons _ k r => by have := len_size r; show r.len + 1 ≤ k.size + r.size + 1; omega
end Fr

section
variable {α : Type} (f : α → List Value) (w : World) (lo hi : Nat)
/-- The row's cells stand behind block b's place off; the blocks of all that lies within are from lo up to hi. -/
def FrIn : Fr α → Nat → Nat → Prop
  | .nil, _, _ => True
  | .cons a kids rest, b, off =>
    (∃ A c, (∀ j u, (f a ++ [Value.slice A kids.len c])[j]? = some u → w.cell? ⟨b, off + j, none⟩ = some u) ∧
      (0 < kids.len → ∃ b' o', A = some ⟨b', o', none⟩ ∧ lo ≤ b' ∧ b' < hi ∧ FrIn kids b' o')) ∧
    FrIn rest b (off + ((f a).length + 1))
/-- A slice value that holds the row. -/
def Sl (A : Option Addr) (fr : Fr α) : Prop := 0 < fr.len → ∃ b o, A = some ⟨b, o, none⟩ ∧ lo ≤ b ∧ b < hi ∧ FrIn f w lo hi fr b o
end
section
variable {α : Type} {f : α → List Value} {w w' : World} {lo hi lo' hi' m : Nat}
theorem FrIn.keep (hk : ∀ p : Addr, lo ≤ p.block → p.block < hi → w'.cell? p = w.cell? p) (hl : lo' ≤ lo) (hh : hi ≤ hi') : ∀ (fr : Fr α) (b off : Nat), lo ≤ b → b < hi → FrIn f w lo hi fr b off → FrIn f w' lo' hi' fr b off
  | .nil, _, _, _, _, _ => trivial
  | .cons a kids rest, b, off, h1, h2, h => by
    obtain ⟨⟨A, c, hc, hk'⟩, hr⟩ := h
    refine ⟨⟨A, c, fun j u hu => (hk ⟨b, off + j, none⟩ h1 h2).trans (hc j u hu), fun hp => ?_⟩, FrIn.keep hk hl hh rest b _ h1 h2 hr⟩
    obtain ⟨b', o', e, q1, q2, hi2⟩ := hk' hp
    exact ⟨b', o', e, by omega, by omega, FrIn.keep hk hl hh kids b' o' q1 q2 hi2⟩
theorem Sl.keep {A : Option Addr} {fr : Fr α} (h : Sl f w lo hi A fr) (hk : ∀ p : Addr, lo ≤ p.block → p.block < hi → w'.cell? p = w.cell? p) (hl : lo' ≤ lo) (hh : hi ≤ hi') : Sl f w' lo' hi' A fr := fun hp => by
  obtain ⟨b, o, e, h1, h2, h3⟩ := h hp
  exact ⟨b, o, e, by omega, by omega, FrIn.keep hk hl hh fr b o h1 h2 h3⟩
theorem Sl.below {A : Option Addr} {fr : Fr α} (h : Sl f w lo hi A fr) {B : Nat} (hb : Below B w w') (hB : hi ≤ B) : Sl f w' lo hi A fr := h.keep (fun _ _ h2 => hb.cell (by omega)) (Nat.le_refl _) (Nat.le_refl _)
theorem Sl.set {A : Option Addr} {fr : Fr α} (h : Sl f w lo hi A fr) {p : Addr} (hp : p.block < lo ∨ hi ≤ p.block) (u : Value) : Sl f (w.setCell p u) lo hi A fr := h.keep (fun q h1 h2 => World.cell?_setCell_other w p q u (fun e => by subst e; omega)) (Nat.le_refl _) (Nat.le_refl _)
theorem Sl.setb {A : Option Addr} {fr : Fr α} (h : Sl f w lo hi A fr) {b j : Nat} (hp : b < lo ∨ hi ≤ b) (u : Value) : Sl f (w.setCell ⟨b, j, none⟩ u) lo hi A fr := h.set (p := ⟨b, j, none⟩) hp u
theorem Sl.more {A : Option Addr} {fr : Fr α} (h : Sl f w lo hi A fr) (hl : lo' ≤ lo) (hh : hi ≤ hi') : Sl f w lo' hi' A fr := h.keep (fun _ _ _ => rfl) hl hh
theorem FrIn.drop (hf : ∀ a, (f a).length + 1 = m) : ∀ (fr : Fr α) (i b off : Nat), FrIn f w lo hi fr b off → FrIn f w lo hi (fr.drop i) b (off + i * m)
  | fr, 0, b, off, h => by rw [Fr.drop_zero, Nat.zero_mul, Nat.add_zero]; exact h
  | .nil, i + 1, b, off, _ => trivial
  | .cons a k r, i + 1, b, off, h => by
    have := FrIn.drop hf r i b _ h.2
    rw [hf a] at this
    rw [Nat.succ_mul, Nat.add_comm (i * m), ← Nat.add_assoc]
    exact this
/-- What stands at place i of a row. -/
theorem Sl.at_ (hf : ∀ a, (f a).length + 1 = m) {A : Option Addr} {fr : Fr α} (h : Sl f w lo hi A fr) {i : Nat} (hi' : i < fr.len) :
    ∃ b o a kids A' c', A = some ⟨b, o, none⟩ ∧ lo ≤ b ∧ b < hi ∧ fr.drop i = .cons a kids (fr.drop (i + 1)) ∧ kids.size < fr.size ∧
      (∀ j u, (f a ++ [Value.slice A' kids.len c'])[j]? = some u → w.cell? ⟨b, o + i * m + j, none⟩ = some u) ∧ Sl f w lo hi A' kids := by
  obtain ⟨b, o, e, h1, h2, h3⟩ := h (by omega)
  obtain ⟨a, kids, hd⟩ := fr.drop_at i hi'
  have h4 := FrIn.drop hf fr i b o h3
  rw [hd] at h4
  obtain ⟨⟨A', c', hc, hs⟩, _⟩ := h4
  have := fr.drop_size i
  rw [hd] at this
  exact ⟨b, o, a, kids, A', c', e, h1, h2, hd, by simp only [Fr.size] at this; omega, hc, hs⟩
/-- An element's cells: the label's, and the slice. -/
def rC (f : α → List Value) (x : α × Value) : List Value := f x.1 ++ [x.2]
theorem rC_len (hf : ∀ a, (f a).length + 1 = m) (x : α × Value) : (rC f x).length = m := by simp [rC, hf]
/-- The first k places of a list of labels and slices are the row's. -/
def FitsK (f : α → List Value) (w : World) (lo hi : Nat) (fr : Fr α) (l : List (α × Value)) (k : Nat) : Prop :=
  ∀ i, i < k → ∃ a kids A c, fr.drop i = .cons a kids (fr.drop (i + 1)) ∧ l[i]? = some (a, .slice A kids.len c) ∧ Sl f w lo hi A kids
theorem FitsK.zero (fr : Fr α) (l : List (α × Value)) : FitsK f w lo hi fr l 0 := fun i h => by omega
theorem FitsK.keep {fr : Fr α} {l : List (α × Value)} {k : Nat} (h : FitsK f w lo hi fr l k) (hk : ∀ p : Addr, lo ≤ p.block → p.block < hi → w'.cell? p = w.cell? p) (hl : lo' ≤ lo) (hh : hi ≤ hi') : FitsK f w' lo' hi' fr l k := fun i hi0 => by
  obtain ⟨a, kids, A, c, h1, h2, h3⟩ := h i hi0
  exact ⟨a, kids, A, c, h1, h2, h3.keep hk hl hh⟩
theorem FitsK.setb {fr : Fr α} {l : List (α × Value)} {k : Nat} (h : FitsK f w lo hi fr l k) {b j : Nat} (hp : b < lo ∨ hi ≤ b) (u : Value) : FitsK f (w.setCell ⟨b, j, none⟩ u) lo hi fr l k := fun i hi0 => by
  obtain ⟨a, kids, A, c, h1, h2, h3⟩ := h i hi0
  exact ⟨a, kids, A, c, h1, h2, h3.setb hp u⟩
theorem FitsK.set_ {fr : Fr α} {l : List (α × Value)} {k : Nat} (h : FitsK f w lo hi fr l k) (hk : k < l.length) {a : α} {kids : Fr α} {A : Option Addr} {c : Nat} (hd : fr.drop k = .cons a kids (fr.drop (k + 1))) (hS : Sl f w lo hi A kids) :
    FitsK f w lo hi fr (l.set k (a, .slice A kids.len c)) (k + 1) := fun i hi0 => by
  by_cases hik : i = k
  · subst hik
    exact ⟨a, kids, A, c, hd, by rw [List.getElem?_set_self (by omega)], hS⟩
  · obtain ⟨a', kids', A', c', h1, h2, h3⟩ := h i (by omega)
    exact ⟨a', kids', A', c', h1, by rw [List.getElem?_set_ne (by omega)]; exact h2, h3⟩
theorem FrIn.of_fits : ∀ (fr : Fr α) (l : List (α × Value)) (b off : Nat), l.length = fr.len → FitsK f w lo hi fr l fr.len → (∀ j u, (flat (rC f) l)[j]? = some u → w.cell? ⟨b, off + j, none⟩ = some u) → FrIn f w lo hi fr b off
  | .nil, _, _, _, _, _, _ => trivial
  | .cons a k r, [], _, _, h, _, _ => by simp [Fr.len] at h
  | .cons a k r, x :: l, b, off, h, hF, hc => by
    obtain ⟨a', k', A, c, h1, h2, h3⟩ := hF 0 (by simp [Fr.len])
    rw [Fr.drop_zero] at h1
    injection h1 with e1 e2 e3
    subst e1 e2
    simp only [List.getElem?_cons_zero, Option.some.injEq] at h2
    subst h2
    rw [flat_cons] at hc
    have hl : (rC f (a, Value.slice A k.len c)).length = (f a).length + 1 := by simp [rC]
    refine ⟨⟨A, c, fun j u hu => hc j u ?_, h3⟩, ?_⟩
    · have hj : j < (rC f (a, Value.slice A k.len c)).length := by
        rcases Nat.lt_or_ge j (rC f (a, Value.slice A k.len c)).length with h | h
        · exact h
        · exact absurd hu (by rw [show (f a ++ [Value.slice A k.len c])[j]? = none from List.getElem?_eq_none h]; simp)
      rw [List.getElem?_append_left hj]
      exact hu
    · refine FrIn.of_fits r l b _ (by simpa [Fr.len] using h) (fun i hi' => ?_) (fun j u hu => ?_)
      · obtain ⟨a', k', A', c', h1, h2, h3⟩ := hF (i + 1) (by simp [Fr.len]; exact hi')
        exact ⟨a', k', A', c', h1, by simpa using h2, h3⟩
      · have := hc (((f a).length + 1) + j) u (by
          rw [List.getElem?_append_right (by rw [hl]; omega), hl, Nat.add_sub_cancel_left]
          exact hu)
        rw [← Nat.add_assoc] at this
        exact this
/-- What is asked of each label, and that no slice is too long. -/
def FrOk (Q : α → Prop) : Fr α → Prop
  | .nil => True
  | .cons a k r => Q a ∧ k.len ≤ 9223372036854775807 ∧ FrOk Q k ∧ FrOk Q r
theorem FrOk.drop {Q : α → Prop} : ∀ {fr : Fr α} (i : Nat), FrOk Q fr → FrOk Q (fr.drop i)
  | fr, 0, h => by rw [Fr.drop_zero]; exact h
  | .nil, i + 1, _ => trivial
  | .cons _ _ r, i + 1, h => FrOk.drop (fr := r) i h.2.2.2
theorem fr_of_list {q : α → Prop} : ∀ (l : List (α × Value)), (∀ x ∈ l, ∃ (A : Option Addr) (c : Nat) (kids : Fr α), x.2 = .slice A kids.len c ∧ Sl f w lo hi A kids ∧ kids.len ≤ 9223372036854775807 ∧ FrOk q kids ∧ q x.1) →
    ∃ fr : Fr α, fr.len = l.length ∧ FitsK f w lo hi fr l fr.len ∧ FrOk q fr
  | [], _ => ⟨.nil, rfl, FitsK.zero _ _, trivial⟩
  | x :: l, h => by
    obtain ⟨fr, h1, h2, h3⟩ := fr_of_list l (fun y hy => h y (List.mem_cons_of_mem _ hy))
    obtain ⟨A, c, kids, e, hS, hl, hq, ha⟩ := h x (List.mem_cons_self ..)
    obtain ⟨a, v⟩ := x
    simp only at e ha
    subst e
    refine ⟨.cons a kids fr, by simp [Fr.len, h1], fun i hi' => ?_, ha, hl, hq, h3⟩
    cases i with
    | zero => exact ⟨a, kids, A, c, by rw [Fr.drop_zero]; show _ = Fr.cons a kids (fr.drop 0); rw [Fr.drop_zero], rfl, hS⟩
    | succ i =>
      obtain ⟨a', k', A', c', q1, q2, q3⟩ := h2 i (by simp [Fr.len] at hi'; exact hi')
      exact ⟨a', k', A', c', q1, by simpa using q2, q3⟩
/-- How many nodes and bytes there are. -/
def wt (g : α → Nat) : Fr α → Nat
  | .nil => 0
  | .cons a k r => 1 + g a + wt g k + wt g r
theorem len_wt (g : α → Nat) : ∀ fr : Fr α, fr.len ≤ wt g fr
  | .nil => Nat.le_refl _
  | .cons _ k r => by have := len_wt g r; show r.len + 1 ≤ _; simp only [wt]; omega
theorem size_wt (g : α → Nat) : ∀ fr : Fr α, fr.size ≤ wt g fr
  | .nil => Nat.le_refl _
  | .cons _ k r => by have := size_wt g r; have := size_wt g k; simp only [wt, Fr.size]; omega
theorem wt_drop (g : α → Nat) : ∀ (fr : Fr α) (i : Nat), wt g (fr.drop i) ≤ wt g fr
  | fr, 0 => by rw [Fr.drop_zero]; exact Nat.le_refl _
  | .nil, i + 1 => Nat.le_refl _
  | .cons _ k r, i + 1 => by have := wt_drop g r i; show wt g (r.drop i) ≤ _; simp only [wt]; omega
end

end Go.Proofs.Ytnoekbgmhnhneaa
namespace Go.Proofs.Ytnoekbgmhnhneaa
open Go.RowKit

/-- A label's cells. -/
def rexC (a : (Int × ByteArray)) : List Value := [.int .i64 a.1, .string a.2]
theorem rexC_len (a : (Int × ByteArray)) : (rexC a).length + 1 = 3 := rfl
theorem info_Rex : (Try.prog.info? 45).map (fun i => (i.zero, i.size, i.bytes)) = some (some (.agg #[.int .i64 0, .string ⟨#[]⟩, .slice none 0 0]), 3, 48) := by kernel_rfl
/-- What stands at place i of a row. -/
theorem at_Rex {w : World} {lo hi : Nat} {A : Option Addr} {fr : Fr (Int × ByteArray)} (h : Sl rexC w lo hi A fr) {i : Nat} (hi' : i < fr.len) :
    ∃ b o a kids A' c', A = some ⟨b, o, none⟩ ∧ b < hi ∧ fr.drop i = .cons a kids (fr.drop (i + 1)) ∧ kids.size < fr.size ∧ Sl rexC w lo hi A' kids ∧
      w.cell? ⟨b, o + i * 3, none⟩ = some (.int .i64 a.1) ∧ w.cell? ⟨b, o + i * 3 + 1, none⟩ = some (.string a.2) ∧ w.cell? ⟨b, o + i * 3 + 2, none⟩ = some (.slice A' kids.len c') := by
  obtain ⟨b, o, a, kids, A', c', e, _, h2, hd, hs, hc, hS⟩ := h.at_ rexC_len hi'
  exact ⟨b, o, a, kids, A', c', e, h2, hd, hs, hS, hc 0 _ rfl, hc 1 _ rfl, hc 2 _ rfl⟩
/-- It hands back a new row of these trees. -/
def RetFr_Rex (fr : Fr (Int × ByteArray)) (w : World) (e : Ending) (w' : World) : Prop := ∃ (A : Option Addr) (c : Nat), e = .returned (.slice A fr.len c) ∧ Sl rexC w' w.heap.size w'.heap.size A fr
/-- It hands back a new tree. -/
def RetTr_Rex (a : (Int × ByteArray)) (kids : Fr (Int × ByteArray)) (w : World) (e : Ending) (w' : World) : Prop := ∃ (A : Option Addr) (c : Nat), e = .returned (.agg #[.int .i64 a.1, .string a.2, .slice A kids.len c]) ∧ Sl rexC w' w.heap.size w'.heap.size A kids

end Go.Proofs.Ytnoekbgmhnhneaa
namespace Go.Proofs.Ytnoekbgmhnhneaa
open Go.RowKit

section
variable (w : World) (lo hi : Nat)
/-- The row's cells stand behind block b's place off, none is frozen; each row within begins at a block's head. -/
def OwIn : Fr (Int × ByteArray) → Nat → Nat → Prop
  | .nil, _, _ => True
  | .cons a kids rest, b, off =>
    (∃ A c, (∀ j u, (rexC a ++ [Value.slice A kids.len c])[j]? = some u → w.cell? ⟨b, off + j, none⟩ = some u ∧ w.frozen? ⟨b, off + j, none⟩ = false) ∧
      (0 < kids.len → ∃ b', A = some ⟨b', 0, none⟩ ∧ lo ≤ b' ∧ b' < hi ∧ OwIn kids b' 0)) ∧
    OwIn rest b (off + 3)
/-- A slice value that holds the row. -/
def Ow (A : Option Addr) (fr : Fr (Int × ByteArray)) : Prop := 0 < fr.len → ∃ b, A = some ⟨b, 0, none⟩ ∧ lo ≤ b ∧ b < hi ∧ OwIn w lo hi fr b 0
/-- Of the row's cells the kinds alone. -/
def ShIn : Fr (Int × ByteArray) → Nat → Nat → Prop
  | .nil, _, _ => True
  | .cons _ kids rest, b, off =>
    (∃ (x : Int) (s : ByteArray) (A : Option Addr) (c : Nat), w.cell? ⟨b, off, none⟩ = some (.int .i64 x) ∧ w.cell? ⟨b, off + 1, none⟩ = some (.string s) ∧ w.cell? ⟨b, off + 2, none⟩ = some (.slice A kids.len c) ∧
      w.frozen? ⟨b, off, none⟩ = false ∧ w.frozen? ⟨b, off + 1, none⟩ = false ∧
      (0 < kids.len → ∃ b', A = some ⟨b', 0, none⟩ ∧ lo ≤ b' ∧ b' < hi ∧ ShIn kids b' 0)) ∧
    ShIn rest b (off + 3)
def Sh (A : Option Addr) (fr : Fr (Int × ByteArray)) : Prop := 0 < fr.len → ∃ b, A = some ⟨b, 0, none⟩ ∧ lo ≤ b ∧ b < hi ∧ ShIn w lo hi fr b 0
end
section
variable {w w' : World} {lo hi lo' hi' : Nat}
theorem OwIn.keep (hk : ∀ p : Addr, lo ≤ p.block → p.block < hi → w'.cell? p = w.cell? p ∧ w'.frozen? p = w.frozen? p) (hl : lo' ≤ lo) (hh : hi ≤ hi') : ∀ (fr : Fr (Int × ByteArray)) (b off : Nat), lo ≤ b → b < hi → OwIn w lo hi fr b off → OwIn w' lo' hi' fr b off
  | .nil, _, _, _, _, _ => trivial
  | .cons a kids rest, b, off, h1, h2, h => by
    obtain ⟨⟨A, c, hc, hk'⟩, hr⟩ := h
    refine ⟨⟨A, c, fun j u hu => ?_, fun hp => ?_⟩, OwIn.keep hk hl hh rest b _ h1 h2 hr⟩
    · have hq := hk ⟨b, off + j, none⟩ h1 h2
      exact ⟨hq.1.trans (hc j u hu).1, hq.2.trans (hc j u hu).2⟩
    · obtain ⟨b', e, q1, q2, hi2⟩ := hk' hp
      exact ⟨b', e, by omega, by omega, OwIn.keep hk hl hh kids b' 0 q1 q2 hi2⟩
theorem Ow.keep {A : Option Addr} {fr : Fr (Int × ByteArray)} (h : Ow w lo hi A fr) (hk : ∀ p : Addr, lo ≤ p.block → p.block < hi → w'.cell? p = w.cell? p ∧ w'.frozen? p = w.frozen? p) (hl : lo' ≤ lo) (hh : hi ≤ hi') : Ow w' lo' hi' A fr := fun hp => by
  obtain ⟨b, e, h1, h2, h3⟩ := h hp
  exact ⟨b, e, by omega, by omega, OwIn.keep hk hl hh fr b 0 h1 h2 h3⟩
theorem below_both {B : Nat} (hb : Below B w w') {p : Addr} (hp : p.block < B) : w'.cell? p = w.cell? p ∧ w'.frozen? p = w.frozen? p := ⟨hb.cell hp, World.frozen?_of_block (hb.block p.block hp)⟩
theorem Ow.below {A : Option Addr} {fr : Fr (Int × ByteArray)} (h : Ow w lo hi A fr) {B : Nat} (hb : Below B w w') (hB : hi ≤ B) : Ow w' lo hi A fr := h.keep (fun _ _ h2 => below_both hb (by omega)) (Nat.le_refl _) (Nat.le_refl _)
theorem set_both {p q : Addr} (hne : q.block ≠ p.block) (u : Value) : (w.setCell p u).cell? q = w.cell? q ∧ (w.setCell p u).frozen? q = w.frozen? q :=
  ⟨World.cell?_setCell_other w p q u (fun e => hne (by rw [e])), World.frozen?_of_block (Below.heap_setCell w p u q.block hne)⟩
theorem Ow.setb {A : Option Addr} {fr : Fr (Int × ByteArray)} (h : Ow w lo hi A fr) {b j : Nat} (hp : b < lo ∨ hi ≤ b) (u : Value) : Ow (w.setCell ⟨b, j, none⟩ u) lo hi A fr :=
  h.keep (fun q h1 h2 => set_both (p := ⟨b, j, none⟩) (by show q.block ≠ b; omega) u) (Nat.le_refl _) (Nat.le_refl _)
theorem Ow.more {A : Option Addr} {fr : Fr (Int × ByteArray)} (h : Ow w lo hi A fr) (hl : lo' ≤ lo) (hh : hi ≤ hi') : Ow w lo' hi' A fr := h.keep (fun _ _ _ => ⟨rfl, rfl⟩) hl hh
theorem OwIn.in_ : ∀ (fr : Fr (Int × ByteArray)) (b off : Nat), OwIn w lo hi fr b off → FrIn rexC w lo hi fr b off
  | .nil, _, _, _ => trivial
  | .cons a kids rest, b, off, h => by
    obtain ⟨⟨A, c, hc, hk'⟩, hr⟩ := h
    refine ⟨⟨A, c, fun j u hu => (hc j u hu).1, fun hp => ?_⟩, OwIn.in_ rest b _ hr⟩
    obtain ⟨b', e, q1, q2, hi2⟩ := hk' hp
    exact ⟨b', 0, e, q1, q2, OwIn.in_ kids b' 0 hi2⟩
theorem Ow.sl {A : Option Addr} {fr : Fr (Int × ByteArray)} (h : Ow w lo hi A fr) : Sl rexC w lo hi A fr := fun hp => by
  obtain ⟨b, e, h1, h2, h3⟩ := h hp
  exact ⟨b, 0, e, h1, h2, OwIn.in_ fr b 0 h3⟩
theorem OwIn.sh : ∀ (fr : Fr (Int × ByteArray)) (b off : Nat), OwIn w lo hi fr b off → ShIn w lo hi fr b off
  | .nil, _, _, _ => trivial
  | .cons a kids rest, b, off, h => by
    obtain ⟨⟨A, c, hc, hk'⟩, hr⟩ := h
    refine ⟨⟨a.1, a.2, A, c, (hc 0 _ rfl).1, (hc 1 _ rfl).1, (hc 2 _ rfl).1, (hc 0 _ rfl).2, (hc 1 _ rfl).2, fun hp => ?_⟩, OwIn.sh rest b _ hr⟩
    obtain ⟨b', e, q1, q2, hi2⟩ := hk' hp
    exact ⟨b', e, q1, q2, OwIn.sh kids b' 0 hi2⟩
theorem Ow.sh {A : Option Addr} {fr : Fr (Int × ByteArray)} (h : Ow w lo hi A fr) : Sh w lo hi A fr := fun hp => by
  obtain ⟨b, e, h1, h2, h3⟩ := h hp
  exact ⟨b, e, h1, h2, OwIn.sh fr b 0 h3⟩
/-- The first k places of a list of labels and slices are the row's. -/
def FitsO (w : World) (lo hi : Nat) (fr : Fr (Int × ByteArray)) (l : List ((Int × ByteArray) × Value)) (k : Nat) : Prop :=
  ∀ i, i < k → ∃ a kids A c, fr.drop i = .cons a kids (fr.drop (i + 1)) ∧ l[i]? = some (a, .slice A kids.len c) ∧ Ow w lo hi A kids
theorem FitsO.zero (fr : Fr (Int × ByteArray)) (l : List ((Int × ByteArray) × Value)) : FitsO w lo hi fr l 0 := fun i h => by omega
theorem FitsO.keep {fr : Fr (Int × ByteArray)} {l : List ((Int × ByteArray) × Value)} {k : Nat} (h : FitsO w lo hi fr l k) (hk : ∀ p : Addr, lo ≤ p.block → p.block < hi → w'.cell? p = w.cell? p ∧ w'.frozen? p = w.frozen? p) (hl : lo' ≤ lo) (hh : hi ≤ hi') : FitsO w' lo' hi' fr l k := fun i hi0 => by
  obtain ⟨a, kids, A, c, h1, h2, h3⟩ := h i hi0
  exact ⟨a, kids, A, c, h1, h2, h3.keep hk hl hh⟩
theorem FitsO.setb {fr : Fr (Int × ByteArray)} {l : List ((Int × ByteArray) × Value)} {k : Nat} (h : FitsO w lo hi fr l k) {b j : Nat} (hp : b < lo ∨ hi ≤ b) (u : Value) : FitsO (w.setCell ⟨b, j, none⟩ u) lo hi fr l k := fun i hi0 => by
  obtain ⟨a, kids, A, c, h1, h2, h3⟩ := h i hi0
  exact ⟨a, kids, A, c, h1, h2, h3.setb hp u⟩
theorem FitsO.set_ {fr : Fr (Int × ByteArray)} {l : List ((Int × ByteArray) × Value)} {k : Nat} (h : FitsO w lo hi fr l k) (hk : k < l.length) {a : Int × ByteArray} {kids : Fr (Int × ByteArray)} {A : Option Addr} {c : Nat} (hd : fr.drop k = .cons a kids (fr.drop (k + 1))) (hS : Ow w lo hi A kids) :
    FitsO w lo hi fr (l.set k (a, .slice A kids.len c)) (k + 1) := fun i hi0 => by
  by_cases hik : i = k
  · subst hik
    exact ⟨a, kids, A, c, hd, by rw [List.getElem?_set_self (by omega)], hS⟩
  · obtain ⟨a', kids', A', c', h1, h2, h3⟩ := h i (by omega)
    exact ⟨a', kids', A', c', h1, by rw [List.getElem?_set_ne (by omega)]; exact h2, h3⟩
theorem OwIn.of_fits : ∀ (fr : Fr (Int × ByteArray)) (l : List ((Int × ByteArray) × Value)) (b off : Nat), l.length = fr.len → FitsO w lo hi fr l fr.len → (∀ j u, (flat (rC rexC) l)[j]? = some u → w.cell? ⟨b, off + j, none⟩ = some u ∧ w.frozen? ⟨b, off + j, none⟩ = false) → OwIn w lo hi fr b off
  | .nil, _, _, _, _, _, _ => trivial
  | .cons a k r, [], _, _, h, _, _ => by simp [Fr.len] at h
  | .cons a k r, x :: l, b, off, h, hF, hc => by
    obtain ⟨a', k', A, c, h1, h2, h3⟩ := hF 0 (by simp [Fr.len])
    rw [Fr.drop_zero] at h1
    injection h1 with e1 e2 e3
    subst e1 e2
    simp only [List.getElem?_cons_zero, Option.some.injEq] at h2
    subst h2
    rw [flat_cons] at hc
    have hl : (rC rexC (a, Value.slice A k.len c)).length = 3 := rfl
    refine ⟨⟨A, c, fun j u hu => hc j u ?_, h3⟩, ?_⟩
    · have hj : j < (rC rexC (a, Value.slice A k.len c)).length := by
        rcases Nat.lt_or_ge j (rC rexC (a, Value.slice A k.len c)).length with h | h
        · exact h
        · exact absurd hu (by rw [show (rexC a ++ [Value.slice A k.len c])[j]? = none from List.getElem?_eq_none h]; simp)
      rw [List.getElem?_append_left hj]
      exact hu
    · refine OwIn.of_fits r l b _ (by simpa [Fr.len] using h) (fun i hi' => ?_) (fun j u hu => ?_)
      · obtain ⟨a', k', A', c', q1, q2, q3⟩ := hF (i + 1) (by simp [Fr.len]; exact hi')
        exact ⟨a', k', A', c', q1, by simpa using q2, q3⟩
      · have := hc (3 + j) u (by
          rw [List.getElem?_append_right (by rw [hl]; omega), hl, Nat.add_sub_cancel_left]
          exact hu)
        rw [← Nat.add_assoc] at this
        exact this
/-- A place of the right kind is written: the kinds stay. -/
theorem ShIn.put {B o : Nat} {u : Value} (hu : (o % 3 = 0 ∧ ∃ x, u = .int .i64 x) ∨ (o % 3 = 1 ∧ ∃ s, u = .string s)) (hB : (w.cell? ⟨B, o, none⟩).isSome) : ∀ (fr : Fr (Int × ByteArray)) (b off : Nat), off % 3 = 0 → ShIn w lo hi fr b off → ShIn (w.setCell ⟨B, o, none⟩ u) lo hi fr b off
  | .nil, _, _, _, _ => trivial
  | .cons a kids rest, b, off, h0, h => by
    obtain ⟨⟨x, s, A, c, c0, c1, c2, f0, f1, hk⟩, hr⟩ := h
    have hfz : ∀ q : Addr, (w.setCell ⟨B, o, none⟩ u).frozen? q = w.frozen? q := fun q => by simp
    have hother : ∀ j, ¬ (b = B ∧ off + j = o) → (w.setCell ⟨B, o, none⟩ u).cell? ⟨b, off + j, none⟩ = w.cell? ⟨b, off + j, none⟩ := fun j hne => World.cell?_setCell_other w _ _ _ (fun e => hne (by injection e with e1 e2; exact ⟨e1.symm, e2.symm⟩))
    have hsame : ∀ q : Addr, q = ⟨B, o, none⟩ → (w.setCell ⟨B, o, none⟩ u).cell? q = some u := fun q e => by subst e; exact World.cell?_setCell_same' w _ u hB
    refine ⟨?_, ShIn.put hu hB rest b _ (by omega) hr⟩
    have ho : o % 3 = 0 ∨ o % 3 = 1 := hu.imp And.left And.left
    have hkk : 0 < kids.len → ∃ b', A = some ⟨b', 0, none⟩ ∧ lo ≤ b' ∧ b' < hi ∧ ShIn (w.setCell ⟨B, o, none⟩ u) lo hi kids b' 0 := fun hp => by
      obtain ⟨b', e, q1, q2, q3⟩ := hk hp
      exact ⟨b', e, q1, q2, ShIn.put hu hB kids b' 0 rfl q3⟩
    have C2 : (w.setCell ⟨B, o, none⟩ u).cell? ⟨b, off + 2, none⟩ = some (.slice A kids.len c) := (hother 2 (by rintro ⟨_, e⟩; clear hu hkk hk; omega)).trans c2
    have C0 : ∃ x', (w.setCell ⟨B, o, none⟩ u).cell? ⟨b, off, none⟩ = some (.int .i64 x') := by
      by_cases e : b = B ∧ off + 0 = o
      · obtain ⟨rfl, e⟩ := e
        rcases hu with ⟨_, x', rfl⟩ | ⟨h1, _⟩
        · exact ⟨x', hsame _ (by rw [← e]; rfl)⟩
        · omega
      · exact ⟨x, (hother 0 e).trans c0⟩
    have C1 : ∃ s', (w.setCell ⟨B, o, none⟩ u).cell? ⟨b, off + 1, none⟩ = some (.string s') := by
      by_cases e : b = B ∧ off + 1 = o
      · obtain ⟨rfl, e⟩ := e
        rcases hu with ⟨h1, _⟩ | ⟨_, s', rfl⟩
        · omega
        · exact ⟨s', hsame _ (by rw [← e])⟩
      · exact ⟨s, (hother 1 e).trans c1⟩
    obtain ⟨x', C0⟩ := C0
    obtain ⟨s', C1⟩ := C1
    exact ⟨x', s', A, c, C0, C1, C2, (hfz _).trans f0, (hfz _).trans f1, hkk⟩
/-- Marked: outside of the tree's blocks all is as it was; whatever had the kinds still has them. -/
structure Mk (lo hi : Nat) (w w' : World) : Prop where
  os : w'.os = w.os
  tape : w'.tape = w.tape
  output : w'.output = w.output
  size : w.heap.size ≤ w'.heap.size
  block : ∀ k, k < w.heap.size → k < lo ∨ hi ≤ k → w'.heap[k]? = w.heap[k]?
  shape : ∀ (fr : Fr (Int × ByteArray)) (b off : Nat), off % 3 = 0 → ShIn w lo hi fr b off → lo ≤ b → b < hi → ShIn w' lo hi fr b off
theorem Mk.refl (lo hi : Nat) (w : World) : Mk lo hi w w := ⟨rfl, rfl, rfl, Nat.le_refl _, fun _ _ _ => rfl, fun _ _ _ _ h _ _ => h⟩
theorem Mk.trans {a b c : World} (h : Mk lo hi a b) (k : Mk lo hi b c) : Mk lo hi a c :=
  ⟨k.os.trans h.os, k.tape.trans h.tape, k.output.trans h.output, Nat.le_trans h.size k.size, fun i h1 h2 => (k.block i (Nat.lt_of_lt_of_le h1 h.size) h2).trans (h.block i h1 h2), fun fr b off h0 h1 h2 h3 => k.shape fr b off h0 (h.shape fr b off h0 h1 h2 h3) h2 h3⟩
theorem ShIn.keep (hk : ∀ p : Addr, lo ≤ p.block → p.block < hi → w'.cell? p = w.cell? p ∧ w'.frozen? p = w.frozen? p) : ∀ (fr : Fr (Int × ByteArray)) (b off : Nat), lo ≤ b → b < hi → ShIn w lo hi fr b off → ShIn w' lo hi fr b off
  | .nil, _, _, _, _, _ => trivial
  | .cons a kids rest, b, off, h1, h2, h => by
    obtain ⟨⟨x, s, A, c, c0, c1, c2, f0, f1, hk'⟩, hr⟩ := h
    refine ⟨⟨x, s, A, c, (hk ⟨b, off, none⟩ h1 h2).1.trans c0, (hk ⟨b, off + 1, none⟩ h1 h2).1.trans c1, (hk ⟨b, off + 2, none⟩ h1 h2).1.trans c2, (hk ⟨b, off, none⟩ h1 h2).2.trans f0, (hk ⟨b, off + 1, none⟩ h1 h2).2.trans f1, fun hp => ?_⟩, ShIn.keep hk rest b _ h1 h2 hr⟩
    obtain ⟨b', e, q1, q2, q3⟩ := hk' hp
    exact ⟨b', e, q1, q2, ShIn.keep hk kids b' 0 q1 q2 q3⟩
theorem Mk.below (h : Below w.heap.size w w') (hh : hi ≤ w.heap.size) : Mk lo hi w w' :=
  ⟨h.os, h.tape, h.output, h.size, fun i h1 _ => h.block i h1, fun fr b off _ h1 h2 h3 => ShIn.keep (fun p _ q2 => below_both h (by omega)) fr b off h2 h3 h1⟩
theorem Mk.set {B o : Nat} {u : Value} (hB1 : lo ≤ B) (hB2 : B < hi) (hu : (o % 3 = 0 ∧ ∃ x, u = .int .i64 x) ∨ (o % 3 = 1 ∧ ∃ s, u = .string s)) (hB : (w.cell? ⟨B, o, none⟩).isSome) : Mk lo hi w (w.setCell ⟨B, o, none⟩ u) :=
  ⟨rfl, rfl, rfl, by simp, fun i _ h2 => Below.heap_setCell w ⟨B, o, none⟩ u i (by show i ≠ B; omega), fun fr b off h0 h1 _ _ => ShIn.put hu hB fr b off h0 h1⟩
theorem Mk.drew (h : Mk lo hi w w') : Mk lo hi w w'.drew := ⟨h.os, h.tape, h.output, h.size, h.block, fun fr b off h0 h1 h2 h3 => ShIn.keep (w := w') (w' := w'.drew) (fun _ _ _ => ⟨rfl, rfl⟩) fr b off h2 h3 (h.shape fr b off h0 h1 h2 h3)⟩
theorem Mk.sh (h : Mk lo hi w w') {A : Option Addr} {fr : Fr (Int × ByteArray)} (hS : Sh w lo hi A fr) : Sh w' lo hi A fr := fun hp => by
  obtain ⟨b, e, h1, h2, h3⟩ := hS hp
  exact ⟨b, e, h1, h2, h.shape fr b 0 rfl h3 h1 h2⟩
theorem Mk.cell (h : Mk lo hi w w') {p : Addr} (hp : p.block < w.heap.size) (hn : p.block < lo ∨ hi ≤ p.block) : w'.cell? p = w.cell? p := World.cell?_of_block (h.block p.block hp hn)
theorem Mk.bl (h : Mk lo hi w w') {B : Nat} (hB : B ≤ lo) (hBw : B ≤ w.heap.size) : Below B w w' := ⟨h.os, h.tape, h.output, h.size, fun i hi => h.block i (by omega) (.inl (by omega))⟩
theorem ShIn.drop : ∀ (fr : Fr (Int × ByteArray)) (i b off : Nat), ShIn w lo hi fr b off → ShIn w lo hi (fr.drop i) b (off + i * 3)
  | fr, 0, b, off, h => by rw [Fr.drop_zero, Nat.zero_mul, Nat.add_zero]; exact h
  | .nil, i + 1, b, off, _ => trivial
  | .cons a k r, i + 1, b, off, h => by
    have := ShIn.drop r i b _ h.2
    rw [Nat.succ_mul, Nat.add_comm (i * 3), ← Nat.add_assoc]
    exact this
/-- What stands at place i. -/
theorem Sh.at_ {b : Nat} {fr : Fr (Int × ByteArray)} (h : ShIn w lo hi fr b 0) {i : Nat} (hi' : i < fr.len) :
    ∃ (a : Int × ByteArray) (kids : Fr (Int × ByteArray)) (x : Int) (s : ByteArray) (A : Option Addr) (c : Nat), fr.drop i = .cons a kids (fr.drop (i + 1)) ∧ kids.size < fr.size ∧
      w.cell? ⟨b, i * 3, none⟩ = some (.int .i64 x) ∧ w.cell? ⟨b, i * 3 + 1, none⟩ = some (.string s) ∧ w.cell? ⟨b, i * 3 + 2, none⟩ = some (.slice A kids.len c) ∧
      w.frozen? ⟨b, i * 3, none⟩ = false ∧ w.frozen? ⟨b, i * 3 + 1, none⟩ = false ∧ Sh w lo hi A kids := by
  obtain ⟨a, kids, hd⟩ := fr.drop_at i hi'
  have h4 := ShIn.drop fr i b 0 h
  rw [hd, Nat.zero_add] at h4
  obtain ⟨⟨x, s, A, c, c0, c1, c2, f0, f1, hk⟩, _⟩ := h4
  have := fr.drop_size i
  rw [hd] at this
  exact ⟨a, kids, x, s, A, c, hd, by simp only [Fr.size] at this; omega, c0, c1, c2, f0, f1, hk⟩
end

end Go.Proofs.Ytnoekbgmhnhneaa
namespace Go.Proofs.Ytnoekbgmhnhneaa
open Go.RowKit

section
variable {α : Type} (f : α → List Value) (w : World) (lo hi : Nat)
/-- The row's cells stand behind block b's place off; the blocks of all that lies within are from lo up to hi; lengths are within capacities. -/
def FrInC : Fr α → Nat → Nat → Prop
  | .nil, _, _ => True
  | .cons a kids rest, b, off =>
    (∃ A c, kids.len ≤ c ∧ (∀ j u, (f a ++ [Value.slice A kids.len c])[j]? = some u → w.cell? ⟨b, off + j, none⟩ = some u) ∧
      (0 < kids.len → ∃ b' o', A = some ⟨b', o', none⟩ ∧ lo ≤ b' ∧ b' < hi ∧ FrInC kids b' o')) ∧
    FrInC rest b (off + ((f a).length + 1))
/-- A slice value that holds the row. -/
def SlC (A : Option Addr) (fr : Fr α) : Prop := 0 < fr.len → ∃ b o, A = some ⟨b, o, none⟩ ∧ lo ≤ b ∧ b < hi ∧ FrInC f w lo hi fr b o
end
section
variable {α : Type} {f : α → List Value} {w w' : World} {lo hi lo' hi' m : Nat}
theorem FrInC.to : ∀ (fr : Fr α) (b off : Nat), FrInC f w lo hi fr b off → FrIn f w lo hi fr b off
  | .nil, _, _, _ => trivial
  | .cons a kids rest, b, off, h => by
    obtain ⟨⟨A, c, _, hc, hk'⟩, hr⟩ := h
    refine ⟨⟨A, c, hc, fun hp => ?_⟩, FrInC.to rest b _ hr⟩
    obtain ⟨b', o', e, q1, q2, hi2⟩ := hk' hp
    exact ⟨b', o', e, q1, q2, FrInC.to kids b' o' hi2⟩
theorem SlC.to {A : Option Addr} {fr : Fr α} (h : SlC f w lo hi A fr) : Sl f w lo hi A fr := fun hp => by
  obtain ⟨b, o, e, h1, h2, h3⟩ := h hp
  exact ⟨b, o, e, h1, h2, FrInC.to fr b o h3⟩
theorem FrInC.keep (hk : ∀ p : Addr, lo ≤ p.block → p.block < hi → w'.cell? p = w.cell? p) (hl : lo' ≤ lo) (hh : hi ≤ hi') : ∀ (fr : Fr α) (b off : Nat), lo ≤ b → b < hi → FrInC f w lo hi fr b off → FrInC f w' lo' hi' fr b off
  | .nil, _, _, _, _, _ => trivial
  | .cons a kids rest, b, off, h1, h2, h => by
    obtain ⟨⟨A, c, h0, hc, hk'⟩, hr⟩ := h
    refine ⟨⟨A, c, h0, fun j u hu => (hk ⟨b, off + j, none⟩ h1 h2).trans (hc j u hu), fun hp => ?_⟩, FrInC.keep hk hl hh rest b _ h1 h2 hr⟩
    obtain ⟨b', o', e, q1, q2, hi2⟩ := hk' hp
    exact ⟨b', o', e, by omega, by omega, FrInC.keep hk hl hh kids b' o' q1 q2 hi2⟩
theorem SlC.keep {A : Option Addr} {fr : Fr α} (h : SlC f w lo hi A fr) (hk : ∀ p : Addr, lo ≤ p.block → p.block < hi → w'.cell? p = w.cell? p) (hl : lo' ≤ lo) (hh : hi ≤ hi') : SlC f w' lo' hi' A fr := fun hp => by
  obtain ⟨b, o, e, h1, h2, h3⟩ := h hp
  exact ⟨b, o, e, by omega, by omega, FrInC.keep hk hl hh fr b o h1 h2 h3⟩
theorem SlC.below {A : Option Addr} {fr : Fr α} (h : SlC f w lo hi A fr) {B : Nat} (hb : Below B w w') (hB : hi ≤ B) : SlC f w' lo hi A fr := h.keep (fun _ _ h2 => hb.cell (by omega)) (Nat.le_refl _) (Nat.le_refl _)
theorem SlC.more {A : Option Addr} {fr : Fr α} (h : SlC f w lo hi A fr) (hl : lo' ≤ lo) (hh : hi ≤ hi') : SlC f w lo' hi' A fr := h.keep (fun _ _ _ => rfl) hl hh
theorem SlC.setb {A : Option Addr} {fr : Fr α} (h : SlC f w lo hi A fr) {b j : Nat} (hp : b < lo ∨ hi ≤ b) (u : Value) : SlC f (w.setCell ⟨b, j, none⟩ u) lo hi A fr :=
  h.keep (fun q h1 h2 => World.cell?_setCell_other w ⟨b, j, none⟩ q u (fun e => by subst e; simp only at h1 h2; omega)) (Nat.le_refl _) (Nat.le_refl _)
theorem FrInC.drop (hf : ∀ a, (f a).length + 1 = m) : ∀ (fr : Fr α) (i b off : Nat), FrInC f w lo hi fr b off → FrInC f w lo hi (fr.drop i) b (off + i * m)
  | fr, 0, b, off, h => by rw [Fr.drop_zero, Nat.zero_mul, Nat.add_zero]; exact h
  | .nil, i + 1, b, off, _ => trivial
  | .cons a k r, i + 1, b, off, h => by
    have := FrInC.drop hf r i b _ h.2
    rw [hf a] at this
    rw [Nat.succ_mul, Nat.add_comm (i * m), ← Nat.add_assoc]
    exact this
/-- What stands at place i of a row. -/
theorem SlC.at_ (hf : ∀ a, (f a).length + 1 = m) {A : Option Addr} {fr : Fr α} (h : SlC f w lo hi A fr) {i : Nat} (hi' : i < fr.len) :
    ∃ b o a kids A' c', A = some ⟨b, o, none⟩ ∧ lo ≤ b ∧ b < hi ∧ fr.drop i = .cons a kids (fr.drop (i + 1)) ∧ kids.size < fr.size ∧ kids.len ≤ c' ∧
      (∀ j u, (f a ++ [Value.slice A' kids.len c'])[j]? = some u → w.cell? ⟨b, o + i * m + j, none⟩ = some u) ∧ SlC f w lo hi A' kids := by
  obtain ⟨b, o, e, h1, h2, h3⟩ := h (by omega)
  obtain ⟨a, kids, hd⟩ := fr.drop_at i hi'
  have h4 := FrInC.drop hf fr i b o h3
  rw [hd] at h4
  obtain ⟨⟨A', c', h0, hc, hs⟩, _⟩ := h4
  have := fr.drop_size i
  rw [hd] at this
  exact ⟨b, o, a, kids, A', c', e, h1, h2, hd, by simp only [Fr.size] at this; omega, h0, hc, hs⟩
/-- The first k places of a list of labels and slices are the row's. -/
def FitsC (f : α → List Value) (w : World) (lo hi : Nat) (fr : Fr α) (l : List (α × Value)) (k : Nat) : Prop :=
  ∀ i, i < k → ∃ a kids A c, fr.drop i = .cons a kids (fr.drop (i + 1)) ∧ l[i]? = some (a, .slice A kids.len c) ∧ kids.len ≤ c ∧ SlC f w lo hi A kids
theorem FitsC.zero (fr : Fr α) (l : List (α × Value)) : FitsC f w lo hi fr l 0 := fun i h => by omega
theorem FitsC.keep {fr : Fr α} {l : List (α × Value)} {k : Nat} (h : FitsC f w lo hi fr l k) (hk : ∀ p : Addr, lo ≤ p.block → p.block < hi → w'.cell? p = w.cell? p) (hl : lo' ≤ lo) (hh : hi ≤ hi') : FitsC f w' lo' hi' fr l k := fun i hi0 => by
  obtain ⟨a, kids, A, c, h1, h2, h0, h3⟩ := h i hi0
  exact ⟨a, kids, A, c, h1, h2, h0, h3.keep hk hl hh⟩
theorem FitsC.setb {fr : Fr α} {l : List (α × Value)} {k : Nat} (h : FitsC f w lo hi fr l k) {b j : Nat} (hp : b < lo ∨ hi ≤ b) (u : Value) : FitsC f (w.setCell ⟨b, j, none⟩ u) lo hi fr l k :=
  h.keep (fun q h1 h2 => World.cell?_setCell_other w ⟨b, j, none⟩ q u (fun e => by subst e; simp only at h1 h2; omega)) (Nat.le_refl _) (Nat.le_refl _)
theorem FitsC.set_ {fr : Fr α} {l : List (α × Value)} {k : Nat} (h : FitsC f w lo hi fr l k) (hk : k < l.length) {a : α} {kids : Fr α} {A : Option Addr} {c : Nat} (hd : fr.drop k = .cons a kids (fr.drop (k + 1))) (h0 : kids.len ≤ c) (hS : SlC f w lo hi A kids) :
    FitsC f w lo hi fr (l.set k (a, .slice A kids.len c)) (k + 1) := fun i hi0 => by
  by_cases hik : i = k
  · subst hik
    exact ⟨a, kids, A, c, hd, by rw [List.getElem?_set_self (by omega)], h0, hS⟩
  · obtain ⟨a', kids', A', c', h1, h2, h00, h3⟩ := h i (by omega)
    exact ⟨a', kids', A', c', h1, by rw [List.getElem?_set_ne (by omega)]; exact h2, h00, h3⟩
theorem FrInC.of_fits : ∀ (fr : Fr α) (l : List (α × Value)) (b off : Nat), l.length = fr.len → FitsC f w lo hi fr l fr.len → (∀ j u, (flat (rC f) l)[j]? = some u → w.cell? ⟨b, off + j, none⟩ = some u) → FrInC f w lo hi fr b off
  | .nil, _, _, _, _, _, _ => trivial
  | .cons a k r, [], _, _, h, _, _ => by simp [Fr.len] at h
  | .cons a k r, x :: l, b, off, h, hF, hc => by
    obtain ⟨a', k', A, c, h1, h2, h0, h3⟩ := hF 0 (by simp [Fr.len])
    rw [Fr.drop_zero] at h1
    injection h1 with e1 e2 e3
    subst e1 e2
    simp only [List.getElem?_cons_zero, Option.some.injEq] at h2
    subst h2
    rw [flat_cons] at hc
    have hl : (rC f (a, Value.slice A k.len c)).length = (f a).length + 1 := by simp [rC]
    refine ⟨⟨A, c, h0, fun j u hu => hc j u ?_, h3⟩, ?_⟩
    · have hj : j < (rC f (a, Value.slice A k.len c)).length := by
        rcases Nat.lt_or_ge j (rC f (a, Value.slice A k.len c)).length with h | h
        · exact h
        · exact absurd hu (by rw [show (f a ++ [Value.slice A k.len c])[j]? = none from List.getElem?_eq_none h]; simp)
      rw [List.getElem?_append_left hj]
      exact hu
    · refine FrInC.of_fits r l b _ (by simpa [Fr.len] using h) (fun i hi' => ?_) (fun j u hu => ?_)
      · obtain ⟨a', k', A', c', h1, h2, h00, h3⟩ := hF (i + 1) (by simp [Fr.len]; exact hi')
        exact ⟨a', k', A', c', h1, by simpa using h2, h00, h3⟩
      · have := hc (((f a).length + 1) + j) u (by
          rw [List.getElem?_append_right (by rw [hl]; omega), hl, Nat.add_sub_cancel_left]
          exact hu)
        rw [← Nat.add_assoc] at this
        exact this
end
theorem at_RexC {w : World} {lo hi : Nat} {A : Option Addr} {fr : Fr (Int × ByteArray)} (h : SlC rexC w lo hi A fr) {i : Nat} (hi' : i < fr.len) :
    ∃ b o a kids A' c', A = some ⟨b, o, none⟩ ∧ b < hi ∧ fr.drop i = .cons a kids (fr.drop (i + 1)) ∧ kids.size < fr.size ∧ kids.len ≤ c' ∧ SlC rexC w lo hi A' kids ∧
      w.cell? ⟨b, o + i * 3, none⟩ = some (.int .i64 a.1) ∧ w.cell? ⟨b, o + i * 3 + 1, none⟩ = some (.string a.2) ∧ w.cell? ⟨b, o + i * 3 + 2, none⟩ = some (.slice A' kids.len c') := by
  obtain ⟨b, o, a, kids, A', c', e, _, h2, hd, hs, h0, hc, hS⟩ := h.at_ rexC_len hi'
  exact ⟨b, o, a, kids, A', c', e, h2, hd, hs, h0, hS, hc 0 _ rfl, hc 1 _ rfl, hc 2 _ rfl⟩
/-- A row of the call's own (Ow), with lengths within capacities. -/
def OwC (w : World) (lo hi : Nat) (A : Option Addr) (fr : Fr (Int × ByteArray)) : Prop := Ow w lo hi A fr ∧ SlC rexC w lo hi A fr
def FitsOC (w : World) (lo hi : Nat) (fr : Fr (Int × ByteArray)) (l : List ((Int × ByteArray) × Value)) (k : Nat) : Prop := FitsO w lo hi fr l k ∧ FitsC rexC w lo hi fr l k
section
variable {w w' : World} {lo hi lo' hi' : Nat} {A : Option Addr} {fr : Fr (Int × ByteArray)} {l : List ((Int × ByteArray) × Value)} {k : Nat}
theorem OwC.keep (h : OwC w lo hi A fr) (hk : ∀ p : Addr, lo ≤ p.block → p.block < hi → w'.cell? p = w.cell? p ∧ w'.frozen? p = w.frozen? p) (hl : lo' ≤ lo) (hh : hi ≤ hi') : OwC w' lo' hi' A fr := ⟨h.1.keep hk hl hh, h.2.keep (fun p h1 h2 => (hk p h1 h2).1) hl hh⟩
theorem OwC.below (h : OwC w lo hi A fr) {B : Nat} (hb : Below B w w') (hB : hi ≤ B) : OwC w' lo hi A fr := ⟨h.1.below hb hB, h.2.below hb hB⟩
theorem OwC.setb (h : OwC w lo hi A fr) {b j : Nat} (hp : b < lo ∨ hi ≤ b) (u : Value) : OwC (w.setCell ⟨b, j, none⟩ u) lo hi A fr :=
  h.keep (fun q h1 h2 => set_both (p := ⟨b, j, none⟩) (by show q.block ≠ b; omega) u) (Nat.le_refl _) (Nat.le_refl _)
theorem OwC.more (h : OwC w lo hi A fr) (hl : lo' ≤ lo) (hh : hi ≤ hi') : OwC w lo' hi' A fr := h.keep (fun _ _ _ => ⟨rfl, rfl⟩) hl hh
theorem FitsOC.zero (fr : Fr (Int × ByteArray)) (l : List ((Int × ByteArray) × Value)) : FitsOC w lo hi fr l 0 := ⟨FitsO.zero _ _, FitsC.zero _ _⟩
theorem FitsOC.keep (h : FitsOC w lo hi fr l k) (hk : ∀ p : Addr, lo ≤ p.block → p.block < hi → w'.cell? p = w.cell? p ∧ w'.frozen? p = w.frozen? p) (hl : lo' ≤ lo) (hh : hi ≤ hi') : FitsOC w' lo' hi' fr l k := ⟨h.1.keep hk hl hh, h.2.keep (fun p h1 h2 => (hk p h1 h2).1) hl hh⟩
theorem FitsOC.setb (h : FitsOC w lo hi fr l k) {b j : Nat} (hp : b < lo ∨ hi ≤ b) (u : Value) : FitsOC (w.setCell ⟨b, j, none⟩ u) lo hi fr l k := ⟨h.1.setb hp u, h.2.setb hp u⟩
theorem FitsOC.set_ (h : FitsOC w lo hi fr l k) (hk : k < l.length) {a : Int × ByteArray} {kids : Fr (Int × ByteArray)} {A : Option Addr} {c : Nat} (hd : fr.drop k = .cons a kids (fr.drop (k + 1))) (h0 : kids.len ≤ c) (hS : OwC w lo hi A kids) :
    FitsOC w lo hi fr (l.set k (a, .slice A kids.len c)) (k + 1) := ⟨h.1.set_ hk hd hS.1, h.2.set_ hk hd h0 hS.2⟩
end
/-- It hands back a new row of these trees. -/
def RetFrC (fr : Fr (Int × ByteArray)) (w : World) (e : Ending) (w' : World) : Prop := ∃ (A : Option Addr) (c : Nat), e = .returned (.slice A fr.len c) ∧ fr.len ≤ c ∧ OwC w' w.heap.size w'.heap.size A fr
/-- It hands back a new tree. -/
def RetTrC (a : (Int × ByteArray)) (kids : Fr (Int × ByteArray)) (w : World) (e : Ending) (w' : World) : Prop := ∃ (A : Option Addr) (c : Nat), e = .returned (.agg #[.int .i64 a.1, .string a.2, .slice A kids.len c]) ∧ kids.len ≤ c ∧ OwC w' w.heap.size w'.heap.size A kids

end Go.Proofs.Ytnoekbgmhnhneaa
namespace Go.Proofs.Ytnoekbgmhnhneaa
open Go.RowKit

section
variable {α : Type} (f : α → List Value) (w : World) (P : Nat → Prop)
/-- The row's cells stand behind block b's place off; the blocks of all that lies within satisfy P. -/
def FrP : Fr α → Nat → Nat → Prop
  | .nil, _, _ => True
  | .cons a kids rest, b, off =>
    (∃ A c, kids.len ≤ c ∧ (∀ j u, (f a ++ [Value.slice A kids.len c])[j]? = some u → w.cell? ⟨b, off + j, none⟩ = some u) ∧
      (0 < kids.len → ∃ b' o', A = some ⟨b', o', none⟩ ∧ P b' ∧ FrP kids b' o')) ∧
    FrP rest b (off + ((f a).length + 1))
/-- A slice value that holds the row. -/
def SlP (A : Option Addr) (c : Nat) (fr : Fr α) : Prop := fr.len ≤ c ∧ (0 < fr.len → ∃ b o, A = some ⟨b, o, none⟩ ∧ P b ∧ FrP f w P fr b o)
end
section
variable {α : Type} {f : α → List Value} {w w' : World} {P P' : Nat → Prop} {lo hi lo' hi' : Nat}
/-- A slice value that holds the row, its length within its capacity. -/
def SlK (f : α → List Value) (w : World) (lo hi : Nat) (A : Option Addr) (c : Nat) (fr : Fr α) : Prop := fr.len ≤ c ∧ SlC f w lo hi A fr
theorem SlK.keep {A : Option Addr} {c : Nat} {fr : Fr α} (h : SlK f w lo hi A c fr) (hk : ∀ p : Addr, lo ≤ p.block → p.block < hi → w'.cell? p = w.cell? p) (hl : lo' ≤ lo) (hh : hi ≤ hi') : SlK f w' lo' hi' A c fr := ⟨h.1, h.2.keep hk hl hh⟩
theorem SlK.below {A : Option Addr} {c : Nat} {fr : Fr α} (h : SlK f w lo hi A c fr) {B : Nat} (hb : Below B w w') (hB : hi ≤ B) : SlK f w' lo hi A c fr := ⟨h.1, h.2.below hb hB⟩
theorem SlK.more {A : Option Addr} {c : Nat} {fr : Fr α} (h : SlK f w lo hi A c fr) (hl : lo' ≤ lo) (hh : hi ≤ hi') : SlK f w lo' hi' A c fr := ⟨h.1, h.2.more hl hh⟩
theorem SlK.setb {A : Option Addr} {c : Nat} {fr : Fr α} (h : SlK f w lo hi A c fr) {b j : Nat} (hp : b < lo ∨ hi ≤ b) (u : Value) : SlK f (w.setCell ⟨b, j, none⟩ u) lo hi A c fr := ⟨h.1, h.2.setb hp u⟩
theorem FrP.keep (hk : ∀ p : Addr, P p.block → w'.cell? p = w.cell? p) (hP : ∀ b, P b → P' b) : ∀ (fr : Fr α) (b off : Nat), P b → FrP f w P fr b off → FrP f w' P' fr b off
  | .nil, _, _, _, _ => trivial
  | .cons a kids rest, b, off, h1, h => by
    obtain ⟨⟨A, c, h0, hc, hk'⟩, hr⟩ := h
    refine ⟨⟨A, c, h0, fun j u hu => (hk ⟨b, off + j, none⟩ h1).trans (hc j u hu), fun hp => ?_⟩, FrP.keep hk hP rest b _ h1 hr⟩
    obtain ⟨b', o', e, q1, hi2⟩ := hk' hp
    exact ⟨b', o', e, hP b' q1, FrP.keep hk hP kids b' o' q1 hi2⟩
theorem SlP.keep {A : Option Addr} {c : Nat} {fr : Fr α} (h : SlP f w P A c fr) (hk : ∀ p : Addr, P p.block → w'.cell? p = w.cell? p) (hP : ∀ b, P b → P' b) : SlP f w' P' A c fr := ⟨h.1, fun hp => by
  obtain ⟨b, o, e, h1, h3⟩ := h.2 hp
  exact ⟨b, o, e, hP b h1, FrP.keep hk hP fr b o h1 h3⟩⟩
theorem FrInC.toP : ∀ (fr : Fr α) (b off : Nat), FrInC f w lo hi fr b off → FrP f w (fun b => lo ≤ b ∧ b < hi) fr b off
  | .nil, _, _, _ => trivial
  | .cons a kids rest, b, off, h => by
    obtain ⟨⟨A, c, h0, hc, hk'⟩, hr⟩ := h
    refine ⟨⟨A, c, h0, hc, fun hp => ?_⟩, FrInC.toP rest b _ hr⟩
    obtain ⟨b', o', e, q1, q2, q3⟩ := hk' hp
    exact ⟨b', o', e, ⟨q1, q2⟩, FrInC.toP kids b' o' q3⟩
theorem SlK.toP {A : Option Addr} {c : Nat} {fr : Fr α} (h : SlK f w lo hi A c fr) : SlP f w (fun b => lo ≤ b ∧ b < hi) A c fr := ⟨h.1, fun hp => by
  obtain ⟨b, o, e, h1, h2, h3⟩ := h.2 hp
  exact ⟨b, o, e, ⟨h1, h2⟩, FrInC.toP fr b o h3⟩⟩
theorem FrP.to (hP : ∀ b, P b → lo ≤ b ∧ b < hi) : ∀ (fr : Fr α) (b off : Nat), FrP f w P fr b off → FrInC f w lo hi fr b off
  | .nil, _, _, _ => trivial
  | .cons a kids rest, b, off, h => by
    obtain ⟨⟨A, c, h0, hc, hk'⟩, hr⟩ := h
    refine ⟨⟨A, c, h0, hc, fun hp => ?_⟩, FrP.to hP rest b _ hr⟩
    obtain ⟨b', o', e, q1, q3⟩ := hk' hp
    exact ⟨b', o', e, (hP b' q1).1, (hP b' q1).2, FrP.to hP kids b' o' q3⟩
theorem SlP.to {A : Option Addr} {c : Nat} {fr : Fr α} (h : SlP f w P A c fr) (hP : ∀ b, P b → lo ≤ b ∧ b < hi) : SlC f w lo hi A fr := fun hp => by
  obtain ⟨b, o, e, h1, h3⟩ := h.2 hp
  exact ⟨b, o, e, (hP b h1).1, (hP b h1).2, FrP.to hP fr b o h3⟩
/-- The row of a list of labels and trees. -/
def mkFr : List (α × Fr α) → Fr α
  | [] => .nil
  | x :: r => .cons x.1 x.2 (mkFr r)
theorem mkFr_len : ∀ L : List (α × Fr α), (mkFr L).len = L.length
  | [] => rfl
  | x :: r => by show (mkFr r).len + 1 = _; rw [mkFr_len r]; rfl
theorem mkFr_drop : ∀ (L : List (α × Fr α)) (i : Nat), (mkFr L).drop i = mkFr (L.drop i)
  | L, 0 => by rw [Fr.drop_zero]; rfl
  | [], i + 1 => rfl
  | x :: r, i + 1 => mkFr_drop r i
/-- A list of labels and slices is that of labels and trees. -/
def Fit (f : α → List Value) (w : World) (P : Nat → Prop) (L : List (α × Fr α)) (l : List (α × Value)) : Prop :=
  l.length = L.length ∧ ∀ i (h : i < L.length), ∃ A c, l[i]? = some (L[i].1, .slice A L[i].2.len c) ∧ SlP f w P A c L[i].2
theorem Fit.nil (f : α → List Value) (w : World) (P : Nat → Prop) : Fit f w P [] [] := ⟨rfl, fun _ h => absurd h (Nat.not_lt_zero _)⟩
theorem Fit.keep {L : List (α × Fr α)} {l : List (α × Value)} (h : Fit f w P L l) (hk : ∀ p : Addr, P p.block → w'.cell? p = w.cell? p) (hP : ∀ b, P b → P' b) : Fit f w' P' L l :=
  ⟨h.1, fun i hi => by
    obtain ⟨A, c, h1, h2⟩ := h.2 i hi
    exact ⟨A, c, h1, h2.keep hk hP⟩⟩
theorem Fit.snoc {L : List (α × Fr α)} {l : List (α × Value)} (h : Fit f w P L l) {a : α} {kids : Fr α} {A : Option Addr} {c : Nat} (hS : SlP f w P A c kids) : Fit f w P (L ++ [(a, kids)]) (l ++ [(a, .slice A kids.len c)]) := by
  refine ⟨by rw [List.length_append, List.length_append, h.1]; rfl, fun i hi => ?_⟩
  rcases Nat.lt_or_ge i L.length with h1 | h1
  · obtain ⟨A', c', h2, h3⟩ := h.2 i h1
    refine ⟨A', c', ?_, ?_⟩
    · rw [List.getElem?_append_left (by rw [h.1]; exact h1), List.getElem_append_left h1]
      exact h2
    · rw [List.getElem_append_left h1]
      exact h3
  · have e : i = L.length := by rw [List.length_append] at hi; have : [(a, kids)].length = 1 := rfl; omega
    subst e
    refine ⟨A, c, ?_, ?_⟩
    · rw [List.getElem?_append_right (by rw [h.1]; exact Nat.le_refl _), h.1, Nat.sub_self, List.getElem_append_right (Nat.le_refl _)]
      simp
    · rw [List.getElem_append_right (Nat.le_refl _)]
      simpa using hS
theorem Fit.fits {L : List (α × Fr α)} {l : List (α × Value)} (h : Fit f w P L l) (hP : ∀ b, P b → lo ≤ b ∧ b < hi) : FitsC f w lo hi (mkFr L) l (mkFr L).len := fun i hi0 => by
  rw [mkFr_len] at hi0
  obtain ⟨A, c, h1, h2⟩ := h.2 i hi0
  refine ⟨L[i].1, L[i].2, A, c, ?_, h1, h2.1, h2.to hP⟩
  rw [mkFr_drop, mkFr_drop, List.drop_eq_getElem_cons hi0]
  rfl
/-- A row of the call's own holds the trees. -/
theorem row_of_fit {m : Nat} {e : TypeId} {v : Value} {L : List (α × Fr α)} {l : List (α × Value)} (hR : Row w lo hi e m v l.length (flat (rC f) l)) (h : Fit f w P L l) (hP : ∀ b, P b → lo ≤ b ∧ b < hi) : ∃ A c, v = .slice A (mkFr L).len c ∧ SlK f w lo hi A c (mkFr L) := by
  obtain ⟨A, c, rfl⟩ := hR.form
  have hl : l.length = (mkFr L).len := by rw [mkFr_len, h.1]
  refine ⟨A, c, by rw [hl], by rw [← hl]; exact hR.cap.1, fun hp => ?_⟩
  obtain ⟨g, rfl, h1, _⟩ := own_blk hR.1 (by omega)
  refine ⟨g, 0, rfl, h1, hR.2 g rfl, FrInC.of_fits (mkFr L) l g 0 hl (h.fits hP) (fun j u hu => ?_)⟩
  have := hR.1.cells rfl j u hu
  rw [add_plain] at this
  exact this
end
theorem wpList_pushB {P : Program} {w : World} {ops : Array Oper} {rest : List Oper} {o : Oper} {a : Act} {Q : Exit → Act → World → Prop} (hgd : o.guard = none) (s x : Operand) (t : TypeId)
    (ho : o.op = .call { callee := .builtin .append, args := #[s, x], argTypes := #[t, t] })
    (base : Nat) (e : TypeId) (i : TypeInfo) (z : Value) (size bytes : Nat) (ht : P.underlying t = some (.slice e)) (hi : P.info? e = some i) (hz : i.zero = some z)
    (hsize : i.size = size) (hby : i.bytes = bytes) (hzs : z.cells.size = size) (hsz : 0 < size)
    (v : Value) (n : Nat) (xs : List Value) (hs : a.eval s = v) (hown : w.ownsRow base e size v n xs)
    (news : List Value) (hl : news.length = size) (hx : a.eval x = .slice (some ⟨w.heap.size, 0, none⟩) 1 1) (h1 : news.all Value.oneCell' = true)
    (h63 : n + 1 ≤ 1099511627776) (hbytes : bytes ≤ 128) (hbase : base ≤ w.heap.size)
    (h : ∀ v' w', w'.ownsRow base e size v' (n + 1) (xs ++ news) → w.grownBy w' v.ownBlock → (v'.ownBlock = v.ownBlock ∨ ∃ k, v'.ownBlock = some k ∧ w.heap.size < k) → wpList P ops Q rest (a.put o.dst v') w') :
    wpList P ops Q (o :: rest) a (w.alloc (.cells news.toArray e)) := by
  refine wpList_append_any _ hgd s x t ho base e i z size bytes ht hi hz hsize hby hzs hsz v n xs hs (hown.alloc _) (w.heap.size + 1) (some ⟨w.heap.size, 0, none⟩) 1 1 news hx ⟨by omega, fun _ => ⟨w.heap.size, 0, rfl, Nat.lt_succ_self _, fun j u hu => ?_⟩⟩ (fun u hu => List.all_eq_true.1 h1 u hu) (by unfold maxLen; omega)
    (Nat.le_trans (Nat.mul_le_mul h63 hbytes) (by omega)) (by simp; omega) (fun v' w' hO hg h3 => h v' w' hO (grown_alloc hg) (h3.imp id fun h4 => ⟨_, h4, by rw [alloc_size]; exact Nat.lt_succ_self _⟩))
  rw [Nat.zero_add, World.cell?_alloc_mark]
  simpa using hu

end Go.Proofs.Ytnoekbgmhnhneaa
namespace Go.Proofs.Ytnoekbgmhnhneaa
open Go.RowKit

theorem and_255 (n : Int) : bits .and .i64 n 255 = n % 256 := by
  have h127 : (BitVec.ofInt 64 255).toNat = 2 ^ 8 - 1 := by decide
  have key : (BitVec.ofInt 64 n &&& BitVec.ofInt 64 255).toNat = (n % ((2 ^ 64 : Nat) : Int)).toNat % 2 ^ 8 := by
    rw [BitVec.toNat_and, BitVec.toNat_ofInt, h127, Nat.and_two_pow_sub_one_eq_mod]
  show IntKind.i64.wrap ((BitVec.ofInt 64 n &&& BitVec.ofInt 64 255).toNat : Nat) = n % 256
  rw [key, IntKind.wrap_i64]
  omega

/-- A cursor in block g over bytes that lie below block B. -/
def Cur (B : Nat) (w : World) (g : Nat) : Prop :=
  ∃ (A : Option Addr) (n c : Nat) (i h : Int) (zs : List Int), Blk w g 110 #[.slice A n c, .int .i64 i, .int .i64 h] ∧ B ≤ g ∧ Reads w B 1 A n (u8s zs) ∧ Byt zs ∧ 0 ≤ i ∧ i ≤ n ∧ n ≤ 1048576
theorem Cur.keep {B : Nat} {w w' : World} {g : Nat} (h : Cur B w g) (hb : Below w.heap.size w w') : Cur B w' g := by
  obtain ⟨A, n, c, i, hh, zs, h1, h2, h3, h4⟩ := h
  exact ⟨A, n, c, i, hh, zs, h1.keep hb, h2, h3.keep fun p hp => hb.cell (by have := h1.lt; omega), h4⟩
theorem Cur.lt {B : Nat} {w : World} {g : Nat} (h : Cur B w g) : g < w.heap.size := by
  obtain ⟨A, n, c, i, hh, zs, h1, _⟩ := h
  exact h1.lt
theorem Cur.far {B : Nat} {w w' : World} {g : Nat} {row : Option Nat} (h : Cur B w g) (hg : w.grownBy w' row) (hr : ∀ k, row = some k → B ≤ k ∧ k ≠ g) : Cur B w' g := by
  have hl := h.lt
  obtain ⟨A, n, c, i, hh, zs, h1, h2, h3, h4⟩ := h
  exact ⟨A, n, c, i, hh, zs, h1.grown hg (fun e => (hr g e.symm).2 rfl), h2, h3.grown hg (by omega) (fun k e => (hr k e).1), h4⟩

set_option maxHeartbeats 1000000 in
theorem dByte (B g : Nat) (w : World) (hc : Cur B w g) :
    Calls Try.prog 89 #[.pointer (some ⟨g, 0, none⟩)] w fun e w' => RetInt (fun x => 0 ≤ x ∧ x < 256) e ∧ Cur B w' g ∧ w.grownBy w' (some g) := by
  obtain ⟨A, n, c, i, h, zs, hB, hBg, hR, hZ, hi0, hin, hn⟩ := hc
  have c0 := hB.cell
  have f0 := hB.frozen
  go_enter Try.func89, Try.ntmps89
  go_wp2_with fail
  generalize wrap64 (wrap64 (h * 6364136223846793005) + 1442695040888963407) = h1 at *
  have B1 := hB.set_ 2 (.int .i64 h1)
  have G1 : w.grownBy (w.setCell ⟨g, 2, none⟩ (.int .i64 h1)) (some g) := gr_set (gr_refl _ _) (.inl rfl) _
  have R1 := hR.setCell (p := ⟨g, 2, none⟩) hBg (.int .i64 h1)
  simp only [List.setIfInBounds_toArray, List.set_cons_succ, List.set_cons_zero] at B1
  generalize w.setCell ⟨g, 2, none⟩ (.int .i64 h1) = w1 at *
  clear c0 f0 hR hB
  have c1 := B1.cell
  have f1 := B1.frozen
  go_quiet (fail)
  generalize hX : bits BinOp.and IntKind.i64 (bits BinOp.xor IntKind.i64 (h1 / 8589934592) (h1 / 140737488355328)) 255 = X at *
  have hX2 : 0 ≤ X ∧ X < 256 := by rw [← hX, and_255]; omega
  clear hX
  by_cases hlt : i < n
  · obtain ⟨k, rfl⟩ := Int.eq_ofNat_of_zero_le hi0
    obtain ⟨b, off, u, rfl, hb, hu, hcell⟩ := R1.at_ (k := k) (by omega)
    obtain ⟨z, hz, rfl⟩ : ∃ z ∈ zs, u = .int .u8 z := by
      simp only [u8s, List.getElem?_map, Option.map_eq_some_iff] at hu
      obtain ⟨z, hz, rfl⟩ := hu
      exact ⟨z, List.mem_of_getElem? hz, rfl⟩
    obtain ⟨hz0, hz1⟩ := hZ z hz
    clear hu
    go_wp2_with fail
    go_quiet (fail)
    go_wp2_with fail
    go_quiet (fail)
    go_wp2_with fail
    go_ret
    refine ⟨⟨_, rfl, by rw [and_255]; omega, by rw [and_255]; omega⟩, ?_, ?_⟩
    · have B2 := fun N => (B1.drewN N).set_ 1 (.int .i64 ((k : Int) + 1))
      simp only [List.setIfInBounds_toArray, List.set_cons_succ, List.set_cons_zero] at B2
      exact ⟨_, n, c, (k : Int) + 1, h1, zs, B2 _, hBg, (R1.drewN _).setCell (p := ⟨g, 1, none⟩) hBg _, hZ, by omega, by omega, hn⟩
    · exact gr_set (gr_drewN G1 _) (.inl rfl) _
  · go_wp2_with fail
    go_quiet (fail)
    go_wp2_with fail
    go_ret
    exact ⟨⟨X, rfl, hX2.1, hX2.2⟩, ⟨A, n, c, i, h1, zs, B1, hBg, R1, hZ, hi0, hin, hn⟩, gr_drewN (gr_drewN G1 _) _⟩

theorem Cur.drew1 {B : Nat} {w : World} {g : Nat} (h : Cur B w g) (n : Nat) : Cur B (w.drewN n) g := h
theorem Cur.alloc {B : Nat} {w : World} {g : Nat} (h : Cur B w g) (o : Obj) : Cur B (w.alloc o) g := h.keep (bl_alloc (Below.refl _ _) o)

set_option maxHeartbeats 1000000 in
theorem dBelow (B g : Nat) (n : Int) (w : World) (hc : Cur B w g) (hn : n ≤ 16777216) :
    Calls Try.prog 68 #[.pointer (some ⟨g, 0, none⟩), .int .i64 n] w fun e w' => RetInt (fun x => 0 ≤ x ∧ (0 < n → x < n) ∧ (n ≤ 0 → x = 0)) e ∧ Cur B w' g ∧ w.grownBy w' (some g) := by
  by_cases h0 : n ≤ 0
  · go_enter Try.func68, Try.ntmps68
    go_wp2_with fail
    go_ret
    exact ⟨⟨0, rfl, by omega, by omega, fun _ => rfl⟩, hc, gr_refl _ _⟩
  have hne : ¬ n = 0 := by omega
  by_cases h1 : n ≤ 256
  · go_enter Try.func68, Try.ntmps68
    go_wp2_with fail
    refine (dByte B g _ hc).mono ?_; rintro e w1 ⟨⟨x, rfl, hx0, hx1⟩, hc1, hg1⟩
    go_wp2_with fail
    go_ret
    exact ⟨⟨_, rfl, Int.emod_nonneg _ hne, fun _ => Int.emod_lt_of_pos _ (by omega), fun _ => by omega⟩, hc1, hg1⟩
  · go_enter Try.func68, Try.ntmps68
    go_wp2_with fail
    refine (dByte B g _ hc).mono ?_; rintro e w1 ⟨⟨x, rfl, hx0, hx1⟩, hc1, hg1⟩
    go_wp2_with fail
    refine (dByte B g _ hc1).mono ?_; rintro e w2 ⟨⟨y, rfl, hy0, hy1⟩, hc2, hg2⟩
    go_wp2_with fail
    refine (dByte B g _ hc2).mono ?_; rintro e w3 ⟨⟨z, rfl, hz0, hz1⟩, hc3, hg3⟩
    go_wp2_with fail
    go_ret
    exact ⟨⟨_, rfl, Int.emod_nonneg _ hne, fun _ => Int.emod_lt_of_pos _ (by omega), fun _ => by omega⟩, hc3, gr_trans (gr_trans hg1 hg2) hg3⟩

set_option maxHeartbeats 1000000 in
theorem dNew (B n c : Nat) (A : Option Addr) (zs : List Int) (w : World) (hR : Reads w B 1 A n (u8s zs)) (hZ : Byt zs) (hB : B ≤ w.heap.size) (hn : n ≤ 1048576) :
    Calls Try.prog 65 #[.slice A n c] w fun e w' => ∃ g : Nat, e = .returned (.pointer (some ⟨g, 0, none⟩)) ∧ Cur B w' g ∧ w.heap.size ≤ g ∧ Below w.heap.size w w' := by
  have hn' : (n : Int) ≤ 1048576 := by omega
  go_enter Try.func65, Try.ntmps65
  go_wp2_with fail
  go_loop [3, 4] (fun hv i => ∃ (k : Nat) (h : Int), k ≤ n ∧ i = .int .i64 k ∧ hv = .int .i64 h) (fun _ i => n - (intOf i).toNat)
  case atStart => exact ⟨0, _, Nat.zero_le _, rfl, rfl⟩
  case round =>
    obtain ⟨k, h, hk, rfl, rfl⟩ := hrel
    by_cases hlt : (k : Int) < (n : Int)
    · obtain ⟨b, off, u, rfl, hb, hu, hcell⟩ := hR.at_ (k := k) (by omega)
      obtain ⟨z, hz, rfl⟩ : ∃ z ∈ zs, u = .int .u8 z := by
        simp only [u8s, List.getElem?_map, Option.map_eq_some_iff] at hu
        obtain ⟨z, hz, rfl⟩ := hu
        exact ⟨z, List.mem_of_getElem? hz, rfl⟩
      obtain ⟨hz0, hz1⟩ := hZ z hz
      clear hu
      by_cases h4 : (k : Int) < 4000
      · go_wp2_with fail
        go_round
        case rel => exact ⟨k + 1, _, by omega, by go_num, rfl⟩
        case measure => simp [intOf]; omega
      · go_wp2_with fail
        go_ret
        exact ⟨w.heap.size, rfl, ⟨_, n, c, 0, h, zs, Blk.new w 110 _, hB, hR.alloc hB _, hZ, by omega, by omega, hn⟩, Nat.le_refl _, bl_alloc (Below.refl _ _) _⟩
    · have hd : decide ((k : Int) < (n : Int)) = false := by simpa using hlt
      go_wp2_with fail
      go_ret
      exact ⟨w.heap.size, rfl, ⟨_, n, c, 0, h, zs, Blk.new w 110 _, hB, hR.alloc hB _, hZ, by omega, by omega, hn⟩, Nat.le_refl _, bl_alloc (Below.refl _ _) _⟩

end Go.Proofs.Ytnoekbgmhnhneaa
namespace Go.Proofs.Ytnoekbgmhnhneaa
open Go.RowKit

set_option maxHeartbeats 1000000 in
theorem dInt (B g b : Nat) (n : Nat) (zs : List Int) (w : World) (hc : Cur B w g) (hl : zs.length = n) (hn : 0 < n) (hn2 : n ≤ 1000) (hb : Blk w b 3 (zs.map (Value.int .i64)).toArray) (hne : b ≠ g) :
    Calls Try.prog 70 #[.pointer (some ⟨g, 0, none⟩), .slice (some ⟨b, 0, none⟩) n n] w fun e w' => RetInt (fun z => z ∈ zs) e ∧ Cur B w' g ∧ w.grownBy w' (some g) := by
  go_enter Try.func70, Try.ntmps70
  go_wp2_with fail
  refine (dBelow B g n _ hc (by omega)).mono ?_; rintro e w1 ⟨⟨x, rfl, hx0, hx1, _⟩, hc1, hg1⟩
  have hx2 := hx1 (by omega)
  clear hx1
  obtain ⟨k, rfl⟩ := Int.eq_ofNat_of_zero_le hx0
  have hk : k < zs.length := by omega
  have hcell := (hb.grown hg1 (by simpa using hne)).cell k
  rw [List.getElem?_toArray, List.getElem?_map, List.getElem?_eq_getElem hk, Option.map_some] at hcell
  have hmem := List.getElem_mem hk
  generalize zs[k] = z at *
  go_wp2_with fail
  go_ret
  exact ⟨⟨z, rfl, hmem⟩, hc1, hg1⟩

end Go.Proofs.Ytnoekbgmhnhneaa
namespace Go.Proofs.Ytnoekbgmhnhneaa
open Go.RowKit

/-- It hands back a text of which R holds. -/
def RetS (R : ByteArray → Prop) (e : Ending) : Prop := ∃ s : ByteArray, e = .returned (.string s) ∧ R s
theorem ba_append_size (a b : ByteArray) : (a ++ b).size = a.size + b.size := ByteArray.size_append

set_option maxHeartbeats 1000000 in
theorem dStr (B g b : Nat) (n : Nat) (xs : List ByteArray) (w : World) (hc : Cur B w g) (hl : xs.length = n) (hn : 0 < n) (hn2 : n ≤ 1000) (hb : Blk w b 9 (xs.map Value.string).toArray) (hne : b ≠ g) :
    Calls Try.prog 93 #[.pointer (some ⟨g, 0, none⟩), .slice (some ⟨b, 0, none⟩) n n] w fun e w' => RetS (fun z => z ∈ xs) e ∧ Cur B w' g ∧ w.grownBy w' (some g) := by
  go_enter Try.func93, Try.ntmps93
  go_wp2_with fail
  refine (dBelow B g n _ hc (by omega)).mono ?_; rintro e w1 ⟨⟨x, rfl, hx0, hx1, _⟩, hc1, hg1⟩
  have hx2 := hx1 (by omega)
  clear hx1
  obtain ⟨k, rfl⟩ := Int.eq_ofNat_of_zero_le hx0
  have hk : k < xs.length := by omega
  have hcell := (hb.grown hg1 (by simpa using hne)).cell k
  rw [List.getElem?_toArray, List.getElem?_map, List.getElem?_eq_getElem hk, Option.map_some] at hcell
  have hmem := List.getElem_mem hk
  generalize xs[k] = z at *
  go_wp2_with fail
  go_ret
  exact ⟨⟨z, rfl, hmem⟩, hc1, hg1⟩


end Go.Proofs.Ytnoekbgmhnhneaa
namespace Go.Proofs.Ytnoekbgmhnhneaa
open Go.RowKit

/-- 'is it within'. -/
def inI (x lo hi : Int) : Bool := decide (lo ≤ x) && decide (x ≤ hi)
theorem inI_true {x lo hi : Int} (h1 : lo ≤ x) (h2 : x ≤ hi) : inI x lo hi = true := by simp [inI, h1, h2]
theorem inI_false {x lo hi : Int} (h : x < lo ∨ hi < x) : inI x lo hi = false := by unfold inI; simp only [Bool.and_eq_false_iff, decide_eq_false_iff_not]; omega
theorem inI_iff {x lo hi : Int} : inI x lo hi = true ↔ lo ≤ x ∧ x ≤ hi := by simp [inI]

set_option maxHeartbeats 400000 in
theorem sIn (x lo hi : Int) (w : World) :
    Calls Try.prog 42 #[.int .i64 x, .int .i64 lo, .int .i64 hi] w fun e w' => e = .returned (.bool (inI x lo hi)) ∧ w' = w := by
  by_cases h1 : lo ≤ x
  · by_cases h2 : x ≤ hi
    · go_enter Try.func42, Try.ntmps42
      go_wp2_with fail
      go_ret
      exact ⟨ret_bool (by rw [inI_true h1 h2]), rfl⟩
    · go_enter Try.func42, Try.ntmps42
      go_wp2_with fail
      go_ret
      exact ⟨ret_bool (by rw [inI_false (by omega)]), rfl⟩
  · go_enter Try.func42, Try.ntmps42
    go_wp2_with fail
    all_goals go_ret
    all_goals exact ⟨ret_bool (by rw [inI_false (by omega)]), rfl⟩

end Go.Proofs.Ytnoekbgmhnhneaa
namespace Go.Proofs.Ytnoekbgmhnhneaa
open Go.RowKit
set_option maxHeartbeats 400000 in
theorem iDigit (c : Int) (w : World) :
    Calls Try.prog 124 #[.int .u8 c] w fun e w' => e = .returned (.bool (inI c 48 57)) ∧ w' = w := by
  by_cases c1 : 48 ≤ c
  · by_cases c2 : c ≤ 57
    · go_enter Try.func124, Try.ntmps124
      go_wp2_with fail
      go_ret
      exact ⟨ret_bool (by rw [inI_true c1 c2]), rfl⟩
    · go_enter Try.func124, Try.ntmps124
      go_wp2_with fail
      go_ret
      exact ⟨ret_bool (by rw [inI_false (by omega)]), rfl⟩
  · go_enter Try.func124, Try.ntmps124
    go_wp2_with fail
    go_ret
    exact ⟨ret_bool (by rw [inI_false (by omega)]), rfl⟩

set_option maxHeartbeats 400000 in
theorem sDigit (c : Int) (w : World) (h0 : 0 ≤ c) (h1 : c < 256) :
    Calls Try.prog 123 #[.int .u8 c] w fun e w' => e = .returned (.bool (inI c 48 57)) ∧ w' = w := by
  go_enter Try.func123, Try.ntmps123
  go_wp2_with fail
  refine (sIn _ _ _ _).mono ?_; rintro e w1 ⟨rfl, rfl⟩
  go_wp2_with fail
  go_ret
  exact ⟨rfl, rfl⟩

set_option maxHeartbeats 400000 in
theorem iWithin (x lo hi : Int) (w : World) :
    Calls Try.prog 59 #[.int .i64 x, .int .i64 lo, .int .i64 hi] w fun e w' => e = .returned (.bool (inI x lo hi)) ∧ w' = w := by
  by_cases c1 : lo ≤ x
  · by_cases c2 : x ≤ hi
    · go_enter Try.func59, Try.ntmps59
      go_wp2_with fail
      go_ret
      exact ⟨ret_bool (by rw [inI_true c1 c2]), rfl⟩
    · go_enter Try.func59, Try.ntmps59
      go_wp2_with fail
      go_ret
      exact ⟨ret_bool (by rw [inI_false (by omega)]), rfl⟩
  · go_enter Try.func59, Try.ntmps59
    go_wp2_with fail
    go_ret
    exact ⟨ret_bool (by rw [inI_false (by omega)]), rfl⟩


end Go.Proofs.Ytnoekbgmhnhneaa
