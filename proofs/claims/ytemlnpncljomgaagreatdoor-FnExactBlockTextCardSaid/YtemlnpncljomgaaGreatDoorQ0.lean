import Derived.Test.YtemlnpncljomgaaGreatDoorRows
import Derived.WalkKit
import Derived.ProofKit
import Derived.OpenShut
import Derived.ShutString
import Derived.ChangeOld
import Derived.Below
import Derived.WalkSpells
import Derived.WalkLawsBesides
import Derived.Lib.Hide
import Derived.BigQuiet
import Derived.Deep.QuietTactic
import Derived.Deep.Draws
import Derived.Laws.OwnMore
import Derived.Test.YtemlnpncljomgaaGreatDoorTie
import Derived.Test.YtemlnpncljomgaaGreatDoorCards
import Derived.Lib.LaidTab
import Derived.Lib.LaidU8
import Derived.Lib.ItoaNum
import Derived.LaidMore
import Derived.SevenTiedAt
import Derived.Deep.AppendLies
import Derived.Maps.AppendAt
import Derived.RegionTactic
import Derived.Laws.Rows
import Derived.Laws.IdiomStrings
import Derived.OwnWalk
import Derived.Deep.RegionHeld3
import Derived.ChangeArms
import Derived.DataReads
import Derived.DataElems
import Derived.Deep.Fields
namespace Go.Proofs.YtemlnpncljomgaaGreatDoor
theorem qA {α : Type} (l : List α) (i : Nat) (a : α) : l.toArray.setIfInBounds i a = (l.set i a).toArray := List.setIfInBounds_toArray ..
theorem qB {α : Type} (l : List α) (a b : α) : (a :: l).set 0 b = b :: l := List.set_cons_zero ..
theorem qC {α : Type} (l : List α) (a b : α) (n : Nat) : (a :: l).set (n + 1) b = a :: l.set n b := List.set_cons_succ ..
open Go.ChangeShapes Go.WideShapes Go.ChangeAt Go.RowKit
open Go.ChangeMaps (open_string shut_string)

theorem own : ownKnob Tryz.prog.godebug = none := by kernel_rfl
theorem laidOut : laidOutB Tryz.prog = true := by kernel_rfl

section
variable {H : Type} {enc : TypeId × Value → H} {P : Program}

theorem trodAll_below (hl : laidOutB P = true) {W W' : World} (hb : Below W.heap.size W W') :
    ∀ (ts : List TypeId) (vs : List Value) (ds : List (DataW H)) (ps : List MemPlace), (∀ t ∈ ts, P.readableRec t = true ∧ t < P.types.size) → (∀ x ∈ ps, x.block < W.heap.size) →
      DataW.TrodAll enc P W 0 (fun _ => true) true ts vs ds ps → DataW.TrodAll enc P W' 0 (fun b => decide (b < W.heap.size)) true ts vs ds ps
  | [], [], [], _, _, _, h => h
  | t :: ts, v :: vs, d :: ds, ps, hr, hlt, ⟨p, q, h1, h2, e⟩ =>
    ⟨p, q, Below.trod hl (hr t List.mem_cons_self).1 (hr t List.mem_cons_self).2 h1 hb (fun x hx => hlt x (by rw [e]; exact List.mem_append_left _ hx)),
      trodAll_below hl hb ts vs ds q (fun t ht => hr t (List.mem_cons_of_mem _ ht)) (fun x hx => hlt x (by rw [e]; exact List.mem_append_right _ hx)) h2, e⟩
  | [], [], _ :: _, _, _, _, h => h.elim
  | [], _ :: _, _, _, _, _, h => h.elim
  | _ :: _, [], _, _, _, _, h => h.elim
  | _ :: _, _ :: _, [], _, _, _, h => h.elim

theorem trodAll_len {w : World} {base : Nat} {spare : Nat → Bool} {held : Bool} : ∀ (ts : List TypeId) (vs : List Value) (ds : List (DataW H)) (ps : List MemPlace),
      DataW.TrodAll enc P w base spare held ts vs ds ps → ds.length = ts.length
  | [], [], [], _, _ => rfl
  | _ :: ts, _ :: vs, _ :: ds, _, ⟨_, q, _, h2, _⟩ => by simp [trodAll_len ts vs ds q h2]
  | [], [], _ :: _, _, h => h.elim
  | [], _ :: _, _, _, h => h.elim
  | _ :: _, [], _, _, h => h.elim
  | _ :: _, _ :: _, [], _, h => h.elim

theorem post_law {f : Func} {s : ChangeSpec} {W W' : World} {args : Array Value} {ds : List (DataW H)} {before : List MemPlace} {tb : TypeId}
    (hl : laidOutB P = true) (hr : ∀ t ∈ f.params.toList, P.readableRec t = true ∧ t < P.types.size) (hvars : s.vars = [])
    (hres : f.resultTypes = #[tb]) (hT : P.underlying tb = some .bool)
    (hfn : s.fn H (ds ++ []) = { results := [.lit (.bool true)], args := ds, vars := [] })
    (hW : DataW.Whole enc P f.params.toList s.vars false W args.toList ds [] before) (hb : Below W.heap.size W W') :
    s.post enc P f false true false false W args (.bool true) W' := by
  have hW' := hW
  have hlt : ∀ x ∈ before, x.block < W.heap.size := fun x hx => by simpa using hW.lt x hx
  obtain ⟨p, q, hA, hV, e, hz, hn⟩ := hW
  rw [hvars] at hV
  have hq : q = [] := hV
  subst hq
  rw [List.append_nil] at e
  subst e
  refine ⟨ds, [], before, [], before, [], hW', ?_, ?_, ?_, hb.frame _, fun h => by cases h⟩
  · rw [hres, hfn]
    exact trodAll_mk1 (shut_bool hT true)
  · rw [hfn]
    exact trodAll_below hl hb _ _ _ _ hr hlt hA
  · rw [hfn, hvars]
    rfl
end

end Go.Proofs.YtemlnpncljomgaaGreatDoor
namespace Go.Proofs.YtemlnpncljomgaaGreatDoor
open Go.ChangeShapes Go.WideShapes Go.ChangeAt Go.RowKit
open Go.ChangeMaps (open_string shut_string)

theorem len1 {α : Type} {l : List α} (h : l.length = 1) : ∃ a, l = [a] := by
  match l, h with
  | [a], _ => exact ⟨a, rfl⟩
theorem len2 {α : Type} {l : List α} (h : l.length = 2) : ∃ a b, l = [a, b] := by
  match l, h with
  | [a, b], _ => exact ⟨a, b, rfl⟩
theorem ret_int {k : IntKind} {a b : Int} (h : a = b) : Ending.returned (.int k a) = .returned (.int k b) := by rw [h]
theorem ret_str {a b : ByteArray} (h : a = b) : Ending.returned (.string a) = .returned (.string b) := by rw [h]
theorem ret_bool {a b : Bool} (h : a = b) : Ending.returned (.bool a) = .returned (.bool b) := by rw [h]

theorem bl_alloc {a w : World} (h : Below a.heap.size a w) (o : Obj) : Below a.heap.size a (w.alloc o) := h.alloc h.size o
theorem bl_drewN {a w : World} (h : Below a.heap.size a w) (n : Nat) : Below a.heap.size a (w.drewN n) := ⟨h.os, h.tape, h.output, h.size, h.block⟩
theorem bl_set {a w : World} (h : Below a.heap.size a w) {p : Addr} (hp : a.heap.size ≤ p.block) (u : Value) : Below a.heap.size a (w.setCell p u) := h.setCell hp u
theorem bl_trans {a w w1 : World} (h : Below a.heap.size a w) (k : Below w.heap.size w w1) : Below a.heap.size a w1 := h.trans (k.mono h.size)

end Go.Proofs.YtemlnpncljomgaaGreatDoor
namespace Go.Proofs.YtemlnpncljomgaaGreatDoor
open Go.ChangeShapes Go.WideShapes Go.ChangeAt Go.RowKit

def laidL : List (String × DataW Unit) := Rows.fnExactExprTextRow.laid
def Tab (w : World) : Prop := Lib.TabIs Tryz.prog w "internal/strconv.uint64pow10" .u64 Lib.pow10Tab
theorem gPow : Tryz.prog.globalNamed "internal/strconv.uint64pow10" = some 0 := by kernel_rfl
theorem gPowType : (Tryz.prog.globals[0]?).map (·.type) = some 115 := by kernel_rfl
theorem pow_data : (Rows.laid_internal_strconv_uint64pow10 : DataW Unit) = Lib.tabData .u64 Lib.pow10Tab := by rfl

theorem tab_of_laid {W : World} (h : laidMetH Tryz.prog laidL W) : Tab W := by
  rw [MakeChecks.laidMetH_plain _ _ _ (by kernel_rfl)] at h
  obtain ⟨g, t, cs, fuel, p, hg, ht, hv, hd⟩ := Lib.laidMet.reads h (n := "internal/strconv.uint64pow10") (d := Rows.laid_internal_strconv_uint64pow10) (.tail _ (.tail _ (.head _)))
  obtain rfl := Option.some.inj (gPow.symm.trans hg)
  obtain rfl := Option.some.inj (gPowType.symm.trans ht)
  rw [pow_data] at hd
  have e := Lib.cells_of_tab Tryz.underlying115 Tryz.underlying101 (by kernel_rfl) (by kernel_rfl) hd
  unfold Tab Lib.TabIs
  rw [hv, ← e]
theorem Tab.lt {w : World} (h : Tab w) : 0 < w.heap.size := by
  unfold Tab Lib.TabIs World.var? at h
  rw [gPow] at h
  simp only [Option.bind_some] at h
  rcases Nat.lt_or_ge 0 w.heap.size with h' | h'
  · exact h'
  · rw [Array.getElem?_eq_none h'] at h; cases h
theorem Tab.block {w w' : World} (h : Tab w) (hb : w'.heap[0]? = w.heap[0]?) : Tab w' := by
  unfold Tab Lib.TabIs World.var? at h ⊢
  rw [gPow] at h ⊢
  simp only [Option.bind_some] at h ⊢
  rw [hb]
  exact h
theorem Tab.keep {w w' : World} (h : Tab w) (hb : Below w.heap.size w w') : Tab w' := h.block (hb.block _ h.lt)
theorem Tab.below {B : Nat} {w w' : World} (h : Tab w) (hb : Below B w w') (hB : 0 < B) : Tab w' := h.block (hb.block _ hB)
theorem Tab.grown {w w' : World} {r : Option Nat} (h : Tab w) (hb : w.grownBy w' r) (hr : ∀ g, r = some g → g ≠ 0) : Tab w' := h.block (hb.block _ h.lt (fun e => hr _ e.symm rfl))

theorem door_met (os : Os) (args : Array Value) : laidMetH Tryz.prog laidL ((World.doorLaid Tryz.prog 600 os).forCall (fun _ _ => 0) ⟨#[], args, []⟩).memory :=
  laidMetH_of_parts3 (fuel := 8) (laidMet_of_run' 8 (by kernel_rfl) (by kernel_rfl)) (by kernel_rfl) (by kernel_rfl)

theorem law_lift_laid {H : Type} {enc : TypeId × Value → H} {C : Checked} {os : Os} (laid : List (String × DataW Unit)) (K : FuncId) (f : Func) (s : ChangeSpec) (tb : TypeId)
    (hown : ownKnob C.prog.godebug = none) (hl : laidOutB C.prog = true) (started : os.Started) (noInit : C.prog.inits.idxOf? K = none) (hf : C.prog.funcs[K]? = some f)
    (hr : (f.params.toList.all fun t => C.prog.readableRec t && decide (t < C.prog.types.size)) = true) (hvars : s.vars = [])
    (hres : f.resultTypes = #[tb]) (hT : C.prog.underlying tb = some .bool)
    (hfn : ∀ ds : List (DataW H), ds.length = f.params.toList.length → s.fn H (ds ++ []) = { results := [.lit (.bool true)], args := ds, vars := [] })
    (witness : ∃ (w : World) (tape : Tape) (i : Input), w.os = os ∧ (w.forCall tape i).Shaped C.prog ∧ i.vars = [] ∧ Input.okWide C.prog (w.forCall tape i) .any w.heap.size K i ∧
      ((s.pre enc C.prog f [] false (w.forCall tape i).memory i.args ∧ laidMetH C.prog laid (w.forCall tape i).memory) ∧ sizedMet enc C.prog f (OpenSpec.ofChange s) false (w.forCall tape i).memory i.args) ∧ Assume.holds {} C.prog (lone (Frame.enter C.prog K i.args .normal) [] (w.forCall tape i)))
    (walk : ∀ (W : World) (base : Nat) (args : Array Value) (ds : List (DataW H)) (p : List MemPlace),
      (∀ (j : Nat) t v, f.params[j]? = some t → args[j]? = some v → Value.okWide C.prog W .any base t v) →
      DataW.TrodAll enc C.prog W 0 (fun _ => true) true f.params.toList args.toList ds p → laidMetH C.prog laid W →
      Calls C.prog K args W fun e W' => e = .returned (.bool true) ∧ Below W.heap.size W W') :
    ReturnsInHanded {} C os K .any (fun w args => (s.pre enc C.prog f [] false w args ∧ laidMetH C.prog laid w) ∧ sizedMet enc C.prog f (OpenSpec.ofChange s) false w args) (s.post enc C.prog f false true false false) := by
  refine returnsInHanded_of_change_and (C := C) (X := fun w _ => laidMetH C.prog laid w) (fun _ _ _ hh h => h.of_heap hh) hown started noInit hf witness ?_
  intro W base args ds gs before hval hW _ _ hL _
  have hW' := hW
  obtain ⟨p, q, hA, hV, _, _, _⟩ := hW
  rw [hvars] at hV
  obtain rfl : gs = [] := by
    cases gs with
    | nil => rfl
    | cons g gs => exact hV.elim
  refine (walk W base args ds p hval hA hL).mono fun e W' ⟨he, hb⟩ => ⟨_, he, ?_⟩
  exact post_law hl (fun t ht => by have := List.all_eq_true.1 hr t ht; simpa using this) hvars hres hT (hfn ds (trodAll_len _ _ _ _ hA)) hW' hb

end Go.Proofs.YtemlnpncljomgaaGreatDoor
namespace Go.Proofs.YtemlnpncljomgaaGreatDoor
open Go.RowKit

theorem add_plain (b off j : Nat) : (⟨b, off, none⟩ : Addr).add j = ⟨b, off + j, none⟩ := by unfold Addr.add; split <;> simp_all

def Reads (w : World) (B size : Nat) (A : Option Addr) (n : Nat) (xs : List Value) : Prop :=
  xs.length = n * size ∧ (0 < n → ∃ b off, A = some ⟨b, off, none⟩ ∧ b < B ∧ ∀ j u, xs[j]? = some u → w.cell? ⟨b, off + j, none⟩ = some u)

section
variable {w w' : World} {B B' size n : Nat} {A : Option Addr} {xs : List Value}
theorem Reads.none_ : Reads w B size A 0 [] := ⟨by simp, fun h => absurd h (by omega)⟩
theorem Reads.at_ {k : Nat} (h : Reads w B 1 A n xs) (hk : k < n) : ∃ b off u, A = some ⟨b, off, none⟩ ∧ b < B ∧ xs[k]? = some u ∧ w.cell? ⟨b, off + k, none⟩ = some u := by
  obtain ⟨b, off, e, hb, hc⟩ := h.2 (by omega)
  have hl : k < xs.length := by have := h.1; omega
  exact ⟨b, off, xs[k], e, hb, List.getElem?_eq_getElem hl, hc k _ (List.getElem?_eq_getElem hl)⟩
theorem Reads.keep (h : Reads w B size A n xs) (hk : ∀ p : Addr, p.block < B → w'.cell? p = w.cell? p) : Reads w' B size A n xs :=
  ⟨h.1, fun hn => by
    obtain ⟨b, off, e, hb, hc⟩ := h.2 hn
    exact ⟨b, off, e, hb, fun j u hu => (hk _ hb).trans (hc j u hu)⟩⟩
theorem Reads.more (h : Reads w B size A n xs) (hB : B ≤ B') : Reads w B' size A n xs :=
  ⟨h.1, fun hn => by
    obtain ⟨b, off, e, hb, hc⟩ := h.2 hn
    exact ⟨b, off, e, by omega, hc⟩⟩
theorem Reads.below (h : Reads w B size A n xs) (hb : Below B w w') : Reads w' B size A n xs := h.keep fun _ hp => hb.cell hp
theorem Reads.drew (h : Reads w B size A n xs) : Reads w.drew B size A n xs := h
theorem Reads.drewN (h : Reads w B size A n xs) (k : Nat) : Reads (w.drewN k) B size A n xs := h
theorem Reads.alloc (h : Reads w B size A n xs) (hB : B ≤ w.heap.size) (o : Obj) : Reads (w.alloc o) B size A n xs := h.keep fun p hp => World.cell?_alloc_lt w o p (by omega)
theorem Reads.setCell (h : Reads w B size A n xs) {p : Addr} (hB : B ≤ p.block) (u : Value) : Reads (w.setCell p u) B size A n xs :=
  h.keep fun q hq => World.cell?_setCell_other w p q u (fun e => by subst e; omega)
theorem Reads.grown (h : Reads w B size A n xs) {row : Option Nat} (hg : w.grownBy w' row) (hB : B ≤ w.heap.size) (hr : ∀ g, row = some g → B ≤ g) : Reads w' B size A n xs :=
  h.keep fun p hp => World.cell?_of_block (hg.block p.block (by omega) (fun e => by have := hr _ e.symm; omega))
theorem Reads.of_own {base : Nat} {e : TypeId} {c : Nat} (h : w.ownsRow base e size (.slice A n c) n xs) : Reads w w.heap.size size A n xs := by
  refine ⟨h.1, fun hn => ?_⟩
  obtain ⟨g, cap, hv, _, hlt⟩ := h.form hn
  have hA : A = some ⟨g, 0, none⟩ := by injection hv
  subst hA
  exact ⟨g, 0, rfl, hlt, fun j u hu => by rw [← add_plain]; exact h.cells (g := g) rfl j u hu⟩
end

def Blk (w : World) (g : Nat) (t : TypeId) (cs : Array Value) : Prop := w.heap[g]? = some (.cells cs t (0, 0))

section
variable {w w' : World} {g : Nat} {t : TypeId} {cs : Array Value}
theorem Blk.lt (h : Blk w g t cs) : g < w.heap.size := by
  rcases Nat.lt_or_ge g w.heap.size with hlt | hge
  · exact hlt
  · unfold Blk at h; rw [Array.getElem?_eq_none hge] at h; cases h
theorem Blk.cell (h : Blk w g t cs) (i : Nat) : w.cell? ⟨g, i, none⟩ = cs[i]? := cell_of_row w g i cs t (0, 0) h
theorem Blk.frozen (h : Blk w g t cs) (i : Nat) : w.frozen? ⟨g, i, none⟩ = false := by
  unfold Blk at h
  simp [World.frozen?, h]
theorem Blk.new (w : World) (t : TypeId) (cs : Array Value) : Blk (w.alloc (.cells cs t)) w.heap.size t cs := heap_alloc_new w _
theorem Blk.drew (h : Blk w g t cs) : Blk w.drew g t cs := h
theorem Blk.drewN (h : Blk w g t cs) (n : Nat) : Blk (w.drewN n) g t cs := h
theorem Blk.alloc (h : Blk w g t cs) (o : Obj) : Blk (w.alloc o) g t cs := (Below.heap_alloc w o g h.lt).trans h
theorem Blk.set_ (h : Blk w g t cs) (i : Nat) (u : Value) : Blk (w.setCell ⟨g, i, none⟩ u) g t (cs.setIfInBounds i u) := by
  unfold Blk at h ⊢
  simp [World.setCell, Array.getElem?_modify, h]
theorem Blk.far (h : Blk w g t cs) {p : Addr} (hp : g ≠ p.block) (u : Value) : Blk (w.setCell p u) g t cs := (Below.heap_setCell w p u g hp).trans h
theorem Blk.below {B : Nat} (h : Blk w g t cs) (hb : Below B w w') (hg : g < B) : Blk w' g t cs := (hb.block g hg).trans h
theorem Blk.grown {row : Option Nat} (h : Blk w g t cs) (hb : w.grownBy w' row) (hg : some g ≠ row) : Blk w' g t cs := (hb.block g h.lt hg).trans h
end

theorem Blk.keep {w w' : World} {g : Nat} {t : TypeId} {cs : Array Value} (h : Blk w g t cs) (hb : Below w.heap.size w w') : Blk w' g t cs := h.below hb h.lt

section
variable {P : Program} (w : World)

theorem run_append_of_nil (base : Nat) (t ty e : TypeId) (i : TypeInfo) (size : Nat) (ht : P.underlying t = some (.slice e)) (hi : P.info? e = some i)
    (v : Value) (n : Nat) (xs : List Value) (hown : w.ownsRow base e size v n xs) (c : Nat) : (Builtin.append_ #[t, t] ty #[v, .slice none 0 c]).run P w = .ok v w := by
  rcases hown.2 with ⟨rfl, rfl⟩ | ⟨g, cap, cur, rfl, _, _, hnc, _⟩
  · simp [Builtin.append_, run_underlying ht, sizeOf, typeInfo, hi, Builtin.lenOf, Builtin.firstCells]
  · simp [Builtin.append_, run_underlying ht, sizeOf, typeInfo, hi, Builtin.lenOf, Builtin.firstCells, hnc, storeCells]

theorem run_append_any (base : Nat) (t ty e : TypeId) (i : TypeInfo) (z : Value) (size bytes : Nat) (ht : P.underlying t = some (.slice e)) (hi : P.info? e = some i) (hz : i.zero = some z)
    (hsize : i.size = size) (hby : i.bytes = bytes) (hzs : z.cells.size = size) (hsz : 0 < size)
    (v : Value) (n : Nat) (xs : List Value) (hown : w.ownsRow base e size v n xs)
    (B : Nat) (A : Option Addr) (m c : Nat) (news : List Value) (hr : Reads w B size A m news) (h1 : ∀ u ∈ news, u.oneCell' = true)
    (h63 : n + m ≤ maxLen) (hbytes : (n + m) * bytes ≤ 140737488355328) (hbase : base ≤ w.heap.size) :
    ∃ v' w', (Builtin.append_ #[t, t] ty #[v, .slice A m c]).run P w = .ok v' w' ∧ w'.ownsRow base e size v' (n + m) (xs ++ news) ∧ w.grownBy w' v.ownBlock ∧
      (v'.ownBlock = v.ownBlock ∨ v'.ownBlock = some w.heap.size) := by
  rcases A with _ | ad
  · have hm : m = 0 := by
      rcases Nat.eq_zero_or_pos m with h0 | h0
      · exact h0
      · obtain ⟨_, _, h, _⟩ := hr.2 h0
        cases h
    subst hm
    have hn : news = [] := List.eq_nil_of_length_eq_zero (by simpa using hr.1)
    subst hn
    exact ⟨v, w, run_append_of_nil w base t ty e i size ht hi v n xs hown c, by simpa using hown, World.grownBy.refl w _, .inl rfl⟩
  · have hcells : ∀ j u, news[j]? = some u → w.cell? (ad.add j) = some u := by
      intro j u hu
      rcases Nat.eq_zero_or_pos m with h0 | h0
      · subst h0
        have hn : news = [] := List.eq_nil_of_length_eq_zero (by simpa using hr.1)
        subst hn
        simp at hu
      · obtain ⟨b, off, h, _, hc⟩ := hr.2 h0
        injection h with h
        subst h
        rw [add_plain]
        exact hc j u hu
    obtain ⟨v', w', hrun, h2, h3, _, h5⟩ := run_append_own_at (P := P) w base t ty e i z size bytes ht hi hz hsize hby hzs hsz v n xs hown ad m c news hr.1 hcells h1 h63 hbytes hbase
    exact ⟨v', w', hrun, h2, h3, h5⟩

theorem wp_append_any {o : Oper} {a : Act} {K : Act → World → Prop} {Q : Exit → Act → World → Prop} (s x : Operand) (t : TypeId)
    (ho : o.op = .call { callee := .builtin .append, args := #[s, x], argTypes := #[t, t] })
    (base : Nat) (e : TypeId) (i : TypeInfo) (z : Value) (size bytes : Nat) (ht : P.underlying t = some (.slice e)) (hi : P.info? e = some i) (hz : i.zero = some z)
    (hsize : i.size = size) (hby : i.bytes = bytes) (hzs : z.cells.size = size) (hsz : 0 < size)
    (v : Value) (n : Nat) (xs : List Value) (hs : a.eval s = v) (hown : w.ownsRow base e size v n xs)
    (B : Nat) (A : Option Addr) (m c : Nat) (news : List Value) (hx : a.eval x = .slice A m c) (hr : Reads w B size A m news) (h1 : ∀ u ∈ news, u.oneCell' = true)
    (h63 : n + m ≤ maxLen) (hbytes : (n + m) * bytes ≤ 140737488355328) (hbase : base ≤ w.heap.size)
    (h : ∀ v' w', w'.ownsRow base e size v' (n + m) (xs ++ news) → w.grownBy w' v.ownBlock → (v'.ownBlock = v.ownBlock ∨ v'.ownBlock = some w.heap.size) → K (a.put o.dst v') w') : o.wp P a w K Q := by
  obtain ⟨v', w', hrun, h2, h3, h4⟩ := run_append_any (P := P) w base t o.type e i z size bytes ht hi hz hsize hby hzs hsz v n xs hown B A m c news hr h1 h63 hbytes hbase
  unfold Oper.wp execOp
  simp only [ho, resolve, invoke, builtin, Sem.run_bind, Sem.run_pure, Result.andThen_ok, List.map_toArray, List.map_cons, List.map_nil, hs, hx, hrun]
  exact h v' w' h2 h3 h4

theorem wpList_append_any {ops : Array Oper} {rest : List Oper} {o : Oper} {a : Act} {Q : Exit → Act → World → Prop} (hgd : o.guard = none) (s x : Operand) (t : TypeId)
    (ho : o.op = .call { callee := .builtin .append, args := #[s, x], argTypes := #[t, t] })
    (base : Nat) (e : TypeId) (i : TypeInfo) (z : Value) (size bytes : Nat) (ht : P.underlying t = some (.slice e)) (hi : P.info? e = some i) (hz : i.zero = some z)
    (hsize : i.size = size) (hby : i.bytes = bytes) (hzs : z.cells.size = size) (hsz : 0 < size)
    (v : Value) (n : Nat) (xs : List Value) (hs : a.eval s = v) (hown : w.ownsRow base e size v n xs)
    (B : Nat) (A : Option Addr) (m c : Nat) (news : List Value) (hx : a.eval x = .slice A m c) (hr : Reads w B size A m news) (h1 : ∀ u ∈ news, u.oneCell' = true)
    (h63 : n + m ≤ maxLen) (hbytes : (n + m) * bytes ≤ 140737488355328) (hbase : base ≤ w.heap.size)
    (h : ∀ v' w', w'.ownsRow base e size v' (n + m) (xs ++ news) → w.grownBy w' v.ownBlock → (v'.ownBlock = v.ownBlock ∨ v'.ownBlock = some w.heap.size) → wpList P ops Q rest (a.put o.dst v') w') : wpList P ops Q (o :: rest) a w :=
  wpList_plain hgd fun _ hK => wp_append_any w s x t ho base e i z size bytes ht hi hz hsize hby hzs hsz v n xs hs hown B A m c news hx hr h1 h63 hbytes hbase fun v' w' h2 h3 h4 => hK _ _ (h v' w' h2 h3 h4)

end

theorem own_base {w : World} {base base' : Nat} {e : TypeId} {size : Nat} {v : Value} {n : Nat} {xs : List Value} (h : w.ownsRow base e size v n xs) (hb : base' ≤ base) : w.ownsRow base' e size v n xs := by
  obtain ⟨h1, h2⟩ := h
  refine ⟨h1, ?_⟩
  rcases h2 with h2 | ⟨g, cap, cur, hv, hg, r⟩
  · exact .inl h2
  · exact .inr ⟨g, cap, cur, hv, by omega, r⟩

theorem range_add_map {α : Type} (f : Nat → α) (a b : Nat) : (List.range (a + b)).map f = (List.range a).map f ++ (List.range b).map (fun j => f (a + j)) := by
  rw [List.range_add, List.map_append, List.map_map]
  rfl
theorem madeCells_flat (zc : Array Value) : ∀ n : Nat, (madeCells zc (n * zc.size)).toList = (List.replicate n zc.toList).flatten := by
  intro n
  have h0 : (madeCells zc (n * zc.size)).toList = (List.range (n * zc.size)).map (zc[· % zc.size]!) := by simp [madeCells]
  rw [h0]
  clear h0
  induction n with
  | zero => simp
  | succ n ih =>
    rw [Nat.succ_mul, range_add_map, ih, List.replicate_succ', List.flatten_append]
    congr 1
    simp only [List.flatten_cons, List.flatten_nil, List.append_nil]
    apply List.ext_getElem
    · simp
    · intro j h1 h2
      have hj : j < zc.size := by simpa using h1
      have e : j % zc.size = j := Nat.mod_eq_of_lt hj
      simp [e, hj]

theorem wpList_makeN {P : Program} {w : World} {ops : Array Oper} {rest : List Oper} {o : Oper} {a : Act} {Q : Exit → Act → World → Prop} (hgd : o.guard = none) (l c : Operand) (t : TypeId) (hop : o.op = Op.makeSlice t l c)
    (e : TypeId) (i : TypeInfo) (z : Value) (size bytes : Nat) (ht : P.underlying t = some (.slice e)) (hi : P.info? e = some i) (hz : i.zero = some z)
    (hsize : i.size = size) (hby : i.bytes = bytes) (hzs : z.cells.size = size) (kl kc : IntKind) (n : Nat) (hl : a.eval l = .int kl (n : Int)) (hc : a.eval c = .int kc (n : Int))
    (hn : n ≤ 1099511627776) (hbytes : bytes ≤ 128)
    (h : ∀ w', w'.ownsRow w.heap.size e size (.slice (some ⟨w.heap.size, 0, none⟩) n n) n (List.replicate n z.cells.toList).flatten → Below w.heap.size w w' → wpList P ops Q rest (a.put o.dst (.slice (some ⟨w.heap.size, 0, none⟩) n n)) w') :
    wpList P ops Q (o :: rest) a w := by
  refine wpList_make_full w hgd l c t hop w.heap.size e i z size ht hi hz hsize kl kc _ _ n hl hc rfl rfl (by rw [hby]; exact Nat.le_trans (Nat.mul_le_mul hbytes hn) (by omega)) (by unfold maxLen; omega) (Nat.le_refl _) ?_
  intro w' hO hg
  have hO' := hO
  rw [← hzs, madeCells_flat] at hO'
  rw [hzs] at hO'
  exact h w' hO' ((Below.refl _ _).grown hg (Nat.le_refl _) (fun k hk => by cases hk))
theorem grown_alloc {w w2 : World} {o : Obj} {row : Option Nat} (h : (w.alloc o).grownBy w2 row) : w.grownBy w2 row :=
  ⟨h.os, h.tape, h.output, Nat.le_trans (by simp) h.size, fun k hk hne => (h.block k (by simp; omega) hne).trans (heap_alloc_old w o hk)⟩
theorem wpList_push {P : Program} {w : World} {ops : Array Oper} {rest : List Oper} {o : Oper} {a : Act} {Q : Exit → Act → World → Prop} (hgd : o.guard = none) (s x : Operand) (t : TypeId)
    (ho : o.op = .call { callee := .builtin .append, args := #[s, x], argTypes := #[t, t] })
    (base : Nat) (e : TypeId) (i : TypeInfo) (z : Value) (size bytes : Nat) (ht : P.underlying t = some (.slice e)) (hi : P.info? e = some i) (hz : i.zero = some z)
    (hsize : i.size = size) (hby : i.bytes = bytes) (hzs : z.cells.size = size) (hsz : 0 < size)
    (v : Value) (n : Nat) (xs : List Value) (hs : a.eval s = v) (hown : w.ownsRow base e size v n xs)
    (news : List Value) (hl : news.length = size) (hx : a.eval x = .slice (some ⟨w.heap.size, 0, none⟩) 1 1) (h1 : news.all Value.oneCell' = true)
    (h63 : n + 1 ≤ 1099511627776) (hbytes : bytes ≤ 128) (hbase : base ≤ w.heap.size)
    (h : ∀ v' w', w'.ownsRow base e size v' (n + 1) (xs ++ news) → w.grownBy w' v.ownBlock → wpList P ops Q rest (a.put o.dst v') w') :
    wpList P ops Q (o :: rest) a (w.alloc (.cells news.toArray e)) := by
  refine wpList_append_own _ hgd s x t ho base e i z size bytes ht hi hz hsize hby hzs hsz v n xs hs (hown.alloc _) ⟨w.heap.size, 0, none⟩ 1 1 news hx (by omega) ?_ (fun u hu => List.all_eq_true.1 h1 u hu) (by unfold maxLen; omega)
    (Nat.le_trans (Nat.mul_le_mul h63 hbytes) (by omega)) (by simp; omega) (fun v' w' hO hg _ => h v' w' hO (grown_alloc hg))
  intro j u hu
  have hadd : (⟨w.heap.size, 0, none⟩ : Addr).add j = ⟨w.heap.size, j, none⟩ := by unfold Addr.add; split <;> simp_all
  rw [hadd, World.cell?_alloc_mark]
  simpa using hu

end Go.Proofs.YtemlnpncljomgaaGreatDoor
namespace Go.Proofs.YtemlnpncljomgaaGreatDoor
open Go.RowKit

def Row (w : World) (lo hi : Nat) (e : TypeId) (size : Nat) (v : Value) (n : Nat) (xs : List Value) : Prop := w.ownsRow lo e size v n xs ∧ ∀ k, v.ownBlock = some k → k < hi
section
variable {w w' : World} {lo hi size n : Nat} {e : TypeId} {v : Value} {xs : List Value}
theorem Row.mk (h : w.ownsRow lo e size v n xs) : Row w lo w.heap.size e size v n xs := ⟨h, fun k hk => (h.lt k hk).2⟩
theorem Row.more (h : Row w lo hi e size v n xs) {lo' hi' : Nat} (h1 : lo' ≤ lo) (h2 : hi ≤ hi') : Row w lo' hi' e size v n xs := ⟨own_base h.1 h1, fun k hk => Nat.lt_of_lt_of_le (h.2 k hk) h2⟩
theorem Row.far (h : Row w lo hi e size v n xs) {r : Option Nat} (hg : w.grownBy w' r) (hr : ∀ k, r = some k → k < lo ∨ hi ≤ k) : Row w' lo hi e size v n xs :=
  ⟨h.1.kept hg (by
    cases hv : v.ownBlock with
    | none => exact .inl rfl
    | some k =>
      refine .inr (fun e => ?_)
      have h1 := (h.1.lt k hv).1
      have h2 := h.2 k hv
      rcases hr k e.symm with h3 | h3 <;> omega), h.2⟩
theorem Row.keep (h : Row w lo hi e size v n xs) (hb : Below w.heap.size w w') : Row w' lo hi e size v n xs :=
  h.far (r := none) ⟨hb.os, hb.tape, hb.output, hb.size, fun k hk _ => hb.block k hk⟩ (fun k hk => by cases hk)
theorem Row.form (h : Row w lo hi e size v n xs) : ∃ A c, v = .slice A n c := by
  rcases h.1.2 with ⟨rfl, rfl⟩ | ⟨g, cap, cur, rfl, _⟩
  · exact ⟨_, _, rfl⟩
  · exact ⟨_, _, rfl⟩
theorem Row.cap {A : Option Addr} {c : Nat} (h : Row w lo hi e size (.slice A n c) n xs) : n ≤ c ∧ c ≤ 9223372036854775807 := by
  rcases h.1.2 with ⟨h1, h2⟩ | ⟨g, cap, cur, h1, _, _, h2, h3, _⟩
  · simp only [Value.slice.injEq] at h1
    omega
  · simp only [Value.slice.injEq] at h1
    obtain ⟨_, _, rfl⟩ := h1
    exact ⟨h2, h3⟩
theorem Row.len (h : Row w lo hi e size v n xs) : xs.length = n * size := h.1.1
theorem Row.reads {A : Option Addr} {c : Nat} (h : Row w lo hi e size (.slice A n c) n xs) : Reads w w.heap.size size A n xs := Reads.of_own h.1
theorem Row.grow (h : Row w lo hi e size v n xs) (hg : w.grownBy w' v.ownBlock) {a : World} (hb : Below a.heap.size a w) (hlo : a.heap.size ≤ lo) : Below a.heap.size a w' := hb.grown hg hb.size (fun k hk => Nat.le_trans hlo (h.1.lt k hk).1)
end
def u8s (zs : List Int) : List Value := zs.map (Value.int .u8)
def Byt (zs : List Int) : Prop := ∀ z ∈ zs, 0 ≤ z ∧ z < 256

def RetInt (R : Int → Prop) (e : Ending) : Prop := ∃ x : Int, e = .returned (.int .i64 x) ∧ R x
theorem gr_refl (w : World) (r : Option Nat) : w.grownBy w r := ⟨rfl, rfl, rfl, Nat.le_refl _, fun _ _ _ => rfl⟩
theorem gr_trans {a b c : World} {r : Option Nat} (h : a.grownBy b r) (k : b.grownBy c r) : a.grownBy c r :=
  ⟨k.os.trans h.os, k.tape.trans h.tape, k.output.trans h.output, Nat.le_trans h.size k.size, fun i hi hne => (k.block i (Nat.lt_of_lt_of_le hi h.size) hne).trans (h.block i hi hne)⟩
theorem gr_drewN {a w : World} {r : Option Nat} (h : a.grownBy w r) (n : Nat) : a.grownBy (w.drewN n) r := ⟨h.os, h.tape, h.output, h.size, h.block⟩
theorem gr_alloc {a w : World} {r : Option Nat} (h : a.grownBy w r) (o : Obj) : a.grownBy (w.alloc o) r :=
  ⟨h.os, h.tape, h.output, Nat.le_trans h.size (by simp), fun i hi hne => (Below.heap_alloc w o i (Nat.lt_of_lt_of_le hi h.size)).trans (h.block i hi hne)⟩
theorem gr_set {a w : World} {g : Nat} (h : a.grownBy w (some g)) {p : Addr} (hp : p.block = g ∨ a.heap.size ≤ p.block) (u : Value) : a.grownBy (w.setCell p u) (some g) :=
  ⟨h.os, h.tape, h.output, by simpa [World.setCell] using h.size, fun i hi hne => (Below.heap_setCell w p u i (by
    rintro rfl
    rcases hp with hp | hp
    · exact hne (by rw [hp])
    · omega)).trans (h.block i hi hne)⟩
theorem bl_gr {a w w1 : World} {r : Option Nat} (h : Below a.heap.size a w) (k : w.grownBy w1 r) (hr : ∀ g, r = some g → a.heap.size ≤ g) : Below a.heap.size a w1 := h.grown k h.size hr

theorem Byt.snoc {zs : List Int} {z : Int} (h : Byt zs) (h0 : 0 ≤ z) (h1 : z < 256) : Byt (zs ++ [z]) := by
  intro x hx
  rcases List.mem_append.1 hx with hx | hx
  · exact h x hx
  · simp at hx; subst hx; exact ⟨h0, h1⟩

end Go.Proofs.YtemlnpncljomgaaGreatDoor
namespace Go.Proofs.YtemlnpncljomgaaGreatDoor
open Go.RowKit

theorem u8s_get (zs : List Int) (k : Nat) (hk : k < zs.length) : (u8s zs)[k]? = some (.int .u8 zs[k]) := by simp [u8s, hk]
end Go.Proofs.YtemlnpncljomgaaGreatDoor
namespace Go.Proofs.YtemlnpncljomgaaGreatDoor
open Go.RowKit

def flat {α : Type} (f : α → List Value) (l : List α) : List Value := l.flatMap f
theorem flat_cons {α : Type} (f : α → List Value) (a : α) (l : List α) : flat f (a :: l) = f a ++ flat f l := by simp [flat]
theorem flat_snoc {α : Type} (f : α → List Value) (l : List α) (a : α) : flat f l ++ f a = flat f (l ++ [a]) := by simp [flat]
theorem flat_len {α : Type} {f : α → List Value} {m : Nat} (hm : ∀ a, (f a).length = m) (l : List α) : (flat f l).length = l.length * m := by
  induction l with
  | nil => simp [flat]
  | cons a l ih => rw [flat_cons, List.length_append, hm, ih, List.length_cons, Nat.succ_mul, Nat.add_comm]
theorem flat_get {α : Type} {f : α → List Value} {m : Nat} (hm : ∀ a, (f a).length = m) (l : List α) (i : Nat) (hi : i < l.length) (c : Nat) (hc : c < m) : (flat f l)[i * m + c]? = (f l[i])[c]? := by
  induction l generalizing i with
  | nil => simp at hi
  | cons a l ih =>
    rw [flat_cons]
    cases i with
    | zero => rw [Nat.zero_mul, Nat.zero_add, List.getElem?_append_left (by rw [hm]; exact hc)]; rfl
    | succ i =>
      have hi' : i < l.length := by simpa using hi
      have e : (i + 1) * m + c = m + (i * m + c) := by rw [Nat.succ_mul]; omega
      rw [e, List.getElem?_append_right (by rw [hm]; omega), hm, Nat.add_sub_cancel_left, ih i hi']
      rfl
theorem own_blk {w : World} {lo size : Nat} {A : Option Addr} {c : Nat} {e : TypeId} {n : Nat} {xs : List Value} (h : w.ownsRow lo e size (.slice A n c) n xs) (hn : 0 < n) :
    ∃ g, A = some ⟨g, 0, none⟩ ∧ lo ≤ g ∧ g < w.heap.size := by
  rcases h.2 with ⟨h', h0⟩ | ⟨g, cap, cur, h', hg, _⟩
  · simp only [Value.slice.injEq] at h'; omega
  · simp only [Value.slice.injEq, true_and] at h'
    obtain ⟨rfl, rfl⟩ := h'
    exact ⟨g, rfl, hg, (h.lt g rfl).2⟩

theorem len_4 {l : List Value} (h : l.length = 4) : ∃ x0 x1 x2 x3, l = [x0, x1, x2, x3] := by
  match l, h with
  | [x0, x1, x2, x3], _ => exact ⟨x0, x1, x2, x3, rfl⟩
theorem flat_set4 {α : Type} {f : α → List Value} (hm : ∀ a, (f a).length = 4) (a : α) {v0 v1 v2 v3 : Value} (hf : f a = [v0, v1, v2, v3]) : ∀ (l : List α) (k : Nat), k < l.length →
    ((((flat f l).set (k * 4) v0).set (k * 4 + 1) v1).set (k * 4 + 2) v2).set (k * 4 + 3) v3 = flat f (l.set k a)
  | [], k, h => by simp at h
  | b :: l, 0, _ => by
    obtain ⟨x0, x1, x2, x3, hb⟩ := len_4 (hm b)
    rw [List.set_cons_zero, flat_cons, flat_cons, hb, hf]
    rfl
  | b :: l, k + 1, h => by
    obtain ⟨x0, x1, x2, x3, hb⟩ := len_4 (hm b)
    have ih := flat_set4 hm a hf l k (by simpa using h)
    rw [List.set_cons_succ, flat_cons, flat_cons, hb, ← ih, Nat.succ_mul]
    rfl

theorem len_6 {l : List Value} (h : l.length = 6) : ∃ x0 x1 x2 x3 x4 x5, l = [x0, x1, x2, x3, x4, x5] := by
  match l, h with
  | [x0, x1, x2, x3, x4, x5], _ => exact ⟨x0, x1, x2, x3, x4, x5, rfl⟩
theorem flat_set6 {α : Type} {f : α → List Value} (hm : ∀ a, (f a).length = 6) (a : α) {v0 v1 v2 v3 v4 v5 : Value} (hf : f a = [v0, v1, v2, v3, v4, v5]) : ∀ (l : List α) (k : Nat), k < l.length →
    ((((((flat f l).set (k * 6) v0).set (k * 6 + 1) v1).set (k * 6 + 2) v2).set (k * 6 + 3) v3).set (k * 6 + 4) v4).set (k * 6 + 5) v5 = flat f (l.set k a)
  | [], k, h => by simp at h
  | b :: l, 0, _ => by
    obtain ⟨x0, x1, x2, x3, x4, x5, hb⟩ := len_6 (hm b)
    rw [List.set_cons_zero, flat_cons, flat_cons, hb, hf]
    rfl
  | b :: l, k + 1, h => by
    obtain ⟨x0, x1, x2, x3, x4, x5, hb⟩ := len_6 (hm b)
    have ih := flat_set6 hm a hf l k (by simpa using h)
    rw [List.set_cons_succ, flat_cons, flat_cons, hb, ← ih, Nat.succ_mul]
    rfl

end Go.Proofs.YtemlnpncljomgaaGreatDoor
namespace Go.Proofs.YtemlnpncljomgaaGreatDoor
open Go.RowKit

theorem res_cell1 {fn : Func} {p : Tmp} {ty : TypeId} (h : fn.results = #[.cell p ty]) (tmps : Array Value) (P : Program) (w : World) (g : Nat) (t : TypeId) (cs : Array Value) {fs : _}
    (hp : tmps.getD p undef = .pointer (some ⟨g, 0, none⟩)) (hg : Blk w g t cs)
    (hu : P.underlying ty = some (.struct fs)) (hi : (P.info? ty).map (·.size) = some cs.size) :
    (results fn tmps).run P w = .ok (.agg cs) w := by
  have hp' : tmps[p]?.getD undef = .pointer (some ⟨g, 0, none⟩) := by simpa using hp
  simp [results, h, hp', asAddr, run_loadVar_row w g t ty cs (0, 0) (.struct fs) hg hu rfl hi]
theorem alloc_size (w : World) (o : Obj) : (w.alloc o).heap.size = w.heap.size + 1 := Array.size_push _
theorem Blk.new2 (w : World) (o : Obj) (t : TypeId) (cs : Array Value) : Blk ((w.alloc o).alloc (.cells cs t)) (w.heap.size + 1) t cs := heap_alloc2_new w _ _
theorem Blk.farb {w : World} {g b j : Nat} {t : TypeId} {cs : Array Value} (h : Blk w g t cs) (hp : g ≠ b) (u : Value) : Blk (w.setCell ⟨b, j, none⟩ u) g t cs := h.far (p := ⟨b, j, none⟩) hp u
theorem bl_setb {B b j : Nat} {a w : World} (h : Below B a w) (hp : B ≤ b) (u : Value) : Below B a (w.setCell ⟨b, j, none⟩ u) := Below.setCell (p := ⟨b, j, none⟩) h hp u
def left_ (l : Int) (n : Nat) : Int := if l - n < 0 then -1 else l - n
theorem left_neg {l : Int} {n : Nat} (h : left_ l n < 0) : left_ l n = -1 ∧ l < n := by
  unfold left_ at h ⊢
  split at h
  · exact ⟨if_pos (by assumption), by omega⟩
  · omega
theorem left_pos {l : Int} {n : Nat} (h : ¬ left_ l n < 0) : left_ l n = l - n ∧ (n : Int) ≤ l := by
  unfold left_ at h ⊢
  split at h
  · omega
  · exact ⟨if_neg (by assumption), by omega⟩
theorem left_is {l : Int} {n : Nat} (h : l < n) : left_ l n = -1 := by unfold left_; rw [if_pos (by omega)]
inductive Fr (α : Type) where
  | nil : Fr α
  | cons (a : α) (kids rest : Fr α) : Fr α
namespace Fr
variable {α : Type}
def len : Fr α → Nat
  | .nil => 0
  | .cons _ _ r => r.len + 1
def size : Fr α → Nat
  | .nil => 0
  | .cons _ k r => k.size + r.size + 1
def drop : Fr α → Nat → Fr α
  | fr, 0 => fr
  | .nil, _ + 1 => .nil
  | .cons _ _ r, n + 1 => r.drop n
theorem drop_zero (fr : Fr α) : fr.drop 0 = fr := by cases fr <;> rfl
theorem drop_at : ∀ (fr : Fr α) (i : Nat), i < fr.len → ∃ a k, fr.drop i = .cons a k (fr.drop (i + 1))
  | .nil, i, h => by simp [len] at h
  | .cons a k r, 0, _ => ⟨a, k, by rw [drop_zero]; show _ = Fr.cons a k (r.drop 0); rw [drop_zero]⟩
  | .cons a k r, i + 1, h => drop_at r i (by simpa [len] using h)
theorem drop_all : ∀ (fr : Fr α), fr.drop fr.len = .nil
  | .nil => rfl
  | .cons _ _ r => drop_all r
theorem drop_size : ∀ (fr : Fr α) (i : Nat), (fr.drop i).size ≤ fr.size
  | fr, 0 => by rw [drop_zero]; exact Nat.le_refl _
  | .nil, i + 1 => Nat.le_refl _
  | .cons _ k r, i + 1 => by have := drop_size r i; show (r.drop i).size ≤ k.size + r.size + 1; omega
theorem size_pos {fr : Fr α} (h : fr.size = 0) : fr = .nil := by cases fr with | nil => rfl | cons a k r => simp [size] at h
theorem len_size : ∀ (fr : Fr α), fr.len ≤ fr.size
  | .nil => Nat.le_refl _
  | .cons _ k r => by have := len_size r; show r.len + 1 ≤ k.size + r.size + 1; omega
end Fr

section
variable {α : Type} (f : α → List Value) (w : World) (lo hi : Nat)
def FrIn : Fr α → Nat → Nat → Prop
  | .nil, _, _ => True
  | .cons a kids rest, b, off =>
    (∃ A c, (∀ j u, (f a ++ [Value.slice A kids.len c])[j]? = some u → w.cell? ⟨b, off + j, none⟩ = some u) ∧
      (0 < kids.len → ∃ b' o', A = some ⟨b', o', none⟩ ∧ lo ≤ b' ∧ b' < hi ∧ FrIn kids b' o')) ∧
    FrIn rest b (off + ((f a).length + 1))
def Sl (A : Option Addr) (fr : Fr α) : Prop := 0 < fr.len → ∃ b o, A = some ⟨b, o, none⟩ ∧ lo ≤ b ∧ b < hi ∧ FrIn f w lo hi fr b o
end
section
variable {α : Type} {f : α → List Value} {w w' : World} {lo hi lo' hi' m : Nat}
theorem FrIn.keep (hk : ∀ p : Addr, lo ≤ p.block → p.block < hi → w'.cell? p = w.cell? p) (hl : lo' ≤ lo) (hh : hi ≤ hi') : ∀ (fr : Fr α) (b off : Nat), lo ≤ b → b < hi → FrIn f w lo hi fr b off → FrIn f w' lo' hi' fr b off
  | .nil, _, _, _, _, _ => trivial
  | .cons a kids rest, b, off, h1, h2, h => by
    obtain ⟨⟨A, c, hc, hk'⟩, hr⟩ := h
    refine ⟨⟨A, c, fun j u hu => (hk ⟨b, off + j, none⟩ h1 h2).trans (hc j u hu), fun hp => ?_⟩, FrIn.keep hk hl hh rest b _ h1 h2 hr⟩
    obtain ⟨b', o', e, q1, q2, hi2⟩ := hk' hp
    exact ⟨b', o', e, by omega, by omega, FrIn.keep hk hl hh kids b' o' q1 q2 hi2⟩
theorem Sl.keep {A : Option Addr} {fr : Fr α} (h : Sl f w lo hi A fr) (hk : ∀ p : Addr, lo ≤ p.block → p.block < hi → w'.cell? p = w.cell? p) (hl : lo' ≤ lo) (hh : hi ≤ hi') : Sl f w' lo' hi' A fr := fun hp => by
  obtain ⟨b, o, e, h1, h2, h3⟩ := h hp
  exact ⟨b, o, e, by omega, by omega, FrIn.keep hk hl hh fr b o h1 h2 h3⟩
theorem Sl.below {A : Option Addr} {fr : Fr α} (h : Sl f w lo hi A fr) {B : Nat} (hb : Below B w w') (hB : hi ≤ B) : Sl f w' lo hi A fr := h.keep (fun _ _ h2 => hb.cell (by omega)) (Nat.le_refl _) (Nat.le_refl _)
theorem Sl.set {A : Option Addr} {fr : Fr α} (h : Sl f w lo hi A fr) {p : Addr} (hp : p.block < lo ∨ hi ≤ p.block) (u : Value) : Sl f (w.setCell p u) lo hi A fr := h.keep (fun q h1 h2 => World.cell?_setCell_other w p q u (fun e => by subst e; omega)) (Nat.le_refl _) (Nat.le_refl _)
theorem Sl.setb {A : Option Addr} {fr : Fr α} (h : Sl f w lo hi A fr) {b j : Nat} (hp : b < lo ∨ hi ≤ b) (u : Value) : Sl f (w.setCell ⟨b, j, none⟩ u) lo hi A fr := h.set (p := ⟨b, j, none⟩) hp u
theorem Sl.more {A : Option Addr} {fr : Fr α} (h : Sl f w lo hi A fr) (hl : lo' ≤ lo) (hh : hi ≤ hi') : Sl f w lo' hi' A fr := h.keep (fun _ _ _ => rfl) hl hh
theorem FrIn.drop (hf : ∀ a, (f a).length + 1 = m) : ∀ (fr : Fr α) (i b off : Nat), FrIn f w lo hi fr b off → FrIn f w lo hi (fr.drop i) b (off + i * m)
  | fr, 0, b, off, h => by rw [Fr.drop_zero, Nat.zero_mul, Nat.add_zero]; exact h
  | .nil, i + 1, b, off, _ => trivial
  | .cons a k r, i + 1, b, off, h => by
    have := FrIn.drop hf r i b _ h.2
    rw [hf a] at this
    rw [Nat.succ_mul, Nat.add_comm (i * m), ← Nat.add_assoc]
    exact this
theorem Sl.at_ (hf : ∀ a, (f a).length + 1 = m) {A : Option Addr} {fr : Fr α} (h : Sl f w lo hi A fr) {i : Nat} (hi' : i < fr.len) :
    ∃ b o a kids A' c', A = some ⟨b, o, none⟩ ∧ lo ≤ b ∧ b < hi ∧ fr.drop i = .cons a kids (fr.drop (i + 1)) ∧ kids.size < fr.size ∧
      (∀ j u, (f a ++ [Value.slice A' kids.len c'])[j]? = some u → w.cell? ⟨b, o + i * m + j, none⟩ = some u) ∧ Sl f w lo hi A' kids := by
  obtain ⟨b, o, e, h1, h2, h3⟩ := h (by omega)
  obtain ⟨a, kids, hd⟩ := fr.drop_at i hi'
  have h4 := FrIn.drop hf fr i b o h3
  rw [hd] at h4
  obtain ⟨⟨A', c', hc, hs⟩, _⟩ := h4
  have := fr.drop_size i
  rw [hd] at this
  exact ⟨b, o, a, kids, A', c', e, h1, h2, hd, by simp only [Fr.size] at this; omega, hc, hs⟩
def rC (f : α → List Value) (x : α × Value) : List Value := f x.1 ++ [x.2]
theorem rC_len (hf : ∀ a, (f a).length + 1 = m) (x : α × Value) : (rC f x).length = m := by simp [rC, hf]
def FitsK (f : α → List Value) (w : World) (lo hi : Nat) (fr : Fr α) (l : List (α × Value)) (k : Nat) : Prop :=
  ∀ i, i < k → ∃ a kids A c, fr.drop i = .cons a kids (fr.drop (i + 1)) ∧ l[i]? = some (a, .slice A kids.len c) ∧ Sl f w lo hi A kids
theorem FitsK.zero (fr : Fr α) (l : List (α × Value)) : FitsK f w lo hi fr l 0 := fun i h => by omega
theorem FitsK.keep {fr : Fr α} {l : List (α × Value)} {k : Nat} (h : FitsK f w lo hi fr l k) (hk : ∀ p : Addr, lo ≤ p.block → p.block < hi → w'.cell? p = w.cell? p) (hl : lo' ≤ lo) (hh : hi ≤ hi') : FitsK f w' lo' hi' fr l k := fun i hi0 => by
  obtain ⟨a, kids, A, c, h1, h2, h3⟩ := h i hi0
  exact ⟨a, kids, A, c, h1, h2, h3.keep hk hl hh⟩
theorem FitsK.setb {fr : Fr α} {l : List (α × Value)} {k : Nat} (h : FitsK f w lo hi fr l k) {b j : Nat} (hp : b < lo ∨ hi ≤ b) (u : Value) : FitsK f (w.setCell ⟨b, j, none⟩ u) lo hi fr l k := fun i hi0 => by
  obtain ⟨a, kids, A, c, h1, h2, h3⟩ := h i hi0
  exact ⟨a, kids, A, c, h1, h2, h3.setb hp u⟩
theorem FitsK.set_ {fr : Fr α} {l : List (α × Value)} {k : Nat} (h : FitsK f w lo hi fr l k) (hk : k < l.length) {a : α} {kids : Fr α} {A : Option Addr} {c : Nat} (hd : fr.drop k = .cons a kids (fr.drop (k + 1))) (hS : Sl f w lo hi A kids) :
    FitsK f w lo hi fr (l.set k (a, .slice A kids.len c)) (k + 1) := fun i hi0 => by
  by_cases hik : i = k
  · subst hik
    exact ⟨a, kids, A, c, hd, by rw [List.getElem?_set_self (by omega)], hS⟩
  · obtain ⟨a', kids', A', c', h1, h2, h3⟩ := h i (by omega)
    exact ⟨a', kids', A', c', h1, by rw [List.getElem?_set_ne (by omega)]; exact h2, h3⟩
theorem FrIn.of_fits : ∀ (fr : Fr α) (l : List (α × Value)) (b off : Nat), l.length = fr.len → FitsK f w lo hi fr l fr.len → (∀ j u, (flat (rC f) l)[j]? = some u → w.cell? ⟨b, off + j, none⟩ = some u) → FrIn f w lo hi fr b off
  | .nil, _, _, _, _, _, _ => trivial
  | .cons a k r, [], _, _, h, _, _ => by simp [Fr.len] at h
  | .cons a k r, x :: l, b, off, h, hF, hc => by
    obtain ⟨a', k', A, c, h1, h2, h3⟩ := hF 0 (by simp [Fr.len])
    rw [Fr.drop_zero] at h1
    injection h1 with e1 e2 e3
    subst e1 e2
    simp only [List.getElem?_cons_zero, Option.some.injEq] at h2
    subst h2
    rw [flat_cons] at hc
    have hl : (rC f (a, Value.slice A k.len c)).length = (f a).length + 1 := by simp [rC]
    refine ⟨⟨A, c, fun j u hu => hc j u ?_, h3⟩, ?_⟩
    · have hj : j < (rC f (a, Value.slice A k.len c)).length := by
        rcases Nat.lt_or_ge j (rC f (a, Value.slice A k.len c)).length with h | h
        · exact h
        · exact absurd hu (by rw [show (f a ++ [Value.slice A k.len c])[j]? = none from List.getElem?_eq_none h]; simp)
      rw [List.getElem?_append_left hj]
      exact hu
    · refine FrIn.of_fits r l b _ (by simpa [Fr.len] using h) (fun i hi' => ?_) (fun j u hu => ?_)
      · obtain ⟨a', k', A', c', h1, h2, h3⟩ := hF (i + 1) (by simp [Fr.len]; exact hi')
        exact ⟨a', k', A', c', h1, by simpa using h2, h3⟩
      · have := hc (((f a).length + 1) + j) u (by
          rw [List.getElem?_append_right (by rw [hl]; omega), hl, Nat.add_sub_cancel_left]
          exact hu)
        rw [← Nat.add_assoc] at this
        exact this
def FrOk (Q : α → Prop) : Fr α → Prop
  | .nil => True
  | .cons a k r => Q a ∧ k.len ≤ 9223372036854775807 ∧ FrOk Q k ∧ FrOk Q r
theorem FrOk.drop {Q : α → Prop} : ∀ {fr : Fr α} (i : Nat), FrOk Q fr → FrOk Q (fr.drop i)
  | fr, 0, h => by rw [Fr.drop_zero]; exact h
  | .nil, i + 1, _ => trivial
  | .cons _ _ r, i + 1, h => FrOk.drop (fr := r) i h.2.2.2
theorem fr_of_list {q : α → Prop} : ∀ (l : List (α × Value)), (∀ x ∈ l, ∃ (A : Option Addr) (c : Nat) (kids : Fr α), x.2 = .slice A kids.len c ∧ Sl f w lo hi A kids ∧ kids.len ≤ 9223372036854775807 ∧ FrOk q kids ∧ q x.1) →
    ∃ fr : Fr α, fr.len = l.length ∧ FitsK f w lo hi fr l fr.len ∧ FrOk q fr
  | [], _ => ⟨.nil, rfl, FitsK.zero _ _, trivial⟩
  | x :: l, h => by
    obtain ⟨fr, h1, h2, h3⟩ := fr_of_list l (fun y hy => h y (List.mem_cons_of_mem _ hy))
    obtain ⟨A, c, kids, e, hS, hl, hq, ha⟩ := h x (List.mem_cons_self ..)
    obtain ⟨a, v⟩ := x
    simp only at e ha
    subst e
    refine ⟨.cons a kids fr, by simp [Fr.len, h1], fun i hi' => ?_, ha, hl, hq, h3⟩
    cases i with
    | zero => exact ⟨a, kids, A, c, by rw [Fr.drop_zero]; show _ = Fr.cons a kids (fr.drop 0); rw [Fr.drop_zero], rfl, hS⟩
    | succ i =>
      obtain ⟨a', k', A', c', q1, q2, q3⟩ := h2 i (by simp [Fr.len] at hi'; exact hi')
      exact ⟨a', k', A', c', q1, by simpa using q2, q3⟩
def wt (g : α → Nat) : Fr α → Nat
  | .nil => 0
  | .cons a k r => 1 + g a + wt g k + wt g r
theorem len_wt (g : α → Nat) : ∀ fr : Fr α, fr.len ≤ wt g fr
  | .nil => Nat.le_refl _
  | .cons _ k r => by have := len_wt g r; show r.len + 1 ≤ _; simp only [wt]; omega
theorem size_wt (g : α → Nat) : ∀ fr : Fr α, fr.size ≤ wt g fr
  | .nil => Nat.le_refl _
  | .cons _ k r => by have := size_wt g r; have := size_wt g k; simp only [wt, Fr.size]; omega
theorem wt_drop (g : α → Nat) : ∀ (fr : Fr α) (i : Nat), wt g (fr.drop i) ≤ wt g fr
  | fr, 0 => by rw [Fr.drop_zero]; exact Nat.le_refl _
  | .nil, i + 1 => Nat.le_refl _
  | .cons _ k r, i + 1 => by have := wt_drop g r i; show wt g (r.drop i) ≤ _; simp only [wt]; omega
end

end Go.Proofs.YtemlnpncljomgaaGreatDoor
namespace Go.Proofs.YtemlnpncljomgaaGreatDoor
open Go.RowKit

def exprC (a : (Int × Int × ByteArray)) : List Value := [.int .i64 a.1, .int .i64 a.2.1, .string a.2.2]
theorem exprC_len (a : (Int × Int × ByteArray)) : (exprC a).length + 1 = 4 := rfl
theorem info_Expr : (Tryz.prog.info? 29).map (fun i => (i.zero, i.size, i.bytes)) = some (some (.agg #[.int .i64 0, .int .i64 0, .string ⟨#[]⟩, .slice none 0 0]), 4, 56) := by kernel_rfl
theorem at_Expr {w : World} {lo hi : Nat} {A : Option Addr} {fr : Fr (Int × Int × ByteArray)} (h : Sl exprC w lo hi A fr) {i : Nat} (hi' : i < fr.len) :
    ∃ b o a kids A' c', A = some ⟨b, o, none⟩ ∧ b < hi ∧ fr.drop i = .cons a kids (fr.drop (i + 1)) ∧ kids.size < fr.size ∧ Sl exprC w lo hi A' kids ∧
      w.cell? ⟨b, o + i * 4, none⟩ = some (.int .i64 a.1) ∧ w.cell? ⟨b, o + i * 4 + 1, none⟩ = some (.int .i64 a.2.1) ∧ w.cell? ⟨b, o + i * 4 + 2, none⟩ = some (.string a.2.2) ∧ w.cell? ⟨b, o + i * 4 + 3, none⟩ = some (.slice A' kids.len c') := by
  obtain ⟨b, o, a, kids, A', c', e, _, h2, hd, hs, hc, hS⟩ := h.at_ exprC_len hi'
  exact ⟨b, o, a, kids, A', c', e, h2, hd, hs, hS, hc 0 _ rfl, hc 1 _ rfl, hc 2 _ rfl, hc 3 _ rfl⟩
def RetFr_Expr (fr : Fr (Int × Int × ByteArray)) (w : World) (e : Ending) (w' : World) : Prop := ∃ (A : Option Addr) (c : Nat), e = .returned (.slice A fr.len c) ∧ Sl exprC w' w.heap.size w'.heap.size A fr
def RetTr_Expr (a : (Int × Int × ByteArray)) (kids : Fr (Int × Int × ByteArray)) (w : World) (e : Ending) (w' : World) : Prop := ∃ (A : Option Addr) (c : Nat), e = .returned (.agg #[.int .i64 a.1, .int .i64 a.2.1, .string a.2.2, .slice A kids.len c]) ∧ Sl exprC w' w.heap.size w'.heap.size A kids

end Go.Proofs.YtemlnpncljomgaaGreatDoor
namespace Go.Proofs.YtemlnpncljomgaaGreatDoor
open Go.RowKit

set_option maxHeartbeats 1000000 in
theorem toExpr_of (zk : Int) (zn : Int) (zs : ByteArray) (kids : Fr (Int × Int × ByteArray)) (A : Option Addr) (c : Nat) (w : World) (hS : Sl exprC w 0 w.heap.size A kids)
    (I : ∀ w', Sl exprC w' 0 w'.heap.size A kids → Calls Tryz.prog 24 #[.slice A kids.len c] w' fun e w'' => RetFr_Expr kids w' e w'' ∧ Below w'.heap.size w' w'') :
    Calls Tryz.prog 8 #[.agg #[.int .i64 zk, .int .i64 zn, .string zs, .slice A kids.len c]] w fun e w' => RetTr_Expr (zk, zn, zs) kids w e w' ∧ Below w.heap.size w w' := by
  have e1 := alloc_size w (.cells #[.int .i64 zk, .int .i64 zn, .string zs, .slice A kids.len c] 24)
  have e2 := alloc_size (w.alloc (.cells #[.int .i64 zk, .int .i64 zn, .string zs, .slice A kids.len c] 24)) (.cells #[.int .i64 0, .int .i64 0, .string ⟨#[]⟩, .slice none 0 0] 29)
  have e3 := alloc_size ((w.alloc (.cells #[.int .i64 zk, .int .i64 zn, .string zs, .slice A kids.len c] 24)).alloc (.cells #[.int .i64 0, .int .i64 0, .string ⟨#[]⟩, .slice none 0 0] 29)) (.cells #[.int .i64 zk, .int .i64 zn, .string zs, .slice none 0 0] 29)
  have B1 := (Blk.new2 w (.cells #[.int .i64 zk, .int .i64 zn, .string zs, .slice A kids.len c] 24) 29 #[.int .i64 0, .int .i64 0, .string ⟨#[]⟩, .slice none 0 0]).alloc (.cells #[.int .i64 zk, .int .i64 zn, .string zs, .slice none 0 0] 29)
  have B2 := Blk.new2 (w.alloc (.cells #[.int .i64 zk, .int .i64 zn, .string zs, .slice A kids.len c] 24)) (.cells #[.int .i64 0, .int .i64 0, .string ⟨#[]⟩, .slice none 0 0] 29) 29 #[.int .i64 zk, .int .i64 zn, .string zs, .slice none 0 0]
  have L0 := bl_alloc (bl_alloc (bl_alloc (Below.refl w.heap.size w) (.cells #[.int .i64 zk, .int .i64 zn, .string zs, .slice A kids.len c] 24)) (.cells #[.int .i64 0, .int .i64 0, .string ⟨#[]⟩, .slice none 0 0] 29)) (.cells #[.int .i64 zk, .int .i64 zn, .string zs, .slice none 0 0] 29)
  have hS0 := hS.below L0 (Nat.le_refl _)
  rw [e1] at B2
  have I0 := I _ (hS0.more (Nat.le_refl _) L0.size)
  go_enter Tryz.func8, Tryz.ntmps8
  go_wp2_with fail
  generalize ((w.alloc (.cells #[.int .i64 zk, .int .i64 zn, .string zs, .slice A kids.len c] 24)).alloc (.cells #[.int .i64 0, .int .i64 0, .string ⟨#[]⟩, .slice none 0 0] 29)).alloc (.cells #[.int .i64 zk, .int .i64 zn, .string zs, .slice none 0 0] 29) = W at B1 B2 L0 I0 e3 ⊢
  refine I0.mono ?_; rintro e w1 ⟨⟨A2, c2, rfl, hS2⟩, b1⟩
  replace B1 : Blk w1 (w.heap.size + 1) _ _ := Blk.keep B1 b1
  replace B2 : Blk w1 (w.heap.size + 1 + 1) _ _ := Blk.keep B2 b1
  have p1 := B1.cell
  have f1 := B1.frozen
  have p2 := B2.cell
  have f2 := B2.frozen
  have L1 := bl_trans L0 b1
  go_wp2_with fail
  exact bodyPost_ret (res_cell1 rfl _ _ _ _ _ _ rfl ((((((B1.farb (by omega) _).set_ 0 _).set_ 1 _).set_ 2 _).set_ 3 _)) Tryz.underlying29 (by kernel_rfl)) rfl ⟨⟨A2, c2, rfl, ((((((hS2.setb (.inl (by omega)) _).setb (.inl (by omega)) _).setb (.inl (by omega)) _).setb (.inl (by omega)) _).setb (.inl (by omega)) _)).more (by omega) (by simp)⟩, (bl_setb (bl_setb (bl_setb (bl_setb (bl_setb L1 (by omega) _) (by omega) _) (by omega) _) (by omega) _) (by omega) _)⟩

set_option maxHeartbeats 2000000 in
theorem toExprS_step (fr : Fr (Int × Int × ByteArray)) (A : Option Addr) (c : Nat) (w : World) (hn : fr.len ≤ 1048576) (hS : Sl exprC w 0 w.heap.size A fr)
    (ih : ∀ (kids : Fr (Int × Int × ByteArray)), kids.size < fr.size → ∀ (A : Option Addr) (c : Nat) (w : World), Sl exprC w 0 w.heap.size A kids → Calls Tryz.prog 24 #[.slice A kids.len c] w fun e w' => RetFr_Expr kids w e w' ∧ Below w.heap.size w w') :
    Calls Tryz.prog 24 #[.slice A fr.len c] w fun e w' => RetFr_Expr fr w e w' ∧ Below w.heap.size w w' := by
  have hn' : (fr.len : Int) ≤ 1048576 := by omega
  obtain ⟨i0, hi, hz0, hz1, hz2⟩ := info_parts info_Expr
  obtain ⟨ys, hys⟩ : ∃ ys : List ((Int × Int × ByteArray) × Value), ys = List.replicate fr.len ((0, 0, ⟨#[]⟩), Value.slice none 0 0) := ⟨_, rfl⟩
  have hyl : Hid (ys.length = fr.len) := by unfold Hid; rw [hys]; simp
  have hrep : Hid ((List.replicate fr.len [Value.int .i64 0, Value.int .i64 0, Value.string ⟨#[]⟩, Value.slice none 0 0]).flatten = flat (rC exprC) ys) := by
    unfold Hid
    rw [hys]
    unfold flat
    rw [List.flatMap_replicate]
    rfl
  clear hys
  have IH := Lib.hid ih
  clear ih
  go_enter Tryz.func24, Tryz.ntmps24
  go_wp2_with (at_make; refine wpList_makeN rfl _ _ 27 rfl 29 i0 (.agg #[.int .i64 0, .int .i64 0, .string ⟨#[]⟩, .slice none 0 0]) 4 56 Tryz.underlying27 hi hz0 hz1 hz2 rfl _ _ fr.len rfl rfl (by omega) (by omega) ?_)
  intro w1 hO hL
  rw [hrep.out] at hO
  go_wp2_with fail
  go_loopw [4] (fun i wr => ∃ (k : Nat) (l : List ((Int × Int × ByteArray) × Value)), k ≤ fr.len ∧ i = .int .i64 k ∧ l.length = fr.len ∧ FitsK exprC wr (w.heap.size + 1) wr.heap.size fr l k ∧ w.heap.size < wr.heap.size ∧ wr.ownsRow w.heap.size 29 4 (.slice (some ⟨w.heap.size, 0, none⟩) fr.len fr.len) fr.len (flat (rC exprC) l) ∧ Below w.heap.size w wr) (fun i _ => fr.len - (intOf i).toNat)
  case atStart => exact ⟨0, ys, Nat.zero_le _, rfl, hyl.out, FitsK.zero _ _, (hO.lt _ rfl).2, hO, hL⟩
  case round =>
    obtain ⟨k, l, hk, rfl, hll, hF, hgs, hOr, hLr⟩ := hrel
    have HF := Lib.hid hF
    have HLL := Lib.hid hll
    clear hF hll
    by_cases hlt : k < fr.len
    · obtain ⟨b, o, a, kids, A', c', rfl, hb, hd, hks, hSk, q0, q1, q2, q3⟩ := at_Expr (hS.below hLr (Nat.le_refl _)) hlt
      have hlt' : (k : Int) < (fr.len : Int) := by omega
      have hul : k < l.length := by rw [HLL.out]; exact hlt
      have hcg := fun c hc => flat_get (rC_len exprC_len) l k hul c hc
      have HD := Lib.hid hd
      clear hd
      obtain ⟨zk, zn, zs⟩ := a
      simp only at q0 q1 q2 q3
      have C := toExpr_of zk zn zs kids A' c' wr (hSk.more (Nat.le_refl _) hLr.size) (fun w' h => IH.out kids hks A' c' w' h)
      have CC := Lib.hid C
      clear C
      go_wp2_with fail
      refine CC.out.mono ?_; rintro e w2 ⟨⟨A2, c2, rfl, hS2⟩, b2⟩
      have hO2 : w2.ownsRow _ _ _ _ _ _ := ((Row.mk hOr).keep b2).1
      have cc0 := hO2.cellAt (k * 4) (by omega)
      have cc1 := hO2.cellAt (k * 4 + 1) (by omega)
      have cc2 := hO2.cellAt (k * 4 + 2) (by omega)
      have cc3 := hO2.cellAt (k * 4 + 3) (by omega)
      rw [hcg 1 (by omega)] at cc1
      rw [hcg 2 (by omega)] at cc2
      rw [hcg 3 (by omega)] at cc3
      have h0 := hcg 0 (by omega)
      rw [Nat.add_zero] at h0
      rw [h0] at cc0
      have f0 := hO2.frozenAt (k * 4)
      have f1 := hO2.frozenAt (k * 4 + 1)
      have f2 := hO2.frozenAt (k * 4 + 2)
      have f3 := hO2.frozenAt (k * 4 + 3)
      clear h0 hcg
      have hSt := ((((hO2.stored (k * 4) (.int .i64 zk)).1.stored (k * 4 + 1) (.int .i64 zn)).1.stored (k * 4 + 2) (.string zs)).1.stored (k * 4 + 3) (.slice A2 kids.len c2)).1
      rw [flat_set4 (rC_len exprC_len) ((zk, zn, zs), .slice A2 kids.len c2) rfl _ k hul] at hSt
      have HS := Lib.hid hSt
      clear hSt
      have hz2 := b2.size
      have hFn := Lib.hid (FitsK.set_ (c := c2) (HF.out.keep (w' := w2) (fun p h1 h2 => b2.cell h2) (Nat.le_refl _) b2.size) hul HD.out (hS2.more (by omega) (Nat.le_refl _)))
      generalize l[k] = y at *
      obtain ⟨⟨yyk, yyn, yys⟩, yv⟩ := y
      simp only [rC, exprC, List.cons_append, List.nil_append] at cc0 cc1 cc2 cc3
      go_wp2_with fail
      go_roundw
      case rel =>
        refine ⟨k + 1, _, by omega, by go_num, by rw [List.length_set]; exact HLL.out, ?_, by simp; omega, HS.out, bl_set (bl_set (bl_set (bl_set (bl_trans hLr b2) (Nat.le_refl _) _) (Nat.le_refl _) _) (Nat.le_refl _) _) (Nat.le_refl _) _⟩
        exact ((((hFn.out.setb (.inl (Nat.lt_succ_self _)) _).setb (.inl (Nat.lt_succ_self _)) _).setb (.inl (Nat.lt_succ_self _)) _).setb (.inl (Nat.lt_succ_self _)) _).keep (fun _ _ _ => rfl) (Nat.le_refl _) (by simp)
      case measure => simp [intOf]; omega
    · obtain rfl : k = fr.len := by omega
      have H := Lib.hid hOr
      clear hOr
      go_wp2_with fail
      go_ret
      refine ⟨⟨_, _, rfl, fun hp => ⟨w.heap.size, 0, rfl, Nat.le_refl _, hgs, FrIn.of_fits fr l _ _ HLL.out (HF.out.keep (fun _ _ _ => rfl) (by omega) (Nat.le_refl _)) (fun j u hu => ?_)⟩⟩, hLr⟩
      have := H.out.cells rfl j u hu
      rw [add_plain] at this
      exact this

set_option maxHeartbeats 2000000 in
theorem toExprS_any (N : Nat) (hN : N ≤ 1048576) : ∀ (fr : Fr (Int × Int × ByteArray)) (A : Option Addr) (c : Nat) (w : World), fr.size ≤ N → Sl exprC w 0 w.heap.size A fr →
    Calls Tryz.prog 24 #[.slice A fr.len c] w fun e w' => RetFr_Expr fr w e w' ∧ Below w.heap.size w w' := by
  induction N with
  | zero =>
    intro fr A c w hs hS
    obtain rfl := Fr.size_pos (Nat.le_zero.1 hs)
    exact toExprS_step .nil A c w (by simp [Fr.len]) hS (fun kids h => by simp [Fr.size] at h)
  | succ N ih =>
    intro fr A c w hs hS
    exact toExprS_step fr A c w (by have := fr.len_size; omega) hS (fun kids h A c w hk => ih (by omega) kids A c w (by omega) hk)

end Go.Proofs.YtemlnpncljomgaaGreatDoor
namespace Go.Proofs.YtemlnpncljomgaaGreatDoor
open Go.RowKit

set_option maxHeartbeats 1000000 in
theorem eqExpr_of (zk : Int) (zn : Int) (zs : ByteArray) (kids : Fr (Int × Int × ByteArray)) (A A' : Option Addr) (c c' : Nat) (w : World) (hS : Sl exprC w 0 w.heap.size A kids) (hS' : Sl exprC w 0 w.heap.size A' kids)
    (I : ∀ w', Sl exprC w' 0 w'.heap.size A kids → Sl exprC w' 0 w'.heap.size A' kids → Calls Tryz.prog 27 #[.slice A kids.len c, .slice A' kids.len c'] w' fun e w'' => e = .returned (.bool true) ∧ Below w'.heap.size w' w'') :
    Calls Tryz.prog 10 #[.agg #[.int .i64 zk, .int .i64 zn, .string zs, .slice A kids.len c], .agg #[.int .i64 zk, .int .i64 zn, .string zs, .slice A' kids.len c']] w fun e w' => e = .returned (.bool true) ∧ Below w.heap.size w w' := by
  have L0 := bl_alloc (bl_alloc (Below.refl w.heap.size w) (.cells #[.int .i64 zk, .int .i64 zn, .string zs, .slice A kids.len c] 29)) (.cells #[.int .i64 zk, .int .i64 zn, .string zs, .slice A' kids.len c'] 29)
  have I0 := I _ ((hS.below L0 (Nat.le_refl _)).more (Nat.le_refl _) L0.size) ((hS'.below L0 (Nat.le_refl _)).more (Nat.le_refl _) L0.size)
  go_enter Tryz.func10, Tryz.ntmps10
  go_wp2_with fail
  refine I0.mono ?_; rintro e w1 ⟨rfl, b1⟩
  go_wp2_with fail
  go_ret
  exact ⟨rfl, bl_trans L0 b1⟩

set_option maxHeartbeats 2000000 in
theorem eqExprS_step (fr : Fr (Int × Int × ByteArray)) (A A' : Option Addr) (c c' : Nat) (w : World) (hl : fr.len ≤ 1048576) (hS : Sl exprC w 0 w.heap.size A fr) (hS' : Sl exprC w 0 w.heap.size A' fr)
    (ih : ∀ (kids : Fr (Int × Int × ByteArray)), kids.size < fr.size → ∀ (A A' : Option Addr) (c c' : Nat) (w : World), Sl exprC w 0 w.heap.size A kids → Sl exprC w 0 w.heap.size A' kids → Calls Tryz.prog 27 #[.slice A kids.len c, .slice A' kids.len c'] w fun e w' => e = .returned (.bool true) ∧ Below w.heap.size w w') :
    Calls Tryz.prog 27 #[.slice A fr.len c, .slice A' fr.len c'] w fun e w' => e = .returned (.bool true) ∧ Below w.heap.size w w' := by
  have hl' : (fr.len : Int) ≤ 1048576 := by omega
  have IH := Lib.hid ih
  clear ih
  go_enter Tryz.func27, Tryz.ntmps27
  go_wp2_with fail
  go_loopw [5] (fun i wr => ∃ k : Nat, k ≤ fr.len ∧ i = .int .i64 k ∧ Below w.heap.size w wr) (fun i _ => fr.len - (intOf i).toNat)
  case atStart => exact ⟨0, Nat.zero_le _, rfl, Below.refl _ _⟩
  case round =>
    obtain ⟨k, hk, rfl, hL⟩ := hrel
    by_cases hlt : k < fr.len
    · obtain ⟨b, o, a, kids, A1, c1, rfl, hb, hd, hks, hSk, q0, q1, q2, q3⟩ := at_Expr (hS.below hL (Nat.le_refl _)) hlt
      obtain ⟨b2, o2, a2, kids2, A2, c2, rfl, hb2, hd2, _, hSk2, r0, r1, r2, r3⟩ := at_Expr (hS'.below hL (Nat.le_refl _)) hlt
      rw [hd] at hd2
      injection hd2 with e1 e2 e3
      subst e1 e2
      obtain ⟨zk, zn, zs⟩ := a
      simp only at q0 q1 q2 q3 r0 r1 r2 r3
      have hlt' : (k : Int) < (fr.len : Int) := by omega
      have hbb : b < wr.heap.size := Nat.lt_of_lt_of_le hb hL.size
      have hbb2 : b2 < wr.heap.size := Nat.lt_of_lt_of_le hb2 hL.size
      clear hd e3
      go_wp2_with fail
      refine wp_region_held_drew (S := (fun x => (x.cell? ⟨b, o + k * 4, none⟩ = some (.int .i64 zk) ∧ x.cell? ⟨b, o + k * 4 + 1, none⟩ = some (.int .i64 zn) ∧ x.cell? ⟨b, o + k * 4 + 2, none⟩ = some (.string zs) ∧ x.cell? ⟨b, o + k * 4 + 3, none⟩ = some (.slice A1 kids.len c1)) ∧ (x.cell? ⟨b2, o2 + k * 4, none⟩ = some (.int .i64 zk) ∧ x.cell? ⟨b2, o2 + k * 4 + 1, none⟩ = some (.int .i64 zn) ∧ x.cell? ⟨b2, o2 + k * 4 + 2, none⟩ = some (.string zs) ∧ x.cell? ⟨b2, o2 + k * 4 + 3, none⟩ = some (.slice A2 kids.len c2)) ∧ Sl exprC x 0 wr.heap.size A1 kids ∧ Sl exprC x 0 wr.heap.size A2 kids ∧ wr.heap.size ≤ x.heap.size)) (by kernel_rfl) ?_ (fun hHeld => ?_)
      · exact ⟨⟨q0, q1, q2, q3⟩, ⟨r0, r1, r2, r3⟩, hSk.keep (fun _ _ _ => rfl) (Nat.le_refl _) hL.size, hSk2.keep (fun _ _ _ => rfl) (Nat.le_refl _) hL.size, Nat.le_refl _⟩
      refine wpAnyH_take (i := 0) (oi := ⟨some 17, _, _, _, _, _⟩) (v := ?_) rfl (by kernel_rfl) (by kernel_rfl) (by kernel_rfl) (fun _ _ _ h => h) (Or.inl ⟨by rfl, ?_⟩) (by assumption) ?_
      case refine_2 => (intro w hSw; obtain ⟨⟨p0, p1, p2, p3⟩, ⟨u0, u1, u2, u3⟩, _, _, _⟩ := hSw; go_simp; first | done | with_reducible rfl)
      simp only [Act.put, qA, qB, qC]
      refine wpAnyH_take (i := 1) (oi := ⟨some 18, _, _, _, _, _⟩) (v := ?_) rfl (by kernel_rfl) (by kernel_rfl) (by kernel_rfl) (fun _ _ _ h => h) (Or.inl ⟨by rfl, ?_⟩) (by assumption) ?_
      case refine_2 => (intro w hSw; obtain ⟨⟨p0, p1, p2, p3⟩, ⟨u0, u1, u2, u3⟩, _, _, _⟩ := hSw; go_simp; first | done | with_reducible rfl)
      simp only [Act.put, qA, qB, qC]
      refine wpAnyH_take (i := 2) (oi := ⟨some 19, _, _, _, _, _⟩) (v := ?_) rfl (by kernel_rfl) (by kernel_rfl) (by kernel_rfl) (fun _ _ _ h => h) (Or.inl ⟨by rfl, ?_⟩) (by assumption) ?_
      case refine_2 => (intro w hSw; obtain ⟨⟨p0, p1, p2, p3⟩, ⟨u0, u1, u2, u3⟩, _, _, _⟩ := hSw; go_simp; first | done | with_reducible rfl)
      simp only [Act.put, qA, qB, qC]
      refine wpAnyH_take (i := 3) (oi := ⟨some 20, _, _, _, _, _⟩) (v := ?_) rfl (by kernel_rfl) (by kernel_rfl) (by kernel_rfl) (fun _ _ _ h => h) (Or.inl ⟨by rfl, ?_⟩) (by assumption) ?_
      case refine_2 => (intro w hSw; obtain ⟨⟨p0, p1, p2, p3⟩, ⟨u0, u1, u2, u3⟩, _, _, _⟩ := hSw; go_simp; first | done | with_reducible rfl)
      simp only [Act.put, qA, qB, qC]
      refine wpAnyH_take (i := 4) (oi := ⟨some 21, _, _, _, _, _⟩) (v := ?_) rfl (by kernel_rfl) (by kernel_rfl) (by kernel_rfl) (fun _ _ _ h => h) (Or.inl ⟨by rfl, ?_⟩) (by assumption) ?_
      case refine_2 => (intro w hSw; obtain ⟨⟨p0, p1, p2, p3⟩, ⟨u0, u1, u2, u3⟩, _, _, _⟩ := hSw; go_simp; first | done | with_reducible rfl)
      simp only [Act.put, qA, qB, qC]
      refine wpAnyH_take (i := 5) (oi := ⟨some 22, _, _, _, _, _⟩) (v := ?_) rfl (by kernel_rfl) (by kernel_rfl) (by kernel_rfl) (fun _ _ _ h => h) (Or.inl ⟨by rfl, ?_⟩) (by assumption) ?_
      case refine_2 => (intro w hSw; obtain ⟨⟨p0, p1, p2, p3⟩, ⟨u0, u1, u2, u3⟩, _, _, _⟩ := hSw; go_simp; first | done | with_reducible rfl)
      simp only [Act.put, qA, qB, qC]
      refine wpAnyH_take (i := 6) (oi := ⟨some 23, _, _, _, _, _⟩) (v := ?_) rfl (by kernel_rfl) (by kernel_rfl) (by kernel_rfl) (fun _ _ _ h => h) (Or.inl ⟨by rfl, ?_⟩) (by assumption) ?_
      case refine_2 => (intro w hSw; obtain ⟨⟨p0, p1, p2, p3⟩, ⟨u0, u1, u2, u3⟩, _, _, _⟩ := hSw; go_simp; first | done | with_reducible rfl)
      simp only [Act.put, qA, qB, qC]
      refine wpAnyH_take (i := 7) (oi := ⟨some 24, _, _, _, _, _⟩) (v := ?_) rfl (by kernel_rfl) (by kernel_rfl) (by kernel_rfl) (fun _ _ _ h => h) (Or.inl ⟨by rfl, ?_⟩) (by assumption) ?_
      case refine_2 => (intro w hSw; obtain ⟨⟨p0, p1, p2, p3⟩, ⟨u0, u1, u2, u3⟩, _, _, _⟩ := hSw; go_simp; first | done | with_reducible rfl)
      simp only [Act.put, qA, qB, qC]
      refine wpAnyH_ready (rs := [8]) (by kernel_rfl) (by simp) ?_
      refine AllReadyH.cons (o := ⟨some 25, _, _, _, _, _⟩) rfl (fun K hK => ?_) AllReadyH.nil
      go_simp
      refine (eqExpr_of zk zn zs kids A1 A2 c1 c2 _ (hHeld.2.2.1.more (Nat.le_refl _) hHeld.2.2.2.2) (hHeld.2.2.2.1.more (Nat.le_refl _) hHeld.2.2.2.2) (fun w' h h' => IH.out kids hks A1 A2 c1 c2 w' h h')).mono ?_; rintro e w1 ⟨rfl, b1⟩
      go_wp2_with fail
      refine hK.out _ _ (⟨⟨(b1.cell (Nat.lt_of_lt_of_le hbb hHeld.2.2.2.2)).trans hHeld.1.1, (b1.cell (Nat.lt_of_lt_of_le hbb hHeld.2.2.2.2)).trans hHeld.1.2.1, (b1.cell (Nat.lt_of_lt_of_le hbb hHeld.2.2.2.2)).trans hHeld.1.2.2.1, (b1.cell (Nat.lt_of_lt_of_le hbb hHeld.2.2.2.2)).trans hHeld.1.2.2.2⟩, ⟨(b1.cell (Nat.lt_of_lt_of_le hbb2 hHeld.2.2.2.2)).trans hHeld.2.1.1, (b1.cell (Nat.lt_of_lt_of_le hbb2 hHeld.2.2.2.2)).trans hHeld.2.1.2.1, (b1.cell (Nat.lt_of_lt_of_le hbb2 hHeld.2.2.2.2)).trans hHeld.2.1.2.2.1, (b1.cell (Nat.lt_of_lt_of_le hbb2 hHeld.2.2.2.2)).trans hHeld.2.1.2.2.2⟩, hHeld.2.2.1.below b1 hHeld.2.2.2.2, hHeld.2.2.2.1.below b1 hHeld.2.2.2.2, Nat.le_trans hHeld.2.2.2.2 b1.size⟩) (fun hHeld => ?_)
      clear hK K
      try simp only [Act.put, qA, qB, qC]
      refine wpAnyH_take (i := 9) (oi := ⟨some 26, _, _, _, _, _⟩) (v := ?_) rfl (by kernel_rfl) (by kernel_rfl) (by kernel_rfl) (fun _ _ _ h => h) (Or.inl ⟨by rfl, ?_⟩) (by assumption) ?_
      case refine_2 => (intro w hSw; skip; go_simp; first | done | with_reducible rfl)
      simp only [Act.put, qA, qB, qC]
      refine wpAnyH_done (by kernel_rfl) ?_ _
      go_wp2_with fail
      go_roundw
      case rel => exact ⟨k + 1, by omega, by go_num, bl_trans hL.drew b1⟩
      case measure => simp [intOf]; omega
    · obtain rfl : k = fr.len := by omega
      go_wp2_with fail
      go_ret
      exact ⟨rfl, hL⟩
theorem eqExprS_any (N : Nat) (hN : N ≤ 1048576) : ∀ (fr : Fr (Int × Int × ByteArray)), fr.size ≤ N → ∀ (A A' : Option Addr) (c c' : Nat) (w : World), Sl exprC w 0 w.heap.size A fr → Sl exprC w 0 w.heap.size A' fr →
    Calls Tryz.prog 27 #[.slice A fr.len c, .slice A' fr.len c'] w fun e w' => e = .returned (.bool true) ∧ Below w.heap.size w w' := by
  induction N with
  | zero =>
    intro fr hs A A' c c' w h h'
    obtain rfl := Fr.size_pos (Nat.le_zero.1 hs)
    exact eqExprS_step .nil A A' c c' w (by simp [Fr.len]) h h' (fun kids h => by simp [Fr.size] at h)
  | succ N ih =>
    intro fr hs A A' c c' w h h'
    exact eqExprS_step fr A A' c c' w (by have := fr.len_size; omega) h h' (fun kids h A A' c c' w k k' => ih (by omega) kids (by omega) A A' c c' w k k')

end Go.Proofs.YtemlnpncljomgaaGreatDoor
namespace Go.Proofs.YtemlnpncljomgaaGreatDoor
open Go.ChangeShapes Go.WideShapes Go.ChangeAt Go.RowKit

theorem open_rows {H : Type} {enc : TypeId × Value → H} {P : Program} {w : World} {t e : TypeId} {v : Value} {fuel m : Nat} {x : DataW H × List MemPlace} {α : Type} {Q : α → Prop} {f : α → List Value} (hf : ∀ a, (f a).length = m) (hm0 : 0 < m)
    (ht : P.underlying t = some (.slice e)) (hc : P.cellsOf e = m) (elem : ∀ n cs y, n < fuel → cs.length = m → DataW.trod enc P w 0 (fun _ => true) true n e cs = some y → ∃ a, Q a ∧ cs = f a)
    (h : DataW.trod enc P w 0 (fun _ => true) true fuel t [v] = some x) :
    ∃ (A : Option Addr) (c : Nat) (l : List α), v = .slice A l.length c ∧ Reads w w.heap.size m A l.length (flat f l) ∧ (∀ a ∈ l, Q a) ∧ l.length ≤ 9223372036854775807 := by
  rcases DataW.trod_slice ht h with ⟨hcs, _⟩ | ⟨a, len, cap, elems, rest, n, hn, hcs, _, _, hl, hmx, hlen, hel, _, _⟩
  · simp only [List.cons.injEq, and_true] at hcs
    subst hcs
    exact ⟨none, 0, [], rfl, ⟨by simp [flat], fun h => absurd h (by simp)⟩, (fun _ h => by cases h), by simp⟩
  · simp only [List.cons.injEq, and_true] at hcs
    subst hcs
    rw [hc] at hel
    have each : ∀ k, k ≤ len → ∃ l : List α, l.length = k ∧ ∀ i (hi : i < l.length), Q l[i] ∧ ∀ c u, (f l[i])[c]? = some u → w.cell? (a.add (i * m + c)) = some u := by
      intro k
      induction k with
      | zero => intro _; exact ⟨[], rfl, fun i hi => by simp at hi⟩
      | succ k ih =>
        intro hk
        obtain ⟨l, hll, hi⟩ := ih (by omega)
        have he := hel k (by omega)
        rw [List.getElem?_eq_getElem (by omega)] at he
        obtain ⟨cs', h1, h2⟩ := Option.bind_eq_some_iff.1 he
        obtain ⟨_, hl2, hcell⟩ := World.cells?_some h1
        obtain ⟨b, hq, rfl⟩ := elem n cs' _ (by omega) hl2 h2
        refine ⟨l ++ [b], by simp [hll], fun i hi' => ?_⟩
        by_cases hik : i < l.length
        · rw [List.getElem_append_left hik]; exact hi i hik
        · have hik2 : i = l.length := by simp at hi'; omega
          subst hik2
          have e2 : (l ++ [b])[l.length]'hi' = b := by simp
          rw [e2]
          refine ⟨hq, fun c u hu => ?_⟩
          have hcm : c < m := by
            rcases Nat.lt_or_ge c (f b).length with h1 | h1
            · rw [hf] at h1; exact h1
            · rw [List.getElem?_eq_none h1] at hu; cases hu
          have := hcell c hcm
          rw [Addr.add_add] at this
          rw [hll]
          exact this.trans hu
    obtain ⟨l, hll, hi⟩ := each len (Nat.le_refl _)
    refine ⟨some a, cap, l, by rw [hll], ⟨flat_len hf l, fun hp => ?_⟩, fun b hb => ?_, by rw [hll]; unfold maxLen at hmx; omega⟩
    · have h0 : ∃ u, (f (l[0]'hp))[0]? = some u := ⟨_, List.getElem?_eq_getElem (by rw [hf]; exact hm0)⟩
      obtain ⟨u, hu⟩ := h0
      have c0 := (hi 0 hp).2 0 u hu
      have hs := World.cell?_spot c0
      obtain ⟨b, off, sp⟩ := a
      have hsp : sp = none := by simpa [Addr.add] using hs
      subst hsp
      refine ⟨b, off, rfl, (by have := World.block_lt_of_cell? w _ c0; rw [add_plain] at this; exact this), fun j u hu => ?_⟩
      have hjl : j < l.length * m := by
        rcases Nat.lt_or_ge j (flat f l).length with h1 | h1
        · rw [flat_len hf] at h1; exact h1
        · rw [List.getElem?_eq_none h1] at hu; cases hu
      have hj1 : j / m < l.length := Nat.div_lt_of_lt_mul (by rw [Nat.mul_comm]; exact hjl)
      have hj2 : j % m < m := Nat.mod_lt _ hm0
      have hj : j / m * m + j % m = j := by rw [Nat.mul_comm]; exact Nat.div_add_mod j m
      have hg := flat_get hf l (j / m) hj1 (j % m) hj2
      rw [hj] at hg
      have := (hi (j / m) hj1).2 (j % m) u (by rw [← hg]; exact hu)
      rw [hj, add_plain] at this
      exact this
    · obtain ⟨i, hi', rfl⟩ := List.getElem_of_mem hb
      exact (hi i hi').1

theorem open_cells {H : Type} {enc : TypeId × Value → H} {P : Program} {w : World} {r : Reach} {b0 : Nat} {t : TypeId} {fs : Array Field} {v : Value} {d : DataW H} {ps : List MemPlace} (hs : P.underlying t = some (.struct fs)) (hv : Value.okWide P w r b0 t v) (h : DataW.Trod enc P w 0 (fun _ => true) true t v d ps) :
    ∃ (cs : Array Value) (fuel : Nat), v = .agg cs ∧ DataW.trod enc P w 0 (fun _ => true) true fuel t cs.toList = some (d, ps) := by
  obtain ⟨cs, rfl, _⟩ := okWide_struct hs hv
  obtain ⟨fuel, hf⟩ := h
  exact ⟨cs, fuel, rfl, hf⟩
theorem trod_fields {H : Type} {enc : TypeId × Value → H} {P : Program} {w : World} {t : TypeId} {fuel : Nat} {cs : List Value} {x : DataW H × List MemPlace} {fs : Array Field} (hs : P.underlying t = some (.struct fs)) (hone : Go.Deep.oneCellFields P fs = true) (h : DataW.trod enc P w 0 (fun _ => true) true fuel t cs = some x) :
    ∃ n : Nat, fuel = n + 1 ∧ cs.length = P.cellsOf t ∧ ∀ (i : Nat) (f : Field), fs[i]? = some f → ∀ c, cs[i]? = some c → ∃ y, DataW.trod enc P w 0 (fun _ => true) true n f.type [c] = some y := by
  obtain ⟨xs, n, hn, _, hcl, hxl, hf⟩ := DataW.trod_struct hs h
  refine ⟨n, hn, hcl, fun i f hi c hc => ?_⟩
  have h1 := hf i f hi
  obtain ⟨o0, k0⟩ := Go.Deep.hone_of hone i f hi
  have hil : i < fs.size := (Array.getElem?_eq_some_iff.1 hi).1
  have hcl2 : i < cs.length := by
    rcases Nat.lt_or_ge i cs.length with h | h
    · exact h
    · rw [List.getElem?_eq_none h] at hc; cases hc
  rw [List.getElem?_eq_getElem hcl2] at hc
  injection hc with hc
  have e1 : (cs.drop i).take 1 = [c] := by
    rw [List.drop_eq_getElem_cons hcl2, hc]
    rfl
  rw [o0, k0, e1, List.getElem?_eq_getElem (by omega)] at h1
  exact ⟨_, h1⟩

end Go.Proofs.YtemlnpncljomgaaGreatDoor
namespace Go.Proofs.YtemlnpncljomgaaGreatDoor
open Go.RowKit

def gExpr (a : (Int × Int × ByteArray)) : Nat := a.2.2.size
def qExpr (a : (Int × Int × ByteArray)) : Prop := a.2.2.size ≤ 9223372036854775807
set_option maxHeartbeats 1000000 in
theorem szExpr_of (zk : Int) (zn : Int) (zs : ByteArray) (kids : Fr (Int × Int × ByteArray)) (A : Option Addr) (c : Nat) (left : Int) (w : World) (hq : zs.size ≤ 9223372036854775807) (h0 : 0 ≤ left) (h1 : left ≤ 1048576) (hS : Sl exprC w 0 w.heap.size A kids)
    (I : ∀ w' left, 0 ≤ left → left ≤ 1048576 → Sl exprC w' 0 w'.heap.size A kids → Calls Tryz.prog 21 #[.slice A kids.len c, .int .i64 left] w' fun e w'' => e = .returned (.int .i64 (left_ left (wt gExpr kids))) ∧ Below w'.heap.size w' w'') :
    Calls Tryz.prog 6 #[.agg #[.int .i64 zk, .int .i64 zn, .string zs, .slice A kids.len c], .int .i64 left] w fun e w' => e = .returned (.int .i64 (left_ left (zs.size + wt gExpr kids))) ∧ Below w.heap.size w w' := by
  by_cases hc : left - (zs.size : Int) < 0
  · rw [show left_ left (zs.size + wt gExpr kids) = -1 by unfold left_; rw [if_pos (by omega)]]
    go_enter Tryz.func6, Tryz.ntmps6
    go_wp2_with fail
    go_ret
    exact ⟨rfl, by repeat (first | exact Below.refl _ _ | refine bl_drewN ?_ _ | refine Below.drew ?_ | refine bl_alloc ?_ _ | refine bl_set ?_ (by simp) _ | refine bl_trans ?_ (by assumption))⟩
  · have B0 := Blk.new w 24 #[.int .i64 zk, .int .i64 zn, .string zs, .slice A kids.len c]
    have L0 := bl_alloc (Below.refl w.heap.size w) (.cells #[.int .i64 zk, .int .i64 zn, .string zs, .slice A kids.len c] 24)
    have I0 := I _ (left - zs.size) (by omega) (by omega) ((hS.below L0 (Nat.le_refl _)).more (Nat.le_refl _) L0.size)
    have hE : left_ left (zs.size + wt gExpr kids) = left_ (left - zs.size) (wt gExpr kids) := by
      unfold left_
      have e : left - ((zs.size + wt gExpr kids : Nat) : Int) = left - zs.size - (wt gExpr kids : Nat) := by omega
      rw [e]
    rw [hE]
    have hm := fun h => (left_neg (l := left - zs.size) (n := wt gExpr kids) h).1
    generalize left_ (left - zs.size) (wt gExpr kids) = R at I0 hm
    have HM := Lib.hid hm
    clear hm
    have II := Lib.hid I0
    clear I0 hE
    by_cases hR : R < 0
    all_goals
      go_enter Tryz.func6, Tryz.ntmps6
      go_wp2_with fail
      refine II.out.mono ?_; rintro e w1 ⟨rfl, b1⟩
      go_wp2_with fail
      go_ret
    · exact ⟨ret_int (HM.out hR).symm, bl_trans L0 b1⟩
    · exact ⟨rfl, bl_trans L0 b1⟩

set_option maxHeartbeats 2000000 in
theorem szExprS_step (fr : Fr (Int × Int × ByteArray)) (A : Option Addr) (c : Nat) (left : Int) (w : World) (hl : fr.len ≤ 9223372036854775807) (hq : FrOk qExpr fr) (h0 : 0 ≤ left) (h1 : left ≤ 1048576) (hS : Sl exprC w 0 w.heap.size A fr)
    (ih : ∀ (kids : Fr (Int × Int × ByteArray)), kids.size < fr.size → kids.len ≤ 9223372036854775807 → FrOk qExpr kids → ∀ (A : Option Addr) (c : Nat) (left : Int) (w : World), 0 ≤ left → left ≤ 1048576 → Sl exprC w 0 w.heap.size A kids → Calls Tryz.prog 21 #[.slice A kids.len c, .int .i64 left] w fun e w' => e = .returned (.int .i64 (left_ left (wt gExpr kids))) ∧ Below w.heap.size w w') :
    Calls Tryz.prog 21 #[.slice A fr.len c, .int .i64 left] w fun e w' => e = .returned (.int .i64 (left_ left (wt gExpr fr))) ∧ Below w.heap.size w w' := by
  have hlw := len_wt gExpr fr
  by_cases hc : left - (fr.len : Int) < 0
  · rw [left_is (by omega)]
    go_enter Tryz.func21, Tryz.ntmps21
    go_wp2_with fail
    go_ret
    exact ⟨rfl, Below.refl _ _⟩
  · obtain ⟨R, hR⟩ : ∃ R, left_ left (wt gExpr fr) = R := ⟨_, rfl⟩
    rw [hR]
    have HR := Lib.hid hR
    have IH := Lib.hid ih
    have HQ := Lib.hid hq
    clear hR ih hq
    go_enter Tryz.func21, Tryz.ntmps21
    go_wp2_with fail
    go_loopw [1, 5] (fun l i wr => ∃ (k : Nat) (y : Int), k ≤ fr.len ∧ i = .int .i64 k ∧ l = .int .i64 y ∧ 0 ≤ y ∧ y ≤ 1048576 ∧ left_ (y + (fr.drop k).len) (wt gExpr (fr.drop k)) = R ∧ Below w.heap.size w wr) (fun _ i _ => fr.len - (intOf i).toNat)
    case atStart => exact ⟨0, _, Nat.zero_le _, rfl, rfl, by omega, by omega, by rw [Fr.drop_zero, Int.sub_add_cancel]; exact HR.out, Below.refl _ _⟩
    case round =>
      obtain ⟨k, y, hk, rfl, rfl, hy0, hy1, hE, hL⟩ := hrel
      by_cases hlt : k < fr.len
      · obtain ⟨b, o, a, kids, A', c', rfl, hb, hd, hks, hSk, q0, q1, q2, q3⟩ := at_Expr (hS.below hL (Nat.le_refl _)) hlt
        have hlt' : (k : Int) < (fr.len : Int) := by omega
        have hqk := FrOk.drop k HQ.out
        rw [hd] at hE hqk
        obtain ⟨hqa, hkl, hqk, _⟩ := hqk
        obtain ⟨zk, zn, zs⟩ := a
        have hlr := len_wt gExpr (fr.drop (k + 1))
        have C := szExpr_of zk zn zs kids A' c' y wr hqa hy0 hy1 (hSk.more (Nat.le_refl _) hL.size) (fun w' left h0 h1 h => IH.out kids hks hkl hqk A' c' left w' h0 h1 h)
        simp only [Fr.len, wt, gExpr] at hE
        obtain ⟨z, hz⟩ : ∃ z, left_ y (zs.size + wt gExpr kids) = z := ⟨_, rfl⟩
        rw [hz] at C
        have CC := Lib.hid C
        clear C hd
        simp only at q0 q1 q2 q3
        by_cases hs : z < 0
        · have hR1 : R = -1 := by
            rw [← hE]
            have := (left_neg (by rw [hz]; exact hs)).2
            exact left_is (by omega)
          clear hE HR hz
          subst hR1
          go_wp2_with fail
          refine CC.out.mono ?_; rintro e w1 ⟨rfl, b1⟩
          go_wp2_with fail
          go_ret
          exact ⟨rfl, bl_trans hL b1⟩
        · have hp := left_pos (by rw [hz]; exact hs)
          rw [hz] at hp
          have hR1 : left_ (z + (fr.drop (k + 1)).len) (wt gExpr (fr.drop (k + 1))) = R := by
            rw [← hE]
            unfold left_
            rw [show y + (((fr.drop (k + 1)).len + 1 : Nat) : Int) - ((1 + zs.size + wt gExpr kids + wt gExpr (fr.drop (k + 1)) : Nat) : Int) = z + ((fr.drop (k + 1)).len : Nat) - (wt gExpr (fr.drop (k + 1)) : Nat) by omega]
          have H1 := Lib.hid hR1
          have hz0 : 0 ≤ z ∧ z ≤ 1048576 := by omega
          clear hE HR hz hR1 hp
          go_wp2_with fail
          refine CC.out.mono ?_; rintro e w1 ⟨rfl, b1⟩
          go_wp2_with fail
          go_roundw
          case rel => exact ⟨k + 1, z, by omega, by go_num, rfl, by omega, by omega, H1.out, bl_trans hL b1⟩
          case measure => simp [intOf]; omega
      · obtain rfl : k = fr.len := by omega
        rw [Fr.drop_all] at hE
        have h00 : left_ (y + ((0 : Nat) : Int)) 0 = y := by unfold left_; rw [if_neg (by omega)]; omega
        have hE' : y = R := h00.symm.trans hE
        subst hE'
        clear hE HR
        go_wp2_with fail
        go_ret
        exact ⟨rfl, hL⟩
theorem szExprS_any (N : Nat) : ∀ (fr : Fr (Int × Int × ByteArray)), fr.size ≤ N → fr.len ≤ 9223372036854775807 → FrOk qExpr fr → ∀ (A : Option Addr) (c : Nat) (left : Int) (w : World), 0 ≤ left → left ≤ 1048576 → Sl exprC w 0 w.heap.size A fr →
    Calls Tryz.prog 21 #[.slice A fr.len c, .int .i64 left] w fun e w' => e = .returned (.int .i64 (left_ left (wt gExpr fr))) ∧ Below w.heap.size w w' := by
  induction N with
  | zero =>
    intro fr hs hl hq A c left w h0 h1 hS
    obtain rfl := Fr.size_pos (Nat.le_zero.1 hs)
    exact szExprS_step .nil A c left w hl hq h0 h1 hS (fun kids h => by simp [Fr.size] at h)
  | succ N ih =>
    intro fr hs hl hq A c left w h0 h1 hS
    exact szExprS_step fr A c left w hl hq h0 h1 hS (fun kids h hl hq A c left w h0 h1 hk => ih kids (by omega) hl hq A c left w h0 h1 hk)

end Go.Proofs.YtemlnpncljomgaaGreatDoor
namespace Go.Proofs.YtemlnpncljomgaaGreatDoor
open Go.ChangeShapes Go.WideShapes Go.ChangeAt Go.RowKit

def ElExpr (W : World) (cs : List Value) : Prop := ∃ (a : (Int × Int × ByteArray)) (A : Option Addr) (c : Nat) (kids : Fr (Int × Int × ByteArray)), cs = exprC a ++ [.slice A kids.len c] ∧ Sl exprC W 0 W.heap.size A kids ∧ kids.len ≤ 9223372036854775807 ∧ FrOk qExpr kids ∧ qExpr a
theorem elExpr_of {H : Type} {enc : TypeId × Value → H} (W : World) (fuel : Nat)
    (I : ∀ n, n < fuel → ∀ v x, DataW.trod enc Tryz.checked.prog W 0 (fun _ => true) true n 22 [v] = some x → ∃ (A : Option Addr) (c : Nat) (fr : Fr (Int × Int × ByteArray)), v = .slice A fr.len c ∧ Sl exprC W 0 W.heap.size A fr ∧ fr.len ≤ 9223372036854775807 ∧ FrOk qExpr fr)
    (cs : List Value) (y : DataW H × List MemPlace) (h : DataW.trod enc Tryz.checked.prog W 0 (fun _ => true) true fuel 24 cs = some y) : ElExpr W cs := by
  obtain ⟨n', hn, hcl, hf⟩ := trod_fields Tryz.underlying24 (by kernel_rfl) h
  obtain ⟨c0, c1, c2, c3, rfl⟩ := len_4 (hcl.trans (by kernel_rfl) : cs.length = 4)
  obtain ⟨y0, h0⟩ := hf 0 _ rfl c0 rfl
  obtain ⟨x0, e0, _, w0⟩ := DataW.trod_int Tryz.underlying3 h0
  simp only [List.cons.injEq, and_true] at e0
  subst e0
  obtain ⟨y1, h1⟩ := hf 1 _ rfl c1 rfl
  obtain ⟨x1, e1, _, w1⟩ := DataW.trod_int Tryz.underlying3 h1
  simp only [List.cons.injEq, and_true] at e1
  subst e1
  obtain ⟨y2, h2⟩ := hf 2 _ rfl c2 rfl
  obtain ⟨x2, e2, _, w2⟩ := DataW.trod_string Tryz.underlying9 h2
  simp only [List.cons.injEq, and_true] at e2
  subst e2
  obtain ⟨y3, h3⟩ := hf 3 _ rfl c3 rfl
  obtain ⟨A, c, kids, rfl, hS, hl, hq⟩ := I n' (by omega) c3 y3 h3
  exact ⟨(x0, x1, x2), A, c, kids, rfl, hS, hl, hq, by unfold maxLen at w2; exact w2⟩
theorem open_frExpr {H : Type} {enc : TypeId × Value → H} (W : World) : ∀ (N fuel : Nat), fuel ≤ N → ∀ (v : Value) (x : DataW H × List MemPlace), DataW.trod enc Tryz.checked.prog W 0 (fun _ => true) true fuel 22 [v] = some x →
    ∃ (A : Option Addr) (c : Nat) (fr : Fr (Int × Int × ByteArray)), v = .slice A fr.len c ∧ Sl exprC W 0 W.heap.size A fr ∧ fr.len ≤ 9223372036854775807 ∧ FrOk qExpr fr := by
  intro N
  induction N with
  | zero =>
    intro fuel hN v x h
    obtain rfl := Nat.le_zero.1 hN
    simp [DataW.trod] at h
  | succ N ih =>
    intro fuel hN v x h
    obtain ⟨A, c, l, rfl, hR, hQ, hl⟩ := open_rows (Q := fun x : (Int × Int × ByteArray) × Value => ∃ (A : Option Addr) (c : Nat) (kids : Fr (Int × Int × ByteArray)), x.2 = .slice A kids.len c ∧ Sl exprC W 0 W.heap.size A kids ∧ kids.len ≤ 9223372036854775807 ∧ FrOk qExpr kids ∧ qExpr x.1) (rC_len exprC_len) (by omega) Tryz.underlying22 (e := 24) (by kernel_rfl) (fun n cs y hn _ hy => by
      obtain ⟨a, A, c, kids, rfl, h1, h2, h3, h4⟩ := elExpr_of W n (fun n' hn' => ih n' (by omega)) cs y hy
      exact ⟨(a, .slice A kids.len c), ⟨A, c, kids, rfl, h1, h2, h3, h4⟩, rfl⟩) h
    obtain ⟨fr, hlen, hF, hok⟩ := fr_of_list l hQ
    rw [← hlen] at hR hl ⊢
    refine ⟨A, c, fr, rfl, fun hp => ?_, hl, hok⟩
    obtain ⟨b, o, e, hb, hc⟩ := hR.2 hp
    exact ⟨b, o, e, Nat.zero_le _, hb, FrIn.of_fits fr l b o hlen.symm hF hc⟩
end Go.Proofs.YtemlnpncljomgaaGreatDoor
namespace Go.Proofs.YtemlnpncljomgaaGreatDoor
open Go.RowKit

def inI (x lo hi : Int) : Bool := decide (lo ≤ x) && decide (x ≤ hi)
theorem inI_true {x lo hi : Int} (h1 : lo ≤ x) (h2 : x ≤ hi) : inI x lo hi = true := by simp [inI, h1, h2]
theorem inI_false {x lo hi : Int} (h : x < lo ∨ hi < x) : inI x lo hi = false := by unfold inI; simp only [Bool.and_eq_false_iff, decide_eq_false_iff_not]; omega
theorem inI_iff {x lo hi : Int} : inI x lo hi = true ↔ lo ≤ x ∧ x ≤ hi := by simp [inI]

set_option maxHeartbeats 400000 in
theorem sIn (x lo hi : Int) (w : World) :
    Calls Tryz.prog 51 #[.int .i64 x, .int .i64 lo, .int .i64 hi] w fun e w' => e = .returned (.bool (inI x lo hi)) ∧ w' = w := by
  by_cases h1 : lo ≤ x
  · by_cases h2 : x ≤ hi
    · go_enter Tryz.func51, Tryz.ntmps51
      go_wp2_with fail
      go_ret
      exact ⟨ret_bool (by rw [inI_true h1 h2]), rfl⟩
    · go_enter Tryz.func51, Tryz.ntmps51
      go_wp2_with fail
      go_ret
      exact ⟨ret_bool (by rw [inI_false (by omega)]), rfl⟩
  · go_enter Tryz.func51, Tryz.ntmps51
    go_wp2_with fail
    all_goals go_ret
    all_goals exact ⟨ret_bool (by rw [inI_false (by omega)]), rfl⟩

end Go.Proofs.YtemlnpncljomgaaGreatDoor
namespace Go.Proofs.YtemlnpncljomgaaGreatDoor
open Go.RowKit
set_option maxHeartbeats 400000 in
theorem iDigit (c : Int) (w : World) :
    Calls Tryz.prog 98 #[.int .u8 c] w fun e w' => e = .returned (.bool (inI c 48 57)) ∧ w' = w := by
  by_cases c1 : 48 ≤ c
  · by_cases c2 : c ≤ 57
    · go_enter Tryz.func98, Tryz.ntmps98
      go_wp2_with fail
      go_ret
      exact ⟨ret_bool (by rw [inI_true c1 c2]), rfl⟩
    · go_enter Tryz.func98, Tryz.ntmps98
      go_wp2_with fail
      go_ret
      exact ⟨ret_bool (by rw [inI_false (by omega)]), rfl⟩
  · go_enter Tryz.func98, Tryz.ntmps98
    go_wp2_with fail
    go_ret
    exact ⟨ret_bool (by rw [inI_false (by omega)]), rfl⟩

set_option maxHeartbeats 400000 in
theorem sDigit (c : Int) (w : World) (h0 : 0 ≤ c) (h1 : c < 256) :
    Calls Tryz.prog 80 #[.int .u8 c] w fun e w' => e = .returned (.bool (inI c 48 57)) ∧ w' = w := by
  go_enter Tryz.func80, Tryz.ntmps80
  go_wp2_with fail
  refine (sIn _ _ _ _).mono ?_; rintro e w1 ⟨rfl, rfl⟩
  go_wp2_with fail
  go_ret
  exact ⟨rfl, rfl⟩

set_option maxHeartbeats 400000 in
theorem iWithin (x lo hi : Int) (w : World) :
    Calls Tryz.prog 58 #[.int .i64 x, .int .i64 lo, .int .i64 hi] w fun e w' => e = .returned (.bool (inI x lo hi)) ∧ w' = w := by
  by_cases c1 : lo ≤ x
  · by_cases c2 : x ≤ hi
    · go_enter Tryz.func58, Tryz.ntmps58
      go_wp2_with fail
      go_ret
      exact ⟨ret_bool (by rw [inI_true c1 c2]), rfl⟩
    · go_enter Tryz.func58, Tryz.ntmps58
      go_wp2_with fail
      go_ret
      exact ⟨ret_bool (by rw [inI_false (by omega)]), rfl⟩
  · go_enter Tryz.func58, Tryz.ntmps58
    go_wp2_with fail
    go_ret
    exact ⟨ret_bool (by rw [inI_false (by omega)]), rfl⟩

end Go.Proofs.YtemlnpncljomgaaGreatDoor
namespace Go.Proofs.YtemlnpncljomgaaGreatDoor
open Go.RowKit

set_option maxHeartbeats 400000 in
theorem iLetter (c : Int) (w : World) :
    Calls Tryz.prog 83 #[.int .u8 c] w fun e w' => e = .returned (.bool (inI c 97 122)) ∧ w' = w := by
  by_cases c1 : 97 ≤ c
  · by_cases c2 : c ≤ 122
    · go_enter Tryz.func83, Tryz.ntmps83
      go_wp2_with fail
      go_ret
      exact ⟨ret_bool (by rw [inI_true c1 c2]), rfl⟩
    · go_enter Tryz.func83, Tryz.ntmps83
      go_wp2_with fail
      go_ret
      exact ⟨ret_bool (by rw [inI_false (by omega)]), rfl⟩
  · go_enter Tryz.func83, Tryz.ntmps83
    go_wp2_with fail
    go_ret
    exact ⟨ret_bool (by rw [inI_false (by omega)]), rfl⟩

set_option maxHeartbeats 400000 in
theorem sSmall (c : Int) (w : World) (h0 : 0 ≤ c) (h1 : c < 256) :
    Calls Tryz.prog 79 #[.int .u8 c] w fun e w' => e = .returned (.bool (inI c 97 122)) ∧ w' = w := by
  go_enter Tryz.func79, Tryz.ntmps79
  go_wp2_with fail
  refine (sIn _ _ _ _).mono ?_; rintro e w1 ⟨rfl, rfl⟩
  go_wp2_with fail
  go_ret
  exact ⟨rfl, rfl⟩

def wdB (c : Int) : Bool := inI c 97 122 || inI c 48 57
def wdAll (s : ByteArray) (k : Nat) : Prop := ∀ i, i < k → ∀ h : i < s.size, wdB s[i].toNat = true
theorem wdAll.zero (s : ByteArray) : wdAll s 0 := fun i h => by omega
theorem wdAll.succ {s : ByteArray} {k : Nat} (h : wdAll s k) (hk : k < s.size) (hw : wdB s[k].toNat = true) : wdAll s (k + 1) := fun i hi hs => by
  rcases Nat.lt_or_ge i k with h1 | h1
  · exact h i h1 hs
  · obtain rfl : i = k := by omega
    exact hw
open Classical in
noncomputable def nameB (s : ByteArray) : Bool := decide (∃ h : 0 < s.size, s.size ≤ 8 ∧ inI s[0].toNat 97 122 = true ∧ wdAll s s.size)
open Classical in
theorem nameB_true {s : ByteArray} (h : 0 < s.size) (h1 : s.size ≤ 8) (h2 : inI s[0].toNat 97 122 = true) (h3 : wdAll s s.size) : nameB s = true := by
  unfold nameB; exact decide_eq_true ⟨h, h1, h2, h3⟩
open Classical in
theorem nameB_size {s : ByteArray} (h : s.size = 0 ∨ 8 < s.size) : nameB s = false := by
  unfold nameB; refine decide_eq_false ?_; rintro ⟨h0, h1, _⟩; omega
open Classical in
theorem nameB_head {s : ByteArray} (h : 0 < s.size) (h2 : inI s[0].toNat 97 122 = false) : nameB s = false := by
  unfold nameB; refine decide_eq_false ?_; rintro ⟨h0, _, h1, _⟩; rw [h1] at h2; cases h2
open Classical in
theorem nameB_at {s : ByteArray} {k : Nat} (h : k < s.size) (h2 : wdB s[k].toNat = false) : nameB s = false := by
  unfold nameB; refine decide_eq_false ?_; rintro ⟨h0, _, _, h1⟩; have := h1 k h h; rw [this] at h2; cases h2

set_option maxHeartbeats 1000000 in
theorem iWordLen (s : ByteArray) (w : World) (hs : s.size ≤ 1048576) :
    Calls Tryz.prog 84 #[.string s] w fun e w' => (∃ k : Nat, e = .returned (.int .i64 k) ∧ k ≤ s.size ∧ wdAll s k ∧ ∀ h : k < s.size, wdB s[k].toNat = false) ∧ w' = w := by
  go_enter Tryz.func84, Tryz.ntmps84
  go_wp2_with fail
  go_loop [3] (fun i => ∃ k : Nat, k ≤ s.size ∧ i = .int .i64 k ∧ wdAll s k) (fun i => s.size - (intOf i).toNat)
  case atStart => exact ⟨0, Nat.zero_le _, rfl, wdAll.zero s⟩
  case round =>
    obtain ⟨k, hk, rfl, hA⟩ := hrel
    by_cases hlt : (k : Int) < s.size
    · have hkn : k < s.size := by omega
      have hx := s[k].toNat_lt
      have hx' : (s[k].toNat : Int) < 256 := by omega
      have HA := Lib.hid hA
      cases h1 : inI s[k].toNat 97 122
      · cases h2 : inI s[k].toNat 48 57
        · go_wp2_with fail
          refine (iLetter _ _).mono ?_; rintro e w1 ⟨rfl, rfl⟩
          rw [h1]
          go_wp2_with fail
          refine (iDigit _ _).mono ?_; rintro e w1 ⟨rfl, rfl⟩
          rw [h2]
          go_wp2_with fail
          go_ret
          exact ⟨⟨k, rfl, hk, HA.out, fun _ => by unfold wdB; rw [h1, h2]; rfl⟩, rfl⟩
        · go_wp2_with fail
          refine (iLetter _ _).mono ?_; rintro e w1 ⟨rfl, rfl⟩
          rw [h1]
          go_wp2_with fail
          refine (iDigit _ _).mono ?_; rintro e w1 ⟨rfl, rfl⟩
          rw [h2]
          go_wp2_with fail
          go_round
          case rel => exact ⟨k + 1, by omega, by go_num, HA.out.succ hkn (by unfold wdB; rw [h1, h2]; rfl)⟩
          case measure => simp [intOf]; omega
      · go_wp2_with fail
        refine (iLetter _ _).mono ?_; rintro e w1 ⟨rfl, rfl⟩
        rw [h1]
        go_wp2_with fail
        go_round
        case rel => exact ⟨k + 1, by omega, by go_num, HA.out.succ hkn (by unfold wdB; rw [h1]; rfl)⟩
        case measure => simp [intOf]; omega
    · go_wp2_with fail
      go_ret
      exact ⟨⟨k, rfl, hk, hA, fun h => by omega⟩, rfl⟩

set_option maxHeartbeats 1000000 in
theorem iName (s : ByteArray) (w : World) (hs : s.size ≤ 1048576) :
    Calls Tryz.prog 73 #[.string s] w fun e w' => e = .returned (.bool (nameB s)) ∧ w' = w := by
  by_cases h8 : 1 ≤ (s.size : Int) ∧ (s.size : Int) ≤ 8
  · have hI := inI_true h8.1 h8.2
    have h0 : 0 < s.size := by omega
    have hx := s[0].toNat_lt
    have hx' : (s[0].toNat : Int) < 256 := by omega
    have h0' : (0 : Int) < s.size := by omega
    cases h1 : inI s[0].toNat 97 122
    · have E := nameB_head h0 h1
      rw [E]
      go_enter Tryz.func73, Tryz.ntmps73
      go_wp2_with fail
      refine (iWithin _ _ _ _).mono ?_; rintro e w1 ⟨rfl, rfl⟩
      rw [hI]
      go_wp2_with fail
      refine (iLetter _ _).mono ?_; rintro e w1 ⟨rfl, rfl⟩
      rw [h1]
      go_wp2_with fail
      go_ret
      exact ⟨rfl, rfl⟩
    · have E1 := fun h3 => Lib.hid (nameB_true h0 (by omega) h1 h3)
      have E2 := fun (k : Nat) h (h2 : wdB s[k].toNat = false) => Lib.hid (nameB_at h h2)
      generalize nameB s = R at E1 E2 ⊢
      go_enter Tryz.func73, Tryz.ntmps73
      go_wp2_with fail
      refine (iWithin _ _ _ _).mono ?_; rintro e w1 ⟨rfl, rfl⟩
      rw [hI]
      go_wp2_with fail
      refine (iLetter _ _).mono ?_; rintro e w1 ⟨rfl, rfl⟩
      rw [h1]
      go_wp2_with fail
      refine (iWordLen s _ hs).mono ?_; rintro e w1 ⟨⟨k, rfl, hk, hA, hB⟩, rfl⟩
      by_cases hl : k = s.size
      · have E := E1 (by rw [← hl]; exact hA)
        have hb : ((k : Int) == (s.size : Int)) = true := by simp [hl]
        have HB := Lib.hid hb
        clear E1 E2 hA hB hl hI hb
        go_wp2_with (rw [HB.out])
        go_ret
        exact ⟨ret_bool E.out.symm, rfl⟩
      · have E := E2 k (by omega) (hB (by omega))
        have hb : ((k : Int) == (s.size : Int)) = false := by simp; omega
        clear E1 E2 hA hB hI
        go_wp2_with fail
        go_ret
        exact ⟨ret_bool E.out.symm, rfl⟩
  · have hI : inI (s.size : Int) 1 8 = false := inI_false (by omega)
    rw [nameB_size (by omega)]
    go_enter Tryz.func73, Tryz.ntmps73
    go_wp2_with fail
    refine (iWithin _ _ _ _).mono ?_; rintro e w1 ⟨rfl, rfl⟩
    rw [hI]
    go_wp2_with fail
    go_ret
    exact ⟨rfl, rfl⟩

set_option maxHeartbeats 1000000 in
theorem sWord (s : ByteArray) (w : World) (hs : s.size ≤ 1048576) :
    Calls Tryz.prog 69 #[.string s] w fun e w' => e = .returned (.bool (nameB s)) ∧ w' = w := by
  have E0 := fun (h : s.size = 0 ∨ 8 < s.size) => Lib.hid (nameB_size h)
  have E1 := fun h0 h8 h1 h3 => Lib.hid (nameB_true (s := s) h0 h8 h1 h3)
  have E2 := fun (k : Nat) h (h2 : wdB s[k].toNat = false) => Lib.hid (nameB_at h h2)
  have E3 := fun h0 h2 => Lib.hid (nameB_head (s := s) h0 h2)
  generalize nameB s = R at E0 E1 E2 E3 ⊢
  go_enter Tryz.func69, Tryz.ntmps69
  go_wp2_with fail
  go_loop [3] (fun i => ∃ k : Nat, k ≤ s.size ∧ i = .int .i64 k ∧ wdAll s k ∧ ∀ h : 0 < s.size, 0 < k → inI s[0].toNat 97 122 = true) (fun i => s.size - (intOf i).toNat)
  case atStart => exact ⟨0, Nat.zero_le _, rfl, wdAll.zero s, fun _ h => by omega⟩
  case round =>
    obtain ⟨k, hk, rfl, hA, hH⟩ := hrel
    by_cases hlt : (k : Int) < s.size
    · have hkn : k < s.size := by omega
      have hx := s[k].toNat_lt
      have hx' : (s[k].toNat : Int) < 256 := by omega
      have HA := Lib.hid hA
      have HH := Lib.hid hH
      clear hA hH E0 E1
      cases h1 : inI s[k].toNat 97 122
      · by_cases hz : k = 0
        · subst hz
          have E := E3 hkn h1
          clear E2 E3
          go_wp2_with fail
          refine (sSmall _ _ (by omega) hx').mono ?_; rintro e w1 ⟨rfl, rfl⟩
          rw [h1]
          go_wp2_with fail
          go_ret
          exact ⟨ret_bool E.out.symm, rfl⟩
        · have hzb : ((k : Int) == 0) = false := by simp; omega
          cases h2 : inI s[k].toNat 48 57
          · have E := E2 k hkn (by unfold wdB; rw [h1, h2]; rfl)
            clear E2 E3
            go_wp2_with fail
            refine (sSmall _ _ (by omega) hx').mono ?_; rintro e w1 ⟨rfl, rfl⟩
            rw [h1]
            go_wp2_with fail
            refine (sDigit _ _ (by omega) hx').mono ?_; rintro e w1 ⟨rfl, rfl⟩
            rw [h2]
            go_wp2_with fail
            go_ret
            exact ⟨ret_bool E.out.symm, rfl⟩
          · clear E2 E3
            go_wp2_with fail
            refine (sSmall _ _ (by omega) hx').mono ?_; rintro e w1 ⟨rfl, rfl⟩
            rw [h1]
            go_wp2_with fail
            refine (sDigit _ _ (by omega) hx').mono ?_; rintro e w1 ⟨rfl, rfl⟩
            rw [h2]
            go_wp2_with fail
            go_round
            case rel => exact ⟨k + 1, by omega, by go_num, HA.out.succ hkn (by unfold wdB; rw [h1, h2]; rfl), fun h _ => HH.out h (by omega)⟩
            case measure => simp [intOf]; omega
      · clear E2 E3
        go_wp2_with fail
        refine (sSmall _ _ (by omega) hx').mono ?_; rintro e w1 ⟨rfl, rfl⟩
        rw [h1]
        go_wp2_with fail
        go_round
        case rel => exact ⟨k + 1, by omega, by go_num, HA.out.succ hkn (by unfold wdB; rw [h1]; rfl), fun h _ => by
          by_cases hz : k = 0
          · subst hz; exact h1
          · exact HH.out h (by omega)⟩
        case measure => simp [intOf]; omega
    · obtain rfl : k = s.size := by omega
      by_cases h8 : 1 ≤ (s.size : Int) ∧ (s.size : Int) ≤ 8
      · have hI := inI_true h8.1 h8.2
        have E := E1 (by omega) (by omega) (hH (by omega) (by omega)) hA
        clear E0 E1 E2 E3 hA hH
        go_wp2_with fail
        refine (sIn _ _ _ _).mono ?_; rintro e w1 ⟨rfl, rfl⟩
        rw [hI]
        go_wp2_with fail
        go_ret
        exact ⟨ret_bool E.out.symm, rfl⟩
      · have hI : inI (s.size : Int) 1 8 = false := inI_false (by omega)
        have E := E0 (by omega)
        clear E0 E1 E2 E3 hA hH
        go_wp2_with fail
        refine (sIn _ _ _ _).mono ?_; rintro e w1 ⟨rfl, rfl⟩
        rw [hI]
        go_wp2_with fail
        go_ret
        exact ⟨ret_bool E.out.symm, rfl⟩

end Go.Proofs.YtemlnpncljomgaaGreatDoor
