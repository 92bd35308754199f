/- Walk over the reference's draws of programs: l10Draw. -/
import Derived.Test.YtalnkdbmbjplpaaP10b
namespace Go.Proofs.Ytalnkdbmbjplpaa
open Go.RowKit

theorem info_Ru : (Try.prog.info? 54).map (fun i => (i.zero, i.size, i.bytes)) = some (some (.agg #[.int .i64 0, .int .i64 0, .int .i64 0, .string ⟨#[]⟩, .slice none 0 0, .slice none 0 0]), 6, 88) := by kernel_rfl
theorem info_Fn : (Try.prog.info? 59).map (fun i => (i.zero, i.size, i.bytes)) = some (some (.agg #[.string ⟨#[]⟩, .slice none 0 0, .slice none 0 0]), 3, 64) := by kernel_rfl

/-- The rules of a program that is drawn: the first one's statements are still worked on; the rows' blocks are from lo up to hi. -/
def RU (g : Nat) (U : Nat → Prop) (w : World) (lo hi : Nat) (vR : Value) (n : Nat) : Prop :=
  (n = 0 ∧ vR = .slice none 0 0) ∨ ∃ (k0 : Int) (a0 : Int × Int × ByteArray) (x0 : Fr (Int × Int × ByteArray)) (X0 : Option Addr) (cx0 : Nat) (v0 : Value) (LA0 : List TS) (la0 : List VS) (Lr : List TR) (lr : List VR), n = lr.length + 1 ∧
    (Rw g U w lo 54 6 vR n (flat rlC ((k0, a0, Value.slice X0 x0.len cx0, v0) :: lr)) ∧ ∀ k, vR.ownBlock = some k → k < hi) ∧ SlP exprC w U X0 x0 ∧ (RA g U w lo v0 LA0 la0 ∧ ∀ k, v0.ownBlock = some k → k < hi) ∧ FitR w U Lr lr ∧
    (∀ j, v0.ownBlock = some j → vR.ownBlock ≠ some j) ∧ x0.size ≤ 1000 ∧ (mkSt LA0).size ≤ 20000 ∧ ∀ y ∈ Lr, y.2.2.1.size ≤ 1000 ∧ y.2.2.2.size ≤ 20000
section
variable {B g lo hi n : Nat} {U U' : Nat → Prop} {w w' : World} {vR : Value}
theorem RU.start (g : Nat) (U : Nat → Prop) (w : World) (lo hi : Nat) : RU g U w lo hi (.slice none 0 0) 0 := .inl ⟨rfl, rfl⟩
theorem RU.gro (h : RU g U w lo hi vR n) (C : Cu B g U w) (G : Gro g U w U' w') : RU g U' w' lo hi vR n := by
  rcases h with h | ⟨k0, a0, x0, X0, cx0, v0, LA0, la0, Lr, lr, h1, h2, h3, h4, h5, h6, h7⟩
  · exact .inl h
  · exact .inr ⟨k0, a0, x0, X0, cx0, v0, LA0, la0, Lr, lr, h1, ⟨h2.1.gro G, h2.2⟩, h3.gro C G, ⟨h4.1.gro C G, h4.2⟩, h5.gro C G, h6, h7⟩
theorem RU.alloc (h : RU g U w lo hi vR n) (C : Cu B g U w) (o : Obj) : RU g U (w.alloc o) lo hi vR n := by
  rcases h with h | ⟨k0, a0, x0, X0, cx0, v0, LA0, la0, Lr, lr, h1, h2, h3, h4, h5, h6, h7⟩
  · exact .inl h
  · exact .inr ⟨k0, a0, x0, X0, cx0, v0, LA0, la0, Lr, lr, h1, ⟨h2.1.alloc o, h2.2⟩, h3.alloc C o, ⟨h4.1.alloc C o, h4.2⟩, h5.alloc C o, h6, h7⟩
theorem RU.below (h : RU g U w lo hi vR n) (C : Cu B g U w) (hb : Below w.heap.size w w') : RU g U w' lo hi vR n := by
  rcases h with h | ⟨k0, a0, x0, X0, cx0, v0, LA0, la0, Lr, lr, h1, h2, h3, h4, h5, h6, h7⟩
  · exact .inl h
  · exact .inr ⟨k0, a0, x0, X0, cx0, v0, LA0, la0, Lr, lr, h1, ⟨h2.1.below hb, h2.2⟩, h3.below C hb, ⟨h4.1.below C hb, h4.2⟩, h5.below C hb, h6, h7⟩
theorem RU.setb (h : RU g U w lo hi vR n) {b j : Nat} (hb : b < lo ∨ hi ≤ b) (hu : ¬ U b) (u : Value) : RU g U (w.setCell ⟨b, j, none⟩ u) lo hi vR n := by
  rcases h with h | ⟨k0, a0, x0, X0, cx0, v0, LA0, la0, Lr, lr, h1, h2, h3, h4, h5, h6, h7⟩
  · exact .inl h
  · exact .inr ⟨k0, a0, x0, X0, cx0, v0, LA0, la0, Lr, lr, h1, ⟨h2.1.setb (fun e => by have := h2.1.lt _ e; have := h2.2 _ e; omega) u, h2.2⟩, h3.setb hu u, ⟨h4.1.setb (fun e => by have := h4.1.1.lt _ e; have := h4.2 _ e; omega) hu u, h4.2⟩, h5.setb hu u, h6, h7⟩
theorem RU.more (h : RU g U w lo hi vR n) {hi' : Nat} (hh : hi ≤ hi') : RU g U w lo hi' vR n := by
  rcases h with h | ⟨k0, a0, x0, X0, cx0, v0, LA0, la0, Lr, lr, h1, h2, h3, h4, h5, h6, h7⟩
  · exact .inl h
  · exact .inr ⟨k0, a0, x0, X0, cx0, v0, LA0, la0, Lr, lr, h1, ⟨h2.1, fun k hk => Nat.lt_of_lt_of_le (h2.2 k hk) hh⟩, h3, ⟨h4.1, fun k hk => Nat.lt_of_lt_of_le (h4.2 k hk) hh⟩, h5, h6, h7⟩
theorem RU.form (h : RU g U w lo hi vR n) : ∃ A c, vR = .slice A n c := by
  rcases h with h | ⟨k0, a0, x0, X0, cx0, v0, LA0, la0, Lr, lr, h1, h2, h3, h4, h5, h6, h7⟩
  · exact ⟨none, 0, by rw [h.1, h.2]⟩
  · exact h2.1.form
end
/-- The functions of a program that is drawn, still the caller's; their blocks are ahead of mid. -/
def FU (g : Nat) (U : Nat → Prop) (w : World) (lo mid : Nat) (vF : Value) (M : List TF) (m : List VF) : Prop := (Rw g U w lo 59 3 vF m.length (flat fnC m) ∧ ∀ k, vF.ownBlock = some k → k < mid) ∧ FitF w U M m ∧ M.length ≤ 3 ∧ ∀ y ∈ M, y.2.1.length ≤ 2 ∧ y.2.2.size ≤ 20000
section
variable {B g lo mid : Nat} {U U' : Nat → Prop} {w w' : World} {vF : Value} {M : List TF} {m : List VF}
theorem FU.gro (h : FU g U w lo mid vF M m) (C : Cu B g U w) (G : Gro g U w U' w') : FU g U' w' lo mid vF M m := ⟨⟨h.1.1.gro G, h.1.2⟩, h.2.1.gro C G, h.2.2⟩
theorem FU.alloc (h : FU g U w lo mid vF M m) (C : Cu B g U w) (o : Obj) : FU g U (w.alloc o) lo mid vF M m := ⟨⟨h.1.1.alloc o, h.1.2⟩, h.2.1.alloc C o, h.2.2⟩
theorem FU.below (h : FU g U w lo mid vF M m) (C : Cu B g U w) (hb : Below w.heap.size w w') : FU g U w' lo mid vF M m := ⟨⟨h.1.1.below hb, h.1.2⟩, h.2.1.below C hb, h.2.2⟩
theorem FU.setb (h : FU g U w lo mid vF M m) {b j : Nat} (hb : b < lo ∨ mid ≤ b) (hu : ¬ U b) (u : Value) : FU g U (w.setCell ⟨b, j, none⟩ u) lo mid vF M m := ⟨⟨h.1.1.setb (fun e => by have := h.1.1.lt _ e; have := h.1.2 _ e; omega) u, h.1.2⟩, h.2.1.setb hu u, h.2.2⟩
theorem FU.row {row : Option Nat} (h : FU g U w lo mid vF M m) (C : Cu B g U w) (hg : w.grownBy w' row) (hr : ∀ k, row = some k → ¬ U k) (hm : ∀ k, row = some k → mid ≤ k) : FU g U w' lo mid vF M m := ⟨⟨h.1.1.row hg (fun k hk e => by have := hm k e; have := h.1.2 k hk; omega), h.1.2⟩, h.2.1.row C hg hr, h.2.2⟩
theorem FU.mid_ (h : FU g U w lo mid vF M m) {mid' : Nat} (hm : mid ≤ mid') : FU g U w lo mid' vF M m := ⟨⟨h.1.1, fun k hk => Nat.lt_of_lt_of_le (h.1.2 k hk) hm⟩, h.2⟩
theorem FU.form (h : FU g U w lo mid vF M m) : ∃ A c, vF = .slice A m.length c := h.1.1.form
end
/-- It hands back a program whose rows are still the caller's. -/
def ROpP (B g : Nat) (U : Nat → Prop) (w : World) (e : Ending) (w' : World) : Prop := ∃ (vR vF : Value) (n mid : Nat) (M : List TF) (m : List VF) (U' : Nat → Prop), e = .returned (.agg #[vR, vF]) ∧ 0 < n ∧ n ≤ 3 ∧ RU g U' w' mid w'.heap.size vR n ∧ FU g U' w' w.heap.size mid vF M m ∧ w.heap.size ≤ mid ∧ M.length = 2 ∧ Cu B g U' w' ∧ Gro g U w U' w'
theorem res_cell1' {fn : Func} {p : Tmp} {ty : TypeId} (h : fn.results = #[.cell p ty]) (tmps : Array Value) (P : Program) (w : World) (g : Nat) (t : TypeId) (cs : Array Value) {fs : _}
    (hp : tmps.getD p undef = .pointer (some ⟨g, 0, none⟩)) (hg : Blk w g t cs)
    (hu : P.underlying ty = some (.struct fs)) (hi : (P.info? ty).map (·.size) = some cs.size) :
    (results fn tmps).run P w = .ok (.agg cs) w := res_cell1 h tmps P w g t cs hp hg hu hi

theorem FU.setR {g rb r : Nat} {U : Nat → Prop} {w : World} {vF : Value} {M : List TF} {m : List VF} {t : TypeId} {cs : Array Value} (h : FU g U w r rb vF M m) (R : Bx g U w r t cs) (hn : vF.ownBlock ≠ some r) (u0 u1 : Value) : FU g U ((w.setCell ⟨r, 0, none⟩ u0).setCell ⟨r, 1, none⟩ u1) r rb vF M m :=
  ⟨⟨(h.1.1.setb (j := 0) hn u0).setb (j := 1) hn u1, h.1.2⟩, (h.2.1.setb (j := 0) R.2.1 u0).setb (j := 1) R.2.1 u1, h.2.2⟩
theorem RU.freeze {g lo hi n : Nat} {U : Nat → Prop} {w : World} {vR : Value} (h : RU g U w lo hi vR n) {V : Nat → Prop} (hV : ∀ b, V b → hi ≤ b) : RU g (fun b => U b ∨ V b) w lo hi vR n := by
  rcases h with h | ⟨k0, a0, x0, X0, cx0, v0, LA0, la0, Lr, lr, h1, h2, h3, h4, h5, h6, h7⟩
  · exact .inl h
  · exact .inr ⟨k0, a0, x0, X0, cx0, v0, LA0, la0, Lr, lr, h1, ⟨h2.1.freeze (fun b e e2 => by have := h2.2 b e; have := hV b e2; omega), h2.2⟩, h3.more (fun _ h => .inl h), ⟨⟨h4.1.1.freeze (fun b e e2 => by have := h4.2 b e; have := hV b e2; omega), h4.1.2.more (fun _ h => .inl h)⟩, h4.2⟩, h5.more (fun _ h => .inl h), h6, h7⟩
set_option maxRecDepth 20000 in
set_option maxHeartbeats 16000000 in
theorem dDraw10 (B g : Nat) (U : Nat → Prop) (w : World) (hC : Cu B g U w) :
    Calls Try.prog 19 #[.pointer (some ⟨g, 0, none⟩)] w fun e w' => ROpP B g U w e w' := by
  have R0 := Bx.new hC 37 #[.slice none 0 0, .slice none 0 0]
  have C0 := hC.alloc (.cells #[.slice none 0 0, .slice none 0 0] 37)
  have G0 := (Gro.refl g U w).alloc (.cells #[.slice none 0 0, .slice none 0 0] 37)
  obtain ⟨j0, hj, hy0, hy1, hy2⟩ := info_parts info_Ru
  go_enter Try.func19, Try.ntmps19
  go_wp2_with fail
  have S1 := Bx.new C0 9 #[.string ⟨#[97]⟩, .string ⟨#[98]⟩]
  rw [alloc_size] at S1
  replace R0 := R0.alloc (.cells #[.string ⟨#[97]⟩, .string ⟨#[98]⟩] 9)
  replace G0 := G0.alloc (.cells #[.string ⟨#[97]⟩, .string ⟨#[98]⟩] 9)
  replace C0 := C0.alloc (.cells #[.string ⟨#[97]⟩, .string ⟨#[98]⟩] 9)
  refine (dList9 B g true 1 (by omega) _ _ C0).mono ?_; rintro e w1 hr1
  obtain ⟨A1, c1, p1, U1, rfl, hp1, SA1, C1, G1⟩ := hr1.close
  clear hr1
  replace hp1 : p1.size ≤ 945 := hp1
  replace S1 := S1.gro G1
  have R := R0.gro G1
  have G := G0.trans G1
  clear R0 G0 C0
  generalize hs1 : w.heap.size + 1 = s1 at S1 ⊢
  have hw1 := R.lt
  go_wp2_with fail
  have S2 := Bx.new C1 9 #[.string ⟨#[120]⟩]
  replace S1 := S1.alloc (.cells #[.string ⟨#[120]⟩] 9)
  replace SA1 := SA1.alloc C1 (.cells #[.string ⟨#[120]⟩] 9)
  replace R := R.alloc (.cells #[.string ⟨#[120]⟩] 9)
  replace G := G.alloc (.cells #[.string ⟨#[120]⟩] 9)
  replace C1 := C1.alloc (.cells #[.string ⟨#[120]⟩] 9)
  have hs12 := S1.lt
  generalize w1.alloc (.cells #[.string ⟨#[120]⟩] 9) = w1a at S2 S1 SA1 R G C1 ⊢
  generalize w1.heap.size = s2 at S2 hw1 ⊢
  refine (dList9 B g true 1 (by omega) _ _ C1).mono ?_; rintro e w2 hr2
  obtain ⟨A2, c2, p2, U2, rfl, hp2, SA2, C2, G2⟩ := hr2.close
  clear hr2
  replace hp2 : p2.size ≤ 945 := hp2
  replace S1 := S1.gro G2
  replace S2 := S2.gro G2
  replace SA1 := SA1.gro C1 G2
  replace R := R.gro G2
  replace G := G.trans G2
  clear C1
  have C := C2
  clear C2
  have hs1l := S1.lt
  have hs2l := S2.lt
  have hRl := R.lt
  go_wp2_with fail
  have XF := Bx.new C 59 #[.string ⟨#[102]⟩, .slice (some ⟨s1, 0, none⟩) 2 2, .slice A1 p1.len c1, .string ⟨#[103]⟩, .slice (some ⟨s2, 0, none⟩) 1 1, .slice A2 p2.len c2]
  replace S1 := S1.alloc (.cells #[.string ⟨#[102]⟩, .slice (some ⟨s1, 0, none⟩) 2 2, .slice A1 p1.len c1, .string ⟨#[103]⟩, .slice (some ⟨s2, 0, none⟩) 1 1, .slice A2 p2.len c2] 59)
  replace S2 := S2.alloc (.cells #[.string ⟨#[102]⟩, .slice (some ⟨s1, 0, none⟩) 2 2, .slice A1 p1.len c1, .string ⟨#[103]⟩, .slice (some ⟨s2, 0, none⟩) 1 1, .slice A2 p2.len c2] 59)
  replace SA1 := SA1.alloc C (.cells #[.string ⟨#[102]⟩, .slice (some ⟨s1, 0, none⟩) 2 2, .slice A1 p1.len c1, .string ⟨#[103]⟩, .slice (some ⟨s2, 0, none⟩) 1 1, .slice A2 p2.len c2] 59)
  replace SA2 := SA2.alloc C (.cells #[.string ⟨#[102]⟩, .slice (some ⟨s1, 0, none⟩) 2 2, .slice A1 p1.len c1, .string ⟨#[103]⟩, .slice (some ⟨s2, 0, none⟩) 1 1, .slice A2 p2.len c2] 59)
  replace R := R.alloc (.cells #[.string ⟨#[102]⟩, .slice (some ⟨s1, 0, none⟩) 2 2, .slice A1 p1.len c1, .string ⟨#[103]⟩, .slice (some ⟨s2, 0, none⟩) 1 1, .slice A2 p2.len c2] 59)
  replace G := G.alloc (.cells #[.string ⟨#[102]⟩, .slice (some ⟨s1, 0, none⟩) 2 2, .slice A1 p1.len c1, .string ⟨#[103]⟩, .slice (some ⟨s2, 0, none⟩) 1 1, .slice A2 p2.len c2] 59)
  replace C := C.alloc (.cells #[.string ⟨#[102]⟩, .slice (some ⟨s1, 0, none⟩) 2 2, .slice A1 p1.len c1, .string ⟨#[103]⟩, .slice (some ⟨s2, 0, none⟩) 1 1, .slice A2 p2.len c2] 59)
  have hbl := XF.lt
  have hsz := alloc_size w2 (.cells #[.string ⟨#[102]⟩, .slice (some ⟨s1, 0, none⟩) 2 2, .slice A1 p1.len c1, .string ⟨#[103]⟩, .slice (some ⟨s2, 0, none⟩) 1 1, .slice A2 p2.len c2] 59)
  generalize w2.alloc (.cells #[.string ⟨#[102]⟩, .slice (some ⟨s1, 0, none⟩) 2 2, .slice A1 p1.len c1, .string ⟨#[103]⟩, .slice (some ⟨s2, 0, none⟩) 1 1, .slice A2 p2.len c2] 59) = w3 at XF S1 S2 SA1 SA2 R G C hbl hsz ⊢
  have Rb := Bx.new C 37 #[.slice none 0 0, .slice (some ⟨w2.heap.size, 0, none⟩) 2 2]
  rw [hsz] at Rb
  replace XF := XF.alloc (.cells #[.slice none 0 0, .slice (some ⟨w2.heap.size, 0, none⟩) 2 2] 37)
  replace S1 := S1.alloc (.cells #[.slice none 0 0, .slice (some ⟨w2.heap.size, 0, none⟩) 2 2] 37)
  replace S2 := S2.alloc (.cells #[.slice none 0 0, .slice (some ⟨w2.heap.size, 0, none⟩) 2 2] 37)
  replace SA1 := SA1.alloc C (.cells #[.slice none 0 0, .slice (some ⟨w2.heap.size, 0, none⟩) 2 2] 37)
  replace SA2 := SA2.alloc C (.cells #[.slice none 0 0, .slice (some ⟨w2.heap.size, 0, none⟩) 2 2] 37)
  replace R := R.alloc (.cells #[.slice none 0 0, .slice (some ⟨w2.heap.size, 0, none⟩) 2 2] 37)
  replace G := G.alloc (.cells #[.slice none 0 0, .slice (some ⟨w2.heap.size, 0, none⟩) 2 2] 37)
  replace C := C.alloc (.cells #[.slice none 0 0, .slice (some ⟨w2.heap.size, 0, none⟩) 2 2] 37)
  generalize w3.alloc (.cells #[.slice none 0 0, .slice (some ⟨w2.heap.size, 0, none⟩) 2 2] 37) = w4 at XF S1 S2 SA1 SA2 R Rb G C ⊢
  generalize hrb : w2.heap.size + 1 = rb at Rb ⊢
  generalize w2.heap.size = bf at hs1l hs2l hRl XF Rb hbl hsz hrb ⊢
  have V1 : ∀ y, y = s1 → g < y ∧ y < w4.heap.size := fun y e => by subst e; exact ⟨S1.2.2, S1.lt⟩
  have V2 : ∀ y, y = s2 → g < y ∧ y < w4.heap.size := fun y e => by subst e; exact ⟨S2.2.2, S2.lt⟩
  replace C := (C.freeze (V := fun y => y = s1) V1).freeze (V := fun y => y = s2) V2
  replace G := (G.freeze (V := fun y => y = s1) (fun y e => by subst e; omega)).freeze (V := fun y => y = s2) (fun y e => by subst e; omega)
  replace R := (R.freeze (V := fun y => y = s1) (show ¬ w.heap.size = s1 by omega)).freeze (V := fun y => y = s2) (show ¬ w.heap.size = s2 by omega)
  replace Rb := (Rb.freeze (V := fun y => y = s1) (show ¬ rb = s1 by omega)).freeze (V := fun y => y = s2) (show ¬ rb = s2 by omega)
  replace XF := (XF.freeze (V := fun y => y = s1) (show ¬ bf = s1 by omega)).freeze (V := fun y => y = s2) (show ¬ bf = s2 by omega)
  have T1 := (StrP.of_blk (P := U2) (ss := [(⟨#[97]⟩ : ByteArray), ⟨#[98]⟩]) S1.1).keep (P' := (fun y => (U2 y ∨ y = s1) ∨ y = s2)) (fun _ _ => rfl) (fun _ h => .inl h)
  have T2 := (StrP.of_blk (P := U2) (ss := [(⟨#[120]⟩ : ByteArray)]) S2.1).keep (P' := (fun y => (U2 y ∨ y = s1) ∨ y = s2)) (fun _ _ => rfl) (fun _ h => h.elim (fun h => .inl (.inl h)) .inr)
  replace SA1 := SA1.more (U' := (fun y => (U2 y ∨ y = s1) ∨ y = s2)) (fun _ h => .inl (.inl h))
  replace SA2 := SA2.more (U' := (fun y => (U2 y ∨ y = s1) ∨ y = s2)) (fun _ h => .inl (.inl h))
  have FF : FU g (fun y => (U2 y ∨ y = s1) ∨ y = s2) w4 w.heap.size rb (.slice (some ⟨bf, 0, none⟩) 2 2) [((⟨#[102]⟩ : ByteArray), [(⟨#[97]⟩ : ByteArray), ⟨#[98]⟩], p1), ((⟨#[103]⟩ : ByteArray), [(⟨#[120]⟩ : ByteArray)], p2)] [((⟨#[102]⟩ : ByteArray), Value.slice (some ⟨s1, 0, none⟩) 2 2, Value.slice A1 p1.len c1), ((⟨#[103]⟩ : ByteArray), Value.slice (some ⟨s2, 0, none⟩) 1 1, Value.slice A2 p2.len c2)] := ⟨⟨Rw.lit XF rfl (by unfold maxLen; omega) (by omega) hC.lt, fun k e => by simp [Value.ownBlock] at e; omega⟩, ((FitF.nil w4 _).cons T2 SA2 (s := ⟨#[103]⟩) (cn := 1) (ca := c2)).cons T1 SA1 (s := ⟨#[102]⟩) (cn := 2) (ca := c1), Nat.le_succ 2, fun y hy => by
      rcases List.mem_cons.1 hy with rfl | hy
      · exact ⟨Nat.le_refl 2, by show p1.size ≤ 20000; omega⟩
      · obtain rfl := List.mem_singleton.1 hy; exact ⟨Nat.le_succ 1, by show p2.size ≤ 20000; omega⟩⟩
  generalize (fun y => (U2 y ∨ y = s1) ∨ y = s2) = U3 at C G R Rb FF
  clear XF T1 T2 SA1 SA2 S1 S2 V1 V2
  refine (cBelow 3 C (by omega)).mono ?_; rintro e w5 ⟨⟨z, rfl, hz0, hz1, _⟩, C5, G5⟩
  have hz2 := hz1 (by omega)
  obtain ⟨q0, rfl⟩ := Int.eq_ofNat_of_zero_le hz0
  clear hz0 hz1
  replace R := R.gro G5
  replace Rb := Rb.gro G5
  replace FF := FF.gro C G5
  replace G := G.trans G5
  clear C
  have C := C5
  clear C5
  have ew : IntKind.i64.wrap (1 + (q0 : Int)) = ((q0 + 1 : Nat) : Int) := by rw [IntKind.wrap_i64]; omega
  have hbfr : bf < rb := by omega
  have hrw : w.heap.size < bf := by omega
  clear hsz hrb hbl hs1l hs2l hRl
  go_wp2_with fail
  go_loopw [4] (fun i wr => ∃ (q n : Nat) (vR : Value) (U1 : Nat → Prop), i = .int .i64 q ∧ q + n ≤ 3 ∧ 0 < q + n ∧ Bx g U1 wr rb 37 #[vR, .slice (some ⟨bf, 0, none⟩) 2 2] ∧ Bx g U1 wr w.heap.size 37 #[.slice none 0 0, .slice none 0 0] ∧ FU g U1 wr w.heap.size rb (.slice (some ⟨bf, 0, none⟩) 2 2) [((⟨#[102]⟩ : ByteArray), [(⟨#[97]⟩ : ByteArray), ⟨#[98]⟩], p1), ((⟨#[103]⟩ : ByteArray), [(⟨#[120]⟩ : ByteArray)], p2)] [((⟨#[102]⟩ : ByteArray), Value.slice (some ⟨s1, 0, none⟩) 2 2, Value.slice A1 p1.len c1), ((⟨#[103]⟩ : ByteArray), Value.slice (some ⟨s2, 0, none⟩) 1 1, Value.slice A2 p2.len c2)] ∧ RU g U1 wr (rb + 1) wr.heap.size vR n ∧ Cu B g U1 wr ∧ Gro g U w U1 wr) (fun i _ => (intOf i).toNat)
  case atStart => exact ⟨q0 + 1, 0, .slice none 0 0, _, rfl, by omega, by omega, Rb, R, FF, RU.start _ _ _ _ _, C, G⟩
  case round =>
    clear Rb R FF C G
    obtain ⟨q, n, vR, U1, rfl, hq3, hq1, Rb, R, FF, RR, C, G⟩ := hrel
    obtain ⟨AV, cV, rfl⟩ := RR.form
    by_cases h0 : q = 0
    · subst h0
      have hrw9 := Rb.lt
      have pc0 := Rb.cell
      have pf0 := Rb.frozen
      have pc1 := R.cell
      have pf1 := R.frozen
      go_wp2_with fail
      exact bodyPost_ret (res_cell1 rfl _ _ _ _ _ _ rfl ((R.1.set_ 0 _).set_ 1 _) Try.underlying37 (by kernel_rfl)) rfl ⟨.slice AV n cV, (.slice (some ⟨bf, 0, none⟩) 2 2), n, rb + 1, [((⟨#[102]⟩ : ByteArray), [(⟨#[97]⟩ : ByteArray), ⟨#[98]⟩], p1), ((⟨#[103]⟩ : ByteArray), [(⟨#[120]⟩ : ByteArray)], p2)], [((⟨#[102]⟩ : ByteArray), Value.slice (some ⟨s1, 0, none⟩) 2 2, Value.slice A1 p1.len c1), ((⟨#[103]⟩ : ByteArray), Value.slice (some ⟨s2, 0, none⟩) 1 1, Value.slice A2 p2.len c2)], U1, rfl, by omega, by omega, ((RR.setb (b := w.heap.size) (.inl (by omega)) R.2.1 _).setb (b := w.heap.size) (.inl (by omega)) R.2.1 _).more (hi' := ((wr.setCell ⟨w.heap.size, 0, none⟩ (.slice AV n cV)).setCell ⟨w.heap.size, 1, none⟩ (.slice (some ⟨bf, 0, none⟩) 2 2)).heap.size) (by simp), (FF.setR R (fun e => by simp [Value.ownBlock] at e; omega) _ _).mid_ (Nat.le_succ _), by omega, rfl, ((C.setb R.2.2 _).setb R.2.2 _), ((G.setb (Nat.le_refl _) _).setb (Nat.le_refl _) _)⟩
    · have hq0 : (0 : Int) < (q : Int) := by omega
      have hqw : IntKind.i64.wrap ((q : Int) - 1) = ((q - 1 : Nat) : Int) := by rw [IntKind.wrap_i64]; omega
      have hrbw := Rb.lt
      go_wp2_with fail
      refine (cInt wr.heap.size 6 [1, 2, 3, 4, 3, 4] (C.alloc _) rfl (by omega) (by omega) (Blk.new wr _ _) (by have := C.lt; omega)).mono ?_; rintro e w5 ⟨⟨k, rfl, hz⟩, C5, G5⟩
      have hk := (show ∀ z ∈ ([1, 2, 3, 4, 3, 4] : List Int), z = 1 ∨ z = 2 ∨ z = 3 ∨ z = 4 by decide) k hz
      clear hz
      have hgs5 := G5.sz
      replace RR := ((RR.alloc C _).gro (C.alloc _) G5).more (hi' := w5.heap.size) (by simp at hgs5; omega)
      replace FF := (FF.alloc C _).gro (C.alloc _) G5
      replace R := (R.alloc _).gro G5
      replace Rb := (Rb.alloc _).gro G5
      replace G := (G.alloc _).trans G5
      clear C hgs5
      have C := C5
      clear C5
      have hrr : rb < w5.heap.size := Rb.lt
      rcases hk with rfl | rfl | rfl | rfl
      · go_upto_region 6 with fail
        have Rr := Bx.new C 54 #[.int .i64 1, .int .i64 0, .int .i64 0, .string ⟨#[]⟩, .slice none 0 0, .slice none 0 0]
        replace R := R.alloc (.cells #[.int .i64 1, .int .i64 0, .int .i64 0, .string ⟨#[]⟩, .slice none 0 0, .slice none 0 0] 54)
        replace Rb := Rb.alloc (.cells #[.int .i64 1, .int .i64 0, .int .i64 0, .string ⟨#[]⟩, .slice none 0 0, .slice none 0 0] 54)
        replace FF := FF.alloc C (.cells #[.int .i64 1, .int .i64 0, .int .i64 0, .string ⟨#[]⟩, .slice none 0 0, .slice none 0 0] 54)
        replace RR := RR.alloc C (.cells #[.int .i64 1, .int .i64 0, .int .i64 0, .string ⟨#[]⟩, .slice none 0 0, .slice none 0 0] 54)
        replace G := G.alloc (.cells #[.int .i64 1, .int .i64 0, .int .i64 0, .string ⟨#[]⟩, .slice none 0 0, .slice none 0 0] 54)
        replace C := C.alloc (.cells #[.int .i64 1, .int .i64 0, .int .i64 0, .string ⟨#[]⟩, .slice none 0 0, .slice none 0 0] 54)
        generalize w5.alloc (.cells #[.int .i64 1, .int .i64 0, .int .i64 0, .string ⟨#[]⟩, .slice none 0 0, .slice none 0 0] 54) = w6 at R Rb FF RR G Rr C ⊢
        generalize w5.heap.size = rr at Rr RR hrr ⊢
        have pc0 := Rr.cell
        have pf0 := Rr.frozen
        go_wp2_with fail
        clear pc0 pf0
        have SX := SlP.nil_ (f := exprC) (U := U1) w6 none
        have HSX := Lib.hid (show (Fr.nil : Fr (Int × Int × ByteArray)).size ≤ 1000 from by decide)
        have hr6 := Rr.lt
        refine (dList9 B g false 2 (by omega) _ _ C).mono ?_; rintro e w7 ⟨vA, LA, la, U7, rfl, hsA, OA, C7, G7⟩
        have HSA := Lib.hid (show (mkSt LA).size ≤ 6000 from Nat.le_trans hsA (by decide))
        clear hsA
        replace R := R.gro G7
        replace Rb := Rb.gro G7
        replace FF := FF.gro C G7
        replace RR := RR.gro C G7
        replace G := G.trans G7
        replace Rr := Rr.gro G7
        replace SX := SX.gro C G7
        clear C
        have C := C7
        clear C7
        obtain ⟨Aa, ca, rfl⟩ := OA.form
        have hrl := Rr.lt
        have hob := fun k e => OA.1.lt k e
        have pc0 := Rr.cell
        have pf0 := Rr.frozen
        have hrb6 : rr < w6.heap.size := hr6
        go_wp2_with fail
        clear pc0 pf0
        replace R := R.far (b := rr) (j := 5) (by omega) (Value.slice Aa la.length ca)
        replace Rb := Rb.far (b := rr) (j := 5) (by omega) (Value.slice Aa la.length ca)
        replace FF := FF.setb (b := rr) (j := 5) (.inr (by omega)) Rr.2.1 (Value.slice Aa la.length ca)
        replace RR := RR.setb (b := rr) (j := 5) (.inr (by omega)) Rr.2.1 (Value.slice Aa la.length ca)
        replace G := G.setb (b := rr) (j := 5) (by omega) (Value.slice Aa la.length ca)
        replace SX := SX.setb (b := rr) (j := 5) Rr.2.1 (Value.slice Aa la.length ca)
        replace OA := OA.setb (b := rr) (j := 5) (OA.not (.inl (by omega))) Rr.2.1 (Value.slice Aa la.length ca)
        replace C := C.setb (b := rr) (j := 5) Rr.2.2 (Value.slice Aa la.length ca)
        replace Rr := Rr.set_ 5 (Value.slice Aa la.length ca)
        simp only [List.setIfInBounds_toArray, List.set_cons_succ, List.set_cons_zero] at Rr
        obtain ⟨Ac, cc, ec, SA, CA⟩ := OA.close C
        replace R := R.freeze (V := fun b => (Value.slice Aa la.length ca).ownBlock = some b) (fun e => by have := (hob _ e).1; omega)
        replace Rb := Rb.freeze (V := fun b => (Value.slice Aa la.length ca).ownBlock = some b) (fun e => by have := (hob _ e).1; omega)
        replace Rr := Rr.freeze (V := fun b => (Value.slice Aa la.length ca).ownBlock = some b) (fun e => by have := (hob _ e).1; omega)
        replace G := G.freeze (V := fun b => (Value.slice Aa la.length ca).ownBlock = some b) (fun b e => by have := (hob _ e).1; omega)
        replace FF : FU g (fun b => U7 b ∨ (Value.slice Aa la.length ca).ownBlock = some b) _ w.heap.size rb (.slice (some ⟨bf, 0, none⟩) 2 2) _ _ := ⟨⟨FF.1.1.freeze (fun b e e2 => by have := FF.1.2 b e; have := (hob b e2).1; omega), FF.1.2⟩, FF.2.1.more (fun _ h => .inl h), FF.2.2⟩
        replace SX := SX.more (U' := fun b => U7 b ∨ (Value.slice Aa la.length ca).ownBlock = some b) (fun _ h => .inl h)
        replace RR := RR.freeze (V := fun b => (Value.slice Aa la.length ca).ownBlock = some b) (fun b e => by have := (hob b e).1; omega)
        clear C
        have C := CA
        clear CA
        generalize w7.setCell ⟨rr, 5, none⟩ (Value.slice Aa la.length ca) = w8 at R Rb FF RR G Rr C SX SA OA ⊢
        generalize hUU : (fun b => U7 b ∨ (Value.slice Aa la.length ca).ownBlock = some b) = U8 at R Rb FF RR G Rr C SX SA
        rw [ec] at Rr ⊢
        clear OA hob hUU ec
        have hr8 := Rr.lt
        refine (dNoNext B g (mkSt LA).size (mkSt LA) (Nat.le_refl _) (by have := HSA.out; omega) Ac cc _ _ C SA).mono ?_; rintro e w9a ⟨vN, LN, ln, U9, rfl, hsN, ON, C9a, G9a⟩
        have HSN := Lib.hid (show (mkSt LN).size ≤ 20000 by have := HSA.out; omega)
        clear hsN SA HSA
        replace R := R.gro G9a
        replace Rb := Rb.gro G9a
        replace FF := FF.gro C G9a
        replace RR := RR.gro C G9a
        replace G := G.trans G9a
        replace Rr := Rr.gro G9a
        replace SX := SX.gro C G9a
        clear C
        have C := C9a
        clear C9a
        obtain ⟨An, cn, rfl⟩ := ON.form
        have HSA := HSN
        have OA := ON
        clear ON HSN
        have hob := fun k e => OA.1.lt k e
        have pc0 := Rr.cell
        have pf0 := Rr.frozen
        go_upto_region 11 with fail
        clear pc0 pf0
        replace R := R.far (b := rr) (j := 5) (by omega) (Value.slice An ln.length cn)
        replace Rb := Rb.far (b := rr) (j := 5) (by omega) (Value.slice An ln.length cn)
        replace FF := FF.setb (b := rr) (j := 5) (.inr (by omega)) Rr.2.1 (Value.slice An ln.length cn)
        replace RR := RR.setb (b := rr) (j := 5) (.inr (by omega)) Rr.2.1 (Value.slice An ln.length cn)
        replace G := G.setb (b := rr) (j := 5) (by omega) (Value.slice An ln.length cn)
        replace SX := SX.setb (b := rr) (j := 5) Rr.2.1 (Value.slice An ln.length cn)
        replace OA := OA.setb (b := rr) (j := 5) (OA.not (.inl (by omega))) Rr.2.1 (Value.slice An ln.length cn)
        replace C := C.setb (b := rr) (j := 5) Rr.2.2 (Value.slice An ln.length cn)
        replace Rr := Rr.set_ 5 (Value.slice An ln.length cn)
        simp only [List.setIfInBounds_toArray, List.set_cons_succ, List.set_cons_zero] at Rr
        generalize w9a.setCell ⟨rr, 5, none⟩ (Value.slice An ln.length cn) = wq at R Rb FF RR G Rr C SX OA ⊢
        have hwq := hr8
        rcases RR with ⟨rfl, eV⟩ | ⟨k0, a0, x0, X0, cx0, v0, LA0, la0, Lr, lr, rfl, ⟨hRw, hRh⟩, S0, ⟨O0, h0h⟩, FR, hd0, hx0, hA0, hLr⟩
        · injection eV with eA _ eC
          subst eA eC
          have hrbq := Rb.lt
          have pc0 := Rb.cell
          have pf0 := Rb.frozen
          have pc1 := Rr.cell
          go_wp2_with (at_builtin; refine wpList_pushB rfl _ _ 34 rfl (rb + 1) 54 j0 (.agg #[.int .i64 0, .int .i64 0, .int .i64 0, .string ⟨#[]⟩, .slice none 0 0, .slice none 0 0]) 6 88 Try.underlying34 hj hy0 hy1 hy2 rfl (by decide) (Value.slice none 0 0) 0 [] rfl (World.ownsRow_nil _ _ _ _) [.int .i64 1, .int .i64 0, .int .i64 0, .string ⟨#[]⟩, .slice none (Fr.nil : Fr (Int × Int × ByteArray)).len 0, (Value.slice An ln.length cn)] rfl rfl rfl (by omega) (by omega) (by omega) ?_)
          intro v' w9 hO9 hg9 hv9
          clear pc0 pf0 pc1
          obtain ⟨A9, c9, rfl⟩ := (Row.mk hO9).form
          have hno : ∀ k, (Value.slice none 0 0).ownBlock = some k → False := fun k e => (by simp [Value.ownBlock] at e)
          have R9 := R.row hg9 (fun e => hno _ e.symm)
          have Rb9 := Rb.row hg9 (fun e => hno _ e.symm)
          have FF9 := FF.row C hg9 (fun k e => (hno k e).elim) (fun k e => (hno k e).elim)
          have SX9 := SX.row C hg9 (fun k e => (hno k e).elim)
          have OA9 := OA.row C hg9 (fun k e => (hno k e).elim) (fun k e h => hno k h)
          have hOl := fun k e => OA.1.lt k e
          have G9 := G.row hg9 (fun k e => (hno k e).elim)
          have C9 := C.row hg9 (fun k e => (hno k e).elim)
          have O9 := (Rw.nil (U := U9) (w := wq) (e := 54) (size := 6) (show g < rb + 1 by have := Rb.2.2; omega)).push C hO9 hv9
          have hgs9 := hg9.size
          have hv9' : ∀ k, (Value.slice A9 (0 + 1) c9).ownBlock = some k → wq.heap.size < k := fun k e => by
            rcases hv9 with h7 | ⟨k7, h7, h8⟩
            · rw [h7] at e; exact (hno k e).elim
            · rw [h7] at e; injection e with e; omega
          have RR9 : RU g U9 w9 (rb + 1) w9.heap.size (Value.slice A9 (0 + 1) c9) 1 := .inr ⟨1, ((0 : Int), (0 : Int), (⟨#[]⟩ : ByteArray)), (Fr.nil : Fr (Int × Int × ByteArray)), none, 0, (Value.slice An ln.length cn), LN, ln, [], [], rfl, ⟨O9, fun k e => (O9.lt k e).2⟩, SX9, ⟨OA9.base_ (by omega) (by have := Rb.2.2; omega), fun k e => (OA9.1.lt k e).2⟩, FitR.nil _ _, fun j e e2 => by have := hv9' _ e2; have := (hOl _ e).2; omega, HSX.out, HSA.out, fun y hy => (by cases hy)⟩
          have hrb9 := Rb9.lt
          have pc0 := Rb9.cell
          have pf0 := Rb9.frozen
          go_wp2_with fail
          clear pc0 pf0
          have H := Rb9.set_ 0 (Value.slice A9 (0 + 1) c9)
          simp only [List.setIfInBounds_toArray, List.set_cons_zero] at H
          go_roundw
          case rel => exact ⟨q - 1, 1, _, _, by go_num, by omega, by omega, H, R9.far (b := rb) (j := 0) (by omega) (Value.slice A9 (0 + 1) c9), (FF9.setb (b := rb) (j := 0) (.inr (Nat.le_refl _)) Rb9.2.1 (Value.slice A9 (0 + 1) c9)), (RR9.setb (b := rb) (j := 0) (.inl (by omega)) Rb9.2.1 (Value.slice A9 (0 + 1) c9)).more (hi' := (w9.setCell ⟨rb, 0, none⟩ (Value.slice A9 (0 + 1) c9)).heap.size) (by simp), C9.setb (b := rb) (j := 0) Rb9.2.2 (Value.slice A9 (0 + 1) c9), G9.setb (b := rb) (j := 0) (by omega) (Value.slice A9 (0 + 1) c9)⟩
          case measure => (simp [intOf] <;> omega)
        · have hrbq := Rb.lt
          have pc0 := Rb.cell
          have pf0 := Rb.frozen
          have pc1 := Rr.cell
          obtain ⟨Ac, cc, ec, SA, CA⟩ := OA.close C
          have EC := Lib.hid ec
          clear ec
          have hOl := fun k e => OA.1.lt k e
          have hnR : ¬ (Value.slice An ln.length cn).ownBlock = some w.heap.size := fun e => by have := (hOl _ e).1; omega
          have hnb : ¬ (Value.slice An ln.length cn).ownBlock = some rb := fun e => by have := (hOl _ e).1; omega
          replace R := R.freeze (V := fun b => (Value.slice An ln.length cn).ownBlock = some b) hnR
          replace Rb := Rb.freeze (V := fun b => (Value.slice An ln.length cn).ownBlock = some b) hnb
          replace G := G.freeze (V := fun b => (Value.slice An ln.length cn).ownBlock = some b) (fun b e => by have := (hOl _ e).1; omega)
          replace FF : FU g (fun b => U9 b ∨ (Value.slice An ln.length cn).ownBlock = some b) wq w.heap.size rb (.slice (some ⟨bf, 0, none⟩) 2 2) _ _ := ⟨⟨FF.1.1.freeze (fun b e e2 => by have := FF.1.2 b e; have := (hOl b e2).1; omega), FF.1.2⟩, FF.2.1.more (fun _ h => .inl h), FF.2.2⟩
          replace SX := SX.more (U' := fun b => U9 b ∨ (Value.slice An ln.length cn).ownBlock = some b) (fun _ h => .inl h)
          replace hRw := hRw.freeze (V := fun b => (Value.slice An ln.length cn).ownBlock = some b) (fun b e e2 => by have := hRh b e; have := (hOl b e2).1; omega)
          replace S0 := S0.more (U' := fun b => U9 b ∨ (Value.slice An ln.length cn).ownBlock = some b) (fun _ h => .inl h)
          replace FR := FR.more (U' := fun b => U9 b ∨ (Value.slice An ln.length cn).ownBlock = some b) (fun _ h => .inl h)
          replace O0 : RA g (fun b => U9 b ∨ (Value.slice An ln.length cn).ownBlock = some b) wq (rb + 1) v0 LA0 la0 := ⟨O0.1.freeze (fun b e e2 => by have := h0h b e; have := (hOl b e2).1; omega), O0.2.more (fun _ h => .inl h)⟩
          clear C
          have C := CA
          clear CA
          obtain ⟨vAA, hvAA⟩ : ∃ vAA, vAA = (Value.slice An ln.length cn) := ⟨_, rfl⟩
          go_wp2_with (at_builtin; refine wpList_pushB rfl _ _ 34 rfl (rb + 1) 54 j0 (.agg #[.int .i64 0, .int .i64 0, .int .i64 0, .string ⟨#[]⟩, .slice none 0 0, .slice none 0 0]) 6 88 Try.underlying34 hj hy0 hy1 hy2 rfl (by decide) (Value.slice AV (lr.length + 1) cV) _ _ rfl hRw.1 [.int .i64 1, .int .i64 0, .int .i64 0, .string ⟨#[]⟩, .slice none (Fr.nil : Fr (Int × Int × ByteArray)).len 0, (Value.slice An ln.length cn)] rfl rfl rfl (by omega) (by omega) (by omega) ?_)
          intro v' w9 hO9 hg9 hv9
          clear pc0 pf0 pc1
          obtain ⟨A9, c9, rfl⟩ := (Row.mk hO9).form
          have hb9 := fun k e => hRw.lt k e
          have hu9 := hRw.2.1
          have R9 := R.row hg9 (fun e => by have := hb9 _ e.symm; omega)
          have Rb9 := Rb.row hg9 (fun e => by have := hb9 _ e.symm; omega)
          have FF9 := FF.row C hg9 hu9 (fun k e => by have := hb9 k e; omega)
          have SX9 := SX.row C hg9 hu9
          have SA9 := SA.row C hg9 hu9
          have S09 := S0.row C hg9 hu9
          have O09 := O0.row C hg9 hu9 (fun k e h => hd0 k e h)
          have FR9 := FR.row C hg9 hu9
          have G9 := G.row hg9 (fun k e => by have := hb9 k e; omega)
          have C9 := C.row hg9 (fun k e => by have := hb9 k e; have := hC.lt; omega)
          have O9 := hRw.push C hO9 hv9
          have hgs9 := hg9.size
          have e9 : flat rlC ((k0, a0, Value.slice X0 x0.len cx0, v0) :: lr) ++ [.int .i64 1, .int .i64 0, .int .i64 0, .string ⟨#[]⟩, .slice none (Fr.nil : Fr (Int × Int × ByteArray)).len 0, (Value.slice An ln.length cn)] = flat rlC ((k0, a0, Value.slice X0 x0.len cx0, v0) :: (lr ++ [(1, ((0 : Int), (0 : Int), (⟨#[]⟩ : ByteArray)), Value.slice none (Fr.nil : Fr (Int × Int × ByteArray)).len 0, Value.slice Ac (mkSt LN).len cc)])) := by rw [EC.out, ← List.cons_append, ← flat_snoc]; rfl
          rw [e9] at O9
          have h0l := fun k e => (O09.1.lt k e).2
          have RR9 : RU g (fun b => U9 b ∨ (Value.slice An ln.length cn).ownBlock = some b) w9 (rb + 1) w9.heap.size (Value.slice A9 (lr.length + 1 + 1) c9) (lr.length + 1 + 1) := .inr ⟨k0, a0, x0, X0, cx0, v0, LA0, la0, Lr ++ [(1, ((0 : Int), (0 : Int), (⟨#[]⟩ : ByteArray)), (Fr.nil : Fr (Int × Int × ByteArray)), mkSt LN)], _, by rw [List.length_append]; rfl, ⟨O9, fun k e => (O9.lt k e).2⟩, S09, ⟨O09, h0l⟩, FR9.snoc SX9 SA9, fun j e e2 => by
              rcases hv9 with h7 | ⟨k7, h7, h8⟩
              · exact hd0 j e (h7 ▸ e2)
              · rw [h7] at e2; injection e2 with e2; have := (O0.1.lt j e).2; omega
            , hx0, hA0, fun y hy => by rcases List.mem_append.1 hy with h | h; exact hLr y h; (rw [List.mem_singleton.1 h]; exact ⟨HSX.out, HSA.out⟩)⟩
          have hrb9 := Rb9.lt
          have pc0 := Rb9.cell
          have pf0 := Rb9.frozen
          go_wp2_with fail
          clear pc0 pf0
          have H := Rb9.set_ 0 (Value.slice A9 (lr.length + 1 + 1) c9)
          simp only [List.setIfInBounds_toArray, List.set_cons_zero] at H
          go_roundw
          case rel => exact ⟨q - 1, (lr.length + 1 + 1), _, _, by go_num, by omega, by omega, H, R9.far (b := rb) (j := 0) (by omega) (Value.slice A9 (lr.length + 1 + 1) c9), (FF9.setb (b := rb) (j := 0) (.inr (Nat.le_refl _)) Rb9.2.1 (Value.slice A9 (lr.length + 1 + 1) c9)), (RR9.setb (b := rb) (j := 0) (.inl (by omega)) Rb9.2.1 (Value.slice A9 (lr.length + 1 + 1) c9)).more (hi' := (w9.setCell ⟨rb, 0, none⟩ (Value.slice A9 (lr.length + 1 + 1) c9)).heap.size) (by simp), C9.setb (b := rb) (j := 0) Rb9.2.2 (Value.slice A9 (lr.length + 1 + 1) c9), G9.setb (b := rb) (j := 0) (by omega) (Value.slice A9 (lr.length + 1 + 1) c9)⟩
          case measure => (simp [intOf] <;> omega)
      · go_upto_region 6 with fail
        have Rr := Bx.new C 54 #[.int .i64 2, .int .i64 0, .int .i64 0, .string ⟨#[]⟩, .slice none 0 0, .slice none 0 0]
        replace R := R.alloc (.cells #[.int .i64 2, .int .i64 0, .int .i64 0, .string ⟨#[]⟩, .slice none 0 0, .slice none 0 0] 54)
        replace Rb := Rb.alloc (.cells #[.int .i64 2, .int .i64 0, .int .i64 0, .string ⟨#[]⟩, .slice none 0 0, .slice none 0 0] 54)
        replace FF := FF.alloc C (.cells #[.int .i64 2, .int .i64 0, .int .i64 0, .string ⟨#[]⟩, .slice none 0 0, .slice none 0 0] 54)
        replace RR := RR.alloc C (.cells #[.int .i64 2, .int .i64 0, .int .i64 0, .string ⟨#[]⟩, .slice none 0 0, .slice none 0 0] 54)
        replace G := G.alloc (.cells #[.int .i64 2, .int .i64 0, .int .i64 0, .string ⟨#[]⟩, .slice none 0 0, .slice none 0 0] 54)
        replace C := C.alloc (.cells #[.int .i64 2, .int .i64 0, .int .i64 0, .string ⟨#[]⟩, .slice none 0 0, .slice none 0 0] 54)
        generalize w5.alloc (.cells #[.int .i64 2, .int .i64 0, .int .i64 0, .string ⟨#[]⟩, .slice none 0 0, .slice none 0 0] 54) = w6 at R Rb FF RR G Rr C ⊢
        generalize w5.heap.size = rr at Rr RR hrr ⊢
        have pc0 := Rr.cell
        have pf0 := Rr.frozen
        go_wp2_with fail
        clear pc0 pf0
        have SX := SlP.nil_ (f := exprC) (U := U1) w6 none
        have HSX := Lib.hid (show (Fr.nil : Fr (Int × Int × ByteArray)).size ≤ 1000 from by decide)
        have hr6 := Rr.lt
        refine (dList9 B g false 2 (by omega) _ _ C).mono ?_; rintro e w7 ⟨vA, LA, la, U7, rfl, hsA, OA, C7, G7⟩
        have HSA := Lib.hid (show (mkSt LA).size ≤ 6000 from Nat.le_trans hsA (by decide))
        clear hsA
        replace R := R.gro G7
        replace Rb := Rb.gro G7
        replace FF := FF.gro C G7
        replace RR := RR.gro C G7
        replace G := G.trans G7
        replace Rr := Rr.gro G7
        replace SX := SX.gro C G7
        clear C
        have C := C7
        clear C7
        obtain ⟨Aa, ca, rfl⟩ := OA.form
        have hrl := Rr.lt
        have hob := fun k e => OA.1.lt k e
        have pc0 := Rr.cell
        have pf0 := Rr.frozen
        have hrb6 : rr < w6.heap.size := hr6
        go_wp2_with fail
        clear pc0 pf0
        replace R := R.far (b := rr) (j := 5) (by omega) (Value.slice Aa la.length ca)
        replace Rb := Rb.far (b := rr) (j := 5) (by omega) (Value.slice Aa la.length ca)
        replace FF := FF.setb (b := rr) (j := 5) (.inr (by omega)) Rr.2.1 (Value.slice Aa la.length ca)
        replace RR := RR.setb (b := rr) (j := 5) (.inr (by omega)) Rr.2.1 (Value.slice Aa la.length ca)
        replace G := G.setb (b := rr) (j := 5) (by omega) (Value.slice Aa la.length ca)
        replace SX := SX.setb (b := rr) (j := 5) Rr.2.1 (Value.slice Aa la.length ca)
        replace OA := OA.setb (b := rr) (j := 5) (OA.not (.inl (by omega))) Rr.2.1 (Value.slice Aa la.length ca)
        replace C := C.setb (b := rr) (j := 5) Rr.2.2 (Value.slice Aa la.length ca)
        replace Rr := Rr.set_ 5 (Value.slice Aa la.length ca)
        simp only [List.setIfInBounds_toArray, List.set_cons_succ, List.set_cons_zero] at Rr
        obtain ⟨Ac, cc, ec, SA, CA⟩ := OA.close C
        replace R := R.freeze (V := fun b => (Value.slice Aa la.length ca).ownBlock = some b) (fun e => by have := (hob _ e).1; omega)
        replace Rb := Rb.freeze (V := fun b => (Value.slice Aa la.length ca).ownBlock = some b) (fun e => by have := (hob _ e).1; omega)
        replace Rr := Rr.freeze (V := fun b => (Value.slice Aa la.length ca).ownBlock = some b) (fun e => by have := (hob _ e).1; omega)
        replace G := G.freeze (V := fun b => (Value.slice Aa la.length ca).ownBlock = some b) (fun b e => by have := (hob _ e).1; omega)
        replace FF : FU g (fun b => U7 b ∨ (Value.slice Aa la.length ca).ownBlock = some b) _ w.heap.size rb (.slice (some ⟨bf, 0, none⟩) 2 2) _ _ := ⟨⟨FF.1.1.freeze (fun b e e2 => by have := FF.1.2 b e; have := (hob b e2).1; omega), FF.1.2⟩, FF.2.1.more (fun _ h => .inl h), FF.2.2⟩
        replace SX := SX.more (U' := fun b => U7 b ∨ (Value.slice Aa la.length ca).ownBlock = some b) (fun _ h => .inl h)
        replace RR := RR.freeze (V := fun b => (Value.slice Aa la.length ca).ownBlock = some b) (fun b e => by have := (hob b e).1; omega)
        clear C
        have C := CA
        clear CA
        generalize w7.setCell ⟨rr, 5, none⟩ (Value.slice Aa la.length ca) = w8 at R Rb FF RR G Rr C SX SA OA ⊢
        generalize hUU : (fun b => U7 b ∨ (Value.slice Aa la.length ca).ownBlock = some b) = U8 at R Rb FF RR G Rr C SX SA
        rw [ec] at Rr ⊢
        clear OA hob hUU ec
        have hr8 := Rr.lt
        refine (dNoNext B g (mkSt LA).size (mkSt LA) (Nat.le_refl _) (by have := HSA.out; omega) Ac cc _ _ C SA).mono ?_; rintro e w9a ⟨vN, LN, ln, U9, rfl, hsN, ON, C9a, G9a⟩
        have HSN := Lib.hid (show (mkSt LN).size ≤ 20000 by have := HSA.out; omega)
        clear hsN SA HSA
        replace R := R.gro G9a
        replace Rb := Rb.gro G9a
        replace FF := FF.gro C G9a
        replace RR := RR.gro C G9a
        replace G := G.trans G9a
        replace Rr := Rr.gro G9a
        replace SX := SX.gro C G9a
        clear C
        have C := C9a
        clear C9a
        obtain ⟨An, cn, rfl⟩ := ON.form
        have HSA := HSN
        have OA := ON
        clear ON HSN
        have hob := fun k e => OA.1.lt k e
        have pc0 := Rr.cell
        have pf0 := Rr.frozen
        go_upto_region 11 with fail
        clear pc0 pf0
        replace R := R.far (b := rr) (j := 5) (by omega) (Value.slice An ln.length cn)
        replace Rb := Rb.far (b := rr) (j := 5) (by omega) (Value.slice An ln.length cn)
        replace FF := FF.setb (b := rr) (j := 5) (.inr (by omega)) Rr.2.1 (Value.slice An ln.length cn)
        replace RR := RR.setb (b := rr) (j := 5) (.inr (by omega)) Rr.2.1 (Value.slice An ln.length cn)
        replace G := G.setb (b := rr) (j := 5) (by omega) (Value.slice An ln.length cn)
        replace SX := SX.setb (b := rr) (j := 5) Rr.2.1 (Value.slice An ln.length cn)
        replace OA := OA.setb (b := rr) (j := 5) (OA.not (.inl (by omega))) Rr.2.1 (Value.slice An ln.length cn)
        replace C := C.setb (b := rr) (j := 5) Rr.2.2 (Value.slice An ln.length cn)
        replace Rr := Rr.set_ 5 (Value.slice An ln.length cn)
        simp only [List.setIfInBounds_toArray, List.set_cons_succ, List.set_cons_zero] at Rr
        generalize w9a.setCell ⟨rr, 5, none⟩ (Value.slice An ln.length cn) = wq at R Rb FF RR G Rr C SX OA ⊢
        have hwq := hr8
        rcases RR with ⟨rfl, eV⟩ | ⟨k0, a0, x0, X0, cx0, v0, LA0, la0, Lr, lr, rfl, ⟨hRw, hRh⟩, S0, ⟨O0, h0h⟩, FR, hd0, hx0, hA0, hLr⟩
        · injection eV with eA _ eC
          subst eA eC
          have hrbq := Rb.lt
          have pc0 := Rb.cell
          have pf0 := Rb.frozen
          have pc1 := Rr.cell
          go_wp2_with (at_builtin; refine wpList_pushB rfl _ _ 34 rfl (rb + 1) 54 j0 (.agg #[.int .i64 0, .int .i64 0, .int .i64 0, .string ⟨#[]⟩, .slice none 0 0, .slice none 0 0]) 6 88 Try.underlying34 hj hy0 hy1 hy2 rfl (by decide) (Value.slice none 0 0) 0 [] rfl (World.ownsRow_nil _ _ _ _) [.int .i64 2, .int .i64 0, .int .i64 0, .string ⟨#[]⟩, .slice none (Fr.nil : Fr (Int × Int × ByteArray)).len 0, (Value.slice An ln.length cn)] rfl rfl rfl (by omega) (by omega) (by omega) ?_)
          intro v' w9 hO9 hg9 hv9
          clear pc0 pf0 pc1
          obtain ⟨A9, c9, rfl⟩ := (Row.mk hO9).form
          have hno : ∀ k, (Value.slice none 0 0).ownBlock = some k → False := fun k e => (by simp [Value.ownBlock] at e)
          have R9 := R.row hg9 (fun e => hno _ e.symm)
          have Rb9 := Rb.row hg9 (fun e => hno _ e.symm)
          have FF9 := FF.row C hg9 (fun k e => (hno k e).elim) (fun k e => (hno k e).elim)
          have SX9 := SX.row C hg9 (fun k e => (hno k e).elim)
          have OA9 := OA.row C hg9 (fun k e => (hno k e).elim) (fun k e h => hno k h)
          have hOl := fun k e => OA.1.lt k e
          have G9 := G.row hg9 (fun k e => (hno k e).elim)
          have C9 := C.row hg9 (fun k e => (hno k e).elim)
          have O9 := (Rw.nil (U := U9) (w := wq) (e := 54) (size := 6) (show g < rb + 1 by have := Rb.2.2; omega)).push C hO9 hv9
          have hgs9 := hg9.size
          have hv9' : ∀ k, (Value.slice A9 (0 + 1) c9).ownBlock = some k → wq.heap.size < k := fun k e => by
            rcases hv9 with h7 | ⟨k7, h7, h8⟩
            · rw [h7] at e; exact (hno k e).elim
            · rw [h7] at e; injection e with e; omega
          have RR9 : RU g U9 w9 (rb + 1) w9.heap.size (Value.slice A9 (0 + 1) c9) 1 := .inr ⟨2, ((0 : Int), (0 : Int), (⟨#[]⟩ : ByteArray)), (Fr.nil : Fr (Int × Int × ByteArray)), none, 0, (Value.slice An ln.length cn), LN, ln, [], [], rfl, ⟨O9, fun k e => (O9.lt k e).2⟩, SX9, ⟨OA9.base_ (by omega) (by have := Rb.2.2; omega), fun k e => (OA9.1.lt k e).2⟩, FitR.nil _ _, fun j e e2 => by have := hv9' _ e2; have := (hOl _ e).2; omega, HSX.out, HSA.out, fun y hy => (by cases hy)⟩
          have hrb9 := Rb9.lt
          have pc0 := Rb9.cell
          have pf0 := Rb9.frozen
          go_wp2_with fail
          clear pc0 pf0
          have H := Rb9.set_ 0 (Value.slice A9 (0 + 1) c9)
          simp only [List.setIfInBounds_toArray, List.set_cons_zero] at H
          go_roundw
          case rel => exact ⟨q - 1, 1, _, _, by go_num, by omega, by omega, H, R9.far (b := rb) (j := 0) (by omega) (Value.slice A9 (0 + 1) c9), (FF9.setb (b := rb) (j := 0) (.inr (Nat.le_refl _)) Rb9.2.1 (Value.slice A9 (0 + 1) c9)), (RR9.setb (b := rb) (j := 0) (.inl (by omega)) Rb9.2.1 (Value.slice A9 (0 + 1) c9)).more (hi' := (w9.setCell ⟨rb, 0, none⟩ (Value.slice A9 (0 + 1) c9)).heap.size) (by simp), C9.setb (b := rb) (j := 0) Rb9.2.2 (Value.slice A9 (0 + 1) c9), G9.setb (b := rb) (j := 0) (by omega) (Value.slice A9 (0 + 1) c9)⟩
          case measure => (simp [intOf] <;> omega)
        · have hrbq := Rb.lt
          have pc0 := Rb.cell
          have pf0 := Rb.frozen
          have pc1 := Rr.cell
          obtain ⟨Ac, cc, ec, SA, CA⟩ := OA.close C
          have EC := Lib.hid ec
          clear ec
          have hOl := fun k e => OA.1.lt k e
          have hnR : ¬ (Value.slice An ln.length cn).ownBlock = some w.heap.size := fun e => by have := (hOl _ e).1; omega
          have hnb : ¬ (Value.slice An ln.length cn).ownBlock = some rb := fun e => by have := (hOl _ e).1; omega
          replace R := R.freeze (V := fun b => (Value.slice An ln.length cn).ownBlock = some b) hnR
          replace Rb := Rb.freeze (V := fun b => (Value.slice An ln.length cn).ownBlock = some b) hnb
          replace G := G.freeze (V := fun b => (Value.slice An ln.length cn).ownBlock = some b) (fun b e => by have := (hOl _ e).1; omega)
          replace FF : FU g (fun b => U9 b ∨ (Value.slice An ln.length cn).ownBlock = some b) wq w.heap.size rb (.slice (some ⟨bf, 0, none⟩) 2 2) _ _ := ⟨⟨FF.1.1.freeze (fun b e e2 => by have := FF.1.2 b e; have := (hOl b e2).1; omega), FF.1.2⟩, FF.2.1.more (fun _ h => .inl h), FF.2.2⟩
          replace SX := SX.more (U' := fun b => U9 b ∨ (Value.slice An ln.length cn).ownBlock = some b) (fun _ h => .inl h)
          replace hRw := hRw.freeze (V := fun b => (Value.slice An ln.length cn).ownBlock = some b) (fun b e e2 => by have := hRh b e; have := (hOl b e2).1; omega)
          replace S0 := S0.more (U' := fun b => U9 b ∨ (Value.slice An ln.length cn).ownBlock = some b) (fun _ h => .inl h)
          replace FR := FR.more (U' := fun b => U9 b ∨ (Value.slice An ln.length cn).ownBlock = some b) (fun _ h => .inl h)
          replace O0 : RA g (fun b => U9 b ∨ (Value.slice An ln.length cn).ownBlock = some b) wq (rb + 1) v0 LA0 la0 := ⟨O0.1.freeze (fun b e e2 => by have := h0h b e; have := (hOl b e2).1; omega), O0.2.more (fun _ h => .inl h)⟩
          clear C
          have C := CA
          clear CA
          obtain ⟨vAA, hvAA⟩ : ∃ vAA, vAA = (Value.slice An ln.length cn) := ⟨_, rfl⟩
          go_wp2_with (at_builtin; refine wpList_pushB rfl _ _ 34 rfl (rb + 1) 54 j0 (.agg #[.int .i64 0, .int .i64 0, .int .i64 0, .string ⟨#[]⟩, .slice none 0 0, .slice none 0 0]) 6 88 Try.underlying34 hj hy0 hy1 hy2 rfl (by decide) (Value.slice AV (lr.length + 1) cV) _ _ rfl hRw.1 [.int .i64 2, .int .i64 0, .int .i64 0, .string ⟨#[]⟩, .slice none (Fr.nil : Fr (Int × Int × ByteArray)).len 0, (Value.slice An ln.length cn)] rfl rfl rfl (by omega) (by omega) (by omega) ?_)
          intro v' w9 hO9 hg9 hv9
          clear pc0 pf0 pc1
          obtain ⟨A9, c9, rfl⟩ := (Row.mk hO9).form
          have hb9 := fun k e => hRw.lt k e
          have hu9 := hRw.2.1
          have R9 := R.row hg9 (fun e => by have := hb9 _ e.symm; omega)
          have Rb9 := Rb.row hg9 (fun e => by have := hb9 _ e.symm; omega)
          have FF9 := FF.row C hg9 hu9 (fun k e => by have := hb9 k e; omega)
          have SX9 := SX.row C hg9 hu9
          have SA9 := SA.row C hg9 hu9
          have S09 := S0.row C hg9 hu9
          have O09 := O0.row C hg9 hu9 (fun k e h => hd0 k e h)
          have FR9 := FR.row C hg9 hu9
          have G9 := G.row hg9 (fun k e => by have := hb9 k e; omega)
          have C9 := C.row hg9 (fun k e => by have := hb9 k e; have := hC.lt; omega)
          have O9 := hRw.push C hO9 hv9
          have hgs9 := hg9.size
          have e9 : flat rlC ((k0, a0, Value.slice X0 x0.len cx0, v0) :: lr) ++ [.int .i64 2, .int .i64 0, .int .i64 0, .string ⟨#[]⟩, .slice none (Fr.nil : Fr (Int × Int × ByteArray)).len 0, (Value.slice An ln.length cn)] = flat rlC ((k0, a0, Value.slice X0 x0.len cx0, v0) :: (lr ++ [(2, ((0 : Int), (0 : Int), (⟨#[]⟩ : ByteArray)), Value.slice none (Fr.nil : Fr (Int × Int × ByteArray)).len 0, Value.slice Ac (mkSt LN).len cc)])) := by rw [EC.out, ← List.cons_append, ← flat_snoc]; rfl
          rw [e9] at O9
          have h0l := fun k e => (O09.1.lt k e).2
          have RR9 : RU g (fun b => U9 b ∨ (Value.slice An ln.length cn).ownBlock = some b) w9 (rb + 1) w9.heap.size (Value.slice A9 (lr.length + 1 + 1) c9) (lr.length + 1 + 1) := .inr ⟨k0, a0, x0, X0, cx0, v0, LA0, la0, Lr ++ [(2, ((0 : Int), (0 : Int), (⟨#[]⟩ : ByteArray)), (Fr.nil : Fr (Int × Int × ByteArray)), mkSt LN)], _, by rw [List.length_append]; rfl, ⟨O9, fun k e => (O9.lt k e).2⟩, S09, ⟨O09, h0l⟩, FR9.snoc SX9 SA9, fun j e e2 => by
              rcases hv9 with h7 | ⟨k7, h7, h8⟩
              · exact hd0 j e (h7 ▸ e2)
              · rw [h7] at e2; injection e2 with e2; have := (O0.1.lt j e).2; omega
            , hx0, hA0, fun y hy => by rcases List.mem_append.1 hy with h | h; exact hLr y h; (rw [List.mem_singleton.1 h]; exact ⟨HSX.out, HSA.out⟩)⟩
          have hrb9 := Rb9.lt
          have pc0 := Rb9.cell
          have pf0 := Rb9.frozen
          go_wp2_with fail
          clear pc0 pf0
          have H := Rb9.set_ 0 (Value.slice A9 (lr.length + 1 + 1) c9)
          simp only [List.setIfInBounds_toArray, List.set_cons_zero] at H
          go_roundw
          case rel => exact ⟨q - 1, (lr.length + 1 + 1), _, _, by go_num, by omega, by omega, H, R9.far (b := rb) (j := 0) (by omega) (Value.slice A9 (lr.length + 1 + 1) c9), (FF9.setb (b := rb) (j := 0) (.inr (Nat.le_refl _)) Rb9.2.1 (Value.slice A9 (lr.length + 1 + 1) c9)), (RR9.setb (b := rb) (j := 0) (.inl (by omega)) Rb9.2.1 (Value.slice A9 (lr.length + 1 + 1) c9)).more (hi' := (w9.setCell ⟨rb, 0, none⟩ (Value.slice A9 (lr.length + 1 + 1) c9)).heap.size) (by simp), C9.setb (b := rb) (j := 0) Rb9.2.2 (Value.slice A9 (lr.length + 1 + 1) c9), G9.setb (b := rb) (j := 0) (by omega) (Value.slice A9 (lr.length + 1 + 1) c9)⟩
          case measure => (simp [intOf] <;> omega)
      · go_upto_region 6 with fail
        have Rr := Bx.new C 54 #[.int .i64 3, .int .i64 0, .int .i64 0, .string ⟨#[]⟩, .slice none 0 0, .slice none 0 0]
        replace R := R.alloc (.cells #[.int .i64 3, .int .i64 0, .int .i64 0, .string ⟨#[]⟩, .slice none 0 0, .slice none 0 0] 54)
        replace Rb := Rb.alloc (.cells #[.int .i64 3, .int .i64 0, .int .i64 0, .string ⟨#[]⟩, .slice none 0 0, .slice none 0 0] 54)
        replace FF := FF.alloc C (.cells #[.int .i64 3, .int .i64 0, .int .i64 0, .string ⟨#[]⟩, .slice none 0 0, .slice none 0 0] 54)
        replace RR := RR.alloc C (.cells #[.int .i64 3, .int .i64 0, .int .i64 0, .string ⟨#[]⟩, .slice none 0 0, .slice none 0 0] 54)
        replace G := G.alloc (.cells #[.int .i64 3, .int .i64 0, .int .i64 0, .string ⟨#[]⟩, .slice none 0 0, .slice none 0 0] 54)
        replace C := C.alloc (.cells #[.int .i64 3, .int .i64 0, .int .i64 0, .string ⟨#[]⟩, .slice none 0 0, .slice none 0 0] 54)
        generalize w5.alloc (.cells #[.int .i64 3, .int .i64 0, .int .i64 0, .string ⟨#[]⟩, .slice none 0 0, .slice none 0 0] 54) = w6 at R Rb FF RR G Rr C ⊢
        generalize w5.heap.size = rr at Rr RR hrr ⊢
        have pc0 := Rr.cell
        have pf0 := Rr.frozen
        go_wp2_with fail
        clear pc0 pf0
        have SX := SlP.nil_ (f := exprC) (U := U1) w6 none
        have HSX := Lib.hid (show (Fr.nil : Fr (Int × Int × ByteArray)).size ≤ 1000 from by decide)
        have hr6 := Rr.lt
        refine (dList9 B g false 2 (by omega) _ _ C).mono ?_; rintro e w7 ⟨vA, LA, la, U7, rfl, hsA, OA, C7, G7⟩
        have HSA := Lib.hid (show (mkSt LA).size ≤ 6000 from Nat.le_trans hsA (by decide))
        clear hsA
        replace R := R.gro G7
        replace Rb := Rb.gro G7
        replace FF := FF.gro C G7
        replace RR := RR.gro C G7
        replace G := G.trans G7
        replace Rr := Rr.gro G7
        replace SX := SX.gro C G7
        clear C
        have C := C7
        clear C7
        obtain ⟨Aa, ca, rfl⟩ := OA.form
        have hrl := Rr.lt
        have hob := fun k e => OA.1.lt k e
        have pc0 := Rr.cell
        have pf0 := Rr.frozen
        have hrb6 : rr < w6.heap.size := hr6
        go_upto_region 11 with fail
        clear pc0 pf0
        replace R := R.far (b := rr) (j := 5) (by omega) (Value.slice Aa la.length ca)
        replace Rb := Rb.far (b := rr) (j := 5) (by omega) (Value.slice Aa la.length ca)
        replace FF := FF.setb (b := rr) (j := 5) (.inr (by omega)) Rr.2.1 (Value.slice Aa la.length ca)
        replace RR := RR.setb (b := rr) (j := 5) (.inr (by omega)) Rr.2.1 (Value.slice Aa la.length ca)
        replace G := G.setb (b := rr) (j := 5) (by omega) (Value.slice Aa la.length ca)
        replace SX := SX.setb (b := rr) (j := 5) Rr.2.1 (Value.slice Aa la.length ca)
        replace OA := OA.setb (b := rr) (j := 5) (OA.not (.inl (by omega))) Rr.2.1 (Value.slice Aa la.length ca)
        replace C := C.setb (b := rr) (j := 5) Rr.2.2 (Value.slice Aa la.length ca)
        replace Rr := Rr.set_ 5 (Value.slice Aa la.length ca)
        simp only [List.setIfInBounds_toArray, List.set_cons_succ, List.set_cons_zero] at Rr
        generalize w7.setCell ⟨rr, 5, none⟩ (Value.slice Aa la.length ca) = wq at R Rb FF RR G Rr C SX OA ⊢
        replace HSA := Lib.hid (show (mkSt LA).size ≤ 20000 by have := HSA.out; omega)
        rcases RR with ⟨rfl, eV⟩ | ⟨k0, a0, x0, X0, cx0, v0, LA0, la0, Lr, lr, rfl, ⟨hRw, hRh⟩, S0, ⟨O0, h0h⟩, FR, hd0, hx0, hA0, hLr⟩
        · injection eV with eA _ eC
          subst eA eC
          have hrbq := Rb.lt
          have pc0 := Rb.cell
          have pf0 := Rb.frozen
          have pc1 := Rr.cell
          go_wp2_with (at_builtin; refine wpList_pushB rfl _ _ 34 rfl (rb + 1) 54 j0 (.agg #[.int .i64 0, .int .i64 0, .int .i64 0, .string ⟨#[]⟩, .slice none 0 0, .slice none 0 0]) 6 88 Try.underlying34 hj hy0 hy1 hy2 rfl (by decide) (Value.slice none 0 0) 0 [] rfl (World.ownsRow_nil _ _ _ _) [.int .i64 3, .int .i64 0, .int .i64 0, .string ⟨#[]⟩, .slice none (Fr.nil : Fr (Int × Int × ByteArray)).len 0, (Value.slice Aa la.length ca)] rfl rfl rfl (by omega) (by omega) (by omega) ?_)
          intro v' w9 hO9 hg9 hv9
          clear pc0 pf0 pc1
          obtain ⟨A9, c9, rfl⟩ := (Row.mk hO9).form
          have hno : ∀ k, (Value.slice none 0 0).ownBlock = some k → False := fun k e => (by simp [Value.ownBlock] at e)
          have R9 := R.row hg9 (fun e => hno _ e.symm)
          have Rb9 := Rb.row hg9 (fun e => hno _ e.symm)
          have FF9 := FF.row C hg9 (fun k e => (hno k e).elim) (fun k e => (hno k e).elim)
          have SX9 := SX.row C hg9 (fun k e => (hno k e).elim)
          have OA9 := OA.row C hg9 (fun k e => (hno k e).elim) (fun k e h => hno k h)
          have hOl := fun k e => OA.1.lt k e
          have G9 := G.row hg9 (fun k e => (hno k e).elim)
          have C9 := C.row hg9 (fun k e => (hno k e).elim)
          have O9 := (Rw.nil (U := U7) (w := wq) (e := 54) (size := 6) (show g < rb + 1 by have := Rb.2.2; omega)).push C hO9 hv9
          have hgs9 := hg9.size
          have hv9' : ∀ k, (Value.slice A9 (0 + 1) c9).ownBlock = some k → wq.heap.size < k := fun k e => by
            rcases hv9 with h7 | ⟨k7, h7, h8⟩
            · rw [h7] at e; exact (hno k e).elim
            · rw [h7] at e; injection e with e; omega
          have RR9 : RU g U7 w9 (rb + 1) w9.heap.size (Value.slice A9 (0 + 1) c9) 1 := .inr ⟨3, ((0 : Int), (0 : Int), (⟨#[]⟩ : ByteArray)), (Fr.nil : Fr (Int × Int × ByteArray)), none, 0, (Value.slice Aa la.length ca), LA, la, [], [], rfl, ⟨O9, fun k e => (O9.lt k e).2⟩, SX9, ⟨OA9.base_ (by omega) (by have := Rb.2.2; omega), fun k e => (OA9.1.lt k e).2⟩, FitR.nil _ _, fun j e e2 => by have := hv9' _ e2; have := (hOl _ e).2; omega, HSX.out, HSA.out, fun y hy => (by cases hy)⟩
          have hrb9 := Rb9.lt
          have pc0 := Rb9.cell
          have pf0 := Rb9.frozen
          go_wp2_with fail
          clear pc0 pf0
          have H := Rb9.set_ 0 (Value.slice A9 (0 + 1) c9)
          simp only [List.setIfInBounds_toArray, List.set_cons_zero] at H
          go_roundw
          case rel => exact ⟨q - 1, 1, _, _, by go_num, by omega, by omega, H, R9.far (b := rb) (j := 0) (by omega) (Value.slice A9 (0 + 1) c9), (FF9.setb (b := rb) (j := 0) (.inr (Nat.le_refl _)) Rb9.2.1 (Value.slice A9 (0 + 1) c9)), (RR9.setb (b := rb) (j := 0) (.inl (by omega)) Rb9.2.1 (Value.slice A9 (0 + 1) c9)).more (hi' := (w9.setCell ⟨rb, 0, none⟩ (Value.slice A9 (0 + 1) c9)).heap.size) (by simp), C9.setb (b := rb) (j := 0) Rb9.2.2 (Value.slice A9 (0 + 1) c9), G9.setb (b := rb) (j := 0) (by omega) (Value.slice A9 (0 + 1) c9)⟩
          case measure => (simp [intOf] <;> omega)
        · have hrbq := Rb.lt
          have pc0 := Rb.cell
          have pf0 := Rb.frozen
          have pc1 := Rr.cell
          obtain ⟨Ac, cc, ec, SA, CA⟩ := OA.close C
          have EC := Lib.hid ec
          clear ec
          have hOl := fun k e => OA.1.lt k e
          have hnR : ¬ (Value.slice Aa la.length ca).ownBlock = some w.heap.size := fun e => by have := (hOl _ e).1; omega
          have hnb : ¬ (Value.slice Aa la.length ca).ownBlock = some rb := fun e => by have := (hOl _ e).1; omega
          replace R := R.freeze (V := fun b => (Value.slice Aa la.length ca).ownBlock = some b) hnR
          replace Rb := Rb.freeze (V := fun b => (Value.slice Aa la.length ca).ownBlock = some b) hnb
          replace G := G.freeze (V := fun b => (Value.slice Aa la.length ca).ownBlock = some b) (fun b e => by have := (hOl _ e).1; omega)
          replace FF : FU g (fun b => U7 b ∨ (Value.slice Aa la.length ca).ownBlock = some b) wq w.heap.size rb (.slice (some ⟨bf, 0, none⟩) 2 2) _ _ := ⟨⟨FF.1.1.freeze (fun b e e2 => by have := FF.1.2 b e; have := (hOl b e2).1; omega), FF.1.2⟩, FF.2.1.more (fun _ h => .inl h), FF.2.2⟩
          replace SX := SX.more (U' := fun b => U7 b ∨ (Value.slice Aa la.length ca).ownBlock = some b) (fun _ h => .inl h)
          replace hRw := hRw.freeze (V := fun b => (Value.slice Aa la.length ca).ownBlock = some b) (fun b e e2 => by have := hRh b e; have := (hOl b e2).1; omega)
          replace S0 := S0.more (U' := fun b => U7 b ∨ (Value.slice Aa la.length ca).ownBlock = some b) (fun _ h => .inl h)
          replace FR := FR.more (U' := fun b => U7 b ∨ (Value.slice Aa la.length ca).ownBlock = some b) (fun _ h => .inl h)
          replace O0 : RA g (fun b => U7 b ∨ (Value.slice Aa la.length ca).ownBlock = some b) wq (rb + 1) v0 LA0 la0 := ⟨O0.1.freeze (fun b e e2 => by have := h0h b e; have := (hOl b e2).1; omega), O0.2.more (fun _ h => .inl h)⟩
          clear C
          have C := CA
          clear CA
          obtain ⟨vAA, hvAA⟩ : ∃ vAA, vAA = (Value.slice Aa la.length ca) := ⟨_, rfl⟩
          go_wp2_with (at_builtin; refine wpList_pushB rfl _ _ 34 rfl (rb + 1) 54 j0 (.agg #[.int .i64 0, .int .i64 0, .int .i64 0, .string ⟨#[]⟩, .slice none 0 0, .slice none 0 0]) 6 88 Try.underlying34 hj hy0 hy1 hy2 rfl (by decide) (Value.slice AV (lr.length + 1) cV) _ _ rfl hRw.1 [.int .i64 3, .int .i64 0, .int .i64 0, .string ⟨#[]⟩, .slice none (Fr.nil : Fr (Int × Int × ByteArray)).len 0, (Value.slice Aa la.length ca)] rfl rfl rfl (by omega) (by omega) (by omega) ?_)
          intro v' w9 hO9 hg9 hv9
          clear pc0 pf0 pc1
          obtain ⟨A9, c9, rfl⟩ := (Row.mk hO9).form
          have hb9 := fun k e => hRw.lt k e
          have hu9 := hRw.2.1
          have R9 := R.row hg9 (fun e => by have := hb9 _ e.symm; omega)
          have Rb9 := Rb.row hg9 (fun e => by have := hb9 _ e.symm; omega)
          have FF9 := FF.row C hg9 hu9 (fun k e => by have := hb9 k e; omega)
          have SX9 := SX.row C hg9 hu9
          have SA9 := SA.row C hg9 hu9
          have S09 := S0.row C hg9 hu9
          have O09 := O0.row C hg9 hu9 (fun k e h => hd0 k e h)
          have FR9 := FR.row C hg9 hu9
          have G9 := G.row hg9 (fun k e => by have := hb9 k e; omega)
          have C9 := C.row hg9 (fun k e => by have := hb9 k e; have := hC.lt; omega)
          have O9 := hRw.push C hO9 hv9
          have hgs9 := hg9.size
          have e9 : flat rlC ((k0, a0, Value.slice X0 x0.len cx0, v0) :: lr) ++ [.int .i64 3, .int .i64 0, .int .i64 0, .string ⟨#[]⟩, .slice none (Fr.nil : Fr (Int × Int × ByteArray)).len 0, (Value.slice Aa la.length ca)] = flat rlC ((k0, a0, Value.slice X0 x0.len cx0, v0) :: (lr ++ [(3, ((0 : Int), (0 : Int), (⟨#[]⟩ : ByteArray)), Value.slice none (Fr.nil : Fr (Int × Int × ByteArray)).len 0, Value.slice Ac (mkSt LA).len cc)])) := by rw [EC.out, ← List.cons_append, ← flat_snoc]; rfl
          rw [e9] at O9
          have h0l := fun k e => (O09.1.lt k e).2
          have RR9 : RU g (fun b => U7 b ∨ (Value.slice Aa la.length ca).ownBlock = some b) w9 (rb + 1) w9.heap.size (Value.slice A9 (lr.length + 1 + 1) c9) (lr.length + 1 + 1) := .inr ⟨k0, a0, x0, X0, cx0, v0, LA0, la0, Lr ++ [(3, ((0 : Int), (0 : Int), (⟨#[]⟩ : ByteArray)), (Fr.nil : Fr (Int × Int × ByteArray)), mkSt LA)], _, by rw [List.length_append]; rfl, ⟨O9, fun k e => (O9.lt k e).2⟩, S09, ⟨O09, h0l⟩, FR9.snoc SX9 SA9, fun j e e2 => by
              rcases hv9 with h7 | ⟨k7, h7, h8⟩
              · exact hd0 j e (h7 ▸ e2)
              · rw [h7] at e2; injection e2 with e2; have := (O0.1.lt j e).2; omega
            , hx0, hA0, fun y hy => by rcases List.mem_append.1 hy with h | h; exact hLr y h; (rw [List.mem_singleton.1 h]; exact ⟨HSX.out, HSA.out⟩)⟩
          have hrb9 := Rb9.lt
          have pc0 := Rb9.cell
          have pf0 := Rb9.frozen
          go_wp2_with fail
          clear pc0 pf0
          have H := Rb9.set_ 0 (Value.slice A9 (lr.length + 1 + 1) c9)
          simp only [List.setIfInBounds_toArray, List.set_cons_zero] at H
          go_roundw
          case rel => exact ⟨q - 1, (lr.length + 1 + 1), _, _, by go_num, by omega, by omega, H, R9.far (b := rb) (j := 0) (by omega) (Value.slice A9 (lr.length + 1 + 1) c9), (FF9.setb (b := rb) (j := 0) (.inr (Nat.le_refl _)) Rb9.2.1 (Value.slice A9 (lr.length + 1 + 1) c9)), (RR9.setb (b := rb) (j := 0) (.inl (by omega)) Rb9.2.1 (Value.slice A9 (lr.length + 1 + 1) c9)).more (hi' := (w9.setCell ⟨rb, 0, none⟩ (Value.slice A9 (lr.length + 1 + 1) c9)).heap.size) (by simp), C9.setb (b := rb) (j := 0) Rb9.2.2 (Value.slice A9 (lr.length + 1 + 1) c9), G9.setb (b := rb) (j := 0) (by omega) (Value.slice A9 (lr.length + 1 + 1) c9)⟩
          case measure => (simp [intOf] <;> omega)
      · go_upto_region 6 with fail
        have Rr := Bx.new C 54 #[.int .i64 4, .int .i64 0, .int .i64 0, .string ⟨#[]⟩, .slice none 0 0, .slice none 0 0]
        replace R := R.alloc (.cells #[.int .i64 4, .int .i64 0, .int .i64 0, .string ⟨#[]⟩, .slice none 0 0, .slice none 0 0] 54)
        replace Rb := Rb.alloc (.cells #[.int .i64 4, .int .i64 0, .int .i64 0, .string ⟨#[]⟩, .slice none 0 0, .slice none 0 0] 54)
        replace FF := FF.alloc C (.cells #[.int .i64 4, .int .i64 0, .int .i64 0, .string ⟨#[]⟩, .slice none 0 0, .slice none 0 0] 54)
        replace RR := RR.alloc C (.cells #[.int .i64 4, .int .i64 0, .int .i64 0, .string ⟨#[]⟩, .slice none 0 0, .slice none 0 0] 54)
        replace G := G.alloc (.cells #[.int .i64 4, .int .i64 0, .int .i64 0, .string ⟨#[]⟩, .slice none 0 0, .slice none 0 0] 54)
        replace C := C.alloc (.cells #[.int .i64 4, .int .i64 0, .int .i64 0, .string ⟨#[]⟩, .slice none 0 0, .slice none 0 0] 54)
        generalize w5.alloc (.cells #[.int .i64 4, .int .i64 0, .int .i64 0, .string ⟨#[]⟩, .slice none 0 0, .slice none 0 0] 54) = w6 at R Rb FF RR G Rr C ⊢
        generalize w5.heap.size = rr at Rr RR hrr ⊢
        have pc0 := Rr.cell
        have pf0 := Rr.frozen
        go_wp2_with fail
        refine (dDraw8 B g 2 (by omega) _ _ C).mono ?_; rintro e w6a ⟨ak, an, az, x, X, cx, U6, rfl, hsx, SX, C6, G6⟩
        have HSX := Lib.hid (show x.size ≤ 1000 from Nat.le_trans hsx (by decide))
        clear hsx pc0 pf0
        replace R := R.gro G6
        replace Rb := Rb.gro G6
        replace FF := FF.gro C G6
        replace RR := RR.gro C G6
        replace G := G.trans G6
        replace Rr := Rr.gro G6
        clear C
        have C := C6
        clear C6
        have pc0 := Rr.cell
        have pf0 := Rr.frozen
        go_wp2_with fail
        clear pc0 pf0
        replace R := R.far (b := rr) (j := 1) (by omega) (.int .i64 ak)
        replace Rb := Rb.far (b := rr) (j := 1) (by omega) (.int .i64 ak)
        replace FF := FF.setb (b := rr) (j := 1) (.inr (by omega)) Rr.2.1 (.int .i64 ak)
        replace RR := RR.setb (b := rr) (j := 1) (.inr (by omega)) Rr.2.1 (.int .i64 ak)
        replace G := G.setb (b := rr) (j := 1) (by omega) (.int .i64 ak)
        replace SX := SX.setb (b := rr) (j := 1) Rr.2.1 (.int .i64 ak)
        replace C := C.setb (b := rr) (j := 1) Rr.2.2 (.int .i64 ak)
        replace Rr := Rr.set_ 1 (.int .i64 ak)
        simp only [List.setIfInBounds_toArray, List.set_cons_succ, List.set_cons_zero] at Rr
        replace R := R.far (b := rr) (j := 2) (by omega) (.int .i64 an)
        replace Rb := Rb.far (b := rr) (j := 2) (by omega) (.int .i64 an)
        replace FF := FF.setb (b := rr) (j := 2) (.inr (by omega)) Rr.2.1 (.int .i64 an)
        replace RR := RR.setb (b := rr) (j := 2) (.inr (by omega)) Rr.2.1 (.int .i64 an)
        replace G := G.setb (b := rr) (j := 2) (by omega) (.int .i64 an)
        replace SX := SX.setb (b := rr) (j := 2) Rr.2.1 (.int .i64 an)
        replace C := C.setb (b := rr) (j := 2) Rr.2.2 (.int .i64 an)
        replace Rr := Rr.set_ 2 (.int .i64 an)
        simp only [List.setIfInBounds_toArray, List.set_cons_succ, List.set_cons_zero] at Rr
        replace R := R.far (b := rr) (j := 3) (by omega) (.string az)
        replace Rb := Rb.far (b := rr) (j := 3) (by omega) (.string az)
        replace FF := FF.setb (b := rr) (j := 3) (.inr (by omega)) Rr.2.1 (.string az)
        replace RR := RR.setb (b := rr) (j := 3) (.inr (by omega)) Rr.2.1 (.string az)
        replace G := G.setb (b := rr) (j := 3) (by omega) (.string az)
        replace SX := SX.setb (b := rr) (j := 3) Rr.2.1 (.string az)
        replace C := C.setb (b := rr) (j := 3) Rr.2.2 (.string az)
        replace Rr := Rr.set_ 3 (.string az)
        simp only [List.setIfInBounds_toArray, List.set_cons_succ, List.set_cons_zero] at Rr
        replace R := R.far (b := rr) (j := 4) (by omega) (.slice X x.len cx)
        replace Rb := Rb.far (b := rr) (j := 4) (by omega) (.slice X x.len cx)
        replace FF := FF.setb (b := rr) (j := 4) (.inr (by omega)) Rr.2.1 (.slice X x.len cx)
        replace RR := RR.setb (b := rr) (j := 4) (.inr (by omega)) Rr.2.1 (.slice X x.len cx)
        replace G := G.setb (b := rr) (j := 4) (by omega) (.slice X x.len cx)
        replace SX := SX.setb (b := rr) (j := 4) Rr.2.1 (.slice X x.len cx)
        replace C := C.setb (b := rr) (j := 4) Rr.2.2 (.slice X x.len cx)
        replace Rr := Rr.set_ 4 (.slice X x.len cx)
        simp only [List.setIfInBounds_toArray, List.set_cons_succ, List.set_cons_zero] at Rr
        generalize (((w6a.setCell ⟨rr, 1, none⟩ (.int .i64 ak)).setCell ⟨rr, 2, none⟩ (.int .i64 an)).setCell ⟨rr, 3, none⟩ (.string az)).setCell ⟨rr, 4, none⟩ (.slice X x.len cx) = w6b at R Rb FF RR G Rr C SX ⊢
        have hr6 := Rr.lt
        refine (dList9 B g false 2 (by omega) _ _ C).mono ?_; rintro e w7 ⟨vA, LA, la, U7, rfl, hsA, OA, C7, G7⟩
        have HSA := Lib.hid (show (mkSt LA).size ≤ 6000 from Nat.le_trans hsA (by decide))
        clear hsA
        replace R := R.gro G7
        replace Rb := Rb.gro G7
        replace FF := FF.gro C G7
        replace RR := RR.gro C G7
        replace G := G.trans G7
        replace Rr := Rr.gro G7
        replace SX := SX.gro C G7
        clear C
        have C := C7
        clear C7
        obtain ⟨Aa, ca, rfl⟩ := OA.form
        have hrl := Rr.lt
        have hob := fun k e => OA.1.lt k e
        have pc0 := Rr.cell
        have pf0 := Rr.frozen
        have hrb6 : rr < w6b.heap.size := hr6
        go_upto_region 11 with fail
        clear pc0 pf0
        replace R := R.far (b := rr) (j := 5) (by omega) (Value.slice Aa la.length ca)
        replace Rb := Rb.far (b := rr) (j := 5) (by omega) (Value.slice Aa la.length ca)
        replace FF := FF.setb (b := rr) (j := 5) (.inr (by omega)) Rr.2.1 (Value.slice Aa la.length ca)
        replace RR := RR.setb (b := rr) (j := 5) (.inr (by omega)) Rr.2.1 (Value.slice Aa la.length ca)
        replace G := G.setb (b := rr) (j := 5) (by omega) (Value.slice Aa la.length ca)
        replace SX := SX.setb (b := rr) (j := 5) Rr.2.1 (Value.slice Aa la.length ca)
        replace OA := OA.setb (b := rr) (j := 5) (OA.not (.inl (by omega))) Rr.2.1 (Value.slice Aa la.length ca)
        replace C := C.setb (b := rr) (j := 5) Rr.2.2 (Value.slice Aa la.length ca)
        replace Rr := Rr.set_ 5 (Value.slice Aa la.length ca)
        simp only [List.setIfInBounds_toArray, List.set_cons_succ, List.set_cons_zero] at Rr
        generalize w7.setCell ⟨rr, 5, none⟩ (Value.slice Aa la.length ca) = wq at R Rb FF RR G Rr C SX OA ⊢
        replace HSA := Lib.hid (show (mkSt LA).size ≤ 20000 by have := HSA.out; omega)
        rcases RR with ⟨rfl, eV⟩ | ⟨k0, a0, x0, X0, cx0, v0, LA0, la0, Lr, lr, rfl, ⟨hRw, hRh⟩, S0, ⟨O0, h0h⟩, FR, hd0, hx0, hA0, hLr⟩
        · injection eV with eA _ eC
          subst eA eC
          have hrbq := Rb.lt
          have pc0 := Rb.cell
          have pf0 := Rb.frozen
          have pc1 := Rr.cell
          go_wp2_with (at_builtin; refine wpList_pushB rfl _ _ 34 rfl (rb + 1) 54 j0 (.agg #[.int .i64 0, .int .i64 0, .int .i64 0, .string ⟨#[]⟩, .slice none 0 0, .slice none 0 0]) 6 88 Try.underlying34 hj hy0 hy1 hy2 rfl (by decide) (Value.slice none 0 0) 0 [] rfl (World.ownsRow_nil _ _ _ _) [.int .i64 4, .int .i64 ak, .int .i64 an, .string az, .slice X x.len cx, (Value.slice Aa la.length ca)] rfl rfl rfl (by omega) (by omega) (by omega) ?_)
          intro v' w9 hO9 hg9 hv9
          clear pc0 pf0 pc1
          obtain ⟨A9, c9, rfl⟩ := (Row.mk hO9).form
          have hno : ∀ k, (Value.slice none 0 0).ownBlock = some k → False := fun k e => (by simp [Value.ownBlock] at e)
          have R9 := R.row hg9 (fun e => hno _ e.symm)
          have Rb9 := Rb.row hg9 (fun e => hno _ e.symm)
          have FF9 := FF.row C hg9 (fun k e => (hno k e).elim) (fun k e => (hno k e).elim)
          have SX9 := SX.row C hg9 (fun k e => (hno k e).elim)
          have OA9 := OA.row C hg9 (fun k e => (hno k e).elim) (fun k e h => hno k h)
          have hOl := fun k e => OA.1.lt k e
          have G9 := G.row hg9 (fun k e => (hno k e).elim)
          have C9 := C.row hg9 (fun k e => (hno k e).elim)
          have O9 := (Rw.nil (U := U7) (w := wq) (e := 54) (size := 6) (show g < rb + 1 by have := Rb.2.2; omega)).push C hO9 hv9
          have hgs9 := hg9.size
          have hv9' : ∀ k, (Value.slice A9 (0 + 1) c9).ownBlock = some k → wq.heap.size < k := fun k e => by
            rcases hv9 with h7 | ⟨k7, h7, h8⟩
            · rw [h7] at e; exact (hno k e).elim
            · rw [h7] at e; injection e with e; omega
          have RR9 : RU g U7 w9 (rb + 1) w9.heap.size (Value.slice A9 (0 + 1) c9) 1 := .inr ⟨4, ((ak : Int), (an : Int), (az : ByteArray)), x, X, cx, (Value.slice Aa la.length ca), LA, la, [], [], rfl, ⟨O9, fun k e => (O9.lt k e).2⟩, SX9, ⟨OA9.base_ (by omega) (by have := Rb.2.2; omega), fun k e => (OA9.1.lt k e).2⟩, FitR.nil _ _, fun j e e2 => by have := hv9' _ e2; have := (hOl _ e).2; omega, HSX.out, HSA.out, fun y hy => (by cases hy)⟩
          have hrb9 := Rb9.lt
          have pc0 := Rb9.cell
          have pf0 := Rb9.frozen
          go_wp2_with fail
          clear pc0 pf0
          have H := Rb9.set_ 0 (Value.slice A9 (0 + 1) c9)
          simp only [List.setIfInBounds_toArray, List.set_cons_zero] at H
          go_roundw
          case rel => exact ⟨q - 1, 1, _, _, by go_num, by omega, by omega, H, R9.far (b := rb) (j := 0) (by omega) (Value.slice A9 (0 + 1) c9), (FF9.setb (b := rb) (j := 0) (.inr (Nat.le_refl _)) Rb9.2.1 (Value.slice A9 (0 + 1) c9)), (RR9.setb (b := rb) (j := 0) (.inl (by omega)) Rb9.2.1 (Value.slice A9 (0 + 1) c9)).more (hi' := (w9.setCell ⟨rb, 0, none⟩ (Value.slice A9 (0 + 1) c9)).heap.size) (by simp), C9.setb (b := rb) (j := 0) Rb9.2.2 (Value.slice A9 (0 + 1) c9), G9.setb (b := rb) (j := 0) (by omega) (Value.slice A9 (0 + 1) c9)⟩
          case measure => (simp [intOf] <;> omega)
        · have hrbq := Rb.lt
          have pc0 := Rb.cell
          have pf0 := Rb.frozen
          have pc1 := Rr.cell
          obtain ⟨Ac, cc, ec, SA, CA⟩ := OA.close C
          have EC := Lib.hid ec
          clear ec
          have hOl := fun k e => OA.1.lt k e
          have hnR : ¬ (Value.slice Aa la.length ca).ownBlock = some w.heap.size := fun e => by have := (hOl _ e).1; omega
          have hnb : ¬ (Value.slice Aa la.length ca).ownBlock = some rb := fun e => by have := (hOl _ e).1; omega
          replace R := R.freeze (V := fun b => (Value.slice Aa la.length ca).ownBlock = some b) hnR
          replace Rb := Rb.freeze (V := fun b => (Value.slice Aa la.length ca).ownBlock = some b) hnb
          replace G := G.freeze (V := fun b => (Value.slice Aa la.length ca).ownBlock = some b) (fun b e => by have := (hOl _ e).1; omega)
          replace FF : FU g (fun b => U7 b ∨ (Value.slice Aa la.length ca).ownBlock = some b) wq w.heap.size rb (.slice (some ⟨bf, 0, none⟩) 2 2) _ _ := ⟨⟨FF.1.1.freeze (fun b e e2 => by have := FF.1.2 b e; have := (hOl b e2).1; omega), FF.1.2⟩, FF.2.1.more (fun _ h => .inl h), FF.2.2⟩
          replace SX := SX.more (U' := fun b => U7 b ∨ (Value.slice Aa la.length ca).ownBlock = some b) (fun _ h => .inl h)
          replace hRw := hRw.freeze (V := fun b => (Value.slice Aa la.length ca).ownBlock = some b) (fun b e e2 => by have := hRh b e; have := (hOl b e2).1; omega)
          replace S0 := S0.more (U' := fun b => U7 b ∨ (Value.slice Aa la.length ca).ownBlock = some b) (fun _ h => .inl h)
          replace FR := FR.more (U' := fun b => U7 b ∨ (Value.slice Aa la.length ca).ownBlock = some b) (fun _ h => .inl h)
          replace O0 : RA g (fun b => U7 b ∨ (Value.slice Aa la.length ca).ownBlock = some b) wq (rb + 1) v0 LA0 la0 := ⟨O0.1.freeze (fun b e e2 => by have := h0h b e; have := (hOl b e2).1; omega), O0.2.more (fun _ h => .inl h)⟩
          clear C
          have C := CA
          clear CA
          obtain ⟨vAA, hvAA⟩ : ∃ vAA, vAA = (Value.slice Aa la.length ca) := ⟨_, rfl⟩
          go_wp2_with (at_builtin; refine wpList_pushB rfl _ _ 34 rfl (rb + 1) 54 j0 (.agg #[.int .i64 0, .int .i64 0, .int .i64 0, .string ⟨#[]⟩, .slice none 0 0, .slice none 0 0]) 6 88 Try.underlying34 hj hy0 hy1 hy2 rfl (by decide) (Value.slice AV (lr.length + 1) cV) _ _ rfl hRw.1 [.int .i64 4, .int .i64 ak, .int .i64 an, .string az, .slice X x.len cx, (Value.slice Aa la.length ca)] rfl rfl rfl (by omega) (by omega) (by omega) ?_)
          intro v' w9 hO9 hg9 hv9
          clear pc0 pf0 pc1
          obtain ⟨A9, c9, rfl⟩ := (Row.mk hO9).form
          have hb9 := fun k e => hRw.lt k e
          have hu9 := hRw.2.1
          have R9 := R.row hg9 (fun e => by have := hb9 _ e.symm; omega)
          have Rb9 := Rb.row hg9 (fun e => by have := hb9 _ e.symm; omega)
          have FF9 := FF.row C hg9 hu9 (fun k e => by have := hb9 k e; omega)
          have SX9 := SX.row C hg9 hu9
          have SA9 := SA.row C hg9 hu9
          have S09 := S0.row C hg9 hu9
          have O09 := O0.row C hg9 hu9 (fun k e h => hd0 k e h)
          have FR9 := FR.row C hg9 hu9
          have G9 := G.row hg9 (fun k e => by have := hb9 k e; omega)
          have C9 := C.row hg9 (fun k e => by have := hb9 k e; have := hC.lt; omega)
          have O9 := hRw.push C hO9 hv9
          have hgs9 := hg9.size
          have e9 : flat rlC ((k0, a0, Value.slice X0 x0.len cx0, v0) :: lr) ++ [.int .i64 4, .int .i64 ak, .int .i64 an, .string az, .slice X x.len cx, (Value.slice Aa la.length ca)] = flat rlC ((k0, a0, Value.slice X0 x0.len cx0, v0) :: (lr ++ [(4, ((ak : Int), (an : Int), (az : ByteArray)), Value.slice X x.len cx, Value.slice Ac (mkSt LA).len cc)])) := by rw [EC.out, ← List.cons_append, ← flat_snoc]; rfl
          rw [e9] at O9
          have h0l := fun k e => (O09.1.lt k e).2
          have RR9 : RU g (fun b => U7 b ∨ (Value.slice Aa la.length ca).ownBlock = some b) w9 (rb + 1) w9.heap.size (Value.slice A9 (lr.length + 1 + 1) c9) (lr.length + 1 + 1) := .inr ⟨k0, a0, x0, X0, cx0, v0, LA0, la0, Lr ++ [(4, ((ak : Int), (an : Int), (az : ByteArray)), x, mkSt LA)], _, by rw [List.length_append]; rfl, ⟨O9, fun k e => (O9.lt k e).2⟩, S09, ⟨O09, h0l⟩, FR9.snoc SX9 SA9, fun j e e2 => by
              rcases hv9 with h7 | ⟨k7, h7, h8⟩
              · exact hd0 j e (h7 ▸ e2)
              · rw [h7] at e2; injection e2 with e2; have := (O0.1.lt j e).2; omega
            , hx0, hA0, fun y hy => by rcases List.mem_append.1 hy with h | h; exact hLr y h; (rw [List.mem_singleton.1 h]; exact ⟨HSX.out, HSA.out⟩)⟩
          have hrb9 := Rb9.lt
          have pc0 := Rb9.cell
          have pf0 := Rb9.frozen
          go_wp2_with fail
          clear pc0 pf0
          have H := Rb9.set_ 0 (Value.slice A9 (lr.length + 1 + 1) c9)
          simp only [List.setIfInBounds_toArray, List.set_cons_zero] at H
          go_roundw
          case rel => exact ⟨q - 1, (lr.length + 1 + 1), _, _, by go_num, by omega, by omega, H, R9.far (b := rb) (j := 0) (by omega) (Value.slice A9 (lr.length + 1 + 1) c9), (FF9.setb (b := rb) (j := 0) (.inr (Nat.le_refl _)) Rb9.2.1 (Value.slice A9 (lr.length + 1 + 1) c9)), (RR9.setb (b := rb) (j := 0) (.inl (by omega)) Rb9.2.1 (Value.slice A9 (lr.length + 1 + 1) c9)).more (hi' := (w9.setCell ⟨rb, 0, none⟩ (Value.slice A9 (lr.length + 1 + 1) c9)).heap.size) (by simp), C9.setb (b := rb) (j := 0) Rb9.2.2 (Value.slice A9 (lr.length + 1 + 1) c9), G9.setb (b := rb) (j := 0) (by omega) (Value.slice A9 (lr.length + 1 + 1) c9)⟩
          case measure => (simp [intOf] <;> omega)

end Go.Proofs.Ytalnkdbmbjplpaa
