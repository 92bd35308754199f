/- Walk over the reference's draws of statements: l9Any. -/
import Derived.Test.YtalnkdbmbjplpaaS9c
namespace Go.Proofs.Ytalnkdbmbjplpaa
open Go.RowKit

section
variable {n B g bX bA : Nat} {U U0 U' : Nat → Prop} {w w0 w' : World} {vX vA : Value} {LX : List ((Int × Int × ByteArray) × Fr (Int × Int × ByteArray))} {lx : List ((Int × Int × ByteArray) × Value)} {LA : List TS} {la : List VS} {X A Q : Option Addr} {x : Fr (Int × Int × ByteArray)} {p q : St}
theorem close2 (hX : RX g U w bX vX LX lx) (hA : RA g U w bA vA LA la) (hQ : SlSP w U Q q) (C : Cu B g U w) (G : Gro g U0 w0 U w) (h1 : w0.heap.size ≤ bX) (h2 : w0.heap.size ≤ bA) (hs : (mkFr LX).size + (mkSt LA).size + q.size ≤ n) :
    ∃ X cx A ca, vX = .slice X (mkFr LX).len cx ∧ vA = .slice A (mkSt LA).len ca ∧ CS n B g U0 w0 (fun b => (U b ∨ vX.ownBlock = some b) ∨ vA.ownBlock = some b) w X (mkFr LX) A (mkSt LA) Q q := by
  obtain ⟨X, cx, ex, SX, CX⟩ := hX.close C
  obtain ⟨A, ca, ea, SA, _⟩ := hA.close C
  exact ⟨X, cx, A, ca, ex, ea, hs, SX.more (fun _ h => .inl h), SA.more (fun b h => h.elim (fun h => .inl (.inl h)) .inr), hQ.more (fun _ h => .inl (.inl h)), CX.freeze (fun b hb => ⟨by have := (hA.1.lt b hb).1; have := hA.1.2.2; omega, (hA.1.lt b hb).2⟩), (G.freeze (fun b hb => Nat.le_trans h1 (hX.1.lt b hb).1)).freeze (fun b hb => Nat.le_trans h2 (hA.1.lt b hb).1)⟩
/-- A literal of one statement. -/
theorem SlSP.one {b cx ca cq : Nat} {k : Int} {s t : ByteArray} {ty : TypeId} (H : Blk w b ty #[.int .i64 k, .string s, .string t, .slice X x.len cx, .slice A p.len ca, .slice Q q.len cq]) (hX : SlP exprC w U X x) (hA : SlSP w U A p) (hQ : SlSP w U Q q) : SlSP w (fun y => U y ∨ y = b) (some ⟨b, 0, none⟩) (.cons (k, s, t) x p q .nil) := fun _ =>
  ⟨b, 0, rfl, .inr rfl, ⟨X, cx, A, ca, Q, cq, fun j u hu => by
    rw [Nat.zero_add, H.cell]
    simpa [stC] using hu, hX.more (fun _ h => .inl h), hA.more (fun _ h => .inl h), hQ.more (fun _ h => .inl h)⟩, trivial⟩
theorem RX.row {row : Option Nat} (h : RX g U w bX vX LX lx) (C : Cu B g U w) (hg : w.grownBy w' row) (hr : ∀ k, row = some k → ¬ U k) (ho : ∀ k, vX.ownBlock = some k → row ≠ some k) : RX g U w' bX vX LX lx := ⟨h.1.row hg ho, h.2.row C hg hr⟩
theorem RA.row {row : Option Nat} (h : RA g U w bA vA LA la) (C : Cu B g U w) (hg : w.grownBy w' row) (hr : ∀ k, row = some k → ¬ U k) (ho : ∀ k, vA.ownBlock = some k → row ≠ some k) : RA g U w' bA vA LA la := ⟨h.1.row hg ho, h.2.row C hg hr⟩
end

theorem size_snocE (L : List ((Int × Int × ByteArray) × Fr (Int × Int × ByteArray))) (a : Int × Int × ByteArray) (x : Fr (Int × Int × ByteArray)) : (mkFr (L ++ [(a, x)])).size = (mkFr L).size + x.size + 1 := by
  induction L with
  | nil => show x.size + 0 + 1 = 0 + x.size + 1; omega
  | cons y r ih => show y.2.size + (mkFr (r ++ [(a, x)])).size + 1 = y.2.size + (mkFr r).size + 1 + x.size + 1; omega
theorem size_snocS (L : List TS) (a : Int × ByteArray × ByteArray) (x : Fr (Int × Int × ByteArray)) (p q : St) : (mkSt (L ++ [(a, x, p, q)])).size = (mkSt L).size + (x.size + p.size + q.size) + 1 := by
  induction L with
  | nil => show x.size + p.size + q.size + 0 + 1 = 0 + (x.size + p.size + q.size) + 1; omega
  | cons y r ih => show y.2.1.size + y.2.2.1.size + y.2.2.2.size + (mkSt (r ++ [(a, x, p, q)])).size + 1 = y.2.1.size + y.2.2.1.size + y.2.2.2.size + (mkSt r).size + 1 + (x.size + p.size + q.size) + 1; omega
set_option maxRecDepth 20000 in
set_option maxHeartbeats 16000000 in
theorem dAny9 (B g : Nat) (U : Nat → Prop) (w : World) (hC : Cu B g U w) :
    Calls Try.prog 17 #[.pointer (some ⟨g, 0, none⟩)] w fun e w' => RSt 2200 B g U w e w' := by
  have R0 := Bx.new hC 31 #[.int .i64 0, .string ⟨#[]⟩, .string ⟨#[]⟩, .slice none 0 0, .slice none 0 0, .slice none 0 0]
  have C0 := hC.alloc (.cells #[.int .i64 0, .string ⟨#[]⟩, .string ⟨#[]⟩, .slice none 0 0, .slice none 0 0, .slice none 0 0] 31)
  have G0 := (Gro.refl g U w).alloc (.cells #[.int .i64 0, .string ⟨#[]⟩, .string ⟨#[]⟩, .slice none 0 0, .slice none 0 0, .slice none 0 0] 31)
  go_enter Try.func17, Try.ntmps17
  go_wp2_with fail
  refine (cOnce 2 C0 (by omega)).mono ?_; rintro e w1 ⟨⟨bo, rfl⟩, C1, G1⟩
  replace R0 := R0.gro G1
  replace G1 := G0.trans G1
  clear C0 G0
  have hw1 := R0.lt
  go_wp2_with fail
  refine (dDraw9 B g bo 2 (by omega) U _ C1).mono ?_; rintro e w2 ⟨k, s, t, vX, vA, Q, cq, mid, LX, lx, LA, la, q, U1, rfl, hsz, OX, hXm, hmid, OA, SQ, C, G⟩
  replace hsz : (mkFr LX).size + (mkSt LA).size + q.size ≤ 1934 := hsz
  obtain ⟨AX, cX, rfl⟩ := OX.form
  obtain ⟨AA, cA, rfl⟩ := OA.form
  have R := R0.gro G
  have hw2 := R.lt
  have hgs2 := G.sz
  replace G := G1.trans G
  clear C1 G1 R0
  have hXl := fun k e => (OX.1.lt k e).2
  have hAl := fun k e => (OA.1.lt k e).2
  go_wp2_with fail
  have Rb := Bx.new C 31 #[.int .i64 k, .string s, .string t, (Value.slice AX lx.length cX), (Value.slice AA la.length cA), .slice Q q.len cq]
  replace R := R.alloc (.cells #[.int .i64 k, .string s, .string t, (Value.slice AX lx.length cX), (Value.slice AA la.length cA), .slice Q q.len cq] 31)
  replace OX := OX.alloc C (.cells #[.int .i64 k, .string s, .string t, (Value.slice AX lx.length cX), (Value.slice AA la.length cA), .slice Q q.len cq] 31)
  replace OA := OA.alloc C (.cells #[.int .i64 k, .string s, .string t, (Value.slice AX lx.length cX), (Value.slice AA la.length cA), .slice Q q.len cq] 31)
  replace SQ := SQ.alloc C (.cells #[.int .i64 k, .string s, .string t, (Value.slice AX lx.length cX), (Value.slice AA la.length cA), .slice Q q.len cq] 31)
  replace G := G.alloc (.cells #[.int .i64 k, .string s, .string t, (Value.slice AX lx.length cX), (Value.slice AA la.length cA), .slice Q q.len cq] 31)
  replace C := C.alloc (.cells #[.int .i64 k, .string s, .string t, (Value.slice AX lx.length cX), (Value.slice AA la.length cA), .slice Q q.len cq] 31)
  generalize w2.alloc (.cells #[.int .i64 k, .string s, .string t, (Value.slice AX lx.length cX), (Value.slice AA la.length cA), .slice Q q.len cq] 31) = w3 at Rb R C G OX OA SQ ⊢
  generalize w2.heap.size = rb at Rb hw2 hgs2 hXl hAl ⊢
  refine (cBelow 12 C (by omega)).mono ?_; rintro e w4 ⟨⟨xx, rfl, hx0, hx1, _⟩, C4, G4⟩
  clear hx0 hx1
  replace Rb := Rb.gro G4
  replace R := R.gro G4
  replace OX := OX.gro C G4
  replace OA := OA.gro C G4
  replace SQ := SQ.gro C G4
  replace G := G.trans G4
  clear C
  have C := C4
  clear C4 G4
  go_upto_block 0 with fail
  go_cut [] from 11 to 58 (fun wx => ∃ (k : Int) (s t : ByteArray) (x : Fr (Int × Int × ByteArray)) (p q : St) (X A Q : Option Addr) (cx ca cq : Nat) (U1 : Nat → Prop), Cu B g U1 wx ∧ Gro g U w U1 wx ∧ Bx g U1 wx w.heap.size 31 #[.int .i64 0, .string ⟨#[]⟩, .string ⟨#[]⟩, .slice none 0 0, .slice none 0 0, .slice none 0 0] ∧ Bx g U1 wx rb 31 #[.int .i64 k, .string s, .string t, .slice X x.len cx, .slice A p.len ca, .slice Q q.len cq] ∧ SlP exprC wx U1 X x ∧ SlSP wx U1 A p ∧ SlSP wx U1 Q q ∧ x.size + p.size + q.size  ≤ 2200)
  case first =>
    by_cases x0 : xx = 0
    · subst x0
      have hx0 : ¬ (Value.slice AX lx.length cX).ownBlock = some rb := fun e => by have := hXl _ e; omega
      have hx1 : ¬ (Value.slice AX lx.length cX).ownBlock = some w.heap.size := fun e => by have := OX.1.lt _ e; omega
      have ha0 : ¬ (Value.slice AA la.length cA).ownBlock = some rb := fun e => by have := hAl _ e; omega
      have ha1 : ¬ (Value.slice AA la.length cA).ownBlock = some w.heap.size := fun e => by have := OA.1.lt _ e; omega
      obtain ⟨X, cx, A, ca, ex, ea, E⟩ := close2 (n := 1934) OX OA SQ C G (by omega) (by omega) (by exact hsz)
      replace Rb := (Rb.freeze (V := fun b => (Value.slice AX lx.length cX).ownBlock = some b) hx0).freeze (V := fun b => (Value.slice AA la.length cA).ownBlock = some b) ha0
      replace R := (R.freeze (V := fun b => (Value.slice AX lx.length cX).ownBlock = some b) hx1).freeze (V := fun b => (Value.slice AA la.length cA).ownBlock = some b) ha1
      rw [ex, ea] at Rb R E
      obtain ⟨hsE, SX, SA, SQ, C, G⟩ := E
      clear ex ea OX OA
      clear hx0 hx1 ha0 ha1 hXl hAl hXm
      go_wp2_with fail
      refine (cBelow 14 C (by omega)).mono ?_; rintro e w5 ⟨⟨z, rfl, _⟩, C5, G5⟩
      have Rb5 := Rb.gro G5
      have R5 := R.gro G5
      have SX5 := SX.gro C G5
      have SA5 := SA.gro C G5
      have SQ5 := SQ.gro C G5
      replace G5 := G.trans G5
      have pc0 := Rb5.cell
      have pf0 := Rb5.frozen
      go_wp2_with fail
      have H := Rb5.set_ 0 (.int .i64 z)
      simp only [List.setIfInBounds_toArray, List.set_cons_zero] at H
      go_meet
      exact ⟨z, s, t, _, _, q, X, A, Q, cx, ca, cq, _, C5.setb Rb5.2.2 _, G5.setb (by omega) _, R5.far (by omega) _, H, SX5.setb Rb5.2.1 _, SA5.setb Rb5.2.1 _, SQ5.setb Rb5.2.1 _, by omega⟩
    have b0 : (xx == 0) = false := by simp [x0]
    by_cases x1 : xx = 1
    · subst x1
      have hx0 : ¬ (Value.slice AX lx.length cX).ownBlock = some rb := fun e => by have := hXl _ e; omega
      have hx1 : ¬ (Value.slice AX lx.length cX).ownBlock = some w.heap.size := fun e => by have := OX.1.lt _ e; omega
      have ha0 : ¬ (Value.slice AA la.length cA).ownBlock = some rb := fun e => by have := hAl _ e; omega
      have ha1 : ¬ (Value.slice AA la.length cA).ownBlock = some w.heap.size := fun e => by have := OA.1.lt _ e; omega
      obtain ⟨X, cx, A, ca, ex, ea, E⟩ := close2 (n := 1934) OX OA SQ C G (by omega) (by omega) (by exact hsz)
      replace Rb := (Rb.freeze (V := fun b => (Value.slice AX lx.length cX).ownBlock = some b) hx0).freeze (V := fun b => (Value.slice AA la.length cA).ownBlock = some b) ha0
      replace R := (R.freeze (V := fun b => (Value.slice AX lx.length cX).ownBlock = some b) hx1).freeze (V := fun b => (Value.slice AA la.length cA).ownBlock = some b) ha1
      rw [ex, ea] at Rb R E
      obtain ⟨hsE, SX, SA, SQ, C, G⟩ := E
      clear ex ea OX OA
      clear hx0 hx1 ha0 ha1 hXl hAl hXm
      go_wp2_with fail
      refine (cStr w4.heap.size 3 [⟨#[]⟩, ⟨#[120]⟩, ⟨#[112, 114, 105, 110, 116]⟩] (C.alloc _) rfl (by omega) (by omega) (Blk.new w4 _ _) (by have := C.lt; omega)).mono ?_; rintro e w5 ⟨⟨z, rfl, _⟩, C5, G5⟩
      have Rb5 := (Rb.alloc _).gro G5
      have R5 := (R.alloc _).gro G5
      have SX5 := (SX.alloc C _).gro (C.alloc _) G5
      have SA5 := (SA.alloc C _).gro (C.alloc _) G5
      have SQ5 := (SQ.alloc C _).gro (C.alloc _) G5
      replace G5 := (G.alloc _).trans G5
      have pc0 := Rb5.cell
      have pf0 := Rb5.frozen
      go_wp2_with fail
      have H := Rb5.set_ 1 (.string z)
      simp only [List.setIfInBounds_toArray, List.set_cons_succ, List.set_cons_zero] at H
      go_meet
      exact ⟨k, z, t, _, _, q, X, A, Q, cx, ca, cq, _, C5.setb Rb5.2.2 _, G5.setb (by omega) _, R5.far (by omega) _, H, SX5.setb Rb5.2.1 _, SA5.setb Rb5.2.1 _, SQ5.setb Rb5.2.1 _, by omega⟩
    have b1 : (xx == 1) = false := by simp [x1]
    by_cases x2 : xx = 2
    · subst x2
      have hx0 : ¬ (Value.slice AX lx.length cX).ownBlock = some rb := fun e => by have := hXl _ e; omega
      have hx1 : ¬ (Value.slice AX lx.length cX).ownBlock = some w.heap.size := fun e => by have := OX.1.lt _ e; omega
      have ha0 : ¬ (Value.slice AA la.length cA).ownBlock = some rb := fun e => by have := hAl _ e; omega
      have ha1 : ¬ (Value.slice AA la.length cA).ownBlock = some w.heap.size := fun e => by have := OA.1.lt _ e; omega
      obtain ⟨X, cx, A, ca, ex, ea, E⟩ := close2 (n := 1934) OX OA SQ C G (by omega) (by omega) (by exact hsz)
      replace Rb := (Rb.freeze (V := fun b => (Value.slice AX lx.length cX).ownBlock = some b) hx0).freeze (V := fun b => (Value.slice AA la.length cA).ownBlock = some b) ha0
      replace R := (R.freeze (V := fun b => (Value.slice AX lx.length cX).ownBlock = some b) hx1).freeze (V := fun b => (Value.slice AA la.length cA).ownBlock = some b) ha1
      rw [ex, ea] at Rb R E
      obtain ⟨hsE, SX, SA, SQ, C, G⟩ := E
      clear ex ea OX OA
      clear hx0 hx1 ha0 ha1 hXl hAl hXm
      go_wp2_with fail
      refine (cStr w4.heap.size 3 [⟨#[]⟩, ⟨#[116]⟩, ⟨#[65]⟩] (C.alloc _) rfl (by omega) (by omega) (Blk.new w4 _ _) (by have := C.lt; omega)).mono ?_; rintro e w5 ⟨⟨z, rfl, _⟩, C5, G5⟩
      have Rb5 := (Rb.alloc _).gro G5
      have R5 := (R.alloc _).gro G5
      have SX5 := (SX.alloc C _).gro (C.alloc _) G5
      have SA5 := (SA.alloc C _).gro (C.alloc _) G5
      have SQ5 := (SQ.alloc C _).gro (C.alloc _) G5
      replace G5 := (G.alloc _).trans G5
      have pc0 := Rb5.cell
      have pf0 := Rb5.frozen
      go_wp2_with fail
      have H := Rb5.set_ 2 (.string z)
      simp only [List.setIfInBounds_toArray, List.set_cons_succ, List.set_cons_zero] at H
      go_meet
      exact ⟨k, s, z, _, _, q, X, A, Q, cx, ca, cq, _, C5.setb Rb5.2.2 _, G5.setb (by omega) _, R5.far (by omega) _, H, SX5.setb Rb5.2.1 _, SA5.setb Rb5.2.1 _, SQ5.setb Rb5.2.1 _, by omega⟩
    have b2 : (xx == 2) = false := by simp [x2]
    by_cases x3 : xx = 3
    · subst x3
      obtain ⟨j0, hj, hy0, hy1, hy2⟩ := info_parts info_Expr
      have hoth : ∀ k, (Value.slice AA la.length cA).ownBlock = some k → ∀ j, (Value.slice AX lx.length cX).ownBlock = some j → j < k := fun k e j h => by have := (OA.1.lt k e).1; have := hXm j h; omega
      go_upto_region 10 with fail
      have hrbw := Rb.lt
      have hl7 := hXl
      have hothl := hAl
      have hll : lx.length ≤ 100000 := by have h1 := mkFr_len LX; have h2 := (mkFr LX).len_size; have h3 := OX.2.1; omega
      refine wp_region_any (by kernel_rfl) ?_
      change wpAny _ _ _ _ _ _ _ (World.drew _)
      have bd := (Below.refl w4.heap.size w4).drew
      replace Rb := Rb.below bd
      replace R := R.below bd
      replace OX := OX.below C bd
      replace OA := OA.below C bd
      replace SQ := SQ.below C bd
      replace G := G.below bd
      replace C := C.below bd
      clear bd
      generalize w4.drew = wd at Rb R OX OA SQ G C ⊢
      refine wpAny_take (i := 0) (oi := ⟨some 30, _, _, _, _, _⟩) (v := ?_) rfl (by kernel_rfl) (by kernel_rfl) (by kernel_rfl) (fun _ _ _ h => h) (Or.inl ⟨by rfl, ?_⟩) ?_
      case refine_2 => (intro w; go_simp; first | done | with_reducible rfl)
      simp only [Act.put, List.setIfInBounds_toArray, List.set_cons_zero, List.set_cons_succ]
      refine wpAny_take (i := 2) (oi := ⟨some 32, _, _, _, _, _⟩) (v := ?_) rfl (by kernel_rfl) (by kernel_rfl) (by kernel_rfl) (fun _ _ _ h => h) (Or.inl ⟨by rfl, ?_⟩) ?_
      case refine_2 => (intro w; go_simp; first | done | with_reducible rfl)
      simp only [Act.put, List.setIfInBounds_toArray, List.set_cons_zero, List.set_cons_succ]
      refine wpAny_ready (rs := [1, 3]) (by kernel_rfl) (by simp) ?_
      refine AllReady.cons (o := ⟨some 31, _, _, _, _, _⟩) rfl (fun K hK => ?_) (AllReady.cons (o := ⟨some 33, _, _, _, _, _⟩) rfl (fun K hK => ?_) AllReady.nil)
      · have pc0 := Rb.cell
        have pf0 := Rb.frozen
        try have pc1 := (Rb.alloc (.cells #[.int .i64 y, .int .i64 yn, .string ys, .slice Ay ky.len cy] 26)).cell
        try have pf1 := (Rb.alloc (.cells #[.int .i64 y, .int .i64 yn, .string ys, .slice Ay ky.len cy] 26)).frozen
        go_simp
        go_wp2_with fail
        clear pc0 pf0
        try clear pc1 pf1
        try (refine hK _ _ ?_; clear hK K)
        try simp only [Act.put, List.setIfInBounds_toArray, List.set_cons_zero, List.set_cons_succ]
        refine wpAny_ready (rs := [3]) (by kernel_rfl) (by simp) ?_
        refine AllReady.cons (o := ⟨some 33, _, _, _, _, _⟩) rfl (fun K hK => ?_) AllReady.nil
        go_simp
        refine (dAny8 B g _ _ C).mono ?_; rintro e w5 ⟨y, yn, ys, ky, Ay, cy, U5, rfl, hky, hSy, C5, G5⟩
        replace Rb := Rb.gro G5
        replace R := R.gro G5
        replace OX := OX.gro C G5
        replace OA := OA.gro C G5
        replace SQ := SQ.gro C G5
        replace G := G.trans G5
        clear C
        have C := C5
        clear C5
        go_wp2_with fail
        try (refine hK _ _ ?_; clear hK K)
        try simp only [Act.put, List.setIfInBounds_toArray, List.set_cons_zero, List.set_cons_succ]
        refine wpAny_ready (rs := [4]) (by kernel_rfl) (by simp) ?_
        refine AllReady.cons (o := ⟨some 34, _, _, _, _, _⟩) rfl (fun K hK => ?_) AllReady.nil
        go_simp
        go_wp2_with fail
        try (refine hK _ _ ?_; clear hK K)
        try simp only [Act.put, List.setIfInBounds_toArray, List.set_cons_zero, List.set_cons_succ]
        refine wpAny_ready (rs := [5]) (by kernel_rfl) (by simp) ?_
        refine AllReady.cons (o := ⟨some 35, _, _, _, _, _⟩) rfl (fun K hK => ?_) AllReady.nil
        have hbw := Rb.lt
        refine step_pushB rfl (.tmp 31) (.tmp 34) 24 rfl w1.heap.size 26 j0 (.agg #[.int .i64 0, .int .i64 0, .string ⟨#[]⟩, .slice none 0 0]) 4 56 Try.underlying24 hj hy0 hy1 hy2 rfl (by decide) (Value.slice AX lx.length cX) _ _ rfl OX.1.1 [.int .i64 y, .int .i64 yn, .string ys, .slice Ay ky.len cy] rfl rfl rfl (by omega) (by omega) (by omega) ?_
        intro v' w7 hO7 hg7 hv7
        obtain ⟨A7, c7, rfl⟩ := (Row.mk hO7).form
        have hb7 := fun k e => OX.1.lt k e
        have hu7 := OX.1.2.1
        have F7 := (OX.2.snoc (a := (y, yn, ys)) (c := cy) hSy).row C hg7 hu7
        have O7 := OX.1.push C hO7 hv7
        have OA7 := OA.row C hg7 hu7 (fun k e h => by have := hoth k e k h; omega)
        have SQ7 := SQ.row C hg7 hu7
        have Rb7 := Rb.row hg7 (fun e => by have := hl7 _ e.symm; omega)
        have R7 := R.row hg7 (fun e => by have := hb7 _ e.symm; omega)
        have G7 := G.row hg7 (fun k e => by have := hb7 k e; omega)
        have C7 := C.row hg7 (fun k e => by have := hb7 k e; have := hC.lt; omega)
        have hn7 : (Value.slice A7 (lx.length + 1) c7).ownBlock ≠ some rb := fun e => by
          rcases hv7 with h7 | ⟨k7, h7, h8⟩
          · have := hl7 _ (h7 ▸ e); omega
          · rw [h7] at e; injection e with e; have := Rb.lt; omega
        try (refine hK _ _ ?_; clear hK K)
        try simp only [Act.put, List.setIfInBounds_toArray, List.set_cons_zero, List.set_cons_succ]
        refine wpAny_take (i := 6) (oi := ⟨some 36, _, _, _, _, _⟩) (v := ?_) rfl (by kernel_rfl) (by kernel_rfl) (by kernel_rfl) (fun _ _ _ h => h) (Or.inl ⟨by rfl, ?_⟩) ?_
        case refine_2 => (intro w; go_simp; first | done | with_reducible rfl)
        simp only [Act.put, List.setIfInBounds_toArray, List.set_cons_zero, List.set_cons_succ]
        refine wpAny_ready (rs := [7]) (by kernel_rfl) (by simp) ?_
        refine AllReady.cons (o := ⟨none, _, _, _, _, _⟩) rfl (fun K hK => ?_) AllReady.nil
        have pc0 := Rb7.cell
        have pf0 := Rb7.frozen
        go_simp
        go_wp2_with fail
        clear pc0 pf0
        try (refine hK _ _ ?_; clear hK K)
        try simp only [Act.put, List.setIfInBounds_toArray, List.set_cons_zero, List.set_cons_succ]
        refine wpAny_done (by kernel_rfl) ?_ _
        go_wp2_with fail
        have O8 : Rw g U5 w7 w1.heap.size 26 4 (Value.slice A7 (lx.length + 1) c7) (lx ++ [((y, yn, ys), Value.slice Ay ky.len cy)]).length (flat (rC exprC) (lx ++ [((y, yn, ys), Value.slice Ay ky.len cy)])) := by
          rw [List.length_append, ← flat_snoc]
          exact O7
        have Rb8 := Rb7.set_ 3 (Value.slice A7 (lx.length + 1) c7)
        simp only [List.setIfInBounds_toArray, List.set_cons_succ, List.set_cons_zero] at Rb8
        replace OX : RX g U5 _ w1.heap.size (Value.slice A7 (lx.length + 1) c7) (LX ++ [((y, yn, ys), ky)]) (lx ++ [((y, yn, ys), Value.slice Ay ky.len cy)]) := ⟨O8.setb (j := 3) hn7 (Value.slice A7 (lx.length + 1) c7), F7.setb Rb7.2.1 (Value.slice A7 (lx.length + 1) c7)⟩
        replace OA := OA7.setb (j := 3) (b := rb) (fun e => by have := hothl _ e; omega) Rb7.2.1 (Value.slice A7 (lx.length + 1) c7)
        replace SQ := SQ7.setb (j := 3) Rb7.2.1 (Value.slice A7 (lx.length + 1) c7)
        replace R := R7.far (b := rb) (j := 3) (by omega) (Value.slice A7 (lx.length + 1) c7)
        replace C := C7.setb (b := rb) (j := 3) Rb7.2.2 (Value.slice A7 (lx.length + 1) c7)
        replace G := G7.setb (b := rb) (j := 3) (by omega) (Value.slice A7 (lx.length + 1) c7)
        clear Rb
        have Rb := Rb8
        obtain ⟨vN, hvN⟩ : ∃ vN, vN = (Value.slice A7 (lx.length + 1) c7) := ⟨_, rfl⟩
        rw [← hvN] at OX Rb R SQ C G OA hn7 ⊢
        generalize w7.setCell ⟨rb, 3, none⟩ vN = w8 at OX OA Rb R SQ C G ⊢
        have hxN : ¬ vN.ownBlock = some w.heap.size := fun e => by have := OX.1.lt _ e; omega
        obtain ⟨X, cx, A, ca, ex, ea, E⟩ := close2 (n := 2200) OX OA SQ C G (by omega) (by omega) (by have h1 := size_snocE LX (y, yn, ys) ky; omega)
        have ha0 : ¬ (Value.slice AA la.length cA).ownBlock = some rb := fun e => by have := hAl _ e; omega
        have ha1 : ¬ (Value.slice AA la.length cA).ownBlock = some w.heap.size := fun e => by have := OA.1.lt _ e; omega
        replace Rb := (Rb.freeze (V := fun b => vN.ownBlock = some b) hn7).freeze (V := fun b => (Value.slice AA la.length cA).ownBlock = some b) ha0
        replace R := (R.freeze (V := fun b => vN.ownBlock = some b) hxN).freeze (V := fun b => (Value.slice AA la.length cA).ownBlock = some b) ha1
        rw [ex, ea] at Rb R E
        obtain ⟨hsE, SX, SA, SQ, C, G⟩ := E
        go_meet
        exact ⟨k, s, t, _, _, q, X, A, Q, cx, ca, cq, _, C, G, R, Rb, SX, SA, SQ, hsE⟩
      · go_simp
        refine (dAny8 B g _ _ C).mono ?_; rintro e w5 ⟨y, yn, ys, ky, Ay, cy, U5, rfl, hky, hSy, C5, G5⟩
        replace Rb := Rb.gro G5
        replace R := R.gro G5
        replace OX := OX.gro C G5
        replace OA := OA.gro C G5
        replace SQ := SQ.gro C G5
        replace G := G.trans G5
        clear C
        have C := C5
        clear C5
        go_wp2_with fail
        try (refine hK _ _ ?_; clear hK K)
        try simp only [Act.put, List.setIfInBounds_toArray, List.set_cons_zero, List.set_cons_succ]
        refine wpAny_ready (rs := [1, 4]) (by kernel_rfl) (by simp) ?_
        refine AllReady.cons (o := ⟨some 31, _, _, _, _, _⟩) rfl (fun K hK => ?_) (AllReady.cons (o := ⟨some 34, _, _, _, _, _⟩) rfl (fun K hK => ?_) AllReady.nil)
        · have pc0 := Rb.cell
          have pf0 := Rb.frozen
          try have pc1 := (Rb.alloc (.cells #[.int .i64 y, .int .i64 yn, .string ys, .slice Ay ky.len cy] 26)).cell
          try have pf1 := (Rb.alloc (.cells #[.int .i64 y, .int .i64 yn, .string ys, .slice Ay ky.len cy] 26)).frozen
          go_simp
          go_wp2_with fail
          clear pc0 pf0
          try clear pc1 pf1
          try (refine hK _ _ ?_; clear hK K)
          try simp only [Act.put, List.setIfInBounds_toArray, List.set_cons_zero, List.set_cons_succ]
          refine wpAny_ready (rs := [4]) (by kernel_rfl) (by simp) ?_
          refine AllReady.cons (o := ⟨some 34, _, _, _, _, _⟩) rfl (fun K hK => ?_) AllReady.nil
          go_simp
          go_wp2_with fail
          try (refine hK _ _ ?_; clear hK K)
          try simp only [Act.put, List.setIfInBounds_toArray, List.set_cons_zero, List.set_cons_succ]
          refine wpAny_ready (rs := [5]) (by kernel_rfl) (by simp) ?_
          refine AllReady.cons (o := ⟨some 35, _, _, _, _, _⟩) rfl (fun K hK => ?_) AllReady.nil
          have hbw := Rb.lt
          refine step_pushB rfl (.tmp 31) (.tmp 34) 24 rfl w1.heap.size 26 j0 (.agg #[.int .i64 0, .int .i64 0, .string ⟨#[]⟩, .slice none 0 0]) 4 56 Try.underlying24 hj hy0 hy1 hy2 rfl (by decide) (Value.slice AX lx.length cX) _ _ rfl OX.1.1 [.int .i64 y, .int .i64 yn, .string ys, .slice Ay ky.len cy] rfl rfl rfl (by omega) (by omega) (by omega) ?_
          intro v' w7 hO7 hg7 hv7
          obtain ⟨A7, c7, rfl⟩ := (Row.mk hO7).form
          have hb7 := fun k e => OX.1.lt k e
          have hu7 := OX.1.2.1
          have F7 := (OX.2.snoc (a := (y, yn, ys)) (c := cy) hSy).row C hg7 hu7
          have O7 := OX.1.push C hO7 hv7
          have OA7 := OA.row C hg7 hu7 (fun k e h => by have := hoth k e k h; omega)
          have SQ7 := SQ.row C hg7 hu7
          have Rb7 := Rb.row hg7 (fun e => by have := hl7 _ e.symm; omega)
          have R7 := R.row hg7 (fun e => by have := hb7 _ e.symm; omega)
          have G7 := G.row hg7 (fun k e => by have := hb7 k e; omega)
          have C7 := C.row hg7 (fun k e => by have := hb7 k e; have := hC.lt; omega)
          have hn7 : (Value.slice A7 (lx.length + 1) c7).ownBlock ≠ some rb := fun e => by
            rcases hv7 with h7 | ⟨k7, h7, h8⟩
            · have := hl7 _ (h7 ▸ e); omega
            · rw [h7] at e; injection e with e; have := Rb.lt; omega
          try (refine hK _ _ ?_; clear hK K)
          try simp only [Act.put, List.setIfInBounds_toArray, List.set_cons_zero, List.set_cons_succ]
          refine wpAny_take (i := 6) (oi := ⟨some 36, _, _, _, _, _⟩) (v := ?_) rfl (by kernel_rfl) (by kernel_rfl) (by kernel_rfl) (fun _ _ _ h => h) (Or.inl ⟨by rfl, ?_⟩) ?_
          case refine_2 => (intro w; go_simp; first | done | with_reducible rfl)
          simp only [Act.put, List.setIfInBounds_toArray, List.set_cons_zero, List.set_cons_succ]
          refine wpAny_ready (rs := [7]) (by kernel_rfl) (by simp) ?_
          refine AllReady.cons (o := ⟨none, _, _, _, _, _⟩) rfl (fun K hK => ?_) AllReady.nil
          have pc0 := Rb7.cell
          have pf0 := Rb7.frozen
          go_simp
          go_wp2_with fail
          clear pc0 pf0
          try (refine hK _ _ ?_; clear hK K)
          try simp only [Act.put, List.setIfInBounds_toArray, List.set_cons_zero, List.set_cons_succ]
          refine wpAny_done (by kernel_rfl) ?_ _
          go_wp2_with fail
          have O8 : Rw g U5 w7 w1.heap.size 26 4 (Value.slice A7 (lx.length + 1) c7) (lx ++ [((y, yn, ys), Value.slice Ay ky.len cy)]).length (flat (rC exprC) (lx ++ [((y, yn, ys), Value.slice Ay ky.len cy)])) := by
            rw [List.length_append, ← flat_snoc]
            exact O7
          have Rb8 := Rb7.set_ 3 (Value.slice A7 (lx.length + 1) c7)
          simp only [List.setIfInBounds_toArray, List.set_cons_succ, List.set_cons_zero] at Rb8
          replace OX : RX g U5 _ w1.heap.size (Value.slice A7 (lx.length + 1) c7) (LX ++ [((y, yn, ys), ky)]) (lx ++ [((y, yn, ys), Value.slice Ay ky.len cy)]) := ⟨O8.setb (j := 3) hn7 (Value.slice A7 (lx.length + 1) c7), F7.setb Rb7.2.1 (Value.slice A7 (lx.length + 1) c7)⟩
          replace OA := OA7.setb (j := 3) (b := rb) (fun e => by have := hothl _ e; omega) Rb7.2.1 (Value.slice A7 (lx.length + 1) c7)
          replace SQ := SQ7.setb (j := 3) Rb7.2.1 (Value.slice A7 (lx.length + 1) c7)
          replace R := R7.far (b := rb) (j := 3) (by omega) (Value.slice A7 (lx.length + 1) c7)
          replace C := C7.setb (b := rb) (j := 3) Rb7.2.2 (Value.slice A7 (lx.length + 1) c7)
          replace G := G7.setb (b := rb) (j := 3) (by omega) (Value.slice A7 (lx.length + 1) c7)
          clear Rb
          have Rb := Rb8
          obtain ⟨vN, hvN⟩ : ∃ vN, vN = (Value.slice A7 (lx.length + 1) c7) := ⟨_, rfl⟩
          rw [← hvN] at OX Rb R SQ C G OA hn7 ⊢
          generalize w7.setCell ⟨rb, 3, none⟩ vN = w8 at OX OA Rb R SQ C G ⊢
          have hxN : ¬ vN.ownBlock = some w.heap.size := fun e => by have := OX.1.lt _ e; omega
          obtain ⟨X, cx, A, ca, ex, ea, E⟩ := close2 (n := 2200) OX OA SQ C G (by omega) (by omega) (by have h1 := size_snocE LX (y, yn, ys) ky; omega)
          have ha0 : ¬ (Value.slice AA la.length cA).ownBlock = some rb := fun e => by have := hAl _ e; omega
          have ha1 : ¬ (Value.slice AA la.length cA).ownBlock = some w.heap.size := fun e => by have := OA.1.lt _ e; omega
          replace Rb := (Rb.freeze (V := fun b => vN.ownBlock = some b) hn7).freeze (V := fun b => (Value.slice AA la.length cA).ownBlock = some b) ha0
          replace R := (R.freeze (V := fun b => vN.ownBlock = some b) hxN).freeze (V := fun b => (Value.slice AA la.length cA).ownBlock = some b) ha1
          rw [ex, ea] at Rb R E
          obtain ⟨hsE, SX, SA, SQ, C, G⟩ := E
          go_meet
          exact ⟨k, s, t, _, _, q, X, A, Q, cx, ca, cq, _, C, G, R, Rb, SX, SA, SQ, hsE⟩
        · go_simp
          go_wp2_with fail
          try (refine hK _ _ ?_; clear hK K)
          try simp only [Act.put, List.setIfInBounds_toArray, List.set_cons_zero, List.set_cons_succ]
          refine wpAny_ready (rs := [1]) (by kernel_rfl) (by simp) ?_
          refine AllReady.cons (o := ⟨some 31, _, _, _, _, _⟩) rfl (fun K hK => ?_) AllReady.nil
          have pc0 := Rb.cell
          have pf0 := Rb.frozen
          try have pc1 := (Rb.alloc (.cells #[.int .i64 y, .int .i64 yn, .string ys, .slice Ay ky.len cy] 26)).cell
          try have pf1 := (Rb.alloc (.cells #[.int .i64 y, .int .i64 yn, .string ys, .slice Ay ky.len cy] 26)).frozen
          go_simp
          go_wp2_with fail
          clear pc0 pf0
          try clear pc1 pf1
          try (refine hK _ _ ?_; clear hK K)
          try simp only [Act.put, List.setIfInBounds_toArray, List.set_cons_zero, List.set_cons_succ]
          refine wpAny_ready (rs := [5]) (by kernel_rfl) (by simp) ?_
          refine AllReady.cons (o := ⟨some 35, _, _, _, _, _⟩) rfl (fun K hK => ?_) AllReady.nil
          have hbw := Rb.lt
          refine step_pushB rfl (.tmp 31) (.tmp 34) 24 rfl w1.heap.size 26 j0 (.agg #[.int .i64 0, .int .i64 0, .string ⟨#[]⟩, .slice none 0 0]) 4 56 Try.underlying24 hj hy0 hy1 hy2 rfl (by decide) (Value.slice AX lx.length cX) _ _ rfl OX.1.1 [.int .i64 y, .int .i64 yn, .string ys, .slice Ay ky.len cy] rfl rfl rfl (by omega) (by omega) (by omega) ?_
          intro v' w7 hO7 hg7 hv7
          obtain ⟨A7, c7, rfl⟩ := (Row.mk hO7).form
          have hb7 := fun k e => OX.1.lt k e
          have hu7 := OX.1.2.1
          have F7 := (OX.2.snoc (a := (y, yn, ys)) (c := cy) hSy).row C hg7 hu7
          have O7 := OX.1.push C hO7 hv7
          have OA7 := OA.row C hg7 hu7 (fun k e h => by have := hoth k e k h; omega)
          have SQ7 := SQ.row C hg7 hu7
          have Rb7 := Rb.row hg7 (fun e => by have := hl7 _ e.symm; omega)
          have R7 := R.row hg7 (fun e => by have := hb7 _ e.symm; omega)
          have G7 := G.row hg7 (fun k e => by have := hb7 k e; omega)
          have C7 := C.row hg7 (fun k e => by have := hb7 k e; have := hC.lt; omega)
          have hn7 : (Value.slice A7 (lx.length + 1) c7).ownBlock ≠ some rb := fun e => by
            rcases hv7 with h7 | ⟨k7, h7, h8⟩
            · have := hl7 _ (h7 ▸ e); omega
            · rw [h7] at e; injection e with e; have := Rb.lt; omega
          try (refine hK _ _ ?_; clear hK K)
          try simp only [Act.put, List.setIfInBounds_toArray, List.set_cons_zero, List.set_cons_succ]
          refine wpAny_take (i := 6) (oi := ⟨some 36, _, _, _, _, _⟩) (v := ?_) rfl (by kernel_rfl) (by kernel_rfl) (by kernel_rfl) (fun _ _ _ h => h) (Or.inl ⟨by rfl, ?_⟩) ?_
          case refine_2 => (intro w; go_simp; first | done | with_reducible rfl)
          simp only [Act.put, List.setIfInBounds_toArray, List.set_cons_zero, List.set_cons_succ]
          refine wpAny_ready (rs := [7]) (by kernel_rfl) (by simp) ?_
          refine AllReady.cons (o := ⟨none, _, _, _, _, _⟩) rfl (fun K hK => ?_) AllReady.nil
          have pc0 := Rb7.cell
          have pf0 := Rb7.frozen
          go_simp
          go_wp2_with fail
          clear pc0 pf0
          try (refine hK _ _ ?_; clear hK K)
          try simp only [Act.put, List.setIfInBounds_toArray, List.set_cons_zero, List.set_cons_succ]
          refine wpAny_done (by kernel_rfl) ?_ _
          go_wp2_with fail
          have O8 : Rw g U5 w7 w1.heap.size 26 4 (Value.slice A7 (lx.length + 1) c7) (lx ++ [((y, yn, ys), Value.slice Ay ky.len cy)]).length (flat (rC exprC) (lx ++ [((y, yn, ys), Value.slice Ay ky.len cy)])) := by
            rw [List.length_append, ← flat_snoc]
            exact O7
          have Rb8 := Rb7.set_ 3 (Value.slice A7 (lx.length + 1) c7)
          simp only [List.setIfInBounds_toArray, List.set_cons_succ, List.set_cons_zero] at Rb8
          replace OX : RX g U5 _ w1.heap.size (Value.slice A7 (lx.length + 1) c7) (LX ++ [((y, yn, ys), ky)]) (lx ++ [((y, yn, ys), Value.slice Ay ky.len cy)]) := ⟨O8.setb (j := 3) hn7 (Value.slice A7 (lx.length + 1) c7), F7.setb Rb7.2.1 (Value.slice A7 (lx.length + 1) c7)⟩
          replace OA := OA7.setb (j := 3) (b := rb) (fun e => by have := hothl _ e; omega) Rb7.2.1 (Value.slice A7 (lx.length + 1) c7)
          replace SQ := SQ7.setb (j := 3) Rb7.2.1 (Value.slice A7 (lx.length + 1) c7)
          replace R := R7.far (b := rb) (j := 3) (by omega) (Value.slice A7 (lx.length + 1) c7)
          replace C := C7.setb (b := rb) (j := 3) Rb7.2.2 (Value.slice A7 (lx.length + 1) c7)
          replace G := G7.setb (b := rb) (j := 3) (by omega) (Value.slice A7 (lx.length + 1) c7)
          clear Rb
          have Rb := Rb8
          obtain ⟨vN, hvN⟩ : ∃ vN, vN = (Value.slice A7 (lx.length + 1) c7) := ⟨_, rfl⟩
          rw [← hvN] at OX Rb R SQ C G OA hn7 ⊢
          generalize w7.setCell ⟨rb, 3, none⟩ vN = w8 at OX OA Rb R SQ C G ⊢
          have hxN : ¬ vN.ownBlock = some w.heap.size := fun e => by have := OX.1.lt _ e; omega
          obtain ⟨X, cx, A, ca, ex, ea, E⟩ := close2 (n := 2200) OX OA SQ C G (by omega) (by omega) (by have h1 := size_snocE LX (y, yn, ys) ky; omega)
          have ha0 : ¬ (Value.slice AA la.length cA).ownBlock = some rb := fun e => by have := hAl _ e; omega
          have ha1 : ¬ (Value.slice AA la.length cA).ownBlock = some w.heap.size := fun e => by have := OA.1.lt _ e; omega
          replace Rb := (Rb.freeze (V := fun b => vN.ownBlock = some b) hn7).freeze (V := fun b => (Value.slice AA la.length cA).ownBlock = some b) ha0
          replace R := (R.freeze (V := fun b => vN.ownBlock = some b) hxN).freeze (V := fun b => (Value.slice AA la.length cA).ownBlock = some b) ha1
          rw [ex, ea] at Rb R E
          obtain ⟨hsE, SX, SA, SQ, C, G⟩ := E
          go_meet
          exact ⟨k, s, t, _, _, q, X, A, Q, cx, ca, cq, _, C, G, R, Rb, SX, SA, SQ, hsE⟩
    have b3 : (xx == 3) = false := by simp [x3]
    by_cases x4 : xx = 4
    · subst x4
      obtain ⟨j0, hj, hy0, hy1, hy2⟩ := info_parts info_St9
      have hoth : ∀ k, (Value.slice AX lx.length cX).ownBlock = some k → ∀ j, (Value.slice AA la.length cA).ownBlock = some j → k < j := fun k e j h => by have := (OA.1.lt j h).1; have := hXm k e; omega
      replace OA := OA.base_ hmid (by have := hC.lt; omega)
      go_upto_region 12 with fail
      have hrbw := Rb.lt
      have hl7 := hAl
      have hothl := hXl
      have hll : la.length ≤ 100000 := by have h1 := mkSt_len LA; have h2 := (mkSt LA).len_size; have h3 := OA.2.1; omega
      refine wp_region_any (by kernel_rfl) ?_
      change wpAny _ _ _ _ _ _ _ (World.drew _)
      have bd := (Below.refl w4.heap.size w4).drew
      replace Rb := Rb.below bd
      replace R := R.below bd
      replace OX := OX.below C bd
      replace OA := OA.below C bd
      replace SQ := SQ.below C bd
      replace G := G.below bd
      replace C := C.below bd
      clear bd
      generalize w4.drew = wd at Rb R OX OA SQ G C ⊢
      refine wpAny_take (i := 0) (oi := ⟨some 39, _, _, _, _, _⟩) (v := ?_) rfl (by kernel_rfl) (by kernel_rfl) (by kernel_rfl) (fun _ _ _ h => h) (Or.inl ⟨by rfl, ?_⟩) ?_
      case refine_2 => (intro w; go_simp; first | done | with_reducible rfl)
      simp only [Act.put, List.setIfInBounds_toArray, List.set_cons_zero, List.set_cons_succ]
      refine wpAny_take (i := 2) (oi := ⟨some 41, _, _, _, _, _⟩) (v := ?_) rfl (by kernel_rfl) (by kernel_rfl) (by kernel_rfl) (fun _ _ _ h => h) (Or.inl ⟨by rfl, ?_⟩) ?_
      case refine_2 => (intro w; go_simp; first | done | with_reducible rfl)
      simp only [Act.put, List.setIfInBounds_toArray, List.set_cons_zero, List.set_cons_succ]
      refine wpAny_ready (rs := [1, 3]) (by kernel_rfl) (by simp) ?_
      refine AllReady.cons (o := ⟨some 40, _, _, _, _, _⟩) rfl (fun K hK => ?_) (AllReady.cons (o := ⟨some 42, _, _, _, _, _⟩) rfl (fun K hK => ?_) AllReady.nil)
      · have pc0 := Rb.cell
        have pf0 := Rb.frozen
        try have pc1 := (Rb.alloc (.cells #[.int .i64 yk, .string ys, .string yt, .slice YX yx.len ycx, .slice YA yp.len yca, .slice YQ yq.len ycq] 31)).cell
        try have pf1 := (Rb.alloc (.cells #[.int .i64 yk, .string ys, .string yt, .slice YX yx.len ycx, .slice YA yp.len yca, .slice YQ yq.len ycq] 31)).frozen
        go_simp
        go_wp2_with fail
        clear pc0 pf0
        try clear pc1 pf1
        try (refine hK _ _ ?_; clear hK K)
        try simp only [Act.put, List.setIfInBounds_toArray, List.set_cons_zero, List.set_cons_succ]
        refine wpAny_ready (rs := [3]) (by kernel_rfl) (by simp) ?_
        refine AllReady.cons (o := ⟨some 42, _, _, _, _, _⟩) rfl (fun K hK => ?_) AllReady.nil
        go_simp
        refine ((dDraw9 B g false 0 (by omega) _ _ C).mono fun _ _ h => h.close).mono ?_; rintro e w5 ⟨yk, ys, yt, yx, yp, yq, YX, YA, YQ, ycx, yca, ycq, U5, rfl, hsY, hYX, hYA, hYQ, C5, G5⟩
        replace hsY : yx.size + yp.size + yq.size ≤ 44 := hsY
        replace Rb := Rb.gro G5
        replace R := R.gro G5
        replace OX := OX.gro C G5
        replace OA := OA.gro C G5
        replace SQ := SQ.gro C G5
        replace G := G.trans G5
        clear C
        have C := C5
        clear C5
        go_wp2_with fail
        try (refine hK _ _ ?_; clear hK K)
        try simp only [Act.put, List.setIfInBounds_toArray, List.set_cons_zero, List.set_cons_succ]
        refine wpAny_ready (rs := [4]) (by kernel_rfl) (by simp) ?_
        refine AllReady.cons (o := ⟨some 43, _, _, _, _, _⟩) rfl (fun K hK => ?_) AllReady.nil
        go_simp
        go_wp2_with fail
        try (refine hK _ _ ?_; clear hK K)
        try simp only [Act.put, List.setIfInBounds_toArray, List.set_cons_zero, List.set_cons_succ]
        refine wpAny_ready (rs := [5]) (by kernel_rfl) (by simp) ?_
        refine AllReady.cons (o := ⟨some 44, _, _, _, _, _⟩) rfl (fun K hK => ?_) AllReady.nil
        have hbw := Rb.lt
        refine step_pushB rfl (.tmp 40) (.tmp 43) 29 rfl w1.heap.size 31 j0 (.agg #[.int .i64 0, .string ⟨#[]⟩, .string ⟨#[]⟩, .slice none 0 0, .slice none 0 0, .slice none 0 0]) 6 112 Try.underlying29 hj hy0 hy1 hy2 rfl (by decide) (Value.slice AA la.length cA) _ _ rfl OA.1.1 [.int .i64 yk, .string ys, .string yt, .slice YX yx.len ycx, .slice YA yp.len yca, .slice YQ yq.len ycq] rfl rfl rfl (by omega) (by omega) (by omega) ?_
        intro v' w7 hO7 hg7 hv7
        obtain ⟨A7, c7, rfl⟩ := (Row.mk hO7).form
        have hb7 := fun k e => OA.1.lt k e
        have hu7 := OA.1.2.1
        have F7 := (OA.2.snoc (a := (yk, ys, yt)) (cx := ycx) (ca := yca) (cb := ycq) hYX hYA hYQ).row C hg7 hu7
        have O7 := OA.1.push C hO7 hv7
        have OX7 := OX.row C hg7 hu7 (fun k e h => by have := hoth k e k h; omega)
        have SQ7 := SQ.row C hg7 hu7
        have Rb7 := Rb.row hg7 (fun e => by have := hl7 _ e.symm; omega)
        have R7 := R.row hg7 (fun e => by have := hb7 _ e.symm; omega)
        have G7 := G.row hg7 (fun k e => by have := hb7 k e; omega)
        have C7 := C.row hg7 (fun k e => by have := hb7 k e; have := hC.lt; omega)
        have hn7 : (Value.slice A7 (la.length + 1) c7).ownBlock ≠ some rb := fun e => by
          rcases hv7 with h7 | ⟨k7, h7, h8⟩
          · have := hl7 _ (h7 ▸ e); omega
          · rw [h7] at e; injection e with e; have := Rb.lt; omega
        try (refine hK _ _ ?_; clear hK K)
        try simp only [Act.put, List.setIfInBounds_toArray, List.set_cons_zero, List.set_cons_succ]
        refine wpAny_take (i := 6) (oi := ⟨some 45, _, _, _, _, _⟩) (v := ?_) rfl (by kernel_rfl) (by kernel_rfl) (by kernel_rfl) (fun _ _ _ h => h) (Or.inl ⟨by rfl, ?_⟩) ?_
        case refine_2 => (intro w; go_simp; first | done | with_reducible rfl)
        simp only [Act.put, List.setIfInBounds_toArray, List.set_cons_zero, List.set_cons_succ]
        refine wpAny_ready (rs := [7]) (by kernel_rfl) (by simp) ?_
        refine AllReady.cons (o := ⟨none, _, _, _, _, _⟩) rfl (fun K hK => ?_) AllReady.nil
        have pc0 := Rb7.cell
        have pf0 := Rb7.frozen
        go_simp
        go_wp2_with fail
        clear pc0 pf0
        try (refine hK _ _ ?_; clear hK K)
        try simp only [Act.put, List.setIfInBounds_toArray, List.set_cons_zero, List.set_cons_succ]
        refine wpAny_done (by kernel_rfl) ?_ _
        go_wp2_with fail
        have O8 : Rw g U5 w7 w1.heap.size 31 6 (Value.slice A7 (la.length + 1) c7) (la ++ [((yk, ys, yt), Value.slice YX yx.len ycx, Value.slice YA yp.len yca, Value.slice YQ yq.len ycq)]).length (flat sC (la ++ [((yk, ys, yt), Value.slice YX yx.len ycx, Value.slice YA yp.len yca, Value.slice YQ yq.len ycq)])) := by
          rw [List.length_append, ← flat_snoc]
          exact O7
        have Rb8 := Rb7.set_ 4 (Value.slice A7 (la.length + 1) c7)
        simp only [List.setIfInBounds_toArray, List.set_cons_succ, List.set_cons_zero] at Rb8
        replace OA : RA g U5 _ w1.heap.size (Value.slice A7 (la.length + 1) c7) (LA ++ [((yk, ys, yt), yx, yp, yq)]) (la ++ [((yk, ys, yt), Value.slice YX yx.len ycx, Value.slice YA yp.len yca, Value.slice YQ yq.len ycq)]) := ⟨O8.setb (j := 4) hn7 (Value.slice A7 (la.length + 1) c7), F7.setb Rb7.2.1 (Value.slice A7 (la.length + 1) c7)⟩
        replace OX := OX7.setb (j := 4) (b := rb) (fun e => by have := hothl _ e; omega) Rb7.2.1 (Value.slice A7 (la.length + 1) c7)
        replace SQ := SQ7.setb (j := 4) Rb7.2.1 (Value.slice A7 (la.length + 1) c7)
        replace R := R7.far (b := rb) (j := 4) (by omega) (Value.slice A7 (la.length + 1) c7)
        replace C := C7.setb (b := rb) (j := 4) Rb7.2.2 (Value.slice A7 (la.length + 1) c7)
        replace G := G7.setb (b := rb) (j := 4) (by omega) (Value.slice A7 (la.length + 1) c7)
        clear Rb
        have Rb := Rb8
        obtain ⟨vN, hvN⟩ : ∃ vN, vN = (Value.slice A7 (la.length + 1) c7) := ⟨_, rfl⟩
        rw [← hvN] at OA Rb R SQ C G OX hn7 ⊢
        generalize w7.setCell ⟨rb, 4, none⟩ vN = w8 at OA OX Rb R SQ C G ⊢
        have hxN : ¬ vN.ownBlock = some w.heap.size := fun e => by have := OA.1.lt _ e; omega
        obtain ⟨X, cx, A, ca, ex, ea, E⟩ := close2 (n := 2200) OX OA SQ C G (by omega) (by omega) (by have h1 := size_snocS LA (yk, ys, yt) yx yp yq; omega)
        have ha0 : ¬ (Value.slice AX lx.length cX).ownBlock = some rb := fun e => by have := hXl _ e; omega
        have ha1 : ¬ (Value.slice AX lx.length cX).ownBlock = some w.heap.size := fun e => by have := OX.1.lt _ e; omega
        replace Rb := (Rb.freeze (V := fun b => (Value.slice AX lx.length cX).ownBlock = some b) ha0).freeze (V := fun b => vN.ownBlock = some b) hn7
        replace R := (R.freeze (V := fun b => (Value.slice AX lx.length cX).ownBlock = some b) ha1).freeze (V := fun b => vN.ownBlock = some b) hxN
        rw [ex, ea] at Rb R E
        obtain ⟨hsE, SX, SA, SQ, C, G⟩ := E
        go_meet
        exact ⟨k, s, t, _, _, q, X, A, Q, cx, ca, cq, _, C, G, R, Rb, SX, SA, SQ, hsE⟩
      · go_simp
        refine ((dDraw9 B g false 0 (by omega) _ _ C).mono fun _ _ h => h.close).mono ?_; rintro e w5 ⟨yk, ys, yt, yx, yp, yq, YX, YA, YQ, ycx, yca, ycq, U5, rfl, hsY, hYX, hYA, hYQ, C5, G5⟩
        replace hsY : yx.size + yp.size + yq.size ≤ 44 := hsY
        replace Rb := Rb.gro G5
        replace R := R.gro G5
        replace OX := OX.gro C G5
        replace OA := OA.gro C G5
        replace SQ := SQ.gro C G5
        replace G := G.trans G5
        clear C
        have C := C5
        clear C5
        go_wp2_with fail
        try (refine hK _ _ ?_; clear hK K)
        try simp only [Act.put, List.setIfInBounds_toArray, List.set_cons_zero, List.set_cons_succ]
        refine wpAny_ready (rs := [1, 4]) (by kernel_rfl) (by simp) ?_
        refine AllReady.cons (o := ⟨some 40, _, _, _, _, _⟩) rfl (fun K hK => ?_) (AllReady.cons (o := ⟨some 43, _, _, _, _, _⟩) rfl (fun K hK => ?_) AllReady.nil)
        · have pc0 := Rb.cell
          have pf0 := Rb.frozen
          try have pc1 := (Rb.alloc (.cells #[.int .i64 yk, .string ys, .string yt, .slice YX yx.len ycx, .slice YA yp.len yca, .slice YQ yq.len ycq] 31)).cell
          try have pf1 := (Rb.alloc (.cells #[.int .i64 yk, .string ys, .string yt, .slice YX yx.len ycx, .slice YA yp.len yca, .slice YQ yq.len ycq] 31)).frozen
          go_simp
          go_wp2_with fail
          clear pc0 pf0
          try clear pc1 pf1
          try (refine hK _ _ ?_; clear hK K)
          try simp only [Act.put, List.setIfInBounds_toArray, List.set_cons_zero, List.set_cons_succ]
          refine wpAny_ready (rs := [4]) (by kernel_rfl) (by simp) ?_
          refine AllReady.cons (o := ⟨some 43, _, _, _, _, _⟩) rfl (fun K hK => ?_) AllReady.nil
          go_simp
          go_wp2_with fail
          try (refine hK _ _ ?_; clear hK K)
          try simp only [Act.put, List.setIfInBounds_toArray, List.set_cons_zero, List.set_cons_succ]
          refine wpAny_ready (rs := [5]) (by kernel_rfl) (by simp) ?_
          refine AllReady.cons (o := ⟨some 44, _, _, _, _, _⟩) rfl (fun K hK => ?_) AllReady.nil
          have hbw := Rb.lt
          refine step_pushB rfl (.tmp 40) (.tmp 43) 29 rfl w1.heap.size 31 j0 (.agg #[.int .i64 0, .string ⟨#[]⟩, .string ⟨#[]⟩, .slice none 0 0, .slice none 0 0, .slice none 0 0]) 6 112 Try.underlying29 hj hy0 hy1 hy2 rfl (by decide) (Value.slice AA la.length cA) _ _ rfl OA.1.1 [.int .i64 yk, .string ys, .string yt, .slice YX yx.len ycx, .slice YA yp.len yca, .slice YQ yq.len ycq] rfl rfl rfl (by omega) (by omega) (by omega) ?_
          intro v' w7 hO7 hg7 hv7
          obtain ⟨A7, c7, rfl⟩ := (Row.mk hO7).form
          have hb7 := fun k e => OA.1.lt k e
          have hu7 := OA.1.2.1
          have F7 := (OA.2.snoc (a := (yk, ys, yt)) (cx := ycx) (ca := yca) (cb := ycq) hYX hYA hYQ).row C hg7 hu7
          have O7 := OA.1.push C hO7 hv7
          have OX7 := OX.row C hg7 hu7 (fun k e h => by have := hoth k e k h; omega)
          have SQ7 := SQ.row C hg7 hu7
          have Rb7 := Rb.row hg7 (fun e => by have := hl7 _ e.symm; omega)
          have R7 := R.row hg7 (fun e => by have := hb7 _ e.symm; omega)
          have G7 := G.row hg7 (fun k e => by have := hb7 k e; omega)
          have C7 := C.row hg7 (fun k e => by have := hb7 k e; have := hC.lt; omega)
          have hn7 : (Value.slice A7 (la.length + 1) c7).ownBlock ≠ some rb := fun e => by
            rcases hv7 with h7 | ⟨k7, h7, h8⟩
            · have := hl7 _ (h7 ▸ e); omega
            · rw [h7] at e; injection e with e; have := Rb.lt; omega
          try (refine hK _ _ ?_; clear hK K)
          try simp only [Act.put, List.setIfInBounds_toArray, List.set_cons_zero, List.set_cons_succ]
          refine wpAny_take (i := 6) (oi := ⟨some 45, _, _, _, _, _⟩) (v := ?_) rfl (by kernel_rfl) (by kernel_rfl) (by kernel_rfl) (fun _ _ _ h => h) (Or.inl ⟨by rfl, ?_⟩) ?_
          case refine_2 => (intro w; go_simp; first | done | with_reducible rfl)
          simp only [Act.put, List.setIfInBounds_toArray, List.set_cons_zero, List.set_cons_succ]
          refine wpAny_ready (rs := [7]) (by kernel_rfl) (by simp) ?_
          refine AllReady.cons (o := ⟨none, _, _, _, _, _⟩) rfl (fun K hK => ?_) AllReady.nil
          have pc0 := Rb7.cell
          have pf0 := Rb7.frozen
          go_simp
          go_wp2_with fail
          clear pc0 pf0
          try (refine hK _ _ ?_; clear hK K)
          try simp only [Act.put, List.setIfInBounds_toArray, List.set_cons_zero, List.set_cons_succ]
          refine wpAny_done (by kernel_rfl) ?_ _
          go_wp2_with fail
          have O8 : Rw g U5 w7 w1.heap.size 31 6 (Value.slice A7 (la.length + 1) c7) (la ++ [((yk, ys, yt), Value.slice YX yx.len ycx, Value.slice YA yp.len yca, Value.slice YQ yq.len ycq)]).length (flat sC (la ++ [((yk, ys, yt), Value.slice YX yx.len ycx, Value.slice YA yp.len yca, Value.slice YQ yq.len ycq)])) := by
            rw [List.length_append, ← flat_snoc]
            exact O7
          have Rb8 := Rb7.set_ 4 (Value.slice A7 (la.length + 1) c7)
          simp only [List.setIfInBounds_toArray, List.set_cons_succ, List.set_cons_zero] at Rb8
          replace OA : RA g U5 _ w1.heap.size (Value.slice A7 (la.length + 1) c7) (LA ++ [((yk, ys, yt), yx, yp, yq)]) (la ++ [((yk, ys, yt), Value.slice YX yx.len ycx, Value.slice YA yp.len yca, Value.slice YQ yq.len ycq)]) := ⟨O8.setb (j := 4) hn7 (Value.slice A7 (la.length + 1) c7), F7.setb Rb7.2.1 (Value.slice A7 (la.length + 1) c7)⟩
          replace OX := OX7.setb (j := 4) (b := rb) (fun e => by have := hothl _ e; omega) Rb7.2.1 (Value.slice A7 (la.length + 1) c7)
          replace SQ := SQ7.setb (j := 4) Rb7.2.1 (Value.slice A7 (la.length + 1) c7)
          replace R := R7.far (b := rb) (j := 4) (by omega) (Value.slice A7 (la.length + 1) c7)
          replace C := C7.setb (b := rb) (j := 4) Rb7.2.2 (Value.slice A7 (la.length + 1) c7)
          replace G := G7.setb (b := rb) (j := 4) (by omega) (Value.slice A7 (la.length + 1) c7)
          clear Rb
          have Rb := Rb8
          obtain ⟨vN, hvN⟩ : ∃ vN, vN = (Value.slice A7 (la.length + 1) c7) := ⟨_, rfl⟩
          rw [← hvN] at OA Rb R SQ C G OX hn7 ⊢
          generalize w7.setCell ⟨rb, 4, none⟩ vN = w8 at OA OX Rb R SQ C G ⊢
          have hxN : ¬ vN.ownBlock = some w.heap.size := fun e => by have := OA.1.lt _ e; omega
          obtain ⟨X, cx, A, ca, ex, ea, E⟩ := close2 (n := 2200) OX OA SQ C G (by omega) (by omega) (by have h1 := size_snocS LA (yk, ys, yt) yx yp yq; omega)
          have ha0 : ¬ (Value.slice AX lx.length cX).ownBlock = some rb := fun e => by have := hXl _ e; omega
          have ha1 : ¬ (Value.slice AX lx.length cX).ownBlock = some w.heap.size := fun e => by have := OX.1.lt _ e; omega
          replace Rb := (Rb.freeze (V := fun b => (Value.slice AX lx.length cX).ownBlock = some b) ha0).freeze (V := fun b => vN.ownBlock = some b) hn7
          replace R := (R.freeze (V := fun b => (Value.slice AX lx.length cX).ownBlock = some b) ha1).freeze (V := fun b => vN.ownBlock = some b) hxN
          rw [ex, ea] at Rb R E
          obtain ⟨hsE, SX, SA, SQ, C, G⟩ := E
          go_meet
          exact ⟨k, s, t, _, _, q, X, A, Q, cx, ca, cq, _, C, G, R, Rb, SX, SA, SQ, hsE⟩
        · go_simp
          go_wp2_with fail
          try (refine hK _ _ ?_; clear hK K)
          try simp only [Act.put, List.setIfInBounds_toArray, List.set_cons_zero, List.set_cons_succ]
          refine wpAny_ready (rs := [1]) (by kernel_rfl) (by simp) ?_
          refine AllReady.cons (o := ⟨some 40, _, _, _, _, _⟩) rfl (fun K hK => ?_) AllReady.nil
          have pc0 := Rb.cell
          have pf0 := Rb.frozen
          try have pc1 := (Rb.alloc (.cells #[.int .i64 yk, .string ys, .string yt, .slice YX yx.len ycx, .slice YA yp.len yca, .slice YQ yq.len ycq] 31)).cell
          try have pf1 := (Rb.alloc (.cells #[.int .i64 yk, .string ys, .string yt, .slice YX yx.len ycx, .slice YA yp.len yca, .slice YQ yq.len ycq] 31)).frozen
          go_simp
          go_wp2_with fail
          clear pc0 pf0
          try clear pc1 pf1
          try (refine hK _ _ ?_; clear hK K)
          try simp only [Act.put, List.setIfInBounds_toArray, List.set_cons_zero, List.set_cons_succ]
          refine wpAny_ready (rs := [5]) (by kernel_rfl) (by simp) ?_
          refine AllReady.cons (o := ⟨some 44, _, _, _, _, _⟩) rfl (fun K hK => ?_) AllReady.nil
          have hbw := Rb.lt
          refine step_pushB rfl (.tmp 40) (.tmp 43) 29 rfl w1.heap.size 31 j0 (.agg #[.int .i64 0, .string ⟨#[]⟩, .string ⟨#[]⟩, .slice none 0 0, .slice none 0 0, .slice none 0 0]) 6 112 Try.underlying29 hj hy0 hy1 hy2 rfl (by decide) (Value.slice AA la.length cA) _ _ rfl OA.1.1 [.int .i64 yk, .string ys, .string yt, .slice YX yx.len ycx, .slice YA yp.len yca, .slice YQ yq.len ycq] rfl rfl rfl (by omega) (by omega) (by omega) ?_
          intro v' w7 hO7 hg7 hv7
          obtain ⟨A7, c7, rfl⟩ := (Row.mk hO7).form
          have hb7 := fun k e => OA.1.lt k e
          have hu7 := OA.1.2.1
          have F7 := (OA.2.snoc (a := (yk, ys, yt)) (cx := ycx) (ca := yca) (cb := ycq) hYX hYA hYQ).row C hg7 hu7
          have O7 := OA.1.push C hO7 hv7
          have OX7 := OX.row C hg7 hu7 (fun k e h => by have := hoth k e k h; omega)
          have SQ7 := SQ.row C hg7 hu7
          have Rb7 := Rb.row hg7 (fun e => by have := hl7 _ e.symm; omega)
          have R7 := R.row hg7 (fun e => by have := hb7 _ e.symm; omega)
          have G7 := G.row hg7 (fun k e => by have := hb7 k e; omega)
          have C7 := C.row hg7 (fun k e => by have := hb7 k e; have := hC.lt; omega)
          have hn7 : (Value.slice A7 (la.length + 1) c7).ownBlock ≠ some rb := fun e => by
            rcases hv7 with h7 | ⟨k7, h7, h8⟩
            · have := hl7 _ (h7 ▸ e); omega
            · rw [h7] at e; injection e with e; have := Rb.lt; omega
          try (refine hK _ _ ?_; clear hK K)
          try simp only [Act.put, List.setIfInBounds_toArray, List.set_cons_zero, List.set_cons_succ]
          refine wpAny_take (i := 6) (oi := ⟨some 45, _, _, _, _, _⟩) (v := ?_) rfl (by kernel_rfl) (by kernel_rfl) (by kernel_rfl) (fun _ _ _ h => h) (Or.inl ⟨by rfl, ?_⟩) ?_
          case refine_2 => (intro w; go_simp; first | done | with_reducible rfl)
          simp only [Act.put, List.setIfInBounds_toArray, List.set_cons_zero, List.set_cons_succ]
          refine wpAny_ready (rs := [7]) (by kernel_rfl) (by simp) ?_
          refine AllReady.cons (o := ⟨none, _, _, _, _, _⟩) rfl (fun K hK => ?_) AllReady.nil
          have pc0 := Rb7.cell
          have pf0 := Rb7.frozen
          go_simp
          go_wp2_with fail
          clear pc0 pf0
          try (refine hK _ _ ?_; clear hK K)
          try simp only [Act.put, List.setIfInBounds_toArray, List.set_cons_zero, List.set_cons_succ]
          refine wpAny_done (by kernel_rfl) ?_ _
          go_wp2_with fail
          have O8 : Rw g U5 w7 w1.heap.size 31 6 (Value.slice A7 (la.length + 1) c7) (la ++ [((yk, ys, yt), Value.slice YX yx.len ycx, Value.slice YA yp.len yca, Value.slice YQ yq.len ycq)]).length (flat sC (la ++ [((yk, ys, yt), Value.slice YX yx.len ycx, Value.slice YA yp.len yca, Value.slice YQ yq.len ycq)])) := by
            rw [List.length_append, ← flat_snoc]
            exact O7
          have Rb8 := Rb7.set_ 4 (Value.slice A7 (la.length + 1) c7)
          simp only [List.setIfInBounds_toArray, List.set_cons_succ, List.set_cons_zero] at Rb8
          replace OA : RA g U5 _ w1.heap.size (Value.slice A7 (la.length + 1) c7) (LA ++ [((yk, ys, yt), yx, yp, yq)]) (la ++ [((yk, ys, yt), Value.slice YX yx.len ycx, Value.slice YA yp.len yca, Value.slice YQ yq.len ycq)]) := ⟨O8.setb (j := 4) hn7 (Value.slice A7 (la.length + 1) c7), F7.setb Rb7.2.1 (Value.slice A7 (la.length + 1) c7)⟩
          replace OX := OX7.setb (j := 4) (b := rb) (fun e => by have := hothl _ e; omega) Rb7.2.1 (Value.slice A7 (la.length + 1) c7)
          replace SQ := SQ7.setb (j := 4) Rb7.2.1 (Value.slice A7 (la.length + 1) c7)
          replace R := R7.far (b := rb) (j := 4) (by omega) (Value.slice A7 (la.length + 1) c7)
          replace C := C7.setb (b := rb) (j := 4) Rb7.2.2 (Value.slice A7 (la.length + 1) c7)
          replace G := G7.setb (b := rb) (j := 4) (by omega) (Value.slice A7 (la.length + 1) c7)
          clear Rb
          have Rb := Rb8
          obtain ⟨vN, hvN⟩ : ∃ vN, vN = (Value.slice A7 (la.length + 1) c7) := ⟨_, rfl⟩
          rw [← hvN] at OA Rb R SQ C G OX hn7 ⊢
          generalize w7.setCell ⟨rb, 4, none⟩ vN = w8 at OA OX Rb R SQ C G ⊢
          have hxN : ¬ vN.ownBlock = some w.heap.size := fun e => by have := OA.1.lt _ e; omega
          obtain ⟨X, cx, A, ca, ex, ea, E⟩ := close2 (n := 2200) OX OA SQ C G (by omega) (by omega) (by have h1 := size_snocS LA (yk, ys, yt) yx yp yq; omega)
          have ha0 : ¬ (Value.slice AX lx.length cX).ownBlock = some rb := fun e => by have := hXl _ e; omega
          have ha1 : ¬ (Value.slice AX lx.length cX).ownBlock = some w.heap.size := fun e => by have := OX.1.lt _ e; omega
          replace Rb := (Rb.freeze (V := fun b => (Value.slice AX lx.length cX).ownBlock = some b) ha0).freeze (V := fun b => vN.ownBlock = some b) hn7
          replace R := (R.freeze (V := fun b => (Value.slice AX lx.length cX).ownBlock = some b) ha1).freeze (V := fun b => vN.ownBlock = some b) hxN
          rw [ex, ea] at Rb R E
          obtain ⟨hsE, SX, SA, SQ, C, G⟩ := E
          go_meet
          exact ⟨k, s, t, _, _, q, X, A, Q, cx, ca, cq, _, C, G, R, Rb, SX, SA, SQ, hsE⟩
    have b4 : (xx == 4) = false := by simp [x4]
    by_cases x5 : xx = 5
    · subst x5
      have hx0 : ¬ (Value.slice AX lx.length cX).ownBlock = some rb := fun e => by have := hXl _ e; omega
      have hx1 : ¬ (Value.slice AX lx.length cX).ownBlock = some w.heap.size := fun e => by have := OX.1.lt _ e; omega
      have ha0 : ¬ (Value.slice AA la.length cA).ownBlock = some rb := fun e => by have := hAl _ e; omega
      have ha1 : ¬ (Value.slice AA la.length cA).ownBlock = some w.heap.size := fun e => by have := OA.1.lt _ e; omega
      obtain ⟨X, cx, A, ca, ex, ea, E⟩ := close2 (n := 1934) OX OA SQ C G (by omega) (by omega) (by exact hsz)
      replace Rb := (Rb.freeze (V := fun b => (Value.slice AX lx.length cX).ownBlock = some b) hx0).freeze (V := fun b => (Value.slice AA la.length cA).ownBlock = some b) ha0
      replace R := (R.freeze (V := fun b => (Value.slice AX lx.length cX).ownBlock = some b) hx1).freeze (V := fun b => (Value.slice AA la.length cA).ownBlock = some b) ha1
      rw [ex, ea] at Rb R E
      obtain ⟨hsE, SX, SA, SQ, C, G⟩ := E
      clear ex ea OX OA
      clear hx0 hx1 ha0 ha1 hXl hAl hXm
      go_wp2_with fail
      refine (cBelow 7 C (by omega)).mono ?_; rintro e w5 ⟨⟨z, rfl, hz0, hz1, _⟩, C5, G5⟩
      have hz2 := hz1 (by omega)
      obtain ⟨q00, rfl⟩ := Int.eq_ofNat_of_zero_le hz0
      clear hz0 hz1
      have Rb5 := Rb.gro G5
      have R5 := R.gro G5
      have SX5 := SX.gro C G5
      have SA5 := SA.gro C G5
      have SQ5 := SQ.gro C G5
      replace G5 := G.trans G5
      go_wp2_with fail
      go_loopw [4] (fun i wr => ∃ (q0 : Nat), i = .int .i64 q0 ∧ q0 ≤ 6 ∧ ∃ (k : Int) (s t : ByteArray) (x : Fr (Int × Int × ByteArray)) (p q : St) (X A Q : Option Addr) (cx ca cq : Nat) (U1 : Nat → Prop), Cu B g U1 wr ∧ Gro g U w U1 wr ∧ Bx g U1 wr w.heap.size 31 #[.int .i64 0, .string ⟨#[]⟩, .string ⟨#[]⟩, .slice none 0 0, .slice none 0 0, .slice none 0 0] ∧ Bx g U1 wr rb 31 #[.int .i64 k, .string s, .string t, .slice X x.len cx, .slice A p.len ca, .slice Q q.len cq] ∧ SlP exprC wr U1 X x ∧ SlSP wr U1 A p ∧ SlSP wr U1 Q q ∧ x.size + p.size + q.size + 2 * q0 ≤ 2200) (fun i _ => (intOf i).toNat)
      case atStart => exact ⟨q00, rfl, by omega, k, s, t, _, _, q, X, A, Q, cx, ca, cq, _, C5, G5, R5, Rb5, SX5, SA5, SQ5, by omega⟩
      case round =>
        clear Rb5 R5 SX5 SA5 SQ5 G5 C5 Rb R SX SA SQ G C hsE hsz
        obtain ⟨q0, rfl, hq0, k, s, t, x, p, q, X, A, Q, cx, ca, cq, U1, C, G, R, Rb, SX, SA, SQ, hks⟩ := hrel
        by_cases h0 : q0 = 0
        · subst h0
          go_wp2_with fail
          go_meet
          exact ⟨k, s, t, x, p, q, X, A, Q, cx, ca, cq, U1, C, G, R, Rb, SX, SA, SQ, by omega⟩
        · have hq1 : (0 : Int) < (q0 : Int) := by omega
          have hqw : IntKind.i64.wrap ((q0 : Int) - 1) = ((q0 - 1 : Nat) : Int) := by rw [IntKind.wrap_i64]; omega
          go_upto_region 17 with fail
          refine wp_region_any (by kernel_rfl) ?_
          change wpAny _ _ _ _ _ _ _ (World.drew _)
          have bd := (Below.refl wr.heap.size wr).drew
          replace R := R.below bd
          replace Rb := Rb.below bd
          replace SX := SX.below C bd
          replace SA := SA.below C bd
          replace SQ := SQ.below C bd
          replace G := G.below bd
          replace C := C.below bd
          clear bd
          generalize wr.drew = wd at R Rb SX SA SQ G C ⊢
          refine wpAny_ready (rs := [0, 2]) (by kernel_rfl) (by simp) ?_
          refine AllReady.cons (o := ⟨some 54, _, _, _, _, _⟩) rfl (fun K hK => ?_) (AllReady.cons (o := ⟨some 56, _, _, _, _, _⟩) rfl (fun K hK => ?_) AllReady.nil)
          · go_simp
            refine (sInt8 0 _).mono ?_; rintro e wdi ⟨rfl, b6⟩
            go_wp2_with fail
            try (refine hK _ _ ?_; clear hK K)
            try simp only [Act.put, List.setIfInBounds_toArray, List.set_cons_zero, List.set_cons_succ]
            replace R := R.below b6
            replace Rb := Rb.below b6
            replace SX := SX.below C b6
            replace SA := SA.below C b6
            replace SQ := SQ.below C b6
            replace G := G.below b6
            replace C := C.below b6
            clear b6
            refine wpAny_ready (rs := [1, 2]) (by kernel_rfl) (by simp) ?_
            refine AllReady.cons (o := ⟨some 55, _, _, _, _, _⟩) rfl (fun K hK => ?_) (AllReady.cons (o := ⟨some 56, _, _, _, _, _⟩) rfl (fun K hK => ?_) AllReady.nil)
            · go_simp
              go_wp2_with fail
              try (refine hK _ _ ?_; clear hK K)
              try simp only [Act.put, List.setIfInBounds_toArray, List.set_cons_zero, List.set_cons_succ]
              have XI0 := Bx.new C 26 #[.int .i64 1, .int .i64 0, .string ⟨#[]⟩, .slice none 0 0]
              have hgXI := G.sz
              have hrXI := Rb.lt
              have hwXI := R.lt
              replace R := R.alloc (.cells #[.int .i64 1, .int .i64 0, .string ⟨#[]⟩, .slice none 0 0] 26)
              replace Rb := Rb.alloc (.cells #[.int .i64 1, .int .i64 0, .string ⟨#[]⟩, .slice none 0 0] 26)
              replace SX := SX.alloc C (.cells #[.int .i64 1, .int .i64 0, .string ⟨#[]⟩, .slice none 0 0] 26)
              replace SA := SA.alloc C (.cells #[.int .i64 1, .int .i64 0, .string ⟨#[]⟩, .slice none 0 0] 26)
              replace SQ := SQ.alloc C (.cells #[.int .i64 1, .int .i64 0, .string ⟨#[]⟩, .slice none 0 0] 26)
              replace G := G.alloc (.cells #[.int .i64 1, .int .i64 0, .string ⟨#[]⟩, .slice none 0 0] 26)
              replace C := C.alloc (.cells #[.int .i64 1, .int .i64 0, .string ⟨#[]⟩, .slice none 0 0] 26)
              have XI := XI0
              clear XI0
              generalize wdi.alloc (.cells #[.int .i64 1, .int .i64 0, .string ⟨#[]⟩, .slice none 0 0] 26) = wdia at R Rb SX SA SQ G XI C ⊢
              refine wpAny_ready (rs := [2]) (by kernel_rfl) (by simp) ?_
              refine AllReady.cons (o := ⟨some 56, _, _, _, _, _⟩) rfl (fun K hK => ?_) AllReady.nil
              have pc0 := Rb.cell
              have pf0 := Rb.frozen
              go_simp
              go_wp2_with fail
              clear pc0 pf0
              try (refine hK _ _ ?_; clear hK K)
              try simp only [Act.put, List.setIfInBounds_toArray, List.set_cons_zero, List.set_cons_succ]
              refine wpAny_ready (rs := [3]) (by kernel_rfl) (by simp) ?_
              refine AllReady.cons (o := ⟨some 57, _, _, _, _, _⟩) rfl (fun K hK => ?_) AllReady.nil
              go_simp
              go_wp2_with fail
              try (refine hK _ _ ?_; clear hK K)
              try simp only [Act.put, List.setIfInBounds_toArray, List.set_cons_zero, List.set_cons_succ]
              have XS0 := Bx.new C 31 #[.int .i64 k, .string s, .string t, .slice X x.len cx, .slice A p.len ca, .slice Q q.len cq]
              have hgXS := G.sz
              have hrXS := Rb.lt
              have hwXS := R.lt
              have hdXI := XI.lt
              replace R := R.alloc (.cells #[.int .i64 k, .string s, .string t, .slice X x.len cx, .slice A p.len ca, .slice Q q.len cq] 31)
              replace Rb := Rb.alloc (.cells #[.int .i64 k, .string s, .string t, .slice X x.len cx, .slice A p.len ca, .slice Q q.len cq] 31)
              replace SX := SX.alloc C (.cells #[.int .i64 k, .string s, .string t, .slice X x.len cx, .slice A p.len ca, .slice Q q.len cq] 31)
              replace SA := SA.alloc C (.cells #[.int .i64 k, .string s, .string t, .slice X x.len cx, .slice A p.len ca, .slice Q q.len cq] 31)
              replace SQ := SQ.alloc C (.cells #[.int .i64 k, .string s, .string t, .slice X x.len cx, .slice A p.len ca, .slice Q q.len cq] 31)
              replace G := G.alloc (.cells #[.int .i64 k, .string s, .string t, .slice X x.len cx, .slice A p.len ca, .slice Q q.len cq] 31)
              replace XI := XI.alloc (.cells #[.int .i64 k, .string s, .string t, .slice X x.len cx, .slice A p.len ca, .slice Q q.len cq] 31)
              replace C := C.alloc (.cells #[.int .i64 k, .string s, .string t, .slice X x.len cx, .slice A p.len ca, .slice Q q.len cq] 31)
              have XS := XS0
              clear XS0
              generalize wdia.alloc (.cells #[.int .i64 k, .string s, .string t, .slice X x.len cx, .slice A p.len ca, .slice Q q.len cq] 31) = wdiab at R Rb SX SA SQ G XI XS C ⊢
              refine wpAny_take (i := 4) (oi := ⟨some 58, _, _, _, _, _⟩) (v := ?_) rfl (by kernel_rfl) (by kernel_rfl) (by kernel_rfl) (fun _ _ _ h => h) (Or.inl ⟨by rfl, ?_⟩) ?_
              case refine_2 => (intro w; go_simp; first | done | with_reducible rfl)
              simp only [Act.put, List.setIfInBounds_toArray, List.set_cons_zero, List.set_cons_succ]
              refine wpAny_ready (rs := [5]) (by kernel_rfl) (by simp) ?_
              refine AllReady.cons (o := ⟨none, _, _, _, _, _⟩) rfl (fun K hK => ?_) AllReady.nil
              have pc0 := Rb.cell
              have pf0 := Rb.frozen
              go_simp
              go_wp2_with fail
              clear pc0 pf0
              try (refine hK _ _ ?_; clear hK K)
              try simp only [Act.put, List.setIfInBounds_toArray, List.set_cons_zero, List.set_cons_succ]
              refine wpAny_done (by kernel_rfl) ?_ _
              go_wp2_with fail
              have hIS : ¬ wdi.heap.size = wdia.heap.size := by omega
              have SX9 := SlP.one (U := U1) (kids := .nil) XI.1 (SlP.nil_ _ none)
              have SA9 := SlSP.one XS.1 SX SA SQ
              have C9 := (C.freeze (V := fun y => y = wdi.heap.size) (fun y e => by subst e; exact ⟨XI.2.2, XI.lt⟩)).freeze (V := fun y => y = wdia.heap.size) (fun y e => by subst e; exact ⟨XS.2.2, XS.lt⟩)
              have G9 := (G.freeze (V := fun y => y = wdi.heap.size) (fun y e => by subst e; omega)).freeze (V := fun y => y = wdia.heap.size) (fun y e => by subst e; omega)
              have Rb9 := (Rb.freeze (V := fun y => y = wdi.heap.size) (show ¬ rb = wdi.heap.size by omega)).freeze (V := fun y => y = wdia.heap.size) (show ¬ rb = wdia.heap.size by omega)
              have R9 := (R.freeze (V := fun y => y = wdi.heap.size) (show ¬ w.heap.size = wdi.heap.size by omega)).freeze (V := fun y => y = wdia.heap.size) (show ¬ w.heap.size = wdia.heap.size by omega)
              replace SX9 := SX9.more (U' := fun y => (U1 y ∨ y = wdi.heap.size) ∨ y = wdia.heap.size) (fun _ h => .inl h)
              replace SA9 := SA9.more (U' := fun y => (U1 y ∨ y = wdi.heap.size) ∨ y = wdia.heap.size) (fun _ h => h.elim (fun h => .inl (.inl h)) .inr)
              have H := ((((((Rb9.set_ 0 (.int .i64 6)).set_ 1 (.string ⟨#[]⟩)).set_ 2 (.string ⟨#[]⟩)).set_ 3 (.slice (some ⟨wdi.heap.size, 0, none⟩) 1 1)).set_ 4 (.slice (some ⟨wdia.heap.size, 0, none⟩) 1 1)).set_ 5 (.slice none 0 0))
              simp only [List.setIfInBounds_toArray, List.set_cons_succ, List.set_cons_zero] at H
              go_roundw
              case rel => exact ⟨q0 - 1, by go_num, by omega, 6, ⟨#[]⟩, ⟨#[]⟩, .cons (1, 0, ⟨#[]⟩) .nil .nil, .cons (k, s, t) x p q .nil, .nil, _, _, none, 1, 1, 0, _, ((((((C9.setb (j := 0) Rb9.2.2 (.int .i64 6)).setb (j := 1) Rb9.2.2 (.string ⟨#[]⟩)).setb (j := 2) Rb9.2.2 (.string ⟨#[]⟩)).setb (j := 3) Rb9.2.2 (.slice (some ⟨wdi.heap.size, 0, none⟩) 1 1)).setb (j := 4) Rb9.2.2 (.slice (some ⟨wdia.heap.size, 0, none⟩) 1 1)).setb (j := 5) Rb9.2.2 (.slice none 0 0)), ((((((G9.setb (b := rb) (j := 0) (by omega) (.int .i64 6)).setb (b := rb) (j := 1) (by omega) (.string ⟨#[]⟩)).setb (b := rb) (j := 2) (by omega) (.string ⟨#[]⟩)).setb (b := rb) (j := 3) (by omega) (.slice (some ⟨wdi.heap.size, 0, none⟩) 1 1)).setb (b := rb) (j := 4) (by omega) (.slice (some ⟨wdia.heap.size, 0, none⟩) 1 1)).setb (b := rb) (j := 5) (by omega) (.slice none 0 0)), ((((((R9.far (b := rb) (j := 0) (by omega) (.int .i64 6)).far (b := rb) (j := 1) (by omega) (.string ⟨#[]⟩)).far (b := rb) (j := 2) (by omega) (.string ⟨#[]⟩)).far (b := rb) (j := 3) (by omega) (.slice (some ⟨wdi.heap.size, 0, none⟩) 1 1)).far (b := rb) (j := 4) (by omega) (.slice (some ⟨wdia.heap.size, 0, none⟩) 1 1)).far (b := rb) (j := 5) (by omega) (.slice none 0 0)), H, ((((((SX9.setb (j := 0) Rb9.2.1 (.int .i64 6)).setb (j := 1) Rb9.2.1 (.string ⟨#[]⟩)).setb (j := 2) Rb9.2.1 (.string ⟨#[]⟩)).setb (j := 3) Rb9.2.1 (.slice (some ⟨wdi.heap.size, 0, none⟩) 1 1)).setb (j := 4) Rb9.2.1 (.slice (some ⟨wdia.heap.size, 0, none⟩) 1 1)).setb (j := 5) Rb9.2.1 (.slice none 0 0)), ((((((SA9.setb (j := 0) Rb9.2.1 (.int .i64 6)).setb (j := 1) Rb9.2.1 (.string ⟨#[]⟩)).setb (j := 2) Rb9.2.1 (.string ⟨#[]⟩)).setb (j := 3) Rb9.2.1 (.slice (some ⟨wdi.heap.size, 0, none⟩) 1 1)).setb (j := 4) Rb9.2.1 (.slice (some ⟨wdia.heap.size, 0, none⟩) 1 1)).setb (j := 5) Rb9.2.1 (.slice none 0 0)), SlSP.nil_ _ _, by simp only [Fr.size, St.size]; omega⟩
              case measure => (simp [intOf] <;> omega)
            · have pc0 := Rb.cell
              have pf0 := Rb.frozen
              go_simp
              go_wp2_with fail
              clear pc0 pf0
              try (refine hK _ _ ?_; clear hK K)
              try simp only [Act.put, List.setIfInBounds_toArray, List.set_cons_zero, List.set_cons_succ]
              refine wpAny_ready (rs := [1, 3]) (by kernel_rfl) (by simp) ?_
              refine AllReady.cons (o := ⟨some 55, _, _, _, _, _⟩) rfl (fun K hK => ?_) (AllReady.cons (o := ⟨some 57, _, _, _, _, _⟩) rfl (fun K hK => ?_) AllReady.nil)
              · go_simp
                go_wp2_with fail
                try (refine hK _ _ ?_; clear hK K)
                try simp only [Act.put, List.setIfInBounds_toArray, List.set_cons_zero, List.set_cons_succ]
                have XI0 := Bx.new C 26 #[.int .i64 1, .int .i64 0, .string ⟨#[]⟩, .slice none 0 0]
                have hgXI := G.sz
                have hrXI := Rb.lt
                have hwXI := R.lt
                replace R := R.alloc (.cells #[.int .i64 1, .int .i64 0, .string ⟨#[]⟩, .slice none 0 0] 26)
                replace Rb := Rb.alloc (.cells #[.int .i64 1, .int .i64 0, .string ⟨#[]⟩, .slice none 0 0] 26)
                replace SX := SX.alloc C (.cells #[.int .i64 1, .int .i64 0, .string ⟨#[]⟩, .slice none 0 0] 26)
                replace SA := SA.alloc C (.cells #[.int .i64 1, .int .i64 0, .string ⟨#[]⟩, .slice none 0 0] 26)
                replace SQ := SQ.alloc C (.cells #[.int .i64 1, .int .i64 0, .string ⟨#[]⟩, .slice none 0 0] 26)
                replace G := G.alloc (.cells #[.int .i64 1, .int .i64 0, .string ⟨#[]⟩, .slice none 0 0] 26)
                replace C := C.alloc (.cells #[.int .i64 1, .int .i64 0, .string ⟨#[]⟩, .slice none 0 0] 26)
                have XI := XI0
                clear XI0
                generalize wdi.alloc (.cells #[.int .i64 1, .int .i64 0, .string ⟨#[]⟩, .slice none 0 0] 26) = wdia at R Rb SX SA SQ G XI C ⊢
                refine wpAny_ready (rs := [3]) (by kernel_rfl) (by simp) ?_
                refine AllReady.cons (o := ⟨some 57, _, _, _, _, _⟩) rfl (fun K hK => ?_) AllReady.nil
                go_simp
                go_wp2_with fail
                try (refine hK _ _ ?_; clear hK K)
                try simp only [Act.put, List.setIfInBounds_toArray, List.set_cons_zero, List.set_cons_succ]
                have XS0 := Bx.new C 31 #[.int .i64 k, .string s, .string t, .slice X x.len cx, .slice A p.len ca, .slice Q q.len cq]
                have hgXS := G.sz
                have hrXS := Rb.lt
                have hwXS := R.lt
                have hdXI := XI.lt
                replace R := R.alloc (.cells #[.int .i64 k, .string s, .string t, .slice X x.len cx, .slice A p.len ca, .slice Q q.len cq] 31)
                replace Rb := Rb.alloc (.cells #[.int .i64 k, .string s, .string t, .slice X x.len cx, .slice A p.len ca, .slice Q q.len cq] 31)
                replace SX := SX.alloc C (.cells #[.int .i64 k, .string s, .string t, .slice X x.len cx, .slice A p.len ca, .slice Q q.len cq] 31)
                replace SA := SA.alloc C (.cells #[.int .i64 k, .string s, .string t, .slice X x.len cx, .slice A p.len ca, .slice Q q.len cq] 31)
                replace SQ := SQ.alloc C (.cells #[.int .i64 k, .string s, .string t, .slice X x.len cx, .slice A p.len ca, .slice Q q.len cq] 31)
                replace G := G.alloc (.cells #[.int .i64 k, .string s, .string t, .slice X x.len cx, .slice A p.len ca, .slice Q q.len cq] 31)
                replace XI := XI.alloc (.cells #[.int .i64 k, .string s, .string t, .slice X x.len cx, .slice A p.len ca, .slice Q q.len cq] 31)
                replace C := C.alloc (.cells #[.int .i64 k, .string s, .string t, .slice X x.len cx, .slice A p.len ca, .slice Q q.len cq] 31)
                have XS := XS0
                clear XS0
                generalize wdia.alloc (.cells #[.int .i64 k, .string s, .string t, .slice X x.len cx, .slice A p.len ca, .slice Q q.len cq] 31) = wdiab at R Rb SX SA SQ G XI XS C ⊢
                refine wpAny_take (i := 4) (oi := ⟨some 58, _, _, _, _, _⟩) (v := ?_) rfl (by kernel_rfl) (by kernel_rfl) (by kernel_rfl) (fun _ _ _ h => h) (Or.inl ⟨by rfl, ?_⟩) ?_
                case refine_2 => (intro w; go_simp; first | done | with_reducible rfl)
                simp only [Act.put, List.setIfInBounds_toArray, List.set_cons_zero, List.set_cons_succ]
                refine wpAny_ready (rs := [5]) (by kernel_rfl) (by simp) ?_
                refine AllReady.cons (o := ⟨none, _, _, _, _, _⟩) rfl (fun K hK => ?_) AllReady.nil
                have pc0 := Rb.cell
                have pf0 := Rb.frozen
                go_simp
                go_wp2_with fail
                clear pc0 pf0
                try (refine hK _ _ ?_; clear hK K)
                try simp only [Act.put, List.setIfInBounds_toArray, List.set_cons_zero, List.set_cons_succ]
                refine wpAny_done (by kernel_rfl) ?_ _
                go_wp2_with fail
                have hIS : ¬ wdi.heap.size = wdia.heap.size := by omega
                have SX9 := SlP.one (U := U1) (kids := .nil) XI.1 (SlP.nil_ _ none)
                have SA9 := SlSP.one XS.1 SX SA SQ
                have C9 := (C.freeze (V := fun y => y = wdi.heap.size) (fun y e => by subst e; exact ⟨XI.2.2, XI.lt⟩)).freeze (V := fun y => y = wdia.heap.size) (fun y e => by subst e; exact ⟨XS.2.2, XS.lt⟩)
                have G9 := (G.freeze (V := fun y => y = wdi.heap.size) (fun y e => by subst e; omega)).freeze (V := fun y => y = wdia.heap.size) (fun y e => by subst e; omega)
                have Rb9 := (Rb.freeze (V := fun y => y = wdi.heap.size) (show ¬ rb = wdi.heap.size by omega)).freeze (V := fun y => y = wdia.heap.size) (show ¬ rb = wdia.heap.size by omega)
                have R9 := (R.freeze (V := fun y => y = wdi.heap.size) (show ¬ w.heap.size = wdi.heap.size by omega)).freeze (V := fun y => y = wdia.heap.size) (show ¬ w.heap.size = wdia.heap.size by omega)
                replace SX9 := SX9.more (U' := fun y => (U1 y ∨ y = wdi.heap.size) ∨ y = wdia.heap.size) (fun _ h => .inl h)
                replace SA9 := SA9.more (U' := fun y => (U1 y ∨ y = wdi.heap.size) ∨ y = wdia.heap.size) (fun _ h => h.elim (fun h => .inl (.inl h)) .inr)
                have H := ((((((Rb9.set_ 0 (.int .i64 6)).set_ 1 (.string ⟨#[]⟩)).set_ 2 (.string ⟨#[]⟩)).set_ 3 (.slice (some ⟨wdi.heap.size, 0, none⟩) 1 1)).set_ 4 (.slice (some ⟨wdia.heap.size, 0, none⟩) 1 1)).set_ 5 (.slice none 0 0))
                simp only [List.setIfInBounds_toArray, List.set_cons_succ, List.set_cons_zero] at H
                go_roundw
                case rel => exact ⟨q0 - 1, by go_num, by omega, 6, ⟨#[]⟩, ⟨#[]⟩, .cons (1, 0, ⟨#[]⟩) .nil .nil, .cons (k, s, t) x p q .nil, .nil, _, _, none, 1, 1, 0, _, ((((((C9.setb (j := 0) Rb9.2.2 (.int .i64 6)).setb (j := 1) Rb9.2.2 (.string ⟨#[]⟩)).setb (j := 2) Rb9.2.2 (.string ⟨#[]⟩)).setb (j := 3) Rb9.2.2 (.slice (some ⟨wdi.heap.size, 0, none⟩) 1 1)).setb (j := 4) Rb9.2.2 (.slice (some ⟨wdia.heap.size, 0, none⟩) 1 1)).setb (j := 5) Rb9.2.2 (.slice none 0 0)), ((((((G9.setb (b := rb) (j := 0) (by omega) (.int .i64 6)).setb (b := rb) (j := 1) (by omega) (.string ⟨#[]⟩)).setb (b := rb) (j := 2) (by omega) (.string ⟨#[]⟩)).setb (b := rb) (j := 3) (by omega) (.slice (some ⟨wdi.heap.size, 0, none⟩) 1 1)).setb (b := rb) (j := 4) (by omega) (.slice (some ⟨wdia.heap.size, 0, none⟩) 1 1)).setb (b := rb) (j := 5) (by omega) (.slice none 0 0)), ((((((R9.far (b := rb) (j := 0) (by omega) (.int .i64 6)).far (b := rb) (j := 1) (by omega) (.string ⟨#[]⟩)).far (b := rb) (j := 2) (by omega) (.string ⟨#[]⟩)).far (b := rb) (j := 3) (by omega) (.slice (some ⟨wdi.heap.size, 0, none⟩) 1 1)).far (b := rb) (j := 4) (by omega) (.slice (some ⟨wdia.heap.size, 0, none⟩) 1 1)).far (b := rb) (j := 5) (by omega) (.slice none 0 0)), H, ((((((SX9.setb (j := 0) Rb9.2.1 (.int .i64 6)).setb (j := 1) Rb9.2.1 (.string ⟨#[]⟩)).setb (j := 2) Rb9.2.1 (.string ⟨#[]⟩)).setb (j := 3) Rb9.2.1 (.slice (some ⟨wdi.heap.size, 0, none⟩) 1 1)).setb (j := 4) Rb9.2.1 (.slice (some ⟨wdia.heap.size, 0, none⟩) 1 1)).setb (j := 5) Rb9.2.1 (.slice none 0 0)), ((((((SA9.setb (j := 0) Rb9.2.1 (.int .i64 6)).setb (j := 1) Rb9.2.1 (.string ⟨#[]⟩)).setb (j := 2) Rb9.2.1 (.string ⟨#[]⟩)).setb (j := 3) Rb9.2.1 (.slice (some ⟨wdi.heap.size, 0, none⟩) 1 1)).setb (j := 4) Rb9.2.1 (.slice (some ⟨wdia.heap.size, 0, none⟩) 1 1)).setb (j := 5) Rb9.2.1 (.slice none 0 0)), SlSP.nil_ _ _, by simp only [Fr.size, St.size]; omega⟩
                case measure => (simp [intOf] <;> omega)
              · go_simp
                go_wp2_with fail
                try (refine hK _ _ ?_; clear hK K)
                try simp only [Act.put, List.setIfInBounds_toArray, List.set_cons_zero, List.set_cons_succ]
                have XS0 := Bx.new C 31 #[.int .i64 k, .string s, .string t, .slice X x.len cx, .slice A p.len ca, .slice Q q.len cq]
                have hgXS := G.sz
                have hrXS := Rb.lt
                have hwXS := R.lt
                replace R := R.alloc (.cells #[.int .i64 k, .string s, .string t, .slice X x.len cx, .slice A p.len ca, .slice Q q.len cq] 31)
                replace Rb := Rb.alloc (.cells #[.int .i64 k, .string s, .string t, .slice X x.len cx, .slice A p.len ca, .slice Q q.len cq] 31)
                replace SX := SX.alloc C (.cells #[.int .i64 k, .string s, .string t, .slice X x.len cx, .slice A p.len ca, .slice Q q.len cq] 31)
                replace SA := SA.alloc C (.cells #[.int .i64 k, .string s, .string t, .slice X x.len cx, .slice A p.len ca, .slice Q q.len cq] 31)
                replace SQ := SQ.alloc C (.cells #[.int .i64 k, .string s, .string t, .slice X x.len cx, .slice A p.len ca, .slice Q q.len cq] 31)
                replace G := G.alloc (.cells #[.int .i64 k, .string s, .string t, .slice X x.len cx, .slice A p.len ca, .slice Q q.len cq] 31)
                replace C := C.alloc (.cells #[.int .i64 k, .string s, .string t, .slice X x.len cx, .slice A p.len ca, .slice Q q.len cq] 31)
                have XS := XS0
                clear XS0
                generalize wdi.alloc (.cells #[.int .i64 k, .string s, .string t, .slice X x.len cx, .slice A p.len ca, .slice Q q.len cq] 31) = wdib at R Rb SX SA SQ G XS C ⊢
                refine wpAny_ready (rs := [1]) (by kernel_rfl) (by simp) ?_
                refine AllReady.cons (o := ⟨some 55, _, _, _, _, _⟩) rfl (fun K hK => ?_) AllReady.nil
                go_simp
                go_wp2_with fail
                try (refine hK _ _ ?_; clear hK K)
                try simp only [Act.put, List.setIfInBounds_toArray, List.set_cons_zero, List.set_cons_succ]
                have XI0 := Bx.new C 26 #[.int .i64 1, .int .i64 0, .string ⟨#[]⟩, .slice none 0 0]
                have hgXI := G.sz
                have hrXI := Rb.lt
                have hwXI := R.lt
                have hdXS := XS.lt
                replace R := R.alloc (.cells #[.int .i64 1, .int .i64 0, .string ⟨#[]⟩, .slice none 0 0] 26)
                replace Rb := Rb.alloc (.cells #[.int .i64 1, .int .i64 0, .string ⟨#[]⟩, .slice none 0 0] 26)
                replace SX := SX.alloc C (.cells #[.int .i64 1, .int .i64 0, .string ⟨#[]⟩, .slice none 0 0] 26)
                replace SA := SA.alloc C (.cells #[.int .i64 1, .int .i64 0, .string ⟨#[]⟩, .slice none 0 0] 26)
                replace SQ := SQ.alloc C (.cells #[.int .i64 1, .int .i64 0, .string ⟨#[]⟩, .slice none 0 0] 26)
                replace G := G.alloc (.cells #[.int .i64 1, .int .i64 0, .string ⟨#[]⟩, .slice none 0 0] 26)
                replace XS := XS.alloc (.cells #[.int .i64 1, .int .i64 0, .string ⟨#[]⟩, .slice none 0 0] 26)
                replace C := C.alloc (.cells #[.int .i64 1, .int .i64 0, .string ⟨#[]⟩, .slice none 0 0] 26)
                have XI := XI0
                clear XI0
                generalize wdib.alloc (.cells #[.int .i64 1, .int .i64 0, .string ⟨#[]⟩, .slice none 0 0] 26) = wdiba at R Rb SX SA SQ G XS XI C ⊢
                refine wpAny_take (i := 4) (oi := ⟨some 58, _, _, _, _, _⟩) (v := ?_) rfl (by kernel_rfl) (by kernel_rfl) (by kernel_rfl) (fun _ _ _ h => h) (Or.inl ⟨by rfl, ?_⟩) ?_
                case refine_2 => (intro w; go_simp; first | done | with_reducible rfl)
                simp only [Act.put, List.setIfInBounds_toArray, List.set_cons_zero, List.set_cons_succ]
                refine wpAny_ready (rs := [5]) (by kernel_rfl) (by simp) ?_
                refine AllReady.cons (o := ⟨none, _, _, _, _, _⟩) rfl (fun K hK => ?_) AllReady.nil
                have pc0 := Rb.cell
                have pf0 := Rb.frozen
                go_simp
                go_wp2_with fail
                clear pc0 pf0
                try (refine hK _ _ ?_; clear hK K)
                try simp only [Act.put, List.setIfInBounds_toArray, List.set_cons_zero, List.set_cons_succ]
                refine wpAny_done (by kernel_rfl) ?_ _
                go_wp2_with fail
                have hIS : ¬ wdib.heap.size = wdi.heap.size := by omega
                have SX9 := SlP.one (U := U1) (kids := .nil) XI.1 (SlP.nil_ _ none)
                have SA9 := SlSP.one XS.1 SX SA SQ
                have C9 := (C.freeze (V := fun y => y = wdib.heap.size) (fun y e => by subst e; exact ⟨XI.2.2, XI.lt⟩)).freeze (V := fun y => y = wdi.heap.size) (fun y e => by subst e; exact ⟨XS.2.2, XS.lt⟩)
                have G9 := (G.freeze (V := fun y => y = wdib.heap.size) (fun y e => by subst e; omega)).freeze (V := fun y => y = wdi.heap.size) (fun y e => by subst e; omega)
                have Rb9 := (Rb.freeze (V := fun y => y = wdib.heap.size) (show ¬ rb = wdib.heap.size by omega)).freeze (V := fun y => y = wdi.heap.size) (show ¬ rb = wdi.heap.size by omega)
                have R9 := (R.freeze (V := fun y => y = wdib.heap.size) (show ¬ w.heap.size = wdib.heap.size by omega)).freeze (V := fun y => y = wdi.heap.size) (show ¬ w.heap.size = wdi.heap.size by omega)
                replace SX9 := SX9.more (U' := fun y => (U1 y ∨ y = wdib.heap.size) ∨ y = wdi.heap.size) (fun _ h => .inl h)
                replace SA9 := SA9.more (U' := fun y => (U1 y ∨ y = wdib.heap.size) ∨ y = wdi.heap.size) (fun _ h => h.elim (fun h => .inl (.inl h)) .inr)
                have H := ((((((Rb9.set_ 0 (.int .i64 6)).set_ 1 (.string ⟨#[]⟩)).set_ 2 (.string ⟨#[]⟩)).set_ 3 (.slice (some ⟨wdib.heap.size, 0, none⟩) 1 1)).set_ 4 (.slice (some ⟨wdi.heap.size, 0, none⟩) 1 1)).set_ 5 (.slice none 0 0))
                simp only [List.setIfInBounds_toArray, List.set_cons_succ, List.set_cons_zero] at H
                go_roundw
                case rel => exact ⟨q0 - 1, by go_num, by omega, 6, ⟨#[]⟩, ⟨#[]⟩, .cons (1, 0, ⟨#[]⟩) .nil .nil, .cons (k, s, t) x p q .nil, .nil, _, _, none, 1, 1, 0, _, ((((((C9.setb (j := 0) Rb9.2.2 (.int .i64 6)).setb (j := 1) Rb9.2.2 (.string ⟨#[]⟩)).setb (j := 2) Rb9.2.2 (.string ⟨#[]⟩)).setb (j := 3) Rb9.2.2 (.slice (some ⟨wdib.heap.size, 0, none⟩) 1 1)).setb (j := 4) Rb9.2.2 (.slice (some ⟨wdi.heap.size, 0, none⟩) 1 1)).setb (j := 5) Rb9.2.2 (.slice none 0 0)), ((((((G9.setb (b := rb) (j := 0) (by omega) (.int .i64 6)).setb (b := rb) (j := 1) (by omega) (.string ⟨#[]⟩)).setb (b := rb) (j := 2) (by omega) (.string ⟨#[]⟩)).setb (b := rb) (j := 3) (by omega) (.slice (some ⟨wdib.heap.size, 0, none⟩) 1 1)).setb (b := rb) (j := 4) (by omega) (.slice (some ⟨wdi.heap.size, 0, none⟩) 1 1)).setb (b := rb) (j := 5) (by omega) (.slice none 0 0)), ((((((R9.far (b := rb) (j := 0) (by omega) (.int .i64 6)).far (b := rb) (j := 1) (by omega) (.string ⟨#[]⟩)).far (b := rb) (j := 2) (by omega) (.string ⟨#[]⟩)).far (b := rb) (j := 3) (by omega) (.slice (some ⟨wdib.heap.size, 0, none⟩) 1 1)).far (b := rb) (j := 4) (by omega) (.slice (some ⟨wdi.heap.size, 0, none⟩) 1 1)).far (b := rb) (j := 5) (by omega) (.slice none 0 0)), H, ((((((SX9.setb (j := 0) Rb9.2.1 (.int .i64 6)).setb (j := 1) Rb9.2.1 (.string ⟨#[]⟩)).setb (j := 2) Rb9.2.1 (.string ⟨#[]⟩)).setb (j := 3) Rb9.2.1 (.slice (some ⟨wdib.heap.size, 0, none⟩) 1 1)).setb (j := 4) Rb9.2.1 (.slice (some ⟨wdi.heap.size, 0, none⟩) 1 1)).setb (j := 5) Rb9.2.1 (.slice none 0 0)), ((((((SA9.setb (j := 0) Rb9.2.1 (.int .i64 6)).setb (j := 1) Rb9.2.1 (.string ⟨#[]⟩)).setb (j := 2) Rb9.2.1 (.string ⟨#[]⟩)).setb (j := 3) Rb9.2.1 (.slice (some ⟨wdib.heap.size, 0, none⟩) 1 1)).setb (j := 4) Rb9.2.1 (.slice (some ⟨wdi.heap.size, 0, none⟩) 1 1)).setb (j := 5) Rb9.2.1 (.slice none 0 0)), SlSP.nil_ _ _, by simp only [Fr.size, St.size]; omega⟩
                case measure => (simp [intOf] <;> omega)
          · have pc0 := Rb.cell
            have pf0 := Rb.frozen
            go_simp
            go_wp2_with fail
            clear pc0 pf0
            try (refine hK _ _ ?_; clear hK K)
            try simp only [Act.put, List.setIfInBounds_toArray, List.set_cons_zero, List.set_cons_succ]
            refine wpAny_ready (rs := [0, 3]) (by kernel_rfl) (by simp) ?_
            refine AllReady.cons (o := ⟨some 54, _, _, _, _, _⟩) rfl (fun K hK => ?_) (AllReady.cons (o := ⟨some 57, _, _, _, _, _⟩) rfl (fun K hK => ?_) AllReady.nil)
            · go_simp
              refine (sInt8 0 _).mono ?_; rintro e wdi ⟨rfl, b6⟩
              go_wp2_with fail
              try (refine hK _ _ ?_; clear hK K)
              try simp only [Act.put, List.setIfInBounds_toArray, List.set_cons_zero, List.set_cons_succ]
              replace R := R.below b6
              replace Rb := Rb.below b6
              replace SX := SX.below C b6
              replace SA := SA.below C b6
              replace SQ := SQ.below C b6
              replace G := G.below b6
              replace C := C.below b6
              clear b6
              refine wpAny_ready (rs := [1, 3]) (by kernel_rfl) (by simp) ?_
              refine AllReady.cons (o := ⟨some 55, _, _, _, _, _⟩) rfl (fun K hK => ?_) (AllReady.cons (o := ⟨some 57, _, _, _, _, _⟩) rfl (fun K hK => ?_) AllReady.nil)
              · go_simp
                go_wp2_with fail
                try (refine hK _ _ ?_; clear hK K)
                try simp only [Act.put, List.setIfInBounds_toArray, List.set_cons_zero, List.set_cons_succ]
                have XI0 := Bx.new C 26 #[.int .i64 1, .int .i64 0, .string ⟨#[]⟩, .slice none 0 0]
                have hgXI := G.sz
                have hrXI := Rb.lt
                have hwXI := R.lt
                replace R := R.alloc (.cells #[.int .i64 1, .int .i64 0, .string ⟨#[]⟩, .slice none 0 0] 26)
                replace Rb := Rb.alloc (.cells #[.int .i64 1, .int .i64 0, .string ⟨#[]⟩, .slice none 0 0] 26)
                replace SX := SX.alloc C (.cells #[.int .i64 1, .int .i64 0, .string ⟨#[]⟩, .slice none 0 0] 26)
                replace SA := SA.alloc C (.cells #[.int .i64 1, .int .i64 0, .string ⟨#[]⟩, .slice none 0 0] 26)
                replace SQ := SQ.alloc C (.cells #[.int .i64 1, .int .i64 0, .string ⟨#[]⟩, .slice none 0 0] 26)
                replace G := G.alloc (.cells #[.int .i64 1, .int .i64 0, .string ⟨#[]⟩, .slice none 0 0] 26)
                replace C := C.alloc (.cells #[.int .i64 1, .int .i64 0, .string ⟨#[]⟩, .slice none 0 0] 26)
                have XI := XI0
                clear XI0
                generalize wdi.alloc (.cells #[.int .i64 1, .int .i64 0, .string ⟨#[]⟩, .slice none 0 0] 26) = wdia at R Rb SX SA SQ G XI C ⊢
                refine wpAny_ready (rs := [3]) (by kernel_rfl) (by simp) ?_
                refine AllReady.cons (o := ⟨some 57, _, _, _, _, _⟩) rfl (fun K hK => ?_) AllReady.nil
                go_simp
                go_wp2_with fail
                try (refine hK _ _ ?_; clear hK K)
                try simp only [Act.put, List.setIfInBounds_toArray, List.set_cons_zero, List.set_cons_succ]
                have XS0 := Bx.new C 31 #[.int .i64 k, .string s, .string t, .slice X x.len cx, .slice A p.len ca, .slice Q q.len cq]
                have hgXS := G.sz
                have hrXS := Rb.lt
                have hwXS := R.lt
                have hdXI := XI.lt
                replace R := R.alloc (.cells #[.int .i64 k, .string s, .string t, .slice X x.len cx, .slice A p.len ca, .slice Q q.len cq] 31)
                replace Rb := Rb.alloc (.cells #[.int .i64 k, .string s, .string t, .slice X x.len cx, .slice A p.len ca, .slice Q q.len cq] 31)
                replace SX := SX.alloc C (.cells #[.int .i64 k, .string s, .string t, .slice X x.len cx, .slice A p.len ca, .slice Q q.len cq] 31)
                replace SA := SA.alloc C (.cells #[.int .i64 k, .string s, .string t, .slice X x.len cx, .slice A p.len ca, .slice Q q.len cq] 31)
                replace SQ := SQ.alloc C (.cells #[.int .i64 k, .string s, .string t, .slice X x.len cx, .slice A p.len ca, .slice Q q.len cq] 31)
                replace G := G.alloc (.cells #[.int .i64 k, .string s, .string t, .slice X x.len cx, .slice A p.len ca, .slice Q q.len cq] 31)
                replace XI := XI.alloc (.cells #[.int .i64 k, .string s, .string t, .slice X x.len cx, .slice A p.len ca, .slice Q q.len cq] 31)
                replace C := C.alloc (.cells #[.int .i64 k, .string s, .string t, .slice X x.len cx, .slice A p.len ca, .slice Q q.len cq] 31)
                have XS := XS0
                clear XS0
                generalize wdia.alloc (.cells #[.int .i64 k, .string s, .string t, .slice X x.len cx, .slice A p.len ca, .slice Q q.len cq] 31) = wdiab at R Rb SX SA SQ G XI XS C ⊢
                refine wpAny_take (i := 4) (oi := ⟨some 58, _, _, _, _, _⟩) (v := ?_) rfl (by kernel_rfl) (by kernel_rfl) (by kernel_rfl) (fun _ _ _ h => h) (Or.inl ⟨by rfl, ?_⟩) ?_
                case refine_2 => (intro w; go_simp; first | done | with_reducible rfl)
                simp only [Act.put, List.setIfInBounds_toArray, List.set_cons_zero, List.set_cons_succ]
                refine wpAny_ready (rs := [5]) (by kernel_rfl) (by simp) ?_
                refine AllReady.cons (o := ⟨none, _, _, _, _, _⟩) rfl (fun K hK => ?_) AllReady.nil
                have pc0 := Rb.cell
                have pf0 := Rb.frozen
                go_simp
                go_wp2_with fail
                clear pc0 pf0
                try (refine hK _ _ ?_; clear hK K)
                try simp only [Act.put, List.setIfInBounds_toArray, List.set_cons_zero, List.set_cons_succ]
                refine wpAny_done (by kernel_rfl) ?_ _
                go_wp2_with fail
                have hIS : ¬ wdi.heap.size = wdia.heap.size := by omega
                have SX9 := SlP.one (U := U1) (kids := .nil) XI.1 (SlP.nil_ _ none)
                have SA9 := SlSP.one XS.1 SX SA SQ
                have C9 := (C.freeze (V := fun y => y = wdi.heap.size) (fun y e => by subst e; exact ⟨XI.2.2, XI.lt⟩)).freeze (V := fun y => y = wdia.heap.size) (fun y e => by subst e; exact ⟨XS.2.2, XS.lt⟩)
                have G9 := (G.freeze (V := fun y => y = wdi.heap.size) (fun y e => by subst e; omega)).freeze (V := fun y => y = wdia.heap.size) (fun y e => by subst e; omega)
                have Rb9 := (Rb.freeze (V := fun y => y = wdi.heap.size) (show ¬ rb = wdi.heap.size by omega)).freeze (V := fun y => y = wdia.heap.size) (show ¬ rb = wdia.heap.size by omega)
                have R9 := (R.freeze (V := fun y => y = wdi.heap.size) (show ¬ w.heap.size = wdi.heap.size by omega)).freeze (V := fun y => y = wdia.heap.size) (show ¬ w.heap.size = wdia.heap.size by omega)
                replace SX9 := SX9.more (U' := fun y => (U1 y ∨ y = wdi.heap.size) ∨ y = wdia.heap.size) (fun _ h => .inl h)
                replace SA9 := SA9.more (U' := fun y => (U1 y ∨ y = wdi.heap.size) ∨ y = wdia.heap.size) (fun _ h => h.elim (fun h => .inl (.inl h)) .inr)
                have H := ((((((Rb9.set_ 0 (.int .i64 6)).set_ 1 (.string ⟨#[]⟩)).set_ 2 (.string ⟨#[]⟩)).set_ 3 (.slice (some ⟨wdi.heap.size, 0, none⟩) 1 1)).set_ 4 (.slice (some ⟨wdia.heap.size, 0, none⟩) 1 1)).set_ 5 (.slice none 0 0))
                simp only [List.setIfInBounds_toArray, List.set_cons_succ, List.set_cons_zero] at H
                go_roundw
                case rel => exact ⟨q0 - 1, by go_num, by omega, 6, ⟨#[]⟩, ⟨#[]⟩, .cons (1, 0, ⟨#[]⟩) .nil .nil, .cons (k, s, t) x p q .nil, .nil, _, _, none, 1, 1, 0, _, ((((((C9.setb (j := 0) Rb9.2.2 (.int .i64 6)).setb (j := 1) Rb9.2.2 (.string ⟨#[]⟩)).setb (j := 2) Rb9.2.2 (.string ⟨#[]⟩)).setb (j := 3) Rb9.2.2 (.slice (some ⟨wdi.heap.size, 0, none⟩) 1 1)).setb (j := 4) Rb9.2.2 (.slice (some ⟨wdia.heap.size, 0, none⟩) 1 1)).setb (j := 5) Rb9.2.2 (.slice none 0 0)), ((((((G9.setb (b := rb) (j := 0) (by omega) (.int .i64 6)).setb (b := rb) (j := 1) (by omega) (.string ⟨#[]⟩)).setb (b := rb) (j := 2) (by omega) (.string ⟨#[]⟩)).setb (b := rb) (j := 3) (by omega) (.slice (some ⟨wdi.heap.size, 0, none⟩) 1 1)).setb (b := rb) (j := 4) (by omega) (.slice (some ⟨wdia.heap.size, 0, none⟩) 1 1)).setb (b := rb) (j := 5) (by omega) (.slice none 0 0)), ((((((R9.far (b := rb) (j := 0) (by omega) (.int .i64 6)).far (b := rb) (j := 1) (by omega) (.string ⟨#[]⟩)).far (b := rb) (j := 2) (by omega) (.string ⟨#[]⟩)).far (b := rb) (j := 3) (by omega) (.slice (some ⟨wdi.heap.size, 0, none⟩) 1 1)).far (b := rb) (j := 4) (by omega) (.slice (some ⟨wdia.heap.size, 0, none⟩) 1 1)).far (b := rb) (j := 5) (by omega) (.slice none 0 0)), H, ((((((SX9.setb (j := 0) Rb9.2.1 (.int .i64 6)).setb (j := 1) Rb9.2.1 (.string ⟨#[]⟩)).setb (j := 2) Rb9.2.1 (.string ⟨#[]⟩)).setb (j := 3) Rb9.2.1 (.slice (some ⟨wdi.heap.size, 0, none⟩) 1 1)).setb (j := 4) Rb9.2.1 (.slice (some ⟨wdia.heap.size, 0, none⟩) 1 1)).setb (j := 5) Rb9.2.1 (.slice none 0 0)), ((((((SA9.setb (j := 0) Rb9.2.1 (.int .i64 6)).setb (j := 1) Rb9.2.1 (.string ⟨#[]⟩)).setb (j := 2) Rb9.2.1 (.string ⟨#[]⟩)).setb (j := 3) Rb9.2.1 (.slice (some ⟨wdi.heap.size, 0, none⟩) 1 1)).setb (j := 4) Rb9.2.1 (.slice (some ⟨wdia.heap.size, 0, none⟩) 1 1)).setb (j := 5) Rb9.2.1 (.slice none 0 0)), SlSP.nil_ _ _, by simp only [Fr.size, St.size]; omega⟩
                case measure => (simp [intOf] <;> omega)
              · go_simp
                go_wp2_with fail
                try (refine hK _ _ ?_; clear hK K)
                try simp only [Act.put, List.setIfInBounds_toArray, List.set_cons_zero, List.set_cons_succ]
                have XS0 := Bx.new C 31 #[.int .i64 k, .string s, .string t, .slice X x.len cx, .slice A p.len ca, .slice Q q.len cq]
                have hgXS := G.sz
                have hrXS := Rb.lt
                have hwXS := R.lt
                replace R := R.alloc (.cells #[.int .i64 k, .string s, .string t, .slice X x.len cx, .slice A p.len ca, .slice Q q.len cq] 31)
                replace Rb := Rb.alloc (.cells #[.int .i64 k, .string s, .string t, .slice X x.len cx, .slice A p.len ca, .slice Q q.len cq] 31)
                replace SX := SX.alloc C (.cells #[.int .i64 k, .string s, .string t, .slice X x.len cx, .slice A p.len ca, .slice Q q.len cq] 31)
                replace SA := SA.alloc C (.cells #[.int .i64 k, .string s, .string t, .slice X x.len cx, .slice A p.len ca, .slice Q q.len cq] 31)
                replace SQ := SQ.alloc C (.cells #[.int .i64 k, .string s, .string t, .slice X x.len cx, .slice A p.len ca, .slice Q q.len cq] 31)
                replace G := G.alloc (.cells #[.int .i64 k, .string s, .string t, .slice X x.len cx, .slice A p.len ca, .slice Q q.len cq] 31)
                replace C := C.alloc (.cells #[.int .i64 k, .string s, .string t, .slice X x.len cx, .slice A p.len ca, .slice Q q.len cq] 31)
                have XS := XS0
                clear XS0
                generalize wdi.alloc (.cells #[.int .i64 k, .string s, .string t, .slice X x.len cx, .slice A p.len ca, .slice Q q.len cq] 31) = wdib at R Rb SX SA SQ G XS C ⊢
                refine wpAny_ready (rs := [1]) (by kernel_rfl) (by simp) ?_
                refine AllReady.cons (o := ⟨some 55, _, _, _, _, _⟩) rfl (fun K hK => ?_) AllReady.nil
                go_simp
                go_wp2_with fail
                try (refine hK _ _ ?_; clear hK K)
                try simp only [Act.put, List.setIfInBounds_toArray, List.set_cons_zero, List.set_cons_succ]
                have XI0 := Bx.new C 26 #[.int .i64 1, .int .i64 0, .string ⟨#[]⟩, .slice none 0 0]
                have hgXI := G.sz
                have hrXI := Rb.lt
                have hwXI := R.lt
                have hdXS := XS.lt
                replace R := R.alloc (.cells #[.int .i64 1, .int .i64 0, .string ⟨#[]⟩, .slice none 0 0] 26)
                replace Rb := Rb.alloc (.cells #[.int .i64 1, .int .i64 0, .string ⟨#[]⟩, .slice none 0 0] 26)
                replace SX := SX.alloc C (.cells #[.int .i64 1, .int .i64 0, .string ⟨#[]⟩, .slice none 0 0] 26)
                replace SA := SA.alloc C (.cells #[.int .i64 1, .int .i64 0, .string ⟨#[]⟩, .slice none 0 0] 26)
                replace SQ := SQ.alloc C (.cells #[.int .i64 1, .int .i64 0, .string ⟨#[]⟩, .slice none 0 0] 26)
                replace G := G.alloc (.cells #[.int .i64 1, .int .i64 0, .string ⟨#[]⟩, .slice none 0 0] 26)
                replace XS := XS.alloc (.cells #[.int .i64 1, .int .i64 0, .string ⟨#[]⟩, .slice none 0 0] 26)
                replace C := C.alloc (.cells #[.int .i64 1, .int .i64 0, .string ⟨#[]⟩, .slice none 0 0] 26)
                have XI := XI0
                clear XI0
                generalize wdib.alloc (.cells #[.int .i64 1, .int .i64 0, .string ⟨#[]⟩, .slice none 0 0] 26) = wdiba at R Rb SX SA SQ G XS XI C ⊢
                refine wpAny_take (i := 4) (oi := ⟨some 58, _, _, _, _, _⟩) (v := ?_) rfl (by kernel_rfl) (by kernel_rfl) (by kernel_rfl) (fun _ _ _ h => h) (Or.inl ⟨by rfl, ?_⟩) ?_
                case refine_2 => (intro w; go_simp; first | done | with_reducible rfl)
                simp only [Act.put, List.setIfInBounds_toArray, List.set_cons_zero, List.set_cons_succ]
                refine wpAny_ready (rs := [5]) (by kernel_rfl) (by simp) ?_
                refine AllReady.cons (o := ⟨none, _, _, _, _, _⟩) rfl (fun K hK => ?_) AllReady.nil
                have pc0 := Rb.cell
                have pf0 := Rb.frozen
                go_simp
                go_wp2_with fail
                clear pc0 pf0
                try (refine hK _ _ ?_; clear hK K)
                try simp only [Act.put, List.setIfInBounds_toArray, List.set_cons_zero, List.set_cons_succ]
                refine wpAny_done (by kernel_rfl) ?_ _
                go_wp2_with fail
                have hIS : ¬ wdib.heap.size = wdi.heap.size := by omega
                have SX9 := SlP.one (U := U1) (kids := .nil) XI.1 (SlP.nil_ _ none)
                have SA9 := SlSP.one XS.1 SX SA SQ
                have C9 := (C.freeze (V := fun y => y = wdib.heap.size) (fun y e => by subst e; exact ⟨XI.2.2, XI.lt⟩)).freeze (V := fun y => y = wdi.heap.size) (fun y e => by subst e; exact ⟨XS.2.2, XS.lt⟩)
                have G9 := (G.freeze (V := fun y => y = wdib.heap.size) (fun y e => by subst e; omega)).freeze (V := fun y => y = wdi.heap.size) (fun y e => by subst e; omega)
                have Rb9 := (Rb.freeze (V := fun y => y = wdib.heap.size) (show ¬ rb = wdib.heap.size by omega)).freeze (V := fun y => y = wdi.heap.size) (show ¬ rb = wdi.heap.size by omega)
                have R9 := (R.freeze (V := fun y => y = wdib.heap.size) (show ¬ w.heap.size = wdib.heap.size by omega)).freeze (V := fun y => y = wdi.heap.size) (show ¬ w.heap.size = wdi.heap.size by omega)
                replace SX9 := SX9.more (U' := fun y => (U1 y ∨ y = wdib.heap.size) ∨ y = wdi.heap.size) (fun _ h => .inl h)
                replace SA9 := SA9.more (U' := fun y => (U1 y ∨ y = wdib.heap.size) ∨ y = wdi.heap.size) (fun _ h => h.elim (fun h => .inl (.inl h)) .inr)
                have H := ((((((Rb9.set_ 0 (.int .i64 6)).set_ 1 (.string ⟨#[]⟩)).set_ 2 (.string ⟨#[]⟩)).set_ 3 (.slice (some ⟨wdib.heap.size, 0, none⟩) 1 1)).set_ 4 (.slice (some ⟨wdi.heap.size, 0, none⟩) 1 1)).set_ 5 (.slice none 0 0))
                simp only [List.setIfInBounds_toArray, List.set_cons_succ, List.set_cons_zero] at H
                go_roundw
                case rel => exact ⟨q0 - 1, by go_num, by omega, 6, ⟨#[]⟩, ⟨#[]⟩, .cons (1, 0, ⟨#[]⟩) .nil .nil, .cons (k, s, t) x p q .nil, .nil, _, _, none, 1, 1, 0, _, ((((((C9.setb (j := 0) Rb9.2.2 (.int .i64 6)).setb (j := 1) Rb9.2.2 (.string ⟨#[]⟩)).setb (j := 2) Rb9.2.2 (.string ⟨#[]⟩)).setb (j := 3) Rb9.2.2 (.slice (some ⟨wdib.heap.size, 0, none⟩) 1 1)).setb (j := 4) Rb9.2.2 (.slice (some ⟨wdi.heap.size, 0, none⟩) 1 1)).setb (j := 5) Rb9.2.2 (.slice none 0 0)), ((((((G9.setb (b := rb) (j := 0) (by omega) (.int .i64 6)).setb (b := rb) (j := 1) (by omega) (.string ⟨#[]⟩)).setb (b := rb) (j := 2) (by omega) (.string ⟨#[]⟩)).setb (b := rb) (j := 3) (by omega) (.slice (some ⟨wdib.heap.size, 0, none⟩) 1 1)).setb (b := rb) (j := 4) (by omega) (.slice (some ⟨wdi.heap.size, 0, none⟩) 1 1)).setb (b := rb) (j := 5) (by omega) (.slice none 0 0)), ((((((R9.far (b := rb) (j := 0) (by omega) (.int .i64 6)).far (b := rb) (j := 1) (by omega) (.string ⟨#[]⟩)).far (b := rb) (j := 2) (by omega) (.string ⟨#[]⟩)).far (b := rb) (j := 3) (by omega) (.slice (some ⟨wdib.heap.size, 0, none⟩) 1 1)).far (b := rb) (j := 4) (by omega) (.slice (some ⟨wdi.heap.size, 0, none⟩) 1 1)).far (b := rb) (j := 5) (by omega) (.slice none 0 0)), H, ((((((SX9.setb (j := 0) Rb9.2.1 (.int .i64 6)).setb (j := 1) Rb9.2.1 (.string ⟨#[]⟩)).setb (j := 2) Rb9.2.1 (.string ⟨#[]⟩)).setb (j := 3) Rb9.2.1 (.slice (some ⟨wdib.heap.size, 0, none⟩) 1 1)).setb (j := 4) Rb9.2.1 (.slice (some ⟨wdi.heap.size, 0, none⟩) 1 1)).setb (j := 5) Rb9.2.1 (.slice none 0 0)), ((((((SA9.setb (j := 0) Rb9.2.1 (.int .i64 6)).setb (j := 1) Rb9.2.1 (.string ⟨#[]⟩)).setb (j := 2) Rb9.2.1 (.string ⟨#[]⟩)).setb (j := 3) Rb9.2.1 (.slice (some ⟨wdib.heap.size, 0, none⟩) 1 1)).setb (j := 4) Rb9.2.1 (.slice (some ⟨wdi.heap.size, 0, none⟩) 1 1)).setb (j := 5) Rb9.2.1 (.slice none 0 0)), SlSP.nil_ _ _, by simp only [Fr.size, St.size]; omega⟩
                case measure => (simp [intOf] <;> omega)
            · go_simp
              go_wp2_with fail
              try (refine hK _ _ ?_; clear hK K)
              try simp only [Act.put, List.setIfInBounds_toArray, List.set_cons_zero, List.set_cons_succ]
              have XS0 := Bx.new C 31 #[.int .i64 k, .string s, .string t, .slice X x.len cx, .slice A p.len ca, .slice Q q.len cq]
              have hgXS := G.sz
              have hrXS := Rb.lt
              have hwXS := R.lt
              replace R := R.alloc (.cells #[.int .i64 k, .string s, .string t, .slice X x.len cx, .slice A p.len ca, .slice Q q.len cq] 31)
              replace Rb := Rb.alloc (.cells #[.int .i64 k, .string s, .string t, .slice X x.len cx, .slice A p.len ca, .slice Q q.len cq] 31)
              replace SX := SX.alloc C (.cells #[.int .i64 k, .string s, .string t, .slice X x.len cx, .slice A p.len ca, .slice Q q.len cq] 31)
              replace SA := SA.alloc C (.cells #[.int .i64 k, .string s, .string t, .slice X x.len cx, .slice A p.len ca, .slice Q q.len cq] 31)
              replace SQ := SQ.alloc C (.cells #[.int .i64 k, .string s, .string t, .slice X x.len cx, .slice A p.len ca, .slice Q q.len cq] 31)
              replace G := G.alloc (.cells #[.int .i64 k, .string s, .string t, .slice X x.len cx, .slice A p.len ca, .slice Q q.len cq] 31)
              replace C := C.alloc (.cells #[.int .i64 k, .string s, .string t, .slice X x.len cx, .slice A p.len ca, .slice Q q.len cq] 31)
              have XS := XS0
              clear XS0
              generalize wd.alloc (.cells #[.int .i64 k, .string s, .string t, .slice X x.len cx, .slice A p.len ca, .slice Q q.len cq] 31) = wdb at R Rb SX SA SQ G XS C ⊢
              refine wpAny_ready (rs := [0]) (by kernel_rfl) (by simp) ?_
              refine AllReady.cons (o := ⟨some 54, _, _, _, _, _⟩) rfl (fun K hK => ?_) AllReady.nil
              go_simp
              refine (sInt8 0 _).mono ?_; rintro e wdbi ⟨rfl, b6⟩
              go_wp2_with fail
              try (refine hK _ _ ?_; clear hK K)
              try simp only [Act.put, List.setIfInBounds_toArray, List.set_cons_zero, List.set_cons_succ]
              replace R := R.below b6
              replace Rb := Rb.below b6
              replace SX := SX.below C b6
              replace SA := SA.below C b6
              replace SQ := SQ.below C b6
              replace G := G.below b6
              replace XS := XS.below b6
              replace C := C.below b6
              clear b6
              refine wpAny_ready (rs := [1]) (by kernel_rfl) (by simp) ?_
              refine AllReady.cons (o := ⟨some 55, _, _, _, _, _⟩) rfl (fun K hK => ?_) AllReady.nil
              go_simp
              go_wp2_with fail
              try (refine hK _ _ ?_; clear hK K)
              try simp only [Act.put, List.setIfInBounds_toArray, List.set_cons_zero, List.set_cons_succ]
              have XI0 := Bx.new C 26 #[.int .i64 1, .int .i64 0, .string ⟨#[]⟩, .slice none 0 0]
              have hgXI := G.sz
              have hrXI := Rb.lt
              have hwXI := R.lt
              have hdXS := XS.lt
              replace R := R.alloc (.cells #[.int .i64 1, .int .i64 0, .string ⟨#[]⟩, .slice none 0 0] 26)
              replace Rb := Rb.alloc (.cells #[.int .i64 1, .int .i64 0, .string ⟨#[]⟩, .slice none 0 0] 26)
              replace SX := SX.alloc C (.cells #[.int .i64 1, .int .i64 0, .string ⟨#[]⟩, .slice none 0 0] 26)
              replace SA := SA.alloc C (.cells #[.int .i64 1, .int .i64 0, .string ⟨#[]⟩, .slice none 0 0] 26)
              replace SQ := SQ.alloc C (.cells #[.int .i64 1, .int .i64 0, .string ⟨#[]⟩, .slice none 0 0] 26)
              replace G := G.alloc (.cells #[.int .i64 1, .int .i64 0, .string ⟨#[]⟩, .slice none 0 0] 26)
              replace XS := XS.alloc (.cells #[.int .i64 1, .int .i64 0, .string ⟨#[]⟩, .slice none 0 0] 26)
              replace C := C.alloc (.cells #[.int .i64 1, .int .i64 0, .string ⟨#[]⟩, .slice none 0 0] 26)
              have XI := XI0
              clear XI0
              generalize wdbi.alloc (.cells #[.int .i64 1, .int .i64 0, .string ⟨#[]⟩, .slice none 0 0] 26) = wdbia at R Rb SX SA SQ G XS XI C ⊢
              refine wpAny_take (i := 4) (oi := ⟨some 58, _, _, _, _, _⟩) (v := ?_) rfl (by kernel_rfl) (by kernel_rfl) (by kernel_rfl) (fun _ _ _ h => h) (Or.inl ⟨by rfl, ?_⟩) ?_
              case refine_2 => (intro w; go_simp; first | done | with_reducible rfl)
              simp only [Act.put, List.setIfInBounds_toArray, List.set_cons_zero, List.set_cons_succ]
              refine wpAny_ready (rs := [5]) (by kernel_rfl) (by simp) ?_
              refine AllReady.cons (o := ⟨none, _, _, _, _, _⟩) rfl (fun K hK => ?_) AllReady.nil
              have pc0 := Rb.cell
              have pf0 := Rb.frozen
              go_simp
              go_wp2_with fail
              clear pc0 pf0
              try (refine hK _ _ ?_; clear hK K)
              try simp only [Act.put, List.setIfInBounds_toArray, List.set_cons_zero, List.set_cons_succ]
              refine wpAny_done (by kernel_rfl) ?_ _
              go_wp2_with fail
              have hIS : ¬ wdbi.heap.size = wd.heap.size := by omega
              have SX9 := SlP.one (U := U1) (kids := .nil) XI.1 (SlP.nil_ _ none)
              have SA9 := SlSP.one XS.1 SX SA SQ
              have C9 := (C.freeze (V := fun y => y = wdbi.heap.size) (fun y e => by subst e; exact ⟨XI.2.2, XI.lt⟩)).freeze (V := fun y => y = wd.heap.size) (fun y e => by subst e; exact ⟨XS.2.2, XS.lt⟩)
              have G9 := (G.freeze (V := fun y => y = wdbi.heap.size) (fun y e => by subst e; omega)).freeze (V := fun y => y = wd.heap.size) (fun y e => by subst e; omega)
              have Rb9 := (Rb.freeze (V := fun y => y = wdbi.heap.size) (show ¬ rb = wdbi.heap.size by omega)).freeze (V := fun y => y = wd.heap.size) (show ¬ rb = wd.heap.size by omega)
              have R9 := (R.freeze (V := fun y => y = wdbi.heap.size) (show ¬ w.heap.size = wdbi.heap.size by omega)).freeze (V := fun y => y = wd.heap.size) (show ¬ w.heap.size = wd.heap.size by omega)
              replace SX9 := SX9.more (U' := fun y => (U1 y ∨ y = wdbi.heap.size) ∨ y = wd.heap.size) (fun _ h => .inl h)
              replace SA9 := SA9.more (U' := fun y => (U1 y ∨ y = wdbi.heap.size) ∨ y = wd.heap.size) (fun _ h => h.elim (fun h => .inl (.inl h)) .inr)
              have H := ((((((Rb9.set_ 0 (.int .i64 6)).set_ 1 (.string ⟨#[]⟩)).set_ 2 (.string ⟨#[]⟩)).set_ 3 (.slice (some ⟨wdbi.heap.size, 0, none⟩) 1 1)).set_ 4 (.slice (some ⟨wd.heap.size, 0, none⟩) 1 1)).set_ 5 (.slice none 0 0))
              simp only [List.setIfInBounds_toArray, List.set_cons_succ, List.set_cons_zero] at H
              go_roundw
              case rel => exact ⟨q0 - 1, by go_num, by omega, 6, ⟨#[]⟩, ⟨#[]⟩, .cons (1, 0, ⟨#[]⟩) .nil .nil, .cons (k, s, t) x p q .nil, .nil, _, _, none, 1, 1, 0, _, ((((((C9.setb (j := 0) Rb9.2.2 (.int .i64 6)).setb (j := 1) Rb9.2.2 (.string ⟨#[]⟩)).setb (j := 2) Rb9.2.2 (.string ⟨#[]⟩)).setb (j := 3) Rb9.2.2 (.slice (some ⟨wdbi.heap.size, 0, none⟩) 1 1)).setb (j := 4) Rb9.2.2 (.slice (some ⟨wd.heap.size, 0, none⟩) 1 1)).setb (j := 5) Rb9.2.2 (.slice none 0 0)), ((((((G9.setb (b := rb) (j := 0) (by omega) (.int .i64 6)).setb (b := rb) (j := 1) (by omega) (.string ⟨#[]⟩)).setb (b := rb) (j := 2) (by omega) (.string ⟨#[]⟩)).setb (b := rb) (j := 3) (by omega) (.slice (some ⟨wdbi.heap.size, 0, none⟩) 1 1)).setb (b := rb) (j := 4) (by omega) (.slice (some ⟨wd.heap.size, 0, none⟩) 1 1)).setb (b := rb) (j := 5) (by omega) (.slice none 0 0)), ((((((R9.far (b := rb) (j := 0) (by omega) (.int .i64 6)).far (b := rb) (j := 1) (by omega) (.string ⟨#[]⟩)).far (b := rb) (j := 2) (by omega) (.string ⟨#[]⟩)).far (b := rb) (j := 3) (by omega) (.slice (some ⟨wdbi.heap.size, 0, none⟩) 1 1)).far (b := rb) (j := 4) (by omega) (.slice (some ⟨wd.heap.size, 0, none⟩) 1 1)).far (b := rb) (j := 5) (by omega) (.slice none 0 0)), H, ((((((SX9.setb (j := 0) Rb9.2.1 (.int .i64 6)).setb (j := 1) Rb9.2.1 (.string ⟨#[]⟩)).setb (j := 2) Rb9.2.1 (.string ⟨#[]⟩)).setb (j := 3) Rb9.2.1 (.slice (some ⟨wdbi.heap.size, 0, none⟩) 1 1)).setb (j := 4) Rb9.2.1 (.slice (some ⟨wd.heap.size, 0, none⟩) 1 1)).setb (j := 5) Rb9.2.1 (.slice none 0 0)), ((((((SA9.setb (j := 0) Rb9.2.1 (.int .i64 6)).setb (j := 1) Rb9.2.1 (.string ⟨#[]⟩)).setb (j := 2) Rb9.2.1 (.string ⟨#[]⟩)).setb (j := 3) Rb9.2.1 (.slice (some ⟨wdbi.heap.size, 0, none⟩) 1 1)).setb (j := 4) Rb9.2.1 (.slice (some ⟨wd.heap.size, 0, none⟩) 1 1)).setb (j := 5) Rb9.2.1 (.slice none 0 0)), SlSP.nil_ _ _, by simp only [Fr.size, St.size]; omega⟩
              case measure => (simp [intOf] <;> omega)
    have b5 : (xx == 5) = false := by simp [x5]
    have hx0 : ¬ (Value.slice AX lx.length cX).ownBlock = some rb := fun e => by have := hXl _ e; omega
    have hx1 : ¬ (Value.slice AX lx.length cX).ownBlock = some w.heap.size := fun e => by have := OX.1.lt _ e; omega
    have ha0 : ¬ (Value.slice AA la.length cA).ownBlock = some rb := fun e => by have := hAl _ e; omega
    have ha1 : ¬ (Value.slice AA la.length cA).ownBlock = some w.heap.size := fun e => by have := OA.1.lt _ e; omega
    obtain ⟨X, cx, A, ca, ex, ea, E⟩ := close2 (n := 1934) OX OA SQ C G (by omega) (by omega) (by exact hsz)
    replace Rb := (Rb.freeze (V := fun b => (Value.slice AX lx.length cX).ownBlock = some b) hx0).freeze (V := fun b => (Value.slice AA la.length cA).ownBlock = some b) ha0
    replace R := (R.freeze (V := fun b => (Value.slice AX lx.length cX).ownBlock = some b) hx1).freeze (V := fun b => (Value.slice AA la.length cA).ownBlock = some b) ha1
    rw [ex, ea] at Rb R E
    obtain ⟨hsE, SX, SA, SQ, C, G⟩ := E
    clear ex ea OX OA
    clear hx0 hx1 ha0 ha1 hXl hAl hXm
    go_wp2_with fail
    go_meet
    exact ⟨k, s, t, _, _, q, X, A, Q, cx, ca, cq, _, C, G, R, Rb, SX, SA, SQ, by omega⟩
  case rest =>
    clear Rb R OX OA SQ C G hsz
    obtain ⟨k, s, t, x, p, q, X, A, Q, cx, ca, cq, U1, C, G, R, Rb, SX, SA, SQ, hks⟩ := hcut
    have pc0 := Rb.cell
    have pf0 := Rb.frozen
    have pc1 := R.cell
    have pf1 := R.frozen
    go_wp2_with fail
    exact bodyPost_ret (res_cell1 rfl _ _ _ _ _ _ rfl ((((((R.1.set_ 0 _).set_ 1 _).set_ 2 _).set_ 3 _).set_ 4 _).set_ 5 _) Try.underlying31 (by kernel_rfl)) rfl ⟨k, s, t, x, p, q, X, A, Q, cx, ca, cq, U1, rfl, (((((((show CS 2200 B g U w U1 wc X x A p Q q from ⟨hks, SX, SA, SQ, C, G⟩).setb R.2 (Nat.le_refl _) _ _).setb R.2 (Nat.le_refl _) _ _).setb R.2 (Nat.le_refl _) _ _).setb R.2 (Nat.le_refl _) _ _).setb R.2 (Nat.le_refl _) _ _).setb R.2 (Nat.le_refl _) _ _)⟩

end Go.Proofs.Ytalnkdbmbjplpaa
