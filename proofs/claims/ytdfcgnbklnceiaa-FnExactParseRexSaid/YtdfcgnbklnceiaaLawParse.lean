/- FnExactParseRex: the program's ParseRex returns what the reference's returns, for all arguments, and shares no memory. No condition. -/
import Derived.Test.YtdfcgnbklnceiaaLift
import Derived.Test.YtdfcgnbklnceiaaRexEq
import Derived.Test.YtdfcgnbklnceiaaParB
import Derived.Test.YtdfcgnbklnceiaaPasF
import Derived.Test.YtdfcgnbklnceiaaDjM
namespace Go.Proofs.Ytdfcgnbklnceiaa
open Go.ChangeShapes Go.WideShapes Go.ChangeAt Go.RowKit
open Go.ChangeMaps (open_string shut_string)

theorem parse_form (s : ByteArray) (hs : s.size ≤ 1048576) : ∃ (b : Bool) (k : Int) (t : ByteArray) (kids : Fr (Int × ByteArray)), kids.size ≤ 59 ∧ (∀ w, Calls Try.prog 33 #[.string s] w fun e w' => (∃ (A : Option Addr) (c : Nat), e = .returned (.tuple #[.agg #[.int .i64 k, .string t, .slice A kids.len c], .bool b]) ∧ Dj w' w.heap.size w'.heap.size A kids) ∧ Below w.heap.size w w') ∧ (∀ w, Calls Try.prog 34 #[.string s] w fun e w' => (∃ (A : Option Addr) (c : Nat), e = .returned (.tuple #[.agg #[.int .i64 k, .string t, .slice A kids.len c], .bool b]) ∧ Dj w' w.heap.size w'.heap.size A kids) ∧ Below w.heap.size w w') := by
  have cI := fun w => iParseRex s w hs
  have cS := fun w => sParseRex s w
  simp only [← parse_same s] at cS
  have hP := fun x => parse_sound (z := true) (n := 40) (s := s) (x := x)
  generalize parseP true 40 s = P at cI cS hP
  obtain ⟨⟨⟨k, t⟩, kids⟩, hx⟩ : ∃ x, P.getD (leafT 0 ⟨#[]⟩) = x := ⟨_, rfl⟩
  have hk : kids.size ≤ 59 := by
    cases P with
    | none =>
      have e : leafT 0 ⟨#[]⟩ = ((k, t), kids) := hx
      have e2 : kids = .nil := by rw [show kids = (leafT 0 ⟨#[]⟩ : Tr).2 by rw [e]]; rfl
      rw [e2]
      exact Nat.zero_le _
    | some y =>
      have e : y = ((k, t), kids) := hx
      subst e
      obtain ⟨hb, _⟩ := hP _ rfl
      exact (rexB_small hb).1
  have G : ∀ (fn : FuncId), (∀ w, Calls Try.prog fn #[.string s] w fun e w' => RetParse P w e w' ∧ Below w.heap.size w w') → ∀ w, Calls Try.prog fn #[.string s] w fun e w' => (∃ (A : Option Addr) (c : Nat), e = .returned (.tuple #[.agg #[.int .i64 k, .string t, .slice A kids.len c], .bool P.isSome]) ∧ Dj w' w.heap.size w'.heap.size A kids) ∧ Below w.heap.size w w' := by
    intro fn h w
    refine (h w).mono ?_
    rintro e w' ⟨⟨k1, t1, kids1, A, c, rfl, hD, h1⟩, b⟩
    rw [hx] at h1
    simp only [Prod.mk.injEq] at h1
    obtain ⟨⟨rfl, rfl⟩, rfl⟩ := h1
    exact ⟨⟨A, c, rfl, hD⟩, b⟩
  exact ⟨P.isSome, k, t, kids, hk, G _ cS, G _ cI⟩

set_option maxRecDepth 20000 in
set_option maxHeartbeats 8000000 in
theorem FnExactParseRex_walk (s : ByteArray) (w : World) (hss : s.size ≤ 9223372036854775807) :
    Calls Try.prog 8 #[.string s] w fun e w' => e = .returned (.bool true) ∧ Below w.heap.size w w' := by
  by_cases hs : s.size ≤ 1048576
  case neg =>
    have hgt : (1048576 : Int) < (s.size : Int) := by omega
    go_enter Try.func8, Try.ntmps8
    go_wp2_with fail
    go_ret
    exact ⟨rfl, Below.refl _ _⟩
  have hng : ¬ (1048576 : Int) < (s.size : Int) := by omega
  obtain ⟨b, k, t, kids, hk, cS, cI⟩ := parse_form s hs
  have CS := Lib.hid cS
  have CI := Lib.hid cI
  clear cS cI
  have CE := Lib.hid fun A A' c c' w h h' => eqRex_of k t kids A A' c c' w h h' (fun w' h h' => eqRexS_any kids.size (by omega) kids (Nat.le_refl _) A A' c c' w' h h')
  have cM := fun A c F w h1 h2 h3 => markD k t kids A c F w (by omega) h1 h2 h3
  have cH := fun A c w h => heldD k t kids A c w (by omega) h
  obtain ⟨kq, hkq⟩ : ∃ kq : Int, ((1 + 2 * kids.size : Nat) : Int) = kq := ⟨_, rfl⟩
  rw [hkq] at cM cH
  have hkq0 : ¬ kq < 0 := by omega
  have CM := Lib.hid cM
  have CH := Lib.hid cH
  clear hkq cM cH
  go_enter Try.func8, Try.ntmps8
  go_wp2_with fail
  refine (CS.out _).mono ?_; rintro e w1 ⟨⟨A0, c0, rfl, D0⟩, b1⟩
  have S0 := D0.sl
  clear D0
  have N3 := Blk.new w1 30 #[.int .i64 k, .string t, .slice A0 kids.len c0]
  have L3 := bl_alloc b1 (.cells #[.int .i64 k, .string t, .slice A0 kids.len c0] 30)
  have S3 := S0.below (bl_alloc (Below.refl w1.heap.size w1) (.cells #[.int .i64 k, .string t, .slice A0 kids.len c0] 30)) (Nat.le_refl _)
  have s3 := Nat.le_of_eq (alloc_size w1 (.cells #[.int .i64 k, .string t, .slice A0 kids.len c0] 30)).symm
  go_upto_region 4 with fail
  generalize w1.alloc (.cells #[.int .i64 k, .string t, .slice A0 kids.len c0] 30) = w3 at N3 L3 S3 s3 ⊢
  have s1 := b1.size
  clear S0
  go_wp2_with fail
  refine (CI.out _).mono ?_; rintro e w4 ⟨⟨A1, c1, rfl, D1⟩, b4⟩
  have s4 := b4.size
  have N5a := Blk.new w4 30 #[.int .i64 k, .string t, .slice A1 kids.len c1]
  have b5 := bl_alloc b4 (.cells #[.int .i64 k, .string t, .slice A1 kids.len c1] 30)
  have D5 := D1.below (bl_alloc (Below.refl w4.heap.size w4) (.cells #[.int .i64 k, .string t, .slice A1 kids.len c1] 30)) (Nat.le_refl _)
  have s5 := Nat.le_of_eq (alloc_size w4 (.cells #[.int .i64 k, .string t, .slice A1 kids.len c1] 30)).symm
  go_upto_region 5 with fail
  generalize w4.alloc (.cells #[.int .i64 k, .string t, .slice A1 kids.len c1] 30) = w5 at N5a b5 D5 s5 ⊢
  clear D1
  have L5 := bl_trans L3 b5
  replace N3 := N3.keep b5
  have S5 := S3.below b5 (by omega)
  obtain ⟨F, T5, ND, FB⟩ := D5
  have n3 := N3.cell
  have n5 := N5a.cell
  have SG5 : Sl rexC w5 0 w5.heap.size A1 kids := (Dj.sl ⟨F, T5, ND, FB⟩).more (Nat.zero_le _) (by omega)
  have HFB := Lib.hid FB
  have HND := Lib.hid ND
  clear FB ND S3
  go_wp2_with fail
  refine (CE.out _ _ _ _ _ SG5 (S5.more (Nat.zero_le _) (by omega))).mono ?_; rintro e w6 ⟨rfl, b6⟩
  have s6 := b6.size
  have L6 := bl_trans L5 b6
  replace N3 := N3.keep b6
  replace N5a := N5a.keep b6
  have S6 := S5.below b6 (by omega)
  have T6 := T5.keep (w' := w6) (fun j hj => b6.block j (by have := HFB.out j hj; omega))
  clear n3 n5 SG5 S5 T5
  have n5 := N5a.cell
  go_wp2_with fail
  refine (CM.out _ _ F _ (fun j hj => by have := HFB.out j hj; omega) HND.out T6).mono ?_; rintro e w7 ⟨rfl, M7, T7⟩
  have b7 : Below w3.heap.size w6 w7 := M7.bl (by omega) (fun j hj => (HFB.out j hj).1)
  have s7 := M7.size
  have L7 : Below w.heap.size w w7 := L6.trans (b7.mono (by omega))
  replace N3 := N3.below b7 (by omega)
  have N7 : Blk w7 w4.heap.size 30 #[.int .i64 k, .string t, .slice A1 kids.len c1] := (M7.block w4.heap.size N5a.lt (fun hm => by have := HFB.out _ hm; omega)).trans N5a
  have S7 := S6.below (b7.mono (by omega)) (Nat.le_refl _)
  have G7 : Sl rexC w7 0 w7.heap.size A1 (mkd 1 kids) := (Dj.sl ⟨F, T7, HND.out, HFB.out⟩).more (Nat.zero_le _) (by omega)
  clear n5 N5a S6 T6 T7 M7 b7
  have n7 := N7.cell
  go_wp2_with fail
  refine (CH.out _ _ _ G7).mono ?_; rintro e w8 ⟨rfl, b8⟩
  have s8 := b8.size
  have L8 := bl_trans L7 b8
  replace N3 := N3.keep b8
  replace N7 := N7.keep b8
  have S8 := S7.below b8 (by omega)
  have G8 := (G7.below b8 (Nat.le_refl _)).more (Nat.le_refl _) s8
  clear n7 S7 G7
  go_wp2_with fail
  refine (CI.out _).mono ?_; rintro e w9 ⟨⟨A2, c2, rfl, D2⟩, b9⟩
  have s9 := b9.size
  have SD2 := D2.sl
  clear D2
  have N10 := Blk.new w9 30 #[.int .i64 k, .string t, .slice A2 kids.len c2]
  have b10 := bl_alloc b9 (.cells #[.int .i64 k, .string t, .slice A2 kids.len c2] 30)
  have D10 := SD2.below (bl_alloc (Below.refl w9.heap.size w9) (.cells #[.int .i64 k, .string t, .slice A2 kids.len c2] 30)) (Nat.le_refl _)
  have s10 := Nat.le_of_eq (alloc_size w9 (.cells #[.int .i64 k, .string t, .slice A2 kids.len c2] 30)).symm
  go_upto_region 16 with fail
  generalize w9.alloc (.cells #[.int .i64 k, .string t, .slice A2 kids.len c2] 30) = w10 at N10 b10 D10 s10 ⊢
  clear SD2
  have L10 := bl_trans L8 b10
  replace N3 := N3.keep b10
  replace N7 := N7.keep b10
  have S10 := S8.below b10 (by omega)
  have G10 := (G8.below b10 (Nat.le_refl _)).more (Nat.le_refl _) b10.size
  have n3 := N3.cell
  have n10 := N10.cell
  clear S8 G8
  go_wp2_with fail
  refine (CE.out _ _ _ _ _ (D10.more (Nat.zero_le _) (by omega)) (S10.more (Nat.zero_le _) (by omega))).mono ?_; rintro e w11 ⟨rfl, b11⟩
  have L11 := bl_trans L10 b11
  replace N7 := N7.keep b11
  have G11 := (G10.below b11 (Nat.le_refl _)).more (Nat.le_refl _) b11.size
  clear n3 n10 S10 G10 D10
  have n7 := N7.cell
  go_wp2_with fail
  refine (CH.out _ _ _ G11).mono ?_; rintro e w12 ⟨rfl, b12⟩
  go_wp2_with fail
  go_ret
  exact ⟨rfl, bl_trans L11 b12⟩

set_option maxRecDepth 100000 in
theorem FnExactParseRex_args {H : Type} {enc : TypeId × Value → H} (W : World) (base : Nat) (args : Array Value) (ds : List (DataW H)) (p : List MemPlace)
    (hval : ∀ (j : Nat) t v, Try.f8.params[j]? = some t → args[j]? = some v → Value.okWide Try.checked.prog W .any base t v)
    (hA : DataW.TrodAll enc Try.checked.prog W 0 (fun _ => true) true Try.f8.params.toList args.toList ds p) :
    Calls Try.checked.prog 8 args W fun e W' => e = .returned (.bool true) ∧ Below W.heap.size W W' := by
  rw [Try.params8] at hA hval
  obtain ⟨v0, d0, rfl, rfl, h0⟩ := trodAll_one hA
  obtain ⟨s, rfl, rfl, rfl, hs⟩ := open_string Try.underlying9 (hval 0 9 v0 rfl rfl) h0
  exact FnExactParseRex_walk s W hs

set_option maxRecDepth 100000 in
theorem FnExactParseRex_holds : Rows.FnExactParseRexSaid :=
  OpenClaim.holds_of_wide 8 Try.f8 rfl rfl rfl rfl rfl rfl rfl ⟨rfl, rfl, rfl, rfl, rfl⟩ rfl rfl rfl rfl rfl (by kernel_rfl) Try.func8 (by kernel_rfl)
    (of_decide_eq_true (by kernel_rfl)) (by unfold Func.isWrapper; rw [if_neg (of_decide_eq_false (by kernel_rfl))]; exact ⟨rfl, rfl⟩)
    (fun os started H enc _ => law_lift 8 Try.f8 Rows.fnExactParseRexSpec 4 own laidOut started (by kernel_rfl) Try.func8 (by kernel_rfl) rfl (by kernel_rfl) Try.underlying4
      (fun ds h => by
        have hl : ds.length = 1 := h.trans (by kernel_rfl)
        obtain ⟨d, rfl⟩ := len1 hl
        rfl)
      (ChangeSpec.witness6 (enc := enc) (C := Try.checked) false ⟨#[], #[.string ⟨#[]⟩], []⟩ 8 (by kernel_rfl) (by kernel_rfl) (by kernel_rfl) (by kernel_rfl))
      FnExactParseRex_args)
#print axioms FnExactParseRex_holds

end Go.Proofs.Ytdfcgnbklnceiaa
