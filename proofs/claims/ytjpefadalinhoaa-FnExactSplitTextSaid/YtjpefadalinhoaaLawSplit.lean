/- FnExactSplitText: the program's SplitText returns what the reference's returns, for all arguments, and shares no memory. No condition. -/
import Derived.Test.YtjpefadalinhoaaLift
import Derived.Test.YtjpefadalinhoaaSplitI
import Derived.Test.YtjpefadalinhoaaSplitS
import Derived.Test.YtjpefadalinhoaaStrM
namespace Go.Proofs.Ytjpefadalinhoaa
open Go.ChangeShapes Go.WideShapes Go.ChangeAt Go.RowKit
open Go.ChangeMaps (open_string shut_string)

theorem spansB_len (s : ByteArray) : ∀ (f pos fr : Nat) (acc : List (Nat × Nat)), (spansB s f pos fr acc).1.length ≤ acc.length + f := by
  intro f
  induction f with
  | zero => intro pos fr acc; exact Nat.le_refl _
  | succ f ih =>
    intro pos fr acc
    rw [spansB]
    split
    · refine Nat.le_trans (ih _ _ _) ?_
      split
      · simp; omega
      · omega
    · refine Nat.le_trans (ih _ _ _) ?_
      omega
theorem wordsOf_len (s : ByteArray) : (wordsOf s).length ≤ s.size + 1 := by
  have := spansB_len s s.size 0 0 []
  unfold wordsOf
  rw [List.length_map]
  split
  · simp at this ⊢; omega
  · simp at this ⊢; omega

set_option maxHeartbeats 2000000 in
theorem FnExactSplitText_walk (s : ByteArray) (w : World) :
    Calls Try.prog 4 #[.string s] w fun e w' => e = .returned (.bool true) ∧ Below w.heap.size w w' := by
  by_cases hc : 1048576 < (s.size : Int)
  · go_enter Try.func4, Try.ntmps4
    go_wp2_with fail
    go_ret
    exact ⟨rfl, Below.refl _ _⟩
  · have hz : s.size ≤ 1048576 := by omega
    have hlen := wordsOf_len s
    have cS := fun (w : World) => sSplit s w hz
    have cI := fun (w : World) => iSplit s w hz
    generalize wordsOf s = Y at cS cI hlen
    have CS := Lib.hid cS
    have CI := Lib.hid cI
    clear cS cI
    go_enter Try.func4, Try.ntmps4
    go_wp2_with fail
    refine (CS.out _).mono ?_; rintro e w1 ⟨⟨vw, _, rfl, rfl, Ow⟩, b1⟩
    have s1 := b1.size
    have L1 := bl_trans (Below.refl w.heap.size w) b1
    obtain ⟨Aw, cw, rfl⟩ := Ow.form
    go_wp2_with fail
    refine (CI.out _).mono ?_; rintro e w2 ⟨⟨vg, _, rfl, rfl, Og⟩, b2⟩
    have s2 := b2.size
    have L2 := bl_trans L1 b2
    replace Ow := Ow.keep b2
    obtain ⟨Ag, cg, rfl⟩ := Og.form
    go_wp2_with fail
    refine (eqStringS_any Ag Aw cg cw Y _ Og.reads Ow.reads (by omega)).mono ?_; rintro e w3 ⟨rfl, b3⟩
    have s3 := b3.size
    have L3 := bl_trans L2 b3
    replace Ow := Ow.keep b3
    replace Og := Og.keep b3
    go_wp2_with fail
    refine (markStringS_any _ _ Ag cg 1 Y _ Og (by omega) (by omega) (by omega)).mono ?_; rintro e w4 ⟨rfl, Pg, g4⟩
    have s4 := g4.size
    replace Ow := Ow.far g4 (fun k hk => by have h1 := Og.1.lt k hk; have h2 := Og.2 k hk; omega)
    have L4 := Og.grow g4 L3 (by omega)
    replace Og := Pg
    go_wp2_with fail
    refine (heldStringS_any Ag cg 1 Y.length _ Og.reads (by omega) (by omega)).mono ?_; rintro e w5 ⟨rfl, b5⟩
    have s5 := b5.size
    have L5 := bl_trans L4 b5
    replace Ow := Ow.keep b5
    replace Og := Og.keep b5
    go_wp2_with fail
    refine (CI.out _).mono ?_; rintro e w6 ⟨⟨vh, _, rfl, rfl, Oh⟩, b6⟩
    have s6 := b6.size
    have L6 := bl_trans L5 b6
    replace Ow := Ow.keep b6
    replace Og := Og.keep b6
    obtain ⟨Ah, ch, rfl⟩ := Oh.form
    go_wp2_with fail
    refine (eqStringS_any Ah Aw ch cw Y _ Oh.reads Ow.reads (by omega)).mono ?_; rintro e w7 ⟨rfl, b7⟩
    have s7 := b7.size
    have L7 := bl_trans L6 b7
    replace Ow := Ow.keep b7
    replace Og := Og.keep b7
    replace Oh := Oh.keep b7
    go_wp2_with fail
    refine (heldStringS_any Ag cg 1 Y.length _ Og.reads (by omega) (by omega)).mono ?_; rintro e w8 ⟨rfl, b8⟩
    have s8 := b8.size
    have L8 := bl_trans L7 b8
    replace Ow := Ow.keep b8
    replace Og := Og.keep b8
    replace Oh := Oh.keep b8
    go_wp2_with fail
    go_ret
    exact ⟨rfl, L8⟩

theorem FnExactSplitText_args {H : Type} {enc : TypeId × Value → H} (W : World) (base : Nat) (args : Array Value) (ds : List (DataW H)) (p : List MemPlace)
    (hval : ∀ (j : Nat) t v, Try.f4.params[j]? = some t → args[j]? = some v → Value.okWide Try.checked.prog W .any base t v)
    (hA : DataW.TrodAll enc Try.checked.prog W 0 (fun _ => true) true Try.f4.params.toList args.toList ds p) :
    Calls Try.checked.prog 4 args W fun e W' => e = .returned (.bool true) ∧ Below W.heap.size W W' := by
  rw [Try.params4] at hA hval
  obtain ⟨v0, d0, rfl, rfl, h0⟩ := trodAll_one hA
  obtain ⟨s, rfl, rfl, rfl, _⟩ := open_string Try.underlying9 (hval 0 9 v0 rfl rfl) h0
  exact FnExactSplitText_walk s W

set_option maxRecDepth 100000 in
theorem FnExactSplitText_holds : Rows.FnExactSplitTextSaid :=
  OpenClaim.holds_of_wide 4 Try.f4 rfl rfl rfl rfl rfl rfl rfl ⟨rfl, rfl, rfl, rfl, rfl⟩ rfl rfl rfl rfl rfl (by kernel_rfl) Try.func4 (by kernel_rfl)
    (of_decide_eq_true (by kernel_rfl)) (by unfold Func.isWrapper; rw [if_neg (of_decide_eq_false (by kernel_rfl))]; exact ⟨rfl, rfl⟩)
    (fun os started H enc _ => law_lift 4 Try.f4 Rows.fnExactSplitTextSpec 4 own laidOut started (by kernel_rfl) Try.func4 (by kernel_rfl) rfl (by kernel_rfl) Try.underlying4
      (fun ds h => by
        have hl : ds.length = 1 := h.trans (by kernel_rfl)
        obtain ⟨d, rfl⟩ := len1 hl
        rfl)
      (ChangeSpec.witness6 (enc := enc) (C := Try.checked) false ⟨#[], #[.string ⟨#[]⟩], []⟩ 8 (by kernel_rfl) (by kernel_rfl) (by kernel_rfl) (by kernel_rfl))
      FnExactSplitText_args)
#print axioms FnExactSplitText_holds

end Go.Proofs.Ytjpefadalinhoaa
