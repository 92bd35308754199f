/- FnExactGetS: the program's GetS returns what the reference's returns, for all arguments, and changes no argument. No condition. -/
import Derived.Test.YtkahlckjedaolaaLift
import Derived.Test.YtkahlckjedaolaaOpenB
import Derived.Test.YtkahlckjedaolaaGetSAll
namespace Go.Proofs.Ytkahlckjedaolaa
open Go.ChangeShapes Go.WideShapes Go.ChangeAt Go.RowKit
open Go.ChangeMaps (open_string shut_string)

set_option maxHeartbeats 4000000 in
theorem FnExactGetS_walk (A : Option Addr) (c : Nat) (zs : List Int) (p : Int) (w : World) (hR : Reads w w.heap.size 1 A zs.length (u8s zs)) (hZ : Byt zs) (hn : zs.length ≤ 9223372036854775807) :
    Calls Try.prog 10 #[.slice A zs.length c, .int .i64 p] w fun e w' => e = .returned (.bool true) ∧ Below w.heap.size w w' := by
  by_cases hc : 1048576 < (zs.length : Int)
  · go_enter Try.func10, Try.ntmps10
    go_wp2_with fail
    go_ret
    exact ⟨rfl, Below.refl _ _⟩
  have hz : zs.length ≤ 1048576 := by omega
  have cS := fun (A : Option Addr) (c : Nat) (w : World) (h : Reads w w.heap.size 1 A zs.length (u8s zs)) (hk : zs.length ≤ c ∧ c ≤ 9223372036854775807) => sGetS A c p zs w h hZ (by omega)
  have cI := fun (A : Option Addr) (c : Nat) (w : World) (h : Reads w w.heap.size 1 A zs.length (u8s zs)) (hk : zs.length ≤ c ∧ c ≤ 9223372036854775807) => iGetS A c p zs w h hZ (by omega) hk.1 hk.2
  generalize getS zs p = G at cS cI
  cases G with
  | none =>
    simp only [resP] at cS cI
    have CS := Lib.hid cS
    have CI := Lib.hid cI
    clear cS cI
    go_enter Try.func10, Try.ntmps10
    go_wp2_with fail
    refine (toByteS_any A c zs _ hR hZ (by omega)).mono ?_; rintro e w1 ⟨⟨v0, _, rfl, rfl, _, Ot⟩, b1⟩
    have s1 := b1.size
    have L1 := bl_trans (Below.refl w.heap.size w) b1
    obtain ⟨At, ct, rfl⟩ := Ot.form
    go_wp2_with fail
    refine (CS.out At ct _ Ot.reads Ot.cap).mono ?_; rintro e w2 ⟨rfl, b2⟩
    have s2 := b2.size
    have L2 := bl_trans L1 b2
    replace Ot := Ot.keep b2
    go_wp2_with fail
    refine (toByteS_any A c zs _ (rd_below hR L2) hZ (by omega)).mono ?_; rintro e w3 ⟨⟨vx, _, rfl, rfl, _, Ox⟩, b3⟩
    have s3 := b3.size
    have L3 := bl_trans L2 b3
    obtain ⟨Ax, cx, rfl⟩ := Ox.form
    go_wp2_with fail
    refine (CI.out Ax cx _ Ox.reads Ox.cap).mono ?_; rintro e w4 ⟨rfl, b4⟩
    have s4 := b4.size
    have L4 := bl_trans L3 b4
    replace Ox := Ox.keep b4
    go_wp2_with fail
    refine (toByteS_any A c zs _ (rd_below hR L4) hZ (by omega)).mono ?_; rintro e w5 ⟨⟨vt, _, rfl, rfl, _, Ou⟩, b5⟩
    have s5 := b5.size
    have L5 := bl_trans L4 b5
    replace Ox := Ox.keep b5
    obtain ⟨Au, cu, rfl⟩ := Ou.form
    go_wp2_with fail
    refine (eqByteS_any Ax Au cx cu zs _ Ox.reads Ou.reads (by omega)).mono ?_; rintro e w6 ⟨rfl, b6⟩
    have s6 := b6.size
    have L6 := bl_trans L5 b6
    replace Ox := Ox.keep b6
    replace Ou := Ou.keep b6
    go_wp2_with fail
    go_ret
    exact ⟨rfl, L6⟩
  | some x =>
    obtain ⟨m, q⟩ := x
    simp only [resP] at cS cI
    have CS := Lib.hid cS
    have CI := Lib.hid cI
    clear cS cI
    go_enter Try.func10, Try.ntmps10
    go_wp2_with fail
    refine (toByteS_any A c zs _ hR hZ (by omega)).mono ?_; rintro e w1 ⟨⟨v0, _, rfl, rfl, _, Ot⟩, b1⟩
    have s1 := b1.size
    have L1 := bl_trans (Below.refl w.heap.size w) b1
    obtain ⟨At, ct, rfl⟩ := Ot.form
    go_wp2_with fail
    refine (CS.out At ct _ Ot.reads Ot.cap).mono ?_; rintro e w2 ⟨rfl, b2⟩
    have s2 := b2.size
    have L2 := bl_trans L1 b2
    replace Ot := Ot.keep b2
    go_wp2_with fail
    refine (toByteS_any A c zs _ (rd_below hR L2) hZ (by omega)).mono ?_; rintro e w3 ⟨⟨vx, _, rfl, rfl, _, Ox⟩, b3⟩
    have s3 := b3.size
    have L3 := bl_trans L2 b3
    obtain ⟨Ax, cx, rfl⟩ := Ox.form
    go_wp2_with fail
    refine (CI.out Ax cx _ Ox.reads Ox.cap).mono ?_; rintro e w4 ⟨rfl, b4⟩
    have s4 := b4.size
    have L4 := bl_trans L3 b4
    replace Ox := Ox.keep b4
    go_wp2_with fail
    refine (toByteS_any A c zs _ (rd_below hR L4) hZ (by omega)).mono ?_; rintro e w5 ⟨⟨vt, _, rfl, rfl, _, Ou⟩, b5⟩
    have s5 := b5.size
    have L5 := bl_trans L4 b5
    replace Ox := Ox.keep b5
    obtain ⟨Au, cu, rfl⟩ := Ou.form
    go_wp2_with fail
    refine (eqByteS_any Ax Au cx cu zs _ Ox.reads Ou.reads (by omega)).mono ?_; rintro e w6 ⟨rfl, b6⟩
    have s6 := b6.size
    have L6 := bl_trans L5 b6
    replace Ox := Ox.keep b6
    replace Ou := Ou.keep b6
    go_wp2_with fail
    go_ret
    exact ⟨rfl, L6⟩

theorem FnExactGetS_args {H : Type} {enc : TypeId × Value → H} (W : World) (base : Nat) (args : Array Value) (ds : List (DataW H)) (p : List MemPlace)
    (hval : ∀ (j : Nat) t v, Try.f10.params[j]? = some t → args[j]? = some v → Value.okWide Try.checked.prog W .any base t v)
    (hA : DataW.TrodAll enc Try.checked.prog W 0 (fun _ => true) true Try.f10.params.toList args.toList ds p) :
    Calls Try.checked.prog 10 args W fun e W' => e = .returned (.bool true) ∧ Below W.heap.size W W' := by
  rw [Try.params10] at hA hval
  obtain ⟨v0, v1, d0, d1, p0, p1, rfl, rfl, rfl, h0, h1⟩ := trodAll_two hA
  obtain ⟨A, c, zs, rfl, R, Wf, hlz⟩ := open_nums Try.underlying22 Try.underlying5 (by kernel_rfl) (hval 0 22 v0 rfl rfl) h0
  obtain ⟨q, rfl, rfl, rfl, _⟩ := open_int Try.underlying3 (hval 1 3 v1 rfl rfl) h1
  exact FnExactGetS_walk A c zs q W R (byt_of_wf Wf) hlz

set_option maxRecDepth 100000 in
theorem FnExactGetS_holds : Rows.FnExactGetSSaid :=
  OpenClaim.holds_of_wide 10 Try.f10 rfl rfl rfl rfl rfl rfl rfl ⟨rfl, rfl, rfl, rfl, rfl⟩ rfl rfl rfl rfl rfl (by kernel_rfl) Try.func10 (by kernel_rfl)
    (of_decide_eq_true (by kernel_rfl)) (by unfold Func.isWrapper; rw [if_neg (of_decide_eq_false (by kernel_rfl))]; exact ⟨rfl, rfl⟩)
    (fun os started H enc _ => law_lift 10 Try.f10 Rows.fnExactGetSSpec 4 own laidOut started (by kernel_rfl) Try.func10 (by kernel_rfl) rfl (by kernel_rfl) Try.underlying4
      (fun ds h => by
        have hl : ds.length = 2 := h.trans (by kernel_rfl)
        obtain ⟨a, b, rfl⟩ := len2 hl
        rfl)
      (ChangeSpec.witness6 (enc := enc) (C := Try.checked) false ⟨#[], #[.slice none 0 0, .int .i64 0], []⟩ 8 (by kernel_rfl) (by kernel_rfl) (by kernel_rfl) (by kernel_rfl))
      FnExactGetS_args)
#print axioms FnExactGetS_holds

end Go.Proofs.Ytkahlckjedaolaa
