/- FnExactGetVal: the program's GetVal returns what the reference's returns, for all arguments, and changes no argument. No condition. -/
import Derived.Test.YtkahlckjedaolaaLift
import Derived.Test.YtkahlckjedaolaaOpenB
import Derived.Test.YtkahlckjedaolaaGetVal
namespace Go.Proofs.Ytkahlckjedaolaa
open Go.ChangeShapes Go.WideShapes Go.ChangeAt Go.RowKit
open Go.ChangeMaps (open_string shut_string)

set_option maxHeartbeats 400000 in
theorem eqVal_same (k n : Int) (s : ByteArray) (w : World) :
    Calls Try.prog 44 #[.agg #[.int .i64 k, .int .i64 n, .string s], .agg #[.int .i64 k, .int .i64 n, .string s]] w fun e w' => e = .returned (.bool true) ∧ Below w.heap.size w w' := by
  go_enter Try.func44, Try.ntmps44
  go_wp2
  go_ret
  exact ⟨rfl, by repeat (first | exact Below.refl _ _ | refine bl_drewN ?_ _ | refine Below.drew ?_ | refine bl_alloc ?_ _ | refine bl_set ?_ (by simp) _ | refine bl_trans ?_ (by assumption))⟩

set_option maxHeartbeats 4000000 in
theorem FnExactGetVal_walk (A : Option Addr) (c : Nat) (zs : List Int) (p : Int) (w : World) (hR : Reads w w.heap.size 1 A zs.length (u8s zs)) (hZ : Byt zs) (hn : zs.length ≤ 9223372036854775807) :
    Calls Try.prog 13 #[.slice A zs.length c, .int .i64 p] w fun e w' => e = .returned (.bool true) ∧ Below w.heap.size w w' := by
  by_cases hc : 1048576 < (zs.length : Int)
  · go_enter Try.func13, Try.ntmps13
    go_wp2_with fail
    go_ret
    exact ⟨rfl, Below.refl _ _⟩
  have hz : zs.length ≤ 1048576 := by omega
  have cS := fun (A : Option Addr) (c : Nat) (w : World) (h : Reads w w.heap.size 1 A zs.length (u8s zs)) (hk : zs.length ≤ c ∧ c ≤ 9223372036854775807) => sGetVal A c p zs w h hZ (by omega) hk.1 hk.2
  have cI := fun (A : Option Addr) (c : Nat) (w : World) (h : Reads w w.heap.size 1 A zs.length (u8s zs)) (hk : zs.length ≤ c ∧ c ≤ 9223372036854775807) => iGetVal A c p zs w h hZ (by omega) hk.1 hk.2
  generalize getV zs p = G at cS cI
  cases G with
  | none =>
    simp only [resV] at cS cI
    have CS := Lib.hid cS
    have CI := Lib.hid cI
    clear cS cI
    go_enter Try.func13, Try.ntmps13
    go_wp2_with fail
    refine (toByteS_any A c zs _ hR hZ (by omega)).mono ?_; rintro e w1 ⟨⟨v0, _, rfl, rfl, _, Ot⟩, b1⟩
    obtain ⟨At, ct, rfl⟩ := Ot.form
    have L1 := bl_trans (Below.refl w.heap.size w) b1
    go_wp2_with fail
    refine (CS.out At ct _ Ot.reads Ot.cap).mono ?_; rintro e w2 ⟨rfl, b2⟩
    have L2 := bl_trans L1 b2
    go_wp2_with fail
    refine (toByteS_any A c zs _ (rd_below hR (bl_alloc L2 _)) hZ (by omega)).mono ?_; rintro e w3 ⟨⟨vx, _, rfl, rfl, _, Ox⟩, b3⟩
    obtain ⟨Ax, cx, rfl⟩ := Ox.form
    have D3 := (Blk.new w2 41 #[.int .i64 0, .int .i64 0, .string ⟨#[]⟩]).keep b3
    have L3 := bl_trans (bl_alloc L2 _) b3
    go_wp2_with fail
    refine (CI.out Ax cx _ Ox.reads Ox.cap).mono ?_; rintro e w4 ⟨rfl, b4⟩
    have L4 := bl_trans L3 b4
    have D4 := D3.keep b4
    replace Ox := Ox.keep b4
    have D5 := D4.alloc (.cells #[.int .i64 0, .int .i64 0, .string ⟨#[]⟩] 41)
    have dc := D5.cell
    go_wp2_with fail
    refine (eqVal_same 0 0 ⟨#[]⟩ _).mono ?_; rintro e w5 ⟨rfl, b5⟩
    have b5' := bl_trans (bl_alloc (Below.refl w4.heap.size w4) _) b5
    have L5 := bl_trans L4 b5'
    replace Ox := Ox.keep b5'
    clear dc
    go_wp2_with fail
    refine (toByteS_any A c zs _ (rd_below hR L5) hZ (by omega)).mono ?_; rintro e w6 ⟨⟨vt, _, rfl, rfl, _, Ou⟩, b6⟩
    obtain ⟨Au, cu, rfl⟩ := Ou.form
    have L6 := bl_trans L5 b6
    replace Ox := Ox.keep b6
    go_wp2_with fail
    refine (eqByteS_any Ax Au cx cu zs _ Ox.reads Ou.reads (by omega)).mono ?_; rintro e w7 ⟨rfl, b7⟩
    have L7 := bl_trans L6 b7
    go_wp2_with fail
    go_ret
    exact ⟨rfl, L7⟩
  | some x =>
    obtain ⟨⟨k, n, s⟩, q⟩ := x
    simp only [resV] at cS cI
    have CS := Lib.hid cS
    have CI := Lib.hid cI
    clear cS cI
    go_enter Try.func13, Try.ntmps13
    go_wp2_with fail
    refine (toByteS_any A c zs _ hR hZ (by omega)).mono ?_; rintro e w1 ⟨⟨v0, _, rfl, rfl, _, Ot⟩, b1⟩
    obtain ⟨At, ct, rfl⟩ := Ot.form
    have L1 := bl_trans (Below.refl w.heap.size w) b1
    go_wp2_with fail
    refine (CS.out At ct _ Ot.reads Ot.cap).mono ?_; rintro e w2 ⟨rfl, b2⟩
    have L2 := bl_trans L1 b2
    go_wp2_with fail
    refine (toByteS_any A c zs _ (rd_below hR (bl_alloc L2 _)) hZ (by omega)).mono ?_; rintro e w3 ⟨⟨vx, _, rfl, rfl, _, Ox⟩, b3⟩
    obtain ⟨Ax, cx, rfl⟩ := Ox.form
    have D3 := (Blk.new w2 41 #[.int .i64 k, .int .i64 n, .string s]).keep b3
    have L3 := bl_trans (bl_alloc L2 _) b3
    go_wp2_with fail
    refine (CI.out Ax cx _ Ox.reads Ox.cap).mono ?_; rintro e w4 ⟨rfl, b4⟩
    have L4 := bl_trans L3 b4
    have D4 := D3.keep b4
    replace Ox := Ox.keep b4
    have D5 := D4.alloc (.cells #[.int .i64 k, .int .i64 n, .string s] 41)
    have dc := D5.cell
    go_wp2_with fail
    refine (eqVal_same k n s _).mono ?_; rintro e w5 ⟨rfl, b5⟩
    have b5' := bl_trans (bl_alloc (Below.refl w4.heap.size w4) _) b5
    have L5 := bl_trans L4 b5'
    replace Ox := Ox.keep b5'
    clear dc
    go_wp2_with fail
    refine (toByteS_any A c zs _ (rd_below hR L5) hZ (by omega)).mono ?_; rintro e w6 ⟨⟨vt, _, rfl, rfl, _, Ou⟩, b6⟩
    obtain ⟨Au, cu, rfl⟩ := Ou.form
    have L6 := bl_trans L5 b6
    replace Ox := Ox.keep b6
    go_wp2_with fail
    refine (eqByteS_any Ax Au cx cu zs _ Ox.reads Ou.reads (by omega)).mono ?_; rintro e w7 ⟨rfl, b7⟩
    have L7 := bl_trans L6 b7
    go_wp2_with fail
    go_ret
    exact ⟨rfl, L7⟩

theorem FnExactGetVal_args {H : Type} {enc : TypeId × Value → H} (W : World) (base : Nat) (args : Array Value) (ds : List (DataW H)) (p : List MemPlace)
    (hval : ∀ (j : Nat) t v, Try.f13.params[j]? = some t → args[j]? = some v → Value.okWide Try.checked.prog W .any base t v)
    (hA : DataW.TrodAll enc Try.checked.prog W 0 (fun _ => true) true Try.f13.params.toList args.toList ds p) :
    Calls Try.checked.prog 13 args W fun e W' => e = .returned (.bool true) ∧ Below W.heap.size W W' := by
  rw [Try.params13] at hA hval
  obtain ⟨v0, v1, d0, d1, p0, p1, rfl, rfl, rfl, h0, h1⟩ := trodAll_two hA
  obtain ⟨A, c, zs, rfl, R, Wf, hlz⟩ := open_nums Try.underlying22 Try.underlying5 (by kernel_rfl) (hval 0 22 v0 rfl rfl) h0
  obtain ⟨q, rfl, rfl, rfl, _⟩ := open_int Try.underlying3 (hval 1 3 v1 rfl rfl) h1
  exact FnExactGetVal_walk A c zs q W R (byt_of_wf Wf) hlz

set_option maxRecDepth 100000 in
theorem FnExactGetVal_holds : Rows.FnExactGetValSaid :=
  OpenClaim.holds_of_wide 13 Try.f13 rfl rfl rfl rfl rfl rfl rfl ⟨rfl, rfl, rfl, rfl, rfl⟩ rfl rfl rfl rfl rfl (by kernel_rfl) Try.func13 (by kernel_rfl)
    (of_decide_eq_true (by kernel_rfl)) (by unfold Func.isWrapper; rw [if_neg (of_decide_eq_false (by kernel_rfl))]; exact ⟨rfl, rfl⟩)
    (fun os started H enc _ => law_lift 13 Try.f13 Rows.fnExactGetValSpec 4 own laidOut started (by kernel_rfl) Try.func13 (by kernel_rfl) rfl (by kernel_rfl) Try.underlying4
      (fun ds h => by
        have hl : ds.length = 2 := h.trans (by kernel_rfl)
        obtain ⟨a, b, rfl⟩ := len2 hl
        rfl)
      (ChangeSpec.witness6 (enc := enc) (C := Try.checked) false ⟨#[], #[.slice none 0 0, .int .i64 0], []⟩ 8 (by kernel_rfl) (by kernel_rfl) (by kernel_rfl) (by kernel_rfl))
      FnExactGetVal_args)
#print axioms FnExactGetVal_holds

end Go.Proofs.Ytkahlckjedaolaa
