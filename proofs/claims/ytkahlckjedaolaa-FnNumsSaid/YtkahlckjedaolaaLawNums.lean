/- FnNums: a drawn number, or the nearest that is kept, comes back of its bytes, with a sign or without. No condition. -/
import Derived.Test.YtkahlckjedaolaaLift
import Derived.Test.YtkahlckjedaolaaOpenB
import Derived.Test.YtkahlckjedaolaaDrawW
import Derived.Test.YtkahlckjedaolaaWrap
import Derived.Test.YtkahlckjedaolaaNumU
import Derived.Test.YtkahlckjedaolaaNumS
import Derived.Test.YtkahlckjedaolaaGetUAll
import Derived.Test.YtkahlckjedaolaaGetSAll
import Derived.Test.YtkahlckjedaolaaPutT
import Derived.Test.YtkahlckjedaolaaNumLaw
namespace Go.Proofs.Ytkahlckjedaolaa
open Go.ChangeShapes Go.WideShapes Go.ChangeAt Go.RowKit
open Go.ChangeMaps (open_string shut_string)

theorem Reads.cut {w : World} {B : Nat} {A : Option Addr} {n m : Nat} {xs : List Value} (h : Reads w B 1 A n xs) (hm : m ≤ n) : Reads w B 1 A m (xs.take m) :=
  ⟨by have := h.1; simp; omega, fun h0 => by
    obtain ⟨b, off, e, hb, hc⟩ := h.2 (by omega)
    exact ⟨b, off, e, hb, fun j u hu => hc j u (by
      rw [List.getElem?_take] at hu
      split at hu
      · exact hu
      · cases hu)⟩⟩
theorem u8s_last {w : World} {B : Nat} {A : Option Addr} {zs : List Int} (h : Reads w B 1 A zs.length (u8s zs)) : Reads w B 1 A zs.dropLast.length (u8s zs.dropLast) := by
  have := h.cut (m := zs.dropLast.length) (by rw [List.length_dropLast]; omega)
  rw [show u8s zs.dropLast = (u8s zs).take zs.dropLast.length by unfold u8s; rw [List.length_dropLast, List.dropLast_eq_take, List.map_take]]
  exact this
theorem byt_last {zs : List Int} (h : Byt zs) : Byt zs.dropLast := fun z hz => h z (List.dropLast_subset _ hz)

set_option maxHeartbeats 600000 in
theorem FnNums_walk (A : Option Addr) (c : Nat) (zs : List Int) (w : World) (hR : Reads w w.heap.size 1 A zs.length (u8s zs)) (hZ : Byt zs) :
    Calls Try.prog 11 #[.slice A zs.length c] w fun e w' => e = .returned (.bool true) ∧ Below w.heap.size w w' := by
  by_cases hc : 1048576 < (zs.length : Int)
  · have hd : decide (1048576 < (zs.length : Int)) = true := decide_eq_true hc
    go_enter Try.func11, Try.ntmps11
    go_wp2_with fail
    refine (big_any A zs.length c _).mono ?_; rintro e w1 ⟨rfl, rfl⟩
    rw [hd]
    go_wp2_with fail
    go_ret
    exact ⟨rfl, Below.refl _ _⟩
  · have hd : decide (1048576 < (zs.length : Int)) = false := decide_eq_false hc
    go_enter Try.func11, Try.ntmps11
    go_wp2_with fail
    refine (big_any A zs.length c _).mono ?_; rintro e w0 ⟨rfl, rfl⟩
    rw [hd]
    clear hd
    go_wp2_with fail
    refine (dPutU A zs.length c zs _ hR hZ (by omega)).mono ?_; rintro e w1 ⟨⟨v, ys, x, rfl, hy9, hY, Ob⟩, b1⟩
    have s1 := b1.size
    have L1 := bl_trans (Below.refl w0.heap.size w0) b1
    obtain ⟨Ab, cb, rfl⟩ := Ob.form
    go_wp2_with fail
    refine (iPutU Ab cb x ys _ Ob.reads hY (by omega)).mono ?_; rintro e w2 ⟨⟨vp, P, rfl, eP, hP, Op⟩, b2⟩
    have s2 := b2.size
    have L2 := bl_trans L1 b2
    replace Ob := Ob.keep b2
    obtain ⟨Ap, cp, rfl⟩ := Op.form
    have lP : P.length ≤ ys.length + 5 ∧ ys.length < P.length := by
      have tU := uB_len x
      have nU : 0 < (uB x).length := List.length_pos_iff.2 (uBf_ne 4 _)
      rw [← eP, List.length_append]; omega
    have gU1 := getU_put ys x
    have gU2 := getU_cut ys x
    rw [eP] at gU1 gU2
    obtain ⟨m, hm, em⟩ : ∃ m : Int, ((x < 0 ∧ m = 0) ∨ (2147483647 < x ∧ m = 2147483647) ∨ (0 ≤ x ∧ x ≤ 2147483647 ∧ m = x)) ∧ clampI x 0 2147483647 = m := ⟨_, by unfold clampI; split <;> (try split) <;> omega, rfl⟩
    rw [em] at gU1
    clear em
    clear eP
    have kP := Op.cap
    go_wp2_with fail
    have GU2 := Lib.hid gU2; clear gU2
    have C := iGetU Ap cp (ys.length : Int) P _ Op.reads hP (by omega)
    rw [gU1] at C; simp only [resP] at C
    refine C.mono ?_; clear C gU1; rintro e u2 ⟨rfl, rfl⟩
    go_wp2_with fail
    refine (iPutS Ab cb x ys _ Ob.reads hY (by omega)).mono ?_; rintro e w3 ⟨⟨vq, Q, rfl, eQ, hQ, Oq⟩, b3⟩
    have s3 := b3.size
    have L3 := bl_trans L2 b3
    replace Ob := Ob.keep b3
    replace Op := Op.keep b3
    obtain ⟨Aq, cq, rfl⟩ := Oq.form
    have lQ : Q.length ≤ ys.length + 5 ∧ ys.length < Q.length := by
      have tS : (sB x).length ≤ 5 := sBf_len 4 _
      have nS : 0 < (sB x).length := List.length_pos_iff.2 (sBf_ne 4 _)
      rw [← eQ, List.length_append]; omega
    have gS1 := getS_put ys x
    have gS2 := getS_cut ys x
    rw [eQ] at gS1 gS2
    clear eQ
    have kQ := Oq.cap
    go_wp2_with fail
    have GS2 := Lib.hid gS2; clear gS2
    have C := iGetS Aq cq (ys.length : Int) Q _ Oq.reads hQ (by omega) kQ.1 kQ.2
    rw [gS1] at C; simp only [resP] at C
    clear gS1
    refine (C).mono ?_; rintro e w4 ⟨rfl, b4⟩
    have s4 := b4.size
    have L4 := bl_trans L3 b4
    replace Ob := Ob.keep b4
    replace Op := Op.keep b4
    replace Oq := Oq.keep b4
    clear C
    go_wp2_with fail
    have D := iGetU Ap cp (ys.length : Int) P.dropLast _ (u8s_last Op.reads) (byt_last hP) (by rw [List.length_dropLast]; omega)
    rw [List.length_dropLast, GU2.out] at D; simp only [resP] at D
    refine D.mono ?_; clear D; rintro e u5 ⟨rfl, rfl⟩
    go_wp2_with fail
    have D := iGetS Aq cq (ys.length : Int) Q.dropLast _ (u8s_last Oq.reads) (byt_last hQ) (by rw [List.length_dropLast]; omega) (by rw [List.length_dropLast]; omega) kQ.2
    rw [List.length_dropLast, GS2.out] at D; simp only [resP] at D
    refine D.mono ?_; clear D; rintro e w6 ⟨rfl, b6⟩
    have L6 := bl_trans L4 b6
    clear GU2 GS2
    rcases hm with ⟨h1, rfl⟩ | ⟨h1, rfl⟩ | ⟨h1, h2, rfl⟩
    all_goals go_wp2_with fail
    all_goals (refine (sWrap _ _).mono ?_; rintro e w7 ⟨rfl, rfl⟩)
    all_goals go_wp2_with fail
    all_goals go_ret
    all_goals exact ⟨rfl, L6⟩

theorem FnNums_args {H : Type} {enc : TypeId × Value → H} (W : World) (base : Nat) (args : Array Value) (ds : List (DataW H)) (p : List MemPlace)
    (hval : ∀ (j : Nat) t v, Try.f11.params[j]? = some t → args[j]? = some v → Value.okWide Try.checked.prog W .any base t v)
    (hA : DataW.TrodAll enc Try.checked.prog W 0 (fun _ => true) true Try.f11.params.toList args.toList ds p) :
    Calls Try.checked.prog 11 args W fun e W' => e = .returned (.bool true) ∧ Below W.heap.size W W' := by
  rw [Try.params11] at hA hval
  obtain ⟨v0, d0, rfl, rfl, h0⟩ := trodAll_one hA
  obtain ⟨A, c, zs, rfl, R, Wf, hlz⟩ := open_nums Try.underlying22 Try.underlying5 (by kernel_rfl) (hval 0 22 v0 rfl rfl) h0
  exact FnNums_walk A c zs W R (byt_of_wf Wf)

set_option maxRecDepth 100000 in
theorem FnNums_holds : Rows.FnNumsSaid :=
  OpenClaim.holds_of_wide 11 Try.f11 rfl rfl rfl rfl rfl rfl rfl ⟨rfl, rfl, rfl, rfl, rfl⟩ rfl rfl rfl rfl rfl (by kernel_rfl) Try.func11 (by kernel_rfl)
    (of_decide_eq_true (by kernel_rfl)) (by unfold Func.isWrapper; rw [if_neg (of_decide_eq_false (by kernel_rfl))]; exact ⟨rfl, rfl⟩)
    (fun os started H enc _ => law_lift 11 Try.f11 Rows.fnNumsSpec 4 own laidOut started (by kernel_rfl) Try.func11 (by kernel_rfl) rfl (by kernel_rfl) Try.underlying4
      (fun ds h => by
        have hl : ds.length = 1 := h.trans (by kernel_rfl)
        obtain ⟨d, rfl⟩ := len1 hl
        rfl)
      (ChangeSpec.witness6 (enc := enc) (C := Try.checked) false ⟨#[], #[.slice none 0 0], []⟩ 8 (by kernel_rfl) (by kernel_rfl) (by kernel_rfl) (by kernel_rfl))
      FnNums_args)
#print axioms FnNums_holds

end Go.Proofs.Ytkahlckjedaolaa
