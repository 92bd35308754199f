/- FnExactJoinTexts: the program's JoinTexts returns what the reference's returns, for all arguments, and changes no argument. No condition. -/
import Derived.Test.YtjpefadalinhoaaLift
import Derived.Test.YtjpefadalinhoaaJoin
import Derived.Test.YtjpefadalinhoaaOpenS
namespace Go.Proofs.Ytjpefadalinhoaa
open Go.ChangeShapes Go.WideShapes Go.ChangeAt Go.RowKit
open Go.ChangeMaps (open_string shut_string)

set_option maxHeartbeats 2000000 in
theorem FnExactJoinTexts_walk (A : Option Addr) (c : Nat) (zs : List ByteArray) (w : World) (hR : Reads w w.heap.size 1 A zs.length (sVs zs)) (hZ : ∀ z ∈ zs, z.size ≤ 9223372036854775807) (hn : zs.length ≤ 9223372036854775807) :
    Calls Try.prog 6 #[.slice A zs.length c] w fun e w' => e = .returned (.bool true) ∧ Below w.heap.size w w' := by
  obtain ⟨z, hz⟩ : ∃ z, szS 1048576 zs = z := ⟨_, rfl⟩
  have cZ := fun w h => szStringS_any A c 1048576 zs w h hZ hn (by omega) (by omega)
  rw [hz] at cZ
  have CZ := Lib.hid cZ
  clear cZ
  by_cases hc : z < 0
  · clear hz
    go_enter Try.func6, Try.ntmps6
    go_wp2_with fail
    refine (CZ.out _ hR).mono ?_; rintro e w1 ⟨rfl, b1⟩
    go_wp2_with fail
    go_ret
    exact ⟨rfl, b1⟩
  · have hs := szS_sum zs 1048576 (by rw [hz]; exact hc)
    clear hz
    have cS := fun (A : Option Addr) (c : Nat) (w : World) (h : Reads w w.heap.size 1 A zs.length (sVs zs)) => sJoin A c zs w h (by omega)
    have cI := fun (A : Option Addr) (c : Nat) (w : World) (h : Reads w w.heap.size 1 A zs.length (sVs zs)) (hk : zs.length ≤ c) => iJoin A c zs w h hk (by omega)
    have hn2 : zs.length ≤ 1048576 := by omega
    generalize jn zs zs.length = Y at cS cI
    have CS := Lib.hid cS
    have CI := Lib.hid cI
    clear cS cI hs
    go_enter Try.func6, Try.ntmps6
    go_wp2_with fail
    refine (CZ.out _ hR).mono ?_; rintro e w1 ⟨rfl, b1⟩
    have s1 := b1.size
    have L1 := bl_trans (Below.refl w.heap.size w) b1
    go_wp2_with fail
    refine (toStringS_any A c zs _ (rd_below hR L1) (by omega)).mono ?_; rintro e w2 ⟨⟨v0, _, rfl, rfl, Ot⟩, b2⟩
    have s2 := b2.size
    have L2 := bl_trans L1 b2
    obtain ⟨At, ct, rfl⟩ := Ot.form
    go_wp2_with fail
    refine (CS.out At ct _ Ot.reads).mono ?_; rintro e w3 ⟨rfl, b3⟩
    have s3 := b3.size
    have L3 := bl_trans L2 b3
    replace Ot := Ot.keep b3
    go_wp2_with fail
    refine (toStringS_any A c zs _ (rd_below hR L3) (by omega)).mono ?_; rintro e w4 ⟨⟨vx, _, rfl, rfl, Ox⟩, b4⟩
    have s4 := b4.size
    have L4 := bl_trans L3 b4
    obtain ⟨Ax, cx, rfl⟩ := Ox.form
    go_wp2_with fail
    refine (CI.out Ax cx _ Ox.reads Ox.cap.1).mono ?_; rintro e w5 ⟨rfl, b5⟩
    have s5 := b5.size
    have L5 := bl_trans L4 b5
    replace Ox := Ox.keep b5
    go_wp2_with fail
    refine (toStringS_any A c zs _ (rd_below hR L5) (by omega)).mono ?_; rintro e w6 ⟨⟨vu, _, rfl, rfl, Ou⟩, b6⟩
    have s6 := b6.size
    have L6 := bl_trans L5 b6
    replace Ox := Ox.keep b6
    obtain ⟨Au, cu, rfl⟩ := Ou.form
    go_wp2_with fail
    refine (eqStringS_any Ax Au cx cu zs _ Ox.reads Ou.reads (by omega)).mono ?_; rintro e w7 ⟨rfl, b7⟩
    have s7 := b7.size
    have L7 := bl_trans L6 b7
    replace Ox := Ox.keep b7
    replace Ou := Ou.keep b7
    go_wp2_with fail
    go_ret
    exact ⟨rfl, L7⟩

theorem FnExactJoinTexts_args {H : Type} {enc : TypeId × Value → H} (W : World) (base : Nat) (args : Array Value) (ds : List (DataW H)) (p : List MemPlace)
    (hval : ∀ (j : Nat) t v, Try.f6.params[j]? = some t → args[j]? = some v → Value.okWide Try.checked.prog W .any base t v)
    (hA : DataW.TrodAll enc Try.checked.prog W 0 (fun _ => true) true Try.f6.params.toList args.toList ds p) :
    Calls Try.checked.prog 6 args W fun e W' => e = .returned (.bool true) ∧ Below W.heap.size W W' := by
  rw [Try.params6] at hA hval
  obtain ⟨v0, d0, rfl, rfl, h0⟩ := trodAll_one hA
  obtain ⟨A, c, zs, rfl, R, hz, hl⟩ := open_strs Try.underlying23 Try.underlying9 (by kernel_rfl) (hval 0 23 v0 rfl rfl) h0
  exact FnExactJoinTexts_walk A c zs W R hz hl

set_option maxRecDepth 100000 in
theorem FnExactJoinTexts_holds : Rows.FnExactJoinTextsSaid :=
  OpenClaim.holds_of_wide 6 Try.f6 rfl rfl rfl rfl rfl rfl rfl ⟨rfl, rfl, rfl, rfl, rfl⟩ rfl rfl rfl rfl rfl (by kernel_rfl) Try.func6 (by kernel_rfl)
    (of_decide_eq_true (by kernel_rfl)) (by unfold Func.isWrapper; rw [if_neg (of_decide_eq_false (by kernel_rfl))]; exact ⟨rfl, rfl⟩)
    (fun os started H enc _ => law_lift 6 Try.f6 Rows.fnExactJoinTextsSpec 4 own laidOut started (by kernel_rfl) Try.func6 (by kernel_rfl) rfl (by kernel_rfl) Try.underlying4
      (fun ds h => by
        have hl : ds.length = 1 := h.trans (by kernel_rfl)
        obtain ⟨d, rfl⟩ := len1 hl
        rfl)
      (ChangeSpec.witness6 (enc := enc) (C := Try.checked) false ⟨#[], #[.slice none 0 0], []⟩ 8 (by kernel_rfl) (by kernel_rfl) (by kernel_rfl) (by kernel_rfl))
      FnExactJoinTexts_args)
#print axioms FnExactJoinTexts_holds

end Go.Proofs.Ytjpefadalinhoaa
