/- FnWraps: a wrapped number is one, stays so, and sums and products may be wrapped ahead. No condition. -/
import Derived.Test.YtkahlckjedaolaaLift
import Derived.Test.YtkahlckjedaolaaOpenB
import Derived.Test.YtkahlckjedaolaaDrawW
import Derived.Test.YtkahlckjedaolaaWrap
namespace Go.Proofs.Ytkahlckjedaolaa
open Go.ChangeShapes Go.WideShapes Go.ChangeAt Go.RowKit
open Go.ChangeMaps (open_string shut_string)

theorem wrap32_mod (n : Int) : wrap32 n % 4294967296 = n % 4294967296 := by unfold wrap32; omega
theorem wrap32_congr {x y : Int} (h : x % 4294967296 = y % 4294967296) : wrap32 x = wrap32 y := by unfold wrap32; omega
theorem wrap64_mod (n : Int) : wrap64 n % 4294967296 = n % 4294967296 := by unfold wrap64; omega
theorem wraps_sum (n k : Int) : wrap32 (wrap32 n + wrap32 k) = wrap32 (wrap64 (n + k)) := wrap32_congr (by
  rw [wrap64_mod, Int.add_emod, wrap32_mod, wrap32_mod, ← Int.add_emod])
theorem wraps_prod (n k : Int) : wrap32 (wrap64 (wrap32 n * wrap32 k)) = wrap32 (wrap64 (n * k)) := wrap32_congr (by
  rw [wrap64_mod, wrap64_mod, Int.mul_emod, wrap32_mod, wrap32_mod, ← Int.mul_emod])

set_option maxHeartbeats 2000000 in
theorem FnWraps_walk (A : Option Addr) (c : Nat) (zs : List Int) (w : World) (hR : Reads w w.heap.size 1 A zs.length (u8s zs)) (hZ : Byt zs) :
    Calls Try.prog 4 #[.slice A zs.length c] w fun e w' => e = .returned (.bool true) ∧ Below w.heap.size w w' := by
  by_cases hc : 1048576 < (zs.length : Int)
  · have hd : decide (1048576 < (zs.length : Int)) = true := decide_eq_true hc
    go_enter Try.func4, Try.ntmps4
    go_wp2_with fail
    refine (big_any A zs.length c _).mono ?_; rintro e w1 ⟨rfl, rfl⟩
    rw [hd]
    go_wp2_with fail
    go_ret
    exact ⟨rfl, Below.refl _ _⟩
  · have hd : decide (1048576 < (zs.length : Int)) = false := decide_eq_false hc
    go_enter Try.func4, Try.ntmps4
    go_wp2_with fail
    refine (big_any A zs.length c _).mono ?_; rintro e w1 ⟨rfl, rfl⟩
    rw [hd]
    clear hd
    go_wp2_with fail
    refine (dWrap A zs.length c zs _ hR hZ (by omega)).mono ?_; rintro e w2 ⟨⟨n, rfl, _⟩, b2⟩
    go_wp2_with fail
    refine (dPutU A zs.length c zs _ (rd_below hR b2) hZ (by omega)).mono ?_; rintro e w3 ⟨⟨v, ys, k, rfl, _, _, _⟩, b3⟩
    go_wp2_with fail
    have hb := wrap32_bd n
    have h1 : (wrap32 (wrap32 n) == wrap32 n) = true := by rw [wrap32_congr (wrap32_mod n)]; exact beq_self_eq_true _
    have h2 : (wrap32 (wrap32 n + wrap32 k) == wrap32 (wrap64 (n + k))) = true := by rw [wraps_sum]; exact beq_self_eq_true _
    have h3 : (wrap32 (wrap64 (wrap32 n * wrap32 k)) == wrap32 (wrap64 (n * k))) = true := by rw [wraps_prod]; exact beq_self_eq_true _
    have hk := wrap32_bd k
    refine (iWrap _ _).mono ?_; rintro e u1 ⟨rfl, rfl⟩
    go_wp2_with fail
    refine (sWrap _ _).mono ?_; rintro e u2 ⟨rfl, rfl⟩
    go_wp2_with fail
    refine (iWrap _ _).mono ?_; rintro e u3 ⟨rfl, rfl⟩
    go_wp2_with fail
    refine (iWrap _ _).mono ?_; rintro e u4 ⟨rfl, rfl⟩
    go_wp2_with fail
    refine (iWrap _ _).mono ?_; rintro e u5 ⟨rfl, rfl⟩
    go_wp2_with fail
    refine (iWrap _ _).mono ?_; rintro e u6 ⟨rfl, rfl⟩
    go_wp2_with fail
    refine (iWrap _ _).mono ?_; rintro e u7 ⟨rfl, rfl⟩
    go_wp2_with fail
    refine (iWrap _ _).mono ?_; rintro e u8 ⟨rfl, rfl⟩
    go_wp2_with fail
    refine (iWrap _ _).mono ?_; rintro e u9 ⟨rfl, rfl⟩
    go_wp2_with fail
    go_ret
    exact ⟨rfl, bl_trans b2 b3⟩

theorem FnWraps_args {H : Type} {enc : TypeId × Value → H} (W : World) (base : Nat) (args : Array Value) (ds : List (DataW H)) (p : List MemPlace)
    (hval : ∀ (j : Nat) t v, Try.f4.params[j]? = some t → args[j]? = some v → Value.okWide Try.checked.prog W .any base t v)
    (hA : DataW.TrodAll enc Try.checked.prog W 0 (fun _ => true) true Try.f4.params.toList args.toList ds p) :
    Calls Try.checked.prog 4 args W fun e W' => e = .returned (.bool true) ∧ Below W.heap.size W W' := by
  rw [Try.params4] at hA hval
  obtain ⟨v0, d0, rfl, rfl, h0⟩ := trodAll_one hA
  obtain ⟨A, c, zs, rfl, R, Wf, hlz⟩ := open_nums Try.underlying22 Try.underlying5 (by kernel_rfl) (hval 0 22 v0 rfl rfl) h0
  exact FnWraps_walk A c zs W R (byt_of_wf Wf)

set_option maxRecDepth 100000 in
theorem FnWraps_holds : Rows.FnWrapsSaid :=
  OpenClaim.holds_of_wide 4 Try.f4 rfl rfl rfl rfl rfl rfl rfl ⟨rfl, rfl, rfl, rfl, rfl⟩ rfl rfl rfl rfl rfl (by kernel_rfl) Try.func4 (by kernel_rfl)
    (of_decide_eq_true (by kernel_rfl)) (by unfold Func.isWrapper; rw [if_neg (of_decide_eq_false (by kernel_rfl))]; exact ⟨rfl, rfl⟩)
    (fun os started H enc _ => law_lift 4 Try.f4 Rows.fnWrapsSpec 4 own laidOut started (by kernel_rfl) Try.func4 (by kernel_rfl) rfl (by kernel_rfl) Try.underlying4
      (fun ds h => by
        have hl : ds.length = 1 := h.trans (by kernel_rfl)
        obtain ⟨d, rfl⟩ := len1 hl
        rfl)
      (ChangeSpec.witness6 (enc := enc) (C := Try.checked) false ⟨#[], #[.slice none 0 0], []⟩ 8 (by kernel_rfl) (by kernel_rfl) (by kernel_rfl) (by kernel_rfl))
      FnWraps_args)
#print axioms FnWraps_holds

end Go.Proofs.Ytkahlckjedaolaa
