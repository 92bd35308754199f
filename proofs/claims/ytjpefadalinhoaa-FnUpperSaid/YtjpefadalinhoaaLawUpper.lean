/- FnUpper: in capitals only small letters turn. No condition. -/
import Derived.Test.YtjpefadalinhoaaLift
import Derived.Test.YtjpefadalinhoaaOpenB
import Derived.Test.YtjpefadalinhoaaDrawP
import Derived.Test.YtjpefadalinhoaaUpperI
namespace Go.Proofs.Ytjpefadalinhoaa
open Go.ChangeShapes Go.WideShapes Go.ChangeAt Go.RowKit
open Go.ChangeMaps (open_string shut_string)

theorem upS_size (s : ByteArray) : (upS s).size = s.size := by
  unfold upS ByteArray.size
  simp
theorem upS_get (s : ByteArray) (k : Nat) (hk : k < s.size) : ∃ h : k < (upS s).size, ((upS s)[k].toNat : Int) = upI s[k].toNat := by
  have h : k < (upS s).size := by rw [upS_size]; exact hk
  have e : (upS s)[k] = upB s[k] := by
    have h2 : k < (s.data.toList.map upB).length := by rw [List.length_map, Array.length_toList]; exact hk
    have : (s.data.toList.map upB)[k] = upB (s.data.toList[k]'(by rw [Array.length_toList]; exact hk)) := List.getElem_map _
    exact this
  exact ⟨h, by rw [← upB_toNat, e]⟩

set_option maxHeartbeats 1000000 in
theorem FnUpper_walk (A : Option Addr) (c : Nat) (zs : List Int) (w : World) (hR : Reads w w.heap.size 1 A zs.length (u8s zs)) (hZ : Byt zs) :
    Calls Try.prog 11 #[.slice A zs.length c] w fun e w' => e = .returned (.bool true) ∧ Below w.heap.size w w' := by
  by_cases hc : 1048576 < (zs.length : Int)
  · have hd : decide (1048576 < (zs.length : Int)) = true := decide_eq_true hc
    go_enter Try.func11, Try.ntmps11
    go_wp2_with fail
    refine (big_any A zs.length c _).mono ?_; rintro e w1 ⟨rfl, rfl⟩
    rw [hd]
    go_wp2_with fail
    go_ret
    exact ⟨rfl, Below.refl _ _⟩
  · have hd : decide (1048576 < (zs.length : Int)) = false := decide_eq_false hc
    go_enter Try.func11, Try.ntmps11
    go_wp2_with fail
    refine (big_any A zs.length c _).mono ?_; rintro e w0 ⟨rfl, rfl⟩
    rw [hd]
    clear hd
    go_wp2_with fail
    refine (dUpper A zs.length c zs _ hR hZ (by omega)).mono ?_; rintro e w1 ⟨⟨s, rfl, hs⟩, b1⟩
    go_wp2_with fail
    refine (iUpper s _ (by omega)).mono ?_; rintro e w2 ⟨rfl, b2⟩
    have hl := upS_size s
    have hg := upS_get s
    generalize upS s = t at hl hg
    have hlb : (t.size != s.size) = false := by simp [hl]
    have hlb' : ((t.size : Int) != s.size) = false := by simp [hl]
    have HL := Lib.hid hl
    clear hl
    go_wp2_with fail
    go_loopw [5, 6] (fun i sv wr => ∃ k : Nat, k ≤ s.size ∧ i = .int .i64 k ∧ Below w0.heap.size w0 wr) (fun i _ _ => s.size - (intOf i).toNat)
    case atStart => exact ⟨0, Nat.zero_le _, rfl, bl_trans b1 b2⟩
    case round =>
      obtain ⟨k, hk, rfl, hL⟩ := hrel
      by_cases hlt : (k : Int) < s.size
      · obtain ⟨ht, hv⟩ := hg k (by omega)
        have ht' : (k : Int) < t.size := by omega
        have hx := s[k].toNat_lt
        have hx' := t[k].toNat_lt
        clear hg
        by_cases c1 : 97 ≤ (s[k].toNat : Int)
        · by_cases c2 : (s[k].toNat : Int) ≤ 122
          · have hu : upI s[k].toNat = (s[k].toNat : Int) - 32 := by unfold upI; rw [inI_true c1 c2]; rfl
            rw [hu] at hv
            have hw : IntKind.u8.wrap ((s[k].toNat : Int) - 32) = (s[k].toNat : Int) - 32 := by rw [IntKind.wrap_u8]; omega
            clear hu
            go_wp2_with fail
            go_quiet (fail)
            go_wp2_with fail
            go_roundw
            case rel => exact ⟨k + 1, by omega, by go_num, bl_drewN hL _⟩
            case measure => simp [intOf]; omega
          · have hu : upI s[k].toNat = (s[k].toNat : Int) := by unfold upI; rw [inI_false (by omega)]; rfl
            rw [hu] at hv
            clear hu
            go_wp2_with fail
            go_quiet (fail)
            go_wp2_with fail
            go_roundw
            case rel => exact ⟨k + 1, by omega, by go_num, bl_drewN hL _⟩
            case measure => simp [intOf]; omega
        · have hu : upI s[k].toNat = (s[k].toNat : Int) := by unfold upI; rw [inI_false (by omega)]; rfl
          rw [hu] at hv
          clear hu
          go_wp2_with fail
          go_quiet (fail)
          go_wp2_with fail
          go_roundw
          case rel => exact ⟨k + 1, by omega, by go_num, bl_drewN hL _⟩
          case measure => simp [intOf]; omega
      · go_wp2_with fail
        go_ret
        exact ⟨rfl, hL⟩

theorem FnUpper_args {H : Type} {enc : TypeId × Value → H} (W : World) (base : Nat) (args : Array Value) (ds : List (DataW H)) (p : List MemPlace)
    (hval : ∀ (j : Nat) t v, Try.f11.params[j]? = some t → args[j]? = some v → Value.okWide Try.checked.prog W .any base t v)
    (hA : DataW.TrodAll enc Try.checked.prog W 0 (fun _ => true) true Try.f11.params.toList args.toList ds p) :
    Calls Try.checked.prog 11 args W fun e W' => e = .returned (.bool true) ∧ Below W.heap.size W W' := by
  rw [Try.params11] at hA hval
  obtain ⟨v0, d0, rfl, rfl, h0⟩ := trodAll_one hA
  obtain ⟨A, c, zs, rfl, R, Wf, hlz⟩ := open_nums Try.underlying39 Try.underlying5 (by kernel_rfl) (hval 0 39 v0 rfl rfl) h0
  exact FnUpper_walk A c zs W R (byt_of_wf Wf)

set_option maxRecDepth 100000 in
theorem FnUpper_holds : Rows.FnUpperSaid :=
  OpenClaim.holds_of_wide 11 Try.f11 rfl rfl rfl rfl rfl rfl rfl ⟨rfl, rfl, rfl, rfl, rfl⟩ rfl rfl rfl rfl rfl (by kernel_rfl) Try.func11 (by kernel_rfl)
    (of_decide_eq_true (by kernel_rfl)) (by unfold Func.isWrapper; rw [if_neg (of_decide_eq_false (by kernel_rfl))]; exact ⟨rfl, rfl⟩)
    (fun os started H enc _ => law_lift 11 Try.f11 Rows.fnUpperSpec 4 own laidOut started (by kernel_rfl) Try.func11 (by kernel_rfl) rfl (by kernel_rfl) Try.underlying4
      (fun ds h => by
        have hl : ds.length = 1 := h.trans (by kernel_rfl)
        obtain ⟨d, rfl⟩ := len1 hl
        rfl)
      (ChangeSpec.witness6 (enc := enc) (C := Try.checked) false ⟨#[], #[.slice none 0 0], []⟩ 8 (by kernel_rfl) (by kernel_rfl) (by kernel_rfl) (by kernel_rfl))
      FnUpper_args)
#print axioms FnUpper_holds

end Go.Proofs.Ytjpefadalinhoaa
