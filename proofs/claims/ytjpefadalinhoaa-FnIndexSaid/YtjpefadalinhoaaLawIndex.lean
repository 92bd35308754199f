/- FnIndex: a text is found at a place just if it stands there, and at none ahead of it. No condition. -/
import Derived.Test.YtjpefadalinhoaaLiftS
import Derived.Test.YtjpefadalinhoaaOpenB
import Derived.Test.YtjpefadalinhoaaDrawP
import Derived.Test.YtjpefadalinhoaaIndexI
import Derived.Test.YtjpefadalinhoaaText1
namespace Go.Proofs.Ytjpefadalinhoaa
open Go.ChangeShapes Go.WideShapes Go.ChangeAt Go.RowKit
open Go.ChangeMaps (open_string shut_string)

/-- Two texts. -/
def RetS2 (R : ByteArray → ByteArray → Prop) (e : Ending) : Prop := ∃ s t : ByteArray, e = .returned (.tuple #[.string s, .string t]) ∧ R s t
set_option maxHeartbeats 1000000 in
theorem dIndex (A : Option Addr) (n c : Nat) (zs : List Int) (w : World) (hR : Reads w w.heap.size 1 A n (u8s zs)) (hZ : Byt zs) (hn : n ≤ 1048576) :
    Calls Try.prog 30 #[.slice A n c] w fun e w' => RetS2 (fun s t => s.size ≤ 6 ∧ t.size ≤ 9) e ∧ Below w.heap.size w w' := by
  go_enter Try.func30, Try.ntmps30
  go_wp2_with fail
  refine (dNew w.heap.size n c A zs w hR hZ (Nat.le_refl _) hn).mono ?_; rintro e w1 ⟨g, rfl, hc1, hg, b1⟩
  go_wp2_with fail
  refine (dText w.heap.size g _ hc1).mono ?_; rintro e w2 ⟨⟨s, rfl, hs⟩, hc2, g2⟩
  go_wp2_with fail
  refine (dStr w.heap.size g w2.heap.size 6 [⟨#[]⟩, ⟨#[97]⟩, ⟨#[97, 98]⟩, ⟨#[98]⟩, ⟨#[99, 97]⟩, ⟨#[97, 98, 99, 97, 98, 99, 97, 98, 99]⟩] _ (hc2.alloc _) rfl (by omega) (by omega) (Blk.new w2 _ _) (by have := hc2.lt; omega)).mono ?_; rintro e w3 ⟨⟨z, rfl, hz⟩, hc3, g3⟩
  have hz1 : z.size ≤ 9 := (show ∀ z ∈ ([⟨#[]⟩, ⟨#[97]⟩, ⟨#[97, 98]⟩, ⟨#[98]⟩, ⟨#[99, 97]⟩, ⟨#[97, 98, 99, 97, 98, 99, 97, 98, 99]⟩] : List ByteArray), z.size ≤ 9 by decide) z hz
  clear hz
  go_wp2_with fail
  go_ret2
  exact ⟨⟨s, z, rfl, hs, hz1⟩, bl_gr (bl_gr b1 g2 (fun k e => by cases e; exact hg)) (gr_trans (gr_alloc (gr_refl w2 (some g)) _) g3) (fun k e => by cases e; exact hg)⟩

theorem sub_found (s t : ByteArray) (k : Nat) (hs : s.size ≤ 999999) (hk : k + t.size ≤ s.size) (h : ((s.extract k (k + t.size)).toList == t.toList) = true) : ((subT s ((k : Int) + 1) t.size).toList == t.toList) = true := by
  rw [subT_of s _ _ ((k : Int) + 1) t.size (by unfold clampI; rw [if_neg (by omega), if_neg (by omega)]) (by unfold clampI; rw [if_neg (by omega), if_neg (by omega)]) ((k : Int) + 1) ((k : Int) + 1 + t.size) (by rw [if_neg (by omega)]) (by rw [if_neg (by omega)])]
  by_cases h0 : t.size = 0
  · have e1 : t.data.toList = [] := List.eq_nil_of_length_eq_zero (by rw [← Lib.size_eq]; exact h0)
    have e2 : t = ByteArray.empty := ByteArray.ext (Array.toList_inj.1 e1)
    rw [if_neg (by omega), e2]
    exact beq_self_eq_true _
  · rw [if_pos (by omega), show ((k : Int) + 1 - 1).toNat = k by omega, show ((k : Int) + 1 + t.size - 1).toNat = k + t.size by omega]
    exact h

set_option maxHeartbeats 1000000 in
theorem FnIndex_walk (A : Option Addr) (c : Nat) (zs : List Int) (m : Int) (w : World) (hm : MaxCell m w) (hR : Reads w w.heap.size 1 A zs.length (u8s zs)) (hZ : Byt zs) :
    Calls Try.prog 8 #[.slice A zs.length c] w fun e w' => e = .returned (.bool true) ∧ Below w.heap.size w w' := by
  by_cases hc : 1048576 < (zs.length : Int)
  · have hd : decide (1048576 < (zs.length : Int)) = true := decide_eq_true hc
    go_enter Try.func8, Try.ntmps8
    go_wp2_with fail
    refine (big_any A zs.length c _).mono ?_; rintro e w1 ⟨rfl, rfl⟩
    rw [hd]
    go_wp2_with fail
    go_ret
    exact ⟨rfl, Below.refl _ _⟩
  · have hd : decide (1048576 < (zs.length : Int)) = false := decide_eq_false hc
    go_enter Try.func8, Try.ntmps8
    go_wp2_with fail
    refine (big_any A zs.length c _).mono ?_; rintro e w0 ⟨rfl, rfl⟩
    rw [hd]
    clear hd
    go_wp2_with fail
    refine (dIndex A zs.length c zs _ hR hZ (by omega)).mono ?_; rintro e w1 ⟨⟨s, t, rfl, hs, ht⟩, b1⟩
    have hm1 := hm.keep b1
    have C1 := Lib.hid (iIndexOf s t m w1 hm1 (by omega))
    have C2 := Lib.hid (fun w => sIndexOf s t w (by omega) (by omega))
    have E1 := fun k (h : notYet s t k) a b => Lib.hid (h.found a b)
    have E2 := fun k (h : notYet s t k) a b => Lib.hid (h.none a b)
    generalize Lib.index s.data.toList t.data.toList = R at C1 C2 E1 E2
    go_wp2_with fail
    refine C1.out.mono ?_; rintro e u1 ⟨rfl, rfl⟩
    go_wp2_with fail
    refine (C2.out _).mono ?_; rintro e u2 ⟨rfl, rfl⟩
    clear C1 C2
    go_wp2_with fail
    go_loopw [6] (fun i wr => ∃ k : Nat, k ≤ s.size + 1 ∧ (t.size = 0 → k ≤ s.size) ∧ i = .int .i64 k ∧ notYet s t k ∧ Below w0.heap.size w0 wr) (fun i _ => s.size + 1 - (intOf i).toNat)
    case atStart => exact ⟨0, Nat.zero_le _, fun _ => Nat.zero_le _, rfl, notYet.zero _ _, b1⟩
    case round =>
      obtain ⟨k, hk, hk0, rfl, hN, hL⟩ := hrel
      by_cases hlt : (k : Int) + t.size ≤ (s.size : Int)
      · have hkn : k + t.size ≤ s.size := by omega
        have e1 : ((k : Int) + (t.size : Int)).toNat = k + t.size := by omega
        have HN := Lib.hid hN
        clear hN E2
        cases h1 : ((s.extract k (k + t.size)).toList == t.toList)
        · have H := Lib.hid (HN.out.succ hkn h1)
          have hz := Lib.hid (notYet.empty hkn h1)
          clear E1 HN
          go_wp2_with fail
          go_roundw
          case rel => exact ⟨k + 1, by omega, fun h => (hz.out h).elim, by go_num, H.out, hL⟩
          case measure => simp [intOf]; omega
        · have E := E1 k HN.out hkn h1
          have hsub := Lib.hid (sub_found s t k (by omega) hkn h1)
          clear E1 HN
          have hR1 : R = k := E.out
          subst hR1
          go_wp2_with fail
          refine (iSub s _ _ _ (by omega)).mono ?_; rintro e u3 ⟨rfl, b3⟩
          generalize subT s ((k : Int) + 1) t.size = z at hsub
          have hs2 := hsub.out
          go_wp2_with fail
          go_ret
          exact ⟨rfl, hL⟩
      · have E := E2 k hN (by omega) (fun _ => by omega)
        clear E1 E2 hN
        have hR1 : R = -1 := E.out
        subst hR1
        go_wp2_with fail
        go_ret
        exact ⟨rfl, hL⟩

theorem FnIndex_args {H : Type} {enc : TypeId × Value → H} (W : World) (base : Nat) (args : Array Value) (ds : List (DataW H)) (p : List MemPlace)
    (hval : ∀ (j : Nat) t v, Try.f8.params[j]? = some t → args[j]? = some v → Value.okWide Try.checked.prog W .any base t v)
    (hA : DataW.TrodAll enc Try.checked.prog W 0 (fun _ => true) true Try.f8.params.toList args.toList ds p)
    (hS : W.ShapedOpen Try.checked.prog) :
    Calls Try.checked.prog 8 args W fun e W' => e = .returned (.bool true) ∧ Below W.heap.size W W' := by
  rw [Try.params8] at hA hval
  obtain ⟨v0, d0, rfl, rfl, h0⟩ := trodAll_one hA
  obtain ⟨A, c, zs, rfl, R, Wf, hlz⟩ := open_nums Try.underlying39 Try.underlying5 (by kernel_rfl) (hval 0 39 v0 rfl rfl) h0
  obtain ⟨m, hm⟩ := max_of_shaped hS
  exact FnIndex_walk A c zs m W hm R (byt_of_wf Wf)

set_option maxRecDepth 100000 in
theorem FnIndex_holds : Rows.FnIndexSaid :=
  OpenClaim.holds_of_wide 8 Try.f8 rfl rfl rfl rfl rfl rfl rfl ⟨rfl, rfl, rfl, rfl, rfl⟩ rfl rfl rfl rfl rfl (by kernel_rfl) Try.func8 (by kernel_rfl)
    (of_decide_eq_true (by kernel_rfl)) (by unfold Func.isWrapper; rw [if_neg (of_decide_eq_false (by kernel_rfl))]; exact ⟨rfl, rfl⟩)
    (fun os started H enc _ => law_lift_shaped 8 Try.f8 Rows.fnIndexSpec 4 own laidOut started (by kernel_rfl) Try.func8 (by kernel_rfl) rfl (by kernel_rfl) Try.underlying4
      (fun ds h => by
        have hl : ds.length = 1 := h.trans (by kernel_rfl)
        obtain ⟨d, rfl⟩ := len1 hl
        rfl)
      (ChangeSpec.witness6 (enc := enc) (C := Try.checked) false ⟨#[], #[.slice none 0 0], []⟩ 8 (by kernel_rfl) (by kernel_rfl) (by kernel_rfl) (by kernel_rfl))
      FnIndex_args)
#print axioms FnIndex_holds

end Go.Proofs.Ytjpefadalinhoaa
