/- FnSubs: a part of a drawn text is one that stands in it; a text cut in two is both parts. No condition. -/
import Derived.Test.YtjpefadalinhoaaLiftS
import Derived.Test.YtjpefadalinhoaaSubs
import Derived.Lib.Strings
import Derived.Lib.Index
namespace Go.Proofs.Ytjpefadalinhoaa
open Go.ChangeShapes Go.WideShapes Go.ChangeAt Go.RowKit
open Go.ChangeMaps (open_string shut_string)

theorem ba_ext {a b : ByteArray} (h : a.data.toList = b.data.toList) : a = b := ByteArray.ext (Array.toList_inj.1 h)
theorem index_nonneg (s t : List UInt8) : ∀ (f i : Nat), i < f → i ≤ s.length → Lib.occAt s t i = true → 0 ≤ Lib.index s t
  | 0, _, h, _, _ => by omega
  | f + 1, i, hf, hi, ho => by
    by_cases h : ∃ j, j < i ∧ Lib.occAt s t j = true
    · obtain ⟨j, hj, hoj⟩ := h
      exact index_nonneg s t f j (by omega) (by omega) hoj
    · rw [Lib.index_first hi ho (fun j hj => by
        cases hc : Lib.occAt s t j with
        | false => rfl
        | true => exact absurd ⟨j, hj, hc⟩ h)]
      omega
theorem sub_index (s : ByteArray) (f n : Int) : 0 < Lib.index s.data.toList (subT s f n).data.toList + 1 := by
  obtain ⟨low, high, h1, h2, h3⟩ : ∃ low high : Int, 1 ≤ low ∧ high ≤ s.size + 1 ∧ subT s f n = if low < high then s.extract (low - 1).toNat (high - 1).toNat else ByteArray.empty :=
    ⟨_, _, by split <;> omega, by split <;> omega, subT_of s f n _ _ rfl rfl _ _ rfl rfl⟩
  rw [h3]
  split
  · have hl : ((s.extract (low - 1).toNat (high - 1).toNat).data.toList).length = (high - 1).toNat - (low - 1).toNat := by
      rw [Lib.extract_data, List.length_take, List.length_drop, ← Lib.size_eq]; omega
    have := index_nonneg s.data.toList (s.extract (low - 1).toNat (high - 1).toNat).data.toList ((low - 1).toNat + 1) (low - 1).toNat (by omega) (by rw [← Lib.size_eq]; omega) (by
      rw [Lib.occAt_iff_take _ _ _ (by rw [hl, ← Lib.size_eq]; omega), hl, Lib.extract_data]
      exact beq_self_eq_true _)
    omega
  · have e0 : ByteArray.empty.data.toList = [] := rfl
    rw [e0]
    have := index_nonneg s.data.toList [] 1 0 (by omega) (Nat.zero_le _) (by
      rw [Lib.occAt_iff_take _ _ _ (by simp)]
      rfl)
    omega
theorem sub_cut (s : ByteArray) (k : Nat) (hs : s.size ≤ 1000) (hk : k ≤ s.size) : subT s 1 k ++ subT s ((k : Int) + 1) s.size = s := by
  rw [subT_of s 1 k 1 k (by rfl) (by unfold clampI; rw [if_neg (by omega), if_neg (by omega)]) 1 (1 + k) (by rw [if_neg (by omega)]) (by rw [if_neg (by omega)]),
    subT_of s ((k : Int) + 1) s.size ((k : Int) + 1) s.size (by unfold clampI; rw [if_neg (by omega), if_neg (by omega)]) (by unfold clampI; rw [if_neg (by omega), if_neg (by omega)]) ((k : Int) + 1) (s.size + 1) (by rw [if_neg (by omega)]) (by split <;> omega)]
  apply ba_ext
  rw [ByteArray.data_append, Array.toList_append]
  have e1 : (if (1 : Int) < 1 + k then s.extract (1 - 1 : Int).toNat (1 + k - 1 : Int).toNat else ByteArray.empty).data.toList = s.data.toList.take k := by
    split
    · rw [Lib.extract_data, show ((1 : Int) - 1).toNat = 0 from rfl, show ((1 : Int) + k - 1).toNat = k by omega]; rfl
    · obtain rfl : k = 0 := by omega
      rfl
  have e2 : (if (k : Int) + 1 < s.size + 1 then s.extract ((k : Int) + 1 - 1).toNat ((s.size : Int) + 1 - 1).toNat else ByteArray.empty).data.toList = s.data.toList.drop k := by
    split
    · rw [Lib.extract_data, show ((k : Int) + 1 - 1).toNat = k by omega, show ((s.size : Int) + 1 - 1).toNat = s.size by omega, List.take_of_length_le (by rw [List.length_drop, ← Lib.size_eq]; omega)]
    · rw [List.drop_of_length_le (by rw [← Lib.size_eq]; omega)]; rfl
  rw [e1, e2, List.take_append_drop]
theorem upB_upB (c : UInt8) : upB (upB c) = upB c := by
  apply UInt8.toNat_inj.1
  have h1 := upB_toNat c
  have h2 := upB_toNat (upB c)
  rw [h1] at h2
  have : upI (upI c.toNat) = upI c.toNat := by
    have := c.toNat_lt
    unfold upI inI
    split
    · rename_i h; simp at h; rw [if_neg (by simp; omega)]
    · rfl
  rw [this, ← h1] at h2
  exact_mod_cast h2
theorem upS_upS (s : ByteArray) : upS (upS s) = upS s := by
  unfold upS
  simp [Function.comp_def, upB_upB]
theorem upS_size (s : ByteArray) : (upS s).size = s.size := by
  unfold upS ByteArray.size
  simp

set_option maxHeartbeats 2000000 in
theorem FnSubs_walk (A : Option Addr) (c : Nat) (zs : List Int) (m : Int) (w : World) (hm : MaxCell m w) (hR : Reads w w.heap.size 1 A zs.length (u8s zs)) (hZ : Byt zs) :
    Calls Try.prog 9 #[.slice A zs.length c] w fun e w' => e = .returned (.bool true) ∧ Below w.heap.size w w' := by
  by_cases hc : 1048576 < (zs.length : Int)
  · have hd : decide (1048576 < (zs.length : Int)) = true := decide_eq_true hc
    go_enter Try.func9, Try.ntmps9
    go_wp2_with fail
    refine (big_any A zs.length c _).mono ?_; rintro e w1 ⟨rfl, rfl⟩
    rw [hd]
    go_wp2_with fail
    go_ret
    exact ⟨rfl, Below.refl _ _⟩
  · have hd : decide (1048576 < (zs.length : Int)) = false := decide_eq_false hc
    go_enter Try.func9, Try.ntmps9
    go_wp2_with fail
    refine (big_any A zs.length c _).mono ?_; rintro e w0 ⟨rfl, rfl⟩
    rw [hd]
    clear hd
    go_wp2_with fail
    refine (dSub A zs.length c zs _ hR hZ (by omega)).mono ?_; rintro e w1 ⟨⟨s, x, y, rfl, hs⟩, b1⟩
    have hm1 := hm.keep b1
    have hR1 := rd_below hR b1
    have hi := sub_index s x y
    have cI := iIndexOf s (subT s x y) m w1 hm1 (by omega)
    have cS := fun w => iSub s x y w (by omega)
    have cT := fun w => sSub s x y w (by omega)
    generalize subT s x y = t at hi cI cS cT
    generalize Lib.index s.data.toList t.data.toList + 1 = q at hi cI
    have CI := Lib.hid cI
    have CS := Lib.hid cS
    have CT := Lib.hid cT
    clear cI cS cT
    go_wp2_with fail
    refine (CS.out _).mono ?_; rintro e u1 ⟨rfl, rfl⟩
    go_wp2_with fail
    refine (at_any A c zs _ hR1 hZ (by omega)).mono ?_; rintro e u2 ⟨⟨z, rfl, hz0, hz1⟩, rfl⟩
    have hp : ¬ (s.size : Int) + 1 = 0 := by omega
    have p1 := Int.emod_nonneg z hp
    have p2 := Int.emod_lt_of_pos z (show (0 : Int) < (s.size : Int) + 1 by omega)
    obtain ⟨k, hk⟩ : ∃ k : Nat, z % ((s.size : Int) + 1) = k := ⟨(z % ((s.size : Int) + 1)).toNat, by omega⟩
    rw [hk] at p1 p2
    have hkn : k ≤ s.size := by omega
    have cat := sub_cut s k (by omega) hkn
    have d1 := fun w => iSub s 1 k w (by omega)
    have d2 := fun w => iSub s ((k : Int) + 1) s.size w (by omega)
    generalize subT s 1 k = a1 at cat d1
    generalize subT s ((k : Int) + 1) s.size = a2 at cat d2
    have sz : a1.size + a2.size ≤ 6 := by rw [← ba_append_size, cat]; exact hs
    have D1 := Lib.hid d1
    have D2 := Lib.hid d2
    clear d1 d2
    have u1 := fun w => iUpper s w (by omega)
    have hu := upS_size s
    have u2 := fun w => iUpper (upS s) w (by rw [hu]; omega)
    rw [upS_upS] at u2
    generalize upS s = u at u1 u2 hu
    have U1 := Lib.hid u1
    have U2 := Lib.hid u2
    clear u1 u2
    go_wp2_with fail
    refine (CT.out _).mono ?_; rintro e v1 ⟨rfl, rfl⟩
    go_wp2_with fail
    refine CI.out.mono ?_; rintro e v2 ⟨rfl, rfl⟩
    go_wp2_with fail
    refine (D1.out _).mono ?_; rintro e v3 ⟨rfl, rfl⟩
    go_wp2_with fail
    refine (D2.out _).mono ?_; rintro e v4 ⟨rfl, rfl⟩
    go_wp2_with fail
    refine (U1.out _).mono ?_; rintro e v5 ⟨rfl, b5⟩
    go_wp2_with fail
    refine (U1.out _).mono ?_; rintro e v6 ⟨rfl, b6⟩
    go_wp2_with fail
    refine (U2.out _).mono ?_; rintro e v7 ⟨rfl, b7⟩
    go_wp2_with fail
    refine (U1.out _).mono ?_; rintro e v8 ⟨rfl, b8⟩
    go_wp2_with fail
    go_ret
    exact ⟨rfl, bl_trans (bl_trans (bl_trans (bl_trans b1 b5) b6) b7) b8⟩

theorem FnSubs_args {H : Type} {enc : TypeId × Value → H} (W : World) (base : Nat) (args : Array Value) (ds : List (DataW H)) (p : List MemPlace)
    (hval : ∀ (j : Nat) t v, Try.f9.params[j]? = some t → args[j]? = some v → Value.okWide Try.checked.prog W .any base t v)
    (hA : DataW.TrodAll enc Try.checked.prog W 0 (fun _ => true) true Try.f9.params.toList args.toList ds p)
    (hS : W.ShapedOpen Try.checked.prog) :
    Calls Try.checked.prog 9 args W fun e W' => e = .returned (.bool true) ∧ Below W.heap.size W W' := by
  rw [Try.params9] at hA hval
  obtain ⟨v0, d0, rfl, rfl, h0⟩ := trodAll_one hA
  obtain ⟨A, c, zs, rfl, R, Wf, hlz⟩ := open_nums Try.underlying39 Try.underlying5 (by kernel_rfl) (hval 0 39 v0 rfl rfl) h0
  obtain ⟨m, hm⟩ := max_of_shaped hS
  exact FnSubs_walk A c zs m W hm R (byt_of_wf Wf)

set_option maxRecDepth 100000 in
theorem FnSubs_holds : Rows.FnSubsSaid :=
  OpenClaim.holds_of_wide 9 Try.f9 rfl rfl rfl rfl rfl rfl rfl ⟨rfl, rfl, rfl, rfl, rfl⟩ rfl rfl rfl rfl rfl (by kernel_rfl) Try.func9 (by kernel_rfl)
    (of_decide_eq_true (by kernel_rfl)) (by unfold Func.isWrapper; rw [if_neg (of_decide_eq_false (by kernel_rfl))]; exact ⟨rfl, rfl⟩)
    (fun os started H enc _ => law_lift_shaped 9 Try.f9 Rows.fnSubsSpec 4 own laidOut started (by kernel_rfl) Try.func9 (by kernel_rfl) rfl (by kernel_rfl) Try.underlying4
      (fun ds h => by
        have hl : ds.length = 1 := h.trans (by kernel_rfl)
        obtain ⟨d, rfl⟩ := len1 hl
        rfl)
      (ChangeSpec.witness6 (enc := enc) (C := Try.checked) false ⟨#[], #[.slice none 0 0], []⟩ 8 (by kernel_rfl) (by kernel_rfl) (by kernel_rfl) (by kernel_rfl))
      FnSubs_args)
#print axioms FnSubs_holds

end Go.Proofs.Ytjpefadalinhoaa
