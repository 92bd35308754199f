/- FnSplit: the words of a drawn text joined are split again the same; none is empty, or has a blank. No condition. -/
import Derived.Test.YtjpefadalinhoaaLiftS
import Derived.Test.YtjpefadalinhoaaOpenB
import Derived.Test.YtjpefadalinhoaaDrawSp
import Derived.Test.YtjpefadalinhoaaWords
import Derived.Test.YtjpefadalinhoaaIndexI
import Derived.Test.YtjpefadalinhoaaJoin
import Derived.Test.YtjpefadalinhoaaSplitI
import Derived.Test.YtjpefadalinhoaaSplitS
namespace Go.Proofs.Ytjpefadalinhoaa
open Go.ChangeShapes Go.WideShapes Go.ChangeAt Go.RowKit
open Go.ChangeMaps (open_string shut_string)

theorem toList_full (s : ByteArray) (h : s.data.toList ≠ []) : s.toList.isEmpty = false := by
  rw [Lib.toList_data]
  cases hd : s.data.toList with
  | nil => exact absurd hd h
  | cons a l => rfl
theorem words_sum (s : ByteArray) : (wordsOf s).length + sumL (wordsOf s) ≤ s.size + 1 := by
  have h := wl_sum s.data.toList []
  rw [← Lib.size_eq, List.length_nil, Nat.add_zero] at h
  refine Nat.le_trans (Nat.le_of_eq ?_) h
  rw [words_wl]
  generalize wl s.data.toList [] = l
  induction l with
  | nil => rfl
  | cons x r ih =>
    unfold sumL at ih ⊢
    simp only [List.length_map, List.map_cons, List.length_cons, List.sum_cons] at ih ⊢
    have : (tx x).size = x.length := by simp [tx, ByteArray.size]
    omega
set_option maxRecDepth 20000 in
set_option maxHeartbeats 4000000 in
theorem FnSplit_walk (A : Option Addr) (c : Nat) (zs : List Int) (m : Int) (w : World) (hm : MaxCell m w) (hR : Reads w w.heap.size 1 A zs.length (u8s zs)) (hZ : Byt zs) :
    Calls Try.prog 10 #[.slice A zs.length c] w fun e w' => e = .returned (.bool true) ∧ Below w.heap.size w w' := by
  by_cases hc : 1048576 < (zs.length : Int)
  · have hd : decide (1048576 < (zs.length : Int)) = true := decide_eq_true hc
    go_enter Try.func10, Try.ntmps10
    go_wp2_with fail
    refine (big_any A zs.length c _).mono ?_; rintro e w1 ⟨rfl, rfl⟩
    rw [hd]
    go_wp2_with fail
    go_ret
    exact ⟨rfl, Below.refl _ _⟩
  · have hd : decide (1048576 < (zs.length : Int)) = false := decide_eq_false hc
    go_enter Try.func10, Try.ntmps10
    go_wp2_with fail
    refine (big_any A zs.length c _).mono ?_; rintro e w0 ⟨rfl, rfl⟩
    rw [hd]
    clear hd
    go_wp2_with fail
    refine (dSplit A zs.length c zs _ hR hZ (by omega)).mono ?_; rintro e w1 ⟨⟨s, rfl, hs⟩, b1⟩
    have hm1 := hm.keep b1
    have hok := words_ok s
    have hlen := words_sum s
    have cS := fun (w : World) => sSplit s w (by omega)
    have cI0 := iSplit s w1 (by omega)
    have hsum : (wordsOf s).length + sumL (wordsOf s) ≤ 1048576 := by omega
    replace hlen : (wordsOf s).length ≤ 15 := by omega
    have cJ := fun (A : Option Addr) (c : Nat) (w : World) (h : Reads w w.heap.size 1 A (wordsOf s).length (sVs (wordsOf s))) (hk : (wordsOf s).length ≤ c) => iJoin A c (wordsOf s) w h hk hsum
    have hj := jn_len (wordsOf s) (wordsOf s).length (Nat.le_refl _)
    rw [List.drop_length] at hj
    have cI := fun (w : World) => iSplit (jn (wordsOf s) (wordsOf s).length) w (by have : sumL ([] : List ByteArray) = 0 := rfl; omega)
    rw [show wordsOf (jn (wordsOf s) (wordsOf s).length) = wordsOf s by rw [jn_all]; exact words_again s] at cI
    generalize jn (wordsOf s) (wordsOf s).length = J at cJ cI hj
    clear hj hsum
    generalize wordsOf s = Y at cS cI0 cI cJ hlen hok
    have CS := Lib.hid cS
    have CI := Lib.hid cI
    have CJ := Lib.hid cJ
    have CI0 := Lib.hid cI0
    have HOK := Lib.hid hok
    clear cS cI cJ cI0 hok
    go_wp2_with fail
    refine (CI0.out).mono ?_; rintro e w2 ⟨⟨vl, _, rfl, rfl, Ol⟩, b2⟩
    have hm2 := hm1.keep b2
    have L2 := bl_trans b1 b2
    obtain ⟨Al, cl, rfl⟩ := Ol.form
    go_wp2_with fail
    go_loopw [5] (fun i wr => ∃ k : Nat, k ≤ Y.length ∧ i = .int .i64 k ∧ Below w2.heap.size w2 wr) (fun i _ => Y.length - (intOf i).toNat)
    case atStart => exact ⟨0, Nat.zero_le _, rfl, Below.refl _ _⟩
    case round =>
      obtain ⟨k, hk, rfl, hL⟩ := hrel
      by_cases hlt : k < Y.length
      · obtain ⟨b, off, rfl, hb, hcell⟩ := rd_atS (Ol.keep hL).reads hlt
        obtain ⟨h1, h2, h3, h4, h5⟩ := HOK.out _ (List.getElem_mem hlt)
        have hlt' : (k : Int) < (Y.length : Int) := by omega
        have hm3 := hm2.keep hL
        generalize Y[k] = z at hcell h1 h2 h3 h4 h5
        have he := toList_full z h1
        have c1 := fun w (h : MaxCell m w) => iIndexOf z ⟨#[32]⟩ m w h (by omega)
        have c2 := fun w (h : MaxCell m w) => iIndexOf z ⟨#[9]⟩ m w h (by omega)
        have c3 := fun w (h : MaxCell m w) => iIndexOf s z m w h (by omega)
        rw [show (⟨#[32]⟩ : ByteArray).data.toList = [32] from rfl, h2] at c1
        rw [show (⟨#[9]⟩ : ByteArray).data.toList = [9] from rfl, h3] at c2
        obtain ⟨r, hr⟩ := Int.eq_ofNat_of_zero_le h4
        rw [hr] at c3
        have C1 := Lib.hid c1
        have C2 := Lib.hid c2
        have C3 := Lib.hid c3
        clear c1 c2 c3 h1 h2 h3 h4 hr
        go_wp2_with fail
        refine (C1.out _ hm3).mono ?_; rintro e w3 ⟨rfl, rfl⟩
        go_wp2_with fail
        refine (C2.out _ hm3).mono ?_; rintro e w4 ⟨rfl, rfl⟩
        go_wp2_with fail
        refine (C3.out _ hm3).mono ?_; rintro e w5 ⟨rfl, rfl⟩
        go_wp2_with fail
        go_roundw
        case rel => exact ⟨k + 1, by omega, by go_num, hL⟩
        case measure => simp [intOf]; omega
      · obtain rfl : k = Y.length := by omega
        go_wp2_with fail
        refine (CS.out _).mono ?_; rintro e u1 ⟨⟨vs, _, rfl, rfl, Os⟩, b1⟩
        have B1 := bl_trans hL b1
        obtain ⟨As, cs, rfl⟩ := Os.form
        go_wp2_with fail
        refine (sameT_any Al As cl cs Y _ (Ol.keep B1).reads Os.reads (by omega)).mono ?_; rintro e u2 ⟨rfl, b2⟩
        have B2 := bl_trans B1 b2
        go_wp2_with fail
        refine (CJ.out Al cl _ (Ol.keep B2).reads Ol.cap.1).mono ?_; rintro e u3 ⟨rfl, b3⟩
        have B3 := bl_trans B2 b3
        go_wp2_with fail
        refine (CI.out _).mono ?_; rintro e u4 ⟨⟨vq, _, rfl, rfl, Oq⟩, b4⟩
        have B4 := bl_trans B3 b4
        obtain ⟨Aq, cq, rfl⟩ := Oq.form
        go_wp2_with fail
        refine (sameT_any Aq Al cq cl Y _ Oq.reads (Ol.keep B4).reads (by omega)).mono ?_; rintro e u5 ⟨rfl, b5⟩
        have B5 := bl_trans B4 b5
        go_wp2_with fail
        go_ret
        exact ⟨rfl, bl_trans L2 B5⟩

theorem FnSplit_args {H : Type} {enc : TypeId × Value → H} (W : World) (base : Nat) (args : Array Value) (ds : List (DataW H)) (p : List MemPlace)
    (hval : ∀ (j : Nat) t v, Try.f10.params[j]? = some t → args[j]? = some v → Value.okWide Try.checked.prog W .any base t v)
    (hA : DataW.TrodAll enc Try.checked.prog W 0 (fun _ => true) true Try.f10.params.toList args.toList ds p)
    (hS : W.ShapedOpen Try.checked.prog) :
    Calls Try.checked.prog 10 args W fun e W' => e = .returned (.bool true) ∧ Below W.heap.size W W' := by
  rw [Try.params10] at hA hval
  obtain ⟨v0, d0, rfl, rfl, h0⟩ := trodAll_one hA
  obtain ⟨A, c, zs, rfl, R, Wf, hlz⟩ := open_nums Try.underlying39 Try.underlying5 (by kernel_rfl) (hval 0 39 v0 rfl rfl) h0
  obtain ⟨m, hm⟩ := max_of_shaped hS
  exact FnSplit_walk A c zs m W hm R (byt_of_wf Wf)

set_option maxRecDepth 100000 in
theorem FnSplit_holds : Rows.FnSplitSaid :=
  OpenClaim.holds_of_wide 10 Try.f10 rfl rfl rfl rfl rfl rfl rfl ⟨rfl, rfl, rfl, rfl, rfl⟩ rfl rfl rfl rfl rfl (by kernel_rfl) Try.func10 (by kernel_rfl)
    (of_decide_eq_true (by kernel_rfl)) (by unfold Func.isWrapper; rw [if_neg (of_decide_eq_false (by kernel_rfl))]; exact ⟨rfl, rfl⟩)
    (fun os started H enc _ => law_lift_shaped 10 Try.f10 Rows.fnSplitSpec 4 own laidOut started (by kernel_rfl) Try.func10 (by kernel_rfl) rfl (by kernel_rfl) Try.underlying4
      (fun ds h => by
        have hl : ds.length = 1 := h.trans (by kernel_rfl)
        obtain ⟨d, rfl⟩ := len1 hl
        rfl)
      (ChangeSpec.witness6 (enc := enc) (C := Try.checked) false ⟨#[], #[.slice none 0 0], []⟩ 8 (by kernel_rfl) (by kernel_rfl) (by kernel_rfl) (by kernel_rfl))
      FnSplit_args)
#print axioms FnSplit_holds

end Go.Proofs.Ytjpefadalinhoaa
