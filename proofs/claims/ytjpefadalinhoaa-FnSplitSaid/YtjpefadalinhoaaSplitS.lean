/- Walk over the reference's SplitText. A text's length is at most 1048576. -/
import Derived.Test.YtjpefadalinhoaaSplit
import Derived.Test.YtjpefadalinhoaaStrS
import Derived.Lib.RabinKarpLaws
import Derived.Laws.DeepStrings4
namespace Go.Proofs.Ytjpefadalinhoaa
open Go.RowKit

theorem bt_get (s : ByteArray) (i : Nat) (h : i < s.size) : btAt s i = s[i].toNat := by
  have hl : i < s.data.toList.length := by rw [← Lib.size_eq]; exact h
  have := Go.Proofs.byte_at' s i h hl
  unfold btAt
  rw [← this]
  simp [List.getD, List.getElem?_eq_getElem hl]
/-- The texts of spans. -/
def exts (s : ByteArray) (L : List (Nat × Nat)) : List ByteArray := L.map fun x => s.extract x.1 x.2
theorem exts_snoc (s : ByteArray) (L : List (Nat × Nat)) (a b : Nat) : exts s (L ++ [(a, b)]) = exts s L ++ [s.extract a b] := by simp [exts]
theorem sVs_snoc (zs : List ByteArray) (z : ByteArray) : sVs (zs ++ [z]) = sVs zs ++ [.string z] := by simp [sVs]
theorem spans_step_no (s : ByteArray) (i fr : Nat) (L : List (Nat × Nat)) (h : i < s.size) (hb : spB (btAt s i) = false) : spansB s (s.size - i) i fr L = spansB s (s.size - (i + 1)) (i + 1) fr L := by
  rw [show s.size - i = (s.size - (i + 1)) + 1 by omega, spansB, if_neg (by rw [hb]; exact Bool.false_ne_true)]
theorem spans_step_yes (s : ByteArray) (i fr : Nat) (L : List (Nat × Nat)) (h : i < s.size) (hb : spB (btAt s i) = true) : spansB s (s.size - i) i fr L = spansB s (s.size - (i + 1)) (i + 1) (i + 1) (if fr < i then L ++ [(fr, i)] else L) := by
  rw [show s.size - i = (s.size - (i + 1)) + 1 by omega, spansB, if_pos hb]
theorem spans_end (s : ByteArray) (fr : Nat) (L : List (Nat × Nat)) : spansB s (s.size - s.size) s.size fr L = (L, fr) := by rw [Nat.sub_self]; rfl

set_option maxHeartbeats 2000000 in
theorem sSplit (s : ByteArray) (w : World) (hs : s.size ≤ 1048576) :
    Calls Try.prog 14 #[.string s] w fun e w' => RetSs (fun zs => wordsOf s = zs) w e w' ∧ Below w.heap.size w w' := by
  obtain ⟨i0, hi, hz0, hz1, hz2⟩ := info_parts info_str
  have hW : ∀ R, spansB s s.size 0 0 [] = R → wordsOf s = exts s (if R.2 < s.size then R.1 ++ [(R.2, s.size)] else R.1) := fun R h => by unfold wordsOf exts; rw [h]
  obtain ⟨R, hR⟩ : ∃ R, spansB s s.size 0 0 [] = R := ⟨_, rfl⟩
  have HW := Lib.hid (hW R hR)
  have HR := Lib.hid hR
  clear hW hR
  generalize wordsOf s = X at HW ⊢
  go_enter Try.func14, Try.ntmps14
  go_wp2_with fail
  go_loopw [3, 4, 5] (fun v f i wr => ∃ (k fr : Nat) (L : List (Nat × Nat)), k ≤ s.size + 1 ∧ i = .int .i64 k ∧ f = .int .i64 fr ∧ L.length ≤ k ∧ (k ≤ s.size → fr ≤ k ∧ spansB s (s.size - k) k fr L = R) ∧ (k = s.size + 1 → exts s L = X) ∧ wr.ownsRow w.heap.size 9 1 v (exts s L).length (sVs (exts s L)) ∧ Below w.heap.size w wr) (fun _ _ i _ => s.size + 1 - (intOf i).toNat)
  case atStart => exact ⟨0, 0, [], Nat.zero_le _, rfl, rfl, Nat.zero_le _, fun _ => ⟨Nat.zero_le _, HR.out⟩, fun h => by omega, World.ownsRow_made w #[] 0 (Nat.le_refl _) (by simp [maxLen]) (by simp), bl_alloc (Below.refl _ _) _⟩
  case round =>
    obtain ⟨k, fr, L, hk, rfl, rfl, hLk, hS, hX, hO, hL⟩ := hrel
    have hel : (exts s L).length = L.length := by simp [exts]
    by_cases hle : (k : Int) ≤ s.size
    · obtain ⟨hfr, hSR⟩ := hS (by omega)
      have HS := Lib.hid hSR
      clear hSR hS hX
      by_cases hlt : (k : Int) < s.size
      · have hkn : k < s.size := by omega
        have hx := s[k].toNat_lt
        have hx' : (s[k].toNat : Int) < 256 := by omega
        have hbt := bt_get s k hkn
        by_cases hb : spB s[k].toNat = true
        · have hST := Lib.hid ((spans_step_yes s k fr L hkn (by rw [hbt]; exact hb)).symm.trans HS.out)
          have hb2 : s[k].toNat = 32 ∨ s[k].toNat = 9 := by unfold spB at hb; simpa using hb
          have hcase : ((s[k].toNat : Int) != 32) = false ∨ (((s[k].toNat : Int) != 32) = true ∧ ((s[k].toNat : Int) != 9) = false) := by
            rcases hb2 with h | h
            · exact .inl (by simp [h])
            · exact .inr ⟨by simp [h], by simp [h]⟩
          clear hb hb2 hbt
          have hg : (if fr < k then L ++ [(fr, k)] else L) = (if fr < k then L ++ [(fr, k)] else L) := rfl
          by_cases hgt : (fr : Int) < k
          · have hgn : fr < k := by omega
            rw [if_pos hgn] at hST
            rcases hcase with h1 | ⟨h1, h2⟩
            all_goals
              go_wp2_with (at_builtin; refine wpList_push rfl _ _ 23 rfl w.heap.size 9 i0 (.string ⟨#[]⟩) 1 16 Try.underlying23 hi hz0 hz1 hz2 rfl (by decide) _ _ _ rfl hO _ rfl rfl rfl (by omega) (by omega) hL.size ?_)
              intro v' w2 hO2 hg2
              go_wp2_with fail
              go_roundw
              case rel => exact ⟨k + 1, k + 1, L ++ [(fr, k)], by omega, by go_num, by go_num, by simp; omega, fun _ => ⟨Nat.le_refl _, hST.out⟩, fun h => by omega, by rw [exts_snoc, sVs_snoc, List.length_append, hel]; exact hO2, hL.grown hg2 hL.size (fun q e => (hO.lt q e).1)⟩
              case measure => simp [intOf]; omega
          · have hgn : ¬ fr < k := by omega
            rw [if_neg hgn] at hST
            rcases hcase with h1 | ⟨h1, h2⟩
            all_goals
              go_wp2_with fail
              go_roundw
              case rel => exact ⟨k + 1, k + 1, L, by omega, by go_num, by go_num, by omega, fun _ => ⟨Nat.le_refl _, hST.out⟩, fun h => by omega, hO, hL⟩
              case measure => simp [intOf]; omega
        · have hbf : spB s[k].toNat = false := by simpa using hb
          have hST := Lib.hid ((spans_step_no s k fr L hkn (by rw [hbt]; exact hbf)).symm.trans HS.out)
          have h1 : ((s[k].toNat : Int) != 32) = true := by unfold spB at hbf; simp at hbf ⊢; omega
          have h2 : ((s[k].toNat : Int) != 9) = true := by unfold spB at hbf; simp at hbf ⊢; omega
          clear hb hbf hbt
          go_wp2_with fail
          go_roundw
          case rel => exact ⟨k + 1, fr, L, by omega, by go_num, rfl, by omega, fun _ => ⟨by omega, hST.out⟩, fun h => by omega, hO, hL⟩
          case measure => simp [intOf]; omega
      · obtain rfl : k = s.size := by omega
        have hRR : R = (L, fr) := by rw [← HS.out, spans_end]
        have HX := HW.out
        rw [hRR] at HX
        simp only at HX
        by_cases hgt : (fr : Int) < s.size
        · have hgn : fr < s.size := by omega
          rw [if_pos hgn] at HX
          have HXX := Lib.hid HX
          clear HX hRR
          go_wp2_with (at_builtin; refine wpList_push rfl _ _ 23 rfl w.heap.size 9 i0 (.string ⟨#[]⟩) 1 16 Try.underlying23 hi hz0 hz1 hz2 rfl (by decide) _ _ _ rfl hO _ rfl rfl rfl (by omega) (by omega) hL.size ?_)
          intro v' w2 hO2 hg2
          go_wp2_with fail
          go_roundw
          case rel => exact ⟨s.size + 1, s.size + 1, L ++ [(fr, s.size)], by omega, by go_num, by go_num, by simp; omega, fun h => by omega, fun _ => HXX.out.symm, by rw [exts_snoc, sVs_snoc, List.length_append, hel]; exact hO2, hL.grown hg2 hL.size (fun q e => (hO.lt q e).1)⟩
          case measure => simp [intOf]
        · have hgn : ¬ fr < s.size := by omega
          rw [if_neg hgn] at HX
          have HXX := Lib.hid HX
          clear HX hRR
          go_wp2_with fail
          go_roundw
          case rel => exact ⟨s.size + 1, s.size + 1, L, by omega, by go_num, by go_num, by omega, fun h => by omega, fun _ => HXX.out.symm, hO, hL⟩
          case measure => simp [intOf]
    · have hX2 := Lib.hid (hX (by omega))
      clear hX hS
      go_wp2_with fail
      go_ret
      exact ⟨⟨_, exts s L, rfl, hX2.out.symm, Row.mk hO⟩, hL⟩

end Go.Proofs.Ytjpefadalinhoaa
