/- Walk over the reference's l5Alt: laying alternatives. -/
import Derived.Test.YtnoekbgmhnhneaaLaySz
import Derived.Deep.CutRange
namespace Go.Proofs.Ytnoekbgmhnhneaa
open Go.RowKit

set_option maxRecDepth 20000 in
set_option maxHeartbeats 4000000 in
theorem sAlt (K : Nat) (IHL : LayC 51 K) (fr : Fr (Int × ByteArray)) (A : Option Addr) (c : Nat) (b : Int) (Ax : Option Addr) (cx : Nat) (xs : List (Int × ByteArray × Int × Int)) (base : Nat) (w : World) (hK : fr.size ≤ K) (h60 : fr.size ≤ 60) (hx : xs.length + 6 * fr.size ≤ 100000) (hn : 1 ≤ fr.len) (hk : lOk fr = true) (hb : base ≤ w.heap.size) (hO : w.ownsRow base 76 4 (.slice Ax xs.length cx) xs.length (flat nodeC xs)) (hS : Sl rexC w 0 base A fr) :
    Calls Try.prog 83 #[.slice Ax xs.length cx, .slice A fr.len c, .int .i64 b] w fun e w' => RetL (fun ys => ys = xs ++ layA fr xs.length b) w (Value.slice Ax xs.length cx).ownBlock base e w' := by
  have hlen := fr.len_size
  have hlen' : (fr.len : Int) ≤ 60 := by omega
  have hn' : (1 : Int) ≤ (fr.len : Int) := by omega
  obtain ⟨T, hT⟩ : ∃ T, xs ++ layA fr xs.length b = T := ⟨_, rfl⟩
  have HT := Lib.hid hT
  rw [hT]
  clear hT
  have IH := Lib.hid IHL
  clear IHL
  have L0 := Lt.start hO
  have ew : IntKind.i64.wrap ((fr.len : Int) - 1) = (fr.len : Int) - 1 := by rw [IntKind.wrap_i64]; omega
  go_enter Try.func83, Try.ntmps83
  go_wp2_with fail
  go_loopw [0, 7] (fun v i wr => ∃ (j : Nat) (Ay : Option Addr) (cy : Nat) (ys : List (Int × ByteArray × Int × Int)), j + 1 ≤ fr.len ∧ i = .int .i64 j ∧ v = .slice Ay ys.length cy ∧ Hid (ys ++ layA (fr.drop j) ys.length b = T) ∧ Hid (ys.length + 6 * (fr.drop j).size ≤ 100000) ∧ Lt w (Value.slice Ax xs.length cx).ownBlock base wr Ay cy ys ∧ Sl rexC wr 0 base A fr) (fun _ i _ => fr.len - (intOf i).toNat)
  case atStart => exact ⟨0, Ax, cx, xs, by omega, rfl, rfl, by rw [Fr.drop_zero]; exact HT, by rw [Fr.drop_zero]; exact hx, L0, hS⟩
  case round =>
    clear L0 hO hS HT hx
    obtain ⟨j, Ay, cy, ys, hj, rfl, rfl, HI, HX, hL, hS⟩ := hrel
    obtain ⟨bb, ob, a, k1, A1, c1, rfl, hbb, hdr, hks, hSk, q0, q1, q2⟩ := at_Rex hS (show j < fr.len by omega)
    obtain ⟨ha, hka⟩ := lOk_at hk hdr
    obtain ⟨yk, ysx⟩ := a
    simp only at q0 q1 ha
    have hO := hL.own
    have hs := hL.size
    have hszl := szR_le (yk, ysx) k1
    have hRl := layR_len (a := (yk, ysx)) ha hka
    have hI := HI.out
    have hX := HX.out
    rw [hdr] at hI hX
    simp only [Fr.size] at hX
    have hdl := fr.drop_len (j + 1)
    by_cases hlt : j + 1 < fr.len
    · have hlt' : (j : Int) < (fr.len : Int) - 1 := by omega
      rw [layA_cons _ _ _ _ _ (by rw [hdl]; omega)] at hI
      have hrs : 1 ≤ (fr.drop (j + 1)).size := by have := (fr.drop (j + 1)).len_size; omega
      have C := Lib.hid (sSize k1 yk ysx A1 c1 wr (by omega) ha hka (hSk.more (Nat.le_refl _) (by omega)))
      have CL := Lib.hid (fun Ax cx xs w h1 h2 h3 h4 => IH.out k1 (by omega) yk ysx A1 c1 Ax cx xs base w (by omega) h1 ha hka h2 h3 h4)
      generalize szR (yk, ysx) k1 = m at C hI hszl hRl
      have HL := Lib.hid hRl
      have HI2 := Lib.hid hI
      clear hI hRl hdl HI HX ha hka hdr
      have hm : (m : Int) ≤ 300 := by omega
      have hyl : (ys.length : Int) ≤ 100000 := by omega
      go_wp2_with fail
      refine C.out.mono ?_; rintro e w1 ⟨rfl, b1⟩
      have hL1 := hL.keep b1
      have hO1 := hL1.own
      have hs1 := hL1.size
      have hS1 := hS.keep (w' := w1) (fun p _ hp => b1.cell (by omega)) (Nat.le_refl _) (Nat.le_refl _)
      have r0 := (b1.cell (p := ⟨bb, ob + j * 3, none⟩) (show bb < wr.heap.size by omega)).trans q0
      have r1 := (b1.cell (p := ⟨bb, ob + j * 3 + 1, none⟩) (show bb < wr.heap.size by omega)).trans q1
      have r2 := (b1.cell (p := ⟨bb, ob + j * 3 + 2, none⟩) (show bb < wr.heap.size by omega)).trans q2
      have hSk1 := hSk.keep (w' := w1) (fun p _ hp => b1.cell (by omega)) (Nat.le_refl _) (Nat.le_refl _)
      clear hL hO hS q0 q1 q2 b1 C hSk
      go_wp2_with (at_builtin; refine wpList_node (4, ⟨#[]⟩, (ys.length : Int) + 1, (ys.length : Int) + 2 + (m : Int)) rfl _ _ rfl base _ _ _ rfl hO1 (by first | rfl | (rw [alloc_size]; rfl)) (by omega) (by omega) ?_)
      intro A2 c2 y2 w2 h2 hl2 t2
      have hl2' := hl2.out
      have p0 := (t2.cell hO1 (by omega) (p := ⟨bb, ob + j * 3, none⟩) hbb).trans r0
      have p1 := (t2.cell hO1 (by omega) (p := ⟨bb, ob + j * 3 + 1, none⟩) hbb).trans r1
      have p2 := (t2.cell hO1 (by omega) (p := ⟨bb, ob + j * 3 + 2, none⟩) hbb).trans r2
      have hL2 := hL1.next t2
      have hS2 := t2.sl hO1 (by omega) hS1
      have hSk2 := t2.sl hO1 (by omega) hSk1
      have hs2 := hL2.size
      have CK := Lib.hid (CL.out A2 c2 y2 w2 (by omega) (by omega) hL2.own hSk2)
      clear hL1 hO1 hS1 r0 r1 r2 hSk1 t2 hl2'
      go_wp2_with fail
      refine CK.out.mono ?_; rintro e w3 ⟨A3, c3, y3, rfl, h3, t3⟩
      have hl3 := congrArg List.length h3
      rw [List.length_append, HL.out, hl2.out] at hl3
      have H3 := Lib.hid h3
      have HL3 := Lib.hid hl3
      have hL3 := hL2.next t3
      have hS3 := t3.sl hL2.own (by omega) hS2
      have hs3 := hL3.size
      have hO3 := hL3.own
      have h3b : y3.length ≤ 100000 := by omega
      clear hL2 hS2 t3 p0 p1 p2 hSk2 h3 hl3 CK
      go_wp2_with (at_builtin; refine wpList_node (4, ⟨#[]⟩, b, b) rfl _ _ rfl base _ _ _ rfl hO3 (by first | rfl | (rw [alloc_size]; rfl)) (by omega) (by omega) ?_)
      intro A4 c4 y4 w4 h4 hl4 t4
      have hL4 := hL3.next t4
      have hS4 := t4.sl hO3 (by omega) hS3
      have hrel4 : Hid (y4 ++ layA (fr.drop (j + 1)) y4.length b = T) := by
        have e1 : y4.length = ys.length + m + 2 := by rw [hl4.out, HL3.out]; omega
        rw [e1, h4.out, H3.out, hl2.out, h2.out]
        show _ = _
        rw [← HI2.out]
        simp only [List.append_assoc, List.cons_append, List.nil_append]
      have hrel5 : Hid (y4.length + 6 * (fr.drop (j + 1)).size ≤ 100000) := by
        show _ ≤ _
        rw [hl4.out, HL3.out]
        omega
      clear t4 hO3 hL3 hS3
      go_wp2_with fail
      go_roundw
      case rel => exact ⟨j + 1, A4, c4, y4, by omega, by go_num, rfl, hrel4, hrel5, hL4, hS4⟩
      case measure => simp [intOf]; omega
    · have hje : j + 1 = fr.len := by omega
      have hlt' : ¬ (j : Int) < (fr.len : Int) - 1 := by omega
      have ej : (fr.len : Int) - 1 = (j : Int) := by omega
      have er : fr.drop (j + 1) = .nil := by rw [hje, Fr.drop_all]
      rw [er, layA_last] at hI
      have HI2 := Lib.hid hI
      have HJ := Lib.hid hje
      have CL := Lib.hid (IH.out k1 (by omega) yk ysx A1 c1 Ay cy ys base wr (by omega) (by omega) ha hka (by omega) hO hSk)
      have hjl : j < fr.len := by omega
      clear hI hRl hdl HI HX ha hka hdr er hje
      rw [ej] at ew
      go_wp2_with fail
      refine CL.out.mono ?_; rintro e w1 ⟨A1, c1, y1, rfl, h1, t1⟩
      have hfin : y1 = T := h1.trans HI2.out
      have H1 := Lib.hid hfin
      have hL1 := hL.next t1
      clear h1 t1 hfin
      go_wp2_with fail
      go_ret
      exact ⟨A1, c1, y1, rfl, H1.out, hL1⟩

end Go.Proofs.Ytnoekbgmhnhneaa
