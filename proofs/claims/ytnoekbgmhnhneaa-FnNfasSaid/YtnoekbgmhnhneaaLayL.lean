/- Walk over the reference's l5Lay: laying a part. -/
import Derived.Test.YtnoekbgmhnhneaaLayA
import Derived.Deep.CutRange
namespace Go.Proofs.Ytnoekbgmhnhneaa
open Go.RowKit

set_option maxRecDepth 20000 in
set_option maxHeartbeats 8000000 in
theorem sLay_step (K : Nat) (IHL : LayC 51 K) (kids : Fr (Int × ByteArray)) (hK : kids.size ≤ K) (zk : Int) (zs : ByteArray) (A : Option Addr) (c : Nat) (Ax : Option Addr) (cx : Nat) (xs : List (Int × ByteArray × Int × Int)) (base : Nat) (w : World) (h60 : kids.size ≤ 60) (hx : xs.length + 6 * (kids.size + 1) ≤ 100000) (hh : hereB zk zs kids = true) (hk : lOk kids = true) (hb : base ≤ w.heap.size) (hO : w.ownsRow base 76 4 (.slice Ax xs.length cx) xs.length (flat nodeC xs)) (hS : Sl rexC w 0 base A kids) :
    Calls Try.prog 51 #[.slice Ax xs.length cx, .agg #[.int .i64 zk, .string zs, .slice A kids.len c]] w fun e w' => RetL (fun ys => ys = xs ++ layR (zk, zs) kids xs.length) w (Value.slice Ax xs.length cx).ownBlock base e w' := by
  have hlen := kids.len_size
  have hlen' : (kids.len : Int) ≤ 60 := by omega
  have hxl : (xs.length : Int) ≤ 100000 := by omega
  have hmz := szR_le (zk, zs) kids
  have B := Blk.new w 45 #[.int .i64 zk, .string zs, .slice A kids.len c]
  have b0 := bl_alloc (Below.refl w.heap.size w) (.cells #[.int .i64 zk, .string zs, .slice A kids.len c] 45)
  have L0 := (Lt.start hO).keep b0
  have S0 := hS.keep (w' := w.alloc (.cells #[.int .i64 zk, .string zs, .slice A kids.len c] 45)) (fun p _ hp => b0.cell (by omega)) (Nat.le_refl _) (Nat.le_refl _)
  have CS := Lib.hid (fun w h => sSize kids zk zs A c w h60 hh hk h)
  have IH := Lib.hid IHL
  clear IHL
  obtain ⟨m, hm⟩ : ∃ m, szR (zk, zs) kids = m := ⟨_, rfl⟩
  rw [hm] at CS hmz
  have HM := Lib.hid hm
  clear hm
  have hm' : (m : Int) ≤ 300 := by omega
  go_enter Try.func51, Try.ntmps51
  go_upto_region 1 with fail
  have sz0 := b0.size
  clear hO hS b0
  generalize w.alloc (.cells #[.int .i64 zk, .string zs, .slice A kids.len c] 45) = w0 at B L0 S0 sz0 ⊢
  generalize w.heap.size = g at B ⊢
  have cb := B.cell
  go_wp2_with fail
  refine (CS.out _ (S0.more (Nat.le_refl _) (by omega))).mono ?_; rintro e w1 ⟨rfl, b1⟩
  replace B := B.keep b1
  have L1 := L0.keep b1
  have S1 := S0.keep (w' := w1) (fun p _ hp => b1.cell (by omega)) (Nat.le_refl _) (Nat.le_refl _)
  have sz1 := b1.size
  have hO1 := L1.own
  clear L0 S0 b1 cb CS
  rcases here_parts hh with ⟨rfl, ek⟩ | ⟨rfl, ek⟩ | ⟨rfl, ek⟩ | ⟨rfl, ek⟩ | ⟨rfl, ek⟩ | ⟨rfl, ek⟩ | ⟨rfl, ek⟩ | ⟨rfl, ek⟩ | ⟨rfl | rfl | rfl, ek⟩
  · have cb := B.cell
    clear ek hh
    go_wp2_with (at_builtin; refine wpList_node (1, zs, (xs.length : Int) + 1, 0) rfl _ _ rfl base _ _ _ rfl hO1 (by first | rfl | (rw [alloc_size]; rfl)) (by omega) (by omega) ?_)
    intro A2 c2 y2 w2 h2 hl2 t2
    have hL2 := L1.next t2
    go_wp2_with fail
    go_ret
    exact ⟨A2, c2, y2, rfl, by rw [layR_1]; exact h2.out, hL2⟩
  · have cb := B.cell
    clear ek hh
    go_wp2_with (at_builtin; refine wpList_node (2, ⟨#[]⟩, (xs.length : Int) + 1, 0) rfl _ _ rfl base _ _ _ rfl hO1 (by first | rfl | (rw [alloc_size]; rfl)) (by omega) (by omega) ?_)
    intro A2 c2 y2 w2 h2 hl2 t2
    have hL2 := L1.next t2
    go_wp2_with fail
    go_ret
    exact ⟨A2, c2, y2, rfl, by rw [layR_2]; exact h2.out, hL2⟩
  · have cb := B.cell
    clear ek hh
    go_wp2_with (at_builtin; refine wpList_node (3, zs, (xs.length : Int) + 1, 0) rfl _ _ rfl base _ _ _ rfl hO1 (by first | rfl | (rw [alloc_size]; rfl)) (by omega) (by omega) ?_)
    intro A2 c2 y2 w2 h2 hl2 t2
    have hL2 := L1.next t2
    go_wp2_with fail
    go_ret
    exact ⟨A2, c2, y2, rfl, by rw [layR_3]; exact h2.out, hL2⟩
  · have cb := B.cell
    clear ek hh
    go_wp2_with (at_builtin; refine wpList_node (5, ⟨#[]⟩, (xs.length : Int) + 1, 0) rfl _ _ rfl base _ _ _ rfl hO1 (by first | rfl | (rw [alloc_size]; rfl)) (by omega) (by omega) ?_)
    intro A2 c2 y2 w2 h2 hl2 t2
    have hL2 := L1.next t2
    go_wp2_with fail
    go_ret
    exact ⟨A2, c2, y2, rfl, by rw [layR_10]; exact h2.out, hL2⟩
  · have cb := B.cell
    clear ek hh
    go_wp2_with (at_builtin; refine wpList_node (6, ⟨#[]⟩, (xs.length : Int) + 1, 0) rfl _ _ rfl base _ _ _ rfl hO1 (by first | rfl | (rw [alloc_size]; rfl)) (by omega) (by omega) ?_)
    intro A2 c2 y2 w2 h2 hl2 t2
    have hL2 := L1.next t2
    go_wp2_with fail
    go_ret
    exact ⟨A2, c2, y2, rfl, by rw [layR_11]; exact h2.out, hL2⟩
  · have cb := B.cell
    clear ek hh
    go_wp2_with fail
    go_ret
    exact ⟨Ax, cx, xs, rfl, by rw [layR_9, List.append_nil], L1⟩
  · obtain ⟨T, hT⟩ : ∃ T, xs ++ layF kids xs.length = T := ⟨_, rfl⟩
    have HT := Lib.hid hT
    clear hT hh ek
    have hw1 : Hid (xs.length + 6 * kids.size ≤ 100000) := Lib.hid (by omega)
    have cb := B.cell
    go_wp2_with fail
    go_loopw [0, 7] (fun v i wr => ∃ (j : Nat) (Ay : Option Addr) (cy : Nat) (ys : List (Int × ByteArray × Int × Int)), j ≤ kids.len ∧ i = .int .i64 j ∧ v = .slice Ay ys.length cy ∧ Hid (ys ++ layF (kids.drop j) ys.length = T) ∧ Hid (ys.length + 6 * (kids.drop j).size ≤ 100000) ∧ Lt w (Value.slice Ax xs.length cx).ownBlock base wr Ay cy ys ∧ Blk wr g 45 #[.int .i64 4, .string zs, .slice A kids.len c] ∧ Sl rexC wr 0 base A kids) (fun _ i _ => kids.len - (intOf i).toNat)
    case atStart => exact ⟨0, Ax, cx, xs, Nat.zero_le _, rfl, rfl, by rw [Fr.drop_zero]; exact HT, by rw [Fr.drop_zero]; exact hw1, L1, B, S1⟩
    case round =>
      clear L1 B S1 hw1 cb hO1
      obtain ⟨j, Ay, cy, ys, hj, rfl, rfl, HI, HX, hL, B, hS⟩ := hrel
      have cb := B.cell
      have hO := hL.own
      have hs := hL.size
      by_cases hlt : j < kids.len
      · have hlt' : (j : Int) < (kids.len : Int) := by omega
        obtain ⟨bb, ob, a, k1, A1, c1, rfl, hbb, hdr, hks, hSk, q0, q1, q2⟩ := at_Rex hS hlt
        obtain ⟨ha, hka⟩ := lOk_at hk hdr
        obtain ⟨yk, ysx⟩ := a
        simp only at q0 q1 ha
        have hszl := szR_le (yk, ysx) k1
        have HRL := Lib.hid (layR_len (a := (yk, ysx)) ha hka)
        have hI := HI.out
        have hX := HX.out
        rw [hdr] at hI hX
        rw [layF_cons] at hI
        simp only [Fr.size] at hX
        have HI2 := Lib.hid hI
        have CL := Lib.hid (IH.out k1 (by omega) yk ysx A1 c1 Ay cy ys base wr (by omega) (by omega) ha hka (by omega) hO hSk)
        clear hI ha hka hdr HI HX
        go_wp2_with fail
        refine CL.out.mono ?_; rintro e w3 ⟨A3, c3, y3, rfl, h3, t3⟩
        have H3 := Lib.hid h3
        have hl3 := congrArg List.length h3
        rw [List.length_append, HRL.out] at hl3
        have hL3 := hL.next t3
        have B3 := t3.blk hO B (by decide)
        have hS3 := t3.sl hO (by omega) hS
        have e1 : Hid (y3.length = ys.length + szR (yk, ysx) k1) := hl3
        have hrel5 : Hid (y3.length + 6 * (kids.drop (j + 1)).size ≤ 100000) := Lib.hid (by omega)
        have hrel4 : Hid (y3 ++ layF (kids.drop (j + 1)) y3.length = T) := by
          rw [e1.out, H3.out]
          show _ = _
          rw [← HI2.out, List.append_assoc]
        clear h3 hl3 t3
        go_wp2_with fail
        go_roundw
        case rel => exact ⟨j + 1, A3, c3, y3, by omega, by go_num, rfl, hrel4, hrel5, hL3, B3, hS3⟩
        case measure => simp [intOf]; omega
      · obtain rfl : j = kids.len := by omega
        have hI := HI.out
        rw [Fr.drop_all, layF_nil, List.append_nil] at hI
        have HE := Lib.hid (hI.trans HT.out.symm)
        clear hI HI HX
        go_wp2_with fail
        go_ret
        exact ⟨Ay, cy, ys, rfl, by rw [layR_4]; exact HE.out, hL⟩
  · have CA := Lib.hid (sAlt K IH.out kids A c ((xs.length : Int) + (m : Int)) Ax cx xs base _ hK h60 (by omega) (by omega) hk (by omega) hO1 S1)
    have cb := B.cell
    clear ek hh
    go_wp2_with fail
    refine CA.out.mono ?_; rintro e w3 ⟨A3, c3, y3, rfl, h3, t3⟩
    have H3 := Lib.hid h3
    have hL3 := L1.next t3
    clear h3 t3
    go_wp2_with fail
    go_ret
    exact ⟨A3, c3, y3, rfl, by rw [layR_5, HM.out]; exact H3.out, hL3⟩
  · have h1' : (0 : Int) < (kids.len : Int) := by omega
    obtain ⟨bb, ob, a, k1, A1, c1, rfl, hbb, hdr, hks, hSk, q0, q1, q2⟩ := at_Rex S1 (show 0 < kids.len by omega)
    simp only [Nat.zero_mul, Nat.add_zero] at q0 q1 q2
    obtain ⟨ha, hka⟩ := lOk_at hk hdr
    have hso := size_one hdr
    have HF := Lib.hid (fun p => layF_one ek hdr p)
    obtain ⟨yk, ysx⟩ := a
    simp only at q0 q1 ha
    have CL := Lib.hid (fun Ax cx xs w h1 h2 h3 h4 => IH.out k1 (by omega) yk ysx A1 c1 Ax cx xs base w (by omega) h1 ha hka h2 h3 h4)
    have hszl := szR_le (yk, ysx) k1
    have HRL := Lib.hid (fun p => layR_len (a := (yk, ysx)) ha hka p)
    clear ha hka hdr ek hh
    have cb := B.cell
    go_wp2_with (at_builtin; refine wpList_node (4, ⟨#[]⟩, (xs.length : Int) + 1, (xs.length : Int) + (m : Int)) rfl _ _ rfl base _ _ _ rfl hO1 (by first | rfl | (rw [alloc_size]; rfl)) (by omega) (by omega) ?_)
    intro A2 c2 y2 w2 h2 hl2 t2
    have hl2' := hl2.out
    have p0 := (t2.cell hO1 (by omega) (p := ⟨bb, ob, none⟩) hbb).trans q0
    have p1 := (t2.cell hO1 (by omega) (p := ⟨bb, ob + 1, none⟩) hbb).trans q1
    have p2 := (t2.cell hO1 (by omega) (p := ⟨bb, ob + 2, none⟩) hbb).trans q2
    have hL2 := L1.next t2
    have hSk2 := t2.sl hO1 (by omega) hSk
    have B2 := t2.blk hO1 B (by decide)
    have hs2 := hL2.size
    have CK := Lib.hid (CL.out A2 c2 y2 w2 (by omega) (by omega) hL2.own hSk2)
    clear L1 hO1 S1 q0 q1 q2 hSk t2 hl2' cb B
    have cb := B2.cell
    go_wp2_with fail
    refine CK.out.mono ?_; rintro e w3 ⟨A3, c3, y3, rfl, h3, t3⟩
    have H3 := Lib.hid h3
    have hL3 := hL2.next t3
    have hs3 := hL3.size
    have hO3 := hL3.own
    have hl3 := congrArg List.length h3
    rw [List.length_append, HRL.out, hl2.out] at hl3
    have h3b : y3.length ≤ 100000 := by omega
    clear h3 hl3 t3
    go_wp2_with (at_builtin; refine wpList_node (4, ⟨#[]⟩, (xs.length : Int), (xs.length : Int)) rfl _ _ rfl base _ _ _ rfl hO3 (by first | rfl | (rw [alloc_size]; rfl)) (by omega) (by omega) ?_)
    intro A4 c4 y4 w4 h4 hl4 t4
    have hL4 := hL3.next t4
    go_wp2_with fail
    go_ret
    exact ⟨A4, c4, y4, rfl, by rw [layR_6, HF.out, HM.out, h4.out, H3.out, hl2.out, h2.out]; simp only [List.append_assoc, List.cons_append, List.nil_append], hL4⟩
  · have h1' : (0 : Int) < (kids.len : Int) := by omega
    obtain ⟨bb, ob, a, k1, A1, c1, rfl, hbb, hdr, hks, hSk, q0, q1, q2⟩ := at_Rex S1 (show 0 < kids.len by omega)
    simp only [Nat.zero_mul, Nat.add_zero] at q0 q1 q2
    obtain ⟨ha, hka⟩ := lOk_at hk hdr
    have hso := size_one hdr
    have HF := Lib.hid (fun p => layF_one ek hdr p)
    obtain ⟨yk, ysx⟩ := a
    simp only at q0 q1 ha
    have CL := Lib.hid (fun Ax cx xs w h1 h2 h3 h4 => IH.out k1 (by omega) yk ysx A1 c1 Ax cx xs base w (by omega) h1 ha hka h2 h3 h4)
    have hszl := szR_le (yk, ysx) k1
    have HRL := Lib.hid (fun p => layR_len (a := (yk, ysx)) ha hka p)
    clear ha hka hdr ek hh
    have cb := B.cell
    have CK := Lib.hid (CL.out Ax cx xs _ (by omega) (by omega) hO1 hSk)
    go_wp2_with fail
    refine CK.out.mono ?_; rintro e w3 ⟨A3, c3, y3, rfl, h3, t3⟩
    have H3 := Lib.hid h3
    have hL3 := L1.next t3
    have hs3 := hL3.size
    have hO3 := hL3.own
    have hl3 := congrArg List.length h3
    rw [List.length_append, HRL.out] at hl3
    have h3b : y3.length ≤ 100000 := by omega
    clear h3 hl3 t3
    go_wp2_with (at_builtin; refine wpList_node (4, ⟨#[]⟩, (xs.length : Int), (xs.length : Int) + (m : Int)) rfl _ _ rfl base _ _ _ rfl hO3 (by first | rfl | (rw [alloc_size]; rfl)) (by omega) (by omega) ?_)
    intro A4 c4 y4 w4 h4 hl4 t4
    have hL4 := hL3.next t4
    go_wp2_with fail
    go_ret
    exact ⟨A4, c4, y4, rfl, by rw [layR_7, HF.out, HM.out, h4.out, H3.out]; simp only [List.append_assoc], hL4⟩
  · have h1' : (0 : Int) < (kids.len : Int) := by omega
    obtain ⟨bb, ob, a, k1, A1, c1, rfl, hbb, hdr, hks, hSk, q0, q1, q2⟩ := at_Rex S1 (show 0 < kids.len by omega)
    simp only [Nat.zero_mul, Nat.add_zero] at q0 q1 q2
    obtain ⟨ha, hka⟩ := lOk_at hk hdr
    have hso := size_one hdr
    have HF := Lib.hid (fun p => layF_one ek hdr p)
    obtain ⟨yk, ysx⟩ := a
    simp only at q0 q1 ha
    have CL := Lib.hid (fun Ax cx xs w h1 h2 h3 h4 => IH.out k1 (by omega) yk ysx A1 c1 Ax cx xs base w (by omega) h1 ha hka h2 h3 h4)
    clear ha hka hdr ek hh
    have cb := B.cell
    go_wp2_with (at_builtin; refine wpList_node (4, ⟨#[]⟩, (xs.length : Int) + 1, (xs.length : Int) + (m : Int)) rfl _ _ rfl base _ _ _ rfl hO1 (by first | rfl | (rw [alloc_size]; rfl)) (by omega) (by omega) ?_)
    intro A2 c2 y2 w2 h2 hl2 t2
    have hl2' := hl2.out
    have p0 := (t2.cell hO1 (by omega) (p := ⟨bb, ob, none⟩) hbb).trans q0
    have p1 := (t2.cell hO1 (by omega) (p := ⟨bb, ob + 1, none⟩) hbb).trans q1
    have p2 := (t2.cell hO1 (by omega) (p := ⟨bb, ob + 2, none⟩) hbb).trans q2
    have hL2 := L1.next t2
    have hSk2 := t2.sl hO1 (by omega) hSk
    have B2 := t2.blk hO1 B (by decide)
    have hs2 := hL2.size
    have CK := Lib.hid (CL.out A2 c2 y2 w2 (by omega) (by omega) hL2.own hSk2)
    clear L1 hO1 S1 q0 q1 q2 hSk t2 hl2' cb B
    have cb := B2.cell
    go_wp2_with fail
    refine CK.out.mono ?_; rintro e w3 ⟨A3, c3, y3, rfl, h3, t3⟩
    have H3 := Lib.hid h3
    have hL3 := hL2.next t3
    have hs3 := hL3.size
    have hO3 := hL3.own
    clear h3 t3
    go_wp2_with fail
    go_ret
    exact ⟨A3, c3, y3, rfl, by rw [layR_8, HF.out, HM.out, H3.out, hl2.out, h2.out]; simp only [List.append_assoc, List.cons_append, List.nil_append], hL3⟩

theorem sLay (K : Nat) : LayC 51 K := by
  induction K with
  | zero => exact fun kids h => absurd h (Nat.not_lt_zero _)
  | succ K ih => exact fun kids h zk zs A c Ax cx xs base w h60 hx hh hk hb hO hS => sLay_step K ih kids (by omega) zk zs A c Ax cx xs base w h60 hx hh hk hb hO hS

end Go.Proofs.Ytnoekbgmhnhneaa
