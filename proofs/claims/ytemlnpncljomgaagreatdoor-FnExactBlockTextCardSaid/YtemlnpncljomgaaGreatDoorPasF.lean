import Derived.Test.YtemlnpncljomgaaGreatDoorPasG
import Derived.Test.YtemlnpncljomgaaGreatDoorParL
import Derived.Test.YtemlnpncljomgaaGreatDoorParB
namespace Go.Proofs.YtemlnpncljomgaaGreatDoor
open Go.RowKit

set_option maxRecDepth 20000 in
set_option maxHeartbeats 4000000 in
theorem sParseRex (s : ByteArray) (w : World) :
    Calls Tryz.prog 71 #[.string s] w fun e w' => RetParse (parseP false 9 s) w e w' ∧ Below w.heap.size w w' := by
  by_cases hlong : 1000 < s.size
  · have hlt : (1000 : Int) < s.size := by omega
    have HP := Lib.hid (parse_long (z := false) (n := 9) hlong)
    have Z0 := Blk.new w 82 #[.int .i64 0, .string ⟨#[]⟩, .slice none 0 0]
    have L0 := bl_alloc (Below.refl w.heap.size w) (.cells #[.int .i64 0, .string ⟨#[]⟩, .slice none 0 0] 82)
    go_enter Tryz.func71, Tryz.ntmps71
    go_wp2_with fail
    exact bodyPost_ret (res_two rfl _ _ _ _ _ _ rfl Z0 Tryz.underlying82 (by kernel_rfl)) rfl ⟨⟨0, ⟨#[]⟩, .nil, none, 0, by rw [HP.out]; rfl, djNil _ _ _ _, by rw [HP.out]; rfl⟩, L0⟩
  have hs : s.size ≤ 1048576 := by omega
  have hle : ¬ (1000 : Int) < s.size := by omega
  have R0 : Blk ((w.alloc (.cells #[.int .i64 0, .string ⟨#[]⟩, .slice none 0 0] 82)).alloc (.cells #[.string s, .int .i64 0, .bool false, .int .i64 0] 91)) (w.heap.size + 1) 91 #[.string s, .int .i64 ((0 : Nat) : Int), .bool false, .int .i64 0] := Blk.new2 w (.cells #[.int .i64 0, .string ⟨#[]⟩, .slice none 0 0] 82) 91 #[.string s, .int .i64 0, .bool false, .int .i64 0]
  have Z0 := (Blk.new w 82 #[.int .i64 0, .string ⟨#[]⟩, .slice none 0 0]).alloc (.cells #[.string s, .int .i64 0, .bool false, .int .i64 0] 91)
  have L0 := bl_alloc (bl_alloc (Below.refl w.heap.size w) (.cells #[.int .i64 0, .string ⟨#[]⟩, .slice none 0 0] 82)) (.cells #[.string s, .int .i64 0, .bool false, .int .i64 0] 91)
  have s0 : w.heap.size + 2 ≤ ((w.alloc (.cells #[.int .i64 0, .string ⟨#[]⟩, .slice none 0 0] 82)).alloc (.cells #[.string s, .int .i64 0, .bool false, .int .i64 0] 91)).heap.size := by rw [alloc_size, alloc_size]; omega
  have C := sAlt s (w.heap.size + 1) hs 8 0 (Nat.le_refl _) rfl _ 0 (Nat.zero_le _) R0
  have CC := Lib.hid C
  clear C R0
  generalize hPP : parseP false 9 s = PP
  have HPP := Lib.hid hPP.symm
  clear hPP
  go_enter Tryz.func71, Tryz.ntmps71
  go_wp2_with fail
  generalize (w.alloc (.cells #[.int .i64 0, .string ⟨#[]⟩, .slice none 0 0] 82)).alloc (.cells #[.string s, .int .i64 0, .bool false, .int .i64 0] 91) = w0 at Z0 L0 s0 CC ⊢
  refine CC.out.mono ?_; rintro e w1 ⟨k, t, kids, A, kc, q, bb, rfl, hS1, ⟨dd, _, R1⟩, hg1, hq, hX⟩
  have Z1 := Z0.grown hg1 (by simp)
  have L1 := bl_gr L0 hg1 (fun k e => by cases e; omega)
  have s1 := hg1.size
  have HX := Lib.hid hX
  clear hX Z0 L0 CC hg1
  have N2 := Blk.new w1 82 #[.int .i64 k, .string t, .slice A kids.len kc]
  have R2 := R1.alloc (.cells #[.int .i64 k, .string t, .slice A kids.len kc] 82)
  have Z2 := Z1.alloc (.cells #[.int .i64 k, .string t, .slice A kids.len kc] 82)
  have L2 := bl_alloc L1 (.cells #[.int .i64 k, .string t, .slice A kids.len kc] 82)
  have hS2 := hS1.keep (w' := w1.alloc (.cells #[.int .i64 k, .string t, .slice A kids.len kc] 82)) (fun p _ h2 => alB _ _ h2) (Nat.le_refl _) (Nat.le_refl _)
  have s2 := Nat.le_of_eq (alloc_size w1 (.cells #[.int .i64 k, .string t, .slice A kids.len kc] 82)).symm
  clear R1 Z1 L1 hS1
  go_upto_region 5 with fail
  generalize w1.alloc (.cells #[.int .i64 k, .string t, .slice A kids.len kc] 82) = w2 at N2 R2 Z2 L2 hS2 s2 ⊢
  generalize w1.heap.size = nb at *
  have r2 := R2.cell
  cases bb
  case' true =>
    have HP := Lib.hid (parse_none HX.out)
    have z9 := Z2.cell
    have zf9 := Z2.frozen
    go_wp2_with fail
    exact bodyPost_ret (res_two rfl _ _ _ _ _ _ rfl (((Z2.set_ 0 _).set_ 1 _).set_ 2 _) Tryz.underlying82 (by kernel_rfl)) rfl ⟨⟨0, ⟨#[]⟩, .nil, none, 0, by rw [HPP.out, HP.out]; rfl, djNil _ _ _ _, by rw [HPP.out, HP.out]; rfl⟩, bl_setb (bl_setb (bl_setb L2 (Nat.le_refl _) _) (Nat.le_refl _) _) (Nat.le_refl _) _⟩
  by_cases hqs : q = s.size
  case' neg =>
    have nq : ((q : Int) != (s.size : Int)) = true := by simp; omega
    have HP := Lib.hid (parse_end HX.out hqs)
    have z9 := Z2.cell
    have zf9 := Z2.frozen
    go_wp2_with fail
    exact bodyPost_ret (res_two rfl _ _ _ _ _ _ rfl (((Z2.set_ 0 _).set_ 1 _).set_ 2 _) Tryz.underlying82 (by kernel_rfl)) rfl ⟨⟨0, ⟨#[]⟩, .nil, none, 0, by rw [HPP.out, HP.out]; rfl, djNil _ _ _ _, by rw [HPP.out, HP.out]; rfl⟩, bl_setb (bl_setb (bl_setb L2 (Nat.le_refl _) _) (Nat.le_refl _) _) (Nat.le_refl _) _⟩
  have nq : ((q : Int) != (s.size : Int)) = false := by simp; omega
  have hx := altP_fwd hs 9 0 _ q (Nat.zero_le _) HX.out
  obtain ⟨hq0, _, hx1, hx2, hx3⟩ := hx
  simp only at hx1 hx2 hx3
  have hx4 := size_wt gRex kids
  have hsp : 0 < s.size := by omega
  have HQ := Lib.hid hqs
  clear hqs
  have D := sRexText k t kids A kc w2 (by omega) hx2 hx3 (by omega) (hS2.more (Nat.zero_le _) (by omega)).sl
  have n2 := N2.cell
  obtain ⟨T, hT⟩ : ∃ T, rexTx k t kids = T := ⟨_, rfl⟩
  rw [hT] at D
  have DD := Lib.hid D
  clear D
  cases hE : (T.toList == s.toList)
  · have HN := Lib.hid (parse_text_ne HX.out (by simp only; rw [hT]; exact hE))
    clear hT
    go_wp2_with fail
    refine DD.out.mono ?_; rintro e w4 ⟨rfl, b4⟩
    have Z4 := Z2.keep b4
    have N4 := N2.keep b4
    have L4 := bl_trans L2 b4
    have HP := Lib.hid (HN.out)
    have z9 := Z4.cell
    have zf9 := Z4.frozen
    go_wp2_with fail
    exact bodyPost_ret (res_two rfl _ _ _ _ _ _ rfl (((Z4.set_ 0 _).set_ 1 _).set_ 2 _) Tryz.underlying82 (by kernel_rfl)) rfl ⟨⟨0, ⟨#[]⟩, .nil, none, 0, by rw [HPP.out, HP.out]; rfl, djNil _ _ _ _, by rw [HPP.out, HP.out]; rfl⟩, bl_setb (bl_setb (bl_setb L4 (Nat.le_refl _) _) (Nat.le_refl _) _) (Nat.le_refl _) _⟩
  · have hb : rexB k t kids = true := by
      cases hb : rexB k t kids
      · exfalso
        unfold rexTx at hT
        rw [hb, if_neg Bool.false_ne_true] at hT
        subst hT
        have he := bytes_eq (by simpa using hE : (⟨#[]⟩ : ByteArray).toList = s.toList)
        rw [← he] at hsp
        exact absurd hsp (by decide)
      · rfl
    have HP := Lib.hid (parse_is HX.out HQ.out hb (by simp only; rw [hT]; exact hE))
    clear hT hb
    go_wp2_with fail
    refine DD.out.mono ?_; rintro e w4 ⟨rfl, b4⟩
    have Z4 := Z2.keep b4
    have N4 := N2.keep b4
    have L4 := bl_trans L2 b4
    have n4 := N4.cell
    have z4 := Z4.cell
    have zf4 := Z4.frozen
    have hS4 := hS2.keep (w' := w4) (fun p _ h2 => b4.block _ (by omega)) (Nat.le_refl _) (Nat.le_refl _)
    have s4 := b4.size
    go_wp2_with fail
    exact bodyPost_ret (res_two rfl _ _ _ _ _ _ rfl (((Z4.set_ 0 _).set_ 1 _).set_ 2 _) Tryz.underlying82 (by kernel_rfl)) rfl ⟨⟨k, t, kids, A, kc, by rw [HPP.out, HP.out]; rfl, (((hS4.setb (.inl (by omega)) _).setb (.inl (by omega)) _).setb (.inl (by omega)) _).more (by omega) (by simp; omega), by rw [HPP.out, HP.out]; rfl⟩, bl_setb (bl_setb (bl_setb L4 (Nat.le_refl _) _) (Nat.le_refl _) _) (Nat.le_refl _) _⟩

end Go.Proofs.YtemlnpncljomgaaGreatDoor
