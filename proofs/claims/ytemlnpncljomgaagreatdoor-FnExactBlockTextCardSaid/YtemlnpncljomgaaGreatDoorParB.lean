import Derived.Test.YtemlnpncljomgaaGreatDoorParA
import Derived.Test.YtemlnpncljomgaaGreatDoorParL
namespace Go.Proofs.YtemlnpncljomgaaGreatDoor
open Go.RowKit

theorem res_two {fn : Func} {p a0 : Tmp} {ty : TypeId} (h : fn.results = #[.cell p ty, .tmp a0]) (tmps : Array Value) (P : Program) (w : World) (g : Nat) (t : TypeId) (cs : Array Value) {fs : _}
    (hp : tmps.getD p undef = .pointer (some ⟨g, 0, none⟩)) (hg : Blk w g t cs)
    (hu : P.underlying ty = some (.struct fs)) (hi : (P.info? ty).map (·.size) = some cs.size) :
    (results fn tmps).run P w = .ok (.tuple #[.agg cs, tmps.getD a0 undef]) w := by
  have hp' : tmps[p]?.getD undef = .pointer (some ⟨g, 0, none⟩) := by simpa using hp
  simp [results, h, hp', asAddr, run_loadVar_row w g t ty cs (0, 0) (.struct fs) hg hu rfl hi]
def RetParse (P : Option Tr) (w : World) (e : Ending) (w' : World) : Prop :=
  ∃ (k : Int) (t : ByteArray) (kids : Fr (Int × ByteArray)) (A : Option Addr) (c : Nat), e = .returned (.tuple #[.agg #[.int .i64 k, .string t, .slice A kids.len c], .bool P.isSome]) ∧ Dj w' w.heap.size w'.heap.size A kids ∧ P.getD (leafT 0 ⟨#[]⟩) = ((k, t), kids)
section
variable {z : Bool} {n : Nat} {s : ByteArray} {x : Tr} {q : Nat}
theorem parse_none (h : altP z s n 0 = none) : parseP z n s = none := by unfold parseP; rw [h]
theorem parse_end (h : altP z s n 0 = some (x, q)) (hq : q ≠ s.size) : parseP z n s = none := by unfold parseP; rw [h]; simp only; rw [if_neg (fun h => hq h.1)]
theorem parse_bad (h : altP z s n 0 = some (x, q)) (hb : rexB x.1.1 x.1.2 x.2 = false) : parseP z n s = none := by unfold parseP; rw [h]; simp only; rw [if_neg (fun h => by rw [hb] at h; exact Bool.false_ne_true h.2.1)]
theorem parse_text_ne (h : altP z s n 0 = some (x, q)) (ht : ((rexTx x.1.1 x.1.2 x.2).toList == s.toList) = false) : parseP z n s = none := by unfold parseP; rw [h]; simp only; rw [if_neg (fun h => by rw [h.2.2] at ht; simp at ht)]
theorem parse_is (h : altP z s n 0 = some (x, q)) (hq : q = s.size) (hb : rexB x.1.1 x.1.2 x.2 = true) (ht : ((rexTx x.1.1 x.1.2 x.2).toList == s.toList) = true) : parseP z n s = some x := by unfold parseP; rw [h]; simp only; rw [if_pos ⟨hq, hb, by simpa using ht⟩]
end

set_option maxRecDepth 20000 in
set_option maxHeartbeats 8000000 in
theorem iParseRex (s : ByteArray) (w : World) (hs : s.size ≤ 1048576) :
    Calls Tryz.prog 75 #[.string s] w fun e w' => RetParse (parseP true 40 s) w e w' ∧ Below w.heap.size w w' := by
  have R0 : Blk ((w.alloc (.cells #[.int .i64 0, .string ⟨#[]⟩, .slice none 0 0] 82)).alloc (.cells #[.string s, .int .i64 0, .int .i64 0, .bool false] 97)) (w.heap.size + 1) 97 #[.string s, .int .i64 ((0 : Nat) : Int), .int .i64 0, .bool false] := Blk.new2 w (.cells #[.int .i64 0, .string ⟨#[]⟩, .slice none 0 0] 82) 97 #[.string s, .int .i64 0, .int .i64 0, .bool false]
  have Z0 := (Blk.new w 82 #[.int .i64 0, .string ⟨#[]⟩, .slice none 0 0]).alloc (.cells #[.string s, .int .i64 0, .int .i64 0, .bool false] 97)
  have L0 := bl_alloc (bl_alloc (Below.refl w.heap.size w) (.cells #[.int .i64 0, .string ⟨#[]⟩, .slice none 0 0] 82)) (.cells #[.string s, .int .i64 0, .int .i64 0, .bool false] 97)
  have s0 : w.heap.size + 2 ≤ ((w.alloc (.cells #[.int .i64 0, .string ⟨#[]⟩, .slice none 0 0] 82)).alloc (.cells #[.string s, .int .i64 0, .int .i64 0, .bool false] 97)).heap.size := by rw [alloc_size, alloc_size]; omega
  have C := iAlt s (w.heap.size + 1) hs 40 0 (Nat.le_refl _) rfl _ 0 (Nat.zero_le _) R0
  have CC := Lib.hid C
  clear C R0
  generalize hPP : parseP true 40 s = PP
  have HPP := Lib.hid hPP.symm
  clear hPP
  go_enter Tryz.func75, Tryz.ntmps75
  go_wp2_with fail
  generalize (w.alloc (.cells #[.int .i64 0, .string ⟨#[]⟩, .slice none 0 0] 82)).alloc (.cells #[.string s, .int .i64 0, .int .i64 0, .bool false] 97) = w0 at Z0 L0 s0 CC ⊢
  refine CC.out.mono ?_; rintro e w1 ⟨k, t, kids, A, kc, q, bb, rfl, hS1, R1, hg1, hq, hX⟩
  replace R1 : Blk w1 (w.heap.size + 1) 97 #[.string s, .int .i64 q, .int .i64 0, .bool bb] := R1
  have Z1 := Z0.grown hg1 (by simp)
  have L1 := bl_gr L0 hg1 (fun k e => by cases e; omega)
  have s1 := hg1.size
  have HX := Lib.hid hX
  clear hX Z0 L0 CC hg1
  have N2 := Blk.new w1 82 #[.int .i64 k, .string t, .slice A kids.len kc]
  have R2 := R1.alloc (.cells #[.int .i64 k, .string t, .slice A kids.len kc] 82)
  have Z2 := Z1.alloc (.cells #[.int .i64 k, .string t, .slice A kids.len kc] 82)
  have L2 := bl_alloc L1 (.cells #[.int .i64 k, .string t, .slice A kids.len kc] 82)
  have hS2 := hS1.keep (w' := w1.alloc (.cells #[.int .i64 k, .string t, .slice A kids.len kc] 82)) (fun p _ h2 => alB _ _ h2) (Nat.le_refl _) (Nat.le_refl _)
  have s2 := Nat.le_of_eq (alloc_size w1 (.cells #[.int .i64 k, .string t, .slice A kids.len kc] 82)).symm
  clear R1 Z1 L1 hS1
  go_upto_region 3 with fail
  generalize w1.alloc (.cells #[.int .i64 k, .string t, .slice A kids.len kc] 82) = w2 at N2 R2 Z2 L2 hS2 s2 ⊢
  generalize w1.heap.size = nb at *
  have r2 := R2.cell
  cases bb
  case' true =>
    have HP := Lib.hid (parse_none HX.out)
    have z9 := Z2.cell
    have zf9 := Z2.frozen
    go_wp2_with fail
    exact bodyPost_ret (res_two rfl _ _ _ _ _ _ rfl (((Z2.set_ 0 _).set_ 1 _).set_ 2 _) Tryz.underlying82 (by kernel_rfl)) rfl ⟨⟨0, ⟨#[]⟩, .nil, none, 0, by rw [HPP.out, HP.out]; rfl, djNil _ _ _ _, by rw [HPP.out, HP.out]; rfl⟩, bl_setb (bl_setb (bl_setb L2 (Nat.le_refl _) _) (Nat.le_refl _) _) (Nat.le_refl _) _⟩
  by_cases hqs : q = s.size
  case' neg =>
    have nq : ((q : Int) != (s.size : Int)) = true := by simp; omega
    have HP := Lib.hid (parse_end HX.out hqs)
    have z9 := Z2.cell
    have zf9 := Z2.frozen
    go_wp2_with fail
    exact bodyPost_ret (res_two rfl _ _ _ _ _ _ rfl (((Z2.set_ 0 _).set_ 1 _).set_ 2 _) Tryz.underlying82 (by kernel_rfl)) rfl ⟨⟨0, ⟨#[]⟩, .nil, none, 0, by rw [HPP.out, HP.out]; rfl, djNil _ _ _ _, by rw [HPP.out, HP.out]; rfl⟩, bl_setb (bl_setb (bl_setb L2 (Nat.le_refl _) _) (Nat.le_refl _) _) (Nat.le_refl _) _⟩
  have nq : ((q : Int) != (s.size : Int)) = false := by simp; omega
  have HQ := Lib.hid hqs
  clear hqs
  have hx := altP_fwd hs 40 0 _ q (Nat.zero_le _) HX.out
  obtain ⟨_, _, hx1, hx2, hx3⟩ := hx
  simp only at hx1 hx2 hx3
  have hx4 := size_wt gRex kids
  have C := iRexOkB k t kids A kc w2 (by omega) hx2 hx3 (hS2.more (Nat.zero_le _) (by omega)).sl
  have n2 := N2.cell
  cases hb : rexB k t kids
  · rw [hb] at C
    have CC := Lib.hid C
    clear C
    go_wp2_with fail
    refine CC.out.mono ?_; rintro e w3 ⟨rfl, b3⟩
    have Z3 := Z2.keep b3
    have L3 := bl_trans L2 b3
    have HP := Lib.hid (parse_bad HX.out hb)
    have z9 := Z3.cell
    have zf9 := Z3.frozen
    go_wp2_with fail
    exact bodyPost_ret (res_two rfl _ _ _ _ _ _ rfl (((Z3.set_ 0 _).set_ 1 _).set_ 2 _) Tryz.underlying82 (by kernel_rfl)) rfl ⟨⟨0, ⟨#[]⟩, .nil, none, 0, by rw [HPP.out, HP.out]; rfl, djNil _ _ _ _, by rw [HPP.out, HP.out]; rfl⟩, bl_setb (bl_setb (bl_setb L3 (Nat.le_refl _) _) (Nat.le_refl _) _) (Nat.le_refl _) _⟩
  · rw [hb] at C
    have CC := Lib.hid C
    clear C
    obtain ⟨h59, h10, hwt, _⟩ := rexB_small hb
    have D := fun (w : World) (h : Sl rexC w 0 w.heap.size A kids) => iRexText k t kids A kc w (by omega) (by omega) hx3 hwt h
    obtain ⟨T, hT⟩ : ∃ T, rexTx k t kids = T := ⟨_, rfl⟩
    rw [hT] at D
    have DD := Lib.hid D
    clear D
    have HB := Lib.hid hb
    clear hb
    cases hE : (T.toList == s.toList)
    · have HN := Lib.hid (parse_text_ne HX.out (by simp only; rw [hT]; exact hE))
      clear hT
      go_wp2_with fail
      refine CC.out.mono ?_; rintro e w3 ⟨rfl, b3⟩
      have Z3 := Z2.keep b3
      have N3 := N2.keep b3
      have L3 := bl_trans L2 b3
      have n3 := N3.cell
      have hS3 := hS2.keep (w' := w3) (fun p _ h2 => b3.block _ (by omega)) (Nat.le_refl _) (Nat.le_refl _)
      have s3 := b3.size
      go_wp2_with fail
      refine (DD.out _ (hS3.more (Nat.zero_le _) (by omega)).sl).mono ?_; rintro e w4 ⟨rfl, b4⟩
      have Z4 := Z3.keep b4
      have N4 := N3.keep b4
      have L4 := bl_trans L3 b4
      have HP := Lib.hid (HN.out)
      have z9 := Z4.cell
      have zf9 := Z4.frozen
      go_wp2_with fail
      exact bodyPost_ret (res_two rfl _ _ _ _ _ _ rfl (((Z4.set_ 0 _).set_ 1 _).set_ 2 _) Tryz.underlying82 (by kernel_rfl)) rfl ⟨⟨0, ⟨#[]⟩, .nil, none, 0, by rw [HPP.out, HP.out]; rfl, djNil _ _ _ _, by rw [HPP.out, HP.out]; rfl⟩, bl_setb (bl_setb (bl_setb L4 (Nat.le_refl _) _) (Nat.le_refl _) _) (Nat.le_refl _) _⟩
    · have HP := Lib.hid (parse_is HX.out HQ.out HB.out (by simp only; rw [hT]; exact hE))
      clear hT
      go_wp2_with fail
      refine CC.out.mono ?_; rintro e w3 ⟨rfl, b3⟩
      have Z3 := Z2.keep b3
      have N3 := N2.keep b3
      have L3 := bl_trans L2 b3
      have n3 := N3.cell
      have hS3 := hS2.keep (w' := w3) (fun p _ h2 => b3.block _ (by omega)) (Nat.le_refl _) (Nat.le_refl _)
      have s3 := b3.size
      go_wp2_with fail
      refine (DD.out _ (hS3.more (Nat.zero_le _) (by omega)).sl).mono ?_; rintro e w4 ⟨rfl, b4⟩
      have Z4 := Z3.keep b4
      have N4 := N3.keep b4
      have L4 := bl_trans L3 b4
      have n4 := N4.cell
      have z4 := Z4.cell
      have zf4 := Z4.frozen
      have hS4 := hS3.keep (w' := w4) (fun p _ h2 => b4.block _ (by omega)) (Nat.le_refl _) (Nat.le_refl _)
      have s4 := b4.size
      go_wp2_with fail
      exact bodyPost_ret (res_two rfl _ _ _ _ _ _ rfl (((Z4.set_ 0 _).set_ 1 _).set_ 2 _) Tryz.underlying82 (by kernel_rfl)) rfl ⟨⟨k, t, kids, A, kc, by rw [HPP.out, HP.out]; rfl, (((hS4.setb (.inl (by omega)) _).setb (.inl (by omega)) _).setb (.inl (by omega)) _).more (by omega) (by simp; omega), by rw [HPP.out, HP.out]; rfl⟩, bl_setb (bl_setb (bl_setb L4 (Nat.le_refl _) _) (Nat.le_refl _) _) (Nat.le_refl _) _⟩

end Go.Proofs.YtemlnpncljomgaaGreatDoor
