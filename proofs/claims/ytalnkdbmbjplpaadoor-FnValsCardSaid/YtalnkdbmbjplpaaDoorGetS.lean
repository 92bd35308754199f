/- Walks over GetS, the program's and the reference's, and over bytes.Equal. Lengths are at most 2 to the 29th. -/
import Derived.Test.YtalnkdbmbjplpaaDoorSgn
import Derived.Test.YtalnkdbmbjplpaaDoorGetT
import Derived.RegionCalls
import Derived.Deep.RegionWith
namespace Go.Proofs.YtalnkdbmbjplpaaDoor
open Go.RowKit

theorem bStr_eq (xs ys : List Int) (hx : Byt xs) (hy : Byt ys) : ((bStr xs).toList == (bStr ys).toList) = decide (xs = ys) := by
  have e : ∀ l : List Int, (bStr l).toList = l.map fun n => UInt8.ofNat n.toNat := fun l => by unfold bStr; rw [ByteArray.toList_mk]
  rw [e, e]
  by_cases h : xs = ys
  · subst h; simp
  · rw [decide_eq_false h, beq_eq_false_iff_ne]
    intro he
    apply h
    have inj : ∀ (xs ys : List Int), Byt xs → Byt ys → (xs.map fun n => UInt8.ofNat n.toNat) = (ys.map fun n => UInt8.ofNat n.toNat) → xs = ys := by
      intro xs
      induction xs with
      | nil => intro ys _ _ h; cases ys with | nil => rfl | cons a b => simp at h
      | cons x xs ih =>
        intro ys h1 h2 h3
        cases ys with
        | nil => simp at h3
        | cons y ys =>
          simp only [List.map_cons, List.cons.injEq] at h3
          have hx := h1 x List.mem_cons_self
          have hy := h2 y List.mem_cons_self
          have hxy : x = y := by
            have := congrArg UInt8.toNat h3.1
            rw [UInt8.toNat_ofNat', UInt8.toNat_ofNat'] at this
            omega
          rw [hxy, ih ys (fun z hz => h1 z (List.mem_cons_of_mem _ hz)) (fun z hz => h2 z (List.mem_cons_of_mem _ hz)) h3.2]
    exact inj xs ys hx hy he

set_option maxHeartbeats 1000000 in
theorem bEqual (A A' : Option Addr) (n m c c' : Nat) (xs ys : List Int) (b : Bool) (w : World) (h1 : Reads w w.heap.size 1 A n (u8s xs)) (h2 : Reads w w.heap.size 1 A' m (u8s ys)) (hn : xs.length = n) (hm : ys.length = m) (hx : Byt xs) (hy : Byt ys) (hb : decide (xs = ys) = b) :
    Calls Tryd.prog 40 #[.slice A n c, .slice A' m c'] w fun e w' => e = .returned (.bool b) ∧ w' = w := by
  have k1 := conv_bytes (c := c) h1 hn hx
  have k2 := conv_bytes (c := c') h2 hm hy
  have k3 := (bStr_eq xs ys hx hy).trans hb
  generalize bStr xs = s1 at *
  generalize bStr ys = s2 at *
  clear h1 h2 hn hm hb
  go_enter Tryd.func40, Tryd.ntmps40
  go_wp2_with fail
  go_ret
  exact ⟨rfl, rfl⟩

theorem sB_len (n : Int) : (sB n).length ≤ 5 := by
  have : ∀ (f : Nat) (n : Int), (sBf f n).length ≤ f + 1 := by
    intro f
    induction f with
    | zero => intro n; simp [sBf]
    | succ f ih =>
      intro n
      rw [sBf]
      split
      · simp
      · have := ih (n / 128)
        simp; omega
  exact this 4 _

set_option maxHeartbeats 8000000 in
theorem iGetS_in (A : Option Addr) (c a : Nat) (zs : List Int) (R : Option (Int × Int)) (w : World) (hR : Reads w w.heap.size 1 A zs.length (u8s zs)) (hZ : Byt zs) (hn : zs.length ≤ 536870912) (ha : a < zs.length) (hcap : zs.length ≤ c) (hc63 : c ≤ 9223372036854775807) (hX : gS zs a 5 [] = R) :
    Calls Tryd.prog 24 #[.slice A zs.length c, .int .i64 a] w fun e w' => e = .returned (resP R) ∧ Below w.heap.size w w' := by
  have hn' : (zs.length : Int) ≤ 536870912 := by omega
  have ha' : (a : Int) < zs.length := by omega
  have hcap' : (zs.length : Int) ≤ (c : Int) := by omega
  have hca : ¬ c = a := by omega
  have HX := Lib.hid hX
  clear hX
  go_enter Tryd.func24, Tryd.ntmps24
  go_wp2_with fail
  refine (iWithin _ _ _ _).mono ?_; rintro e w1 ⟨rfl, rfl⟩
  have d1 : decide ((0 : Int) ≤ (a : Int)) = true := by simp
  have d2 : decide ((a : Int) ≤ (zs.length : Int) - 1) = true := by simp; omega
  go_wp2_with fail
  go_loop [7, 8] (fun nv iv => ∃ (i : Nat) (n : Int) (l : List Int), i ≤ 5 ∧ iv = .int .i64 i ∧ nv = .int .i64 n ∧ 0 ≤ n ∧ n < 128 ^ i ∧ SPre zs a i n l ∧ gS zs a (5 - i) l = R) (fun _ iv => 5 - (intOf iv).toNat)
  case atStart => exact ⟨0, 0, [], by omega, rfl, rfl, by omega, by simp, SPre.start _ _, HX.out⟩
  case round =>
    obtain ⟨i, n, l, hi5, rfl, rfl, hn0, hn1, hP, hT⟩ := hrel
    have HR := Lib.hid hT
    clear hT
    have hi : i = 0 ∨ i = 1 ∨ i = 2 ∨ i = 3 ∨ i = 4 ∨ i = 5 := by omega
    rcases hi with rfl | rfl | rfl | rfl | rfl | rfl
    · -- the byte at 0
      have hn1 : n < 1 := by simpa using hn1
      have hli := hP.1
      by_cases hlt : a + 0 < zs.length
      · have hz := hZ zs[a + 0] (List.getElem_mem hlt)
        obtain ⟨b, off, rfl, hb, hcell⟩ := rd_at hR hlt
        simp only [Nat.add_zero] at hcell
        have hcut := hP.cut hlt
        have k1 := fun h1 => gS_last zs a l 4 (by rw [hli]; exact hlt) h1
        have k2 := fun h1 => gS_on zs a l 4 (by rw [hli]; exact hlt) h1
        have k3 := fun h1 h2 => hP.on hlt h1 h2
        simp only [hli] at k1 k2
        obtain ⟨hz0, hz1⟩ := hz
        generalize zs[a + 0] = z at *
        have K1 := Lib.hid k1
        have K2 := Lib.hid k2
        have K3 := Lib.hid k3
        clear k1 k2 k3
        have hlt' : (a : Int) + 0 < zs.length := by omega
        by_cases hc : z < 128
        · have hch := chain_app l z hP.2.2.1 hz0 hc
          by_cases h64 : z < 64
          · have hM : decS (l ++ [z]) = n + z % 128 := by rw [hP.dec, if_neg (by omega)]; simp <;> omega
            by_cases hgood : wrap32 (decS (l ++ [z])) = decS (l ++ [z]) ∧ (sB (decS (l ++ [z]))).length = (l ++ [z]).length
            · have HG := Lib.hid (((K1.out hc).trans (if_pos (by rw [List.length_append, hli] at hgood; exact hgood))).symm.trans HR.out)
              have HB : Hid (decide (sB (n + z % 128) = (zs.drop a).take 1) = true) := by
                unfold Hid
                rw [hcut]
                exact decide_eq_true (by rw [← hM]; exact (sB_eq_iff _ hch).2 hgood)
              have hsl : (sB (n + z % 128)).length ≤ 5 := sB_len _
              have HM := Lib.hid hM
              clear hM hcut hch hgood hli
              go_wp2_with fail
              have hRc : ∀ W : World, Below w1.heap.size w1 W → Reads W W.heap.size 1 (some ⟨b, off + a, none⟩) (1) (u8s ((zs.drop a).take 1)) := by
                intro W hW
                skip
                have := rd_cut (lo := a) (m := 1) (c := c) (rd_below hR hW) rfl (by omega) (by omega)
                rw [if_neg hca] at this
                simpa [add_plain] using this
              have hlc : ((zs.drop a).take 1).length = 1 := by rw [List.length_take, List.length_drop]; omega
              have HRc := Lib.hid hRc
              have HLc := Lib.hid hlc
              clear hRc hlc
              have e1 : IntKind.i64.wrap ((a : Int)) = (a : Int) := IntWalk.i64_in _ (by omega)
              have e2 : IntKind.i64.wrap ((a : Int) + 1) = (a : Int) + 1 := IntWalk.i64_in _ (by omega)
              have e3 : (a : Int) ≤ (a : Int) + 1 := by omega
              have e4 : (a : Int) + 1 ≤ (c : Int) := by omega
              have e5 : ((a : Int) + 1).toNat = a + 1 := by omega
              have e6 : (0 : Int) ≤ (a : Int) := by omega
              have e7 : (0 : Int) ≤ (a : Int) + 1 := by omega
              go_region_with (first
                | (go_at_call 21; refine (iPutS none 0 _ [] _ Reads.none_ (fun _ h => by cases h) (by simp)).mono ?_; rintro e w2 ⟨⟨v1, _, rfl, rfl, hY, O⟩, b1⟩; obtain ⟨A1, c1, rfl⟩ := O.form)
                | (go_at_call 40; refine (bEqual A1 _ _ _ c1 _ ([] ++ sB (n + z % 128)) ((zs.drop a).take 1) true _ O.reads (HRc.out _ ((Below.refl _ _).drew.trans b1)) rfl HLc.out hY (fun z hz => hZ z (List.mem_of_mem_drop (List.mem_of_mem_take hz))) HB.out).mono ?_; rintro e w3 ⟨rfl, rfl⟩))
              all_goals clear e1 e2 e3 e4 e5 e6 e7
              all_goals go_wp2_with fail
              all_goals go_ret3
              all_goals exact ⟨by rw [← HG.out]; simp [resP, HM.out], (Below.refl _ _).drew.trans b1⟩
            · have HG := Lib.hid (((K1.out hc).trans (if_neg (by rw [List.length_append, hli] at hgood; exact hgood))).symm.trans HR.out)
              have HB : Hid (decide (sB (n + z % 128) = (zs.drop a).take 1) = false) := by
                unfold Hid
                rw [hcut]
                exact decide_eq_false (by rw [← hM]; exact fun e => hgood ((sB_eq_iff _ hch).1 e))
              have hsl : (sB (n + z % 128)).length ≤ 5 := sB_len _
              have HM := Lib.hid hM
              clear hM hcut hch hgood hli
              go_wp2_with fail
              have hRc : ∀ W : World, Below w1.heap.size w1 W → Reads W W.heap.size 1 (some ⟨b, off + a, none⟩) (1) (u8s ((zs.drop a).take 1)) := by
                intro W hW
                skip
                have := rd_cut (lo := a) (m := 1) (c := c) (rd_below hR hW) rfl (by omega) (by omega)
                rw [if_neg hca] at this
                simpa [add_plain] using this
              have hlc : ((zs.drop a).take 1).length = 1 := by rw [List.length_take, List.length_drop]; omega
              have HRc := Lib.hid hRc
              have HLc := Lib.hid hlc
              clear hRc hlc
              have e1 : IntKind.i64.wrap ((a : Int)) = (a : Int) := IntWalk.i64_in _ (by omega)
              have e2 : IntKind.i64.wrap ((a : Int) + 1) = (a : Int) + 1 := IntWalk.i64_in _ (by omega)
              have e3 : (a : Int) ≤ (a : Int) + 1 := by omega
              have e4 : (a : Int) + 1 ≤ (c : Int) := by omega
              have e5 : ((a : Int) + 1).toNat = a + 1 := by omega
              have e6 : (0 : Int) ≤ (a : Int) := by omega
              have e7 : (0 : Int) ≤ (a : Int) + 1 := by omega
              go_region_with (first
                | (go_at_call 21; refine (iPutS none 0 _ [] _ Reads.none_ (fun _ h => by cases h) (by simp)).mono ?_; rintro e w2 ⟨⟨v1, _, rfl, rfl, hY, O⟩, b1⟩; obtain ⟨A1, c1, rfl⟩ := O.form)
                | (go_at_call 40; refine (bEqual A1 _ _ _ c1 _ ([] ++ sB (n + z % 128)) ((zs.drop a).take 1) false _ O.reads (HRc.out _ ((Below.refl _ _).drew.trans b1)) rfl HLc.out hY (fun z hz => hZ z (List.mem_of_mem_drop (List.mem_of_mem_take hz))) HB.out).mono ?_; rintro e w3 ⟨rfl, rfl⟩))
              all_goals clear e1 e2 e3 e4 e5 e6 e7
              all_goals go_wp2_with fail
              all_goals go_ret3
              all_goals exact ⟨by rw [← HG.out]; rfl, (Below.refl _ _).drew.trans b1⟩
          · have hM : decS (l ++ [z]) = n + z % 128 - 128 := by rw [hP.dec, if_pos (by omega)]; simp <;> omega
            by_cases hgood : wrap32 (decS (l ++ [z])) = decS (l ++ [z]) ∧ (sB (decS (l ++ [z]))).length = (l ++ [z]).length
            · have HG := Lib.hid (((K1.out hc).trans (if_pos (by rw [List.length_append, hli] at hgood; exact hgood))).symm.trans HR.out)
              have HB : Hid (decide (sB (n + z % 128 - 128) = (zs.drop a).take 1) = true) := by
                unfold Hid
                rw [hcut]
                exact decide_eq_true (by rw [← hM]; exact (sB_eq_iff _ hch).2 hgood)
              have hsl : (sB (n + z % 128 - 128)).length ≤ 5 := sB_len _
              have HM := Lib.hid hM
              clear hM hcut hch hgood hli
              go_wp2_with fail
              have hRc : ∀ W : World, Below w1.heap.size w1 W → Reads W W.heap.size 1 (some ⟨b, off + a, none⟩) (1) (u8s ((zs.drop a).take 1)) := by
                intro W hW
                skip
                have := rd_cut (lo := a) (m := 1) (c := c) (rd_below hR hW) rfl (by omega) (by omega)
                rw [if_neg hca] at this
                simpa [add_plain] using this
              have hlc : ((zs.drop a).take 1).length = 1 := by rw [List.length_take, List.length_drop]; omega
              have HRc := Lib.hid hRc
              have HLc := Lib.hid hlc
              clear hRc hlc
              have e1 : IntKind.i64.wrap ((a : Int)) = (a : Int) := IntWalk.i64_in _ (by omega)
              have e2 : IntKind.i64.wrap ((a : Int) + 1) = (a : Int) + 1 := IntWalk.i64_in _ (by omega)
              have e3 : (a : Int) ≤ (a : Int) + 1 := by omega
              have e4 : (a : Int) + 1 ≤ (c : Int) := by omega
              have e5 : ((a : Int) + 1).toNat = a + 1 := by omega
              have e6 : (0 : Int) ≤ (a : Int) := by omega
              have e7 : (0 : Int) ≤ (a : Int) + 1 := by omega
              go_region_with (first
                | (go_at_call 21; refine (iPutS none 0 _ [] _ Reads.none_ (fun _ h => by cases h) (by simp)).mono ?_; rintro e w2 ⟨⟨v1, _, rfl, rfl, hY, O⟩, b1⟩; obtain ⟨A1, c1, rfl⟩ := O.form)
                | (go_at_call 40; refine (bEqual A1 _ _ _ c1 _ ([] ++ sB (n + z % 128 - 128)) ((zs.drop a).take 1) true _ O.reads (HRc.out _ ((Below.refl _ _).drew.trans b1)) rfl HLc.out hY (fun z hz => hZ z (List.mem_of_mem_drop (List.mem_of_mem_take hz))) HB.out).mono ?_; rintro e w3 ⟨rfl, rfl⟩))
              all_goals clear e1 e2 e3 e4 e5 e6 e7
              all_goals go_wp2_with fail
              all_goals go_ret3
              all_goals exact ⟨by rw [← HG.out]; simp [resP, HM.out], (Below.refl _ _).drew.trans b1⟩
            · have HG := Lib.hid (((K1.out hc).trans (if_neg (by rw [List.length_append, hli] at hgood; exact hgood))).symm.trans HR.out)
              have HB : Hid (decide (sB (n + z % 128 - 128) = (zs.drop a).take 1) = false) := by
                unfold Hid
                rw [hcut]
                exact decide_eq_false (by rw [← hM]; exact fun e => hgood ((sB_eq_iff _ hch).1 e))
              have hsl : (sB (n + z % 128 - 128)).length ≤ 5 := sB_len _
              have HM := Lib.hid hM
              clear hM hcut hch hgood hli
              go_wp2_with fail
              have hRc : ∀ W : World, Below w1.heap.size w1 W → Reads W W.heap.size 1 (some ⟨b, off + a, none⟩) (1) (u8s ((zs.drop a).take 1)) := by
                intro W hW
                skip
                have := rd_cut (lo := a) (m := 1) (c := c) (rd_below hR hW) rfl (by omega) (by omega)
                rw [if_neg hca] at this
                simpa [add_plain] using this
              have hlc : ((zs.drop a).take 1).length = 1 := by rw [List.length_take, List.length_drop]; omega
              have HRc := Lib.hid hRc
              have HLc := Lib.hid hlc
              clear hRc hlc
              have e1 : IntKind.i64.wrap ((a : Int)) = (a : Int) := IntWalk.i64_in _ (by omega)
              have e2 : IntKind.i64.wrap ((a : Int) + 1) = (a : Int) + 1 := IntWalk.i64_in _ (by omega)
              have e3 : (a : Int) ≤ (a : Int) + 1 := by omega
              have e4 : (a : Int) + 1 ≤ (c : Int) := by omega
              have e5 : ((a : Int) + 1).toNat = a + 1 := by omega
              have e6 : (0 : Int) ≤ (a : Int) := by omega
              have e7 : (0 : Int) ≤ (a : Int) + 1 := by omega
              go_region_with (first
                | (go_at_call 21; refine (iPutS none 0 _ [] _ Reads.none_ (fun _ h => by cases h) (by simp)).mono ?_; rintro e w2 ⟨⟨v1, _, rfl, rfl, hY, O⟩, b1⟩; obtain ⟨A1, c1, rfl⟩ := O.form)
                | (go_at_call 40; refine (bEqual A1 _ _ _ c1 _ ([] ++ sB (n + z % 128 - 128)) ((zs.drop a).take 1) false _ O.reads (HRc.out _ ((Below.refl _ _).drew.trans b1)) rfl HLc.out hY (fun z hz => hZ z (List.mem_of_mem_drop (List.mem_of_mem_take hz))) HB.out).mono ?_; rintro e w3 ⟨rfl, rfl⟩))
              all_goals clear e1 e2 e3 e4 e5 e6 e7
              all_goals go_wp2_with fail
              all_goals go_ret3
              all_goals exact ⟨by rw [← HG.out]; rfl, (Below.refl _ _).drew.trans b1⟩
        · have HG := Lib.hid ((K2.out (by omega)).symm.trans HR.out)
          have HK := Lib.hid (K3.out (by omega) (by omega))
          clear hcut hli
          go_wp2_with fail
          go_round
          case rel => exact ⟨1, n + z % 128, l ++ [z], by omega, by go_num, by go_num, by omega, by simp; omega, by have := HK.out; simpa using this, by have := HG.out; simpa using this⟩
          case measure => simp [intOf]
      · exfalso; omega
    · -- the byte at 1
      have hn1 : n < 128 := by simpa using hn1
      have hli := hP.1
      by_cases hlt : a + 1 < zs.length
      · have hz := hZ zs[a + 1] (List.getElem_mem hlt)
        obtain ⟨b, off, rfl, hb, hcell⟩ := rd_at hR hlt
        have hcut := hP.cut hlt
        have k1 := fun h1 => gS_last zs a l 3 (by rw [hli]; exact hlt) h1
        have k2 := fun h1 => gS_on zs a l 3 (by rw [hli]; exact hlt) h1
        have k3 := fun h1 h2 => hP.on hlt h1 h2
        simp only [hli] at k1 k2
        obtain ⟨hz0, hz1⟩ := hz
        generalize zs[a + 1] = z at *
        have K1 := Lib.hid k1
        have K2 := Lib.hid k2
        have K3 := Lib.hid k3
        clear k1 k2 k3
        have hlt' : (a : Int) + 1 < zs.length := by omega
        by_cases hc : z < 128
        · have hch := chain_app l z hP.2.2.1 hz0 hc
          by_cases h64 : z < 64
          · have hM : decS (l ++ [z]) = n + z % 128 * 128 := by rw [hP.dec, if_neg (by omega)]; simp <;> omega
            by_cases hgood : wrap32 (decS (l ++ [z])) = decS (l ++ [z]) ∧ (sB (decS (l ++ [z]))).length = (l ++ [z]).length
            · have HG := Lib.hid (((K1.out hc).trans (if_pos (by rw [List.length_append, hli] at hgood; exact hgood))).symm.trans HR.out)
              have HB : Hid (decide (sB (n + z % 128 * 128) = (zs.drop a).take 2) = true) := by
                unfold Hid
                rw [hcut]
                exact decide_eq_true (by rw [← hM]; exact (sB_eq_iff _ hch).2 hgood)
              have hsl : (sB (n + z % 128 * 128)).length ≤ 5 := sB_len _
              have HM := Lib.hid hM
              clear hM hcut hch hgood hli
              go_wp2_with fail
              have hRc : ∀ W : World, Below w1.heap.size w1 W → Reads W W.heap.size 1 (some ⟨b, off + a, none⟩) (a + 1 + 1 - a) (u8s ((zs.drop a).take 2)) := by
                intro W hW
                rw [show a + 1 + 1 - a = 2 by omega]
                have := rd_cut (lo := a) (m := 2) (c := c) (rd_below hR hW) rfl (by omega) (by omega)
                rw [if_neg hca] at this
                simpa [add_plain] using this
              have hlc : ((zs.drop a).take 2).length = a + 1 + 1 - a := by rw [List.length_take, List.length_drop]; omega
              have HRc := Lib.hid hRc
              have HLc := Lib.hid hlc
              clear hRc hlc
              have e1 : IntKind.i64.wrap ((a : Int) + 1) = (a : Int) + 1 := IntWalk.i64_in _ (by omega)
              have e2 : IntKind.i64.wrap ((a : Int) + 1 + 1) = (a : Int) + 1 + 1 := IntWalk.i64_in _ (by omega)
              have e3 : (a : Int) ≤ (a : Int) + 1 + 1 := by omega
              have e4 : (a : Int) + 1 + 1 ≤ (c : Int) := by omega
              have e5 : ((a : Int) + 1 + 1).toNat = a + 1 + 1 := by omega
              have e6 : (0 : Int) ≤ (a : Int) := by omega
              have e7 : (0 : Int) ≤ (a : Int) + 1 + 1 := by omega
              go_region_with (first
                | (go_at_call 21; refine (iPutS none 0 _ [] _ Reads.none_ (fun _ h => by cases h) (by simp)).mono ?_; rintro e w2 ⟨⟨v1, _, rfl, rfl, hY, O⟩, b1⟩; obtain ⟨A1, c1, rfl⟩ := O.form)
                | (go_at_call 40; refine (bEqual A1 _ _ _ c1 _ ([] ++ sB (n + z % 128 * 128)) ((zs.drop a).take 2) true _ O.reads (HRc.out _ ((Below.refl _ _).drew.trans b1)) rfl HLc.out hY (fun z hz => hZ z (List.mem_of_mem_drop (List.mem_of_mem_take hz))) HB.out).mono ?_; rintro e w3 ⟨rfl, rfl⟩))
              all_goals clear e1 e2 e3 e4 e5 e6 e7
              all_goals go_wp2_with fail
              all_goals go_ret3
              all_goals exact ⟨by rw [← HG.out]; simp [resP, HM.out], (Below.refl _ _).drew.trans b1⟩
            · have HG := Lib.hid (((K1.out hc).trans (if_neg (by rw [List.length_append, hli] at hgood; exact hgood))).symm.trans HR.out)
              have HB : Hid (decide (sB (n + z % 128 * 128) = (zs.drop a).take 2) = false) := by
                unfold Hid
                rw [hcut]
                exact decide_eq_false (by rw [← hM]; exact fun e => hgood ((sB_eq_iff _ hch).1 e))
              have hsl : (sB (n + z % 128 * 128)).length ≤ 5 := sB_len _
              have HM := Lib.hid hM
              clear hM hcut hch hgood hli
              go_wp2_with fail
              have hRc : ∀ W : World, Below w1.heap.size w1 W → Reads W W.heap.size 1 (some ⟨b, off + a, none⟩) (a + 1 + 1 - a) (u8s ((zs.drop a).take 2)) := by
                intro W hW
                rw [show a + 1 + 1 - a = 2 by omega]
                have := rd_cut (lo := a) (m := 2) (c := c) (rd_below hR hW) rfl (by omega) (by omega)
                rw [if_neg hca] at this
                simpa [add_plain] using this
              have hlc : ((zs.drop a).take 2).length = a + 1 + 1 - a := by rw [List.length_take, List.length_drop]; omega
              have HRc := Lib.hid hRc
              have HLc := Lib.hid hlc
              clear hRc hlc
              have e1 : IntKind.i64.wrap ((a : Int) + 1) = (a : Int) + 1 := IntWalk.i64_in _ (by omega)
              have e2 : IntKind.i64.wrap ((a : Int) + 1 + 1) = (a : Int) + 1 + 1 := IntWalk.i64_in _ (by omega)
              have e3 : (a : Int) ≤ (a : Int) + 1 + 1 := by omega
              have e4 : (a : Int) + 1 + 1 ≤ (c : Int) := by omega
              have e5 : ((a : Int) + 1 + 1).toNat = a + 1 + 1 := by omega
              have e6 : (0 : Int) ≤ (a : Int) := by omega
              have e7 : (0 : Int) ≤ (a : Int) + 1 + 1 := by omega
              go_region_with (first
                | (go_at_call 21; refine (iPutS none 0 _ [] _ Reads.none_ (fun _ h => by cases h) (by simp)).mono ?_; rintro e w2 ⟨⟨v1, _, rfl, rfl, hY, O⟩, b1⟩; obtain ⟨A1, c1, rfl⟩ := O.form)
                | (go_at_call 40; refine (bEqual A1 _ _ _ c1 _ ([] ++ sB (n + z % 128 * 128)) ((zs.drop a).take 2) false _ O.reads (HRc.out _ ((Below.refl _ _).drew.trans b1)) rfl HLc.out hY (fun z hz => hZ z (List.mem_of_mem_drop (List.mem_of_mem_take hz))) HB.out).mono ?_; rintro e w3 ⟨rfl, rfl⟩))
              all_goals clear e1 e2 e3 e4 e5 e6 e7
              all_goals go_wp2_with fail
              all_goals go_ret3
              all_goals exact ⟨by rw [← HG.out]; rfl, (Below.refl _ _).drew.trans b1⟩
          · have hM : decS (l ++ [z]) = n + z % 128 * 128 - 16384 := by rw [hP.dec, if_pos (by omega)]; simp <;> omega
            by_cases hgood : wrap32 (decS (l ++ [z])) = decS (l ++ [z]) ∧ (sB (decS (l ++ [z]))).length = (l ++ [z]).length
            · have HG := Lib.hid (((K1.out hc).trans (if_pos (by rw [List.length_append, hli] at hgood; exact hgood))).symm.trans HR.out)
              have HB : Hid (decide (sB (n + z % 128 * 128 - 16384) = (zs.drop a).take 2) = true) := by
                unfold Hid
                rw [hcut]
                exact decide_eq_true (by rw [← hM]; exact (sB_eq_iff _ hch).2 hgood)
              have hsl : (sB (n + z % 128 * 128 - 16384)).length ≤ 5 := sB_len _
              have HM := Lib.hid hM
              clear hM hcut hch hgood hli
              go_wp2_with fail
              have hRc : ∀ W : World, Below w1.heap.size w1 W → Reads W W.heap.size 1 (some ⟨b, off + a, none⟩) (a + 1 + 1 - a) (u8s ((zs.drop a).take 2)) := by
                intro W hW
                rw [show a + 1 + 1 - a = 2 by omega]
                have := rd_cut (lo := a) (m := 2) (c := c) (rd_below hR hW) rfl (by omega) (by omega)
                rw [if_neg hca] at this
                simpa [add_plain] using this
              have hlc : ((zs.drop a).take 2).length = a + 1 + 1 - a := by rw [List.length_take, List.length_drop]; omega
              have HRc := Lib.hid hRc
              have HLc := Lib.hid hlc
              clear hRc hlc
              have e1 : IntKind.i64.wrap ((a : Int) + 1) = (a : Int) + 1 := IntWalk.i64_in _ (by omega)
              have e2 : IntKind.i64.wrap ((a : Int) + 1 + 1) = (a : Int) + 1 + 1 := IntWalk.i64_in _ (by omega)
              have e3 : (a : Int) ≤ (a : Int) + 1 + 1 := by omega
              have e4 : (a : Int) + 1 + 1 ≤ (c : Int) := by omega
              have e5 : ((a : Int) + 1 + 1).toNat = a + 1 + 1 := by omega
              have e6 : (0 : Int) ≤ (a : Int) := by omega
              have e7 : (0 : Int) ≤ (a : Int) + 1 + 1 := by omega
              go_region_with (first
                | (go_at_call 21; refine (iPutS none 0 _ [] _ Reads.none_ (fun _ h => by cases h) (by simp)).mono ?_; rintro e w2 ⟨⟨v1, _, rfl, rfl, hY, O⟩, b1⟩; obtain ⟨A1, c1, rfl⟩ := O.form)
                | (go_at_call 40; refine (bEqual A1 _ _ _ c1 _ ([] ++ sB (n + z % 128 * 128 - 16384)) ((zs.drop a).take 2) true _ O.reads (HRc.out _ ((Below.refl _ _).drew.trans b1)) rfl HLc.out hY (fun z hz => hZ z (List.mem_of_mem_drop (List.mem_of_mem_take hz))) HB.out).mono ?_; rintro e w3 ⟨rfl, rfl⟩))
              all_goals clear e1 e2 e3 e4 e5 e6 e7
              all_goals go_wp2_with fail
              all_goals go_ret3
              all_goals exact ⟨by rw [← HG.out]; simp [resP, HM.out], (Below.refl _ _).drew.trans b1⟩
            · have HG := Lib.hid (((K1.out hc).trans (if_neg (by rw [List.length_append, hli] at hgood; exact hgood))).symm.trans HR.out)
              have HB : Hid (decide (sB (n + z % 128 * 128 - 16384) = (zs.drop a).take 2) = false) := by
                unfold Hid
                rw [hcut]
                exact decide_eq_false (by rw [← hM]; exact fun e => hgood ((sB_eq_iff _ hch).1 e))
              have hsl : (sB (n + z % 128 * 128 - 16384)).length ≤ 5 := sB_len _
              have HM := Lib.hid hM
              clear hM hcut hch hgood hli
              go_wp2_with fail
              have hRc : ∀ W : World, Below w1.heap.size w1 W → Reads W W.heap.size 1 (some ⟨b, off + a, none⟩) (a + 1 + 1 - a) (u8s ((zs.drop a).take 2)) := by
                intro W hW
                rw [show a + 1 + 1 - a = 2 by omega]
                have := rd_cut (lo := a) (m := 2) (c := c) (rd_below hR hW) rfl (by omega) (by omega)
                rw [if_neg hca] at this
                simpa [add_plain] using this
              have hlc : ((zs.drop a).take 2).length = a + 1 + 1 - a := by rw [List.length_take, List.length_drop]; omega
              have HRc := Lib.hid hRc
              have HLc := Lib.hid hlc
              clear hRc hlc
              have e1 : IntKind.i64.wrap ((a : Int) + 1) = (a : Int) + 1 := IntWalk.i64_in _ (by omega)
              have e2 : IntKind.i64.wrap ((a : Int) + 1 + 1) = (a : Int) + 1 + 1 := IntWalk.i64_in _ (by omega)
              have e3 : (a : Int) ≤ (a : Int) + 1 + 1 := by omega
              have e4 : (a : Int) + 1 + 1 ≤ (c : Int) := by omega
              have e5 : ((a : Int) + 1 + 1).toNat = a + 1 + 1 := by omega
              have e6 : (0 : Int) ≤ (a : Int) := by omega
              have e7 : (0 : Int) ≤ (a : Int) + 1 + 1 := by omega
              go_region_with (first
                | (go_at_call 21; refine (iPutS none 0 _ [] _ Reads.none_ (fun _ h => by cases h) (by simp)).mono ?_; rintro e w2 ⟨⟨v1, _, rfl, rfl, hY, O⟩, b1⟩; obtain ⟨A1, c1, rfl⟩ := O.form)
                | (go_at_call 40; refine (bEqual A1 _ _ _ c1 _ ([] ++ sB (n + z % 128 * 128 - 16384)) ((zs.drop a).take 2) false _ O.reads (HRc.out _ ((Below.refl _ _).drew.trans b1)) rfl HLc.out hY (fun z hz => hZ z (List.mem_of_mem_drop (List.mem_of_mem_take hz))) HB.out).mono ?_; rintro e w3 ⟨rfl, rfl⟩))
              all_goals clear e1 e2 e3 e4 e5 e6 e7
              all_goals go_wp2_with fail
              all_goals go_ret3
              all_goals exact ⟨by rw [← HG.out]; rfl, (Below.refl _ _).drew.trans b1⟩
        · have HG := Lib.hid ((K2.out (by omega)).symm.trans HR.out)
          have HK := Lib.hid (K3.out (by omega) (by omega))
          clear hcut hli
          go_wp2_with fail
          go_round
          case rel => exact ⟨2, n + z % 128 * 128, l ++ [z], by omega, by go_num, by go_num, by omega, by simp; omega, by have := HK.out; simpa using this, by have := HG.out; simpa using this⟩
          case measure => simp [intOf]
      · have HG := Lib.hid ((gS_end zs a l 4 (by rw [hli]; exact hlt)).symm.trans HR.out)
        have hlt' : (zs.length : Int) ≤ (a : Int) + 1 := by omega
        clear hli
        go_wp2_with fail
        go_ret3
        exact ⟨by rw [← HG.out]; rfl, Below.refl _ _⟩
    · -- the byte at 2
      have hn1 : n < 16384 := by simpa using hn1
      have hli := hP.1
      by_cases hlt : a + 2 < zs.length
      · have hz := hZ zs[a + 2] (List.getElem_mem hlt)
        obtain ⟨b, off, rfl, hb, hcell⟩ := rd_at hR hlt
        have hcut := hP.cut hlt
        have k1 := fun h1 => gS_last zs a l 2 (by rw [hli]; exact hlt) h1
        have k2 := fun h1 => gS_on zs a l 2 (by rw [hli]; exact hlt) h1
        have k3 := fun h1 h2 => hP.on hlt h1 h2
        simp only [hli] at k1 k2
        obtain ⟨hz0, hz1⟩ := hz
        generalize zs[a + 2] = z at *
        have K1 := Lib.hid k1
        have K2 := Lib.hid k2
        have K3 := Lib.hid k3
        clear k1 k2 k3
        have hlt' : (a : Int) + 2 < zs.length := by omega
        by_cases hc : z < 128
        · have hch := chain_app l z hP.2.2.1 hz0 hc
          by_cases h64 : z < 64
          · have hM : decS (l ++ [z]) = n + z % 128 * 16384 := by rw [hP.dec, if_neg (by omega)]; simp <;> omega
            by_cases hgood : wrap32 (decS (l ++ [z])) = decS (l ++ [z]) ∧ (sB (decS (l ++ [z]))).length = (l ++ [z]).length
            · have HG := Lib.hid (((K1.out hc).trans (if_pos (by rw [List.length_append, hli] at hgood; exact hgood))).symm.trans HR.out)
              have HB : Hid (decide (sB (n + z % 128 * 16384) = (zs.drop a).take 3) = true) := by
                unfold Hid
                rw [hcut]
                exact decide_eq_true (by rw [← hM]; exact (sB_eq_iff _ hch).2 hgood)
              have hsl : (sB (n + z % 128 * 16384)).length ≤ 5 := sB_len _
              have HM := Lib.hid hM
              clear hM hcut hch hgood hli
              go_wp2_with fail
              have hRc : ∀ W : World, Below w1.heap.size w1 W → Reads W W.heap.size 1 (some ⟨b, off + a, none⟩) (a + 2 + 1 - a) (u8s ((zs.drop a).take 3)) := by
                intro W hW
                rw [show a + 2 + 1 - a = 3 by omega]
                have := rd_cut (lo := a) (m := 3) (c := c) (rd_below hR hW) rfl (by omega) (by omega)
                rw [if_neg hca] at this
                simpa [add_plain] using this
              have hlc : ((zs.drop a).take 3).length = a + 2 + 1 - a := by rw [List.length_take, List.length_drop]; omega
              have HRc := Lib.hid hRc
              have HLc := Lib.hid hlc
              clear hRc hlc
              have e1 : IntKind.i64.wrap ((a : Int) + 2) = (a : Int) + 2 := IntWalk.i64_in _ (by omega)
              have e2 : IntKind.i64.wrap ((a : Int) + 2 + 1) = (a : Int) + 2 + 1 := IntWalk.i64_in _ (by omega)
              have e3 : (a : Int) ≤ (a : Int) + 2 + 1 := by omega
              have e4 : (a : Int) + 2 + 1 ≤ (c : Int) := by omega
              have e5 : ((a : Int) + 2 + 1).toNat = a + 2 + 1 := by omega
              have e6 : (0 : Int) ≤ (a : Int) := by omega
              have e7 : (0 : Int) ≤ (a : Int) + 2 + 1 := by omega
              go_region_with (first
                | (go_at_call 21; refine (iPutS none 0 _ [] _ Reads.none_ (fun _ h => by cases h) (by simp)).mono ?_; rintro e w2 ⟨⟨v1, _, rfl, rfl, hY, O⟩, b1⟩; obtain ⟨A1, c1, rfl⟩ := O.form)
                | (go_at_call 40; refine (bEqual A1 _ _ _ c1 _ ([] ++ sB (n + z % 128 * 16384)) ((zs.drop a).take 3) true _ O.reads (HRc.out _ ((Below.refl _ _).drew.trans b1)) rfl HLc.out hY (fun z hz => hZ z (List.mem_of_mem_drop (List.mem_of_mem_take hz))) HB.out).mono ?_; rintro e w3 ⟨rfl, rfl⟩))
              all_goals clear e1 e2 e3 e4 e5 e6 e7
              all_goals go_wp2_with fail
              all_goals go_ret3
              all_goals exact ⟨by rw [← HG.out]; simp [resP, HM.out], (Below.refl _ _).drew.trans b1⟩
            · have HG := Lib.hid (((K1.out hc).trans (if_neg (by rw [List.length_append, hli] at hgood; exact hgood))).symm.trans HR.out)
              have HB : Hid (decide (sB (n + z % 128 * 16384) = (zs.drop a).take 3) = false) := by
                unfold Hid
                rw [hcut]
                exact decide_eq_false (by rw [← hM]; exact fun e => hgood ((sB_eq_iff _ hch).1 e))
              have hsl : (sB (n + z % 128 * 16384)).length ≤ 5 := sB_len _
              have HM := Lib.hid hM
              clear hM hcut hch hgood hli
              go_wp2_with fail
              have hRc : ∀ W : World, Below w1.heap.size w1 W → Reads W W.heap.size 1 (some ⟨b, off + a, none⟩) (a + 2 + 1 - a) (u8s ((zs.drop a).take 3)) := by
                intro W hW
                rw [show a + 2 + 1 - a = 3 by omega]
                have := rd_cut (lo := a) (m := 3) (c := c) (rd_below hR hW) rfl (by omega) (by omega)
                rw [if_neg hca] at this
                simpa [add_plain] using this
              have hlc : ((zs.drop a).take 3).length = a + 2 + 1 - a := by rw [List.length_take, List.length_drop]; omega
              have HRc := Lib.hid hRc
              have HLc := Lib.hid hlc
              clear hRc hlc
              have e1 : IntKind.i64.wrap ((a : Int) + 2) = (a : Int) + 2 := IntWalk.i64_in _ (by omega)
              have e2 : IntKind.i64.wrap ((a : Int) + 2 + 1) = (a : Int) + 2 + 1 := IntWalk.i64_in _ (by omega)
              have e3 : (a : Int) ≤ (a : Int) + 2 + 1 := by omega
              have e4 : (a : Int) + 2 + 1 ≤ (c : Int) := by omega
              have e5 : ((a : Int) + 2 + 1).toNat = a + 2 + 1 := by omega
              have e6 : (0 : Int) ≤ (a : Int) := by omega
              have e7 : (0 : Int) ≤ (a : Int) + 2 + 1 := by omega
              go_region_with (first
                | (go_at_call 21; refine (iPutS none 0 _ [] _ Reads.none_ (fun _ h => by cases h) (by simp)).mono ?_; rintro e w2 ⟨⟨v1, _, rfl, rfl, hY, O⟩, b1⟩; obtain ⟨A1, c1, rfl⟩ := O.form)
                | (go_at_call 40; refine (bEqual A1 _ _ _ c1 _ ([] ++ sB (n + z % 128 * 16384)) ((zs.drop a).take 3) false _ O.reads (HRc.out _ ((Below.refl _ _).drew.trans b1)) rfl HLc.out hY (fun z hz => hZ z (List.mem_of_mem_drop (List.mem_of_mem_take hz))) HB.out).mono ?_; rintro e w3 ⟨rfl, rfl⟩))
              all_goals clear e1 e2 e3 e4 e5 e6 e7
              all_goals go_wp2_with fail
              all_goals go_ret3
              all_goals exact ⟨by rw [← HG.out]; rfl, (Below.refl _ _).drew.trans b1⟩
          · have hM : decS (l ++ [z]) = n + z % 128 * 16384 - 2097152 := by rw [hP.dec, if_pos (by omega)]; simp <;> omega
            by_cases hgood : wrap32 (decS (l ++ [z])) = decS (l ++ [z]) ∧ (sB (decS (l ++ [z]))).length = (l ++ [z]).length
            · have HG := Lib.hid (((K1.out hc).trans (if_pos (by rw [List.length_append, hli] at hgood; exact hgood))).symm.trans HR.out)
              have HB : Hid (decide (sB (n + z % 128 * 16384 - 2097152) = (zs.drop a).take 3) = true) := by
                unfold Hid
                rw [hcut]
                exact decide_eq_true (by rw [← hM]; exact (sB_eq_iff _ hch).2 hgood)
              have hsl : (sB (n + z % 128 * 16384 - 2097152)).length ≤ 5 := sB_len _
              have HM := Lib.hid hM
              clear hM hcut hch hgood hli
              go_wp2_with fail
              have hRc : ∀ W : World, Below w1.heap.size w1 W → Reads W W.heap.size 1 (some ⟨b, off + a, none⟩) (a + 2 + 1 - a) (u8s ((zs.drop a).take 3)) := by
                intro W hW
                rw [show a + 2 + 1 - a = 3 by omega]
                have := rd_cut (lo := a) (m := 3) (c := c) (rd_below hR hW) rfl (by omega) (by omega)
                rw [if_neg hca] at this
                simpa [add_plain] using this
              have hlc : ((zs.drop a).take 3).length = a + 2 + 1 - a := by rw [List.length_take, List.length_drop]; omega
              have HRc := Lib.hid hRc
              have HLc := Lib.hid hlc
              clear hRc hlc
              have e1 : IntKind.i64.wrap ((a : Int) + 2) = (a : Int) + 2 := IntWalk.i64_in _ (by omega)
              have e2 : IntKind.i64.wrap ((a : Int) + 2 + 1) = (a : Int) + 2 + 1 := IntWalk.i64_in _ (by omega)
              have e3 : (a : Int) ≤ (a : Int) + 2 + 1 := by omega
              have e4 : (a : Int) + 2 + 1 ≤ (c : Int) := by omega
              have e5 : ((a : Int) + 2 + 1).toNat = a + 2 + 1 := by omega
              have e6 : (0 : Int) ≤ (a : Int) := by omega
              have e7 : (0 : Int) ≤ (a : Int) + 2 + 1 := by omega
              go_region_with (first
                | (go_at_call 21; refine (iPutS none 0 _ [] _ Reads.none_ (fun _ h => by cases h) (by simp)).mono ?_; rintro e w2 ⟨⟨v1, _, rfl, rfl, hY, O⟩, b1⟩; obtain ⟨A1, c1, rfl⟩ := O.form)
                | (go_at_call 40; refine (bEqual A1 _ _ _ c1 _ ([] ++ sB (n + z % 128 * 16384 - 2097152)) ((zs.drop a).take 3) true _ O.reads (HRc.out _ ((Below.refl _ _).drew.trans b1)) rfl HLc.out hY (fun z hz => hZ z (List.mem_of_mem_drop (List.mem_of_mem_take hz))) HB.out).mono ?_; rintro e w3 ⟨rfl, rfl⟩))
              all_goals clear e1 e2 e3 e4 e5 e6 e7
              all_goals go_wp2_with fail
              all_goals go_ret3
              all_goals exact ⟨by rw [← HG.out]; simp [resP, HM.out], (Below.refl _ _).drew.trans b1⟩
            · have HG := Lib.hid (((K1.out hc).trans (if_neg (by rw [List.length_append, hli] at hgood; exact hgood))).symm.trans HR.out)
              have HB : Hid (decide (sB (n + z % 128 * 16384 - 2097152) = (zs.drop a).take 3) = false) := by
                unfold Hid
                rw [hcut]
                exact decide_eq_false (by rw [← hM]; exact fun e => hgood ((sB_eq_iff _ hch).1 e))
              have hsl : (sB (n + z % 128 * 16384 - 2097152)).length ≤ 5 := sB_len _
              have HM := Lib.hid hM
              clear hM hcut hch hgood hli
              go_wp2_with fail
              have hRc : ∀ W : World, Below w1.heap.size w1 W → Reads W W.heap.size 1 (some ⟨b, off + a, none⟩) (a + 2 + 1 - a) (u8s ((zs.drop a).take 3)) := by
                intro W hW
                rw [show a + 2 + 1 - a = 3 by omega]
                have := rd_cut (lo := a) (m := 3) (c := c) (rd_below hR hW) rfl (by omega) (by omega)
                rw [if_neg hca] at this
                simpa [add_plain] using this
              have hlc : ((zs.drop a).take 3).length = a + 2 + 1 - a := by rw [List.length_take, List.length_drop]; omega
              have HRc := Lib.hid hRc
              have HLc := Lib.hid hlc
              clear hRc hlc
              have e1 : IntKind.i64.wrap ((a : Int) + 2) = (a : Int) + 2 := IntWalk.i64_in _ (by omega)
              have e2 : IntKind.i64.wrap ((a : Int) + 2 + 1) = (a : Int) + 2 + 1 := IntWalk.i64_in _ (by omega)
              have e3 : (a : Int) ≤ (a : Int) + 2 + 1 := by omega
              have e4 : (a : Int) + 2 + 1 ≤ (c : Int) := by omega
              have e5 : ((a : Int) + 2 + 1).toNat = a + 2 + 1 := by omega
              have e6 : (0 : Int) ≤ (a : Int) := by omega
              have e7 : (0 : Int) ≤ (a : Int) + 2 + 1 := by omega
              go_region_with (first
                | (go_at_call 21; refine (iPutS none 0 _ [] _ Reads.none_ (fun _ h => by cases h) (by simp)).mono ?_; rintro e w2 ⟨⟨v1, _, rfl, rfl, hY, O⟩, b1⟩; obtain ⟨A1, c1, rfl⟩ := O.form)
                | (go_at_call 40; refine (bEqual A1 _ _ _ c1 _ ([] ++ sB (n + z % 128 * 16384 - 2097152)) ((zs.drop a).take 3) false _ O.reads (HRc.out _ ((Below.refl _ _).drew.trans b1)) rfl HLc.out hY (fun z hz => hZ z (List.mem_of_mem_drop (List.mem_of_mem_take hz))) HB.out).mono ?_; rintro e w3 ⟨rfl, rfl⟩))
              all_goals clear e1 e2 e3 e4 e5 e6 e7
              all_goals go_wp2_with fail
              all_goals go_ret3
              all_goals exact ⟨by rw [← HG.out]; rfl, (Below.refl _ _).drew.trans b1⟩
        · have HG := Lib.hid ((K2.out (by omega)).symm.trans HR.out)
          have HK := Lib.hid (K3.out (by omega) (by omega))
          clear hcut hli
          go_wp2_with fail
          go_round
          case rel => exact ⟨3, n + z % 128 * 16384, l ++ [z], by omega, by go_num, by go_num, by omega, by simp; omega, by have := HK.out; simpa using this, by have := HG.out; simpa using this⟩
          case measure => simp [intOf]
      · have HG := Lib.hid ((gS_end zs a l 3 (by rw [hli]; exact hlt)).symm.trans HR.out)
        have hlt' : (zs.length : Int) ≤ (a : Int) + 2 := by omega
        clear hli
        go_wp2_with fail
        go_ret3
        exact ⟨by rw [← HG.out]; rfl, Below.refl _ _⟩
    · -- the byte at 3
      have hn1 : n < 2097152 := by simpa using hn1
      have hli := hP.1
      by_cases hlt : a + 3 < zs.length
      · have hz := hZ zs[a + 3] (List.getElem_mem hlt)
        obtain ⟨b, off, rfl, hb, hcell⟩ := rd_at hR hlt
        have hcut := hP.cut hlt
        have k1 := fun h1 => gS_last zs a l 1 (by rw [hli]; exact hlt) h1
        have k2 := fun h1 => gS_on zs a l 1 (by rw [hli]; exact hlt) h1
        have k3 := fun h1 h2 => hP.on hlt h1 h2
        simp only [hli] at k1 k2
        obtain ⟨hz0, hz1⟩ := hz
        generalize zs[a + 3] = z at *
        have K1 := Lib.hid k1
        have K2 := Lib.hid k2
        have K3 := Lib.hid k3
        clear k1 k2 k3
        have hlt' : (a : Int) + 3 < zs.length := by omega
        by_cases hc : z < 128
        · have hch := chain_app l z hP.2.2.1 hz0 hc
          by_cases h64 : z < 64
          · have hM : decS (l ++ [z]) = n + z % 128 * 2097152 := by rw [hP.dec, if_neg (by omega)]; simp <;> omega
            by_cases hgood : wrap32 (decS (l ++ [z])) = decS (l ++ [z]) ∧ (sB (decS (l ++ [z]))).length = (l ++ [z]).length
            · have HG := Lib.hid (((K1.out hc).trans (if_pos (by rw [List.length_append, hli] at hgood; exact hgood))).symm.trans HR.out)
              have HB : Hid (decide (sB (n + z % 128 * 2097152) = (zs.drop a).take 4) = true) := by
                unfold Hid
                rw [hcut]
                exact decide_eq_true (by rw [← hM]; exact (sB_eq_iff _ hch).2 hgood)
              have hsl : (sB (n + z % 128 * 2097152)).length ≤ 5 := sB_len _
              have HM := Lib.hid hM
              clear hM hcut hch hgood hli
              go_wp2_with fail
              have hRc : ∀ W : World, Below w1.heap.size w1 W → Reads W W.heap.size 1 (some ⟨b, off + a, none⟩) (a + 3 + 1 - a) (u8s ((zs.drop a).take 4)) := by
                intro W hW
                rw [show a + 3 + 1 - a = 4 by omega]
                have := rd_cut (lo := a) (m := 4) (c := c) (rd_below hR hW) rfl (by omega) (by omega)
                rw [if_neg hca] at this
                simpa [add_plain] using this
              have hlc : ((zs.drop a).take 4).length = a + 3 + 1 - a := by rw [List.length_take, List.length_drop]; omega
              have HRc := Lib.hid hRc
              have HLc := Lib.hid hlc
              clear hRc hlc
              have e1 : IntKind.i64.wrap ((a : Int) + 3) = (a : Int) + 3 := IntWalk.i64_in _ (by omega)
              have e2 : IntKind.i64.wrap ((a : Int) + 3 + 1) = (a : Int) + 3 + 1 := IntWalk.i64_in _ (by omega)
              have e3 : (a : Int) ≤ (a : Int) + 3 + 1 := by omega
              have e4 : (a : Int) + 3 + 1 ≤ (c : Int) := by omega
              have e5 : ((a : Int) + 3 + 1).toNat = a + 3 + 1 := by omega
              have e6 : (0 : Int) ≤ (a : Int) := by omega
              have e7 : (0 : Int) ≤ (a : Int) + 3 + 1 := by omega
              go_region_with (first
                | (go_at_call 21; refine (iPutS none 0 _ [] _ Reads.none_ (fun _ h => by cases h) (by simp)).mono ?_; rintro e w2 ⟨⟨v1, _, rfl, rfl, hY, O⟩, b1⟩; obtain ⟨A1, c1, rfl⟩ := O.form)
                | (go_at_call 40; refine (bEqual A1 _ _ _ c1 _ ([] ++ sB (n + z % 128 * 2097152)) ((zs.drop a).take 4) true _ O.reads (HRc.out _ ((Below.refl _ _).drew.trans b1)) rfl HLc.out hY (fun z hz => hZ z (List.mem_of_mem_drop (List.mem_of_mem_take hz))) HB.out).mono ?_; rintro e w3 ⟨rfl, rfl⟩))
              all_goals clear e1 e2 e3 e4 e5 e6 e7
              all_goals go_wp2_with fail
              all_goals go_ret3
              all_goals exact ⟨by rw [← HG.out]; simp [resP, HM.out], (Below.refl _ _).drew.trans b1⟩
            · have HG := Lib.hid (((K1.out hc).trans (if_neg (by rw [List.length_append, hli] at hgood; exact hgood))).symm.trans HR.out)
              have HB : Hid (decide (sB (n + z % 128 * 2097152) = (zs.drop a).take 4) = false) := by
                unfold Hid
                rw [hcut]
                exact decide_eq_false (by rw [← hM]; exact fun e => hgood ((sB_eq_iff _ hch).1 e))
              have hsl : (sB (n + z % 128 * 2097152)).length ≤ 5 := sB_len _
              have HM := Lib.hid hM
              clear hM hcut hch hgood hli
              go_wp2_with fail
              have hRc : ∀ W : World, Below w1.heap.size w1 W → Reads W W.heap.size 1 (some ⟨b, off + a, none⟩) (a + 3 + 1 - a) (u8s ((zs.drop a).take 4)) := by
                intro W hW
                rw [show a + 3 + 1 - a = 4 by omega]
                have := rd_cut (lo := a) (m := 4) (c := c) (rd_below hR hW) rfl (by omega) (by omega)
                rw [if_neg hca] at this
                simpa [add_plain] using this
              have hlc : ((zs.drop a).take 4).length = a + 3 + 1 - a := by rw [List.length_take, List.length_drop]; omega
              have HRc := Lib.hid hRc
              have HLc := Lib.hid hlc
              clear hRc hlc
              have e1 : IntKind.i64.wrap ((a : Int) + 3) = (a : Int) + 3 := IntWalk.i64_in _ (by omega)
              have e2 : IntKind.i64.wrap ((a : Int) + 3 + 1) = (a : Int) + 3 + 1 := IntWalk.i64_in _ (by omega)
              have e3 : (a : Int) ≤ (a : Int) + 3 + 1 := by omega
              have e4 : (a : Int) + 3 + 1 ≤ (c : Int) := by omega
              have e5 : ((a : Int) + 3 + 1).toNat = a + 3 + 1 := by omega
              have e6 : (0 : Int) ≤ (a : Int) := by omega
              have e7 : (0 : Int) ≤ (a : Int) + 3 + 1 := by omega
              go_region_with (first
                | (go_at_call 21; refine (iPutS none 0 _ [] _ Reads.none_ (fun _ h => by cases h) (by simp)).mono ?_; rintro e w2 ⟨⟨v1, _, rfl, rfl, hY, O⟩, b1⟩; obtain ⟨A1, c1, rfl⟩ := O.form)
                | (go_at_call 40; refine (bEqual A1 _ _ _ c1 _ ([] ++ sB (n + z % 128 * 2097152)) ((zs.drop a).take 4) false _ O.reads (HRc.out _ ((Below.refl _ _).drew.trans b1)) rfl HLc.out hY (fun z hz => hZ z (List.mem_of_mem_drop (List.mem_of_mem_take hz))) HB.out).mono ?_; rintro e w3 ⟨rfl, rfl⟩))
              all_goals clear e1 e2 e3 e4 e5 e6 e7
              all_goals go_wp2_with fail
              all_goals go_ret3
              all_goals exact ⟨by rw [← HG.out]; rfl, (Below.refl _ _).drew.trans b1⟩
          · have hM : decS (l ++ [z]) = n + z % 128 * 2097152 - 268435456 := by rw [hP.dec, if_pos (by omega)]; simp <;> omega
            by_cases hgood : wrap32 (decS (l ++ [z])) = decS (l ++ [z]) ∧ (sB (decS (l ++ [z]))).length = (l ++ [z]).length
            · have HG := Lib.hid (((K1.out hc).trans (if_pos (by rw [List.length_append, hli] at hgood; exact hgood))).symm.trans HR.out)
              have HB : Hid (decide (sB (n + z % 128 * 2097152 - 268435456) = (zs.drop a).take 4) = true) := by
                unfold Hid
                rw [hcut]
                exact decide_eq_true (by rw [← hM]; exact (sB_eq_iff _ hch).2 hgood)
              have hsl : (sB (n + z % 128 * 2097152 - 268435456)).length ≤ 5 := sB_len _
              have HM := Lib.hid hM
              clear hM hcut hch hgood hli
              go_wp2_with fail
              have hRc : ∀ W : World, Below w1.heap.size w1 W → Reads W W.heap.size 1 (some ⟨b, off + a, none⟩) (a + 3 + 1 - a) (u8s ((zs.drop a).take 4)) := by
                intro W hW
                rw [show a + 3 + 1 - a = 4 by omega]
                have := rd_cut (lo := a) (m := 4) (c := c) (rd_below hR hW) rfl (by omega) (by omega)
                rw [if_neg hca] at this
                simpa [add_plain] using this
              have hlc : ((zs.drop a).take 4).length = a + 3 + 1 - a := by rw [List.length_take, List.length_drop]; omega
              have HRc := Lib.hid hRc
              have HLc := Lib.hid hlc
              clear hRc hlc
              have e1 : IntKind.i64.wrap ((a : Int) + 3) = (a : Int) + 3 := IntWalk.i64_in _ (by omega)
              have e2 : IntKind.i64.wrap ((a : Int) + 3 + 1) = (a : Int) + 3 + 1 := IntWalk.i64_in _ (by omega)
              have e3 : (a : Int) ≤ (a : Int) + 3 + 1 := by omega
              have e4 : (a : Int) + 3 + 1 ≤ (c : Int) := by omega
              have e5 : ((a : Int) + 3 + 1).toNat = a + 3 + 1 := by omega
              have e6 : (0 : Int) ≤ (a : Int) := by omega
              have e7 : (0 : Int) ≤ (a : Int) + 3 + 1 := by omega
              go_region_with (first
                | (go_at_call 21; refine (iPutS none 0 _ [] _ Reads.none_ (fun _ h => by cases h) (by simp)).mono ?_; rintro e w2 ⟨⟨v1, _, rfl, rfl, hY, O⟩, b1⟩; obtain ⟨A1, c1, rfl⟩ := O.form)
                | (go_at_call 40; refine (bEqual A1 _ _ _ c1 _ ([] ++ sB (n + z % 128 * 2097152 - 268435456)) ((zs.drop a).take 4) true _ O.reads (HRc.out _ ((Below.refl _ _).drew.trans b1)) rfl HLc.out hY (fun z hz => hZ z (List.mem_of_mem_drop (List.mem_of_mem_take hz))) HB.out).mono ?_; rintro e w3 ⟨rfl, rfl⟩))
              all_goals clear e1 e2 e3 e4 e5 e6 e7
              all_goals go_wp2_with fail
              all_goals go_ret3
              all_goals exact ⟨by rw [← HG.out]; simp [resP, HM.out], (Below.refl _ _).drew.trans b1⟩
            · have HG := Lib.hid (((K1.out hc).trans (if_neg (by rw [List.length_append, hli] at hgood; exact hgood))).symm.trans HR.out)
              have HB : Hid (decide (sB (n + z % 128 * 2097152 - 268435456) = (zs.drop a).take 4) = false) := by
                unfold Hid
                rw [hcut]
                exact decide_eq_false (by rw [← hM]; exact fun e => hgood ((sB_eq_iff _ hch).1 e))
              have hsl : (sB (n + z % 128 * 2097152 - 268435456)).length ≤ 5 := sB_len _
              have HM := Lib.hid hM
              clear hM hcut hch hgood hli
              go_wp2_with fail
              have hRc : ∀ W : World, Below w1.heap.size w1 W → Reads W W.heap.size 1 (some ⟨b, off + a, none⟩) (a + 3 + 1 - a) (u8s ((zs.drop a).take 4)) := by
                intro W hW
                rw [show a + 3 + 1 - a = 4 by omega]
                have := rd_cut (lo := a) (m := 4) (c := c) (rd_below hR hW) rfl (by omega) (by omega)
                rw [if_neg hca] at this
                simpa [add_plain] using this
              have hlc : ((zs.drop a).take 4).length = a + 3 + 1 - a := by rw [List.length_take, List.length_drop]; omega
              have HRc := Lib.hid hRc
              have HLc := Lib.hid hlc
              clear hRc hlc
              have e1 : IntKind.i64.wrap ((a : Int) + 3) = (a : Int) + 3 := IntWalk.i64_in _ (by omega)
              have e2 : IntKind.i64.wrap ((a : Int) + 3 + 1) = (a : Int) + 3 + 1 := IntWalk.i64_in _ (by omega)
              have e3 : (a : Int) ≤ (a : Int) + 3 + 1 := by omega
              have e4 : (a : Int) + 3 + 1 ≤ (c : Int) := by omega
              have e5 : ((a : Int) + 3 + 1).toNat = a + 3 + 1 := by omega
              have e6 : (0 : Int) ≤ (a : Int) := by omega
              have e7 : (0 : Int) ≤ (a : Int) + 3 + 1 := by omega
              go_region_with (first
                | (go_at_call 21; refine (iPutS none 0 _ [] _ Reads.none_ (fun _ h => by cases h) (by simp)).mono ?_; rintro e w2 ⟨⟨v1, _, rfl, rfl, hY, O⟩, b1⟩; obtain ⟨A1, c1, rfl⟩ := O.form)
                | (go_at_call 40; refine (bEqual A1 _ _ _ c1 _ ([] ++ sB (n + z % 128 * 2097152 - 268435456)) ((zs.drop a).take 4) false _ O.reads (HRc.out _ ((Below.refl _ _).drew.trans b1)) rfl HLc.out hY (fun z hz => hZ z (List.mem_of_mem_drop (List.mem_of_mem_take hz))) HB.out).mono ?_; rintro e w3 ⟨rfl, rfl⟩))
              all_goals clear e1 e2 e3 e4 e5 e6 e7
              all_goals go_wp2_with fail
              all_goals go_ret3
              all_goals exact ⟨by rw [← HG.out]; rfl, (Below.refl _ _).drew.trans b1⟩
        · have HG := Lib.hid ((K2.out (by omega)).symm.trans HR.out)
          have HK := Lib.hid (K3.out (by omega) (by omega))
          clear hcut hli
          go_wp2_with fail
          go_round
          case rel => exact ⟨4, n + z % 128 * 2097152, l ++ [z], by omega, by go_num, by go_num, by omega, by simp; omega, by have := HK.out; simpa using this, by have := HG.out; simpa using this⟩
          case measure => simp [intOf]
      · have HG := Lib.hid ((gS_end zs a l 2 (by rw [hli]; exact hlt)).symm.trans HR.out)
        have hlt' : (zs.length : Int) ≤ (a : Int) + 3 := by omega
        clear hli
        go_wp2_with fail
        go_ret3
        exact ⟨by rw [← HG.out]; rfl, Below.refl _ _⟩
    · -- the byte at 4
      have hn1 : n < 268435456 := by simpa using hn1
      have hli := hP.1
      by_cases hlt : a + 4 < zs.length
      · have hz := hZ zs[a + 4] (List.getElem_mem hlt)
        obtain ⟨b, off, rfl, hb, hcell⟩ := rd_at hR hlt
        have hcut := hP.cut hlt
        have k1 := fun h1 => gS_last zs a l 0 (by rw [hli]; exact hlt) h1
        have k2 := fun h1 => gS_on zs a l 0 (by rw [hli]; exact hlt) h1
        have k3 := fun h1 h2 => hP.on hlt h1 h2
        simp only [hli] at k1 k2
        obtain ⟨hz0, hz1⟩ := hz
        generalize zs[a + 4] = z at *
        have K1 := Lib.hid k1
        have K2 := Lib.hid k2
        have K3 := Lib.hid k3
        clear k1 k2 k3
        have hlt' : (a : Int) + 4 < zs.length := by omega
        by_cases hc : z < 128
        · have hch := chain_app l z hP.2.2.1 hz0 hc
          by_cases h64 : z < 64
          · have hM : decS (l ++ [z]) = n + z % 128 * 268435456 := by rw [hP.dec, if_neg (by omega)]; simp <;> omega
            by_cases hgood : wrap32 (decS (l ++ [z])) = decS (l ++ [z]) ∧ (sB (decS (l ++ [z]))).length = (l ++ [z]).length
            · have HG := Lib.hid (((K1.out hc).trans (if_pos (by rw [List.length_append, hli] at hgood; exact hgood))).symm.trans HR.out)
              have HB : Hid (decide (sB (n + z % 128 * 268435456) = (zs.drop a).take 5) = true) := by
                unfold Hid
                rw [hcut]
                exact decide_eq_true (by rw [← hM]; exact (sB_eq_iff _ hch).2 hgood)
              have hsl : (sB (n + z % 128 * 268435456)).length ≤ 5 := sB_len _
              have HM := Lib.hid hM
              clear hM hcut hch hgood hli
              go_wp2_with fail
              have hRc : ∀ W : World, Below w1.heap.size w1 W → Reads W W.heap.size 1 (some ⟨b, off + a, none⟩) (a + 4 + 1 - a) (u8s ((zs.drop a).take 5)) := by
                intro W hW
                rw [show a + 4 + 1 - a = 5 by omega]
                have := rd_cut (lo := a) (m := 5) (c := c) (rd_below hR hW) rfl (by omega) (by omega)
                rw [if_neg hca] at this
                simpa [add_plain] using this
              have hlc : ((zs.drop a).take 5).length = a + 4 + 1 - a := by rw [List.length_take, List.length_drop]; omega
              have HRc := Lib.hid hRc
              have HLc := Lib.hid hlc
              clear hRc hlc
              have e1 : IntKind.i64.wrap ((a : Int) + 4) = (a : Int) + 4 := IntWalk.i64_in _ (by omega)
              have e2 : IntKind.i64.wrap ((a : Int) + 4 + 1) = (a : Int) + 4 + 1 := IntWalk.i64_in _ (by omega)
              have e3 : (a : Int) ≤ (a : Int) + 4 + 1 := by omega
              have e4 : (a : Int) + 4 + 1 ≤ (c : Int) := by omega
              have e5 : ((a : Int) + 4 + 1).toNat = a + 4 + 1 := by omega
              have e6 : (0 : Int) ≤ (a : Int) := by omega
              have e7 : (0 : Int) ≤ (a : Int) + 4 + 1 := by omega
              go_region_with (first
                | (go_at_call 21; refine (iPutS none 0 _ [] _ Reads.none_ (fun _ h => by cases h) (by simp)).mono ?_; rintro e w2 ⟨⟨v1, _, rfl, rfl, hY, O⟩, b1⟩; obtain ⟨A1, c1, rfl⟩ := O.form)
                | (go_at_call 40; refine (bEqual A1 _ _ _ c1 _ ([] ++ sB (n + z % 128 * 268435456)) ((zs.drop a).take 5) true _ O.reads (HRc.out _ ((Below.refl _ _).drew.trans b1)) rfl HLc.out hY (fun z hz => hZ z (List.mem_of_mem_drop (List.mem_of_mem_take hz))) HB.out).mono ?_; rintro e w3 ⟨rfl, rfl⟩))
              all_goals clear e1 e2 e3 e4 e5 e6 e7
              all_goals go_wp2_with fail
              all_goals go_ret3
              all_goals exact ⟨by rw [← HG.out]; simp [resP, HM.out], (Below.refl _ _).drew.trans b1⟩
            · have HG := Lib.hid (((K1.out hc).trans (if_neg (by rw [List.length_append, hli] at hgood; exact hgood))).symm.trans HR.out)
              have HB : Hid (decide (sB (n + z % 128 * 268435456) = (zs.drop a).take 5) = false) := by
                unfold Hid
                rw [hcut]
                exact decide_eq_false (by rw [← hM]; exact fun e => hgood ((sB_eq_iff _ hch).1 e))
              have hsl : (sB (n + z % 128 * 268435456)).length ≤ 5 := sB_len _
              have HM := Lib.hid hM
              clear hM hcut hch hgood hli
              go_wp2_with fail
              have hRc : ∀ W : World, Below w1.heap.size w1 W → Reads W W.heap.size 1 (some ⟨b, off + a, none⟩) (a + 4 + 1 - a) (u8s ((zs.drop a).take 5)) := by
                intro W hW
                rw [show a + 4 + 1 - a = 5 by omega]
                have := rd_cut (lo := a) (m := 5) (c := c) (rd_below hR hW) rfl (by omega) (by omega)
                rw [if_neg hca] at this
                simpa [add_plain] using this
              have hlc : ((zs.drop a).take 5).length = a + 4 + 1 - a := by rw [List.length_take, List.length_drop]; omega
              have HRc := Lib.hid hRc
              have HLc := Lib.hid hlc
              clear hRc hlc
              have e1 : IntKind.i64.wrap ((a : Int) + 4) = (a : Int) + 4 := IntWalk.i64_in _ (by omega)
              have e2 : IntKind.i64.wrap ((a : Int) + 4 + 1) = (a : Int) + 4 + 1 := IntWalk.i64_in _ (by omega)
              have e3 : (a : Int) ≤ (a : Int) + 4 + 1 := by omega
              have e4 : (a : Int) + 4 + 1 ≤ (c : Int) := by omega
              have e5 : ((a : Int) + 4 + 1).toNat = a + 4 + 1 := by omega
              have e6 : (0 : Int) ≤ (a : Int) := by omega
              have e7 : (0 : Int) ≤ (a : Int) + 4 + 1 := by omega
              go_region_with (first
                | (go_at_call 21; refine (iPutS none 0 _ [] _ Reads.none_ (fun _ h => by cases h) (by simp)).mono ?_; rintro e w2 ⟨⟨v1, _, rfl, rfl, hY, O⟩, b1⟩; obtain ⟨A1, c1, rfl⟩ := O.form)
                | (go_at_call 40; refine (bEqual A1 _ _ _ c1 _ ([] ++ sB (n + z % 128 * 268435456)) ((zs.drop a).take 5) false _ O.reads (HRc.out _ ((Below.refl _ _).drew.trans b1)) rfl HLc.out hY (fun z hz => hZ z (List.mem_of_mem_drop (List.mem_of_mem_take hz))) HB.out).mono ?_; rintro e w3 ⟨rfl, rfl⟩))
              all_goals clear e1 e2 e3 e4 e5 e6 e7
              all_goals go_wp2_with fail
              all_goals go_ret3
              all_goals exact ⟨by rw [← HG.out]; rfl, (Below.refl _ _).drew.trans b1⟩
          · have hM : decS (l ++ [z]) = n + z % 128 * 268435456 - 34359738368 := by rw [hP.dec, if_pos (by omega)]; simp <;> omega
            by_cases hgood : wrap32 (decS (l ++ [z])) = decS (l ++ [z]) ∧ (sB (decS (l ++ [z]))).length = (l ++ [z]).length
            · have HG := Lib.hid (((K1.out hc).trans (if_pos (by rw [List.length_append, hli] at hgood; exact hgood))).symm.trans HR.out)
              have HB : Hid (decide (sB (n + z % 128 * 268435456 - 34359738368) = (zs.drop a).take 5) = true) := by
                unfold Hid
                rw [hcut]
                exact decide_eq_true (by rw [← hM]; exact (sB_eq_iff _ hch).2 hgood)
              have hsl : (sB (n + z % 128 * 268435456 - 34359738368)).length ≤ 5 := sB_len _
              have HM := Lib.hid hM
              clear hM hcut hch hgood hli
              go_wp2_with fail
              have hRc : ∀ W : World, Below w1.heap.size w1 W → Reads W W.heap.size 1 (some ⟨b, off + a, none⟩) (a + 4 + 1 - a) (u8s ((zs.drop a).take 5)) := by
                intro W hW
                rw [show a + 4 + 1 - a = 5 by omega]
                have := rd_cut (lo := a) (m := 5) (c := c) (rd_below hR hW) rfl (by omega) (by omega)
                rw [if_neg hca] at this
                simpa [add_plain] using this
              have hlc : ((zs.drop a).take 5).length = a + 4 + 1 - a := by rw [List.length_take, List.length_drop]; omega
              have HRc := Lib.hid hRc
              have HLc := Lib.hid hlc
              clear hRc hlc
              have e1 : IntKind.i64.wrap ((a : Int) + 4) = (a : Int) + 4 := IntWalk.i64_in _ (by omega)
              have e2 : IntKind.i64.wrap ((a : Int) + 4 + 1) = (a : Int) + 4 + 1 := IntWalk.i64_in _ (by omega)
              have e3 : (a : Int) ≤ (a : Int) + 4 + 1 := by omega
              have e4 : (a : Int) + 4 + 1 ≤ (c : Int) := by omega
              have e5 : ((a : Int) + 4 + 1).toNat = a + 4 + 1 := by omega
              have e6 : (0 : Int) ≤ (a : Int) := by omega
              have e7 : (0 : Int) ≤ (a : Int) + 4 + 1 := by omega
              go_region_with (first
                | (go_at_call 21; refine (iPutS none 0 _ [] _ Reads.none_ (fun _ h => by cases h) (by simp)).mono ?_; rintro e w2 ⟨⟨v1, _, rfl, rfl, hY, O⟩, b1⟩; obtain ⟨A1, c1, rfl⟩ := O.form)
                | (go_at_call 40; refine (bEqual A1 _ _ _ c1 _ ([] ++ sB (n + z % 128 * 268435456 - 34359738368)) ((zs.drop a).take 5) true _ O.reads (HRc.out _ ((Below.refl _ _).drew.trans b1)) rfl HLc.out hY (fun z hz => hZ z (List.mem_of_mem_drop (List.mem_of_mem_take hz))) HB.out).mono ?_; rintro e w3 ⟨rfl, rfl⟩))
              all_goals clear e1 e2 e3 e4 e5 e6 e7
              all_goals go_wp2_with fail
              all_goals go_ret3
              all_goals exact ⟨by rw [← HG.out]; simp [resP, HM.out], (Below.refl _ _).drew.trans b1⟩
            · have HG := Lib.hid (((K1.out hc).trans (if_neg (by rw [List.length_append, hli] at hgood; exact hgood))).symm.trans HR.out)
              have HB : Hid (decide (sB (n + z % 128 * 268435456 - 34359738368) = (zs.drop a).take 5) = false) := by
                unfold Hid
                rw [hcut]
                exact decide_eq_false (by rw [← hM]; exact fun e => hgood ((sB_eq_iff _ hch).1 e))
              have hsl : (sB (n + z % 128 * 268435456 - 34359738368)).length ≤ 5 := sB_len _
              have HM := Lib.hid hM
              clear hM hcut hch hgood hli
              go_wp2_with fail
              have hRc : ∀ W : World, Below w1.heap.size w1 W → Reads W W.heap.size 1 (some ⟨b, off + a, none⟩) (a + 4 + 1 - a) (u8s ((zs.drop a).take 5)) := by
                intro W hW
                rw [show a + 4 + 1 - a = 5 by omega]
                have := rd_cut (lo := a) (m := 5) (c := c) (rd_below hR hW) rfl (by omega) (by omega)
                rw [if_neg hca] at this
                simpa [add_plain] using this
              have hlc : ((zs.drop a).take 5).length = a + 4 + 1 - a := by rw [List.length_take, List.length_drop]; omega
              have HRc := Lib.hid hRc
              have HLc := Lib.hid hlc
              clear hRc hlc
              have e1 : IntKind.i64.wrap ((a : Int) + 4) = (a : Int) + 4 := IntWalk.i64_in _ (by omega)
              have e2 : IntKind.i64.wrap ((a : Int) + 4 + 1) = (a : Int) + 4 + 1 := IntWalk.i64_in _ (by omega)
              have e3 : (a : Int) ≤ (a : Int) + 4 + 1 := by omega
              have e4 : (a : Int) + 4 + 1 ≤ (c : Int) := by omega
              have e5 : ((a : Int) + 4 + 1).toNat = a + 4 + 1 := by omega
              have e6 : (0 : Int) ≤ (a : Int) := by omega
              have e7 : (0 : Int) ≤ (a : Int) + 4 + 1 := by omega
              go_region_with (first
                | (go_at_call 21; refine (iPutS none 0 _ [] _ Reads.none_ (fun _ h => by cases h) (by simp)).mono ?_; rintro e w2 ⟨⟨v1, _, rfl, rfl, hY, O⟩, b1⟩; obtain ⟨A1, c1, rfl⟩ := O.form)
                | (go_at_call 40; refine (bEqual A1 _ _ _ c1 _ ([] ++ sB (n + z % 128 * 268435456 - 34359738368)) ((zs.drop a).take 5) false _ O.reads (HRc.out _ ((Below.refl _ _).drew.trans b1)) rfl HLc.out hY (fun z hz => hZ z (List.mem_of_mem_drop (List.mem_of_mem_take hz))) HB.out).mono ?_; rintro e w3 ⟨rfl, rfl⟩))
              all_goals clear e1 e2 e3 e4 e5 e6 e7
              all_goals go_wp2_with fail
              all_goals go_ret3
              all_goals exact ⟨by rw [← HG.out]; rfl, (Below.refl _ _).drew.trans b1⟩
        · have HG := Lib.hid ((K2.out (by omega)).symm.trans HR.out)
          have HK := Lib.hid (K3.out (by omega) (by omega))
          clear hcut hli
          go_wp2_with fail
          go_round
          case rel => exact ⟨5, n + z % 128 * 268435456, l ++ [z], by omega, by go_num, by go_num, by omega, by simp; omega, by have := HK.out; simpa using this, by have := HG.out; simpa using this⟩
          case measure => simp [intOf]
      · have HG := Lib.hid ((gS_end zs a l 1 (by rw [hli]; exact hlt)).symm.trans HR.out)
        have hlt' : (zs.length : Int) ≤ (a : Int) + 4 := by omega
        clear hli
        go_wp2_with fail
        go_ret3
        exact ⟨by rw [← HG.out]; rfl, Below.refl _ _⟩
    · -- five bytes, and no last one
      go_wp2_with fail
      go_ret3
      exact ⟨by rw [← HR.out]; rfl, Below.refl _ _⟩

end Go.Proofs.YtalnkdbmbjplpaaDoor
