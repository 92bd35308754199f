/- Walks over GetS of the reference. Lengths are at most 2 to the 29th. -/
import Derived.Test.YtalnkdbmbjplpaaDoorSgn
import Derived.Test.YtalnkdbmbjplpaaDoorGetUAll
namespace Go.Proofs.YtalnkdbmbjplpaaDoor
open Go.RowKit

theorem sBs_len (n : Int) : (sB n).length ≤ 5 := by
  have : ∀ (f : Nat) (n : Int), (sBf f n).length ≤ f + 1 := by
    intro f
    induction f with
    | zero => intro n; simp [sBf]
    | succ f ih =>
      intro n
      rw [sBf]
      split
      · simp
      · have := ih (n / 128)
        simp; omega
  exact this 4 _

set_option maxHeartbeats 8000000 in
theorem sGetS_in (A : Option Addr) (c a : Nat) (zs : List Int) (R : Option (Int × Int)) (w : World) (hR : Reads w w.heap.size 1 A zs.length (u8s zs)) (hZ : Byt zs) (hn : zs.length ≤ 536870912) (ha : a < zs.length) (hX : gS zs a 5 [] = R) :
    Calls Tryd.prog 33 #[.slice A zs.length c, .int .i64 a] w fun e w' => e = .returned (resP R) ∧ Below w.heap.size w w' := by
  have hn' : (zs.length : Int) ≤ 536870912 := by omega
  have ha' : (a : Int) < zs.length := by omega
  have HX := Lib.hid hX
  clear hX
  go_enter Tryd.func33, Tryd.ntmps33
  go_wp2_with fail
  go_loop [7, 8] (fun nv iv => ∃ (i : Nat) (n : Int) (l : List Int), i ≤ 5 ∧ iv = .int .i64 i ∧ nv = .int .i64 n ∧ 0 ≤ n ∧ n < 128 ^ i ∧ SPre zs a i n l ∧ gS zs a (5 - i) l = R) (fun _ iv => 5 - (intOf iv).toNat)
  case atStart => exact ⟨0, 0, [], by omega, rfl, rfl, by omega, by simp, SPre.start _ _, HX.out⟩
  case round =>
    obtain ⟨i, n, l, hi5, rfl, rfl, hn0, hn1, hP, hT⟩ := hrel
    have HR := Lib.hid hT
    clear hT
    have hi : i = 0 ∨ i = 1 ∨ i = 2 ∨ i = 3 ∨ i = 4 ∨ i = 5 := by omega
    rcases hi with rfl | rfl | rfl | rfl | rfl | rfl
    · -- the byte at 0
      have hn1 : n < 1 := by simpa using hn1
      have hli := hP.1
      by_cases hlt : a + 0 < zs.length
      · have hz := hZ zs[a + 0] (List.getElem_mem hlt)
        obtain ⟨b, off, rfl, hb, hcell⟩ := rd_at hR hlt
        simp only [Nat.add_zero] at hcell
        have hcut := hP.cut hlt
        have k1 := fun h1 => gS_last zs a l 4 (by rw [hli]; exact hlt) h1
        have k2 := fun h1 => gS_on zs a l 4 (by rw [hli]; exact hlt) h1
        have k3 := fun h1 h2 => hP.on hlt h1 h2
        simp only [hli] at k1 k2
        obtain ⟨hz0, hz1⟩ := hz
        generalize zs[a + 0] = z at *
        have K1 := Lib.hid k1
        have K2 := Lib.hid k2
        have K3 := Lib.hid k3
        clear k1 k2 k3
        have hlt' : (a : Int) + 0 < zs.length := by omega
        have hand := i64_and127 z
        have hor : bits .or .i64 n (z % 128) = n + z % 128 := by
          have := or_shift 0 n (z % 128) hn0 (by simp at hn1 ⊢; omega) (by omega) (by simp at hn1 ⊢; omega)
          simpa using this
        by_cases hc : z < 128
        · have hch := chain_app l z hP.2.2.1 hz0 hc
          by_cases h64 : z < 64
          · have hM : decS (l ++ [z]) = n + z % 128 := by rw [hP.dec, if_neg (by omega)]; simp <;> omega
            by_cases hw : wrap32 (n + z % 128) = n + z % 128
            · by_cases hl : (sB (n + z % 128)).length = 1
              · have HG := Lib.hid (((K1.out hc).trans (if_pos (by rw [hM]; exact ⟨hw, hl⟩))).symm.trans HR.out)
                have HM := Lib.hid hM
                have hb1 : (wrap32 (n + z % 128) != n + z % 128) = false := by simpa using hw
                have hb2 : (((sB (n + z % 128)).length : Int) != 1) = false := by simp; omega
                have hsl : (sB (n + z % 128)).length ≤ 5 := sBs_len _
                clear hM hcut hch hli hw hl
                go_wp2_with fail
                refine (sWrap _ _).mono ?_; rintro e w2 ⟨rfl, rfl⟩
                go_wp2_with fail
                refine (sPutS (some ⟨w2.heap.size, 0, none⟩) 0 _ [] _ ⟨rfl, fun h => absurd h (by simp)⟩ (fun _ h => by cases h) (by simp)).mono ?_; rintro e w3 ⟨⟨v1, _, rfl, rfl, hY, O⟩, b1⟩
                obtain ⟨A1, c1, rfl⟩ := O.form
                go_wp2_with fail
                all_goals go_ret3
                all_goals exact ⟨by rw [← HG.out]; simp [resP, HM.out], bl_trans (bl_alloc (Below.refl _ _) _) b1⟩
              · have HG := Lib.hid (((K1.out hc).trans (if_neg (by rw [hM]; exact fun e => hl e.2))).symm.trans HR.out)
                have HM := Lib.hid hM
                have hb1 : (wrap32 (n + z % 128) != n + z % 128) = false := by simpa using hw
                have hb2 : (((sB (n + z % 128)).length : Int) != 1) = true := by simp; omega
                have hsl : (sB (n + z % 128)).length ≤ 5 := sBs_len _
                clear hM hcut hch hli hw hl
                go_wp2_with fail
                refine (sWrap _ _).mono ?_; rintro e w2 ⟨rfl, rfl⟩
                go_wp2_with fail
                refine (sPutS (some ⟨w2.heap.size, 0, none⟩) 0 _ [] _ ⟨rfl, fun h => absurd h (by simp)⟩ (fun _ h => by cases h) (by simp)).mono ?_; rintro e w3 ⟨⟨v1, _, rfl, rfl, hY, O⟩, b1⟩
                obtain ⟨A1, c1, rfl⟩ := O.form
                go_wp2_with fail
                all_goals go_ret3
                all_goals exact ⟨by rw [← HG.out]; rfl, bl_trans (bl_alloc (Below.refl _ _) _) b1⟩
            · have HG := Lib.hid (((K1.out hc).trans (if_neg (by rw [hM]; exact fun e => hw e.1))).symm.trans HR.out)
              have HM := Lib.hid hM
              have hb1 : (wrap32 (n + z % 128) != n + z % 128) = true := by simpa using hw
              clear hM hcut hch hli hw
              go_wp2_with fail
              refine (sWrap _ _).mono ?_; rintro e w2 ⟨rfl, rfl⟩
              go_wp2_with fail
              all_goals go_ret3
              all_goals exact ⟨by rw [← HG.out]; rfl, Below.refl _ _⟩
          · have hM : decS (l ++ [z]) = n + z % 128 - 128 := by rw [hP.dec, if_pos (by omega)]; simp <;> omega
            by_cases hw : wrap32 (n + z % 128 - 128) = n + z % 128 - 128
            · by_cases hl : (sB (n + z % 128 - 128)).length = 1
              · have HG := Lib.hid (((K1.out hc).trans (if_pos (by rw [hM]; exact ⟨hw, hl⟩))).symm.trans HR.out)
                have HM := Lib.hid hM
                have hb1 : (wrap32 (n + z % 128 - 128) != n + z % 128 - 128) = false := by simpa using hw
                have hb2 : (((sB (n + z % 128 - 128)).length : Int) != 1) = false := by simp; omega
                have hsl : (sB (n + z % 128 - 128)).length ≤ 5 := sBs_len _
                clear hM hcut hch hli hw hl
                go_wp2_with fail
                refine (sWrap _ _).mono ?_; rintro e w2 ⟨rfl, rfl⟩
                go_wp2_with fail
                refine (sPutS (some ⟨w2.heap.size, 0, none⟩) 0 _ [] _ ⟨rfl, fun h => absurd h (by simp)⟩ (fun _ h => by cases h) (by simp)).mono ?_; rintro e w3 ⟨⟨v1, _, rfl, rfl, hY, O⟩, b1⟩
                obtain ⟨A1, c1, rfl⟩ := O.form
                go_wp2_with fail
                all_goals go_ret3
                all_goals exact ⟨by rw [← HG.out]; simp [resP, HM.out], bl_trans (bl_alloc (Below.refl _ _) _) b1⟩
              · have HG := Lib.hid (((K1.out hc).trans (if_neg (by rw [hM]; exact fun e => hl e.2))).symm.trans HR.out)
                have HM := Lib.hid hM
                have hb1 : (wrap32 (n + z % 128 - 128) != n + z % 128 - 128) = false := by simpa using hw
                have hb2 : (((sB (n + z % 128 - 128)).length : Int) != 1) = true := by simp; omega
                have hsl : (sB (n + z % 128 - 128)).length ≤ 5 := sBs_len _
                clear hM hcut hch hli hw hl
                go_wp2_with fail
                refine (sWrap _ _).mono ?_; rintro e w2 ⟨rfl, rfl⟩
                go_wp2_with fail
                refine (sPutS (some ⟨w2.heap.size, 0, none⟩) 0 _ [] _ ⟨rfl, fun h => absurd h (by simp)⟩ (fun _ h => by cases h) (by simp)).mono ?_; rintro e w3 ⟨⟨v1, _, rfl, rfl, hY, O⟩, b1⟩
                obtain ⟨A1, c1, rfl⟩ := O.form
                go_wp2_with fail
                all_goals go_ret3
                all_goals exact ⟨by rw [← HG.out]; rfl, bl_trans (bl_alloc (Below.refl _ _) _) b1⟩
            · have HG := Lib.hid (((K1.out hc).trans (if_neg (by rw [hM]; exact fun e => hw e.1))).symm.trans HR.out)
              have HM := Lib.hid hM
              have hb1 : (wrap32 (n + z % 128 - 128) != n + z % 128 - 128) = true := by simpa using hw
              clear hM hcut hch hli hw
              go_wp2_with fail
              refine (sWrap _ _).mono ?_; rintro e w2 ⟨rfl, rfl⟩
              go_wp2_with fail
              all_goals go_ret3
              all_goals exact ⟨by rw [← HG.out]; rfl, Below.refl _ _⟩
        · have HG := Lib.hid ((K2.out (by omega)).symm.trans HR.out)
          have HK := Lib.hid (K3.out (by omega) (by omega))
          clear hcut hli
          go_wp2_with fail
          go_round
          case rel => exact ⟨1, n + z % 128, l ++ [z], by omega, by go_num, by go_num, by omega, by simp; omega, by have := HK.out; simpa using this, by have := HG.out; simpa using this⟩
          case measure => simp [intOf]
      · exfalso; omega
    · -- the byte at 1
      have hn1 : n < 128 := by simpa using hn1
      have hli := hP.1
      by_cases hlt : a + 1 < zs.length
      · have hz := hZ zs[a + 1] (List.getElem_mem hlt)
        obtain ⟨b, off, rfl, hb, hcell⟩ := rd_at hR hlt
        have hcut := hP.cut hlt
        have k1 := fun h1 => gS_last zs a l 3 (by rw [hli]; exact hlt) h1
        have k2 := fun h1 => gS_on zs a l 3 (by rw [hli]; exact hlt) h1
        have k3 := fun h1 h2 => hP.on hlt h1 h2
        simp only [hli] at k1 k2
        obtain ⟨hz0, hz1⟩ := hz
        generalize zs[a + 1] = z at *
        have K1 := Lib.hid k1
        have K2 := Lib.hid k2
        have K3 := Lib.hid k3
        clear k1 k2 k3
        have hlt' : (a : Int) + 1 < zs.length := by omega
        have hand := i64_and127 z
        have hor : bits .or .i64 n (z % 128 * 128) = n + z % 128 * 128 := by
          have := or_shift 7 n (z % 128) hn0 (by simp at hn1 ⊢; omega) (by omega) (by simp at hn1 ⊢; omega)
          simpa using this
        by_cases hc : z < 128
        · have hch := chain_app l z hP.2.2.1 hz0 hc
          by_cases h64 : z < 64
          · have hM : decS (l ++ [z]) = n + z % 128 * 128 := by rw [hP.dec, if_neg (by omega)]; simp <;> omega
            by_cases hw : wrap32 (n + z % 128 * 128) = n + z % 128 * 128
            · by_cases hl : (sB (n + z % 128 * 128)).length = 2
              · have HG := Lib.hid (((K1.out hc).trans (if_pos (by rw [hM]; exact ⟨hw, hl⟩))).symm.trans HR.out)
                have HM := Lib.hid hM
                have hb1 : (wrap32 (n + z % 128 * 128) != n + z % 128 * 128) = false := by simpa using hw
                have hb2 : (((sB (n + z % 128 * 128)).length : Int) != 2) = false := by simp; omega
                have hsl : (sB (n + z % 128 * 128)).length ≤ 5 := sBs_len _
                clear hM hcut hch hli hw hl
                go_wp2_with fail
                refine (sWrap _ _).mono ?_; rintro e w2 ⟨rfl, rfl⟩
                go_wp2_with fail
                refine (sPutS (some ⟨w2.heap.size, 0, none⟩) 0 _ [] _ ⟨rfl, fun h => absurd h (by simp)⟩ (fun _ h => by cases h) (by simp)).mono ?_; rintro e w3 ⟨⟨v1, _, rfl, rfl, hY, O⟩, b1⟩
                obtain ⟨A1, c1, rfl⟩ := O.form
                go_wp2_with fail
                all_goals go_ret3
                all_goals exact ⟨by rw [← HG.out]; simp [resP, HM.out], bl_trans (bl_alloc (Below.refl _ _) _) b1⟩
              · have HG := Lib.hid (((K1.out hc).trans (if_neg (by rw [hM]; exact fun e => hl e.2))).symm.trans HR.out)
                have HM := Lib.hid hM
                have hb1 : (wrap32 (n + z % 128 * 128) != n + z % 128 * 128) = false := by simpa using hw
                have hb2 : (((sB (n + z % 128 * 128)).length : Int) != 2) = true := by simp; omega
                have hsl : (sB (n + z % 128 * 128)).length ≤ 5 := sBs_len _
                clear hM hcut hch hli hw hl
                go_wp2_with fail
                refine (sWrap _ _).mono ?_; rintro e w2 ⟨rfl, rfl⟩
                go_wp2_with fail
                refine (sPutS (some ⟨w2.heap.size, 0, none⟩) 0 _ [] _ ⟨rfl, fun h => absurd h (by simp)⟩ (fun _ h => by cases h) (by simp)).mono ?_; rintro e w3 ⟨⟨v1, _, rfl, rfl, hY, O⟩, b1⟩
                obtain ⟨A1, c1, rfl⟩ := O.form
                go_wp2_with fail
                all_goals go_ret3
                all_goals exact ⟨by rw [← HG.out]; rfl, bl_trans (bl_alloc (Below.refl _ _) _) b1⟩
            · have HG := Lib.hid (((K1.out hc).trans (if_neg (by rw [hM]; exact fun e => hw e.1))).symm.trans HR.out)
              have HM := Lib.hid hM
              have hb1 : (wrap32 (n + z % 128 * 128) != n + z % 128 * 128) = true := by simpa using hw
              clear hM hcut hch hli hw
              go_wp2_with fail
              refine (sWrap _ _).mono ?_; rintro e w2 ⟨rfl, rfl⟩
              go_wp2_with fail
              all_goals go_ret3
              all_goals exact ⟨by rw [← HG.out]; rfl, Below.refl _ _⟩
          · have hM : decS (l ++ [z]) = n + z % 128 * 128 - 16384 := by rw [hP.dec, if_pos (by omega)]; simp <;> omega
            by_cases hw : wrap32 (n + z % 128 * 128 - 16384) = n + z % 128 * 128 - 16384
            · by_cases hl : (sB (n + z % 128 * 128 - 16384)).length = 2
              · have HG := Lib.hid (((K1.out hc).trans (if_pos (by rw [hM]; exact ⟨hw, hl⟩))).symm.trans HR.out)
                have HM := Lib.hid hM
                have hb1 : (wrap32 (n + z % 128 * 128 - 16384) != n + z % 128 * 128 - 16384) = false := by simpa using hw
                have hb2 : (((sB (n + z % 128 * 128 - 16384)).length : Int) != 2) = false := by simp; omega
                have hsl : (sB (n + z % 128 * 128 - 16384)).length ≤ 5 := sBs_len _
                clear hM hcut hch hli hw hl
                go_wp2_with fail
                refine (sWrap _ _).mono ?_; rintro e w2 ⟨rfl, rfl⟩
                go_wp2_with fail
                refine (sPutS (some ⟨w2.heap.size, 0, none⟩) 0 _ [] _ ⟨rfl, fun h => absurd h (by simp)⟩ (fun _ h => by cases h) (by simp)).mono ?_; rintro e w3 ⟨⟨v1, _, rfl, rfl, hY, O⟩, b1⟩
                obtain ⟨A1, c1, rfl⟩ := O.form
                go_wp2_with fail
                all_goals go_ret3
                all_goals exact ⟨by rw [← HG.out]; simp [resP, HM.out], bl_trans (bl_alloc (Below.refl _ _) _) b1⟩
              · have HG := Lib.hid (((K1.out hc).trans (if_neg (by rw [hM]; exact fun e => hl e.2))).symm.trans HR.out)
                have HM := Lib.hid hM
                have hb1 : (wrap32 (n + z % 128 * 128 - 16384) != n + z % 128 * 128 - 16384) = false := by simpa using hw
                have hb2 : (((sB (n + z % 128 * 128 - 16384)).length : Int) != 2) = true := by simp; omega
                have hsl : (sB (n + z % 128 * 128 - 16384)).length ≤ 5 := sBs_len _
                clear hM hcut hch hli hw hl
                go_wp2_with fail
                refine (sWrap _ _).mono ?_; rintro e w2 ⟨rfl, rfl⟩
                go_wp2_with fail
                refine (sPutS (some ⟨w2.heap.size, 0, none⟩) 0 _ [] _ ⟨rfl, fun h => absurd h (by simp)⟩ (fun _ h => by cases h) (by simp)).mono ?_; rintro e w3 ⟨⟨v1, _, rfl, rfl, hY, O⟩, b1⟩
                obtain ⟨A1, c1, rfl⟩ := O.form
                go_wp2_with fail
                all_goals go_ret3
                all_goals exact ⟨by rw [← HG.out]; rfl, bl_trans (bl_alloc (Below.refl _ _) _) b1⟩
            · have HG := Lib.hid (((K1.out hc).trans (if_neg (by rw [hM]; exact fun e => hw e.1))).symm.trans HR.out)
              have HM := Lib.hid hM
              have hb1 : (wrap32 (n + z % 128 * 128 - 16384) != n + z % 128 * 128 - 16384) = true := by simpa using hw
              clear hM hcut hch hli hw
              go_wp2_with fail
              refine (sWrap _ _).mono ?_; rintro e w2 ⟨rfl, rfl⟩
              go_wp2_with fail
              all_goals go_ret3
              all_goals exact ⟨by rw [← HG.out]; rfl, Below.refl _ _⟩
        · have HG := Lib.hid ((K2.out (by omega)).symm.trans HR.out)
          have HK := Lib.hid (K3.out (by omega) (by omega))
          clear hcut hli
          go_wp2_with fail
          go_round
          case rel => exact ⟨2, n + z % 128 * 128, l ++ [z], by omega, by go_num, by go_num, by omega, by simp; omega, by have := HK.out; simpa using this, by have := HG.out; simpa using this⟩
          case measure => simp [intOf]
      · have HG := Lib.hid ((gS_end zs a l 4 (by rw [hli]; exact hlt)).symm.trans HR.out)
        have hlt' : (zs.length : Int) ≤ (a : Int) + 1 := by omega
        clear hli
        go_wp2_with fail
        go_ret3
        exact ⟨by rw [← HG.out]; rfl, Below.refl _ _⟩
    · -- the byte at 2
      have hn1 : n < 16384 := by simpa using hn1
      have hli := hP.1
      by_cases hlt : a + 2 < zs.length
      · have hz := hZ zs[a + 2] (List.getElem_mem hlt)
        obtain ⟨b, off, rfl, hb, hcell⟩ := rd_at hR hlt
        have hcut := hP.cut hlt
        have k1 := fun h1 => gS_last zs a l 2 (by rw [hli]; exact hlt) h1
        have k2 := fun h1 => gS_on zs a l 2 (by rw [hli]; exact hlt) h1
        have k3 := fun h1 h2 => hP.on hlt h1 h2
        simp only [hli] at k1 k2
        obtain ⟨hz0, hz1⟩ := hz
        generalize zs[a + 2] = z at *
        have K1 := Lib.hid k1
        have K2 := Lib.hid k2
        have K3 := Lib.hid k3
        clear k1 k2 k3
        have hlt' : (a : Int) + 2 < zs.length := by omega
        have hand := i64_and127 z
        have hor : bits .or .i64 n (z % 128 * 16384) = n + z % 128 * 16384 := by
          have := or_shift 14 n (z % 128) hn0 (by simp at hn1 ⊢; omega) (by omega) (by simp at hn1 ⊢; omega)
          simpa using this
        by_cases hc : z < 128
        · have hch := chain_app l z hP.2.2.1 hz0 hc
          by_cases h64 : z < 64
          · have hM : decS (l ++ [z]) = n + z % 128 * 16384 := by rw [hP.dec, if_neg (by omega)]; simp <;> omega
            by_cases hw : wrap32 (n + z % 128 * 16384) = n + z % 128 * 16384
            · by_cases hl : (sB (n + z % 128 * 16384)).length = 3
              · have HG := Lib.hid (((K1.out hc).trans (if_pos (by rw [hM]; exact ⟨hw, hl⟩))).symm.trans HR.out)
                have HM := Lib.hid hM
                have hb1 : (wrap32 (n + z % 128 * 16384) != n + z % 128 * 16384) = false := by simpa using hw
                have hb2 : (((sB (n + z % 128 * 16384)).length : Int) != 3) = false := by simp; omega
                have hsl : (sB (n + z % 128 * 16384)).length ≤ 5 := sBs_len _
                clear hM hcut hch hli hw hl
                go_wp2_with fail
                refine (sWrap _ _).mono ?_; rintro e w2 ⟨rfl, rfl⟩
                go_wp2_with fail
                refine (sPutS (some ⟨w2.heap.size, 0, none⟩) 0 _ [] _ ⟨rfl, fun h => absurd h (by simp)⟩ (fun _ h => by cases h) (by simp)).mono ?_; rintro e w3 ⟨⟨v1, _, rfl, rfl, hY, O⟩, b1⟩
                obtain ⟨A1, c1, rfl⟩ := O.form
                go_wp2_with fail
                all_goals go_ret3
                all_goals exact ⟨by rw [← HG.out]; simp [resP, HM.out], bl_trans (bl_alloc (Below.refl _ _) _) b1⟩
              · have HG := Lib.hid (((K1.out hc).trans (if_neg (by rw [hM]; exact fun e => hl e.2))).symm.trans HR.out)
                have HM := Lib.hid hM
                have hb1 : (wrap32 (n + z % 128 * 16384) != n + z % 128 * 16384) = false := by simpa using hw
                have hb2 : (((sB (n + z % 128 * 16384)).length : Int) != 3) = true := by simp; omega
                have hsl : (sB (n + z % 128 * 16384)).length ≤ 5 := sBs_len _
                clear hM hcut hch hli hw hl
                go_wp2_with fail
                refine (sWrap _ _).mono ?_; rintro e w2 ⟨rfl, rfl⟩
                go_wp2_with fail
                refine (sPutS (some ⟨w2.heap.size, 0, none⟩) 0 _ [] _ ⟨rfl, fun h => absurd h (by simp)⟩ (fun _ h => by cases h) (by simp)).mono ?_; rintro e w3 ⟨⟨v1, _, rfl, rfl, hY, O⟩, b1⟩
                obtain ⟨A1, c1, rfl⟩ := O.form
                go_wp2_with fail
                all_goals go_ret3
                all_goals exact ⟨by rw [← HG.out]; rfl, bl_trans (bl_alloc (Below.refl _ _) _) b1⟩
            · have HG := Lib.hid (((K1.out hc).trans (if_neg (by rw [hM]; exact fun e => hw e.1))).symm.trans HR.out)
              have HM := Lib.hid hM
              have hb1 : (wrap32 (n + z % 128 * 16384) != n + z % 128 * 16384) = true := by simpa using hw
              clear hM hcut hch hli hw
              go_wp2_with fail
              refine (sWrap _ _).mono ?_; rintro e w2 ⟨rfl, rfl⟩
              go_wp2_with fail
              all_goals go_ret3
              all_goals exact ⟨by rw [← HG.out]; rfl, Below.refl _ _⟩
          · have hM : decS (l ++ [z]) = n + z % 128 * 16384 - 2097152 := by rw [hP.dec, if_pos (by omega)]; simp <;> omega
            by_cases hw : wrap32 (n + z % 128 * 16384 - 2097152) = n + z % 128 * 16384 - 2097152
            · by_cases hl : (sB (n + z % 128 * 16384 - 2097152)).length = 3
              · have HG := Lib.hid (((K1.out hc).trans (if_pos (by rw [hM]; exact ⟨hw, hl⟩))).symm.trans HR.out)
                have HM := Lib.hid hM
                have hb1 : (wrap32 (n + z % 128 * 16384 - 2097152) != n + z % 128 * 16384 - 2097152) = false := by simpa using hw
                have hb2 : (((sB (n + z % 128 * 16384 - 2097152)).length : Int) != 3) = false := by simp; omega
                have hsl : (sB (n + z % 128 * 16384 - 2097152)).length ≤ 5 := sBs_len _
                clear hM hcut hch hli hw hl
                go_wp2_with fail
                refine (sWrap _ _).mono ?_; rintro e w2 ⟨rfl, rfl⟩
                go_wp2_with fail
                refine (sPutS (some ⟨w2.heap.size, 0, none⟩) 0 _ [] _ ⟨rfl, fun h => absurd h (by simp)⟩ (fun _ h => by cases h) (by simp)).mono ?_; rintro e w3 ⟨⟨v1, _, rfl, rfl, hY, O⟩, b1⟩
                obtain ⟨A1, c1, rfl⟩ := O.form
                go_wp2_with fail
                all_goals go_ret3
                all_goals exact ⟨by rw [← HG.out]; simp [resP, HM.out], bl_trans (bl_alloc (Below.refl _ _) _) b1⟩
              · have HG := Lib.hid (((K1.out hc).trans (if_neg (by rw [hM]; exact fun e => hl e.2))).symm.trans HR.out)
                have HM := Lib.hid hM
                have hb1 : (wrap32 (n + z % 128 * 16384 - 2097152) != n + z % 128 * 16384 - 2097152) = false := by simpa using hw
                have hb2 : (((sB (n + z % 128 * 16384 - 2097152)).length : Int) != 3) = true := by simp; omega
                have hsl : (sB (n + z % 128 * 16384 - 2097152)).length ≤ 5 := sBs_len _
                clear hM hcut hch hli hw hl
                go_wp2_with fail
                refine (sWrap _ _).mono ?_; rintro e w2 ⟨rfl, rfl⟩
                go_wp2_with fail
                refine (sPutS (some ⟨w2.heap.size, 0, none⟩) 0 _ [] _ ⟨rfl, fun h => absurd h (by simp)⟩ (fun _ h => by cases h) (by simp)).mono ?_; rintro e w3 ⟨⟨v1, _, rfl, rfl, hY, O⟩, b1⟩
                obtain ⟨A1, c1, rfl⟩ := O.form
                go_wp2_with fail
                all_goals go_ret3
                all_goals exact ⟨by rw [← HG.out]; rfl, bl_trans (bl_alloc (Below.refl _ _) _) b1⟩
            · have HG := Lib.hid (((K1.out hc).trans (if_neg (by rw [hM]; exact fun e => hw e.1))).symm.trans HR.out)
              have HM := Lib.hid hM
              have hb1 : (wrap32 (n + z % 128 * 16384 - 2097152) != n + z % 128 * 16384 - 2097152) = true := by simpa using hw
              clear hM hcut hch hli hw
              go_wp2_with fail
              refine (sWrap _ _).mono ?_; rintro e w2 ⟨rfl, rfl⟩
              go_wp2_with fail
              all_goals go_ret3
              all_goals exact ⟨by rw [← HG.out]; rfl, Below.refl _ _⟩
        · have HG := Lib.hid ((K2.out (by omega)).symm.trans HR.out)
          have HK := Lib.hid (K3.out (by omega) (by omega))
          clear hcut hli
          go_wp2_with fail
          go_round
          case rel => exact ⟨3, n + z % 128 * 16384, l ++ [z], by omega, by go_num, by go_num, by omega, by simp; omega, by have := HK.out; simpa using this, by have := HG.out; simpa using this⟩
          case measure => simp [intOf]
      · have HG := Lib.hid ((gS_end zs a l 3 (by rw [hli]; exact hlt)).symm.trans HR.out)
        have hlt' : (zs.length : Int) ≤ (a : Int) + 2 := by omega
        clear hli
        go_wp2_with fail
        go_ret3
        exact ⟨by rw [← HG.out]; rfl, Below.refl _ _⟩
    · -- the byte at 3
      have hn1 : n < 2097152 := by simpa using hn1
      have hli := hP.1
      by_cases hlt : a + 3 < zs.length
      · have hz := hZ zs[a + 3] (List.getElem_mem hlt)
        obtain ⟨b, off, rfl, hb, hcell⟩ := rd_at hR hlt
        have hcut := hP.cut hlt
        have k1 := fun h1 => gS_last zs a l 1 (by rw [hli]; exact hlt) h1
        have k2 := fun h1 => gS_on zs a l 1 (by rw [hli]; exact hlt) h1
        have k3 := fun h1 h2 => hP.on hlt h1 h2
        simp only [hli] at k1 k2
        obtain ⟨hz0, hz1⟩ := hz
        generalize zs[a + 3] = z at *
        have K1 := Lib.hid k1
        have K2 := Lib.hid k2
        have K3 := Lib.hid k3
        clear k1 k2 k3
        have hlt' : (a : Int) + 3 < zs.length := by omega
        have hand := i64_and127 z
        have hor : bits .or .i64 n (z % 128 * 2097152) = n + z % 128 * 2097152 := by
          have := or_shift 21 n (z % 128) hn0 (by simp at hn1 ⊢; omega) (by omega) (by simp at hn1 ⊢; omega)
          simpa using this
        by_cases hc : z < 128
        · have hch := chain_app l z hP.2.2.1 hz0 hc
          by_cases h64 : z < 64
          · have hM : decS (l ++ [z]) = n + z % 128 * 2097152 := by rw [hP.dec, if_neg (by omega)]; simp <;> omega
            by_cases hw : wrap32 (n + z % 128 * 2097152) = n + z % 128 * 2097152
            · by_cases hl : (sB (n + z % 128 * 2097152)).length = 4
              · have HG := Lib.hid (((K1.out hc).trans (if_pos (by rw [hM]; exact ⟨hw, hl⟩))).symm.trans HR.out)
                have HM := Lib.hid hM
                have hb1 : (wrap32 (n + z % 128 * 2097152) != n + z % 128 * 2097152) = false := by simpa using hw
                have hb2 : (((sB (n + z % 128 * 2097152)).length : Int) != 4) = false := by simp; omega
                have hsl : (sB (n + z % 128 * 2097152)).length ≤ 5 := sBs_len _
                clear hM hcut hch hli hw hl
                go_wp2_with fail
                refine (sWrap _ _).mono ?_; rintro e w2 ⟨rfl, rfl⟩
                go_wp2_with fail
                refine (sPutS (some ⟨w2.heap.size, 0, none⟩) 0 _ [] _ ⟨rfl, fun h => absurd h (by simp)⟩ (fun _ h => by cases h) (by simp)).mono ?_; rintro e w3 ⟨⟨v1, _, rfl, rfl, hY, O⟩, b1⟩
                obtain ⟨A1, c1, rfl⟩ := O.form
                go_wp2_with fail
                all_goals go_ret3
                all_goals exact ⟨by rw [← HG.out]; simp [resP, HM.out], bl_trans (bl_alloc (Below.refl _ _) _) b1⟩
              · have HG := Lib.hid (((K1.out hc).trans (if_neg (by rw [hM]; exact fun e => hl e.2))).symm.trans HR.out)
                have HM := Lib.hid hM
                have hb1 : (wrap32 (n + z % 128 * 2097152) != n + z % 128 * 2097152) = false := by simpa using hw
                have hb2 : (((sB (n + z % 128 * 2097152)).length : Int) != 4) = true := by simp; omega
                have hsl : (sB (n + z % 128 * 2097152)).length ≤ 5 := sBs_len _
                clear hM hcut hch hli hw hl
                go_wp2_with fail
                refine (sWrap _ _).mono ?_; rintro e w2 ⟨rfl, rfl⟩
                go_wp2_with fail
                refine (sPutS (some ⟨w2.heap.size, 0, none⟩) 0 _ [] _ ⟨rfl, fun h => absurd h (by simp)⟩ (fun _ h => by cases h) (by simp)).mono ?_; rintro e w3 ⟨⟨v1, _, rfl, rfl, hY, O⟩, b1⟩
                obtain ⟨A1, c1, rfl⟩ := O.form
                go_wp2_with fail
                all_goals go_ret3
                all_goals exact ⟨by rw [← HG.out]; rfl, bl_trans (bl_alloc (Below.refl _ _) _) b1⟩
            · have HG := Lib.hid (((K1.out hc).trans (if_neg (by rw [hM]; exact fun e => hw e.1))).symm.trans HR.out)
              have HM := Lib.hid hM
              have hb1 : (wrap32 (n + z % 128 * 2097152) != n + z % 128 * 2097152) = true := by simpa using hw
              clear hM hcut hch hli hw
              go_wp2_with fail
              refine (sWrap _ _).mono ?_; rintro e w2 ⟨rfl, rfl⟩
              go_wp2_with fail
              all_goals go_ret3
              all_goals exact ⟨by rw [← HG.out]; rfl, Below.refl _ _⟩
          · have hM : decS (l ++ [z]) = n + z % 128 * 2097152 - 268435456 := by rw [hP.dec, if_pos (by omega)]; simp <;> omega
            by_cases hw : wrap32 (n + z % 128 * 2097152 - 268435456) = n + z % 128 * 2097152 - 268435456
            · by_cases hl : (sB (n + z % 128 * 2097152 - 268435456)).length = 4
              · have HG := Lib.hid (((K1.out hc).trans (if_pos (by rw [hM]; exact ⟨hw, hl⟩))).symm.trans HR.out)
                have HM := Lib.hid hM
                have hb1 : (wrap32 (n + z % 128 * 2097152 - 268435456) != n + z % 128 * 2097152 - 268435456) = false := by simpa using hw
                have hb2 : (((sB (n + z % 128 * 2097152 - 268435456)).length : Int) != 4) = false := by simp; omega
                have hsl : (sB (n + z % 128 * 2097152 - 268435456)).length ≤ 5 := sBs_len _
                clear hM hcut hch hli hw hl
                go_wp2_with fail
                refine (sWrap _ _).mono ?_; rintro e w2 ⟨rfl, rfl⟩
                go_wp2_with fail
                refine (sPutS (some ⟨w2.heap.size, 0, none⟩) 0 _ [] _ ⟨rfl, fun h => absurd h (by simp)⟩ (fun _ h => by cases h) (by simp)).mono ?_; rintro e w3 ⟨⟨v1, _, rfl, rfl, hY, O⟩, b1⟩
                obtain ⟨A1, c1, rfl⟩ := O.form
                go_wp2_with fail
                all_goals go_ret3
                all_goals exact ⟨by rw [← HG.out]; simp [resP, HM.out], bl_trans (bl_alloc (Below.refl _ _) _) b1⟩
              · have HG := Lib.hid (((K1.out hc).trans (if_neg (by rw [hM]; exact fun e => hl e.2))).symm.trans HR.out)
                have HM := Lib.hid hM
                have hb1 : (wrap32 (n + z % 128 * 2097152 - 268435456) != n + z % 128 * 2097152 - 268435456) = false := by simpa using hw
                have hb2 : (((sB (n + z % 128 * 2097152 - 268435456)).length : Int) != 4) = true := by simp; omega
                have hsl : (sB (n + z % 128 * 2097152 - 268435456)).length ≤ 5 := sBs_len _
                clear hM hcut hch hli hw hl
                go_wp2_with fail
                refine (sWrap _ _).mono ?_; rintro e w2 ⟨rfl, rfl⟩
                go_wp2_with fail
                refine (sPutS (some ⟨w2.heap.size, 0, none⟩) 0 _ [] _ ⟨rfl, fun h => absurd h (by simp)⟩ (fun _ h => by cases h) (by simp)).mono ?_; rintro e w3 ⟨⟨v1, _, rfl, rfl, hY, O⟩, b1⟩
                obtain ⟨A1, c1, rfl⟩ := O.form
                go_wp2_with fail
                all_goals go_ret3
                all_goals exact ⟨by rw [← HG.out]; rfl, bl_trans (bl_alloc (Below.refl _ _) _) b1⟩
            · have HG := Lib.hid (((K1.out hc).trans (if_neg (by rw [hM]; exact fun e => hw e.1))).symm.trans HR.out)
              have HM := Lib.hid hM
              have hb1 : (wrap32 (n + z % 128 * 2097152 - 268435456) != n + z % 128 * 2097152 - 268435456) = true := by simpa using hw
              clear hM hcut hch hli hw
              go_wp2_with fail
              refine (sWrap _ _).mono ?_; rintro e w2 ⟨rfl, rfl⟩
              go_wp2_with fail
              all_goals go_ret3
              all_goals exact ⟨by rw [← HG.out]; rfl, Below.refl _ _⟩
        · have HG := Lib.hid ((K2.out (by omega)).symm.trans HR.out)
          have HK := Lib.hid (K3.out (by omega) (by omega))
          clear hcut hli
          go_wp2_with fail
          go_round
          case rel => exact ⟨4, n + z % 128 * 2097152, l ++ [z], by omega, by go_num, by go_num, by omega, by simp; omega, by have := HK.out; simpa using this, by have := HG.out; simpa using this⟩
          case measure => simp [intOf]
      · have HG := Lib.hid ((gS_end zs a l 2 (by rw [hli]; exact hlt)).symm.trans HR.out)
        have hlt' : (zs.length : Int) ≤ (a : Int) + 3 := by omega
        clear hli
        go_wp2_with fail
        go_ret3
        exact ⟨by rw [← HG.out]; rfl, Below.refl _ _⟩
    · -- the byte at 4
      have hn1 : n < 268435456 := by simpa using hn1
      have hli := hP.1
      by_cases hlt : a + 4 < zs.length
      · have hz := hZ zs[a + 4] (List.getElem_mem hlt)
        obtain ⟨b, off, rfl, hb, hcell⟩ := rd_at hR hlt
        have hcut := hP.cut hlt
        have k1 := fun h1 => gS_last zs a l 0 (by rw [hli]; exact hlt) h1
        have k2 := fun h1 => gS_on zs a l 0 (by rw [hli]; exact hlt) h1
        have k3 := fun h1 h2 => hP.on hlt h1 h2
        simp only [hli] at k1 k2
        obtain ⟨hz0, hz1⟩ := hz
        generalize zs[a + 4] = z at *
        have K1 := Lib.hid k1
        have K2 := Lib.hid k2
        have K3 := Lib.hid k3
        clear k1 k2 k3
        have hlt' : (a : Int) + 4 < zs.length := by omega
        have hand := i64_and127 z
        have hor : bits .or .i64 n (z % 128 * 268435456) = n + z % 128 * 268435456 := by
          have := or_shift 28 n (z % 128) hn0 (by simp at hn1 ⊢; omega) (by omega) (by simp at hn1 ⊢; omega)
          simpa using this
        by_cases hc : z < 128
        · have hch := chain_app l z hP.2.2.1 hz0 hc
          by_cases h64 : z < 64
          · have hM : decS (l ++ [z]) = n + z % 128 * 268435456 := by rw [hP.dec, if_neg (by omega)]; simp <;> omega
            by_cases hw : wrap32 (n + z % 128 * 268435456) = n + z % 128 * 268435456
            · by_cases hl : (sB (n + z % 128 * 268435456)).length = 5
              · have HG := Lib.hid (((K1.out hc).trans (if_pos (by rw [hM]; exact ⟨hw, hl⟩))).symm.trans HR.out)
                have HM := Lib.hid hM
                have hb1 : (wrap32 (n + z % 128 * 268435456) != n + z % 128 * 268435456) = false := by simpa using hw
                have hb2 : (((sB (n + z % 128 * 268435456)).length : Int) != 5) = false := by simp; omega
                have hsl : (sB (n + z % 128 * 268435456)).length ≤ 5 := sBs_len _
                clear hM hcut hch hli hw hl
                go_wp2_with fail
                refine (sWrap _ _).mono ?_; rintro e w2 ⟨rfl, rfl⟩
                go_wp2_with fail
                refine (sPutS (some ⟨w2.heap.size, 0, none⟩) 0 _ [] _ ⟨rfl, fun h => absurd h (by simp)⟩ (fun _ h => by cases h) (by simp)).mono ?_; rintro e w3 ⟨⟨v1, _, rfl, rfl, hY, O⟩, b1⟩
                obtain ⟨A1, c1, rfl⟩ := O.form
                go_wp2_with fail
                all_goals go_ret3
                all_goals exact ⟨by rw [← HG.out]; simp [resP, HM.out], bl_trans (bl_alloc (Below.refl _ _) _) b1⟩
              · have HG := Lib.hid (((K1.out hc).trans (if_neg (by rw [hM]; exact fun e => hl e.2))).symm.trans HR.out)
                have HM := Lib.hid hM
                have hb1 : (wrap32 (n + z % 128 * 268435456) != n + z % 128 * 268435456) = false := by simpa using hw
                have hb2 : (((sB (n + z % 128 * 268435456)).length : Int) != 5) = true := by simp; omega
                have hsl : (sB (n + z % 128 * 268435456)).length ≤ 5 := sBs_len _
                clear hM hcut hch hli hw hl
                go_wp2_with fail
                refine (sWrap _ _).mono ?_; rintro e w2 ⟨rfl, rfl⟩
                go_wp2_with fail
                refine (sPutS (some ⟨w2.heap.size, 0, none⟩) 0 _ [] _ ⟨rfl, fun h => absurd h (by simp)⟩ (fun _ h => by cases h) (by simp)).mono ?_; rintro e w3 ⟨⟨v1, _, rfl, rfl, hY, O⟩, b1⟩
                obtain ⟨A1, c1, rfl⟩ := O.form
                go_wp2_with fail
                all_goals go_ret3
                all_goals exact ⟨by rw [← HG.out]; rfl, bl_trans (bl_alloc (Below.refl _ _) _) b1⟩
            · have HG := Lib.hid (((K1.out hc).trans (if_neg (by rw [hM]; exact fun e => hw e.1))).symm.trans HR.out)
              have HM := Lib.hid hM
              have hb1 : (wrap32 (n + z % 128 * 268435456) != n + z % 128 * 268435456) = true := by simpa using hw
              clear hM hcut hch hli hw
              go_wp2_with fail
              refine (sWrap _ _).mono ?_; rintro e w2 ⟨rfl, rfl⟩
              go_wp2_with fail
              all_goals go_ret3
              all_goals exact ⟨by rw [← HG.out]; rfl, Below.refl _ _⟩
          · have hM : decS (l ++ [z]) = n + z % 128 * 268435456 - 34359738368 := by rw [hP.dec, if_pos (by omega)]; simp <;> omega
            by_cases hw : wrap32 (n + z % 128 * 268435456 - 34359738368) = n + z % 128 * 268435456 - 34359738368
            · by_cases hl : (sB (n + z % 128 * 268435456 - 34359738368)).length = 5
              · have HG := Lib.hid (((K1.out hc).trans (if_pos (by rw [hM]; exact ⟨hw, hl⟩))).symm.trans HR.out)
                have HM := Lib.hid hM
                have hb1 : (wrap32 (n + z % 128 * 268435456 - 34359738368) != n + z % 128 * 268435456 - 34359738368) = false := by simpa using hw
                have hb2 : (((sB (n + z % 128 * 268435456 - 34359738368)).length : Int) != 5) = false := by simp; omega
                have hsl : (sB (n + z % 128 * 268435456 - 34359738368)).length ≤ 5 := sBs_len _
                clear hM hcut hch hli hw hl
                go_wp2_with fail
                refine (sWrap _ _).mono ?_; rintro e w2 ⟨rfl, rfl⟩
                go_wp2_with fail
                refine (sPutS (some ⟨w2.heap.size, 0, none⟩) 0 _ [] _ ⟨rfl, fun h => absurd h (by simp)⟩ (fun _ h => by cases h) (by simp)).mono ?_; rintro e w3 ⟨⟨v1, _, rfl, rfl, hY, O⟩, b1⟩
                obtain ⟨A1, c1, rfl⟩ := O.form
                go_wp2_with fail
                all_goals go_ret3
                all_goals exact ⟨by rw [← HG.out]; simp [resP, HM.out], bl_trans (bl_alloc (Below.refl _ _) _) b1⟩
              · have HG := Lib.hid (((K1.out hc).trans (if_neg (by rw [hM]; exact fun e => hl e.2))).symm.trans HR.out)
                have HM := Lib.hid hM
                have hb1 : (wrap32 (n + z % 128 * 268435456 - 34359738368) != n + z % 128 * 268435456 - 34359738368) = false := by simpa using hw
                have hb2 : (((sB (n + z % 128 * 268435456 - 34359738368)).length : Int) != 5) = true := by simp; omega
                have hsl : (sB (n + z % 128 * 268435456 - 34359738368)).length ≤ 5 := sBs_len _
                clear hM hcut hch hli hw hl
                go_wp2_with fail
                refine (sWrap _ _).mono ?_; rintro e w2 ⟨rfl, rfl⟩
                go_wp2_with fail
                refine (sPutS (some ⟨w2.heap.size, 0, none⟩) 0 _ [] _ ⟨rfl, fun h => absurd h (by simp)⟩ (fun _ h => by cases h) (by simp)).mono ?_; rintro e w3 ⟨⟨v1, _, rfl, rfl, hY, O⟩, b1⟩
                obtain ⟨A1, c1, rfl⟩ := O.form
                go_wp2_with fail
                all_goals go_ret3
                all_goals exact ⟨by rw [← HG.out]; rfl, bl_trans (bl_alloc (Below.refl _ _) _) b1⟩
            · have HG := Lib.hid (((K1.out hc).trans (if_neg (by rw [hM]; exact fun e => hw e.1))).symm.trans HR.out)
              have HM := Lib.hid hM
              have hb1 : (wrap32 (n + z % 128 * 268435456 - 34359738368) != n + z % 128 * 268435456 - 34359738368) = true := by simpa using hw
              clear hM hcut hch hli hw
              go_wp2_with fail
              refine (sWrap _ _).mono ?_; rintro e w2 ⟨rfl, rfl⟩
              go_wp2_with fail
              all_goals go_ret3
              all_goals exact ⟨by rw [← HG.out]; rfl, Below.refl _ _⟩
        · have HG := Lib.hid ((K2.out (by omega)).symm.trans HR.out)
          have HK := Lib.hid (K3.out (by omega) (by omega))
          clear hcut hli
          go_wp2_with fail
          go_round
          case rel => exact ⟨5, n + z % 128 * 268435456, l ++ [z], by omega, by go_num, by go_num, by omega, by simp; omega, by have := HK.out; simpa using this, by have := HG.out; simpa using this⟩
          case measure => simp [intOf]
      · have HG := Lib.hid ((gS_end zs a l 1 (by rw [hli]; exact hlt)).symm.trans HR.out)
        have hlt' : (zs.length : Int) ≤ (a : Int) + 4 := by omega
        clear hli
        go_wp2_with fail
        go_ret3
        exact ⟨by rw [← HG.out]; rfl, Below.refl _ _⟩
    · -- five bytes, and no last one
      go_wp2_with fail
      go_ret3
      exact ⟨by rw [← HR.out]; rfl, Below.refl _ _⟩

end Go.Proofs.YtalnkdbmbjplpaaDoor
