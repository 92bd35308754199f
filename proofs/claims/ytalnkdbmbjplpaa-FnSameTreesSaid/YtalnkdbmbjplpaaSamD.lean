/- The program's SameProg: rows of rules and of functions. -/
import Derived.Test.YtalnkdbmbjplpaaSamC
namespace Go.Proofs.Ytalnkdbmbjplpaa
open Go.RowKit

set_option maxRecDepth 20000 in
set_option maxHeartbeats 4000000 in
theorem iRules (L L' : List TR) (A A' : Option Addr) (c c' : Nat) (w : World) (hl : L.length ≤ 1000) (_ : L'.length ≤ 1000) (hbn : ∀ y ∈ L, y.2.2.1.size ≤ 30000 ∧ y.2.2.2.size ≤ 30000) (hbn' : ∀ y ∈ L', y.2.2.1.size ≤ 30000 ∧ y.2.2.2.size ≤ 30000) (S : RulP w (fun b => b < w.heap.size) A L) (S' : RulP w (fun b => b < w.heap.size) A' L') :
    Calls Try.prog 23 #[.slice A L.length c, .slice A' L'.length c', .func (.func 24) #[] #[]] w fun e w' => e = .returned (.bool (sameL rulB L L')) ∧ Below w.heap.size w w' := by
  by_cases h4 : L.length = L'.length
  case neg =>
    have g2 : ((L.length : Int) != L'.length) = true := by simp; omega
    rw [sameL_len L L' h4]
    go_enter Try.func23, Try.ntmps23
    go_wp2_with fail
    go_ret
    exact ⟨rfl, Below.refl _ _⟩
  have g4 : ((L.length : Int) != L'.length) = false := by simp; omega
  have H4 := Lib.hid h4
  obtain ⟨R, hR⟩ : ∃ R, sameL rulB L L' = R := ⟨_, rfl⟩
  rw [hR]
  have HR := Lib.hid hR
  clear hR h4
  go_enter Try.func23, Try.ntmps23
  go_wp2_with fail
  go_loopw [17] (fun i wr => ∃ kk : Nat, kk ≤ L.length ∧ i = .int .i64 kk ∧ Hid (sameL rulB (L.drop kk) (L'.drop kk) = R) ∧ Below w.heap.size w wr) (fun i _ => L.length - (intOf i).toNat)
  case atStart => exact ⟨0, Nat.zero_le _, rfl, HR, Below.refl _ _⟩
  case round =>
    obtain ⟨kk, hk, rfl, hE, hL⟩ := hrel
    by_cases hlt : kk < L.length
    · have hlt2 : kk < L'.length := by have := H4.out; omega
      have hi1 : (kk : Int) < (L.length : Int) := by omega
      have hi2 : (kk : Int) < (L'.length : Int) := by omega
      obtain ⟨b, ob, X, cx, Y, cy, rfl, hb, SX, SY, hc⟩ := (S.w hL).at_ hlt
      obtain ⟨b', ob', X', cx', Y', cy', rfl, hb', SX', SY', hc'⟩ := (S'.w hL).at_ hlt2
      have h1 := hbn _ (List.getElem_mem hlt)
      have h2 := hbn' _ (List.getElem_mem hlt2)
      have HN := Lib.hid (fun h => (sameL_no (f := rulB) hlt hlt2 h).symm.trans hE.out)
      have HY := Lib.hid (fun h => (sameL_yes (f := rulB) hlt hlt2 h).symm.trans hE.out)
      clear hE HR
      generalize L[kk] = z at SX SY hc h1 HN HY
      generalize L'[kk] = z' at SX' SY' hc' h2 HN HY
      obtain ⟨K, ⟨k, n, s⟩, x, p⟩ := z
      obtain ⟨K', ⟨k', n', s'⟩, x', p'⟩ := z'
      simp only at SX SY SX' SY' h1 h2
      have q0 : wr.cell? ⟨b, ob + kk * 6, none⟩ = _ := hc 0 _ rfl
      have q1 : wr.cell? ⟨b, ob + kk * 6 + 1, none⟩ = _ := hc 1 _ rfl
      have q2 : wr.cell? ⟨b, ob + kk * 6 + 2, none⟩ = _ := hc 2 _ rfl
      have q3 : wr.cell? ⟨b, ob + kk * 6 + 3, none⟩ = _ := hc 3 _ rfl
      have q4 : wr.cell? ⟨b, ob + kk * 6 + 4, none⟩ = _ := hc 4 _ rfl
      have q5 : wr.cell? ⟨b, ob + kk * 6 + 5, none⟩ = _ := hc 5 _ rfl
      have r0 : wr.cell? ⟨b', ob' + kk * 6, none⟩ = _ := hc' 0 _ rfl
      have r1 : wr.cell? ⟨b', ob' + kk * 6 + 1, none⟩ = _ := hc' 1 _ rfl
      have r2 : wr.cell? ⟨b', ob' + kk * 6 + 2, none⟩ = _ := hc' 2 _ rfl
      have r3 : wr.cell? ⟨b', ob' + kk * 6 + 3, none⟩ = _ := hc' 3 _ rfl
      have r4 : wr.cell? ⟨b', ob' + kk * 6 + 4, none⟩ = _ := hc' 4 _ rfl
      have r5 : wr.cell? ⟨b', ob' + kk * 6 + 5, none⟩ = _ := hc' 5 _ rfl
      have fa := fun (ad : Addr) (h : ad.block < wr.heap.size) => World.cell?_alloc_lt wr (.cells #[.int .i64 K, .int .i64 k, .int .i64 n, .string s, .slice X x.len cx, .slice Y p.len cy] 54) ad h
      replace r0 := (fa ⟨b', _, none⟩ hb').trans r0
      replace r1 := (fa ⟨b', _, none⟩ hb').trans r1
      replace r2 := (fa ⟨b', _, none⟩ hb').trans r2
      replace r3 := (fa ⟨b', _, none⟩ hb').trans r3
      replace r4 := (fa ⟨b', _, none⟩ hb').trans r4
      replace r5 := (fa ⟨b', _, none⟩ hb').trans r5
      clear fa hc hc'
      have L2 := bl_alloc (bl_alloc (Below.refl wr.heap.size wr) (.cells #[.int .i64 K, .int .i64 k, .int .i64 n, .string s, .slice X x.len cx, .slice Y p.len cy] 54)) (.cells #[.int .i64 K', .int .i64 k', .int .i64 n', .string s', .slice X' x'.len cx', .slice Y' p'.len cy'] 54)
      have CC := iRule K k n s x p X Y cx cy K' k' n' s' x' p' X' Y' cx' cy' ((wr.alloc (.cells #[.int .i64 K, .int .i64 k, .int .i64 n, .string s, .slice X x.len cx, .slice Y p.len cy] 54)).alloc (.cells #[.int .i64 K', .int .i64 k', .int .i64 n', .string s', .slice X' x'.len cx', .slice Y' p'.len cy'] 54)) h1.1 h1.2 (SX.s0.w L2) (SY.s0.w L2) h2.1 h2.2 (SX'.s0.w L2) (SY'.s0.w L2)
      generalize rulB (K, (k, n, s), x, p) (K', (k', n', s'), x', p') = y at CC HN HY
      have HC := Lib.hid CC
      clear CC SX SY SX' SY'
      cases y
      · obtain rfl : false = R := HN.out rfl
        clear HN HY
        go_wp2_with fail
        refine HC.out.mono ?_; rintro e w1 ⟨rfl, b1⟩
        go_wp2_with fail
        go_ret
        exact ⟨rfl, bl_trans hL (bl_trans L2 b1)⟩
      · have HE := Lib.hid (HY.out rfl)
        clear HN HY
        go_wp2_with fail
        refine HC.out.mono ?_; rintro e w1 ⟨rfl, b1⟩
        go_wp2_with fail
        go_roundw
        case rel => exact ⟨kk + 1, by omega, by go_num, HE.out, bl_trans hL (bl_trans L2 b1)⟩
        case measure => (simp [intOf] <;> omega)
    · obtain rfl : kk = L.length := by omega
      have hE2 := hE.out
      rw [sameL_end H4.out] at hE2
      subst hE2
      clear HR hE
      go_wp2_with fail
      go_ret
      exact ⟨rfl, hL⟩

set_option maxRecDepth 20000 in
set_option maxHeartbeats 4000000 in
theorem iFuns (L L' : List TF) (A A' : Option Addr) (c c' : Nat) (w : World) (hl : L.length ≤ 1000) (_ : L'.length ≤ 1000) (hbn : ∀ y ∈ L, y.2.1.length ≤ 2 ∧ y.2.2.size ≤ 30000) (hbn' : ∀ y ∈ L', y.2.1.length ≤ 2 ∧ y.2.2.size ≤ 30000) (S : FunP w (fun b => b < w.heap.size) A L) (S' : FunP w (fun b => b < w.heap.size) A' L') :
    Calls Try.prog 25 #[.slice A L.length c, .slice A' L'.length c', .func (.func 26) #[] #[]] w fun e w' => e = .returned (.bool (sameL funB L L')) ∧ Below w.heap.size w w' := by
  by_cases h4 : L.length = L'.length
  case neg =>
    have g2 : ((L.length : Int) != L'.length) = true := by simp; omega
    rw [sameL_len L L' h4]
    go_enter Try.func25, Try.ntmps25
    go_wp2_with fail
    go_ret
    exact ⟨rfl, Below.refl _ _⟩
  have g4 : ((L.length : Int) != L'.length) = false := by simp; omega
  have H4 := Lib.hid h4
  obtain ⟨R, hR⟩ : ∃ R, sameL funB L L' = R := ⟨_, rfl⟩
  rw [hR]
  have HR := Lib.hid hR
  clear hR h4
  go_enter Try.func25, Try.ntmps25
  go_wp2_with fail
  go_loopw [17] (fun i wr => ∃ kk : Nat, kk ≤ L.length ∧ i = .int .i64 kk ∧ Hid (sameL funB (L.drop kk) (L'.drop kk) = R) ∧ Below w.heap.size w wr) (fun i _ => L.length - (intOf i).toNat)
  case atStart => exact ⟨0, Nat.zero_le _, rfl, HR, Below.refl _ _⟩
  case round =>
    obtain ⟨kk, hk, rfl, hE, hL⟩ := hrel
    by_cases hlt : kk < L.length
    · have hlt2 : kk < L'.length := by have := H4.out; omega
      have hi1 : (kk : Int) < (L.length : Int) := by omega
      have hi2 : (kk : Int) < (L'.length : Int) := by omega
      obtain ⟨b, ob, X, cx, Y, cy, rfl, hb, SX, SY, hc⟩ := (S.w hL).at_ hlt
      obtain ⟨b', ob', X', cx', Y', cy', rfl, hb', SX', SY', hc'⟩ := (S'.w hL).at_ hlt2
      have h1 := hbn _ (List.getElem_mem hlt)
      have h2 := hbn' _ (List.getElem_mem hlt2)
      have HN := Lib.hid (fun h => (sameL_no (f := funB) hlt hlt2 h).symm.trans hE.out)
      have HY := Lib.hid (fun h => (sameL_yes (f := funB) hlt hlt2 h).symm.trans hE.out)
      clear hE HR
      generalize L[kk] = z at SX SY hc h1 HN HY
      generalize L'[kk] = z' at SX' SY' hc' h2 HN HY
      obtain ⟨s, ss, p⟩ := z
      obtain ⟨s', ss', p'⟩ := z'
      simp only at SX SY SX' SY' h1 h2
      have q0 : wr.cell? ⟨b, ob + kk * 3, none⟩ = _ := hc 0 _ rfl
      have q1 : wr.cell? ⟨b, ob + kk * 3 + 1, none⟩ = _ := hc 1 _ rfl
      have q2 : wr.cell? ⟨b, ob + kk * 3 + 2, none⟩ = _ := hc 2 _ rfl
      have r0 : wr.cell? ⟨b', ob' + kk * 3, none⟩ = _ := hc' 0 _ rfl
      have r1 : wr.cell? ⟨b', ob' + kk * 3 + 1, none⟩ = _ := hc' 1 _ rfl
      have r2 : wr.cell? ⟨b', ob' + kk * 3 + 2, none⟩ = _ := hc' 2 _ rfl
      have fa := fun (ad : Addr) (h : ad.block < wr.heap.size) => World.cell?_alloc_lt wr (.cells #[.string s, .slice X ss.length cx, .slice Y p.len cy] 59) ad h
      replace r0 := (fa ⟨b', _, none⟩ hb').trans r0
      replace r1 := (fa ⟨b', _, none⟩ hb').trans r1
      replace r2 := (fa ⟨b', _, none⟩ hb').trans r2
      clear fa hc hc'
      have L2 := bl_alloc (bl_alloc (Below.refl wr.heap.size wr) (.cells #[.string s, .slice X ss.length cx, .slice Y p.len cy] 59)) (.cells #[.string s', .slice X' ss'.length cx', .slice Y' p'.len cy'] 59)
      have CC := iFun s ss p X Y cx cy s' ss' p' X' Y' cx' cy' ((wr.alloc (.cells #[.string s, .slice X ss.length cx, .slice Y p.len cy] 59)).alloc (.cells #[.string s', .slice X' ss'.length cx', .slice Y' p'.len cy'] 59)) (by omega) h1.2 (SX.w L2) (SY.s0.w L2) (by omega) h2.2 (SX'.w L2) (SY'.s0.w L2)
      generalize funB (s, ss, p) (s', ss', p') = y at CC HN HY
      have HC := Lib.hid CC
      clear CC SX SY SX' SY'
      cases y
      · obtain rfl : false = R := HN.out rfl
        clear HN HY
        go_wp2_with fail
        refine HC.out.mono ?_; rintro e w1 ⟨rfl, b1⟩
        go_wp2_with fail
        go_ret
        exact ⟨rfl, bl_trans hL (bl_trans L2 b1)⟩
      · have HE := Lib.hid (HY.out rfl)
        clear HN HY
        go_wp2_with fail
        refine HC.out.mono ?_; rintro e w1 ⟨rfl, b1⟩
        go_wp2_with fail
        go_roundw
        case rel => exact ⟨kk + 1, by omega, by go_num, HE.out, bl_trans hL (bl_trans L2 b1)⟩
        case measure => (simp [intOf] <;> omega)
    · obtain rfl : kk = L.length := by omega
      have hE2 := hE.out
      rw [sameL_end H4.out] at hE2
      subst hE2
      clear HR hE
      go_wp2_with fail
      go_ret
      exact ⟨rfl, hL⟩

end Go.Proofs.Ytalnkdbmbjplpaa
