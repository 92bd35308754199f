/- Walks over the laws' markRexS, markRex, heldRexS, heldRex at trees whose blocks are all different. -/
import Derived.Test.YtdfcgnbklnceiaaDjP
import Derived.Test.YtdfcgnbklnceiaaRexOk
namespace Go.Proofs.Ytdfcgnbklnceiaa
open Go.RowKit

set_option maxHeartbeats 4000000 in
theorem markD_step (fr : Fr (Int × ByteArray)) (A : Option Addr) (c k : Nat) (F : List Nat) (w : World) (hn : fr.len ≤ 1048576) (hk : k + 2 * fr.size ≤ 1073741824) (hF : ∀ b ∈ F, b < w.heap.size) (hN : F.Nodup) (hS : DjT w A fr F)
    (ih : ∀ (kids : Fr (Int × ByteArray)), kids.size < fr.size → ∀ (A : Option Addr) (c k : Nat) (F : List Nat) (w : World), k + 2 * kids.size ≤ 1073741824 → (∀ b ∈ F, b < w.heap.size) → F.Nodup → DjT w A kids F → Calls Try.prog 62 #[.slice A kids.len c, .int .i64 k] w fun e w' => e = .returned (.int .i64 ((k + 2 * kids.size : Nat) : Int)) ∧ MkD F w w' ∧ DjT w' A (mkd k kids) F) :
    Calls Try.prog 62 #[.slice A fr.len c, .int .i64 k] w fun e w' => e = .returned (.int .i64 ((k + 2 * fr.size : Nat) : Int)) ∧ MkD F w w' ∧ DjT w' A (mkd k fr) F := by
  have hn' : (fr.len : Int) ≤ 1048576 := by omega
  have IH := Lib.hid ih
  clear ih
  rcases Nat.eq_zero_or_pos fr.len with h0 | hp
  · have h0' : fr = .nil := by
      cases fr with
      | nil => rfl
      | cons a l r => simp [Fr.len] at h0
    subst h0'
    have hX := Lib.hid (show DjT w A (mkd k .nil) F from hS)
    go_enter Try.func62, Try.ntmps62
    go_wp2_with fail
    go_loopw [1, 5] (fun kv i wr => i = .int .i64 0 ∧ kv = .int .i64 k ∧ wr = w) (fun _ _ _ => 0)
    case atStart => exact ⟨rfl, rfl, rfl⟩
    case round =>
      obtain ⟨rfl, rfl, rfl⟩ := hrel
      go_wp2_with fail
      go_ret
      exact ⟨rfl, MkD.refl _ _, hX.out⟩
  obtain ⟨b, F', rfl, rfl, hI⟩ := hS.2 hp
  obtain ⟨hnb, hN'⟩ := List.nodup_cons.1 hN
  have HNB := Lib.hid hnb
  have HN := Lib.hid hN'
  have hbw := hF b (List.mem_cons_self ..)
  have HF := Lib.hid hF
  clear hN hnb hN' hF hS
  obtain ⟨K, hK⟩ : ∃ K, k + 2 * fr.size = K := ⟨_, rfl⟩
  rw [hK]
  have HK := Lib.hid hK
  have hKb : K ≤ 1073741824 := by omega
  clear hK
  go_enter Try.func62, Try.ntmps62
  go_wp2_with fail
  go_loopw [1, 5] (fun kv i wr => ∃ q x : Nat, q ≤ fr.len ∧ i = .int .i64 q ∧ kv = .int .i64 x ∧ kAt fr k q = x ∧ DjIn wr (mix q k fr) b 0 F' ∧ MkD (b :: F') w wr) (fun _ i _ => fr.len - (intOf i).toNat)
  case atStart => exact ⟨0, k, Nat.zero_le _, rfl, rfl, kAt_zero _ _, hI, MkD.refl _ _⟩
  case round =>
    obtain ⟨q, x, hq, rfl, rfl, hx, hD, hM⟩ := hrel
    have hall := kAt_all fr k q
    rw [hx, HK.out] at hall
    by_cases hlt : q < fr.len
    · have hlt' : (q : Int) < (fr.len : Int) := by omega
      obtain ⟨a, kids, A', c', Fa, F1, Fb, hd, hFe, hc, hT, hU⟩ := DjIn.upd (mix q k fr) q b 0 F' (by rw [mix_len]; exact hlt) hD
      rw [mix_drop q k fr q (Nat.le_refl _), mix_drop q k fr (q + 1) (by omega)] at hd
      have hms := mix_succ q k fr a kids hd
      rw [hx] at hms
      have hks := kAt_succ (k := k) hd
      rw [hx] at hks
      have hsz : (fr.drop q).size = kids.size + (fr.drop (q + 1)).size + 1 := by rw [hd]; rfl
      have hfs := fr.drop_size q
      have hxb : x + 2 + 2 * kids.size ≤ 1073741824 := by omega
      have hxi : (x : Int) ≤ 1073741824 := by omega
      have hkl : kids.size < fr.size := by omega
      simp only [Nat.zero_add] at hc hU
      obtain ⟨q0, f0⟩ := hc 0 _ rfl
      obtain ⟨q1, f1⟩ := hc 1 _ rfl
      obtain ⟨q2, f2⟩ := hc 2 _ rfl
      rw [Nat.add_zero] at q0 f0
      have hms' := hM.size
      have hb1 : b < wr.heap.size := by omega
      have hF1w : ∀ j ∈ F1, j < wr.heap.size := fun j hj => by
        have := HF.out j (List.mem_cons_of_mem _ (by rw [hFe]; exact List.mem_append_right Fa (List.mem_append_left Fb hj)))
        omega
      have hbF1 : b ∉ F1 := fun h => HNB.out (by rw [hFe]; exact List.mem_append_right Fa (List.mem_append_left Fb h))
      have hNx := HN.out
      rw [hFe] at hNx
      have hN1 : F1.Nodup := (List.nodup_append.1 (List.nodup_append.1 hNx).2.1).1
      have hFab : ∀ j, j ∈ Fa ∨ j ∈ Fb → j ∉ F1 ∧ j ≠ b ∧ j < wr.heap.size := fun j hj => by
        have hjF : j ∈ F' := by rw [hFe]; exact hj.elim (List.mem_append_left _) (fun h => List.mem_append_right Fa (List.mem_append_right F1 h))
        refine ⟨fun h1 => ?_, fun e => HNB.out (by rw [← e]; exact hjF), by have := HF.out j (List.mem_cons_of_mem _ hjF); omega⟩
        rcases hj with h | h
        · exact (List.nodup_append.1 hNx).2.2 j h j (List.mem_append_left Fb h1) rfl
        · exact (List.nodup_append.1 (List.nodup_append.1 hNx).2.1).2.2 j h1 j h rfl
      have hF1F : ∀ j ∈ F1, j ∈ b :: F' := fun j hj => List.mem_cons_of_mem _ (by rw [hFe]; exact List.mem_append_right Fa (List.mem_append_left Fb hj))
      have HFE := Lib.hid hFe
      have HU := Lib.hid hU
      have HMS := Lib.hid hms
      have HKS := Lib.hid hks
      have HAB := Lib.hid hFab
      clear hd hFe hc hU hms hks hNx hsz hall hD hFab hx
      generalize hx1 : wr.setCell ⟨b, q * 3, none⟩ (.int .i64 (x : Int)) = x1
      have M1 : MkD (b :: F') wr x1 := by rw [← hx1]; exact MkD.set (List.mem_cons_self ..)
      have r0 : x1.cell? ⟨b, q * 3, none⟩ = some (.int .i64 (x : Int)) := by rw [← hx1]; exact World.cell?_setCell_same' wr _ _ (by rw [q0]; rfl)
      have ro : ∀ p : Addr, p ≠ ⟨b, q * 3, none⟩ → x1.cell? p = wr.cell? p := fun p hp => by rw [← hx1]; exact World.cell?_setCell_other _ _ _ _ (fun e => hp e.symm)
      have rf : ∀ p : Addr, x1.frozen? p = wr.frozen? p := fun p => by rw [← hx1, World.frozen?_setCell]
      have rb : ∀ j, j ≠ b → x1.heap[j]? = wr.heap[j]? := fun j hj => by rw [← hx1]; exact Below.heap_setCell wr ⟨b, q * 3, none⟩ _ j hj
      have sz1 : x1.heap.size = wr.heap.size := by rw [← hx1]; simp
      have r1 : x1.cell? ⟨b, q * 3 + 1, none⟩ = some (.string a.2) := (ro _ (fun e => by injection e with _ e; omega)).trans q1
      have r2 : x1.cell? ⟨b, q * 3 + 2, none⟩ = some (.slice A' kids.len c') := (ro _ (fun e => by injection e with _ e; omega)).trans q2
      have g1 : x1.frozen? ⟨b, q * 3 + 1, none⟩ = false := (rf _).trans f1
      have g0 : x1.frozen? ⟨b, q * 3, none⟩ = false := (rf _).trans f0
      have g2 : x1.frozen? ⟨b, q * 3 + 2, none⟩ = false := (rf _).trans f2
      have RO := Lib.hid ro
      have RF := Lib.hid rf
      have RB := Lib.hid rb
      have CM := markText_any (x + 1) x1 (by omega)
      have hz : ∃ z, mtS (x + 1) = z := ⟨_, rfl⟩
      obtain ⟨z, hz⟩ := hz
      rw [hz] at CM
      rw [show ((x + 1 : Nat) : Int) = (x : Int) + 1 by omega] at CM
      have CMM := Lib.hid CM
      have HZ := Lib.hid hz
      have HX1 := Lib.hid hx1
      clear CM q1 q2 f1 f2 ro rf rb hz hx1
      go_wp2_with fail
      clear q0 f0
      rw [HX1.out]
      refine CMM.out.mono ?_; rintro e w2 ⟨rfl, b2⟩
      have hb3 : b < x1.heap.size := by omega
      have B2 := fun o => show w2.cell? ⟨b, o, none⟩ = x1.cell? ⟨b, o, none⟩ ∧ w2.frozen? ⟨b, o, none⟩ = x1.frozen? ⟨b, o, none⟩ from ⟨b2.cell (p := ⟨b, o, none⟩) hb3, World.frozen?_of_block (b2.block b hb3)⟩
      have t0 := (B2 (q * 3)).1.trans r0
      have t1 := (B2 (q * 3 + 1)).1.trans r1
      have t2 := (B2 (q * 3 + 2)).1.trans r2
      have t3 : w2.frozen? ⟨b, q * 3 + 1, none⟩ = false := (B2 (q * 3 + 1)).2.trans g1
      have h0 : w2.frozen? ⟨b, q * 3, none⟩ = false := (B2 (q * 3)).2.trans g0
      have h2 : w2.frozen? ⟨b, q * 3 + 2, none⟩ = false := (B2 (q * 3 + 2)).2.trans g2
      generalize hy1 : w2.setCell ⟨b, q * 3 + 1, none⟩ (.string z) = y1
      have M4 : MkD (b :: F') wr y1 := by rw [← hy1]; exact (M1.trans (MkD.below b2)).trans (MkD.set (List.mem_cons_self ..))
      have so : ∀ p : Addr, p ≠ ⟨b, q * 3 + 1, none⟩ → y1.cell? p = w2.cell? p := fun p hp => by rw [← hy1]; exact World.cell?_setCell_other _ _ _ _ (fun e => hp e.symm)
      have u0 : y1.cell? ⟨b, q * 3, none⟩ = some (.int .i64 (x : Int)) := (so _ (fun e => by injection e with _ e; omega)).trans t0
      have u1 : y1.cell? ⟨b, q * 3 + 1, none⟩ = some (.string z) := by rw [← hy1]; exact World.cell?_setCell_same' w2 _ _ (by rw [t1]; rfl)
      have u2 : y1.cell? ⟨b, q * 3 + 2, none⟩ = some (.slice A' kids.len c') := (so _ (fun e => by injection e with _ e; omega)).trans t2
      have sf : ∀ p : Addr, y1.frozen? p = w2.frozen? p := fun p => by rw [← hy1, World.frozen?_setCell]
      have sb : ∀ j, j ≠ b → y1.heap[j]? = w2.heap[j]? := fun j hj => by rw [← hy1]; exact Below.heap_setCell w2 ⟨b, q * 3 + 1, none⟩ _ j hj
      have sz2 : y1.heap.size = w2.heap.size := by rw [← hy1]; simp
      have bs := b2.size
      have SB := Lib.hid (show ∀ j, j ≠ b → j < wr.heap.size → y1.heap[j]? = wr.heap[j]? from fun j h1 h2 => (sb j h1).trans ((b2.block j (by omega)).trans (RB.out j h1)))
      have SO := Lib.hid (show ∀ o, o < q * 3 ∨ q * 3 + 3 ≤ o → y1.cell? ⟨b, o, none⟩ = wr.cell? ⟨b, o, none⟩ ∧ y1.frozen? ⟨b, o, none⟩ = wr.frozen? ⟨b, o, none⟩ from fun o ho => ⟨(so _ (fun e => by injection e with _ e; omega)).trans ((B2 o).1.trans (RO.out _ (fun e => by injection e with _ e; omega))), (sf _).trans ((B2 o).2.trans (RF.out _))⟩)
      have v0 : y1.frozen? ⟨b, q * 3, none⟩ = false := (sf _).trans h0
      have v1 : y1.frozen? ⟨b, q * 3 + 1, none⟩ = false := (sf _).trans t3
      have v2 : y1.frozen? ⟨b, q * 3 + 2, none⟩ = false := (sf _).trans h2
      have hTy := hT.keep (w' := y1) (fun j hj => SB.out j (fun e => hbF1 (by rw [← e]; exact hj)) (hF1w j hj))
      have CI := IH.out kids hkl A' c' (x + 2) F1 y1 (by omega) (fun j hj => by have := hF1w j hj; omega) hN1 hTy
      rw [show ((x + 2 : Nat) : Int) = (x : Int) + 1 + 1 by omega] at CI
      have CII := Lib.hid CI
      have HY1 := Lib.hid hy1
      clear CI CMM r1 r2 g1 g0 g2 r0 t0 h0 h2 hTy so sf sb B2 hy1 hT
      go_wp2_with fail
      rw [HY1.out]
      refine CII.out.mono ?_; rintro e w5 ⟨rfl, M5, hT5⟩
      have e5 : w5.heap[b]? = y1.heap[b]? := M5.block b (by omega) hbF1
      have E5 := fun o => show w5.cell? ⟨b, o, none⟩ = y1.cell? ⟨b, o, none⟩ ∧ w5.frozen? ⟨b, o, none⟩ = y1.frozen? ⟨b, o, none⟩ from ⟨World.cell?_of_block (a := ⟨b, o, none⟩) e5, World.frozen?_of_block (a := ⟨b, o, none⟩) e5⟩
      have hM5 := (hM.trans M4).trans (M5.sub hF1F)
      have hD5 := HU.out w5 ((x : Int), z) (mkd (x + 2) kids) (mkd_len _ _) (fun j u hu => by
        match j, hu with
        | 0, hu => rw [← Option.some.inj hu]; exact ⟨(E5 _).1.trans u0, (E5 _).2.trans v0⟩
        | 1, hu => rw [← Option.some.inj hu]; exact ⟨(E5 _).1.trans u1, (E5 _).2.trans v1⟩
        | 2, hu => rw [← Option.some.inj hu]; exact ⟨(E5 _).1.trans u2, (E5 _).2.trans v2⟩
        | j + 3, hu => cases hu) hT5 (fun o ho => ⟨(E5 o).1.trans (SO.out o ho).1, (E5 o).2.trans (SO.out o ho).2⟩) (fun j hj => by
        obtain ⟨h1, h2, h3⟩ := HAB.out j hj
        exact (M5.block j (by omega) h1).trans (SB.out j h2 h3))
      rw [← HZ.out, ← HMS.out] at hD5
      have HD := Lib.hid hD5
      clear u0 u1 u2 v0 v1 v2 E5 e5 hD5 hT5 CII t1 t3 t2
      go_wp2_with fail
      go_roundw
      case rel => exact ⟨q + 1, x + 2 + 2 * kids.size, by omega, by go_num, rfl, HKS.out, HD.out, hM5⟩
      case measure => (simp [intOf] <;> omega)
    · obtain rfl : q = fr.len := by omega
      rw [Fr.drop_all] at hall
      obtain rfl : x = K := hall
      rw [mix_all] at hD
      have hX := Lib.hid (show DjT wr (some ⟨b, 0, none⟩) (mkd k fr) (b :: F') from ⟨fun h => by rw [mkd_len] at h; omega, fun _ => ⟨b, F', rfl, rfl, hD⟩⟩)
      clear hD hx
      go_wp2_with fail
      go_ret
      exact ⟨rfl, hM, hX.out⟩
theorem markD_any (N : Nat) (hN : N ≤ 1048576) : ∀ (fr : Fr (Int × ByteArray)), fr.size ≤ N → ∀ (A : Option Addr) (c k : Nat) (F : List Nat) (w : World), k + 2 * fr.size ≤ 1073741824 → (∀ b ∈ F, b < w.heap.size) → F.Nodup → DjT w A fr F → Calls Try.prog 62 #[.slice A fr.len c, .int .i64 k] w fun e w' => e = .returned (.int .i64 ((k + 2 * fr.size : Nat) : Int)) ∧ MkD F w w' ∧ DjT w' A (mkd k fr) F := by
  induction N with
  | zero =>
    intro fr hs A c k F w hk hF hN hS
    obtain rfl := Fr.size_pos (Nat.le_zero.1 hs)
    exact markD_step .nil A c k F w (by simp [Fr.len]) hk hF hN hS (fun kids h => by simp [Fr.size] at h)
  | succ N ih =>
    intro fr hs A c k F w hk hF hN2 hS
    exact markD_step fr A c k F w (by have := fr.len_size; omega) hk hF hN2 hS (fun kids h => ih (by omega) kids (by omega))

set_option maxHeartbeats 4000000 in
theorem heldD_step (fr : Fr (Int × ByteArray)) (A : Option Addr) (c k : Nat) (w : World) (hn : fr.len ≤ 1048576) (hk : k + 2 * fr.size ≤ 1073741824) (hS : Sl rexC w 0 w.heap.size A (mkd k fr))
    (ih : ∀ (kids : Fr (Int × ByteArray)), kids.size < fr.size → ∀ (A : Option Addr) (c k : Nat) (w : World), k + 2 * kids.size ≤ 1073741824 → Sl rexC w 0 w.heap.size A (mkd k kids) → Calls Try.prog 63 #[.slice A kids.len c, .int .i64 k] w fun e w' => e = .returned (.int .i64 ((k + 2 * kids.size : Nat) : Int)) ∧ Below w.heap.size w w') :
    Calls Try.prog 63 #[.slice A fr.len c, .int .i64 k] w fun e w' => e = .returned (.int .i64 ((k + 2 * fr.size : Nat) : Int)) ∧ Below w.heap.size w w' := by
  have hn' : (fr.len : Int) ≤ 1048576 := by omega
  have IH := Lib.hid ih
  clear ih
  obtain ⟨K, hK⟩ : ∃ K, k + 2 * fr.size = K := ⟨_, rfl⟩
  rw [hK]
  have HK := Lib.hid hK
  have hKb : K ≤ 1073741824 := by omega
  clear hK
  go_enter Try.func63, Try.ntmps63
  go_wp2_with fail
  go_loopw [1, 5] (fun kv i wr => ∃ q x : Nat, q ≤ fr.len ∧ i = .int .i64 q ∧ kv = .int .i64 x ∧ kAt fr k q = x ∧ Below w.heap.size w wr) (fun _ i _ => fr.len - (intOf i).toNat)
  case atStart => exact ⟨0, k, Nat.zero_le _, rfl, rfl, kAt_zero _ _, Below.refl _ _⟩
  case round =>
    obtain ⟨q, x, hq, rfl, rfl, hx, hL⟩ := hrel
    have hall := kAt_all fr k q
    rw [hx, HK.out] at hall
    by_cases hlt : q < fr.len
    · have hlt' : (q : Int) < (fr.len : Int) := by omega
      obtain ⟨a0, kids, hd0⟩ := fr.drop_at q hlt
      obtain ⟨b, o, a, l, A', c', hAe, hb, hd, hks, hSk, q0, q1, q2⟩ := at_Rex (hS.below hL (Nat.le_refl _)) (i := q) (by rw [mkd_len]; exact hlt)
      rw [mkd_drop, hx, hd0] at hd
      injection hd with e1 e2 e3
      subst e1 e2
      have hks := kAt_succ (k := k) hd0
      rw [hx] at hks
      have hsz : (fr.drop q).size = kids.size + (fr.drop (q + 1)).size + 1 := by rw [hd0]; rfl
      have hfs := fr.drop_size q
      have hxb : x + 2 + 2 * kids.size ≤ 1073741824 := by omega
      have hxi : (x : Int) ≤ 1073741824 := by omega
      have hkl : kids.size < fr.size := by omega
      have hlL := hL.size
      have hb : b < wr.heap.size := by omega
      have HKS := Lib.hid hks
      rw [mkd_len] at q2
      subst hAe
      clear hd0 hks hsz hall hx e3
      have CM := fun w => markText_any (x + 1) w (by omega)
      simp only at q0 q1
      generalize mtS (x + 1) = z at CM q1
      simp only [show ((x + 1 : Nat) : Int) = (x : Int) + 1 by omega] at CM
      have CMM := Lib.hid CM
      have C2 := fun w h => IH.out kids hkl A' c' (x + 2) w (by omega) h
      simp only [show ((x + 2 : Nat) : Int) = (x : Int) + 1 + 1 by omega] at C2
      have CII := Lib.hid C2
      clear CM C2
      go_wp2_with fail
      refine wp_region_held_drew (S := fun y : World => Below wr.heap.size wr y) (by kernel_rfl) ?_ (fun hHeld => ?_)
      · exact (Below.refl _ _).drew
      refine wpAnyH_take (i := 0) (oi := ⟨some 21, _, _, _, _, _⟩) (v := ?_) rfl (by kernel_rfl) (by kernel_rfl) (by kernel_rfl) (fun _ _ _ h => h) (Or.inl ⟨by rfl, ?_⟩) (by assumption) ?_
      case refine_2 => (intro w hSw; skip; go_simp; first | done | with_reducible rfl)
      simp only [Act.put, List.setIfInBounds_toArray, List.set_cons_zero, List.set_cons_succ]
      refine wpAnyH_take (i := 1) (oi := ⟨some 22, _, _, _, _, _⟩) (v := ?_) rfl (by kernel_rfl) (by kernel_rfl) (by kernel_rfl) (fun _ _ _ h => h) (Or.inl ⟨by rfl, ?_⟩) (by assumption) ?_
      case refine_2 => (intro w hSw; skip; go_simp; first | done | with_reducible rfl)
      simp only [Act.put, List.setIfInBounds_toArray, List.set_cons_zero, List.set_cons_succ]
      refine wpAnyH_take (i := 2) (oi := ⟨some 23, _, _, _, _, _⟩) (v := ?_) rfl (by kernel_rfl) (by kernel_rfl) (by kernel_rfl) (fun _ _ _ h => h) (Or.inl ⟨by rfl, ?_⟩) (by assumption) ?_
      case refine_2 => (intro w hSw; skip; go_simp; first | done | with_reducible rfl)
      simp only [Act.put, List.setIfInBounds_toArray, List.set_cons_zero, List.set_cons_succ]
      refine wpAnyH_take (i := 3) (oi := ⟨some 24, _, _, _, _, _⟩) (v := ?_) rfl (by kernel_rfl) (by kernel_rfl) (by kernel_rfl) (fun _ _ _ h => h) (Or.inl ⟨by rfl, ?_⟩) (by assumption) ?_
      case refine_2 => (intro w hSw; skip; go_simp; first | done | with_reducible rfl)
      simp only [Act.put, List.setIfInBounds_toArray, List.set_cons_zero, List.set_cons_succ]
      refine wpAnyH_take (i := 4) (oi := ⟨some 25, _, _, _, _, _⟩) (v := ?_) rfl (by kernel_rfl) (by kernel_rfl) (by kernel_rfl) (fun _ _ _ h => h) (Or.inl ⟨by rfl, ?_⟩) (by assumption) ?_
      case refine_2 => (intro w hSw; have p := (hSw.cell (p := ⟨b, o + q * 3 + 1, none⟩) hb).trans q1; go_simp; first | done | with_reducible rfl)
      simp only [Act.put, List.setIfInBounds_toArray, List.set_cons_zero, List.set_cons_succ]
      refine wpAnyH_take (i := 5) (oi := ⟨some 26, _, _, _, _, _⟩) (v := ?_) rfl (by kernel_rfl) (by kernel_rfl) (by kernel_rfl) (fun _ _ _ h => h) (Or.inl ⟨by rfl, ?_⟩) (by assumption) ?_
      case refine_2 => (intro w hSw; skip; go_simp; first | done | with_reducible rfl)
      simp only [Act.put, List.setIfInBounds_toArray, List.set_cons_zero, List.set_cons_succ]
      refine wpAnyH_ready (rs := [6]) (by kernel_rfl) (by simp) ?_
      refine AllReadyH.cons (o := ⟨some 27, _, _, _, _, _⟩) rfl (fun K hK => ?_) AllReadyH.nil
      go_simp
      refine (CMM.out _).mono ?_; rintro e w4 ⟨rfl, b4⟩
      go_wp2_with fail
      refine hK.out _ _ (bl_trans hHeld b4) (fun hHeld => ?_)
      clear hK K
      try simp only [Act.put, List.setIfInBounds_toArray, List.set_cons_zero, List.set_cons_succ]
      refine wpAnyH_take (i := 7) (oi := ⟨some 28, _, _, _, _, _⟩) (v := ?_) rfl (by kernel_rfl) (by kernel_rfl) (by kernel_rfl) (fun _ _ _ h => h) (Or.inl ⟨by rfl, ?_⟩) (by assumption) ?_
      case refine_2 => (intro w hSw; skip; go_simp; first | done | with_reducible rfl)
      simp only [Act.put, List.setIfInBounds_toArray, List.set_cons_zero, List.set_cons_succ]
      refine wpAnyH_done (by kernel_rfl) ?_ _
      have t2 := (b4.cell (p := ⟨b, o + q * 3 + 2, none⟩) hb).trans q2
      have L4 := bl_trans (hL.drew) b4
      have s4 := b4.size
      have hS4 := hSk.keep (w' := w4) (fun p _ h2 => b4.cell (p := p) (Nat.lt_of_lt_of_le h2 hlL)) (Nat.zero_le _) (Nat.le_trans hlL s4)
      clear q0 q1 q2 CMM hSk
      go_wp2_with fail
      refine (CII.out _ hS4).mono ?_; rintro e w5 ⟨rfl, b5⟩
      clear t2 CII hS4
      go_wp2_with fail
      go_roundw
      case rel => exact ⟨q + 1, x + 2 + 2 * kids.size, by omega, by go_num, rfl, HKS.out, bl_trans L4 b5⟩
      case measure => (simp [intOf] <;> omega)
    · obtain rfl : q = fr.len := by omega
      rw [Fr.drop_all] at hall
      obtain rfl : x = K := hall
      clear hx
      go_wp2_with fail
      go_ret
      exact ⟨rfl, hL⟩
theorem heldD_any (N : Nat) (hN : N ≤ 1048576) : ∀ (fr : Fr (Int × ByteArray)), fr.size ≤ N → ∀ (A : Option Addr) (c k : Nat) (w : World), k + 2 * fr.size ≤ 1073741824 → Sl rexC w 0 w.heap.size A (mkd k fr) → Calls Try.prog 63 #[.slice A fr.len c, .int .i64 k] w fun e w' => e = .returned (.int .i64 ((k + 2 * fr.size : Nat) : Int)) ∧ Below w.heap.size w w' := by
  induction N with
  | zero =>
    intro fr hs A c k w hk hS
    obtain rfl := Fr.size_pos (Nat.le_zero.1 hs)
    exact heldD_step .nil A c k w (by simp [Fr.len]) hk hS (fun kids h => by simp [Fr.size] at h)
  | succ N ih =>
    intro fr hs A c k w hk hS
    exact heldD_step fr A c k w (by have := fr.len_size; omega) hk hS (fun kids h => ih (by omega) kids (by omega))
set_option maxHeartbeats 1000000 in
theorem markD (zk : Int) (zs : ByteArray) (kids : Fr (Int × ByteArray)) (A : Option Addr) (c : Nat) (F : List Nat) (w : World) (hn : kids.size ≤ 1048576) (hF : ∀ b ∈ F, b < w.heap.size) (hN : F.Nodup) (hS : DjT w A kids F) :
    Calls Try.prog 35 #[.agg #[.int .i64 zk, .string zs, .slice A kids.len c], .int .i64 1] w fun e w' => e = .returned (.int .i64 ((1 + 2 * kids.size : Nat) : Int)) ∧ MkD F w w' ∧ DjT w' A (mkd 1 kids) F := by
  have B := Blk.new w 30 #[.int .i64 zk, .string zs, .slice A kids.len c]
  have b0 := bl_alloc (Below.refl w.heap.size w) (.cells #[.int .i64 zk, .string zs, .slice A kids.len c] 30)
  have C := markD_any kids.size hn kids (Nat.le_refl _) A c 1 F (w.alloc (.cells #[.int .i64 zk, .string zs, .slice A kids.len c] 30)) (by omega) (fun j hj => by rw [alloc_size]; have := hF j hj; omega) hN (hS.keep (fun j hj => alB _ _ (hF j hj)))
  obtain ⟨K, hK⟩ : ∃ K, 1 + 2 * kids.size = K := ⟨_, rfl⟩
  rw [hK] at C ⊢
  have CC := Lib.hid C
  clear C hK
  have pB := B.cell
  go_enter Try.func35, Try.ntmps35
  go_wp2_with fail
  refine CC.out.mono ?_; rintro e w1 ⟨rfl, M1, hT⟩
  go_wp2_with fail
  go_ret
  exact ⟨rfl, (MkD.below b0).trans M1, hT⟩
set_option maxHeartbeats 1000000 in
theorem heldD (zk : Int) (zs : ByteArray) (kids : Fr (Int × ByteArray)) (A : Option Addr) (c : Nat) (w : World) (hn : kids.size ≤ 1048576) (hS : Sl rexC w 0 w.heap.size A (mkd 1 kids)) :
    Calls Try.prog 36 #[.agg #[.int .i64 zk, .string zs, .slice A kids.len c], .int .i64 1] w fun e w' => e = .returned (.int .i64 ((1 + 2 * kids.size : Nat) : Int)) ∧ Below w.heap.size w w' := by
  have B := Blk.new w 30 #[.int .i64 zk, .string zs, .slice A kids.len c]
  have b0 := bl_alloc (Below.refl w.heap.size w) (.cells #[.int .i64 zk, .string zs, .slice A kids.len c] 30)
  have C := heldD_any kids.size hn kids (Nat.le_refl _) A c 1 (w.alloc (.cells #[.int .i64 zk, .string zs, .slice A kids.len c] 30)) (by omega) ((hS.below b0 (Nat.le_refl _)).more (Nat.le_refl _) b0.size)
  obtain ⟨K, hK⟩ : ∃ K, 1 + 2 * kids.size = K := ⟨_, rfl⟩
  rw [hK] at C ⊢
  have CC := Lib.hid C
  clear C hK
  have pB := B.cell
  go_enter Try.func36, Try.ntmps36
  go_wp2_with fail
  refine CC.out.mono ?_; rintro e w1 ⟨rfl, b1⟩
  go_wp2_with fail
  go_ret
  exact ⟨rfl, bl_trans b0 b1⟩

end Go.Proofs.Ytdfcgnbklnceiaa
