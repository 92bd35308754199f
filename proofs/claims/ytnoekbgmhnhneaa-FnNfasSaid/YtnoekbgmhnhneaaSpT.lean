/- Walk over the reference's Spread. -/
import Derived.Test.YtnoekbgmhnhneaaSpS
import Derived.Test.YtnoekbgmhnhneaaSpR
import Derived.Test.YtnoekbgmhnhneaaNfaS
import Derived.Deep.RegionHeld3
import Derived.Deep.RegionWith
namespace Go.Proofs.Ytnoekbgmhnhneaa
open Go.RowKit

/-- What Spread hands back. -/
def SprO (zs : List (Int × ByteArray × Int × Int)) (a s : Int) (l R : List Int) : Prop := (nfaB zs = true → SprR zs a s l R) ∧ (nfaB zs = false → R = [])
def lenV : Value → Nat
  | .slice _ n _ => n
  | _ => 0
def tf : Value → Nat
  | .bool true => 1
  | _ => 0
set_option maxRecDepth 20000 in
set_option maxHeartbeats 4000000 in
theorem sSpread (zs : List (Int × ByteArray × Int × Int)) (l : List Int) (a s : Int) (A B0 : Option Addr) (cz cl : Nat) (w : World) (hz : zs.length ≤ 1048576) (hzx : ∀ z ∈ zs, z.2.1.size ≤ 9223372036854775807) (hl : l.length ≤ 1048577) (hRz : Reads w w.heap.size 4 A zs.length (flat nodeC zs)) (hRl : Reads w w.heap.size 1 B0 l.length (zints l)) :
    Calls Try.prog 10 #[.agg #[.slice A zs.length cz], .slice B0 l.length cl, .int .i64 a, .int .i64 s] w fun e w' => RdZ (SprO zs a s l) e w' ∧ Below w.heap.size w w' := by
  have BN0 := Blk.new w 30 #[.slice A zs.length cz]
  have L0 := bl_alloc (Below.refl w.heap.size w) (.cells #[.slice A zs.length cz] 30)
  have L1 := bl_alloc L0 (.cells #[] 3)
  have cb := (BN0.alloc (.cells #[] 3)).cell
  have BN1 := BN0.alloc (.cells #[] 3)
  have hz' : (zs.length : Int) ≤ 1048576 := by omega
  have hl' : (l.length : Int) ≤ 1048577 := by omega
  obtain ⟨q, hq⟩ : ∃ q, nfaB zs = q := ⟨_, rfl⟩
  have cN := fun w h => sNfaOk A cz zs w h hzx hz
  simp only [hq] at cN
  have CN := Lib.hid cN
  have HQ := Lib.hid hq
  clear cN hq
  go_enter Try.func10, Try.ntmps10
  have hO0 := World.ownsRow_made (e := 3) (size := 1) (base := w.heap.size) (w.alloc (.cells #[.slice A zs.length cz] 30)) #[] 0 L0.size (by simp [maxLen]) (by simp)
  rw [alloc_size] at hO0
  have hR0 := Row.mk hO0
  clear hO0
  go_wp2_with fail
  refine (CN.out _ (rd_below hRz L1)).mono ?_; rintro e w1 ⟨rfl, b1⟩
  have L2 := bl_trans L1 b1
  have BN2 := BN1.keep b1
  have hR1 := (hR0.keep b1).reads
  clear cb hR0 BN1 BN0 L0
  cases q
  · go_wp2_with fail
    go_ret
    exact ⟨⟨_, _, [], rfl, ⟨fun h => absurd (HQ.out.symm.trans h) (by simp), fun _ => rfl⟩, hR1⟩, L2⟩
  have hsm : zs.length ≤ 300 := by
    have h := HQ.out
    unfold nfaB at h
    rw [Bool.and_eq_true, Bool.and_eq_true] at h
    have := inI_iff.1 h.2.1
    omega
  go_wp2_with fail
  go_loopw [9, 10] (fun v i wr => ∃ (k : Nat) (S : List Int) (Av : Option Addr) (cv : Nat), k ≤ l.length ∧ i = .int .i64 k ∧ SpF zs l k S ∧ v = .slice Av S.length cv ∧ Reads wr wr.heap.size 1 Av S.length (zints S) ∧ Blk wr w.heap.size 30 #[.slice A zs.length cz] ∧ Below w.heap.size w wr) (fun _ i _ => l.length - (intOf i).toNat)
  case atStart => exact ⟨0, [], _, _, Nat.zero_le _, rfl, SpF.zero _ _, rfl, hR1, BN2, L2⟩
  case round =>
    clear BN2 L2 hR1
    obtain ⟨k, S, Av, cv, hk, rfl, hS, rfl, hRd, BN, hL⟩ := hrel
    have cb := BN.cell
    have hSb := hS.bound
    by_cases hlt : k < l.length
    · have hlt' : (k : Int) < (l.length : Int) := by omega
      obtain ⟨bl, ol, hAe, hbl0, hcl⟩ := hRl.2 (by omega)
      subst hAe
      have hbl : bl < wr.heap.size := Nat.lt_of_lt_of_le hbl0 hL.size
      have q0 := (hL.cell (p := ⟨bl, ol + k, none⟩) hbl0).trans (hcl k _ (zints_get l hlt))
      have HS0 := Lib.hid (fun hn => hS.skip hlt hn)
      have HP0 := Lib.hid (fun T hn hp => hS.put (T := T) hlt hn hp)
      have HS := Lib.hid hS
      have hRis := Lib.hid hS.1
      clear hcl hS
      generalize l[k] = z at q0 HS0 HP0
      have cIn := fun w => sIn z 0 ((zs.length : Int) - 1) w
      obtain ⟨q, hq⟩ : ∃ q, inI z 0 ((zs.length : Int) - 1) = q := ⟨_, rfl⟩
      rw [hq] at cIn
      have CIn := Lib.hid cIn
      have ew : IntKind.i64.wrap ((zs.length : Int) - 1) = (zs.length : Int) - 1 := by rw [IntKind.wrap_i64]; omega
      clear cIn
      cases q
      · have HN := Lib.hid (HS0.out hq)
        clear hq HS0 HP0
        go_wp2_with fail
        refine wp_region_held_drew (S := (fun y => Below wr.heap.size wr y)) (by kernel_rfl) ?_ (fun hHeld => ?_)
        · exact (Below.refl _ _).drew
        refine wpAnyH_take (i := 0) (oi := ⟨some 24, _, _, _, _, _⟩) (v := ?_) rfl (by kernel_rfl) (by kernel_rfl) (by kernel_rfl) (fun _ _ _ h => h) (Or.inl ⟨by rfl, ?_⟩) (by assumption) ?_
        case refine_2 => (intro w hSw; skip; go_simp; first | done | with_reducible rfl)
        simp only [Act.put, List.setIfInBounds_toArray, List.set_cons_zero, List.set_cons_succ]
        refine wpAnyH_take (i := 1) (oi := ⟨some 25, _, _, _, _, _⟩) (v := ?_) rfl (by kernel_rfl) (by kernel_rfl) (by kernel_rfl) (fun _ _ _ h => h) (Or.inl ⟨by rfl, ?_⟩) (by assumption) ?_
        case refine_2 => (intro w hSw; skip; go_simp; first | done | with_reducible rfl)
        simp only [Act.put, List.setIfInBounds_toArray, List.set_cons_zero, List.set_cons_succ]
        refine wpAnyH_take (i := 2) (oi := ⟨some 26, _, _, _, _, _⟩) (v := ?_) rfl (by kernel_rfl) (by kernel_rfl) (by kernel_rfl) (fun _ _ _ h => h) (Or.inl ⟨by rfl, ?_⟩) (by assumption) ?_
        case refine_2 => (intro w hSw; skip; go_simp; (try rw [if_pos (by omega)]); first | done | with_reducible rfl)
        simp only [Act.put, List.setIfInBounds_toArray, List.set_cons_zero, List.set_cons_succ]
        refine wpAnyH_take (i := 3) (oi := ⟨some 27, _, _, _, _, _⟩) (v := ?_) rfl (by kernel_rfl) (by kernel_rfl) (by kernel_rfl) (fun _ _ _ h => h) (Or.inl ⟨by rfl, ?_⟩) (by assumption) ?_
        case refine_2 => (intro w hSw; have p := (BN.keep hSw).cell; have v0 := (hSw.cell (p := ⟨bl, ol + k, none⟩) hbl).trans q0; go_simp; first | done | with_reducible rfl)
        simp only [Act.put, List.setIfInBounds_toArray, List.set_cons_zero, List.set_cons_succ]
        refine wpAnyH_take (i := 4) (oi := ⟨some 28, _, _, _, _, _⟩) (v := ?_) rfl (by kernel_rfl) (by kernel_rfl) (by kernel_rfl) (fun _ _ _ h => h) (Or.inl ⟨by rfl, ?_⟩) (by assumption) ?_
        case refine_2 => (intro w hSw; skip; go_simp; first | done | with_reducible rfl)
        simp only [Act.put, List.setIfInBounds_toArray, List.set_cons_zero, List.set_cons_succ]
        refine wpAnyH_take (i := 5) (oi := ⟨some 29, _, _, _, _, _⟩) (v := ?_) rfl (by kernel_rfl) (by kernel_rfl) (by kernel_rfl) (fun _ _ _ h => h) (Or.inl ⟨by rfl, ?_⟩) (by assumption) ?_
        case refine_2 => (intro w hSw; have p := (BN.keep hSw).cell; have v0 := (hSw.cell (p := ⟨bl, ol + k, none⟩) hbl).trans q0; go_simp; first | done | with_reducible rfl)
        simp only [Act.put, List.setIfInBounds_toArray, List.set_cons_zero, List.set_cons_succ]
        refine wpAnyH_take (i := 6) (oi := ⟨some 30, _, _, _, _, _⟩) (v := ?_) rfl (by kernel_rfl) (by kernel_rfl) (by kernel_rfl) (fun _ _ _ h => h) (Or.inl ⟨by rfl, ?_⟩) (by assumption) ?_
        case refine_2 => (intro w hSw; skip; go_simp; first | done | with_reducible rfl)
        simp only [Act.put, List.setIfInBounds_toArray, List.set_cons_zero, List.set_cons_succ]
        refine wpAnyH_take (i := 7) (oi := ⟨some 31, _, _, _, _, _⟩) (v := ?_) rfl (by kernel_rfl) (by kernel_rfl) (by kernel_rfl) (fun _ _ _ h => h) (Or.inl ⟨by rfl, ?_⟩) (by assumption) ?_
        case refine_2 => (intro w hSw; skip; go_simp; first | done | with_reducible rfl)
        simp only [Act.put, List.setIfInBounds_toArray, List.set_cons_zero, List.set_cons_succ]
        refine wpAnyH_ready (rs := [8]) (by kernel_rfl) (by simp) ?_
        refine AllReadyH.cons (o := ⟨some 32, _, _, _, _, _⟩) rfl (fun K hK => ?_) AllReadyH.nil
        go_simp
        refine (CIn.out _).mono ?_; rintro e y0 ⟨rfl, rfl⟩
        go_wp2_with fail
        refine hK.out _ _ (hHeld) (fun hHeld => ?_)
        clear hK K
        try simp only [Act.put, List.setIfInBounds_toArray, List.set_cons_zero, List.set_cons_succ]
        refine wpAnyH_done (by kernel_rfl) ?_ _
        have hR5 := rd_below hRd hHeld
        go_wp2_with fail
        go_roundw
        case rel => exact ⟨k + 1, S, Av, cv, by omega, by go_num, HN.out, rfl, hR5, BN.keep hHeld, bl_trans hL hHeld⟩
        case measure => simp [intOf]; omega
      · have HN := Lib.hid (fun T hp => HP0.out T hq hp)
        clear hq HS0 HP0
        go_wp2_with fail
        refine wp_region_held_drew (S := (fun y => Below wr.heap.size wr y)) (by kernel_rfl) ?_ (fun hHeld => ?_)
        · exact (Below.refl _ _).drew
        refine wpAnyH_take (i := 0) (oi := ⟨some 24, _, _, _, _, _⟩) (v := ?_) rfl (by kernel_rfl) (by kernel_rfl) (by kernel_rfl) (fun _ _ _ h => h) (Or.inl ⟨by rfl, ?_⟩) (by assumption) ?_
        case refine_2 => (intro w hSw; skip; go_simp; first | done | with_reducible rfl)
        simp only [Act.put, List.setIfInBounds_toArray, List.set_cons_zero, List.set_cons_succ]
        refine wpAnyH_take (i := 1) (oi := ⟨some 25, _, _, _, _, _⟩) (v := ?_) rfl (by kernel_rfl) (by kernel_rfl) (by kernel_rfl) (fun _ _ _ h => h) (Or.inl ⟨by rfl, ?_⟩) (by assumption) ?_
        case refine_2 => (intro w hSw; skip; go_simp; first | done | with_reducible rfl)
        simp only [Act.put, List.setIfInBounds_toArray, List.set_cons_zero, List.set_cons_succ]
        refine wpAnyH_take (i := 2) (oi := ⟨some 26, _, _, _, _, _⟩) (v := ?_) rfl (by kernel_rfl) (by kernel_rfl) (by kernel_rfl) (fun _ _ _ h => h) (Or.inl ⟨by rfl, ?_⟩) (by assumption) ?_
        case refine_2 => (intro w hSw; skip; go_simp; (try rw [if_pos (by omega)]); first | done | with_reducible rfl)
        simp only [Act.put, List.setIfInBounds_toArray, List.set_cons_zero, List.set_cons_succ]
        refine wpAnyH_take (i := 3) (oi := ⟨some 27, _, _, _, _, _⟩) (v := ?_) rfl (by kernel_rfl) (by kernel_rfl) (by kernel_rfl) (fun _ _ _ h => h) (Or.inl ⟨by rfl, ?_⟩) (by assumption) ?_
        case refine_2 => (intro w hSw; have p := (BN.keep hSw).cell; have v0 := (hSw.cell (p := ⟨bl, ol + k, none⟩) hbl).trans q0; go_simp; first | done | with_reducible rfl)
        simp only [Act.put, List.setIfInBounds_toArray, List.set_cons_zero, List.set_cons_succ]
        refine wpAnyH_take (i := 4) (oi := ⟨some 28, _, _, _, _, _⟩) (v := ?_) rfl (by kernel_rfl) (by kernel_rfl) (by kernel_rfl) (fun _ _ _ h => h) (Or.inl ⟨by rfl, ?_⟩) (by assumption) ?_
        case refine_2 => (intro w hSw; skip; go_simp; first | done | with_reducible rfl)
        simp only [Act.put, List.setIfInBounds_toArray, List.set_cons_zero, List.set_cons_succ]
        refine wpAnyH_take (i := 5) (oi := ⟨some 29, _, _, _, _, _⟩) (v := ?_) rfl (by kernel_rfl) (by kernel_rfl) (by kernel_rfl) (fun _ _ _ h => h) (Or.inl ⟨by rfl, ?_⟩) (by assumption) ?_
        case refine_2 => (intro w hSw; have p := (BN.keep hSw).cell; have v0 := (hSw.cell (p := ⟨bl, ol + k, none⟩) hbl).trans q0; go_simp; first | done | with_reducible rfl)
        simp only [Act.put, List.setIfInBounds_toArray, List.set_cons_zero, List.set_cons_succ]
        refine wpAnyH_take (i := 6) (oi := ⟨some 30, _, _, _, _, _⟩) (v := ?_) rfl (by kernel_rfl) (by kernel_rfl) (by kernel_rfl) (fun _ _ _ h => h) (Or.inl ⟨by rfl, ?_⟩) (by assumption) ?_
        case refine_2 => (intro w hSw; skip; go_simp; first | done | with_reducible rfl)
        simp only [Act.put, List.setIfInBounds_toArray, List.set_cons_zero, List.set_cons_succ]
        refine wpAnyH_take (i := 7) (oi := ⟨some 31, _, _, _, _, _⟩) (v := ?_) rfl (by kernel_rfl) (by kernel_rfl) (by kernel_rfl) (fun _ _ _ h => h) (Or.inl ⟨by rfl, ?_⟩) (by assumption) ?_
        case refine_2 => (intro w hSw; skip; go_simp; first | done | with_reducible rfl)
        simp only [Act.put, List.setIfInBounds_toArray, List.set_cons_zero, List.set_cons_succ]
        refine wpAnyH_ready (rs := [8]) (by kernel_rfl) (by simp) ?_
        refine AllReadyH.cons (o := ⟨some 32, _, _, _, _, _⟩) rfl (fun K hK => ?_) AllReadyH.nil
        go_simp
        refine (CIn.out _).mono ?_; rintro e y0 ⟨rfl, rfl⟩
        go_wp2_with fail
        refine hK.out _ _ (hHeld) (fun hHeld => ?_)
        clear hK K
        try simp only [Act.put, List.setIfInBounds_toArray, List.set_cons_zero, List.set_cons_succ]
        refine wpAnyH_done (by kernel_rfl) ?_ _
        have hR5 := rd_below hRd hHeld
        have q1 := (hHeld.cell (p := ⟨bl, ol + k, none⟩) hbl).trans q0
        have BN5 := BN.keep hHeld
        have L5 := bl_trans hL hHeld
        clear q0 cb hRd BN hL
        generalize wr.drew = w5 at hR5 q1 BN5 L5 hHeld ⊢
        have CP := Lib.hid (sPutZ S Av cv z w5 (by omega) hRis.out hR5)
        go_wp2_with fail
        refine CP.out.mono ?_; rintro e w6 ⟨⟨v6, S6, rfl, hp6, hO6⟩, b6⟩
        have HP6 := Lib.hid (HN.out S6 hp6)
        clear hp6
        obtain ⟨A6, c6, rfl⟩ := hO6.form
        have hRd6 := hO6.reads
        go_wp2_with fail
        go_roundw
        case rel => exact ⟨k + 1, S6, A6, c6, by omega, by go_num, HP6.out, rfl, hRd6, BN5.keep b6, bl_trans L5 b6⟩
        case measure => simp [intOf]; omega
    · obtain rfl : k = l.length := by omega
      have HS := Lib.hid (hS.all a s)
      clear hS cb
      go_wp2_with fail
      go_loopw [9, 11] (fun v b wr => ∃ (S : List Int) (Av : Option Addr) (cv : Nat) (t : Bool), b = .bool t ∧ SpI zs a s l S ∧ (t = false → SprR zs a s l S) ∧ v = .slice Av S.length cv ∧ Reads wr wr.heap.size 1 Av S.length (zints S) ∧ Blk wr w.heap.size 30 #[.slice A zs.length cz] ∧ Below w.heap.size w wr) (fun v b _ => zs.length + 1 - lenV v + tf b)
      case atStart => exact ⟨S, Av, cv, true, rfl, HS.out, (fun h => by cases h), rfl, hRd, BN, hL⟩
      case round =>
        clear BN hL hRd HS hSb
        obtain ⟨S, Av, cv, t, rfl, hS, hT, rfl, hRd, BN, hL⟩ := hrel
        have cb := BN.cell
        have hSb := spI_bound HQ.out hS
        cases t
        · have HT := Lib.hid (hT rfl)
          clear hT hS
          go_wp2_with fail
          go_ret
          exact ⟨⟨_, _, S, rfl, ⟨fun _ => HT.out, fun h => absurd (HQ.out.symm.trans h) (by simp)⟩, hRd⟩, hL⟩
        · clear hT
          have C1 := Lib.hid (sSpread1 zs S a s A Av cz cv wr hz hzx (by omega) hS.1 (fun x hx => rch_in HQ.out (hS.2.1 x hx)) (rd_below hRz hL) hRd)
          have HS := Lib.hid hS
          clear hS
          go_wp2_with fail
          refine C1.out.mono ?_; rintro e w2 ⟨⟨A2, c2, S2, rfl, hn2, hRd2⟩, b2⟩
          have HS2 := Lib.hid (HS.out.next hn2)
          have hle := SpN.le HS.out hn2
          have hb2 := spI_bound HQ.out HS2.out
          have BN2 := BN.keep b2
          by_cases hg : S.length < S2.length
          · have hg' : (S.length : Int) < (S2.length : Int) := by omega
            clear hn2
            go_wp2_with fail
            go_roundw
            case rel => exact ⟨S2, A2, c2, true, rfl, HS2.out, (fun h => by cases h), rfl, hRd2, BN2, bl_trans hL b2⟩
            case measure => simp [lenV, tf]; omega
          · have hg' : ¬ (S.length : Int) < (S2.length : Int) := by omega
            have HD := Lib.hid (HS.out.done hn2 hg)
            clear hn2
            go_wp2_with fail
            go_roundw
            case rel => exact ⟨S2, A2, c2, false, rfl, HS2.out, fun _ => HD.out, rfl, hRd2, BN2, bl_trans hL b2⟩
            case measure => simp [lenV, tf]; omega

end Go.Proofs.Ytnoekbgmhnhneaa
