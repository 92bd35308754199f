/- Walk over the program's NfaMatches. -/
import Derived.Test.YtnoekbgmhnhneaaNmP
import Derived.Test.YtnoekbgmhnhneaaSpJ
import Derived.Test.YtnoekbgmhnhneaaOnI
import Derived.Deep.RegionHeld3
import Derived.Deep.RegionWith
import Derived.Deep.CutRange
import Derived.BigQuiet
namespace Go.Proofs.Ytnoekbgmhnhneaa
open Go.RowKit

/-- Has a row a number whose node is the end. -/
def has7 (zs : List (Int × ByteArray × Int × Int)) : List Int → Bool
  | [] => false
  | k :: R => (ndAt zs k).1 == 7 || has7 zs R
theorem has7_yes {zs : List (Int × ByteArray × Int × Int)} {R : List Int} {j : Nat} (h : j < R.length) (hn : ((ndAt zs R[j]).1 == 7) = true) : has7 zs (R.drop j) = true := by
  rw [List.drop_eq_getElem_cons h, has7, hn, Bool.true_or]
theorem has7_no {zs : List (Int × ByteArray × Int × Int)} {R : List Int} {j : Nat} (h : j < R.length) (hn : ((ndAt zs R[j]).1 == 7) = false) : has7 zs (R.drop j) = has7 zs (R.drop (j + 1)) := by
  rw [List.drop_eq_getElem_cons h, has7, hn, Bool.false_or]
theorem has7_true {zs : List (Int × ByteArray × Int × Int)} : ∀ {R : List Int}, has7 zs R = true → ∃ k, k ∈ R ∧ (ndAt zs k).1 = 7
  | [], h => by cases h
  | k :: R, h => by
    rw [has7, Bool.or_eq_true, beq_iff_eq] at h
    rcases h with h | h
    · exact ⟨k, List.mem_cons_self .., h⟩
    · obtain ⟨j, hj, hn⟩ := has7_true h
      exact ⟨j, List.mem_cons_of_mem _ hj, hn⟩
theorem has7_false {zs : List (Int × ByteArray × Int × Int)} : ∀ {R : List Int}, has7 zs R = false → ∀ k, k ∈ R → (ndAt zs k).1 ≠ 7
  | [], _, k, hk => by cases hk
  | j :: R, h, k, hk => by
    rw [has7, Bool.or_eq_false_iff] at h
    rcases List.mem_cons.1 hk with rfl | hk
    · intro e
      rw [e] at h
      exact absurd h.1 (by simp)
    · exact has7_false h.2 k hk
set_option maxHeartbeats 400000 in
theorem iDone (g : Nat) (zs : List (Int × ByteArray × Int × Int)) (A : Option Addr) (cz : Nat) (z : Int) (w : World) (hz0 : 0 ≤ z) (hz1 : z < zs.length) (hg : Blk w g 30 #[.slice A zs.length cz]) (hRz : Reads w w.heap.size 4 A zs.length (flat nodeC zs)) :
    Calls Try.prog 64 #[.int .i64 z, .pointer (some ⟨g, 0, none⟩)] w fun e w' => e = .returned (.bool ((ndAt zs z).1 == 7)) ∧ Below w.heap.size w w' := by
  have hzn : z.toNat < zs.length := by omega
  obtain ⟨bz, oz, hAe, hbz0, n0, _, _, _⟩ := rd_node hRz hzn
  subst hAe
  rw [ndAt_get hzn] at n0
  generalize (ndAt zs z).1 = x at n0 ⊢
  have hc := hg.cell
  go_enter Try.func64, Try.ntmps64
  go_wp2_with fail
  go_ret
  exact ⟨rfl, by repeat (first | exact Below.refl _ _ | refine bl_drewN ?_ _ | refine Below.drew ?_ | refine bl_alloc ?_ _ | refine bl_set ?_ (by simp) _ | refine bl_trans ?_ (by assumption))⟩
set_option maxHeartbeats 1000000 in
theorem iIndex7 (g : Nat) (zs : List (Int × ByteArray × Int × Int)) (A : Option Addr) (cz : Nat) (R : List Int) (B0 : Option Addr) (c : Nat) (w : World) (hl : R.length ≤ 1048576) (hin : ∀ x, x ∈ R → 0 ≤ x ∧ x < zs.length) (hg : Blk w g 30 #[.slice A zs.length cz]) (hRz : Reads w w.heap.size 4 A zs.length (flat nodeC zs)) (hR : Reads w w.heap.size 1 B0 R.length (zints R)) :
    Calls Try.prog 88 #[.slice B0 R.length c, .func (.func 64) #[] #[.pointer (some ⟨g, 0, none⟩)]] w fun e w' => RetInt (fun z => decide (0 ≤ z) = has7 zs R) e ∧ Below w.heap.size w w' := by
  have hl' : (R.length : Int) ≤ 1048576 := by omega
  obtain ⟨Q, hQ⟩ : ∃ Q, has7 zs R = Q := ⟨_, rfl⟩
  rw [hQ]
  have HQ := Lib.hid hQ
  clear hQ
  have L0 := Below.refl w.heap.size w
  go_enter Try.func88, Try.ntmps88
  go_wp2_with fail
  go_loopw [8] (fun i wr => ∃ k : Nat, k ≤ R.length ∧ i = .int .i64 k ∧ has7 zs (R.drop k) = Q ∧ Below w.heap.size w wr) (fun i _ => R.length - (intOf i).toNat)
  case atStart => exact ⟨0, Nat.zero_le _, rfl, by rw [List.drop_zero]; exact HQ.out, L0⟩
  case round =>
    clear L0
    obtain ⟨k, hk, rfl, hE, hL⟩ := hrel
    by_cases hlt : k < R.length
    · have hlt' : (k : Int) < (R.length : Int) := by omega
      obtain ⟨bl, ol, hAe, hbl0, hcl⟩ := hR.2 (by omega)
      subst hAe
      have q0 := (hL.cell (p := ⟨bl, ol + k, none⟩) hbl0).trans (hcl k _ (zints_get R hlt))
      have hzi := hin _ (List.getElem_mem hlt)
      have cC := iDone g zs A cz R[k] wr hzi.1 hzi.2 (hg.keep hL) (rd_below hRz hL)
      have hsu : ∀ b, ((ndAt zs R[k]).1 == 7) = b → (b = true → Q = true) ∧ (b = false → has7 zs (R.drop (k + 1)) = Q) := fun b hb => ⟨fun e => by rw [e] at hb; rw [← hE, has7_yes hlt hb], fun e => by rw [e] at hb; rw [← hE, has7_no hlt hb]⟩
      generalize ((ndAt zs R[k]).1 == 7) = b at cC hsu
      have CC := Lib.hid cC
      have HSU := Lib.hid (hsu b rfl)
      clear cC hsu hE hcl HQ
      generalize R[k] = z at q0 CC
      cases b
      · have HE := Lib.hid (HSU.out.2 rfl)
        clear HSU
        go_wp2_with fail
        refine CC.out.mono ?_; rintro e w1 ⟨rfl, b1⟩
        go_wp2_with fail
        go_roundw
        case rel => exact ⟨k + 1, by omega, by go_num, HE.out, bl_trans hL b1⟩
        case measure => simp [intOf]; omega
      · obtain rfl : Q = true := HSU.out.1 rfl
        clear HSU
        go_wp2_with fail
        refine CC.out.mono ?_; rintro e w1 ⟨rfl, b1⟩
        go_wp2_with fail
        go_ret
        exact ⟨⟨k, rfl, by simp⟩, bl_trans hL b1⟩
    · obtain rfl : k = R.length := by omega
      rw [List.drop_length] at hE
      have hQf : false = Q := hE
      subst hQf
      clear HQ hE
      go_wp2_with fail
      go_ret
      exact ⟨⟨-1, rfl, rfl⟩, hL⟩
set_option maxHeartbeats 1000000 in
theorem iHas7 (g : Nat) (zs : List (Int × ByteArray × Int × Int)) (A : Option Addr) (cz : Nat) (R : List Int) (B0 : Option Addr) (c : Nat) (w : World) (hl : R.length ≤ 1048576) (hin : ∀ x, x ∈ R → 0 ≤ x ∧ x < zs.length) (hg : Blk w g 30 #[.slice A zs.length cz]) (hRz : Reads w w.heap.size 4 A zs.length (flat nodeC zs)) (hR : Reads w w.heap.size 1 B0 R.length (zints R)) :
    Calls Try.prog 63 #[.slice B0 R.length c, .func (.func 64) #[] #[.pointer (some ⟨g, 0, none⟩)]] w fun e w' => e = .returned (.bool (has7 zs R)) ∧ Below w.heap.size w w' := by
  have C := Lib.hid (iIndex7 g zs A cz R B0 c w hl hin hg hRz hR)
  generalize has7 zs R = Q at C ⊢
  go_enter Try.func63, Try.ntmps63
  go_wp2_with fail
  refine C.out.mono ?_; rintro e w1 ⟨⟨z, rfl, hz⟩, b1⟩
  have HZ := Lib.hid hz
  clear hz
  go_wp2_with fail
  go_ret
  exact ⟨ret_bool HZ.out, b1⟩

set_option maxRecDepth 20000 in
set_option maxHeartbeats 4000000 in
theorem iNfaMatches (zs : List (Int × ByteArray × Int × Int)) (s : ByteArray) (A : Option Addr) (cz : Nat) (w : World) (hz : zs.length ≤ 1048576) (hzx : ∀ z ∈ zs, z.2.1.size ≤ 9223372036854775807) (hs : s.size ≤ 1048576) (hRz : Reads w w.heap.size 4 A zs.length (flat nodeC zs)) :
    Calls Try.prog 29 #[.agg #[.slice A zs.length cz], .string s] w fun e w' => RetBo (NmB zs s) e ∧ Below w.heap.size w w' := by
  have BN0 := Blk.new w 30 #[.slice A zs.length cz]
  have L0 := bl_alloc (Below.refl w.heap.size w) (.cells #[.slice A zs.length cz] 30)
  have hz' : (zs.length : Int) ≤ 1048576 := by omega
  have hs' : (s.size : Int) ≤ 1048576 := by omega
  obtain ⟨j0, hj, hy0, hy1, hy2⟩ := info_parts info_intz
  have hmf : ∀ (fn : Fn) (first cap : Array Value) (w : World), (Instr.makeFunc fn first cap).run Try.prog w = .ok (.func fn first cap) w := fun _ _ _ _ => rfl
  have cb := BN0.cell
  obtain ⟨q, hq⟩ : ∃ q, nfaB zs = q := ⟨_, rfl⟩
  have cN := fun w h => iNfaOk A cz zs w h hzx hz
  simp only [hq] at cN
  have CN := Lib.hid cN
  have HQ := Lib.hid hq
  clear cN hq
  go_enter Try.func29, Try.ntmps29
  go_wp2_with fail
  refine (CN.out _ (rd_below hRz L0)).mono ?_; rintro e w1 ⟨rfl, b1⟩
  have BN1 := BN0.keep b1
  have L1 := bl_trans L0 b1
  clear cb BN0 L0 CN
  cases q
  · go_wp2_with fail
    go_ret
    exact ⟨⟨false, rfl, NmB.bad HQ.out⟩, L1⟩
  go_wp2_with fail
  go_loopw [5, 6] (fun v i wr => ∃ (k : Nat) (l : List Int), k ≤ s.size + 1 ∧ i = .int .i64 k ∧ NmNo zs s k ∧ Whl (k ≤ s.size) (LRow zs s k l ∧ wr.ownsRow (w.heap.size + 1) 3 1 v l.length (zints l)) ∧ Blk wr w.heap.size 30 #[.slice A zs.length cz] ∧ Below w.heap.size w wr) (fun _ i _ => s.size + 1 - (intOf i).toNat)
  case atStart => exact ⟨0, [], Nat.zero_le _, rfl, NmNo.zero, fun _ => ⟨rfl, World.ownsRow_nil _ _ _ _⟩, BN1, L1⟩
  case round =>
    clear BN1 L1
    obtain ⟨k, l, hk, rfl, hno, hlO, BN, hL⟩ := hrel
    have hLs := hL.size
    by_cases hlt : k ≤ s.size
    · obtain ⟨hl, hO⟩ := hlO hlt
      clear hlO
      obtain ⟨Al, cl, rfl⟩ := (Row.mk hO).form
      have hll := hl.len_le
      have hlt' : (k : Int) ≤ (s.size : Int) := by omega
      have HLR := Lib.hid hl
      have HNO := Lib.hid hno
      clear hl hno
      have BN0 := BN.drew.alloc (.cells #[.int .i64 0] 3)
      have hO0 := hO.drew
      obtain ⟨l2, hl2⟩ : ∃ l2, l2 = l ++ [(0 : Int)] := ⟨_, rfl⟩
      have HN2 := Lib.hid (show l.length + 1 = l2.length by rw [hl2]; simp)
      have hlen2 : l2.length ≤ 1048577 := by rw [← HN2.out]; omega
      have HL2 := Lib.hid hl2
      clear hl2
      have CS := Lib.hid fun A' c' w h h' => iSpread0 zs l2 k s.size A A' cz c' w hz hzx HQ.out hlen2 h h'
      have hrs : wr.drew.heap.size = wr.heap.size := rfl
      have hZ : Reads (wr.drew.alloc (.cells #[.int .i64 0] 3)) (wr.heap.size + 1) 1 (some ⟨wr.heap.size, 0, none⟩) 1 [.int .i64 0] := ⟨rfl, fun _ => ⟨_, _, rfl, Nat.lt_succ_self _, fun j u hu => by
        rw [Nat.zero_add]
        exact ((Blk.new wr.drew 3 #[.int .i64 0]).cell j).trans (by simpa using hu)⟩⟩
      go_upto_region 7 with fail
      refine wp_region_held_drew (S := (fun y => Blk y w.heap.size 30 #[.slice A zs.length cz])) (by kernel_rfl) ?_ (fun hHeld => ?_)
      · exact BN.drew
      refine wpAnyH_take (i := 0) (oi := ⟨some 16, _, _, _, _, _⟩) (v := ?_) rfl (by kernel_rfl) (by kernel_rfl) (by kernel_rfl) (fun _ _ _ h => h) (Or.inl ⟨by rfl, ?_⟩) (by assumption) ?_
      case refine_2 => (intro w hSw; have p := hSw.cell; go_simp; first | done | with_reducible rfl)
      simp only [Act.put, List.setIfInBounds_toArray, List.set_cons_zero, List.set_cons_succ]
      refine wpAnyH_take (i := 1) (oi := ⟨some 17, _, _, _, _, _⟩) (v := ?_) rfl (by kernel_rfl) (by kernel_rfl) (by kernel_rfl) (fun _ _ _ h => h) (Or.inl ⟨by rfl, ?_⟩) (by assumption) ?_
      case refine_2 => (intro w hSw; skip; go_simp; first | done | with_reducible rfl)
      simp only [Act.put, List.setIfInBounds_toArray, List.set_cons_zero, List.set_cons_succ]
      refine wpAnyH_take (i := 4) (oi := ⟨some 20, _, _, _, _, _⟩) (v := ?_) rfl (by kernel_rfl) (by kernel_rfl) (by kernel_rfl) (fun _ _ _ h => h) (Or.inl ⟨by rfl, ?_⟩) (by assumption) ?_
      case refine_2 => (intro w hSw; skip; go_simp; first | done | with_reducible rfl)
      simp only [Act.put, List.setIfInBounds_toArray, List.set_cons_zero, List.set_cons_succ]
      refine wpAnyH_take (i := 5) (oi := ⟨some 21, _, _, _, _, _⟩) (v := ?_) rfl (by kernel_rfl) (by kernel_rfl) (by kernel_rfl) (fun _ _ _ h => h) (Or.inl ⟨by rfl, ?_⟩) (by assumption) ?_
      case refine_2 => (intro w hSw; skip; go_simp; first | done | with_reducible rfl)
      simp only [Act.put, List.setIfInBounds_toArray, List.set_cons_zero, List.set_cons_succ]
      refine wpAnyH_take (i := 6) (oi := ⟨some 22, _, _, _, _, _⟩) (v := ?_) rfl (by kernel_rfl) (by kernel_rfl) (by kernel_rfl) (fun _ _ _ h => h) (Or.inl ⟨by rfl, ?_⟩) (by assumption) ?_
      case refine_2 => (intro w hSw; skip; go_simp; first | done | with_reducible rfl)
      simp only [Act.put, List.setIfInBounds_toArray, List.set_cons_zero, List.set_cons_succ]
      refine wpAnyH_ready (rs := [2]) (by kernel_rfl) (by simp) ?_
      refine AllReadyH.cons (o := ⟨some 18, _, _, _, _, _⟩) rfl (fun K hK => ?_) AllReadyH.nil
      go_simp
      go_wp2_with fail
      refine hK.out _ _ (BN0) (fun hHeld => ?_)
      clear hK K
      try simp only [Act.put, List.setIfInBounds_toArray, List.set_cons_zero, List.set_cons_succ]
      refine wpAnyH_ready (rs := [3]) (by kernel_rfl) (by simp) ?_
      refine AllReadyH.cons (o := ⟨some 19, _, _, _, _, _⟩) rfl (fun K hK => ?_) AllReadyH.nil
      refine step_append_any _ rfl (.tmp 17) (.tmp 18) 25 rfl (w.heap.size + 1) 3 j0 (.int .i64 0) 1 8 Try.underlying25 hj hy0 hy1 hy2 rfl (by decide) _ _ _ rfl (hO0.alloc _) (wr.heap.size + 1) _ _ _ [.int .i64 0] rfl hZ (fun u hu => by obtain rfl := List.mem_singleton.1 hu; rfl) (by unfold maxLen; omega) (by omega) (by show _ ≤ (wr.alloc _).heap.size; rw [alloc_size]; omega) ?_
      intro v' w5 hO5 hg5 _
      rw [zints_snoc, ← HL2.out, HN2.out] at hO5
      obtain ⟨A5, c5, rfl⟩ := (Row.mk hO5).form
      have L5 := bl_gr (bl_alloc hL.drew (.cells #[.int .i64 0] 3)) hg5 (fun j e => by have := (hO0.lt j e).1; omega)
      have hR5 := (Row.mk hO5).reads
      have hB5 := BN0.grown hg5 (fun e => by have := (hO0.lt _ e.symm).1; omega)
      refine hK.out _ _ (hB5) (fun hHeld => ?_)
      clear hK K
      try simp only [Act.put, List.setIfInBounds_toArray, List.set_cons_zero, List.set_cons_succ]
      refine wpAnyH_ready (rs := [7]) (by kernel_rfl) (by simp) ?_
      refine AllReadyH.cons (o := ⟨some 23, _, _, _, _, _⟩) rfl (fun K hK => ?_) AllReadyH.nil
      go_simp
      refine (CS.out _ _ _ (rd_below hRz L5) hR5).mono ?_; rintro e w6 ⟨⟨v6, R6, rfl, hR6, hO6⟩, b6⟩
      go_wp2_with fail
      refine hK.out _ _ (hB5.keep b6) (fun hHeld => ?_)
      clear hK K
      try simp only [Act.put, List.setIfInBounds_toArray, List.set_cons_zero, List.set_cons_succ]
      refine wpAnyH_take (i := 8) (oi := ⟨some 5, _, _, _, _, _⟩) (v := ?_) rfl (by kernel_rfl) (by kernel_rfl) (by kernel_rfl) (fun _ _ _ h => h) (Or.inl ⟨by rfl, ?_⟩) (by assumption) ?_
      case refine_2 => (intro w hSw; skip; go_simp; first | done | with_reducible rfl)
      simp only [Act.put, List.setIfInBounds_toArray, List.set_cons_zero, List.set_cons_succ]
      refine wpAnyH_done (by kernel_rfl) ?_ _
      obtain ⟨A6, c6, rfl⟩ := hO6.form
      have L6 := bl_trans L5 b6
      have BN6 := hHeld
      have hR6' : SprO zs k s.size (l ++ [0]) R6 := by
        rw [← HL2.out]
        exact ⟨fun _ => hR6, fun h => absurd (HQ.out.symm.trans h) (by simp)⟩
      have hlen6 := hR6'.len_le
      have hin6 := fun x hx => hR6'.in_ (x := x) hx
      have hRd6 := hO6.reads
      have HR6 := Lib.hid hR6'
      have cC := iHas7 w.heap.size zs A cz R6 A6 c6 w6 (by omega) hin6 BN6 (rd_below hRz L6) hRd6
      have HY0 := Lib.hid (fun (h : has7 zs R6 = true) => by
        obtain ⟨x, hx, h7⟩ := has7_true h
        exact NmB.yes hlt HLR.out HR6.out hx h7)
      have HN0 := Lib.hid (fun (h : has7 zs R6 = false) => HNO.out.next HLR.out HR6.out (has7_false h))
      clear hHeld hR5 hO5 hg5 hB5 L5 b6 hR6 hR6' CS BN0 hO0 hZ hrs BN hL hO hlen2 hin6
      generalize has7 zs R6 = h7 at cC HY0 HN0
      have CC := Lib.hid cC
      clear cC
      go_wp2_with fail
      refine CC.out.mono ?_; rintro e w7 ⟨rfl, b7⟩
      have L8 := bl_trans L6 b7
      have BN8 := BN6.keep b7
      have hR8 := rd_below hRd6 b7
      clear L6 BN6 hRd6 hO6 b7 CC
      cases h7
      · have HX := Lib.hid (HN0.out rfl)
        clear HY0 HN0
        by_cases hlk : k < s.size
        · have hlk' : (k : Int) < (s.size : Int) := by omega
          have hb0 : (s[k].toNat : Int) < 256 := by have := s[k].toNat_lt; omega
          have hch := chB_get hlk
          have HNX := Lib.hid (fun m (hm : OnR zs (chB s k) R6 m) => HLR.out.next HR6.out hm)
          rw [hch] at HNX
          clear hch
          have CO := Lib.hid fun w h h' => iOnward zs R6 (s[k].toNat : Int) A A6 cz c6 w hz hzx (by omega) h h'
          go_wp2_with fail
          refine wp_region_held_drew (S := (fun y => Blk y w.heap.size 30 #[.slice A zs.length cz])) (by kernel_rfl) ?_ (fun hHeld => ?_)
          · exact BN8.drew
          refine wpAnyH_take (i := 0) (oi := ⟨some 31, _, _, _, _, _⟩) (v := ?_) rfl (by kernel_rfl) (by kernel_rfl) (by kernel_rfl) (fun _ _ _ h => h) (Or.inl ⟨by rfl, ?_⟩) (by assumption) ?_
          case refine_2 => (intro w hSw; have p := hSw.cell; go_simp; first | done | with_reducible rfl)
          simp only [Act.put, List.setIfInBounds_toArray, List.set_cons_zero, List.set_cons_succ]
          refine wpAnyH_take (i := 1) (oi := ⟨some 32, _, _, _, _, _⟩) (v := ?_) rfl (by kernel_rfl) (by kernel_rfl) (by kernel_rfl) (fun _ _ _ h => h) (Or.inl ⟨by rfl, ?_⟩) (by assumption) ?_
          case refine_2 => (intro w hSw; skip; go_simp; first | done | with_reducible rfl)
          simp only [Act.put, List.setIfInBounds_toArray, List.set_cons_zero, List.set_cons_succ]
          refine wpAnyH_take (i := 2) (oi := ⟨some 33, _, _, _, _, _⟩) (v := ?_) rfl (by kernel_rfl) (by kernel_rfl) (by kernel_rfl) (fun _ _ _ h => h) (Or.inl ⟨by rfl, ?_⟩) (by assumption) ?_
          case refine_2 => (intro w hSw; skip; go_simp; first | done | with_reducible rfl)
          simp only [Act.put, List.setIfInBounds_toArray, List.set_cons_zero, List.set_cons_succ]
          refine wpAnyH_take (i := 3) (oi := ⟨some 34, _, _, _, _, _⟩) (v := ?_) rfl (by kernel_rfl) (by kernel_rfl) (by kernel_rfl) (fun _ _ _ h => h) (Or.inl ⟨by rfl, ?_⟩) (by assumption) ?_
          case refine_2 => (intro w hSw; skip; go_simp; first | done | with_reducible rfl)
          simp only [Act.put, List.setIfInBounds_toArray, List.set_cons_zero, List.set_cons_succ]
          refine wpAnyH_take (i := 4) (oi := ⟨some 35, _, _, _, _, _⟩) (v := ?_) rfl (by kernel_rfl) (by kernel_rfl) (by kernel_rfl) (fun _ _ _ h => h) (Or.inl ⟨by rfl, ?_⟩) (by assumption) ?_
          case refine_2 => (intro w hSw; skip; go_simp; first | done | with_reducible rfl)
          simp only [Act.put, List.setIfInBounds_toArray, List.set_cons_zero, List.set_cons_succ]
          refine wpAnyH_ready (rs := [5]) (by kernel_rfl) (by simp) ?_
          refine AllReadyH.cons (o := ⟨some 36, _, _, _, _, _⟩) rfl (fun K hK => ?_) AllReadyH.nil
          go_simp
          refine (CO.out _ (rd_below hRz L8.drew) hR8.drew).mono ?_; rintro e w9 ⟨⟨v9, m9, rfl, hm9, hO9⟩, b9⟩
          go_wp2_with fail
          refine hK.out _ _ (BN8.drew.keep b9) (fun hHeld => ?_)
          clear hK K
          try simp only [Act.put, List.setIfInBounds_toArray, List.set_cons_zero, List.set_cons_succ]
          refine wpAnyH_take (i := 6) (oi := ⟨some 5, _, _, _, _, _⟩) (v := ?_) rfl (by kernel_rfl) (by kernel_rfl) (by kernel_rfl) (fun _ _ _ h => h) (Or.inl ⟨by rfl, ?_⟩) (by assumption) ?_
          case refine_2 => (intro w hSw; skip; go_simp; first | done | with_reducible rfl)
          simp only [Act.put, List.setIfInBounds_toArray, List.set_cons_zero, List.set_cons_succ]
          refine wpAnyH_done (by kernel_rfl) ?_ _
          have L9 := bl_trans (L8.drew) b9
          have BN9 := hHeld
          have HL9 := Lib.hid (HNX.out _ hm9)
          clear hHeld b9 hm9
          go_wp2_with fail
          go_roundw
          case rel => exact ⟨k + 1, m9, by omega, by go_num, HX.out, fun _ => ⟨HL9.out, own_base hO9.1 BN8.drew.lt⟩, BN9, L9⟩
          case measure => simp [intOf]; omega
        · have hlk' : ¬ (k : Int) < (s.size : Int) := by omega
          go_wp2_with fail
          go_roundw
          case rel => exact ⟨k + 1, [], by omega, by go_num, HX.out, fun h => absurd h (by omega), BN8, L8⟩
          case measure => simp [intOf]; omega
      · have HY := Lib.hid (HY0.out rfl)
        clear HY0 HN0
        go_wp2_with fail
        go_ret
        exact ⟨⟨true, rfl, HY.out⟩, L8⟩
    · obtain rfl : k = s.size + 1 := by omega
      have hn : ¬ ((s.size : Int) + 1 ≤ (s.size : Int)) := by omega
      clear hlO
      have HB := Lib.hid (NmB.no hno)
      clear hno
      go_wp2_with fail
      go_ret
      exact ⟨⟨false, rfl, HB.out⟩, hL⟩

end Go.Proofs.Ytnoekbgmhnhneaa
