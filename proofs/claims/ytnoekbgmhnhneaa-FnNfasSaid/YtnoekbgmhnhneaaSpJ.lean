/- Walks over the program's spread and Spread. -/
import Derived.Test.YtnoekbgmhnhneaaSpI
import Derived.Test.YtnoekbgmhnhneaaSpT
import Derived.Test.YtnoekbgmhnhneaaNfaI
import Derived.Deep.CutRange
namespace Go.Proofs.Ytnoekbgmhnhneaa
open Go.RowKit

theorem Blk.new3 (w : World) (o p : Obj) (t : TypeId) (cs : Array Value) : Blk (((w.alloc o).alloc p).alloc (.cells cs t)) (w.heap.size + 1 + 1) t cs := by
  have := Blk.new2 (w.alloc o) p t cs
  rw [alloc_size] at this
  exact this
theorem VisAll.start (zs : List (Int × ByteArray × Int × Int)) (a s : Int) : VisAll zs a s ([] : List Int) (MV zs.length (fun _ => false)) := by
  unfold VisAll
  refine ⟨fun x h => ?_, fun x h => ?_, fun x h => ?_⟩
  · cases h
  · exact absurd h.2.2 (by simp)
  · exact absurd h.2.2 (by simp)
set_option maxRecDepth 20000 in
set_option maxHeartbeats 4000000 in
theorem iSpread0 (zs : List (Int × ByteArray × Int × Int)) (l : List Int) (a s : Int) (A B0 : Option Addr) (cz cl : Nat) (w : World) (hz : zs.length ≤ 1048576) (hzx : ∀ z ∈ zs, z.2.1.size ≤ 9223372036854775807) (hzn : nfaB zs = true) (hl : l.length ≤ 1048577) (hRz : Reads w w.heap.size 4 A zs.length (flat nodeC zs)) (hRl : Reads w w.heap.size 1 B0 l.length (zints l)) :
    Calls Try.prog 46 #[.agg #[.slice A zs.length cz], .slice B0 l.length cl, .int .i64 a, .int .i64 s] w fun e w' => RetZ (SprR zs a s l) w e w' ∧ Below w.heap.size w w' := by
  have hz' : (zs.length : Int) ≤ 1048576 := by omega
  have hl' : (l.length : Int) ≤ 1048577 := by omega
  obtain ⟨i0, hi, hz0, hz1, hz2⟩ := info_parts info_bool
  obtain ⟨j0, hj, hy0, hy1, hy2⟩ := info_parts info_intz
  have hmf : ∀ (fn : Fn) (first cap : Array Value) (w : World), (Instr.makeFunc fn first cap).run Try.prog w = .ok (.func fn first cap) w := fun _ _ _ _ => rfl
  have hsf : ∀ (p : Addr) (m : Mode) (fn : Fn) (first cap : Array Value) (w : World), (store p (.func fn first cap) m).run Try.prog w = stored Try.prog w p (.func fn first cap) m := fun p m _ _ _ w => run_store _ w p _ m rfl
  go_enter Try.func46, Try.ntmps46
  go_upto_region 1 with fail
  have BN := ((Blk.new w 30 #[.slice A zs.length cz]).alloc (.cells #[.int .i64 a] 3)).alloc (.cells #[.int .i64 s] 3)
  have BA := (Blk.new2 w (.cells #[.slice A zs.length cz] 30) 3 #[.int .i64 a]).alloc (.cells #[.int .i64 s] 3)
  have BS := Blk.new3 w (.cells #[.slice A zs.length cz] 30) (.cells #[.int .i64 a] 3) 3 #[.int .i64 s]
  have L3 := bl_alloc (bl_alloc (bl_alloc (Below.refl w.heap.size w) (.cells #[.slice A zs.length cz] 30)) (.cells #[.int .i64 a] 3)) (.cells #[.int .i64 s] 3)
  have cn := BN.cell
  generalize w.heap.size + 1 = ba at BA BS ⊢
  generalize ba + 1 = bs at BS ⊢
  generalize ((w.alloc (.cells #[.slice A zs.length cz] 30)).alloc (.cells #[.int .i64 a] 3)).alloc (.cells #[.int .i64 s] 3) = w3 at BN BA BS L3 cn ⊢
  have s3 := L3.size
  go_upto_region 4 with (at_make; refine wpList_makeN rfl _ _ 99 rfl 4 i0 (.bool false) 1 1 Try.underlying99 hi hz0 hz1 hz2 rfl _ _ zs.length rfl rfl (by omega) (by omega) ?_)
  intro w4 hO4 b4
  go_upto_region 2 with fail
  rw [bools_zero] at hO4
  have s4 := b4.size
  have V4 : Vec w4 w3.heap.size w4.heap.size (.slice (some ⟨w3.heap.size, 0, none⟩) zs.length zs.length) zs.length (fun _ => false) := Row.mk hO4
  have a5 := bl_alloc (Below.refl w4.heap.size w4) (.cells #[.slice (some ⟨w3.heap.size, 0, none⟩) zs.length zs.length] 99)
  have BM := Blk.new w4 99 #[.slice (some ⟨w3.heap.size, 0, none⟩) zs.length zs.length]
  have BN5 := (BN.keep b4).keep a5
  have BA5 := (BA.keep b4).keep a5
  have BS5 := (BS.keep b4).keep a5
  have V5 := V4.keep a5
  have L5 := bl_trans (bl_trans L3 b4) a5
  have hlo : w.heap.size ≤ w3.heap.size := s3
  have hhi : w3.heap.size < w4.heap.size := (hO4.lt _ rfl).2
  clear hO4 BN BA BS V4 b4 cn L3 
  generalize w4.alloc (.cells #[.slice (some ⟨w3.heap.size, 0, none⟩) zs.length zs.length] 99) = w5 at BM BN5 BA5 BS5 V5 L5 a5 ⊢
  generalize w4.heap.size = bm at BM V5 a5 hhi ⊢
  generalize w3.heap.size = g at BM V5 hlo hhi ⊢
  clear a5 s3 s4
  go_upto_region 4 with fail
  have bv_ := Blk.new w5 100 #[.func (.func 77) #[] #[.pointer (some ⟨bm, 0, none⟩), .pointer (some ⟨w.heap.size, 0, none⟩), .pointer (some ⟨w5.heap.size, 0, none⟩), .pointer (some ⟨ba, 0, none⟩), .pointer (some ⟨bs, 0, none⟩)]]
  have a6 := bl_alloc (Below.refl w5.heap.size w5) (.cells #[.func (.func 77) #[] #[.pointer (some ⟨bm, 0, none⟩), .pointer (some ⟨w.heap.size, 0, none⟩), .pointer (some ⟨w5.heap.size, 0, none⟩), .pointer (some ⟨ba, 0, none⟩), .pointer (some ⟨bs, 0, none⟩)]] 100)
  have L6 := bl_trans L5 a6
  have W6 : VisW _ w.heap.size bm w.heap.size w5.heap.size ba bs g zs.length cz g bm A zs a s (fun _ => false) := ⟨BM.keep a6, BN5.keep a6, bv_, BA5.keep a6, BS5.keep a6, V5.keep a6, hRz.below L6, L6.size, hlo⟩
  clear BM BN5 BA5 BS5 V5 L5 bv_ a6
  generalize w5.alloc (.cells #[.func (.func 77) #[] #[.pointer (some ⟨bm, 0, none⟩), .pointer (some ⟨w.heap.size, 0, none⟩), .pointer (some ⟨w5.heap.size, 0, none⟩), .pointer (some ⟨ba, 0, none⟩), .pointer (some ⟨bs, 0, none⟩)]] 100) = w6 at W6 L6 ⊢
  generalize w5.heap.size = bv at W6 ⊢
  clear hi hz0 hz1 hz2 hsf hmf
  go_wp2_with fail
  go_loopw [23] (fun i wr => ∃ (k : Nat) (V : Nat → Bool), k ≤ l.length ∧ i = .int .i64 k ∧ VisW wr w.heap.size bm w.heap.size bv ba bs g zs.length cz g bm A zs a s V ∧ VisAll zs a s (l.take k) (MV zs.length V) ∧ Below w.heap.size w wr) (fun i _ => l.length - (intOf i).toNat)
  case atStart => exact ⟨0, _, Nat.zero_le _, rfl, W6, VisAll.start zs a s, L6⟩
  case round =>
    clear W6 L6
    obtain ⟨k, V, hk, rfl, hW, hA, hL⟩ := hrel
    have pn := hW.nfa.cell
    by_cases hlt : k < l.length
    · have hlt' : (k : Int) < (l.length : Int) := by omega
      obtain ⟨bl, ol, hAe, hbl0, hcl⟩ := hRl.2 (by omega)
      subst hAe
      have q0 := (hL.cell (p := ⟨bl, ol + k, none⟩) hbl0).trans (hcl k _ (zints_get l hlt))
      have HS0 := Lib.hid (fun hn => hA.skip hlt hn)
      have HP0 := Lib.hid (fun V2 hi hv => VisAll.put (M' := MV zs.length V2) hlt hA hi hv)
      clear hcl hA
      generalize l[k] = z at q0 HS0 HP0
      have cIn := fun w => iWithin z 0 ((zs.length : Int) - 1) w
      obtain ⟨q, hq⟩ : ∃ q, inI z 0 ((zs.length : Int) - 1) = q := ⟨_, rfl⟩
      rw [hq] at cIn
      have CIn := Lib.hid cIn
      have ew : IntKind.i64.wrap ((zs.length : Int) - 1) = (zs.length : Int) - 1 := by rw [IntKind.wrap_i64]; omega
      clear cIn
      cases q
      · have HN := Lib.hid (HS0.out hq)
        clear hq HS0 HP0
        go_wp2_with fail
        refine (CIn.out _).mono ?_; rintro e y0 ⟨rfl, rfl⟩
        go_wp2_with fail
        go_roundw
        case rel => exact ⟨k + 1, V, by omega, by go_num, hW, HN.out, hL⟩
        case measure => simp [intOf]; omega
      · obtain ⟨z0, z1⟩ := inI_iff.1 hq
        have HN := Lib.hid (fun V2 hv => HP0.out V2 hq hv)
        clear hq HS0 HP0
        obtain ⟨y, rfl⟩ := Int.eq_ofNat_of_zero_le z0
        have CV := Lib.hid (iVisit zs a s A w.heap.size bm w.heap.size bv ba bs g zs.length cz g bm rfl hz hzx hzn _ V wr y (Nat.lt_succ_self _) (by omega) hW)
        have pv := hW.fn.cell
        go_wp2_with fail
        refine (CIn.out _).mono ?_; rintro e y0 ⟨rfl, rfl⟩
        go_wp2_with fail
        refine CV.out.mono ?_; rintro e w7 ⟨rfl, V2, hr2, hm2, g2⟩
        have HM := Lib.hid (HN.out V2 hm2.1)
        have hW2 := hW.grown g2 hr2
        clear hm2 CV HN
        go_wp2_with fail
        go_roundw
        case rel => exact ⟨k + 1, V2, by omega, by go_num, hW2, HM.out, bl_gr hL g2 (fun j e => by cases e; exact hlo)⟩
        case measure => simp [intOf]; omega
    · obtain rfl : k = l.length := by omega
      rw [List.take_length] at hA
      have HA := Lib.hid (sprR_met hA)
      clear hA
      have pm := hW.met.cell
      have hgl : g < wr.heap.size := (hW.row.1.lt _ rfl).2
      have L7 := Below.refl wr.heap.size wr
      have hLs := hL.size
      have HC := Lib.hid (fun wq (h : Below wr.heap.size wr wq) k (hk : k < zs.length) => (h.cell (p := ⟨g, k, none⟩) hgl).trans (hW.row.cell hk))
      have HL := Lib.hid (fun wq (h : Below wr.heap.size wr wq) => bl_trans hL h)
      obtain ⟨T, hT⟩ : ∃ T, wr.heap.size = T := ⟨_, rfl⟩
      simp only [hT] at HC HL L7 hgl hLs
      have hTw := Nat.le_of_eq hT.symm
      clear hT
      go_wp2_with fail
      go_loopw [13, 39] (fun v i wq => ∃ (k : Nat) (W : List Int), k ≤ zs.length ∧ i = .int .i64 k ∧ W = metZ V k ∧ wq.ownsRow T 3 1 v W.length (zints W) ∧ Below T wr wq) (fun _ i _ => zs.length - (intOf i).toNat)
      case atStart => exact ⟨0, [], Nat.zero_le _, rfl, rfl, World.ownsRow_nil _ _ _ _, L7⟩
      case round =>
        clear L7
        obtain ⟨k, W, hk, rfl, hWk, hO, hL2⟩ := hrel
        have hWl : W.length ≤ k := by rw [hWk]; exact metZ_len V k
        have hs2 := hL2.size
        by_cases hlt : k < zs.length
        · have hlt' : (k : Int) < (zs.length : Int) := by omega
          have pk := HC.out _ hL2 k hlt
          have hsu := metZ_succ V k
          cases hv : V k
          · rw [hv] at pk hsu
            simp only [Bool.false_eq_true, if_false] at hsu
            rw [← hWk] at hsu
            have HS := Lib.hid hsu.symm
            clear hsu hv hWk
            go_wp2_with fail
            go_roundw
            case rel => exact ⟨k + 1, W, by omega, by go_num, HS.out, hO, hL2⟩
            case measure => simp [intOf]; omega
          · rw [hv] at pk hsu
            simp only [if_true] at hsu
            rw [← hWk] at hsu
            have HS := Lib.hid hsu.symm
            clear hsu hv hWk
            go_wp2_with (at_builtin; refine wpList_push rfl _ _ 25 rfl T 3 j0 (.int .i64 0) 1 8 Try.underlying25 hj hy0 hy1 hy2 rfl (by decide) _ _ _ rfl hO _ rfl (by first | rfl | (rw [alloc_size]; rfl)) rfl (by omega) (by omega) (by omega) ?_)
            intro v' wp hO3 hg3
            have L8 := hL2.grown hg3 (by omega) (fun j e => (hO.lt j e).1)
            go_wp2_with fail
            go_roundw
            case rel => exact ⟨k + 1, W ++ [(k : Int)], by omega, by go_num, HS.out, by rw [List.length_append, ← zints_snoc]; exact hO3, L8⟩
            case measure => simp [intOf]; omega
        · obtain rfl : k = zs.length := by omega
          subst hWk
          go_wp2_with fail
          go_ret
          exact ⟨⟨_, _, rfl, HA.out, Row.mk (own_base hO hLs)⟩, HL.out _ hL2⟩

set_option maxRecDepth 20000 in
set_option maxHeartbeats 1000000 in
theorem iSpread (zs : List (Int × ByteArray × Int × Int)) (l : List Int) (a s : Int) (A B0 : Option Addr) (cz cl : Nat) (w : World) (hz : zs.length ≤ 1048576) (hzx : ∀ z ∈ zs, z.2.1.size ≤ 9223372036854775807) (hl : l.length ≤ 1048577) (hRz : Reads w w.heap.size 4 A zs.length (flat nodeC zs)) (hRl : Reads w w.heap.size 1 B0 l.length (zints l)) :
    Calls Try.prog 13 #[.agg #[.slice A zs.length cz], .slice B0 l.length cl, .int .i64 a, .int .i64 s] w fun e w' => RetZ (SprO zs a s l) w e w' ∧ Below w.heap.size w w' := by
  have BN0 := Blk.new w 30 #[.slice A zs.length cz]
  have L0 := bl_alloc (Below.refl w.heap.size w) (.cells #[.slice A zs.length cz] 30)
  have cb := BN0.cell
  obtain ⟨q, hq⟩ : ∃ q, nfaB zs = q := ⟨_, rfl⟩
  have cN := fun w h => iNfaOk A cz zs w h hzx hz
  simp only [hq] at cN
  have CN := Lib.hid cN
  have CS := Lib.hid fun (hq : nfaB zs = true) w h h' => iSpread0 zs l a s A B0 cz cl w hz hzx hq hl h h'
  have HQ := Lib.hid hq
  clear cN hq
  go_enter Try.func13, Try.ntmps13
  go_wp2_with fail
  refine (CN.out _ (rd_below hRz L0)).mono ?_; rintro e w1 ⟨rfl, b1⟩
  have BN1 := BN0.keep b1
  have L1 := bl_trans L0 b1
  clear cb BN0
  cases q
  · go_wp2_with fail
    go_ret
    exact ⟨⟨_, [], rfl, ⟨fun h => absurd (HQ.out.symm.trans h) (by simp), fun _ => rfl⟩, ⟨World.ownsRow_nil _ _ _ _, fun k hk => by cases hk⟩⟩, L1⟩
  · have cb := BN1.cell
    go_wp2_with fail
    refine (CS.out HQ.out _ (rd_below hRz L1) (rd_below hRl L1)).mono ?_; rintro e w2 ⟨⟨v2, W, rfl, hW, hO⟩, b2⟩
    go_wp2_with fail
    go_ret
    exact ⟨⟨_, W, rfl, ⟨fun _ => hW, fun h => absurd (HQ.out.symm.trans h) (by simp)⟩, hO.more L1.size (Nat.le_refl _)⟩, bl_trans L1 b2⟩
theorem SprO.same {zs : List (Int × ByteArray × Int × Int)} {a s : Int} {l R S : List Int} (h : SprO zs a s l R) (k : SprO zs a s l S) : R = S := by
  cases hq : nfaB zs
  · rw [h.2 hq, k.2 hq]
  · exact (h.1 hq).same (k.1 hq)
theorem sprO_len {zs : List (Int × ByteArray × Int × Int)} {a s : Int} {l R : List Int} (h : SprO zs a s l R) : R.length ≤ zs.length := by
  cases hq : nfaB zs
  · rw [h.2 hq]
    exact Nat.zero_le _
  · exact ris_bound (h.1 hq).1 fun x hx => rch_in hq (((h.1 hq).2 x).1 hx)

end Go.Proofs.Ytnoekbgmhnhneaa
