/- FnRexLaws: the walk. -/
import Derived.Test.YtdfcgnbklnceiaaLawRexP
import Derived.Deep.CutRange
namespace Go.Proofs.Ytdfcgnbklnceiaa
open Go.ChangeShapes Go.WideShapes Go.ChangeAt Go.RowKit
open Go.ChangeMaps (open_string shut_string)

set_option maxHeartbeats 1000000 in
theorem at_two (A0 : Option Addr) (c0 : Nat) (bs : List Int) (w : World) (hR : Reads w w.heap.size 1 A0 bs.length (u8s bs)) (hZ : Byt bs) (hn : bs.length ≤ 1048576) :
    Calls Try.prog 19 #[.slice A0 bs.length c0, .int .i64 2] w fun e w' => RetInt (fun x => 0 ≤ x ∧ x < 256) e ∧ w' = w := by
  have hn' : (bs.length : Int) ≤ 1048576 := by omega
  by_cases h : 2 < bs.length
  · have h' : (2 : Int) < (bs.length : Int) := by omega
    obtain ⟨b, off, rfl, _, hc⟩ := hR.2 (by omega)
    have p1 := hc 2 _ (u8s_get bs 2 h)
    have hb := hZ bs[2] (List.getElem_mem h)
    generalize bs[2] = z at p1 hb
    have hb1 := hb.1
    have hb2 := hb.2
    clear hc hb
    go_enter Try.func19, Try.ntmps19
    go_wp2_with fail
    go_ret
    exact ⟨⟨_, rfl, by omega, by omega⟩, rfl⟩
  · have h' : ¬ (2 : Int) < (bs.length : Int) := by omega
    go_enter Try.func19, Try.ntmps19
    go_wp2_with fail
    go_ret
    exact ⟨⟨_, rfl, by omega, by omega⟩, rfl⟩
theorem fr_nil : FrOk qSmall (Fr.nil : Fr (Int × ByteArray)) := trivial
theorem fr_O : FrOk qSmall (mkFr [((1, ⟨#[97]⟩), .nil)] : Fr (Int × ByteArray)) := ⟨show (1 : Nat) ≤ 1048576 by omega, show (0 : Nat) ≤ 9223372036854775807 by omega, trivial, trivial⟩
theorem fr_A : FrOk qSmall (mkFr [((1, ⟨#[97]⟩), .nil), ((6, ⟨#[]⟩), mkFr [((1, ⟨#[97]⟩), .nil)])] : Fr (Int × ByteArray)) := ⟨show (1 : Nat) ≤ 1048576 by omega, show (0 : Nat) ≤ 9223372036854775807 by omega, trivial, show (0 : Nat) ≤ 1048576 by omega, show (1 : Nat) ≤ 9223372036854775807 by omega, fr_O, trivial⟩
/-- The literal rows. -/
theorem sl_O {w : World} {b : Nat} (hB : Blk w b 30 #[.int .i64 1, .string ⟨#[97]⟩, .slice none 0 0]) : Sl rexC w 0 w.heap.size (some ⟨b, 0, none⟩) (mkFr [((1, ⟨#[97]⟩), .nil)] : Fr (Int × ByteArray)) :=
  sl_lit (L := [((1, ⟨#[97]⟩), .nil)]) (l := [((1, ⟨#[97]⟩), .slice none 0 0)]) hB rfl rfl (Nat.zero_le _) hB.lt (fun i hi => by
    obtain rfl : i = 0 := by simp at hi; omega
    exact ⟨none, 0, rfl, sl_nil _ _ _ _⟩)
theorem sl_A {w : World} {b b' : Nat} (hB : Blk w b 30 #[.int .i64 1, .string ⟨#[97]⟩, .slice none 0 0]) (hB' : Blk w b' 30 #[.int .i64 1, .string ⟨#[97]⟩, .slice none 0 0, .int .i64 6, .string ⟨#[]⟩, .slice (some ⟨b, 0, none⟩) 1 1]) : Sl rexC w 0 w.heap.size (some ⟨b', 0, none⟩) (mkFr [((1, ⟨#[97]⟩), .nil), ((6, ⟨#[]⟩), mkFr [((1, ⟨#[97]⟩), .nil)])] : Fr (Int × ByteArray)) :=
  sl_lit (L := [((1, ⟨#[97]⟩), .nil), ((6, ⟨#[]⟩), (mkFr [((1, ⟨#[97]⟩), .nil)] : Fr (Int × ByteArray)))]) (l := [((1, ⟨#[97]⟩), .slice none 0 0), ((6, ⟨#[]⟩), .slice (some ⟨b, 0, none⟩) 1 1)]) hB' rfl rfl (Nat.zero_le _) hB'.lt (fun i hi => by
    have : i = 0 ∨ i = 1 := by simp at hi; omega
    rcases this with rfl | rfl
    · exact ⟨none, 0, rfl, sl_nil _ _ _ _⟩
    · exact ⟨some ⟨b, 0, none⟩, 1, rfl, sl_O hB⟩)
theorem sl_B {w : World} {b : Nat} {zk yk : Int} {zs ys : ByteArray} {kids ky : Fr (Int × ByteArray)} {A Ay : Option Addr} {c cy : Nat} (hB : Blk w b 30 #[.int .i64 zk, .string zs, .slice A kids.len c, .int .i64 yk, .string ys, .slice Ay ky.len cy]) (h : Sl rexC w 0 w.heap.size A kids) (h' : Sl rexC w 0 w.heap.size Ay ky) : Sl rexC w 0 w.heap.size (some ⟨b, 0, none⟩) (mkFr [((zk, zs), kids), ((yk, ys), ky)] : Fr (Int × ByteArray)) :=
  sl_lit (L := [((zk, zs), kids), ((yk, ys), ky)]) (l := [((zk, zs), .slice A kids.len c), ((yk, ys), .slice Ay ky.len cy)]) hB rfl rfl (Nat.zero_le _) hB.lt (fun i hi => by
    have : i = 0 ∨ i = 1 := by simp at hi; omega
    rcases this with rfl | rfl
    · exact ⟨A, c, rfl, h⟩
    · exact ⟨Ay, cy, rfl, h'⟩)

set_option maxRecDepth 20000 in
set_option maxHeartbeats 16000000 in
theorem FnRexLaws_walk (A0 : Option Addr) (c0 : Nat) (bs : List Int) (w : World) (hR : Reads w w.heap.size 1 A0 bs.length (u8s bs)) (hZ : Byt bs) :
    Calls Try.prog 4 #[.slice A0 bs.length c0] w fun e w' => e = .returned (.bool true) ∧ Below w.heap.size w w' := by
  by_cases hn : bs.length ≤ 1048576
  case neg =>
    have hgt : (1048576 : Int) < (bs.length : Int) := by omega
    go_enter Try.func4, Try.ntmps4
    go_wp2_with fail
    refine (big_any _ _ _ _).mono ?_; rintro e w1 ⟨rfl, rfl⟩
    go_wp2_with fail
    go_ret
    exact ⟨rfl, Below.refl _ _⟩
  have hng : ¬ (1048576 : Int) < (bs.length : Int) := by omega
  go_enter Try.func4, Try.ntmps4
  go_wp2_with fail
  refine (big_any _ _ _ _).mono ?_; rintro e w1 ⟨rfl, rfl⟩
  go_wp2_with fail
  refine (dRex A0 bs.length c0 bs _ hR hZ hn).mono ?_; rintro e w1 ⟨⟨zk, zs, kids, A, c, s, rfl, hs, hS1, hgr⟩, b1⟩
  have hss : s.size ≤ 1048576 := by omega
  have h200 : s.size ≤ 200 := by omega
  have p40 : pD 3 = 40 := by decide
  have hk1 : kids.size ≤ 1048576 := by have := hgr.2.2.1; omega
  have hz1 : zs.size ≤ 1048576 := by have := hgr.2.2.2.1; omega
  have hq1 : FrOk qSmall kids := three_of hgr.2.2.2.2
  have hw1 : zs.size + wt gRex kids ≤ 1048576 := by have h1 := wt_three hgr.2.2.2.2; have h2 := hgr.2.2.1; have h3 := hgr.2.2.2.1; omega
  have HG := Lib.hid hgr
  clear hgr
  have hR1 := rd_below hR b1
  go_wp2_with fail
  have P2 := Blk.new w1 30 #[.int .i64 zk, .string zs, .slice A kids.len c]
  have n2 := bl_alloc (Below.refl w1.heap.size w1) (.cells #[.int .i64 zk, .string zs, .slice A kids.len c] 30)
  have hSr := Lib.hid fun (x : World) (hP : Blk x w1.heap.size 30 #[.int .i64 zk, .string zs, .slice A kids.len c]) (hL : Below w1.heap.size w1 x) => (hS1.below hL (Nat.le_refl _)).more (lo' := 0) (hi' := x.heap.size) (Nat.zero_le _) (Nat.le_of_lt hP.lt)
  clear hS1
  generalize w1.alloc (.cells #[.int .i64 zk, .string zs, .slice A kids.len c] 30) = w2 at P2 n2 ⊢
  have hR2 := rd_below hR1 n2
  refine (dMatches A0 bs.length c0 bs _ hR2 hZ hn).mono ?_; rintro e w3 ⟨⟨yk, ys, ky, Ay, cy, s2, rfl, _, hS3, hgq⟩, b3⟩
  have hk2 : ky.size ≤ 1048576 := by have := hgq.2.2.1; omega
  have hz2 : ys.size ≤ 1048576 := by have := hgq.2.2.2.1; omega
  have hq2 : FrOk qSmall ky := three_of hgq.2.2.2.2
  have hw2 : ys.size + wt gRex ky ≤ 1048576 := by have h1 := wt_three hgq.2.2.2.2; have h2 := hgq.2.2.1; have h3 := hgq.2.2.2.1; omega
  have HQ := Lib.hid hgq
  have hszB : (mkFr [((zk, zs), kids), ((yk, ys), ky)] : Fr (Int × ByteArray)).size = kids.size + (ky.size + 0 + 1) + 1 := rfl
  have hkB : (mkFr [((zk, zs), kids), ((yk, ys), ky)] : Fr (Int × ByteArray)).size ≤ 1048576 := by have h1 := HG.out.2.2.1; have h2 := hgq.2.2.1; rw [hszB]; omega
  have hqB : FrOk qSmall (mkFr [((zk, zs), kids), ((yk, ys), ky)] : Fr (Int × ByteArray)) := ⟨hz1, by exact Nat.le_trans (Nat.le_trans kids.len_size hk1) (by omega), hq1, hz2, by exact Nat.le_trans (Nat.le_trans ky.len_size hk2) (by omega), hq2, trivial⟩
  have hwB : (⟨#[]⟩ : ByteArray).size + wt gRex (mkFr [((zk, zs), kids), ((yk, ys), ky)] : Fr (Int × ByteArray)) ≤ 1048576 := by
    have h1 := wt_three HG.out.2.2.2.2
    have h2 := wt_three hgq.2.2.2.2
    have h3 := HG.out.2.2.1
    have h4 := hgq.2.2.1
    have h5 := HG.out.2.2.2.1
    have h6 := hgq.2.2.2.1
    show 0 + (1 + zs.size + wt gRex kids + (1 + ys.size + wt gRex ky + 0)) ≤ 1048576
    omega
  clear hgq hszB
  have P3 := P2.keep b3
  have n3 := bl_trans n2 b3
  have hR3 := rd_below hR2 b3
  go_wp2_with fail
  have Q4 := Blk.new w3 30 #[.int .i64 yk, .string ys, .slice Ay ky.len cy]
  have m4 := bl_alloc (Below.refl w3.heap.size w3) (.cells #[.int .i64 yk, .string ys, .slice Ay ky.len cy] 30)
  have P4 := P3.alloc (.cells #[.int .i64 yk, .string ys, .slice Ay ky.len cy] 30)
  have n4 := bl_alloc n3 (.cells #[.int .i64 yk, .string ys, .slice Ay ky.len cy] 30)
  have hQr := Lib.hid fun (x : World) (hP : Blk x w3.heap.size 30 #[.int .i64 yk, .string ys, .slice Ay ky.len cy]) (hL : Below w3.heap.size w3 x) => (hS3.below hL (Nat.le_refl _)).more (lo' := 0) (hi' := x.heap.size) (Nat.zero_le _) (Nat.le_of_lt hP.lt)
  clear hS3 P2 P3 n2 n3
  generalize w3.alloc (.cells #[.int .i64 yk, .string ys, .slice Ay ky.len cy] 30) = w4 at Q4 m4 P4 n4 ⊢
  have hR4 := rd_below hR3 m4
  refine (at_two A0 c0 bs _ hR4 hZ hn).mono ?_; rintro e w5 ⟨⟨x, rfl, hx0, hx1⟩, rfl⟩
  have hm0 : (0 : Int) < (s.size : Int) + 1 := by omega
  have hi0 : 0 ≤ x % ((s.size : Int) + 1) := Int.emod_nonneg _ (by omega)
  have hi1 : x % ((s.size : Int) + 1) < (s.size : Int) + 1 := Int.emod_lt_of_pos _ hm0
  obtain ⟨i, hi⟩ := Int.eq_ofNat_of_zero_le hi0
  have hile : i ≤ s.size := by omega
  have ews : IntKind.i64.wrap ((s.size : Int) + 1) = (s.size : Int) + 1 := IntWalk.i64_in _ (by omega)
  have hne : ¬ ((s.size : Int) + 1 = 0) := by omega
  have hneb : ((s.size : Int) + 1 == 0) = false := beq_eq_false_iff_ne.2 hne
  clear hR1 hR2 hR3 hR4 hi0 hi1
  have cA := fun w h => iEnds 5 ⟨#[]⟩ (mkFr [((1, ⟨#[97]⟩), .nil), ((6, ⟨#[]⟩), mkFr [((1, ⟨#[97]⟩), .nil)])] : Fr (Int × ByteArray)) (some ⟨w5.heap.size + 1 + 1, 0, none⟩) 2 s i w (by decide) (by decide) fr_A (by decide) hss h
  have cS := fun A w h => iEnds 6 ⟨#[]⟩ (mkFr [((1, ⟨#[97]⟩), .nil)] : Fr (Int × ByteArray)) A 1 s i w (by decide) (by decide) fr_O (by decide) hss h
  have cP := fun A w h => iEnds 7 ⟨#[]⟩ (mkFr [((1, ⟨#[97]⟩), .nil)] : Fr (Int × ByteArray)) A 1 s i w (by decide) (by decide) fr_O (by decide) hss h
  rw [alt_star s i hile h200] at cA
  have hsp := star_plus s i hile h200
  have hsh := star_has s i hile h200
  have hl7 := ends_len 6 ⟨#[]⟩ (mkFr [((1, ⟨#[97]⟩), .nil)] : Fr (Int × ByteArray)) s i
  generalize endsB 6 ⟨#[]⟩ (mkFr [((1, ⟨#[97]⟩), .nil)] : Fr (Int × ByteArray)) s i = l at cA cS hsp hsh hl7
  generalize endsB 7 ⟨#[]⟩ (mkFr [((1, ⟨#[97]⟩), .nil)] : Fr (Int × ByteArray)) s i = lp at cP hsp
  have HSP := Lib.hid hsp
  have CA := Lib.hid cA
  have CS := Lib.hid cS
  have CP := Lib.hid cP
  clear cA cS cP hsp
  have cX := fun w h => iEnds zk zs kids A c s i w hk1 hz1 hq1 hw1 hss h
  have cY := fun w h => iEnds yk ys ky Ay cy s i w hk2 hz2 hq2 hw2 hss h
  have cQ := fun A w h => sRexOk 5 ⟨#[]⟩ (mkFr [((zk, zs), kids), ((yk, ys), ky)] : Fr (Int × ByteArray)) A 2 w hkB (by decide) hqB h
  have cZ := fun A w h => iEnds 5 ⟨#[]⟩ (mkFr [((zk, zs), kids), ((yk, ys), ky)] : Fr (Int × ByteArray)) A 2 s i w hkB (by decide) hqB hwB hss h
  have cR := fun w h => iRexOk zk zs kids A c w hk1 hz1 hq1 h
  rw [rexB_of HG.out] at cR
  have hboth := fun (hb : rexB 5 ⟨#[]⟩ (mkFr [((zk, zs), kids), ((yk, ys), ky)] : Fr (Int × ByteArray)) = true) (j : Nat) => both_has (j := j) HG.out HQ.out hb h200 hile
  have hnone := fun (hb : rexB 5 ⟨#[]⟩ (mkFr [((zk, zs), kids), ((yk, ys), ky)] : Fr (Int × ByteArray)) = false) => endsB_no (zk := 5) (zs := ⟨#[]⟩) (kids := (mkFr [((zk, zs), kids), ((yk, ys), ky)] : Fr (Int × ByteArray))) (s := s) (a := i) (fun h => by rw [hb] at h; exact Bool.false_ne_true h.1)
  have hlx := ends_len zk zs kids s i
  have hly := ends_len yk ys ky s i
  have hlz := ends_len 5 ⟨#[]⟩ (mkFr [((zk, zs), kids), ((yk, ys), ky)] : Fr (Int × ByteArray)) s i
  generalize endsB zk zs kids s i = lx at cX hboth hlx
  generalize endsB yk ys ky s i = ly at cY hboth hly
  generalize endsB 5 ⟨#[]⟩ (mkFr [((zk, zs), kids), ((yk, ys), ky)] : Fr (Int × ByteArray)) s i = lz at cZ hboth hnone hlz
  generalize rexB 5 ⟨#[]⟩ (mkFr [((zk, zs), kids), ((yk, ys), ky)] : Fr (Int × ByteArray)) = bb at cQ hboth hnone
  have CX := Lib.hid cX
  have CY := Lib.hid cY
  have CQ := Lib.hid cQ
  have CZ := Lib.hid cZ
  have CR := Lib.hid cR
  have HB := Lib.hid hboth
  have HN := Lib.hid hnone
  clear cX cY cQ cZ cR hboth hnone
  go_wp2_with fail
  have O6 := ((Blk.new w5 30 #[.int .i64 1, .string ⟨#[97]⟩, .slice none 0 0]).alloc (.cells #[.int .i64 1, .string ⟨#[97]⟩, .slice none 0 0] 30)).alloc (.cells #[.int .i64 1, .string ⟨#[97]⟩, .slice none 0 0, .int .i64 6, .string ⟨#[]⟩, .slice (some ⟨w5.heap.size + 1, 0, none⟩) 1 1] 30)
  have B6 := (Blk.new2 w5 (.cells #[.int .i64 1, .string ⟨#[97]⟩, .slice none 0 0] 30) 30 #[.int .i64 1, .string ⟨#[97]⟩, .slice none 0 0]).alloc (.cells #[.int .i64 1, .string ⟨#[97]⟩, .slice none 0 0, .int .i64 6, .string ⟨#[]⟩, .slice (some ⟨w5.heap.size + 1, 0, none⟩) 1 1] 30)
  have T6 := Blk.new2 (w5.alloc (.cells #[.int .i64 1, .string ⟨#[97]⟩, .slice none 0 0] 30)) (.cells #[.int .i64 1, .string ⟨#[97]⟩, .slice none 0 0] 30) 30 #[.int .i64 1, .string ⟨#[97]⟩, .slice none 0 0, .int .i64 6, .string ⟨#[]⟩, .slice (some ⟨w5.heap.size + 1, 0, none⟩) 1 1]
  rw [alloc_size] at T6
  have k6 := bl_alloc (bl_alloc (bl_alloc (Below.refl w5.heap.size w5) (.cells #[.int .i64 1, .string ⟨#[97]⟩, .slice none 0 0] 30)) (.cells #[.int .i64 1, .string ⟨#[97]⟩, .slice none 0 0] 30)) (.cells #[.int .i64 1, .string ⟨#[97]⟩, .slice none 0 0, .int .i64 6, .string ⟨#[]⟩, .slice (some ⟨w5.heap.size + 1, 0, none⟩) 1 1] 30)
  generalize (((w5.alloc (.cells #[.int .i64 1, .string ⟨#[97]⟩, .slice none 0 0] 30)).alloc (.cells #[.int .i64 1, .string ⟨#[97]⟩, .slice none 0 0] 30)).alloc (.cells #[.int .i64 1, .string ⟨#[97]⟩, .slice none 0 0, .int .i64 6, .string ⟨#[]⟩, .slice (some ⟨w5.heap.size + 1, 0, none⟩) 1 1] 30)) = w6 at O6 B6 T6 k6 ⊢
  have P6 := P4.keep k6
  have Q6 := Q4.keep k6
  have n6 := bl_trans n4 k6
  have m6 := bl_trans m4 k6
  clear P4 Q4 n4 m4 k6
  generalize w5.heap.size = ob at O6 B6 T6 CA ⊢
  refine (CA.out _ (sl_A B6 T6)).mono ?_; rintro e w7 ⟨⟨va, rfl, RA⟩, b7⟩
  obtain ⟨Aa, ca, rfl⟩ := RA.form
  have P7 := P6.keep b7
  have Q7 := Q6.keep b7
  have O7 := O6.keep b7
  have n7 := bl_trans n6 b7
  have m7 := bl_trans m6 b7
  have cO := O7.cell
  clear P6 Q6 O6 n6 m6 B6 T6 b7
  go_wp2_with fail
  clear cO
  have B8 := Blk.new w7 30 #[.int .i64 1, .string ⟨#[97]⟩, .slice none 0 0]
  have k8 := bl_alloc (Below.refl w7.heap.size w7) (.cells #[.int .i64 1, .string ⟨#[97]⟩, .slice none 0 0] 30)
  generalize w7.alloc (.cells #[.int .i64 1, .string ⟨#[97]⟩, .slice none 0 0] 30) = w8 at B8 k8 ⊢
  refine (CS.out _ _ (sl_O B8)).mono ?_; rintro e w9 ⟨⟨vs, rfl, RS⟩, b9⟩
  obtain ⟨As, cs, rfl⟩ := RS.form
  have k9 := bl_trans k8 b9
  have P9 := P7.keep k9
  have Q9 := Q7.keep k9
  have O9 := O7.keep k9
  have n9 := bl_trans n7 k9
  have m9 := bl_trans m7 k9
  have RA9 := RA.keep k9
  have cO := O9.cell
  clear P7 Q7 O7 n7 m7 B8 k8 b9 k9 RA
  go_wp2_with fail
  clear cO
  have B8 := Blk.new w9 30 #[.int .i64 1, .string ⟨#[97]⟩, .slice none 0 0]
  have k8 := bl_alloc (Below.refl w9.heap.size w9) (.cells #[.int .i64 1, .string ⟨#[97]⟩, .slice none 0 0] 30)
  generalize w9.alloc (.cells #[.int .i64 1, .string ⟨#[97]⟩, .slice none 0 0] 30) = w10 at B8 k8 ⊢
  refine (CP.out _ _ (sl_O B8)).mono ?_; rintro e w11 ⟨⟨vp, rfl, RP⟩, b11⟩
  obtain ⟨Ap, cp, rfl⟩ := RP.form
  have k11 := bl_trans k8 b11
  have P11 := P9.keep k11
  have Q11 := Q9.keep k11
  have n11 := bl_trans n9 k11
  have m11 := bl_trans m9 k11
  have RA11 := RA9.keep k11
  have RS11 := RS.keep k11
  have ewp : IntKind.i64.wrap ((lp.length : Int) + 1) = (lp.length : Int) + 1 := IntWalk.i64_in _ (by have hsp := HSP.out; omega)
  have hbl : ((l.length : Int) != (lp.length : Int) + 1) = false := by have hsp := HSP.out; rw [bne_eq_false_iff_eq]; omega
  clear P9 Q9 O9 n9 m9 B8 k8 b11 k11 RA9 RS
  go_wp2_with fail
  refine (sameI_any l Aa As ca cs _ (by omega) RA11.reads RS11.reads).mono ?_; rintro e w12 ⟨rfl, b12⟩
  have P12 := P11.keep b12
  have Q12 := Q11.keep b12
  have n12 := bl_trans n11 b12
  have m12 := bl_trans m11 b12
  have RS12 := RS11.keep b12
  have CH := has_any l As cs i w12 (by omega) RS12.reads
  rw [decide_eq_true hsh] at CH
  have CHH := Lib.hid CH
  clear P11 Q11 n11 m11 b12 RA11 RS11 CH hsh
  go_wp2_with fail
  refine CHH.out.mono ?_; rintro e w13 ⟨rfl, rfl⟩
  have cP := P12.cell
  go_wp2_with fail
  clear cP hbl ewp RS12 CHH HSP
  refine (CX.out _ (hSr.out _ P12 n12)).mono ?_; rintro e w14 ⟨⟨vx, rfl, RX⟩, b14⟩
  obtain ⟨Ax, cx, rfl⟩ := RX.form
  have P14 := P12.keep b14
  have Q14 := Q12.keep b14
  have n14 := bl_trans n12 b14
  have m14 := bl_trans m12 b14
  have cQ := Q14.cell
  clear P12 Q12 n12 m12 b14
  go_wp2_with fail
  clear cQ
  refine (CY.out _ (hQr.out _ Q14 m14)).mono ?_; rintro e w15 ⟨⟨vy, rfl, RY⟩, b15⟩
  obtain ⟨Ay2, cy2, rfl⟩ := RY.form
  have P15 := P14.keep b15
  have Q15 := Q14.keep b15
  have n15 := bl_trans n14 b15
  have m15 := bl_trans m14 b15
  have RX15 := RX.keep b15
  have cP := P15.cell
  have cQ := Q15.cell
  clear P14 Q14 n14 m14 b15 RX
  go_wp2_with fail
  clear cP cQ
  have B16 := (Blk.new w15 30 #[.int .i64 zk, .string zs, .slice A kids.len c, .int .i64 yk, .string ys, .slice Ay ky.len cy]).alloc (.cells #[.int .i64 5, .string ⟨#[]⟩, .slice (some ⟨w15.heap.size, 0, none⟩) 2 2] 30)
  have V16 := Blk.new2 w15 (.cells #[.int .i64 zk, .string zs, .slice A kids.len c, .int .i64 yk, .string ys, .slice Ay ky.len cy] 30) 30 #[.int .i64 5, .string ⟨#[]⟩, .slice (some ⟨w15.heap.size, 0, none⟩) 2 2]
  have k16 := bl_alloc (bl_alloc (Below.refl w15.heap.size w15) (.cells #[.int .i64 zk, .string zs, .slice A kids.len c, .int .i64 yk, .string ys, .slice Ay ky.len cy] 30)) (.cells #[.int .i64 5, .string ⟨#[]⟩, .slice (some ⟨w15.heap.size, 0, none⟩) 2 2] 30)
  generalize (w15.alloc (.cells #[.int .i64 zk, .string zs, .slice A kids.len c, .int .i64 yk, .string ys, .slice Ay ky.len cy] 30)).alloc (.cells #[.int .i64 5, .string ⟨#[]⟩, .slice (some ⟨w15.heap.size, 0, none⟩) 2 2] 30) = w16 at B16 V16 k16 ⊢
  have P16 := P15.keep k16
  have Q16 := Q15.keep k16
  have n16 := bl_trans n15 k16
  have m16 := bl_trans m15 k16
  have RX16 := RX15.keep k16
  have RY16 := RY.keep k16
  have hSB := Lib.hid fun (x : World) (hB : Blk x w15.heap.size 30 #[.int .i64 zk, .string zs, .slice A kids.len c, .int .i64 yk, .string ys, .slice Ay ky.len cy]) (hP : Blk x w1.heap.size 30 #[.int .i64 zk, .string zs, .slice A kids.len c]) (hQ : Blk x w3.heap.size 30 #[.int .i64 yk, .string ys, .slice Ay ky.len cy]) (hn : Below w1.heap.size w1 x) (hm : Below w3.heap.size w3 x) => sl_B hB (hSr.out x hP hn) (hQr.out x hQ hm)
  clear P15 Q15 n15 m15 k16 RX15 RY
  refine (CQ.out _ _ (hSB.out _ B16 P16 Q16 n16 m16)).mono ?_; rintro e w17 ⟨rfl, b17⟩
  have P17 := P16.keep b17
  have Q17 := Q16.keep b17
  have B17 := B16.keep b17
  have V17 := V16.keep b17
  have n17 := bl_trans n16 b17
  have m17 := bl_trans m16 b17
  have RX17 := RX16.keep b17
  have RY17 := RY16.keep b17
  have cP := P17.cell
  have cV := V17.cell
  clear P16 Q16 B16 V16 n16 m16 b17 RX16 RY16
  cases bb with
  | false =>
    have hn0 := HN.out rfl
    subst hn0
    go_wp2_with fail
    refine (CR.out _ (hSr.out _ P17 n17)).mono ?_; rintro e w18 ⟨rfl, b18⟩
    have cV := (V17.keep b18).cell
    go_wp2_with fail
    refine (CZ.out _ _ (hSB.out _ (B17.keep b18) (P17.keep b18) (Q17.keep b18) (bl_trans n17 b18) (bl_trans m17 b18))).mono ?_; rintro e w19 ⟨⟨vz, rfl, RZ⟩, b19⟩
    obtain ⟨Az, cz, rfl⟩ := RZ.form
    go_wp2_with fail
    go_ret
    exact ⟨rfl, bl_trans b1 (bl_trans (bl_trans n17 b18) b19)⟩
  | true =>
    have HBB := Lib.hid (HB.out rfl)
    go_wp2_with fail
    refine (CZ.out _ _ (hSB.out _ B17 P17 Q17 n17 m17)).mono ?_; rintro e w19 ⟨⟨vz, rfl, RZ⟩, b19⟩
    obtain ⟨Az, cz, rfl⟩ := RZ.form
    have n19 := bl_trans n17 b19
    have RX19 := (RX17.keep b19).reads
    have RY19 := (RY17.keep b19).reads
    have RZ19 := RZ.reads
    clear cP cV P17 Q17 B17 V17 n17 m17 b19 RX17 RY17 RZ
    go_wp2_with fail
    go_loop [16] (fun j => ∃ k : Nat, k ≤ s.size + 1 ∧ j = .int .i64 k) (fun j => s.size + 1 - (intOf j).toNat)
    case atStart => exact ⟨0, Nat.zero_le _, rfl⟩
    case round =>
      obtain ⟨k, hk, rfl⟩ := hrel
      by_cases hle : k ≤ s.size
      · have hle' : (k : Int) ≤ (s.size : Int) := by omega
        have C1 := has_any lz Az cz k w19 (by omega) RZ19
        have C2 := has_any lx Ax cx k w19 (by omega) RX19
        have C3 := has_any ly Ay2 cy2 k w19 (by omega) RY19
        have hbk := HBB.out k
        have hd : decide (k ∈ lz) = (decide (k ∈ lx) || decide (k ∈ ly)) := by
          rw [← Bool.decide_or]
          exact decide_eq_decide.2 hbk
        rw [hd] at C1
        clear hd hbk
        generalize decide (k ∈ lx) = d1 at C1 C2
        generalize decide (k ∈ ly) = d2 at C1 C3
        have CC1 := Lib.hid C1
        have CC2 := Lib.hid C2
        have CC3 := Lib.hid C3
        clear C1 C2 C3
        cases d1
        · go_wp2_with fail
          refine CC1.out.mono ?_; rintro e wa ⟨rfl, rfl⟩
          go_wp2_with fail
          refine CC2.out.mono ?_; rintro e wa ⟨rfl, rfl⟩
          go_wp2_with fail
          refine CC3.out.mono ?_; rintro e wa ⟨rfl, rfl⟩
          go_wp2_with fail
          go_round
          case rel => exact ⟨k + 1, by omega, by go_num⟩
          case measure => (simp [intOf] <;> omega)
        · go_wp2_with fail
          refine CC1.out.mono ?_; rintro e wa ⟨rfl, rfl⟩
          go_wp2_with fail
          refine CC2.out.mono ?_; rintro e wa ⟨rfl, rfl⟩
          go_wp2_with fail
          go_round
          case rel => exact ⟨k + 1, by omega, by go_num⟩
          case measure => (simp [intOf] <;> omega)
      · have hgt : ¬ (k : Int) ≤ (s.size : Int) := by omega
        go_wp2_with fail
        go_ret
        exact ⟨rfl, bl_trans b1 n19⟩

set_option maxRecDepth 100000 in
theorem FnRexLaws_args {H : Type} {enc : TypeId × Value → H} (W : World) (base : Nat) (args : Array Value) (ds : List (DataW H)) (p : List MemPlace)
    (hval : ∀ (j : Nat) t v, Try.f4.params[j]? = some t → args[j]? = some v → Value.okWide Try.checked.prog W .any base t v)
    (hA : DataW.TrodAll enc Try.checked.prog W 0 (fun _ => true) true Try.f4.params.toList args.toList ds p) :
    Calls Try.checked.prog 4 args W fun e W' => e = .returned (.bool true) ∧ Below W.heap.size W W' := by
  rw [Try.params4] at hA hval
  obtain ⟨v0, d0, rfl, rfl, h0⟩ := trodAll_one hA
  obtain ⟨A0, c0, bs, rfl, R, Wf, hlz⟩ := open_nums Try.underlying34 Try.underlying5 (by kernel_rfl) (hval 0 34 v0 rfl rfl) h0
  exact FnRexLaws_walk A0 c0 bs W R (byt_of_wf Wf)

set_option maxRecDepth 100000 in
theorem FnRexLaws_holds : Rows.FnRexLawsSaid :=
  OpenClaim.holds_of_wide 4 Try.f4 rfl rfl rfl rfl rfl rfl rfl ⟨rfl, rfl, rfl, rfl, rfl⟩ rfl rfl rfl rfl rfl (by kernel_rfl) Try.func4 (by kernel_rfl)
    (of_decide_eq_true (by kernel_rfl)) (by unfold Func.isWrapper; rw [if_neg (of_decide_eq_false (by kernel_rfl))]; exact ⟨rfl, rfl⟩)
    (fun os started H enc _ => law_lift 4 Try.f4 Rows.fnRexLawsSpec 4 own laidOut started (by kernel_rfl) Try.func4 (by kernel_rfl) rfl (by kernel_rfl) Try.underlying4
      (fun ds h => by
        have hl : ds.length = 1 := h.trans (by kernel_rfl)
        obtain ⟨d, rfl⟩ := len1 hl
        rfl)
      (ChangeSpec.witness6 (enc := enc) (C := Try.checked) false ⟨#[], #[.slice none 0 0], []⟩ 8 (by kernel_rfl) (by kernel_rfl) (by kernel_rfl) (by kernel_rfl))
      FnRexLaws_args)
#print axioms FnRexLaws_holds

end Go.Proofs.Ytdfcgnbklnceiaa
