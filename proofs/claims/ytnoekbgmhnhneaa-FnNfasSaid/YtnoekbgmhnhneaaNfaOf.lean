/- Walks over NfaOf, of the reference and of the program. -/
import Derived.Test.YtnoekbgmhnhneaaLayL
import Derived.Test.YtnoekbgmhnhneaaLayI
import Derived.Test.YtnoekbgmhnhneaaRexOk
import Derived.Deep.CutRange
namespace Go.Proofs.Ytnoekbgmhnhneaa
open Go.RowKit

/-- The nodes of a regular expression's machine. -/
def nfaL (zk : Int) (zs : ByteArray) (kids : Fr (Int × ByteArray)) : List (Int × ByteArray × Int × Int) := if rexB zk zs kids = true then layR (zk, zs) kids 0 ++ [(7, ⟨#[]⟩, 0, 0)] else []
theorem nfaL_len (zk : Int) (zs : ByteArray) (kids : Fr (Int × ByteArray)) : (nfaL zk zs kids).length ≤ 1000 := by
  unfold nfaL
  split
  · rename_i h
    unfold rexB at h
    rw [Bool.and_eq_true, Bool.and_eq_true, decide_eq_true_iff] at h
    have := szR_le (zk, zs) kids
    rw [List.length_append, layR_len (a := (zk, zs)) h.1.1 (lOk_of h.1.2)]
    simp
    omega
  · exact Nat.zero_le _
/-- It hands back a new machine. -/
def RetN (ys : List (Int × ByteArray × Int × Int)) (w : World) (e : Ending) (w' : World) : Prop := ∃ (A : Option Addr) (c : Nat), e = .returned (.agg #[.slice A ys.length c]) ∧ Row w' w.heap.size w'.heap.size 76 4 (.slice A ys.length c) ys.length (flat nodeC ys)
theorem rex_parts {zk : Int} {zs : ByteArray} {kids : Fr (Int × ByteArray)} (h : rexB zk zs kids = true) : hereB zk zs kids = true ∧ lOk kids = true ∧ kids.size ≤ 60 := by
  unfold rexB at h
  rw [Bool.and_eq_true, Bool.and_eq_true, decide_eq_true_iff] at h
  exact ⟨h.1.1, lOk_of h.1.2, by omega⟩

set_option maxRecDepth 20000 in
set_option maxHeartbeats 4000000 in
theorem sNfaOf (zk : Int) (zs : ByteArray) (kids : Fr (Int × ByteArray)) (A : Option Addr) (c : Nat) (w : World) (hl : kids.size ≤ 1048576) (hz : zs.size ≤ 1048576) (hq : FrOk qSmall kids) (hS : Sl rexC w 0 w.heap.size A kids) :
    Calls Try.prog 20 #[.agg #[.int .i64 zk, .string zs, .slice A kids.len c]] w fun e w' => RetN (nfaL zk zs kids) w e w' ∧ Below w.heap.size w w' := by
  have B := (Blk.new w 45 #[.int .i64 zk, .string zs, .slice A kids.len c]).alloc (.cells #[.slice none 0 0] 30)
  have P0 := Blk.new2 w (.cells #[.int .i64 zk, .string zs, .slice A kids.len c] 45) 30 #[.slice none 0 0]
  have L0 := bl_alloc (bl_alloc (Below.refl w.heap.size w) (.cells #[.int .i64 zk, .string zs, .slice A kids.len c] 45)) (.cells #[.slice none 0 0] 30)
  have S0 := hS.below L0 (Nat.le_refl _)
  go_enter Try.func20, Try.ntmps20
  go_upto_region 1 with fail
  generalize (w.alloc (.cells #[.int .i64 zk, .string zs, .slice A kids.len c] 45)).alloc (.cells #[.slice none 0 0] 30) = w1 at B P0 L0 S0 ⊢
  obtain ⟨g, hg⟩ : ∃ g, w.heap.size + 1 = g := ⟨_, rfl⟩
  rw [hg] at P0 ⊢
  have hgw : w.heap.size ≤ g := by omega
  clear hg
  have C := Lib.hid (sRexOk zk zs kids A c w1 hl hz hq (S0.more (Nat.le_refl _) L0.size))
  obtain ⟨q, hq2⟩ : ∃ q, rexB zk zs kids = q := ⟨_, rfl⟩
  rw [hq2] at C
  have HQ := Lib.hid hq2
  clear hq2
  have cb := B.cell
  go_wp2_with fail
  refine C.out.mono ?_; rintro e w2 ⟨rfl, b2⟩
  have B2 := B.keep b2
  have P2 := P0.keep b2
  have hgl := P2.lt
  have hwl := (bl_trans L0 b2).size
  have L2 := bl_trans L0 b2
  have S2 := S0.keep (w' := w2) (fun p _ hp => b2.cell (by have := L0.size; omega)) (Nat.le_refl _) (Nat.le_refl _)
  clear B P0 L0 S0 cb b2 C
  cases q
  · have cp := P2.cell
    have fp := P2.frozen
    have hE : nfaL zk zs kids = [] := by unfold nfaL; rw [HQ.out]; rfl
    have HE := Lib.hid hE
    clear hE
    go_wp2_with fail
    refine bodyPost_ret (res_cell1 rfl _ _ _ _ _ _ rfl (P2.set_ 0 _) Try.underlying30 (by kernel_rfl)) rfl ⟨?_, bl_set (p := ⟨g, 0, none⟩) L2 hgw _⟩
    rw [HE.out]
    exact ⟨none, 0, rfl, ⟨World.ownsRow_nil _ _ _ _, fun k hk => by cases hk⟩⟩
  · have HP := rex_parts HQ.out
    have hE : nfaL zk zs kids = layR (zk, zs) kids 0 ++ [(7, ⟨#[]⟩, 0, 0)] := by unfold nfaL; rw [HQ.out]; rfl
    have HE := Lib.hid hE
    clear hE
    have hO2 : (w2.alloc (.cells #[] 76)).ownsRow w.heap.size 76 4 (.slice (some ⟨w2.heap.size, 0, none⟩) ([] : List (Int × ByteArray × Int × Int)).length 0) ([] : List (Int × ByteArray × Int × Int)).length (flat nodeC []) := World.ownsRow_made (e := 76) (size := 4) (base := w.heap.size) w2 #[] 0 L2.size (by simp [maxLen]) (by simp)
    have b3 := bl_alloc (Below.refl w2.heap.size w2) (.cells #[] 76)
    have szb := b3.size
    have CL := Lib.hid (sLay (kids.size + 1) kids (Nat.lt_succ_self _) zk zs A c (some ⟨w2.heap.size, 0, none⟩) 0 [] w.heap.size _ HP.2.2 (by have := HP.2.2; simp; omega) HP.1 HP.2.1 (by have := L2.size; omega) hO2 (S2.keep (fun p _ hp => b3.cell (by have := L2.size; omega)) (Nat.le_refl _) (Nat.le_refl _)))
    replace P2 := P2.keep b3
    replace B2 := B2.keep b3
    replace L2 := bl_trans L2 b3
    have cb := B2.cell
    have hszl := szR_le (zk, zs) kids
    have HRL := Lib.hid (layR_len (a := (zk, zs)) HP.1 HP.2.1 0)
    have h60 := HP.2.2
    clear HP
    go_wp2_with fail
    refine CL.out.mono ?_; rintro e w3 ⟨A3, c3, y3, rfl, h3, t3⟩
    have hl3 := congrArg List.length h3
    rw [List.nil_append, List.length_nil, HRL.out] at hl3
    have h3b : y3.length ≤ 1000 := by omega
    have H3 := Lib.hid (h3.trans (List.nil_append _))
    have hO3 := t3.own
    have hne3 : some g ≠ (Value.slice (some ⟨w2.heap.size, 0, none⟩) ([] : List (Int × ByteArray × Int × Int)).length 0).ownBlock := by simp [Value.ownBlock]; omega
    have P3 := P2.grown t3.gr hne3
    have L3 := bl_gr L2 t3.gr (fun k e => by simp [Value.ownBlock] at e; omega)
    have hs3 := L3.size
    clear hl3 h3 t3 CL cb L2 P2 S2 B2 hne3 b3
    go_wp2_with (at_builtin; refine wpList_node (7, ⟨#[]⟩, 0, 0) rfl _ _ rfl w.heap.size _ _ _ rfl hO3 (by first | rfl | (rw [alloc_size]; rfl)) (by omega) (by omega) ?_)
    intro A4 c4 y4 w4 h4 hl4 t4
    have hO4 := t4.own
    have hne4 := own_blk_ne hO4 (P3.grown t4.gr (fun e => own_blk_ne hO3 P3 (by decide) e.symm)) (by decide)
    have P4 := P3.grown t4.gr (fun e => own_blk_ne hO3 P3 (by decide) e.symm)
    have L4 := bl_gr L3 t4.gr (fun k e => (hO3.lt k e).1)
    have HY := Lib.hid (show nfaL zk zs kids = y4 by rw [HE.out, h4.out, H3.out]; rfl)
    have cp := P4.cell
    have fp := P4.frozen
    clear t4 P3 L3 hO3
    go_wp2_with fail
    refine bodyPost_ret (res_cell1 rfl _ _ _ _ _ _ rfl (P4.set_ 0 _) Try.underlying30 (by kernel_rfl)) rfl ⟨?_, bl_set (p := ⟨g, 0, none⟩) L4 hgw _⟩
    rw [HY.out]
    exact ⟨A4, c4, rfl, Row.mk (ownsRow_setCell_other hO4 hne4 _)⟩

set_option maxRecDepth 20000 in
set_option maxHeartbeats 4000000 in
theorem iNfaOf (zk : Int) (zs : ByteArray) (kids : Fr (Int × ByteArray)) (A : Option Addr) (c : Nat) (w : World) (hl : kids.size ≤ 1048576) (hz : zs.size ≤ 1048576) (hq : FrOk qSmall kids) (hc : kids.len ≤ c) (hS : SlC rexC w 0 w.heap.size A kids) :
    Calls Try.prog 22 #[.agg #[.int .i64 zk, .string zs, .slice A kids.len c]] w fun e w' => RetN (nfaL zk zs kids) w e w' ∧ Below w.heap.size w w' := by
  have B := (Blk.new w 45 #[.int .i64 zk, .string zs, .slice A kids.len c]).alloc (.cells #[.slice none 0 0] 30)
  have P0 := Blk.new2 w (.cells #[.int .i64 zk, .string zs, .slice A kids.len c] 45) 30 #[.slice none 0 0]
  have L0 := bl_alloc (bl_alloc (Below.refl w.heap.size w) (.cells #[.int .i64 zk, .string zs, .slice A kids.len c] 45)) (.cells #[.slice none 0 0] 30)
  have S0 := hS.below L0 (Nat.le_refl _)
  go_enter Try.func22, Try.ntmps22
  go_upto_region 1 with fail
  generalize (w.alloc (.cells #[.int .i64 zk, .string zs, .slice A kids.len c] 45)).alloc (.cells #[.slice none 0 0] 30) = w1 at B P0 L0 S0 ⊢
  obtain ⟨g, hg⟩ : ∃ g, w.heap.size + 1 = g := ⟨_, rfl⟩
  rw [hg] at P0 ⊢
  have hgw : w.heap.size ≤ g := by omega
  clear hg
  have C := Lib.hid (iRexOk zk zs kids A c w1 hl hz hq (S0.to.more (Nat.le_refl _) L0.size))
  obtain ⟨q, hq2⟩ : ∃ q, rexB zk zs kids = q := ⟨_, rfl⟩
  rw [hq2] at C
  have HQ := Lib.hid hq2
  clear hq2
  have cb := B.cell
  go_wp2_with fail
  refine C.out.mono ?_; rintro e w2 ⟨rfl, b2⟩
  have B2 := B.keep b2
  have P2 := P0.keep b2
  have hgl := P2.lt
  have hwl := (bl_trans L0 b2).size
  have L2 := bl_trans L0 b2
  have S2 := S0.keep (w' := w2) (fun p _ hp => b2.cell (by have := L0.size; omega)) (Nat.le_refl _) (Nat.le_refl _)
  clear B P0 L0 S0 cb b2 C
  cases q
  · have cp := P2.cell
    have fp := P2.frozen
    have hE : nfaL zk zs kids = [] := by unfold nfaL; rw [HQ.out]; rfl
    have HE := Lib.hid hE
    clear hE
    go_wp2_with fail
    refine bodyPost_ret (res_cell1 rfl _ _ _ _ _ _ rfl (P2.set_ 0 _) Try.underlying30 (by kernel_rfl)) rfl ⟨?_, bl_set (p := ⟨g, 0, none⟩) L2 hgw _⟩
    rw [HE.out]
    exact ⟨none, 0, rfl, ⟨World.ownsRow_nil _ _ _ _, fun k hk => by cases hk⟩⟩
  · have HP := rex_parts HQ.out
    have hE : nfaL zk zs kids = layR (zk, zs) kids 0 ++ [(7, ⟨#[]⟩, 0, 0)] := by unfold nfaL; rw [HQ.out]; rfl
    have HE := Lib.hid hE
    clear hE
    have hO2 : w2.ownsRow w.heap.size 76 4 (.slice none ([] : List (Int × ByteArray × Int × Int)).length 0) ([] : List (Int × ByteArray × Int × Int)).length (flat nodeC []) := World.ownsRow_nil _ _ _ _
    have CL := Lib.hid (iLay (kids.size + 1) kids (Nat.lt_succ_self _) zk zs A c none 0 [] w.heap.size w2 HP.2.2 (by have := HP.2.2; simp; omega) HP.1 HP.2.1 L2.size hc hO2 S2)
    have cb := B2.cell
    have hszl := szR_le (zk, zs) kids
    have HRL := Lib.hid (layR_len (a := (zk, zs)) HP.1 HP.2.1 0)
    have h60 := HP.2.2
    clear HP
    go_wp2_with fail
    refine CL.out.mono ?_; rintro e w3 ⟨A3, c3, y3, rfl, h3, t3⟩
    have hl3 := congrArg List.length h3
    rw [List.nil_append, List.length_nil, HRL.out] at hl3
    have h3b : y3.length ≤ 1000 := by omega
    have H3 := Lib.hid (h3.trans (List.nil_append _))
    have hO3 := t3.own
    have hne3 : some g ≠ (Value.slice none ([] : List (Int × ByteArray × Int × Int)).length 0).ownBlock := by simp [Value.ownBlock]
    have P3 := P2.grown t3.gr hne3
    have L3 := bl_gr L2 t3.gr (fun k e => by simp [Value.ownBlock] at e)
    have hs3 := L3.size
    clear hl3 h3 t3 CL cb L2 P2 S2 B2 hne3 
    go_wp2_with (at_builtin; refine wpList_node (7, ⟨#[]⟩, 0, 0) rfl _ _ rfl w.heap.size _ _ _ rfl hO3 (by first | rfl | (rw [alloc_size]; rfl)) (by omega) (by omega) ?_)
    intro A4 c4 y4 w4 h4 hl4 t4
    have hO4 := t4.own
    have hne4 := own_blk_ne hO4 (P3.grown t4.gr (fun e => own_blk_ne hO3 P3 (by decide) e.symm)) (by decide)
    have P4 := P3.grown t4.gr (fun e => own_blk_ne hO3 P3 (by decide) e.symm)
    have L4 := bl_gr L3 t4.gr (fun k e => (hO3.lt k e).1)
    have HY := Lib.hid (show nfaL zk zs kids = y4 by rw [HE.out, h4.out, H3.out]; rfl)
    have cp := P4.cell
    have fp := P4.frozen
    clear t4 P3 L3 hO3
    go_wp2_with fail
    refine bodyPost_ret (res_cell1 rfl _ _ _ _ _ _ rfl (P4.set_ 0 _) Try.underlying30 (by kernel_rfl)) rfl ⟨?_, bl_set (p := ⟨g, 0, none⟩) L4 hgw _⟩
    rw [HY.out]
    exact ⟨A4, c4, rfl, Row.mk (ownsRow_setCell_other hO4 hne4 _)⟩

end Go.Proofs.Ytnoekbgmhnhneaa
