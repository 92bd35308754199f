/- Walks over the laws' toRexS and toRex: new rows of Rexs, the call's own; over markRexS and markRex. A row has at most 1048576 nodes. -/
import Derived.Test.YtnoekbgmhnhneaaOw
import Derived.Test.YtnoekbgmhnhneaaMarkText
namespace Go.Proofs.Ytnoekbgmhnhneaa
open Go.RowKit

/-- It hands back a new row. -/
def RetFrO (fr : Fr (Int × ByteArray)) (w : World) (e : Ending) (w' : World) : Prop := ∃ (A : Option Addr) (c : Nat), e = .returned (.slice A fr.len c) ∧ Ow w' w.heap.size w'.heap.size A fr
/-- It hands back a new tree. -/
def RetTrO (a : Int × ByteArray) (kids : Fr (Int × ByteArray)) (w : World) (e : Ending) (w' : World) : Prop := ∃ (A : Option Addr) (c : Nat), e = .returned (.agg #[.int .i64 a.1, .string a.2, .slice A kids.len c]) ∧ Ow w' w.heap.size w'.heap.size A kids

set_option maxHeartbeats 1000000 in
theorem toRexO_of (zk : Int) (zs : ByteArray) (kids : Fr (Int × ByteArray)) (A : Option Addr) (c : Nat) (w : World) (hS : Sl rexC w 0 w.heap.size A kids)
    (I : ∀ w', Sl rexC w' 0 w'.heap.size A kids → Calls Try.prog 52 #[.slice A kids.len c] w' fun e w'' => RetFrO kids w' e w'' ∧ Below w'.heap.size w' w'') :
    Calls Try.prog 21 #[.agg #[.int .i64 zk, .string zs, .slice A kids.len c]] w fun e w' => RetTrO (zk, zs) kids w e w' ∧ Below w.heap.size w w' := by
  have e1 := alloc_size w (.cells #[.int .i64 zk, .string zs, .slice A kids.len c] 40)
  have e2 := alloc_size (w.alloc (.cells #[.int .i64 zk, .string zs, .slice A kids.len c] 40)) (.cells #[.int .i64 0, .string ⟨#[]⟩, .slice none 0 0] 45)
  have e3 := alloc_size ((w.alloc (.cells #[.int .i64 zk, .string zs, .slice A kids.len c] 40)).alloc (.cells #[.int .i64 0, .string ⟨#[]⟩, .slice none 0 0] 45)) (.cells #[.int .i64 zk, .string zs, .slice none 0 0] 45)
  have B1 := (Blk.new2 w (.cells #[.int .i64 zk, .string zs, .slice A kids.len c] 40) 45 #[.int .i64 0, .string ⟨#[]⟩, .slice none 0 0]).alloc (.cells #[.int .i64 zk, .string zs, .slice none 0 0] 45)
  have B2 := Blk.new2 (w.alloc (.cells #[.int .i64 zk, .string zs, .slice A kids.len c] 40)) (.cells #[.int .i64 0, .string ⟨#[]⟩, .slice none 0 0] 45) 45 #[.int .i64 zk, .string zs, .slice none 0 0]
  have L0 := bl_alloc (bl_alloc (bl_alloc (Below.refl w.heap.size w) (.cells #[.int .i64 zk, .string zs, .slice A kids.len c] 40)) (.cells #[.int .i64 0, .string ⟨#[]⟩, .slice none 0 0] 45)) (.cells #[.int .i64 zk, .string zs, .slice none 0 0] 45)
  have hS0 := hS.below L0 (Nat.le_refl _)
  rw [e1] at B2
  have I0 := I _ (hS0.more (Nat.le_refl _) L0.size)
  go_enter Try.func21, Try.ntmps21
  go_wp2_with fail
  generalize ((w.alloc (.cells #[.int .i64 zk, .string zs, .slice A kids.len c] 40)).alloc (.cells #[.int .i64 0, .string ⟨#[]⟩, .slice none 0 0] 45)).alloc (.cells #[.int .i64 zk, .string zs, .slice none 0 0] 45) = W at B1 B2 L0 I0 e3 ⊢
  refine I0.mono ?_; rintro e w1 ⟨⟨A2, c2, rfl, hS2⟩, b1⟩
  replace B1 : Blk w1 (w.heap.size + 1) _ _ := Blk.keep B1 b1
  replace B2 : Blk w1 (w.heap.size + 1 + 1) _ _ := Blk.keep B2 b1
  have p1 := B1.cell
  have f1 := B1.frozen
  have p2 := B2.cell
  have f2 := B2.frozen
  have L1 := bl_trans L0 b1
  go_wp2_with fail
  exact bodyPost_ret (res_cell1 rfl _ _ _ _ _ _ rfl (((((B1.farb (by omega) _).set_ 0 _).set_ 1 _).set_ 2 _)) Try.underlying45 (by kernel_rfl)) rfl ⟨⟨A2, c2, rfl, (((((hS2.setb (.inl (by omega)) _).setb (.inl (by omega)) _).setb (.inl (by omega)) _).setb (.inl (by omega)) _)).more (by omega) (by simp)⟩, (bl_setb (bl_setb (bl_setb (bl_setb L1 (by omega) _) (by omega) _) (by omega) _) (by omega) _)⟩

set_option maxHeartbeats 2000000 in
theorem toRexOS_step (fr : Fr (Int × ByteArray)) (A : Option Addr) (c : Nat) (w : World) (hn : fr.len ≤ 1048576) (hS : Sl rexC w 0 w.heap.size A fr)
    (ih : ∀ (kids : Fr (Int × ByteArray)), kids.size < fr.size → ∀ (A : Option Addr) (c : Nat) (w : World), Sl rexC w 0 w.heap.size A kids → Calls Try.prog 52 #[.slice A kids.len c] w fun e w' => RetFrO kids w e w' ∧ Below w.heap.size w w') :
    Calls Try.prog 52 #[.slice A fr.len c] w fun e w' => RetFrO fr w e w' ∧ Below w.heap.size w w' := by
  have hn' : (fr.len : Int) ≤ 1048576 := by omega
  obtain ⟨i0, hi, hz0, hz1, hz2⟩ := info_parts info_Rex
  obtain ⟨ys, hys⟩ : ∃ ys : List ((Int × ByteArray) × Value), ys = List.replicate fr.len ((0, ⟨#[]⟩), Value.slice none 0 0) := ⟨_, rfl⟩
  have hyl : Hid (ys.length = fr.len) := by unfold Hid; rw [hys]; simp
  have hrep : Hid ((List.replicate fr.len [Value.int .i64 0, Value.string ⟨#[]⟩, Value.slice none 0 0]).flatten = flat (rC rexC) ys) := by
    unfold Hid
    rw [hys]
    unfold flat
    rw [List.flatMap_replicate]
    rfl
  clear hys
  have IH := Lib.hid ih
  clear ih
  go_enter Try.func52, Try.ntmps52
  go_wp2_with (at_make; refine wpList_makeN rfl _ _ 43 rfl 45 i0 (.agg #[.int .i64 0, .string ⟨#[]⟩, .slice none 0 0]) 3 48 Try.underlying43 hi hz0 hz1 hz2 rfl _ _ fr.len rfl rfl (by omega) (by omega) ?_)
  intro w1 hO hL
  rw [hrep.out] at hO
  go_wp2_with fail
  go_loopw [4] (fun i wr => ∃ (k : Nat) (l : List ((Int × ByteArray) × Value)), k ≤ fr.len ∧ i = .int .i64 k ∧ l.length = fr.len ∧ FitsO wr (w.heap.size + 1) wr.heap.size fr l k ∧ w.heap.size < wr.heap.size ∧ wr.ownsRow w.heap.size 45 3 (.slice (some ⟨w.heap.size, 0, none⟩) fr.len fr.len) fr.len (flat (rC rexC) l) ∧ Below w.heap.size w wr) (fun i _ => fr.len - (intOf i).toNat)
  case atStart => exact ⟨0, ys, Nat.zero_le _, rfl, hyl.out, FitsO.zero _ _, (hO.lt _ rfl).2, hO, hL⟩
  case round =>
    obtain ⟨k, l, hk, rfl, hll, hF, hgs, hOr, hLr⟩ := hrel
    have HF := Lib.hid hF
    have HLL := Lib.hid hll
    clear hF hll
    by_cases hlt : k < fr.len
    · obtain ⟨b, o, a, kids, A', c', rfl, hb, hd, hks, hSk, q0, q1, q2⟩ := at_Rex (hS.below hLr (Nat.le_refl _)) hlt
      have hlt' : (k : Int) < (fr.len : Int) := by omega
      have hul : k < l.length := by rw [HLL.out]; exact hlt
      have hcg := fun c hc => flat_get (rC_len rexC_len) l k hul c hc
      have HD := Lib.hid hd
      clear hd
      obtain ⟨zk, zs⟩ := a
      simp only at q0 q1 q2
      have C := toRexO_of zk zs kids A' c' wr (hSk.more (Nat.le_refl _) hLr.size) (fun w' h => IH.out kids hks A' c' w' h)
      have CC := Lib.hid C
      clear C
      go_wp2_with fail
      refine CC.out.mono ?_; rintro e w2 ⟨⟨A2, c2, rfl, hS2⟩, b2⟩
      have hO2 : w2.ownsRow _ _ _ _ _ _ := ((Row.mk hOr).keep b2).1
      have cc0 := hO2.cellAt (k * 3) (by omega)
      have cc1 := hO2.cellAt (k * 3 + 1) (by omega)
      have cc2 := hO2.cellAt (k * 3 + 2) (by omega)
      rw [hcg 1 (by omega)] at cc1
      rw [hcg 2 (by omega)] at cc2
      have h0 := hcg 0 (by omega)
      rw [Nat.add_zero] at h0
      rw [h0] at cc0
      have f0 := hO2.frozenAt (k * 3)
      have f1 := hO2.frozenAt (k * 3 + 1)
      have f2 := hO2.frozenAt (k * 3 + 2)
      clear h0 hcg
      have hSt := (((hO2.stored (k * 3) (.int .i64 zk)).1.stored (k * 3 + 1) (.string zs)).1.stored (k * 3 + 2) (.slice A2 kids.len c2)).1
      rw [flat_set3 (rC_len rexC_len) ((zk, zs), .slice A2 kids.len c2) rfl _ k hul] at hSt
      have HS := Lib.hid hSt
      clear hSt
      have hz2 := b2.size
      have hFn := Lib.hid (FitsO.set_ (c := c2) (HF.out.keep (w' := w2) (fun p h1 h2 => below_both b2 h2) (Nat.le_refl _) b2.size) hul HD.out (hS2.more (by omega) (Nat.le_refl _)))
      generalize l[k] = y at *
      obtain ⟨⟨yyk, yys⟩, yv⟩ := y
      simp only [rC, rexC, List.cons_append, List.nil_append] at cc0 cc1 cc2
      go_wp2_with fail
      go_roundw
      case rel =>
        refine ⟨k + 1, _, by omega, by go_num, by rw [List.length_set]; exact HLL.out, ?_, by simp; omega, HS.out, bl_set (bl_set (bl_set (bl_trans hLr b2) (Nat.le_refl _) _) (Nat.le_refl _) _) (Nat.le_refl _) _⟩
        exact (((hFn.out.setb (.inl (Nat.lt_succ_self _)) _).setb (.inl (Nat.lt_succ_self _)) _).setb (.inl (Nat.lt_succ_self _)) _).keep (fun _ _ _ => ⟨rfl, rfl⟩) (Nat.le_refl _) (by simp)
      case measure => simp [intOf]; omega
    · obtain rfl : k = fr.len := by omega
      have H := Lib.hid hOr
      clear hOr
      go_wp2_with fail
      go_ret
      refine ⟨⟨_, _, rfl, fun hp => ⟨w.heap.size, rfl, Nat.le_refl _, hgs, OwIn.of_fits fr l _ _ HLL.out (HF.out.keep (fun _ _ _ => ⟨rfl, rfl⟩) (by omega) (Nat.le_refl _)) (fun j u hu => ⟨?_, H.out.frozenAt _⟩)⟩⟩, hLr⟩
      have := H.out.cells rfl j u hu
      rw [add_plain] at this
      exact this

set_option maxHeartbeats 2000000 in
theorem toRexOS_any (N : Nat) (hN : N ≤ 1048576) : ∀ (fr : Fr (Int × ByteArray)) (A : Option Addr) (c : Nat) (w : World), fr.size ≤ N → Sl rexC w 0 w.heap.size A fr →
    Calls Try.prog 52 #[.slice A fr.len c] w fun e w' => RetFrO fr w e w' ∧ Below w.heap.size w w' := by
  induction N with
  | zero =>
    intro fr A c w hs hS
    obtain rfl := Fr.size_pos (Nat.le_zero.1 hs)
    exact toRexOS_step .nil A c w (by simp [Fr.len]) hS (fun kids h => by simp [Fr.size] at h)
  | succ N ih =>
    intro fr A c w hs hS
    exact toRexOS_step fr A c w (by have := fr.len_size; omega) hS (fun kids h A c w hk => ih (by omega) kids A c w (by omega) hk)

set_option maxRecDepth 20000 in
set_option maxHeartbeats 2000000 in
theorem markRexS_step (fr : Fr (Int × ByteArray)) (A : Option Addr) (c k lo hi : Nat) (w : World) (hn : fr.len ≤ 1048576) (hk : k + 2 * fr.size ≤ 1073741824) (hh : hi ≤ w.heap.size) (hS : Sh w lo hi A fr)
    (ih : ∀ (kids : Fr (Int × ByteArray)), kids.size < fr.size → ∀ (A : Option Addr) (c k : Nat) (w : World), k + 2 * kids.size ≤ 1073741824 → hi ≤ w.heap.size → Sh w lo hi A kids → Calls Try.prog 56 #[.slice A kids.len c, .int .i64 k] w fun e w' => e = .returned (.int .i64 ((k + 2 * kids.size : Nat) : Int)) ∧ Mk lo hi w w') :
    Calls Try.prog 56 #[.slice A fr.len c, .int .i64 k] w fun e w' => e = .returned (.int .i64 ((k + 2 * fr.size : Nat) : Int)) ∧ Mk lo hi w w' := by
  have hn' : (fr.len : Int) ≤ 1048576 := by omega
  have IH := Lib.hid ih
  clear ih
  obtain ⟨K, hK⟩ : ∃ K, k + 2 * fr.size = K := ⟨_, rfl⟩
  rw [hK]
  have HK := Lib.hid hK
  have hKb : K ≤ 1073741824 := by omega
  clear hK
  go_enter Try.func56, Try.ntmps56
  go_wp2_with fail
  go_loopw [1, 5] (fun kv i wr => ∃ (q x : Nat), q ≤ fr.len ∧ i = .int .i64 q ∧ kv = .int .i64 x ∧ x + 2 * (fr.drop q).size = K ∧ Mk lo hi w wr) (fun _ i _ => fr.len - (intOf i).toNat)
  case atStart => exact ⟨0, k, Nat.zero_le _, rfl, rfl, by rw [Fr.drop_zero]; exact HK.out, Mk.refl _ _ _⟩
  case round =>
    obtain ⟨q, x, hq, rfl, rfl, hx, hM⟩ := hrel
    by_cases hlt : q < fr.len
    · have hlt' : (q : Int) < (fr.len : Int) := by omega
      obtain ⟨b, rfl, hb1, hb2, hSI⟩ := hM.sh hS (by omega)
      obtain ⟨a, kids, y, s, A', c', hd, hks, q0, q1, q2, f0, f1, hSk⟩ := Sh.at_ hSI hlt
      have hsz : x + 2 * (kids.size + (fr.drop (q + 1)).size + 1) = K := by rw [hd] at hx; exact hx
      have HX := Lib.hid (show x + 2 + 2 * kids.size + 2 * (fr.drop (q + 1)).size = K by omega)
      have hxb : x + 2 + 2 * kids.size ≤ 1073741824 := by omega
      have hxi : (x : Int) ≤ 1073741824 := by omega
      clear hx hsz hd hSI
      have ms := hM.size
      have M1 := Mk.set (w := wr) (lo := lo) (hi := hi) (B := b) (o := q * 3) (u := .int .i64 (x : Int)) hb1 hb2 (.inl ⟨by omega, _, rfl⟩) (by rw [q0]; rfl)
      have r1 : (wr.setCell ⟨b, q * 3, none⟩ (.int .i64 (x : Int))).cell? ⟨b, q * 3 + 1, none⟩ = some (.string s) := by rw [World.cell?_setCell_other _ _ _ _ (fun e => by injection e with _ e; omega)]; exact q1
      have r2 : (wr.setCell ⟨b, q * 3, none⟩ (.int .i64 (x : Int))).cell? ⟨b, q * 3 + 2, none⟩ = some (.slice A' kids.len c') := by rw [World.cell?_setCell_other _ _ _ _ (fun e => by injection e with _ e; omega)]; exact q2
      have g1 : (wr.setCell ⟨b, q * 3, none⟩ (.int .i64 (x : Int))).frozen? ⟨b, q * 3 + 1, none⟩ = false := by rw [World.frozen?_setCell]; exact f1
      have sz1 : (wr.setCell ⟨b, q * 3, none⟩ (.int .i64 (x : Int))).heap.size = wr.heap.size := by simp
      have CM := markText_any (x + 1) (wr.setCell ⟨b, q * 3, none⟩ (.int .i64 (x : Int))) (by omega)
      generalize mtS (x + 1) = z at CM
      rw [show ((x + 1 : Nat) : Int) = (x : Int) + 1 by omega] at CM
      have CMM := Lib.hid CM
      clear CM q1 q2 f1
      go_wp2_with fail
      clear q0 f0
      generalize hw1 : wr.setCell ⟨b, q * 3, none⟩ (.int .i64 (x : Int)) = x1 at M1 r1 r2 g1 sz1 CMM ⊢
      clear hw1
      refine CMM.out.mono ?_; rintro e w2 ⟨rfl, b2⟩
      have hb3 : b < x1.heap.size := by omega
      have t1 := (b2.cell (p := ⟨b, q * 3 + 1, none⟩) hb3).trans r1
      have t2 := (b2.cell (p := ⟨b, q * 3 + 2, none⟩) hb3).trans r2
      have t3 : w2.frozen? ⟨b, q * 3 + 1, none⟩ = false := (below_both b2 (p := ⟨b, q * 3 + 1, none⟩) hb3).2.trans g1
      have M2 := M1.trans (Mk.below b2 (by omega))
      have M3 := Mk.set (w := w2) (lo := lo) (hi := hi) (B := b) (o := q * 3 + 1) (u := .string z) hb1 hb2 (.inr ⟨by omega, _, rfl⟩) (by rw [t1]; rfl)
      have M4 := M2.trans M3
      have u2 : (w2.setCell ⟨b, q * 3 + 1, none⟩ (.string z)).cell? ⟨b, q * 3 + 2, none⟩ = some (.slice A' kids.len c') := by rw [World.cell?_setCell_other _ _ _ _ (fun e => by injection e with _ e; omega)]; exact t2
      have bs := b2.size
      have sz2 : (w2.setCell ⟨b, q * 3 + 1, none⟩ (.string z)).heap.size = w2.heap.size := by simp
      have CI := IH.out kids hks A' c' (x + 2) (w2.setCell ⟨b, q * 3 + 1, none⟩ (.string z)) hxb (by omega) (M4.sh hSk)
      rw [show ((x + 2 : Nat) : Int) = (x : Int) + 1 + 1 by omega] at CI
      have CII := Lib.hid CI
      clear CI CMM r1 r2 g1 t2 hSk
      go_wp2_with fail
      refine CII.out.mono ?_; rintro e w5 ⟨rfl, M5⟩
      have hM5 := (hM.trans M4).trans M5
      clear u2 t1 t3 M4 M3 M2 M1 CII
      go_wp2_with fail
      go_roundw
      case rel => exact ⟨q + 1, x + 2 + 2 * kids.size, by omega, by go_num, rfl, HX.out, hM5⟩
      case measure => (simp [intOf] <;> omega)
    · obtain rfl : q = fr.len := by omega
      rw [Fr.drop_all] at hx
      obtain rfl : x = K := hx
      go_wp2_with fail
      go_ret
      exact ⟨rfl, hM⟩
theorem markRexS_any (N lo hi : Nat) (hN : N ≤ 1048576) : ∀ (fr : Fr (Int × ByteArray)) (A : Option Addr) (c k : Nat) (w : World), fr.size ≤ N → k + 2 * fr.size ≤ 1073741824 → hi ≤ w.heap.size → Sh w lo hi A fr →
    Calls Try.prog 56 #[.slice A fr.len c, .int .i64 k] w fun e w' => e = .returned (.int .i64 ((k + 2 * fr.size : Nat) : Int)) ∧ Mk lo hi w w' := by
  induction N with
  | zero =>
    intro fr A c k w hs hk hh hS
    obtain rfl := Fr.size_pos (Nat.le_zero.1 hs)
    exact markRexS_step .nil A c k lo hi w (by simp [Fr.len]) hk hh hS (fun kids h => by simp [Fr.size] at h)
  | succ N ih =>
    intro fr A c k w hs hk hh hS
    exact markRexS_step fr A c k lo hi w (by have := fr.len_size; omega) hk hh hS (fun kids h A c k w q1 q2 q3 => ih (by omega) kids A c k w (by omega) q1 q2 q3)
set_option maxHeartbeats 1000000 in
theorem markRex_any (zk : Int) (zs : ByteArray) (kids : Fr (Int × ByteArray)) (A : Option Addr) (c k lo hi : Nat) (w : World) (hn : kids.size ≤ 1048576) (hk : k + 2 * kids.size ≤ 1073741824) (hh : hi ≤ w.heap.size) (hS : Sh w lo hi A kids) :
    Calls Try.prog 24 #[.agg #[.int .i64 zk, .string zs, .slice A kids.len c], .int .i64 k] w fun e w' => e = .returned (.int .i64 ((k + 2 * kids.size : Nat) : Int)) ∧ Mk lo hi w w' := by
  have B := Blk.new w 45 #[.int .i64 zk, .string zs, .slice A kids.len c]
  have M0 : Mk lo hi w (w.alloc (.cells #[.int .i64 zk, .string zs, .slice A kids.len c] 45)) := Mk.below (bl_alloc (Below.refl w.heap.size w) _) hh
  have C := Lib.hid (markRexS_any kids.size lo hi hn kids A c k _ (Nat.le_refl _) hk (Nat.le_trans hh M0.size) (M0.sh hS))
  have pB := B.cell
  go_enter Try.func24, Try.ntmps24
  go_wp2_with fail
  refine C.out.mono ?_; rintro e w1 ⟨rfl, M1⟩
  go_wp2_with fail
  go_ret
  exact ⟨rfl, M0.trans M1⟩

end Go.Proofs.Ytnoekbgmhnhneaa
