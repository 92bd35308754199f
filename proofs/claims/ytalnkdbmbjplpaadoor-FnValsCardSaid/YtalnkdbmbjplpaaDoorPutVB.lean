/- Walks over PutVal, the program's and the reference's. Lengths are at most 2 to the 29th. -/
import Derived.Test.YtalnkdbmbjplpaaDoorPutT
import Derived.Test.YtalnkdbmbjplpaaDoorNumS
import Derived.Test.YtalnkdbmbjplpaaDoorNumD
namespace Go.Proofs.YtalnkdbmbjplpaaDoor
open Go.RowKit

/-- A value's bytes. -/
def vB (k n : Int) (s : ByteArray) : List Int := uB k ++ (if k = 1 then sB n else if k = 2 then uB s.size ++ strI s else [])
theorem sB_len5 (n : Int) : (sB n).length ≤ 5 := by
  have : ∀ (f : Nat) (n : Int), (sBf f n).length ≤ f + 1 := by
    intro f
    induction f with
    | zero => intro n; simp [sBf]
    | succ f ih =>
      intro n
      rw [sBf]
      split
      · simp
      · have := ih (n / 128)
        simp; omega
  exact this 4 _
theorem vB_len (k n : Int) (s : ByteArray) : (vB k n s).length ≤ s.size + 10 := by
  have h1 := uB_len k
  have h2 := sB_len5 n
  have h3 := uB_len s.size
  have h4 := strI_len s
  unfold vB
  split
  · rw [List.length_append]; omega
  · split
    · rw [List.length_append, List.length_append]; omega
    · rw [List.length_append, List.length_nil]; omega

set_option maxHeartbeats 2000000 in
theorem iPutVal (A : Option Addr) (c : Nat) (k n : Int) (s : ByteArray) (zs : List Int) (w : World) (hR : Reads w w.heap.size 1 A zs.length (u8s zs)) (hZ : Byt zs) (hn : zs.length ≤ 536870900) (hs : s.size ≤ 536870912) :
    Calls Tryd.prog 8 #[.slice A zs.length c, .agg #[.int .i64 k, .int .i64 n, .string s]] w fun e w' => RetB (fun ys => zs ++ vB k n s = ys) w e w' ∧ Below w.heap.size w w' := by
  have B0 := Blk.new w 25 #[.int .i64 k, .int .i64 n, .string s]
  have hlY : (zs ++ uB k).length ≤ 536870912 := by have := uB_len k; rw [List.length_append]; omega
  by_cases h1 : k = 1
  · subst h1
    rw [show zs ++ vB 1 n s = (zs ++ uB 1) ++ sB n by rw [List.append_assoc]; rfl]
    have hC := fun (w : World) (h : Reads w w.heap.size 1 A zs.length (u8s zs)) => iPutU A c 1 zs w h hZ (by omega)
    generalize zs ++ uB 1 = Y at *
    have HC := Lib.hid hC
    clear hC
    go_enter Tryd.func8, Tryd.ntmps8
    go_wp2_with fail
    refine (HC.out _ (rd_below hR (bl_alloc (Below.refl _ _) _))).mono ?_; rintro e w1 ⟨⟨v1, _, rfl, rfl, hY, O⟩, b1⟩
    obtain ⟨A1, c1, rfl⟩ := O.form
    have B1 := B0.keep b1
    have cc := B1.cell
    have s1 := b1.size
    have s0 : w.heap.size ≤ (w.alloc (.cells #[.int .i64 1, .int .i64 n, .string s] 25)).heap.size := by simp
    go_wp2_with fail
    refine (iPutS A1 c1 n Y w1 O.reads hY hlY).mono ?_; rintro e w2 ⟨⟨v2, _, rfl, rfl, hY2, O2⟩, b2⟩
    go_wp2_with fail
    go_ret
    exact ⟨⟨v2, _, rfl, rfl, hY2, O2.more (by omega) (Nat.le_refl _)⟩, bl_trans (bl_trans (bl_alloc (Below.refl _ _) _) b1) b2⟩
  by_cases h2 : k = 2
  · subst h2
    rw [show zs ++ vB 2 n s = (zs ++ uB 2) ++ uB s.size ++ strI s by rw [List.append_assoc, List.append_assoc]; rfl]
    have hC := fun (w : World) (h : Reads w w.heap.size 1 A zs.length (u8s zs)) => iPutU A c 2 zs w h hZ (by omega)
    generalize zs ++ uB 2 = Y at *
    have HC := Lib.hid hC
    clear hC
    go_enter Tryd.func8, Tryd.ntmps8
    go_wp2_with fail
    refine (HC.out _ (rd_below hR (bl_alloc (Below.refl _ _) _))).mono ?_; rintro e w1 ⟨⟨v1, _, rfl, rfl, hY, O⟩, b1⟩
    obtain ⟨A1, c1, rfl⟩ := O.form
    have B1 := B0.keep b1
    have cc := B1.cell
    have s1 := b1.size
    have s0 : w.heap.size ≤ (w.alloc (.cells #[.int .i64 2, .int .i64 n, .string s] 25)).heap.size := by simp
    go_wp2_with fail
    refine (iPutT A1 c1 s Y w1 O.reads hY hlY hs).mono ?_; rintro e w2 ⟨⟨v2, _, rfl, rfl, hY2, O2⟩, b2⟩
    go_wp2_with fail
    go_ret
    exact ⟨⟨v2, _, rfl, rfl, hY2, O2.more (by omega) (Nat.le_refl _)⟩, bl_trans (bl_trans (bl_alloc (Below.refl _ _) _) b1) b2⟩
  · rw [show zs ++ vB k n s = zs ++ uB k by unfold vB; rw [if_neg h1, if_neg h2, List.append_nil]]
    have h1' : (k == 1) = false := by simp [h1]
    have h2' : (k == 2) = false := by simp [h2]
    have hC := fun (w : World) (h : Reads w w.heap.size 1 A zs.length (u8s zs)) => iPutU A c k zs w h hZ (by omega)
    generalize zs ++ uB k = Y at *
    have HC := Lib.hid hC
    clear hC
    go_enter Tryd.func8, Tryd.ntmps8
    go_wp2_with fail
    refine (HC.out _ (rd_below hR (bl_alloc (Below.refl _ _) _))).mono ?_; rintro e w1 ⟨⟨v1, _, rfl, rfl, hY, O⟩, b1⟩
    obtain ⟨A1, c1, rfl⟩ := O.form
    have B1 := B0.keep b1
    have cc := B1.cell
    have s1 := b1.size
    have s0 : w.heap.size ≤ (w.alloc (.cells #[.int .i64 k, .int .i64 n, .string s] 25)).heap.size := by simp
    go_wp2_with fail
    go_ret
    exact ⟨⟨_, Y, rfl, rfl, hY, O.more (by simp) (Nat.le_refl _)⟩, bl_trans (bl_alloc (Below.refl _ _) _) b1⟩

set_option maxHeartbeats 2000000 in
theorem sPutVal (A : Option Addr) (c : Nat) (k n : Int) (s : ByteArray) (zs : List Int) (w : World) (hR : Reads w w.heap.size 1 A zs.length (u8s zs)) (hZ : Byt zs) (hn : zs.length ≤ 536870900) (hs : s.size ≤ 536870912) :
    Calls Tryd.prog 27 #[.slice A zs.length c, .agg #[.int .i64 k, .int .i64 n, .string s]] w fun e w' => RetB (fun ys => zs ++ vB k n s = ys) w e w' ∧ Below w.heap.size w w' := by
  have B0 := Blk.new w 25 #[.int .i64 k, .int .i64 n, .string s]
  have hlY : (zs ++ uB k).length ≤ 536870912 := by have := uB_len k; rw [List.length_append]; omega
  by_cases h1 : k = 1
  · subst h1
    rw [show zs ++ vB 1 n s = (zs ++ uB 1) ++ sB n by rw [List.append_assoc]; rfl]
    have hC := fun (w : World) (h : Reads w w.heap.size 1 A zs.length (u8s zs)) => sPutU A c 1 zs w h hZ (by omega)
    generalize zs ++ uB 1 = Y at *
    have HC := Lib.hid hC
    clear hC
    go_enter Tryd.func27, Tryd.ntmps27
    go_wp2_with fail
    refine (HC.out _ (rd_below hR (bl_alloc (Below.refl _ _) _))).mono ?_; rintro e w1 ⟨⟨v1, _, rfl, rfl, hY, O⟩, b1⟩
    obtain ⟨A1, c1, rfl⟩ := O.form
    have B1 := B0.keep b1
    have cc := B1.cell
    have s1 := b1.size
    have s0 : w.heap.size ≤ (w.alloc (.cells #[.int .i64 1, .int .i64 n, .string s] 25)).heap.size := by simp
    go_wp2_with fail
    refine (sPutS A1 c1 n Y w1 O.reads hY hlY).mono ?_; rintro e w2 ⟨⟨v2, _, rfl, rfl, hY2, O2⟩, b2⟩
    go_wp2_with fail
    go_ret
    exact ⟨⟨v2, _, rfl, rfl, hY2, O2.more (by omega) (Nat.le_refl _)⟩, bl_trans (bl_trans (bl_alloc (Below.refl _ _) _) b1) b2⟩
  by_cases h2 : k = 2
  · subst h2
    rw [show zs ++ vB 2 n s = (zs ++ uB 2) ++ uB s.size ++ strI s by rw [List.append_assoc, List.append_assoc]; rfl]
    have hC := fun (w : World) (h : Reads w w.heap.size 1 A zs.length (u8s zs)) => sPutU A c 2 zs w h hZ (by omega)
    generalize zs ++ uB 2 = Y at *
    have HC := Lib.hid hC
    clear hC
    go_enter Tryd.func27, Tryd.ntmps27
    go_wp2_with fail
    refine (HC.out _ (rd_below hR (bl_alloc (Below.refl _ _) _))).mono ?_; rintro e w1 ⟨⟨v1, _, rfl, rfl, hY, O⟩, b1⟩
    obtain ⟨A1, c1, rfl⟩ := O.form
    have B1 := B0.keep b1
    have cc := B1.cell
    have s1 := b1.size
    have s0 : w.heap.size ≤ (w.alloc (.cells #[.int .i64 2, .int .i64 n, .string s] 25)).heap.size := by simp
    go_wp2_with fail
    refine (sPutT A1 c1 s Y w1 O.reads hY hlY hs).mono ?_; rintro e w2 ⟨⟨v2, _, rfl, rfl, hY2, O2⟩, b2⟩
    go_wp2_with fail
    go_ret
    exact ⟨⟨v2, _, rfl, rfl, hY2, O2.more (by omega) (Nat.le_refl _)⟩, bl_trans (bl_trans (bl_alloc (Below.refl _ _) _) b1) b2⟩
  · rw [show zs ++ vB k n s = zs ++ uB k by unfold vB; rw [if_neg h1, if_neg h2, List.append_nil]]
    have h1' : (k == 1) = false := by simp [h1]
    have h2' : (k == 2) = false := by simp [h2]
    have hC := fun (w : World) (h : Reads w w.heap.size 1 A zs.length (u8s zs)) => sPutU A c k zs w h hZ (by omega)
    generalize zs ++ uB k = Y at *
    have HC := Lib.hid hC
    clear hC
    go_enter Tryd.func27, Tryd.ntmps27
    go_wp2_with fail
    refine (HC.out _ (rd_below hR (bl_alloc (Below.refl _ _) _))).mono ?_; rintro e w1 ⟨⟨v1, _, rfl, rfl, hY, O⟩, b1⟩
    obtain ⟨A1, c1, rfl⟩ := O.form
    have B1 := B0.keep b1
    have cc := B1.cell
    have s1 := b1.size
    have s0 : w.heap.size ≤ (w.alloc (.cells #[.int .i64 k, .int .i64 n, .string s] 25)).heap.size := by simp
    go_wp2_with fail
    go_ret
    exact ⟨⟨_, Y, rfl, rfl, hY, O.more (by simp) (Nat.le_refl _)⟩, bl_trans (bl_alloc (Below.refl _ _) _) b1⟩

end Go.Proofs.YtalnkdbmbjplpaaDoor
