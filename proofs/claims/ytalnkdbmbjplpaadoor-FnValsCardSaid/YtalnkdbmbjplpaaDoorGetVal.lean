/- Walks over GetVal, the program's and the reference's. Lengths are at most 2 to the 29th. -/
import Derived.Test.YtalnkdbmbjplpaaDoorGetSAll
import Derived.Test.YtalnkdbmbjplpaaDoorGetT
import Derived.Test.YtalnkdbmbjplpaaDoorVal
namespace Go.Proofs.YtalnkdbmbjplpaaDoor
open Go.RowKit

/-- The value that is read of bytes. -/
def getV (zs : List Int) (p : Int) : Option ((Int × Int × ByteArray) × Int) :=
  match getU zs p with
  | none => none
  | some (k, q) =>
    if k = 1 then (match getS zs q with
      | none => none
      | some (n, r) => if vOk 1 n (ByteArray.mk #[]) then some ((1, n, (ByteArray.mk #[])), r) else none)
    else if k = 2 then (match getT zs q with
      | none => none
      | some (s, r) => if vOk 2 0 s then some ((2, 0, s), r) else none)
    else if vOk k 0 (ByteArray.mk #[]) then some ((k, 0, (ByteArray.mk #[])), q) else none
/-- A value read, the place behind it, whether there is one. -/
def resV : Option ((Int × Int × ByteArray) × Int) → Value
  | some ((k, n, s), p) => .tuple #[.agg #[.int .i64 k, .int .i64 n, .string s], .int .i64 p, .bool true]
  | none => .tuple #[.agg #[.int .i64 0, .int .i64 0, .string ⟨#[]⟩], .int .i64 0, .bool false]
theorem getV_none {zs : List Int} {p : Int} (h : getU zs p = none) : getV zs p = none := by rw [getV, h]
theorem getV_one_none {zs : List Int} {p q : Int} (h : getU zs p = some (1, q)) (h2 : getS zs q = none) : getV zs p = none := by
  rw [getV, h]; simp only [if_true, h2]
theorem getV_one {zs : List Int} {p q n r : Int} (h : getU zs p = some (1, q)) (h2 : getS zs q = some (n, r)) : getV zs p = if vOk 1 n (ByteArray.mk #[]) then some ((1, n, (ByteArray.mk #[])), r) else none := by
  rw [getV, h]; simp only [if_true, h2]
theorem getV_two_none {zs : List Int} {p q : Int} (h : getU zs p = some (2, q)) (h2 : getT zs q = none) : getV zs p = none := by
  rw [getV, h]; simp only [show ¬ ((2 : Int) = 1) by omega, if_false, if_true, h2]
theorem getV_two {zs : List Int} {p q r : Int} {s : ByteArray} (h : getU zs p = some (2, q)) (h2 : getT zs q = some (s, r)) : getV zs p = if vOk 2 0 s then some ((2, 0, s), r) else none := by
  rw [getV, h]; simp only [show ¬ ((2 : Int) = 1) by omega, if_false, if_true, h2]
theorem getV_other {zs : List Int} {p k q : Int} (h : getU zs p = some (k, q)) (h1 : k ≠ 1) (h2 : k ≠ 2) : getV zs p = if vOk k 0 (ByteArray.mk #[]) then some ((k, 0, (ByteArray.mk #[])), q) else none := by
  rw [getV, h]; simp only [if_neg h1, if_neg h2]

theorem results_cell3 {fn : Func} {p u v : Tmp} {ty : TypeId} (h : fn.results = #[.cell p ty, .tmp u, .tmp v]) (tmps : Array Value) (P : Program) (w : World) (g : Nat) (t : TypeId) (cs : Array Value) {fs : _}
    (hp : tmps.getD p undef = .pointer (some ⟨g, 0, none⟩)) (hg : Blk w g t cs)
    (hu : P.underlying ty = some (.struct fs)) (hi : (P.info? ty).map (·.size) = some cs.size) :
    (results fn tmps).run P w = .ok (.tuple #[.agg cs, tmps.getD u undef, tmps.getD v undef]) w := by
  have hp' : tmps[p]?.getD undef = .pointer (some ⟨g, 0, none⟩) := by simpa using hp
  simp [results, h, hp', asAddr, run_loadVar_row w g t ty cs (0, 0) (.struct fs) hg hu rfl hi]
theorem frz {w : World} {g : Nat} {t : TypeId} {cs : Array Value} (h : Blk w g t cs) : ∀ i, w.frozen? ⟨g, i, none⟩ = false := fun i => h.frozen i

set_option maxHeartbeats 2000000 in
theorem iGetVal (A : Option Addr) (c : Nat) (p : Int) (zs : List Int) (w : World) (hR : Reads w w.heap.size 1 A zs.length (u8s zs)) (hZ : Byt zs) (hn : zs.length ≤ 536870912) (hcap : zs.length ≤ c) (hc63 : c ≤ 9223372036854775807) :
    Calls Tryd.prog 9 #[.slice A zs.length c, .int .i64 p] w fun e w' => e = .returned (resV (getV zs p)) ∧ Below w.heap.size w w' := by
  have hU := fun (w : World) (h : Reads w w.heap.size 1 A zs.length (u8s zs)) => iGetU A c p zs w h hZ hn
  cases hg : getU zs p with
  | none =>
    have HG := Lib.hid (getV_none hg)
    rw [hg] at hU
    simp only [resP] at hU
    have HU := Lib.hid hU
    clear hU hg
    generalize getV zs p = G at *
    go_enter Tryd.func9, Tryd.ntmps9
    go_wp2_with fail
    refine (HU.out _ (rd_below hR (bl_alloc (Below.refl _ _) _))).mono ?_; rintro e w1 ⟨rfl, rfl⟩
    go_wp2_with fail
    have R0 := (Blk.new w 25 #[.int .i64 0, .int .i64 0, .string ⟨#[]⟩]).alloc (.cells #[.int .i64 0, .int .i64 0, .string ⟨#[]⟩] 25)
    have V0 : Blk ((w.alloc (.cells #[.int .i64 0, .int .i64 0, .string ⟨#[]⟩] 25)).alloc (.cells #[.int .i64 0, .int .i64 0, .string ⟨#[]⟩] 25)) (w.heap.size + 1) 25 #[.int .i64 0, .int .i64 0, .string ⟨#[]⟩] := heap_alloc2_new w _ _
    first
      | exact bodyPost_ret (results_cell3 rfl _ _ _ _ _ _ rfl (R0) Tryd.underlying25 (by kernel_rfl)) rfl ⟨by rw [HG.out]; rfl, by repeat (first | exact Below.refl _ _ | refine bl_drewN ?_ _ | refine Below.drew ?_ | refine bl_alloc ?_ _ | refine bl_set ?_ (by simp) _ | refine bl_trans ?_ (by assumption))⟩
      | exact bodyPost_ret (results_cell3 rfl _ _ _ _ _ _ rfl ((((R0).set_ 0 _).set_ 1 _).set_ 2 _) Tryd.underlying25 (by kernel_rfl)) rfl ⟨by rw [HG.out]; rfl, by repeat (first | exact Below.refl _ _ | refine bl_drewN ?_ _ | refine Below.drew ?_ | refine bl_alloc ?_ _ | refine bl_set ?_ (by simp) _ | refine bl_trans ?_ (by assumption))⟩
  | some x =>
    obtain ⟨k, q⟩ := x
    rw [hg] at hU
    simp only [resP] at hU
    have HU := Lib.hid hU
    clear hU
    by_cases h1 : k = 1
    · subst h1
      have hS := fun (w : World) (h : Reads w w.heap.size 1 A zs.length (u8s zs)) => iGetS A c q zs w h hZ hn hcap hc63
      cases hs : getS zs q with
      | none =>
        have HG := Lib.hid (getV_one_none hg hs)
        rw [hs] at hS
        simp only [resP] at hS
        have HS := Lib.hid hS
        clear hS hs hg
        generalize getV zs p = G at *
        go_enter Tryd.func9, Tryd.ntmps9
        go_wp2_with fail
        refine (HU.out _ (rd_below hR (bl_alloc (Below.refl _ _) _))).mono ?_; rintro e w1 ⟨rfl, rfl⟩
        go_wp2_with fail
        refine (HS.out _ (rd_below hR (bl_alloc (bl_alloc (Below.refl w.heap.size w) _) _))).mono ?_; rintro e w2 ⟨rfl, b2⟩
        have R0 := (Blk.new w 25 #[.int .i64 0, .int .i64 0, .string ⟨#[]⟩]).alloc (.cells #[.int .i64 1, .int .i64 0, .string ⟨#[]⟩] 25)
        have V0 : Blk ((w.alloc (.cells #[.int .i64 0, .int .i64 0, .string ⟨#[]⟩] 25)).alloc (.cells #[.int .i64 1, .int .i64 0, .string ⟨#[]⟩] 25)) (w.heap.size + 1) 25 #[.int .i64 1, .int .i64 0, .string ⟨#[]⟩] := heap_alloc2_new w _ _
        have R2 := R0.keep b2
        have V2 := V0.keep b2
        clear R0 V0
        have rc := R2.cell
        have vc := V2.cell
        have rf := R2.frozen
        have vf := V2.frozen
        go_wp2_with fail
        exact bodyPost_ret (results_cell3 rfl _ _ _ _ _ _ rfl ((((R2.far (Nat.ne_of_lt (Nat.lt_succ_self _)) _).set_ 0 _).set_ 1 _).set_ 2 _) Tryd.underlying25 (by kernel_rfl)) rfl ⟨by rw [HG.out]; rfl, by repeat (first | exact Below.refl _ _ | refine bl_drewN ?_ _ | refine Below.drew ?_ | refine bl_alloc ?_ _ | refine bl_set ?_ (by simp) _ | refine bl_trans ?_ (by assumption))⟩
      | some y =>
        obtain ⟨n, r⟩ := y
        rw [hs] at hS
        simp only [resP] at hS
        have HS := Lib.hid hS
        clear hS
        have hO := fun W => iValOk 1 n (ByteArray.mk #[]) W
        have hgv := getV_one hg hs
        cases hv : vOk 1 n (ByteArray.mk #[]) with
        | true =>
          rw [hv] at hO hgv
          have HO := Lib.hid hO
          have HG := Lib.hid hgv
          clear hO hgv hv hg hs
          generalize getV zs p = G at *
          go_enter Tryd.func9, Tryd.ntmps9
          go_wp2_with fail
          refine (HU.out _ (rd_below hR (bl_alloc (Below.refl _ _) _))).mono ?_; rintro e w1 ⟨rfl, rfl⟩
          go_wp2_with fail
          refine (HS.out _ (rd_below hR (bl_alloc (bl_alloc (Below.refl w.heap.size w) _) _))).mono ?_; rintro e w2 ⟨rfl, b2⟩
          have R0 := (Blk.new w 25 #[.int .i64 0, .int .i64 0, .string ⟨#[]⟩]).alloc (.cells #[.int .i64 1, .int .i64 0, .string ⟨#[]⟩] 25)
          have V0 : Blk ((w.alloc (.cells #[.int .i64 0, .int .i64 0, .string ⟨#[]⟩] 25)).alloc (.cells #[.int .i64 1, .int .i64 0, .string ⟨#[]⟩] 25)) (w.heap.size + 1) 25 #[.int .i64 1, .int .i64 0, .string ⟨#[]⟩] := heap_alloc2_new w _ _
          have R2 := R0.keep b2
          have V2 := V0.keep b2
          clear R0 V0
          have rc := R2.cell
          have vc := V2.cell
          have rf := R2.frozen
          have vf := V2.frozen
          go_wp2_with fail
          refine (HO.out _).mono ?_; rintro e w3 ⟨rfl, b3⟩
          have R3 : Blk w3 w.heap.size 25 #[.int .i64 0, .int .i64 0, .string ⟨#[]⟩] := (R2.far (Nat.ne_of_lt (Nat.lt_succ_self _)) _).keep b3
          have V3 : Blk w3 (w.heap.size + 1) 25 #[.int .i64 1, .int .i64 n, .string ⟨#[]⟩] := (V2.set_ 1 _).keep b3
          clear rc vc rf vf
          have rc := R3.cell
          have vc := V3.cell
          have rf := R3.frozen
          have vf := V3.frozen
          go_wp2_with fail
          exact bodyPost_ret (results_cell3 rfl _ _ _ _ _ _ rfl ((((R3).set_ 0 _).set_ 1 _).set_ 2 _) Tryd.underlying25 (by kernel_rfl)) rfl ⟨by rw [HG.out]; rfl, by repeat (first | exact Below.refl _ _ | refine bl_drewN ?_ _ | refine Below.drew ?_ | refine bl_alloc ?_ _ | refine bl_set ?_ (by simp) _ | refine bl_trans ?_ (by assumption))⟩
        | false =>
          rw [hv] at hO hgv
          have HO := Lib.hid hO
          have HG := Lib.hid hgv
          clear hO hgv hv hg hs
          generalize getV zs p = G at *
          go_enter Tryd.func9, Tryd.ntmps9
          go_wp2_with fail
          refine (HU.out _ (rd_below hR (bl_alloc (Below.refl _ _) _))).mono ?_; rintro e w1 ⟨rfl, rfl⟩
          go_wp2_with fail
          refine (HS.out _ (rd_below hR (bl_alloc (bl_alloc (Below.refl w.heap.size w) _) _))).mono ?_; rintro e w2 ⟨rfl, b2⟩
          have R0 := (Blk.new w 25 #[.int .i64 0, .int .i64 0, .string ⟨#[]⟩]).alloc (.cells #[.int .i64 1, .int .i64 0, .string ⟨#[]⟩] 25)
          have V0 : Blk ((w.alloc (.cells #[.int .i64 0, .int .i64 0, .string ⟨#[]⟩] 25)).alloc (.cells #[.int .i64 1, .int .i64 0, .string ⟨#[]⟩] 25)) (w.heap.size + 1) 25 #[.int .i64 1, .int .i64 0, .string ⟨#[]⟩] := heap_alloc2_new w _ _
          have R2 := R0.keep b2
          have V2 := V0.keep b2
          clear R0 V0
          have rc := R2.cell
          have vc := V2.cell
          have rf := R2.frozen
          have vf := V2.frozen
          go_wp2_with fail
          refine (HO.out _).mono ?_; rintro e w3 ⟨rfl, b3⟩
          have R3 : Blk w3 w.heap.size 25 #[.int .i64 0, .int .i64 0, .string ⟨#[]⟩] := (R2.far (Nat.ne_of_lt (Nat.lt_succ_self _)) _).keep b3
          have V3 : Blk w3 (w.heap.size + 1) 25 #[.int .i64 1, .int .i64 n, .string ⟨#[]⟩] := (V2.set_ 1 _).keep b3
          clear rc vc rf vf
          have rc := R3.cell
          have vc := V3.cell
          have rf := R3.frozen
          have vf := V3.frozen
          go_wp2_with fail
          exact bodyPost_ret (results_cell3 rfl _ _ _ _ _ _ rfl ((((R3).set_ 0 _).set_ 1 _).set_ 2 _) Tryd.underlying25 (by kernel_rfl)) rfl ⟨by rw [HG.out]; rfl, by repeat (first | exact Below.refl _ _ | refine bl_drewN ?_ _ | refine Below.drew ?_ | refine bl_alloc ?_ _ | refine bl_set ?_ (by simp) _ | refine bl_trans ?_ (by assumption))⟩
    by_cases h2 : k = 2
    · subst h2
      have hS := fun (w : World) (h : Reads w w.heap.size 1 A zs.length (u8s zs)) => iGetT A c q zs w h hZ hn hcap hc63
      clear h1
      cases hs : getT zs q with
      | none =>
        have HG := Lib.hid (getV_two_none hg hs)
        rw [hs] at hS
        simp only [resT] at hS
        have HS := Lib.hid hS
        clear hS hs hg
        generalize getV zs p = G at *
        go_enter Tryd.func9, Tryd.ntmps9
        go_wp2_with fail
        refine (HU.out _ (rd_below hR (bl_alloc (Below.refl _ _) _))).mono ?_; rintro e w1 ⟨rfl, rfl⟩
        go_wp2_with fail
        refine (HS.out _ (rd_below hR (bl_alloc (bl_alloc (Below.refl w.heap.size w) _) _))).mono ?_; rintro e w2 ⟨rfl, rfl⟩
        go_wp2_with fail
        exact bodyPost_ret (results_cell3 rfl _ _ _ _ _ _ rfl ((Blk.new w _ _).alloc _) Tryd.underlying25 (by kernel_rfl)) rfl ⟨by rw [HG.out]; rfl, by repeat (first | exact Below.refl _ _ | refine bl_drewN ?_ _ | refine Below.drew ?_ | refine bl_alloc ?_ _ | refine bl_set ?_ (by simp) _ | refine bl_trans ?_ (by assumption))⟩
      | some y =>
        obtain ⟨s, r⟩ := y
        rw [hs] at hS
        simp only [resT] at hS
        have HS := Lib.hid hS
        clear hS
        have hO := fun W => iValOk 2 0 s W
        have hgv := getV_two hg hs
        cases hv : vOk 2 0 s with
        | true =>
          rw [hv] at hO hgv
          have HO := Lib.hid hO
          have HG := Lib.hid hgv
          clear hO hgv hv hg hs
          generalize getV zs p = G at *
          go_enter Tryd.func9, Tryd.ntmps9
          go_wp2_with fail
          refine (HU.out _ (rd_below hR (bl_alloc (Below.refl _ _) _))).mono ?_; rintro e w1 ⟨rfl, rfl⟩
          go_wp2_with fail
          refine (HS.out _ (rd_below hR (bl_alloc (bl_alloc (Below.refl w.heap.size w) _) _))).mono ?_; rintro e w2 ⟨rfl, rfl⟩
          go_wp2_with fail
          refine (HO.out _).mono ?_; rintro e w3 ⟨rfl, b3⟩
          have R3 : Blk w3 w.heap.size 25 #[.int .i64 0, .int .i64 0, .string ⟨#[]⟩] := ((Blk.new w 25 #[.int .i64 0, .int .i64 0, .string ⟨#[]⟩]).alloc _).keep b3
          have V3 : Blk w3 (w.heap.size + 1) 25 #[.int .i64 2, .int .i64 0, .string s] := (show Blk _ (w.heap.size + 1) _ _ from heap_alloc2_new w _ _).keep b3
          have rc := R3.cell
          have vc := V3.cell
          have rf := R3.frozen
          have vf := V3.frozen
          go_wp2_with fail
          exact bodyPost_ret (results_cell3 rfl _ _ _ _ _ _ rfl ((((R3).set_ 0 _).set_ 1 _).set_ 2 _) Tryd.underlying25 (by kernel_rfl)) rfl ⟨by rw [HG.out]; rfl, by repeat (first | exact Below.refl _ _ | refine bl_drewN ?_ _ | refine Below.drew ?_ | refine bl_alloc ?_ _ | refine bl_set ?_ (by simp) _ | refine bl_trans ?_ (by assumption))⟩
        | false =>
          rw [hv] at hO hgv
          have HO := Lib.hid hO
          have HG := Lib.hid hgv
          clear hO hgv hv hg hs
          generalize getV zs p = G at *
          go_enter Tryd.func9, Tryd.ntmps9
          go_wp2_with fail
          refine (HU.out _ (rd_below hR (bl_alloc (Below.refl _ _) _))).mono ?_; rintro e w1 ⟨rfl, rfl⟩
          go_wp2_with fail
          refine (HS.out _ (rd_below hR (bl_alloc (bl_alloc (Below.refl w.heap.size w) _) _))).mono ?_; rintro e w2 ⟨rfl, rfl⟩
          go_wp2_with fail
          refine (HO.out _).mono ?_; rintro e w3 ⟨rfl, b3⟩
          have R3 : Blk w3 w.heap.size 25 #[.int .i64 0, .int .i64 0, .string ⟨#[]⟩] := ((Blk.new w 25 #[.int .i64 0, .int .i64 0, .string ⟨#[]⟩]).alloc _).keep b3
          have V3 : Blk w3 (w.heap.size + 1) 25 #[.int .i64 2, .int .i64 0, .string s] := (show Blk _ (w.heap.size + 1) _ _ from heap_alloc2_new w _ _).keep b3
          have rc := R3.cell
          have vc := V3.cell
          have rf := R3.frozen
          have vf := V3.frozen
          go_wp2_with fail
          exact bodyPost_ret (results_cell3 rfl _ _ _ _ _ _ rfl ((((R3).set_ 0 _).set_ 1 _).set_ 2 _) Tryd.underlying25 (by kernel_rfl)) rfl ⟨by rw [HG.out]; rfl, by repeat (first | exact Below.refl _ _ | refine bl_drewN ?_ _ | refine Below.drew ?_ | refine bl_alloc ?_ _ | refine bl_set ?_ (by simp) _ | refine bl_trans ?_ (by assumption))⟩
    · have h1' : (k == 1) = false := by simp [h1]
      have h2' : (k == 2) = false := by simp [h2]
      have hO := fun W => iValOk k 0 (ByteArray.mk #[]) W
      have hgv := getV_other hg h1 h2
      cases hv : vOk k 0 (ByteArray.mk #[]) with
      | true =>
        rw [hv] at hO hgv
        have HO := Lib.hid hO
        have HG := Lib.hid hgv
        clear hO hgv hv hg h1 h2
        generalize getV zs p = G at *
        go_enter Tryd.func9, Tryd.ntmps9
        go_wp2_with fail
        refine (HU.out _ (rd_below hR (bl_alloc (Below.refl _ _) _))).mono ?_; rintro e w1 ⟨rfl, rfl⟩
        go_wp2_with fail
        have R0 := (Blk.new w 25 #[.int .i64 0, .int .i64 0, .string ⟨#[]⟩]).alloc (.cells #[.int .i64 k, .int .i64 0, .string ⟨#[]⟩] 25)
        have V0 : Blk ((w.alloc (.cells #[.int .i64 0, .int .i64 0, .string ⟨#[]⟩] 25)).alloc (.cells #[.int .i64 k, .int .i64 0, .string ⟨#[]⟩] 25)) (w.heap.size + 1) 25 #[.int .i64 k, .int .i64 0, .string ⟨#[]⟩] := heap_alloc2_new w _ _
        refine (HO.out _).mono ?_; rintro e w3 ⟨rfl, b3⟩
        have R3 : Blk w3 w.heap.size 25 #[.int .i64 0, .int .i64 0, .string ⟨#[]⟩] := (R0).keep b3
        have V3 : Blk w3 (w.heap.size + 1) 25 #[.int .i64 k, .int .i64 0, .string ⟨#[]⟩] := (V0).keep b3
        have rc := R3.cell
        have vc := V3.cell
        have rf := R3.frozen
        have vf := V3.frozen
        go_wp2_with fail
        exact bodyPost_ret (results_cell3 rfl _ _ _ _ _ _ rfl ((((R3).set_ 0 _).set_ 1 _).set_ 2 _) Tryd.underlying25 (by kernel_rfl)) rfl ⟨by rw [HG.out]; rfl, by repeat (first | exact Below.refl _ _ | refine bl_drewN ?_ _ | refine Below.drew ?_ | refine bl_alloc ?_ _ | refine bl_set ?_ (by simp) _ | refine bl_trans ?_ (by assumption))⟩
      | false =>
        rw [hv] at hO hgv
        have HO := Lib.hid hO
        have HG := Lib.hid hgv
        clear hO hgv hv hg h1 h2
        generalize getV zs p = G at *
        go_enter Tryd.func9, Tryd.ntmps9
        go_wp2_with fail
        refine (HU.out _ (rd_below hR (bl_alloc (Below.refl _ _) _))).mono ?_; rintro e w1 ⟨rfl, rfl⟩
        go_wp2_with fail
        have R0 := (Blk.new w 25 #[.int .i64 0, .int .i64 0, .string ⟨#[]⟩]).alloc (.cells #[.int .i64 k, .int .i64 0, .string ⟨#[]⟩] 25)
        have V0 : Blk ((w.alloc (.cells #[.int .i64 0, .int .i64 0, .string ⟨#[]⟩] 25)).alloc (.cells #[.int .i64 k, .int .i64 0, .string ⟨#[]⟩] 25)) (w.heap.size + 1) 25 #[.int .i64 k, .int .i64 0, .string ⟨#[]⟩] := heap_alloc2_new w _ _
        refine (HO.out _).mono ?_; rintro e w3 ⟨rfl, b3⟩
        have R3 : Blk w3 w.heap.size 25 #[.int .i64 0, .int .i64 0, .string ⟨#[]⟩] := (R0).keep b3
        have V3 : Blk w3 (w.heap.size + 1) 25 #[.int .i64 k, .int .i64 0, .string ⟨#[]⟩] := (V0).keep b3
        have rc := R3.cell
        have vc := V3.cell
        have rf := R3.frozen
        have vf := V3.frozen
        go_wp2_with fail
        exact bodyPost_ret (results_cell3 rfl _ _ _ _ _ _ rfl ((((R3).set_ 0 _).set_ 1 _).set_ 2 _) Tryd.underlying25 (by kernel_rfl)) rfl ⟨by rw [HG.out]; rfl, by repeat (first | exact Below.refl _ _ | refine bl_drewN ?_ _ | refine Below.drew ?_ | refine bl_alloc ?_ _ | refine bl_set ?_ (by simp) _ | refine bl_trans ?_ (by assumption))⟩

set_option maxHeartbeats 2000000 in
theorem sGetVal (A : Option Addr) (c : Nat) (p : Int) (zs : List Int) (w : World) (hR : Reads w w.heap.size 1 A zs.length (u8s zs)) (hZ : Byt zs) (hn : zs.length ≤ 536870912) (hcap : zs.length ≤ c) (hc63 : c ≤ 9223372036854775807) :
    Calls Tryd.prog 12 #[.slice A zs.length c, .int .i64 p] w fun e w' => e = .returned (resV (getV zs p)) ∧ Below w.heap.size w w' := by
  have hU := fun (w : World) (h : Reads w w.heap.size 1 A zs.length (u8s zs)) => sGetU A c p zs w h hZ hn
  cases hg : getU zs p with
  | none =>
    have HG := Lib.hid (getV_none hg)
    rw [hg] at hU
    simp only [resP] at hU
    have HU := Lib.hid hU
    clear hU hg
    generalize getV zs p = G at *
    go_enter Tryd.func12, Tryd.ntmps12
    go_wp2_with fail
    refine (HU.out _ (rd_below hR (bl_alloc (Below.refl _ _) _))).mono ?_; rintro e w1 ⟨rfl, rfl⟩
    go_wp2_with fail
    have R0 := (Blk.new w 25 #[.int .i64 0, .int .i64 0, .string ⟨#[]⟩]).alloc (.cells #[.int .i64 0, .int .i64 0, .string ⟨#[]⟩] 25)
    have V0 : Blk ((w.alloc (.cells #[.int .i64 0, .int .i64 0, .string ⟨#[]⟩] 25)).alloc (.cells #[.int .i64 0, .int .i64 0, .string ⟨#[]⟩] 25)) (w.heap.size + 1) 25 #[.int .i64 0, .int .i64 0, .string ⟨#[]⟩] := heap_alloc2_new w _ _
    first
      | exact bodyPost_ret (results_cell3 rfl _ _ _ _ _ _ rfl (R0) Tryd.underlying25 (by kernel_rfl)) rfl ⟨by rw [HG.out]; rfl, by repeat (first | exact Below.refl _ _ | refine bl_drewN ?_ _ | refine Below.drew ?_ | refine bl_alloc ?_ _ | refine bl_set ?_ (by simp) _ | refine bl_trans ?_ (by assumption))⟩
      | exact bodyPost_ret (results_cell3 rfl _ _ _ _ _ _ rfl ((((R0).set_ 0 _).set_ 1 _).set_ 2 _) Tryd.underlying25 (by kernel_rfl)) rfl ⟨by rw [HG.out]; rfl, by repeat (first | exact Below.refl _ _ | refine bl_drewN ?_ _ | refine Below.drew ?_ | refine bl_alloc ?_ _ | refine bl_set ?_ (by simp) _ | refine bl_trans ?_ (by assumption))⟩
  | some x =>
    obtain ⟨k, q⟩ := x
    rw [hg] at hU
    simp only [resP] at hU
    have HU := Lib.hid hU
    clear hU
    by_cases h1 : k = 1
    · subst h1
      have hS := fun (w : World) (h : Reads w w.heap.size 1 A zs.length (u8s zs)) => sGetS A c q zs w h hZ hn
      cases hs : getS zs q with
      | none =>
        have HG := Lib.hid (getV_one_none hg hs)
        rw [hs] at hS
        simp only [resP] at hS
        have HS := Lib.hid hS
        clear hS hs hg
        generalize getV zs p = G at *
        go_enter Tryd.func12, Tryd.ntmps12
        go_wp2_with fail
        refine (HU.out _ (rd_below hR (bl_alloc (Below.refl _ _) _))).mono ?_; rintro e w1 ⟨rfl, rfl⟩
        go_wp2_with fail
        refine (HS.out _ (rd_below hR (bl_alloc (bl_alloc (Below.refl w.heap.size w) _) _))).mono ?_; rintro e w2 ⟨rfl, b2⟩
        have R0 := (Blk.new w 25 #[.int .i64 0, .int .i64 0, .string ⟨#[]⟩]).alloc (.cells #[.int .i64 1, .int .i64 0, .string ⟨#[]⟩] 25)
        have V0 : Blk ((w.alloc (.cells #[.int .i64 0, .int .i64 0, .string ⟨#[]⟩] 25)).alloc (.cells #[.int .i64 1, .int .i64 0, .string ⟨#[]⟩] 25)) (w.heap.size + 1) 25 #[.int .i64 1, .int .i64 0, .string ⟨#[]⟩] := heap_alloc2_new w _ _
        have R2 := R0.keep b2
        have V2 := V0.keep b2
        clear R0 V0
        have rc := R2.cell
        have vc := V2.cell
        have rf := R2.frozen
        have vf := V2.frozen
        go_wp2_with fail
        exact bodyPost_ret (results_cell3 rfl _ _ _ _ _ _ rfl ((((R2.far (Nat.ne_of_lt (Nat.lt_succ_self _)) _).set_ 0 _).set_ 1 _).set_ 2 _) Tryd.underlying25 (by kernel_rfl)) rfl ⟨by rw [HG.out]; rfl, by repeat (first | exact Below.refl _ _ | refine bl_drewN ?_ _ | refine Below.drew ?_ | refine bl_alloc ?_ _ | refine bl_set ?_ (by simp) _ | refine bl_trans ?_ (by assumption))⟩
      | some y =>
        obtain ⟨n, r⟩ := y
        rw [hs] at hS
        simp only [resP] at hS
        have HS := Lib.hid hS
        clear hS
        have hO := fun W => sValOk 1 n (ByteArray.mk #[]) W
        have hgv := getV_one hg hs
        cases hv : vOk 1 n (ByteArray.mk #[]) with
        | true =>
          rw [hv] at hO hgv
          have HO := Lib.hid hO
          have HG := Lib.hid hgv
          clear hO hgv hv hg hs
          generalize getV zs p = G at *
          go_enter Tryd.func12, Tryd.ntmps12
          go_wp2_with fail
          refine (HU.out _ (rd_below hR (bl_alloc (Below.refl _ _) _))).mono ?_; rintro e w1 ⟨rfl, rfl⟩
          go_wp2_with fail
          refine (HS.out _ (rd_below hR (bl_alloc (bl_alloc (Below.refl w.heap.size w) _) _))).mono ?_; rintro e w2 ⟨rfl, b2⟩
          have R0 := (Blk.new w 25 #[.int .i64 0, .int .i64 0, .string ⟨#[]⟩]).alloc (.cells #[.int .i64 1, .int .i64 0, .string ⟨#[]⟩] 25)
          have V0 : Blk ((w.alloc (.cells #[.int .i64 0, .int .i64 0, .string ⟨#[]⟩] 25)).alloc (.cells #[.int .i64 1, .int .i64 0, .string ⟨#[]⟩] 25)) (w.heap.size + 1) 25 #[.int .i64 1, .int .i64 0, .string ⟨#[]⟩] := heap_alloc2_new w _ _
          have R2 := R0.keep b2
          have V2 := V0.keep b2
          clear R0 V0
          have rc := R2.cell
          have vc := V2.cell
          have rf := R2.frozen
          have vf := V2.frozen
          go_wp2_with fail
          refine (HO.out _).mono ?_; rintro e w3 ⟨rfl, b3⟩
          have R3 : Blk w3 w.heap.size 25 #[.int .i64 0, .int .i64 0, .string ⟨#[]⟩] := (R2.far (Nat.ne_of_lt (Nat.lt_succ_self _)) _).keep b3
          have V3 : Blk w3 (w.heap.size + 1) 25 #[.int .i64 1, .int .i64 n, .string ⟨#[]⟩] := (V2.set_ 1 _).keep b3
          clear rc vc rf vf
          have rc := R3.cell
          have vc := V3.cell
          have rf := R3.frozen
          have vf := V3.frozen
          go_wp2_with fail
          exact bodyPost_ret (results_cell3 rfl _ _ _ _ _ _ rfl ((((R3).set_ 0 _).set_ 1 _).set_ 2 _) Tryd.underlying25 (by kernel_rfl)) rfl ⟨by rw [HG.out]; rfl, by repeat (first | exact Below.refl _ _ | refine bl_drewN ?_ _ | refine Below.drew ?_ | refine bl_alloc ?_ _ | refine bl_set ?_ (by simp) _ | refine bl_trans ?_ (by assumption))⟩
        | false =>
          rw [hv] at hO hgv
          have HO := Lib.hid hO
          have HG := Lib.hid hgv
          clear hO hgv hv hg hs
          generalize getV zs p = G at *
          go_enter Tryd.func12, Tryd.ntmps12
          go_wp2_with fail
          refine (HU.out _ (rd_below hR (bl_alloc (Below.refl _ _) _))).mono ?_; rintro e w1 ⟨rfl, rfl⟩
          go_wp2_with fail
          refine (HS.out _ (rd_below hR (bl_alloc (bl_alloc (Below.refl w.heap.size w) _) _))).mono ?_; rintro e w2 ⟨rfl, b2⟩
          have R0 := (Blk.new w 25 #[.int .i64 0, .int .i64 0, .string ⟨#[]⟩]).alloc (.cells #[.int .i64 1, .int .i64 0, .string ⟨#[]⟩] 25)
          have V0 : Blk ((w.alloc (.cells #[.int .i64 0, .int .i64 0, .string ⟨#[]⟩] 25)).alloc (.cells #[.int .i64 1, .int .i64 0, .string ⟨#[]⟩] 25)) (w.heap.size + 1) 25 #[.int .i64 1, .int .i64 0, .string ⟨#[]⟩] := heap_alloc2_new w _ _
          have R2 := R0.keep b2
          have V2 := V0.keep b2
          clear R0 V0
          have rc := R2.cell
          have vc := V2.cell
          have rf := R2.frozen
          have vf := V2.frozen
          go_wp2_with fail
          refine (HO.out _).mono ?_; rintro e w3 ⟨rfl, b3⟩
          have R3 : Blk w3 w.heap.size 25 #[.int .i64 0, .int .i64 0, .string ⟨#[]⟩] := (R2.far (Nat.ne_of_lt (Nat.lt_succ_self _)) _).keep b3
          have V3 : Blk w3 (w.heap.size + 1) 25 #[.int .i64 1, .int .i64 n, .string ⟨#[]⟩] := (V2.set_ 1 _).keep b3
          clear rc vc rf vf
          have rc := R3.cell
          have vc := V3.cell
          have rf := R3.frozen
          have vf := V3.frozen
          go_wp2_with fail
          exact bodyPost_ret (results_cell3 rfl _ _ _ _ _ _ rfl ((((R3).set_ 0 _).set_ 1 _).set_ 2 _) Tryd.underlying25 (by kernel_rfl)) rfl ⟨by rw [HG.out]; rfl, by repeat (first | exact Below.refl _ _ | refine bl_drewN ?_ _ | refine Below.drew ?_ | refine bl_alloc ?_ _ | refine bl_set ?_ (by simp) _ | refine bl_trans ?_ (by assumption))⟩
    by_cases h2 : k = 2
    · subst h2
      have hS := fun (w : World) (h : Reads w w.heap.size 1 A zs.length (u8s zs)) => sGetT A c q zs w h hZ hn hcap hc63
      clear h1
      cases hs : getT zs q with
      | none =>
        have HG := Lib.hid (getV_two_none hg hs)
        rw [hs] at hS
        simp only [resT] at hS
        have HS := Lib.hid hS
        clear hS hs hg
        generalize getV zs p = G at *
        go_enter Tryd.func12, Tryd.ntmps12
        go_wp2_with fail
        refine (HU.out _ (rd_below hR (bl_alloc (Below.refl _ _) _))).mono ?_; rintro e w1 ⟨rfl, rfl⟩
        go_wp2_with fail
        refine (HS.out _ (rd_below hR (bl_alloc (bl_alloc (Below.refl w.heap.size w) _) _))).mono ?_; rintro e w2 ⟨rfl, rfl⟩
        go_wp2_with fail
        exact bodyPost_ret (results_cell3 rfl _ _ _ _ _ _ rfl ((Blk.new w _ _).alloc _) Tryd.underlying25 (by kernel_rfl)) rfl ⟨by rw [HG.out]; rfl, by repeat (first | exact Below.refl _ _ | refine bl_drewN ?_ _ | refine Below.drew ?_ | refine bl_alloc ?_ _ | refine bl_set ?_ (by simp) _ | refine bl_trans ?_ (by assumption))⟩
      | some y =>
        obtain ⟨s, r⟩ := y
        rw [hs] at hS
        simp only [resT] at hS
        have HS := Lib.hid hS
        clear hS
        have hO := fun W => sValOk 2 0 s W
        have hgv := getV_two hg hs
        cases hv : vOk 2 0 s with
        | true =>
          rw [hv] at hO hgv
          have HO := Lib.hid hO
          have HG := Lib.hid hgv
          clear hO hgv hv hg hs
          generalize getV zs p = G at *
          go_enter Tryd.func12, Tryd.ntmps12
          go_wp2_with fail
          refine (HU.out _ (rd_below hR (bl_alloc (Below.refl _ _) _))).mono ?_; rintro e w1 ⟨rfl, rfl⟩
          go_wp2_with fail
          refine (HS.out _ (rd_below hR (bl_alloc (bl_alloc (Below.refl w.heap.size w) _) _))).mono ?_; rintro e w2 ⟨rfl, rfl⟩
          go_wp2_with fail
          refine (HO.out _).mono ?_; rintro e w3 ⟨rfl, b3⟩
          have R3 : Blk w3 w.heap.size 25 #[.int .i64 0, .int .i64 0, .string ⟨#[]⟩] := ((Blk.new w 25 #[.int .i64 0, .int .i64 0, .string ⟨#[]⟩]).alloc _).keep b3
          have V3 : Blk w3 (w.heap.size + 1) 25 #[.int .i64 2, .int .i64 0, .string s] := (show Blk _ (w.heap.size + 1) _ _ from heap_alloc2_new w _ _).keep b3
          have rc := R3.cell
          have vc := V3.cell
          have rf := R3.frozen
          have vf := V3.frozen
          go_wp2_with fail
          exact bodyPost_ret (results_cell3 rfl _ _ _ _ _ _ rfl ((((R3).set_ 0 _).set_ 1 _).set_ 2 _) Tryd.underlying25 (by kernel_rfl)) rfl ⟨by rw [HG.out]; rfl, by repeat (first | exact Below.refl _ _ | refine bl_drewN ?_ _ | refine Below.drew ?_ | refine bl_alloc ?_ _ | refine bl_set ?_ (by simp) _ | refine bl_trans ?_ (by assumption))⟩
        | false =>
          rw [hv] at hO hgv
          have HO := Lib.hid hO
          have HG := Lib.hid hgv
          clear hO hgv hv hg hs
          generalize getV zs p = G at *
          go_enter Tryd.func12, Tryd.ntmps12
          go_wp2_with fail
          refine (HU.out _ (rd_below hR (bl_alloc (Below.refl _ _) _))).mono ?_; rintro e w1 ⟨rfl, rfl⟩
          go_wp2_with fail
          refine (HS.out _ (rd_below hR (bl_alloc (bl_alloc (Below.refl w.heap.size w) _) _))).mono ?_; rintro e w2 ⟨rfl, rfl⟩
          go_wp2_with fail
          refine (HO.out _).mono ?_; rintro e w3 ⟨rfl, b3⟩
          have R3 : Blk w3 w.heap.size 25 #[.int .i64 0, .int .i64 0, .string ⟨#[]⟩] := ((Blk.new w 25 #[.int .i64 0, .int .i64 0, .string ⟨#[]⟩]).alloc _).keep b3
          have V3 : Blk w3 (w.heap.size + 1) 25 #[.int .i64 2, .int .i64 0, .string s] := (show Blk _ (w.heap.size + 1) _ _ from heap_alloc2_new w _ _).keep b3
          have rc := R3.cell
          have vc := V3.cell
          have rf := R3.frozen
          have vf := V3.frozen
          go_wp2_with fail
          exact bodyPost_ret (results_cell3 rfl _ _ _ _ _ _ rfl ((((R3).set_ 0 _).set_ 1 _).set_ 2 _) Tryd.underlying25 (by kernel_rfl)) rfl ⟨by rw [HG.out]; rfl, by repeat (first | exact Below.refl _ _ | refine bl_drewN ?_ _ | refine Below.drew ?_ | refine bl_alloc ?_ _ | refine bl_set ?_ (by simp) _ | refine bl_trans ?_ (by assumption))⟩
    · have h1' : (k == 1) = false := by simp [h1]
      have h2' : (k == 2) = false := by simp [h2]
      have hO := fun W => sValOk k 0 (ByteArray.mk #[]) W
      have hgv := getV_other hg h1 h2
      cases hv : vOk k 0 (ByteArray.mk #[]) with
      | true =>
        rw [hv] at hO hgv
        have HO := Lib.hid hO
        have HG := Lib.hid hgv
        clear hO hgv hv hg h1 h2
        generalize getV zs p = G at *
        go_enter Tryd.func12, Tryd.ntmps12
        go_wp2_with fail
        refine (HU.out _ (rd_below hR (bl_alloc (Below.refl _ _) _))).mono ?_; rintro e w1 ⟨rfl, rfl⟩
        go_wp2_with fail
        have R0 := (Blk.new w 25 #[.int .i64 0, .int .i64 0, .string ⟨#[]⟩]).alloc (.cells #[.int .i64 k, .int .i64 0, .string ⟨#[]⟩] 25)
        have V0 : Blk ((w.alloc (.cells #[.int .i64 0, .int .i64 0, .string ⟨#[]⟩] 25)).alloc (.cells #[.int .i64 k, .int .i64 0, .string ⟨#[]⟩] 25)) (w.heap.size + 1) 25 #[.int .i64 k, .int .i64 0, .string ⟨#[]⟩] := heap_alloc2_new w _ _
        refine (HO.out _).mono ?_; rintro e w3 ⟨rfl, b3⟩
        have R3 : Blk w3 w.heap.size 25 #[.int .i64 0, .int .i64 0, .string ⟨#[]⟩] := (R0).keep b3
        have V3 : Blk w3 (w.heap.size + 1) 25 #[.int .i64 k, .int .i64 0, .string ⟨#[]⟩] := (V0).keep b3
        have rc := R3.cell
        have vc := V3.cell
        have rf := R3.frozen
        have vf := V3.frozen
        go_wp2_with fail
        exact bodyPost_ret (results_cell3 rfl _ _ _ _ _ _ rfl ((((R3).set_ 0 _).set_ 1 _).set_ 2 _) Tryd.underlying25 (by kernel_rfl)) rfl ⟨by rw [HG.out]; rfl, by repeat (first | exact Below.refl _ _ | refine bl_drewN ?_ _ | refine Below.drew ?_ | refine bl_alloc ?_ _ | refine bl_set ?_ (by simp) _ | refine bl_trans ?_ (by assumption))⟩
      | false =>
        rw [hv] at hO hgv
        have HO := Lib.hid hO
        have HG := Lib.hid hgv
        clear hO hgv hv hg h1 h2
        generalize getV zs p = G at *
        go_enter Tryd.func12, Tryd.ntmps12
        go_wp2_with fail
        refine (HU.out _ (rd_below hR (bl_alloc (Below.refl _ _) _))).mono ?_; rintro e w1 ⟨rfl, rfl⟩
        go_wp2_with fail
        have R0 := (Blk.new w 25 #[.int .i64 0, .int .i64 0, .string ⟨#[]⟩]).alloc (.cells #[.int .i64 k, .int .i64 0, .string ⟨#[]⟩] 25)
        have V0 : Blk ((w.alloc (.cells #[.int .i64 0, .int .i64 0, .string ⟨#[]⟩] 25)).alloc (.cells #[.int .i64 k, .int .i64 0, .string ⟨#[]⟩] 25)) (w.heap.size + 1) 25 #[.int .i64 k, .int .i64 0, .string ⟨#[]⟩] := heap_alloc2_new w _ _
        refine (HO.out _).mono ?_; rintro e w3 ⟨rfl, b3⟩
        have R3 : Blk w3 w.heap.size 25 #[.int .i64 0, .int .i64 0, .string ⟨#[]⟩] := (R0).keep b3
        have V3 : Blk w3 (w.heap.size + 1) 25 #[.int .i64 k, .int .i64 0, .string ⟨#[]⟩] := (V0).keep b3
        have rc := R3.cell
        have vc := V3.cell
        have rf := R3.frozen
        have vf := V3.frozen
        go_wp2_with fail
        exact bodyPost_ret (results_cell3 rfl _ _ _ _ _ _ rfl ((((R3).set_ 0 _).set_ 1 _).set_ 2 _) Tryd.underlying25 (by kernel_rfl)) rfl ⟨by rw [HG.out]; rfl, by repeat (first | exact Below.refl _ _ | refine bl_drewN ?_ _ | refine Below.drew ?_ | refine bl_alloc ?_ _ | refine bl_set ?_ (by simp) _ | refine bl_trans ?_ (by assumption))⟩

end Go.Proofs.YtalnkdbmbjplpaaDoor
