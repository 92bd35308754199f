/- FnExactPutVal: the program's PutVal returns what the reference's returns, for all arguments, changes no argument and shares no memory. No condition. -/
import Derived.Test.YtkahlckjedaolaaLift
import Derived.Test.YtkahlckjedaolaaOpenB
import Derived.Test.YtkahlckjedaolaaPutVal
import Derived.Deep.CutRange
import Derived.RegionCalls
import Derived.Deep.RegionWith
import Derived.Lib.SmallJoins
namespace Go.Proofs.Ytkahlckjedaolaa
open Go.ChangeShapes Go.WideShapes Go.ChangeAt Go.RowKit Go.Joins
open Go.ChangeMaps (open_string shut_string)

set_option maxHeartbeats 8000000 in
theorem FnExactPutVal_walk (A : Option Addr) (c : Nat) (zs : List Int) (k n : Int) (s : ByteArray) (w : World) (hR : Reads w w.heap.size 1 A zs.length (u8s zs)) (hZ : Byt zs) (hn : zs.length ≤ 9223372036854775807) (hs : s.size ≤ 9223372036854775807) :
    Calls Try.prog 12 #[.slice A zs.length c, .agg #[.int .i64 k, .int .i64 n, .string s]] w fun e w' => e = .returned (.bool true) ∧ Below w.heap.size w w' := by
  have B0 := Blk.new w 38 #[.int .i64 k, .int .i64 n, .string s]
  by_cases hc : 1048576 < (zs.length : Int)
  · go_enter Try.func12, Try.ntmps12
    go_wp2_with fail
    go_ret
    exact ⟨rfl, by repeat (first | exact Below.refl _ _ | refine bl_drewN ?_ _ | refine Below.drew ?_ | refine bl_alloc ?_ _ | refine bl_set ?_ (by simp) _ | refine bl_trans ?_ (by assumption))⟩
  by_cases hc2 : szStr 1048576 s < 0
  · go_enter Try.func12, Try.ntmps12
    go_wp2_with fail
    refine (szVal_any k n 1048576 s _ (by omega) (by omega) (by omega)).mono ?_; rintro e w1 ⟨rfl, b1⟩
    go_wp2_with fail
    go_ret
    exact ⟨rfl, by repeat (first | exact Below.refl _ _ | refine bl_drewN ?_ _ | refine Below.drew ?_ | refine bl_alloc ?_ _ | refine bl_set ?_ (by simp) _ | refine bl_trans ?_ (by assumption))⟩
  · have hsz : s.size ≤ 1048576 := by unfold szStr at hc2; split at hc2 <;> omega
    have hz : zs.length ≤ 1048576 := by omega
    have hlen : (zs ++ vB k n s).length ≤ zs.length + s.size + 10 := by have := vB_len k n s; rw [List.length_append]; omega
    have cS := fun (A : Option Addr) (c : Nat) (w : World) (h : Reads w w.heap.size 1 A zs.length (u8s zs)) => sPutVal A c k n s zs w h hZ (by omega) (by omega)
    have cI := fun (A : Option Addr) (c : Nat) (w : World) (h : Reads w w.heap.size 1 A zs.length (u8s zs)) => iPutVal A c k n s zs w h hZ (by omega) (by omega)
    generalize zs ++ vB k n s = Y at cS cI hlen
    have CS := Lib.hid cS
    have CI := Lib.hid cI
    clear cS cI
    go_enter Try.func12, Try.ntmps12
    go_wp2_with fail
    refine (szVal_any k n 1048576 s _ (by omega) (by omega) (by omega)).mono ?_; rintro e w1 ⟨rfl, b1⟩
    have s0 : w.heap.size + 1 ≤ (w.alloc (.cells #[.int .i64 k, .int .i64 n, .string s] 38)).heap.size := by simp
    have s1 := b1.size
    have L1 := bl_trans (bl_alloc (Below.refl w.heap.size w) _) b1
    have B := B0.keep b1
    clear B0
    go_upto_region 7 with fail
    go_cut [6] from 21 to 25 (fun v wx => Row wx w1.heap.size wx.heap.size 5 1 v Y.length (u8s Y) ∧ Below w1.heap.size w1 wx)
    case first =>
      have cb := B.cell
      go_region_with (first
        | (go_at_call 16; refine (toByteS_any A c zs _ (rd_below hR (bl_trans L1 ((Below.refl _ _).drew))) hZ (by omega)).mono ?_; rintro e u1 ⟨⟨x0, _, rfl, rfl, _, Ot⟩, d1⟩; obtain ⟨At, ct, rfl⟩ := Ot.form; have cb1 := (B.drew.keep d1).cell)
        | (go_at_call 32; refine (toVal_any k n s _).mono ?_; rintro e u2 ⟨rfl, d2⟩)
        | (go_at_call 40; refine (CS.out At ct _ (Ot.keep d2).reads).mono ?_; rintro e u3 ⟨⟨x3, _, rfl, rfl, _, Or⟩, d3⟩))
      all_goals go_wp2_with fail
      all_goals go_meet
      all_goals have e1 := d1.size
      all_goals have e2 := d2.size
      all_goals exact ⟨Or.more (Nat.le_trans d1.size d2.size) (Nat.le_refl _), bl_trans (bl_trans (bl_trans ((Below.refl _ _).drew) d1) d2) d3⟩
    case rest =>
      obtain ⟨Ow, b2⟩ := hcut
      obtain ⟨Aw, cw, rfl⟩ := Ow.form
      have s2 := b2.size
      have L2 := bl_trans L1 b2
      replace B := B.keep b2
      go_wp2_with fail
      refine (toByteS_any A c zs _ (rd_below hR L2) hZ (by omega)).mono ?_; rintro e w3 ⟨⟨vx, _, rfl, rfl, _, Ox⟩, b3⟩
      have s3 := b3.size
      have L3 := bl_trans L2 b3
      replace Ow := Ow.keep b3
      replace B := B.keep b3
      obtain ⟨Ax, cx, rfl⟩ := Ox.form
      have cb := B.cell
      go_wp2_with fail
      refine (toVal_any k n s _).mono ?_; rintro e w4 ⟨rfl, b4⟩
      have s4 := b4.size
      have L4 := bl_trans L3 b4
      replace Ow := Ow.keep b4
      replace Ox := Ox.keep b4
      replace B := B.keep b4
      clear cb
      go_wp2_with fail
      refine (CI.out Ax cx _ Ox.reads).mono ?_; rintro e w5 ⟨⟨vg, _, rfl, rfl, _, Og⟩, b5⟩
      have s5 := b5.size
      have L5 := bl_trans L4 b5
      replace Ow := Ow.keep b5
      replace Ox := Ox.keep b5
      replace B := B.keep b5
      obtain ⟨Ag, cg, rfl⟩ := Og.form
      go_wp2_with fail
      refine (eqByteS_any Ag Aw cg cw Y _ Og.reads Ow.reads (by omega)).mono ?_; rintro e w6 ⟨rfl, b6⟩
      have s6 := b6.size
      have L6 := bl_trans L5 b6
      replace Ow := Ow.keep b6
      replace Ox := Ox.keep b6
      replace Og := Og.keep b6
      replace B := B.keep b6
      go_wp2_with fail
      refine (toByteS_any A c zs _ (rd_below hR L6) hZ (by omega)).mono ?_; rintro e w7 ⟨⟨vt, _, rfl, rfl, _, Ou⟩, b7⟩
      have s7 := b7.size
      have L7 := bl_trans L6 b7
      replace Ow := Ow.keep b7
      replace Ox := Ox.keep b7
      replace Og := Og.keep b7
      replace B := B.keep b7
      obtain ⟨Au, cu, rfl⟩ := Ou.form
      go_wp2_with fail
      refine (eqByteS_any Ax Au cx cu zs _ Ox.reads Ou.reads (by omega)).mono ?_; rintro e w8 ⟨rfl, b8⟩
      have s8 := b8.size
      have L8 := bl_trans L7 b8
      replace Ow := Ow.keep b8
      replace Ox := Ox.keep b8
      replace Og := Og.keep b8
      replace Ou := Ou.keep b8
      replace B := B.keep b8
      go_wp2_with fail
      refine (markByteS_any _ _ Ax cx 1 zs _ Ox (by omega) (by omega)).mono ?_; rintro e w9 ⟨rfl, Px, g9⟩
      have s9 := g9.size
      replace Ow := Ow.far g9 (fun k hk => by have h1 := Ox.1.lt k hk; have h2 := Ox.2 k hk; omega)
      replace Og := Og.far g9 (fun k hk => by have h1 := Ox.1.lt k hk; have h2 := Ox.2 k hk; omega)
      replace B := B.grown g9 (fun e => by have := Ox.1.lt _ e.symm; omega)
      have L9 := Ox.grow g9 L8 (by omega)
      replace Ox := Px
      go_wp2_with fail
      refine (eqByteS_any Ag Aw cg cw Y _ Og.reads Ow.reads (by omega)).mono ?_; rintro e w10 ⟨rfl, b10⟩
      have s10 := b10.size
      have L10 := bl_trans L9 b10
      replace Ow := Ow.keep b10
      replace Og := Og.keep b10
      replace B := B.keep b10
      go_wp2_with fail
      refine (markByteS_any _ _ Ag cg 1 Y _ Og (by omega) (by omega)).mono ?_; rintro e w11 ⟨rfl, Pg, g11⟩
      have s11 := g11.size
      replace Ow := Ow.far g11 (fun k hk => by have h1 := Og.1.lt k hk; have h2 := Og.2 k hk; omega)
      replace B := B.grown g11 (fun e => by have := Og.1.lt _ e.symm; omega)
      have L11 := Og.grow g11 L10 (by omega)
      replace Og := Pg
      go_wp2_with fail
      refine (heldByteS_any Ag cg 1 _ _ Og.reads (by omega) (by omega)).mono ?_; rintro e w12 ⟨rfl, b12⟩
      have s12 := b12.size
      have L12 := bl_trans L11 b12
      replace Ow := Ow.keep b12
      replace Og := Og.keep b12
      replace B := B.keep b12
      go_upto_region 26 with fail
      go_cut [12] from 63 to 67 (fun v wx => Row wx w12.heap.size wx.heap.size 5 1 v Y.length (u8s Y) ∧ Below w12.heap.size w12 wx)
      case first =>
        have cb := B.cell
        go_region_with (first
          | (go_at_call 16; refine (toByteS_any A c zs _ (rd_below hR (bl_trans L12 ((Below.refl _ _).drew))) hZ (by omega)).mono ?_; rintro e u1 ⟨⟨x0, _, rfl, rfl, _, Ot⟩, d1⟩; obtain ⟨At, ct, rfl⟩ := Ot.form; have cb1 := (B.drew.keep d1).cell)
          | (go_at_call 32; refine (toVal_any k n s _).mono ?_; rintro e u2 ⟨rfl, d2⟩)
          | (go_at_call 41; refine (CI.out At ct _ (Ot.keep d2).reads).mono ?_; rintro e u3 ⟨⟨x3, _, rfl, rfl, _, Or⟩, d3⟩))
        all_goals go_wp2_with fail
        all_goals go_meet
        all_goals have e1 := d1.size
        all_goals have e2 := d2.size
        all_goals exact ⟨Or.more (Nat.le_trans d1.size d2.size) (Nat.le_refl _), bl_trans (bl_trans (bl_trans ((Below.refl _ _).drew) d1) d2) d3⟩
      case rest =>
        obtain ⟨Oh, b13⟩ := hcut
        obtain ⟨Ah, ch, rfl⟩ := Oh.form
        have s13 := b13.size
        have L13 := bl_trans L12 b13
        replace Ow := Ow.keep b13
        replace Og := Og.keep b13
        replace B := B.keep b13
        go_wp2_with fail
        refine (eqByteS_any Ah Aw ch cw Y _ Oh.reads Ow.reads (by omega)).mono ?_; rintro e w14 ⟨rfl, b14⟩
        have s14 := b14.size
        have L14 := bl_trans L13 b14
        replace Ow := Ow.keep b14
        replace Og := Og.keep b14
        replace Oh := Oh.keep b14
        replace B := B.keep b14
        go_wp2_with fail
        refine (heldByteS_any Ag cg 1 _ _ Og.reads (by omega) (by omega)).mono ?_; rintro e w15 ⟨rfl, b15⟩
        have s15 := b15.size
        have L15 := bl_trans L14 b15
        replace Ow := Ow.keep b15
        replace Og := Og.keep b15
        replace Oh := Oh.keep b15
        replace B := B.keep b15
        go_wp2_with fail
        go_ret
        exact ⟨rfl, L15⟩

theorem FnExactPutVal_args {H : Type} {enc : TypeId × Value → H} (W : World) (base : Nat) (args : Array Value) (ds : List (DataW H)) (p : List MemPlace)
    (hval : ∀ (j : Nat) t v, Try.f12.params[j]? = some t → args[j]? = some v → Value.okWide Try.checked.prog W .any base t v)
    (hA : DataW.TrodAll enc Try.checked.prog W 0 (fun _ => true) true Try.f12.params.toList args.toList ds p) :
    Calls Try.checked.prog 12 args W fun e W' => e = .returned (.bool true) ∧ Below W.heap.size W W' := by
  rw [Try.params12] at hA hval
  obtain ⟨v0, v1, d0, d1, p0, p1, rfl, rfl, rfl, h0, h1⟩ := trodAll_two hA
  obtain ⟨A, c, zs, rfl, R, Wf, hlz⟩ := open_nums Try.underlying22 Try.underlying5 (by kernel_rfl) (hval 0 22 v0 rfl rfl) h0
  obtain ⟨c0, c1, c2, y0, y1, y2, m, rfl, rfl, rfl, hy0, hy1, hy2⟩ := open_agg3 Try.underlying38 (by kernel_rfl) (by kernel_rfl) (hval 1 38 v1 rfl rfl) h1
  obtain ⟨k, e0, rfl, wk⟩ := DataW.trod_int Try.underlying3 hy0
  obtain ⟨n, e1, rfl, wn⟩ := DataW.trod_int Try.underlying3 hy1
  obtain ⟨s, e2, rfl, hs⟩ := DataW.trod_string Try.underlying9 hy2
  simp only [List.cons.injEq, and_true] at e0 e1 e2
  subst e0 e1 e2
  exact FnExactPutVal_walk A c zs k n s W R (byt_of_wf Wf) hlz hs

set_option maxRecDepth 100000 in
theorem FnExactPutVal_holds : Rows.FnExactPutValSaid :=
  OpenClaim.holds_of_wide 12 Try.f12 rfl rfl rfl rfl rfl rfl rfl ⟨rfl, rfl, rfl, rfl, rfl⟩ rfl rfl rfl rfl rfl (by kernel_rfl) Try.func12 (by kernel_rfl)
    (of_decide_eq_true (by kernel_rfl)) (by unfold Func.isWrapper; rw [if_neg (of_decide_eq_false (by kernel_rfl))]; exact ⟨rfl, rfl⟩)
    (fun os started H enc _ => law_lift 12 Try.f12 Rows.fnExactPutValSpec 4 own laidOut started (by kernel_rfl) Try.func12 (by kernel_rfl) rfl (by kernel_rfl) Try.underlying4
      (fun ds h => by
        have hl : ds.length = 2 := h.trans (by kernel_rfl)
        obtain ⟨a, b, rfl⟩ := len2 hl
        rfl)
      (ChangeSpec.witness6 (enc := enc) (C := Try.checked) false ⟨#[], #[.slice none 0 0, .agg #[.int .i64 0, .int .i64 0, .string ⟨#[]⟩]], []⟩ 8 (by kernel_rfl) (by kernel_rfl) (by kernel_rfl) (by kernel_rfl))
      FnExactPutVal_args)
#print axioms FnExactPutVal_holds

end Go.Proofs.Ytkahlckjedaolaa
