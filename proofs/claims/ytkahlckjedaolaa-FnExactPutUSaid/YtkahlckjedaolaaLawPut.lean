/- FnExactPutU, FnExactPutS: the program's PutU and PutS return what the reference's return, for all arguments, change no argument and share no memory. No condition. -/
import Derived.Test.YtkahlckjedaolaaLift
import Derived.Test.YtkahlckjedaolaaOpenB
import Derived.Test.YtkahlckjedaolaaNumS
namespace Go.Proofs.Ytkahlckjedaolaa
open Go.ChangeShapes Go.WideShapes Go.ChangeAt Go.RowKit
open Go.ChangeMaps (open_string shut_string)

theorem uB_app_len (zs : List Int) (n : Int) : (zs ++ uB n).length ≤ zs.length + 5 := by
  have : ∀ (f : Nat) (n : Int), (uBf f n).length ≤ f + 1 := by
    intro f
    induction f with
    | zero => intro n; simp [uBf]
    | succ f ih =>
      intro n
      rw [uBf]
      split
      · simp
      · have := ih (n / 128)
        simp; omega
  have := this 4 (clampI n 0 2147483647)
  rw [List.length_append]
  unfold uB
  omega
theorem sB_app_len (zs : List Int) (n : Int) : (zs ++ sB n).length ≤ zs.length + 5 := by
  have : ∀ (f : Nat) (n : Int), (sBf f n).length ≤ f + 1 := by
    intro f
    induction f with
    | zero => intro n; simp [sBf]
    | succ f ih =>
      intro n
      rw [sBf]
      split
      · simp
      · have := ih (n / 128)
        simp; omega
  have := this 4 (wrap32 n)
  rw [List.length_append]
  unfold sB
  omega

set_option maxHeartbeats 4000000 in
theorem FnExactPutU_walk (A : Option Addr) (c : Nat) (zs : List Int) (n : Int) (w : World) (hR : Reads w w.heap.size 1 A zs.length (u8s zs)) (hZ : Byt zs) (hn : zs.length ≤ 9223372036854775807) :
    Calls Try.prog 5 #[.slice A zs.length c, .int .i64 n] w fun e w' => e = .returned (.bool true) ∧ Below w.heap.size w w' := by
  by_cases hc : 1048576 < (zs.length : Int)
  · go_enter Try.func5, Try.ntmps5
    go_wp2_with fail
    go_ret
    exact ⟨rfl, Below.refl _ _⟩
  · have hz : zs.length ≤ 1048576 := by omega
    have hlen := uB_app_len zs n
    have cS := fun (A : Option Addr) (c : Nat) (w : World) (h : Reads w w.heap.size 1 A zs.length (u8s zs)) => sPutU A c n zs w h hZ (by omega)
    have cI := fun (A : Option Addr) (c : Nat) (w : World) (h : Reads w w.heap.size 1 A zs.length (u8s zs)) => iPutU A c n zs w h hZ (by omega)
    generalize (zs ++ uB n) = Y at cS cI hlen
    have CS := Lib.hid cS
    have CI := Lib.hid cI
    clear cS cI
    go_enter Try.func5, Try.ntmps5
    go_wp2_with fail
    refine (toByteS_any A c zs _ hR hZ (by omega)).mono ?_; rintro e w1 ⟨⟨v0, _, rfl, rfl, _, Ot⟩, b1⟩
    have s1 := b1.size
    have L1 := bl_trans (Below.refl w.heap.size w) b1
    obtain ⟨At, ct, rfl⟩ := Ot.form
    go_wp2_with fail
    refine (CS.out At ct _ Ot.reads).mono ?_; rintro e w2 ⟨⟨vw, _, rfl, rfl, _, Ow⟩, b2⟩
    have s2 := b2.size
    have L2 := bl_trans L1 b2
    replace Ot := Ot.keep b2
    obtain ⟨Aw, cw, rfl⟩ := Ow.form
    go_wp2_with fail
    refine (toByteS_any A c zs _ (rd_below hR L2) hZ (by omega)).mono ?_; rintro e w3 ⟨⟨vx, _, rfl, rfl, _, Ox⟩, b3⟩
    have s3 := b3.size
    have L3 := bl_trans L2 b3
    replace Ow := Ow.keep b3
    obtain ⟨Ax, cx, rfl⟩ := Ox.form
    go_wp2_with fail
    refine (CI.out Ax cx _ Ox.reads).mono ?_; rintro e w4 ⟨⟨vg, _, rfl, rfl, _, Og⟩, b4⟩
    have s4 := b4.size
    have L4 := bl_trans L3 b4
    replace Ow := Ow.keep b4
    replace Ox := Ox.keep b4
    obtain ⟨Ag, cg, rfl⟩ := Og.form
    go_wp2_with fail
    refine (eqByteS_any Ag Aw cg cw Y _ Og.reads Ow.reads (by omega)).mono ?_; rintro e w5 ⟨rfl, b5⟩
    have s5 := b5.size
    have L5 := bl_trans L4 b5
    replace Ow := Ow.keep b5
    replace Ox := Ox.keep b5
    replace Og := Og.keep b5
    go_wp2_with fail
    refine (toByteS_any A c zs _ (rd_below hR L5) hZ (by omega)).mono ?_; rintro e w6 ⟨⟨vt, _, rfl, rfl, _, Ou⟩, b6⟩
    have s6 := b6.size
    have L6 := bl_trans L5 b6
    replace Ow := Ow.keep b6
    replace Ox := Ox.keep b6
    replace Og := Og.keep b6
    obtain ⟨Au, cu, rfl⟩ := Ou.form
    go_wp2_with fail
    refine (eqByteS_any Ax Au cx cu zs _ Ox.reads Ou.reads (by omega)).mono ?_; rintro e w7 ⟨rfl, b7⟩
    have s7 := b7.size
    have L7 := bl_trans L6 b7
    replace Ow := Ow.keep b7
    replace Ox := Ox.keep b7
    replace Og := Og.keep b7
    replace Ou := Ou.keep b7
    go_wp2_with fail
    refine (markByteS_any _ _ Ax cx 1 zs _ Ox (by omega) (by omega)).mono ?_; rintro e w8 ⟨rfl, Px, g8⟩
    have s8 := g8.size
    replace Ow := Ow.far g8 (fun k hk => by have h1 := Ox.1.lt k hk; have h2 := Ox.2 k hk; omega)
    replace Og := Og.far g8 (fun k hk => by have h1 := Ox.1.lt k hk; have h2 := Ox.2 k hk; omega)
    have L8 := Ox.grow g8 L7 (by omega)
    replace Ox := Px
    go_wp2_with fail
    refine (eqByteS_any Ag Aw cg cw Y _ Og.reads Ow.reads (by omega)).mono ?_; rintro e w9 ⟨rfl, b9⟩
    have s9 := b9.size
    have L9 := bl_trans L8 b9
    replace Ow := Ow.keep b9
    replace Og := Og.keep b9
    go_wp2_with fail
    refine (markByteS_any _ _ Ag cg 1 Y _ Og (by omega) (by omega)).mono ?_; rintro e w10 ⟨rfl, Pg, g10⟩
    have s10 := g10.size
    replace Ow := Ow.far g10 (fun k hk => by have h1 := Og.1.lt k hk; have h2 := Og.2 k hk; omega)
    have L10 := Og.grow g10 L9 (by omega)
    replace Og := Pg
    go_wp2_with fail
    refine (heldByteS_any Ag cg 1 _ _ Og.reads (by omega) (by omega)).mono ?_; rintro e w11 ⟨rfl, b11⟩
    have s11 := b11.size
    have L11 := bl_trans L10 b11
    replace Ow := Ow.keep b11
    replace Og := Og.keep b11
    go_wp2_with fail
    refine (toByteS_any A c zs _ (rd_below hR L11) hZ (by omega)).mono ?_; rintro e w12 ⟨⟨vy, _, rfl, rfl, _, Oy⟩, b12⟩
    have s12 := b12.size
    have L12 := bl_trans L11 b12
    replace Ow := Ow.keep b12
    replace Og := Og.keep b12
    obtain ⟨Ay, cy, rfl⟩ := Oy.form
    go_wp2_with fail
    refine (CI.out Ay cy _ Oy.reads).mono ?_; rintro e w13 ⟨⟨vh, _, rfl, rfl, _, Oh⟩, b13⟩
    have s13 := b13.size
    have L13 := bl_trans L12 b13
    replace Ow := Ow.keep b13
    replace Og := Og.keep b13
    replace Oy := Oy.keep b13
    obtain ⟨Ah, ch, rfl⟩ := Oh.form
    go_wp2_with fail
    refine (eqByteS_any Ah Aw ch cw Y _ Oh.reads Ow.reads (by omega)).mono ?_; rintro e w14 ⟨rfl, b14⟩
    have s14 := b14.size
    have L14 := bl_trans L13 b14
    replace Ow := Ow.keep b14
    replace Og := Og.keep b14
    replace Oh := Oh.keep b14
    go_wp2_with fail
    refine (heldByteS_any Ag cg 1 _ _ Og.reads (by omega) (by omega)).mono ?_; rintro e w15 ⟨rfl, b15⟩
    have s15 := b15.size
    have L15 := bl_trans L14 b15
    replace Ow := Ow.keep b15
    replace Og := Og.keep b15
    replace Oh := Oh.keep b15
    go_wp2_with fail
    go_ret
    exact ⟨rfl, L15⟩

theorem FnExactPutU_args {H : Type} {enc : TypeId × Value → H} (W : World) (base : Nat) (args : Array Value) (ds : List (DataW H)) (p : List MemPlace)
    (hval : ∀ (j : Nat) t v, Try.f5.params[j]? = some t → args[j]? = some v → Value.okWide Try.checked.prog W .any base t v)
    (hA : DataW.TrodAll enc Try.checked.prog W 0 (fun _ => true) true Try.f5.params.toList args.toList ds p) :
    Calls Try.checked.prog 5 args W fun e W' => e = .returned (.bool true) ∧ Below W.heap.size W W' := by
  rw [Try.params5] at hA hval
  obtain ⟨v0, v1, d0, d1, p0, p1, rfl, rfl, rfl, h0, h1⟩ := trodAll_two hA
  obtain ⟨A, c, zs, rfl, R, Wf, hlz⟩ := open_nums Try.underlying22 Try.underlying5 (by kernel_rfl) (hval 0 22 v0 rfl rfl) h0
  obtain ⟨n, rfl, rfl, rfl, _⟩ := open_int Try.underlying3 (hval 1 3 v1 rfl rfl) h1
  exact FnExactPutU_walk A c zs n W R (byt_of_wf Wf) hlz

set_option maxRecDepth 100000 in
theorem FnExactPutU_holds : Rows.FnExactPutUSaid :=
  OpenClaim.holds_of_wide 5 Try.f5 rfl rfl rfl rfl rfl rfl rfl ⟨rfl, rfl, rfl, rfl, rfl⟩ rfl rfl rfl rfl rfl (by kernel_rfl) Try.func5 (by kernel_rfl)
    (of_decide_eq_true (by kernel_rfl)) (by unfold Func.isWrapper; rw [if_neg (of_decide_eq_false (by kernel_rfl))]; exact ⟨rfl, rfl⟩)
    (fun os started H enc _ => law_lift 5 Try.f5 Rows.fnExactPutUSpec 4 own laidOut started (by kernel_rfl) Try.func5 (by kernel_rfl) rfl (by kernel_rfl) Try.underlying4
      (fun ds h => by
        have hl : ds.length = 2 := h.trans (by kernel_rfl)
        obtain ⟨a, b, rfl⟩ := len2 hl
        rfl)
      (ChangeSpec.witness6 (enc := enc) (C := Try.checked) false ⟨#[], #[.slice none 0 0, .int .i64 0], []⟩ 8 (by kernel_rfl) (by kernel_rfl) (by kernel_rfl) (by kernel_rfl))
      FnExactPutU_args)
#print axioms FnExactPutU_holds

set_option maxHeartbeats 4000000 in
theorem FnExactPutS_walk (A : Option Addr) (c : Nat) (zs : List Int) (n : Int) (w : World) (hR : Reads w w.heap.size 1 A zs.length (u8s zs)) (hZ : Byt zs) (hn : zs.length ≤ 9223372036854775807) :
    Calls Try.prog 8 #[.slice A zs.length c, .int .i64 n] w fun e w' => e = .returned (.bool true) ∧ Below w.heap.size w w' := by
  by_cases hc : 1048576 < (zs.length : Int)
  · go_enter Try.func8, Try.ntmps8
    go_wp2_with fail
    go_ret
    exact ⟨rfl, Below.refl _ _⟩
  · have hz : zs.length ≤ 1048576 := by omega
    have hlen := sB_app_len zs n
    have cS := fun (A : Option Addr) (c : Nat) (w : World) (h : Reads w w.heap.size 1 A zs.length (u8s zs)) => sPutS A c n zs w h hZ (by omega)
    have cI := fun (A : Option Addr) (c : Nat) (w : World) (h : Reads w w.heap.size 1 A zs.length (u8s zs)) => iPutS A c n zs w h hZ (by omega)
    generalize (zs ++ sB n) = Y at cS cI hlen
    have CS := Lib.hid cS
    have CI := Lib.hid cI
    clear cS cI
    go_enter Try.func8, Try.ntmps8
    go_wp2_with fail
    refine (toByteS_any A c zs _ hR hZ (by omega)).mono ?_; rintro e w1 ⟨⟨v0, _, rfl, rfl, _, Ot⟩, b1⟩
    have s1 := b1.size
    have L1 := bl_trans (Below.refl w.heap.size w) b1
    obtain ⟨At, ct, rfl⟩ := Ot.form
    go_wp2_with fail
    refine (CS.out At ct _ Ot.reads).mono ?_; rintro e w2 ⟨⟨vw, _, rfl, rfl, _, Ow⟩, b2⟩
    have s2 := b2.size
    have L2 := bl_trans L1 b2
    replace Ot := Ot.keep b2
    obtain ⟨Aw, cw, rfl⟩ := Ow.form
    go_wp2_with fail
    refine (toByteS_any A c zs _ (rd_below hR L2) hZ (by omega)).mono ?_; rintro e w3 ⟨⟨vx, _, rfl, rfl, _, Ox⟩, b3⟩
    have s3 := b3.size
    have L3 := bl_trans L2 b3
    replace Ow := Ow.keep b3
    obtain ⟨Ax, cx, rfl⟩ := Ox.form
    go_wp2_with fail
    refine (CI.out Ax cx _ Ox.reads).mono ?_; rintro e w4 ⟨⟨vg, _, rfl, rfl, _, Og⟩, b4⟩
    have s4 := b4.size
    have L4 := bl_trans L3 b4
    replace Ow := Ow.keep b4
    replace Ox := Ox.keep b4
    obtain ⟨Ag, cg, rfl⟩ := Og.form
    go_wp2_with fail
    refine (eqByteS_any Ag Aw cg cw Y _ Og.reads Ow.reads (by omega)).mono ?_; rintro e w5 ⟨rfl, b5⟩
    have s5 := b5.size
    have L5 := bl_trans L4 b5
    replace Ow := Ow.keep b5
    replace Ox := Ox.keep b5
    replace Og := Og.keep b5
    go_wp2_with fail
    refine (toByteS_any A c zs _ (rd_below hR L5) hZ (by omega)).mono ?_; rintro e w6 ⟨⟨vt, _, rfl, rfl, _, Ou⟩, b6⟩
    have s6 := b6.size
    have L6 := bl_trans L5 b6
    replace Ow := Ow.keep b6
    replace Ox := Ox.keep b6
    replace Og := Og.keep b6
    obtain ⟨Au, cu, rfl⟩ := Ou.form
    go_wp2_with fail
    refine (eqByteS_any Ax Au cx cu zs _ Ox.reads Ou.reads (by omega)).mono ?_; rintro e w7 ⟨rfl, b7⟩
    have s7 := b7.size
    have L7 := bl_trans L6 b7
    replace Ow := Ow.keep b7
    replace Ox := Ox.keep b7
    replace Og := Og.keep b7
    replace Ou := Ou.keep b7
    go_wp2_with fail
    refine (markByteS_any _ _ Ax cx 1 zs _ Ox (by omega) (by omega)).mono ?_; rintro e w8 ⟨rfl, Px, g8⟩
    have s8 := g8.size
    replace Ow := Ow.far g8 (fun k hk => by have h1 := Ox.1.lt k hk; have h2 := Ox.2 k hk; omega)
    replace Og := Og.far g8 (fun k hk => by have h1 := Ox.1.lt k hk; have h2 := Ox.2 k hk; omega)
    have L8 := Ox.grow g8 L7 (by omega)
    replace Ox := Px
    go_wp2_with fail
    refine (eqByteS_any Ag Aw cg cw Y _ Og.reads Ow.reads (by omega)).mono ?_; rintro e w9 ⟨rfl, b9⟩
    have s9 := b9.size
    have L9 := bl_trans L8 b9
    replace Ow := Ow.keep b9
    replace Og := Og.keep b9
    go_wp2_with fail
    refine (markByteS_any _ _ Ag cg 1 Y _ Og (by omega) (by omega)).mono ?_; rintro e w10 ⟨rfl, Pg, g10⟩
    have s10 := g10.size
    replace Ow := Ow.far g10 (fun k hk => by have h1 := Og.1.lt k hk; have h2 := Og.2 k hk; omega)
    have L10 := Og.grow g10 L9 (by omega)
    replace Og := Pg
    go_wp2_with fail
    refine (heldByteS_any Ag cg 1 _ _ Og.reads (by omega) (by omega)).mono ?_; rintro e w11 ⟨rfl, b11⟩
    have s11 := b11.size
    have L11 := bl_trans L10 b11
    replace Ow := Ow.keep b11
    replace Og := Og.keep b11
    go_wp2_with fail
    refine (toByteS_any A c zs _ (rd_below hR L11) hZ (by omega)).mono ?_; rintro e w12 ⟨⟨vy, _, rfl, rfl, _, Oy⟩, b12⟩
    have s12 := b12.size
    have L12 := bl_trans L11 b12
    replace Ow := Ow.keep b12
    replace Og := Og.keep b12
    obtain ⟨Ay, cy, rfl⟩ := Oy.form
    go_wp2_with fail
    refine (CI.out Ay cy _ Oy.reads).mono ?_; rintro e w13 ⟨⟨vh, _, rfl, rfl, _, Oh⟩, b13⟩
    have s13 := b13.size
    have L13 := bl_trans L12 b13
    replace Ow := Ow.keep b13
    replace Og := Og.keep b13
    replace Oy := Oy.keep b13
    obtain ⟨Ah, ch, rfl⟩ := Oh.form
    go_wp2_with fail
    refine (eqByteS_any Ah Aw ch cw Y _ Oh.reads Ow.reads (by omega)).mono ?_; rintro e w14 ⟨rfl, b14⟩
    have s14 := b14.size
    have L14 := bl_trans L13 b14
    replace Ow := Ow.keep b14
    replace Og := Og.keep b14
    replace Oh := Oh.keep b14
    go_wp2_with fail
    refine (heldByteS_any Ag cg 1 _ _ Og.reads (by omega) (by omega)).mono ?_; rintro e w15 ⟨rfl, b15⟩
    have s15 := b15.size
    have L15 := bl_trans L14 b15
    replace Ow := Ow.keep b15
    replace Og := Og.keep b15
    replace Oh := Oh.keep b15
    go_wp2_with fail
    go_ret
    exact ⟨rfl, L15⟩

theorem FnExactPutS_args {H : Type} {enc : TypeId × Value → H} (W : World) (base : Nat) (args : Array Value) (ds : List (DataW H)) (p : List MemPlace)
    (hval : ∀ (j : Nat) t v, Try.f8.params[j]? = some t → args[j]? = some v → Value.okWide Try.checked.prog W .any base t v)
    (hA : DataW.TrodAll enc Try.checked.prog W 0 (fun _ => true) true Try.f8.params.toList args.toList ds p) :
    Calls Try.checked.prog 8 args W fun e W' => e = .returned (.bool true) ∧ Below W.heap.size W W' := by
  rw [Try.params8] at hA hval
  obtain ⟨v0, v1, d0, d1, p0, p1, rfl, rfl, rfl, h0, h1⟩ := trodAll_two hA
  obtain ⟨A, c, zs, rfl, R, Wf, hlz⟩ := open_nums Try.underlying22 Try.underlying5 (by kernel_rfl) (hval 0 22 v0 rfl rfl) h0
  obtain ⟨n, rfl, rfl, rfl, _⟩ := open_int Try.underlying3 (hval 1 3 v1 rfl rfl) h1
  exact FnExactPutS_walk A c zs n W R (byt_of_wf Wf) hlz

set_option maxRecDepth 100000 in
theorem FnExactPutS_holds : Rows.FnExactPutSSaid :=
  OpenClaim.holds_of_wide 8 Try.f8 rfl rfl rfl rfl rfl rfl rfl ⟨rfl, rfl, rfl, rfl, rfl⟩ rfl rfl rfl rfl rfl (by kernel_rfl) Try.func8 (by kernel_rfl)
    (of_decide_eq_true (by kernel_rfl)) (by unfold Func.isWrapper; rw [if_neg (of_decide_eq_false (by kernel_rfl))]; exact ⟨rfl, rfl⟩)
    (fun os started H enc _ => law_lift 8 Try.f8 Rows.fnExactPutSSpec 4 own laidOut started (by kernel_rfl) Try.func8 (by kernel_rfl) rfl (by kernel_rfl) Try.underlying4
      (fun ds h => by
        have hl : ds.length = 2 := h.trans (by kernel_rfl)
        obtain ⟨a, b, rfl⟩ := len2 hl
        rfl)
      (ChangeSpec.witness6 (enc := enc) (C := Try.checked) false ⟨#[], #[.slice none 0 0, .int .i64 0], []⟩ 8 (by kernel_rfl) (by kernel_rfl) (by kernel_rfl) (by kernel_rfl))
      FnExactPutS_args)
#print axioms FnExactPutS_holds

end Go.Proofs.Ytkahlckjedaolaa
