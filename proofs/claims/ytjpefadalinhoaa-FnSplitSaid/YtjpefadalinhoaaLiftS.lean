/- The frame of the laws that read a variable of the library's own: from a walk that knows the world's shape to the statement. No condition. -/
import Derived.Test.YtjpefadalinhoaaLift
import Derived.HandedShaped
namespace Go.Proofs.Ytjpefadalinhoaa
open Go.ChangeShapes Go.WideShapes Go.ChangeAt Go.RowKit

/-- FROM THE WALK TO THE LIFTED CONTRACT, the world's shape kept. -/
theorem law_lift_shaped {H : Type} {enc : TypeId × Value → H} {C : Checked} {os : Os} (K : FuncId) (f : Func) (s : ChangeSpec) (tb : TypeId)
    (hown : ownKnob C.prog.godebug = none) (hl : laidOutB C.prog = true) (started : os.Started) (noInit : C.prog.inits.idxOf? K = none) (hf : C.prog.funcs[K]? = some f)
    (hr : (f.params.toList.all fun t => C.prog.readableRec t && decide (t < C.prog.types.size)) = true) (hvars : s.vars = [])
    (hres : f.resultTypes = #[tb]) (hT : C.prog.underlying tb = some .bool)
    (hfn : ∀ ds : List (DataW H), ds.length = f.params.toList.length → s.fn H (ds ++ []) = { results := [.lit (.bool true)], args := ds, vars := [] })
    (witness : ∃ (w : World) (tape : Tape) (i : Input), w.os = os ∧ (w.forCall tape i).Shaped C.prog ∧ i.vars = [] ∧ Input.okWide C.prog (w.forCall tape i) .any w.heap.size K i ∧
      s.pre6 enc C.prog f [] false (w.forCall tape i).memory i.args ∧ Assume.holds {} C.prog (lone (Frame.enter C.prog K i.args .normal) [] (w.forCall tape i)))
    (walk : ∀ (W : World) (base : Nat) (args : Array Value) (ds : List (DataW H)) (p : List MemPlace),
      (∀ (j : Nat) t v, f.params[j]? = some t → args[j]? = some v → Value.okWide C.prog W .any base t v) →
      DataW.TrodAll enc C.prog W 0 (fun _ => true) true f.params.toList args.toList ds p → W.ShapedOpen C.prog →
      Calls C.prog K args W fun e W' => e = .returned (.bool true) ∧ Below W.heap.size W W') :
    ReturnsInHanded {} C os K .any (s.pre6 enc C.prog f [] false) (s.post enc C.prog f false true false false) := by
  refine returnsInHanded_of_change_shaped (C := C) hown started noInit hf witness ?_
  intro W base args ds gs before hval hW _ _ hS _
  have hW' := hW
  obtain ⟨p, q, hA, hV, _, _, _⟩ := hW
  rw [hvars] at hV
  obtain rfl : gs = [] := by
    cases gs with
    | nil => rfl
    | cons g gs => exact hV.elim
  refine (walk W base args ds p hval hA hS).mono fun e W' ⟨he, hb⟩ => ⟨_, he, ?_⟩
  exact post_law hl (fun t ht => by have := List.all_eq_true.1 hr t ht; simpa using this) hvars hres hT (hfn ds (trodAll_len _ _ _ _ hA)) hW' hb

end Go.Proofs.Ytjpefadalinhoaa
