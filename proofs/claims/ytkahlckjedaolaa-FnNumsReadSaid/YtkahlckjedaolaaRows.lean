/-
  No cell of these rows narrows 'for every input' (looked for: loops, veiled, ifaces, maps, wideKeys, modest, calm, conditions, laid).
  DERIVED. THE GIVEN ROWS OF THIS SEAT. 12 by the template 'for every input the law returns true; each argument reads behind the call as it read before'; 0 by the template 'total and deterministic' (their statements: YtkahlckjedaolaaTotals.lean).
  GIVEN WITH THE SEED: the statements are not yours to turn. If you find one false, say at which input.
  Laid BY PROGRAM, IN A SANDBOX (cutbox-rows.mjs): the forced cells as the released guide's own fill.sh prints them over the translation 4dba933f765e5a67… (all of the seat's roots in one cut). By AI agents, Wed Nov 11 2026. No macro, syntax, notation, axiom, sorry.
-/
import Derived.Test.YtkahlckjedaolaaChecked
import GoSem.Claim
import GoSem.ClaimJoined
import GoSem.ClaimMapViews
import Derived.JoinedTies
import Derived.KernelRfl
namespace Go.Proofs.Ytkahlckjedaolaa
/- THE CELL 'sum', in the pinned program and in every row, IS THE sha256 OF THE DUMP (.gsa) THAT YtkahlckjedaolaaProg.lean LOADS. Nothing in Lean hashes anything: it is a label: what it is worth is what the hold of that sum in a sandbox is worth. -/
noncomputable def Try.pinned : Pinned := { name := "ytkahlckjedaolaa", sum := "4dba933f765e5a6714583da4c1f0d563ed321096dd5ca86da40ce57f85d11de7", checked := Try.checked }
namespace Rows
def none {H : Type} : Left H := { results := [], args := [] }

/-- 'laws.FnExactGetU': WHATEVER THE INPUT: true; the input reads as it did. -/
def fnExactGetUSpec : ChangeSpec := { name := "fnExactGetU", fn := fun _ => fun
  | [d1, d2] => { results := [.lit (.bool true)], args := [d1, d2] }
  | _ => none }
def fnExactGetURow : OpenClaim := { program := "ytkahlckjedaolaa", sum := "4dba933f765e5a6714583da4c1f0d563ed321096dd5ca86da40ce57f85d11de7", func := "loop.example/g00288/laws.FnExactGetU", spec := "fnExactGetU", apart := false }
def FnExactGetUSaid : Prop := fnExactGetURow.holds Try.pinned (OpenSpec.ofChange fnExactGetUSpec)

/-- ITS FALSE NEIGHBOUR: 'it returns false'. Refute it at one input. -/
def fnExactGetUWrong : ChangeSpec := { name := "fnExactGetU", fn := fun _ => fun
  | [d1, d2] => { results := [.lit (.bool false)], args := [d1, d2] }
  | _ => none }
def FnExactGetUWrongFalsely : Prop := fnExactGetURow.holds Try.pinned (OpenSpec.ofChange fnExactGetUWrong)

/-- 'laws.FnWraps': WHATEVER THE INPUT: true; the input reads as it did. -/
def fnWrapsSpec : ChangeSpec := { name := "fnWraps", fn := fun _ => fun
  | [d] => { results := [.lit (.bool true)], args := [d] }
  | _ => none }
def fnWrapsRow : OpenClaim := { program := "ytkahlckjedaolaa", sum := "4dba933f765e5a6714583da4c1f0d563ed321096dd5ca86da40ce57f85d11de7", func := "loop.example/g00288/laws.FnWraps", spec := "fnWraps", apart := false }
def FnWrapsSaid : Prop := fnWrapsRow.holds Try.pinned (OpenSpec.ofChange fnWrapsSpec)

/-- ITS FALSE NEIGHBOUR: 'it returns false'. Refute it at one input. -/
def fnWrapsWrong : ChangeSpec := { name := "fnWraps", fn := fun _ => fun
  | [d] => { results := [.lit (.bool false)], args := [d] }
  | _ => none }
def FnWrapsWrongFalsely : Prop := fnWrapsRow.holds Try.pinned (OpenSpec.ofChange fnWrapsWrong)

/-- 'laws.FnExactPutU': WHATEVER THE INPUT: true; the input reads as it did. -/
def fnExactPutUSpec : ChangeSpec := { name := "fnExactPutU", fn := fun _ => fun
  | [d1, d2] => { results := [.lit (.bool true)], args := [d1, d2] }
  | _ => none }
def fnExactPutURow : OpenClaim := { program := "ytkahlckjedaolaa", sum := "4dba933f765e5a6714583da4c1f0d563ed321096dd5ca86da40ce57f85d11de7", func := "loop.example/g00288/laws.FnExactPutU", spec := "fnExactPutU", apart := false }
def FnExactPutUSaid : Prop := fnExactPutURow.holds Try.pinned (OpenSpec.ofChange fnExactPutUSpec)

/-- ITS FALSE NEIGHBOUR: 'it returns false'. Refute it at one input. -/
def fnExactPutUWrong : ChangeSpec := { name := "fnExactPutU", fn := fun _ => fun
  | [d1, d2] => { results := [.lit (.bool false)], args := [d1, d2] }
  | _ => none }
def FnExactPutUWrongFalsely : Prop := fnExactPutURow.holds Try.pinned (OpenSpec.ofChange fnExactPutUWrong)

/-- 'laws.FnExactPutText': WHATEVER THE INPUT: true; the input reads as it did. -/
def fnExactPutTextSpec : ChangeSpec := { name := "fnExactPutText", fn := fun _ => fun
  | [d1, d2] => { results := [.lit (.bool true)], args := [d1, d2] }
  | _ => none }
def fnExactPutTextRow : OpenClaim := { program := "ytkahlckjedaolaa", sum := "4dba933f765e5a6714583da4c1f0d563ed321096dd5ca86da40ce57f85d11de7", func := "loop.example/g00288/laws.FnExactPutText", spec := "fnExactPutText", apart := false }
def FnExactPutTextSaid : Prop := fnExactPutTextRow.holds Try.pinned (OpenSpec.ofChange fnExactPutTextSpec)

/-- ITS FALSE NEIGHBOUR: 'it returns false'. Refute it at one input. -/
def fnExactPutTextWrong : ChangeSpec := { name := "fnExactPutText", fn := fun _ => fun
  | [d1, d2] => { results := [.lit (.bool false)], args := [d1, d2] }
  | _ => none }
def FnExactPutTextWrongFalsely : Prop := fnExactPutTextRow.holds Try.pinned (OpenSpec.ofChange fnExactPutTextWrong)

/-- 'laws.FnExactNumOf': WHATEVER THE INPUT: true; the input reads as it did. -/
def fnExactNumOfSpec : ChangeSpec := { name := "fnExactNumOf", fn := fun _ => fun
  | [d] => { results := [.lit (.bool true)], args := [d] }
  | _ => none }
def fnExactNumOfRow : OpenClaim := { program := "ytkahlckjedaolaa", sum := "4dba933f765e5a6714583da4c1f0d563ed321096dd5ca86da40ce57f85d11de7", func := "loop.example/g00288/laws.FnExactNumOf", spec := "fnExactNumOf", apart := false }
def FnExactNumOfSaid : Prop := fnExactNumOfRow.holds Try.pinned (OpenSpec.ofChange fnExactNumOfSpec)

/-- ITS FALSE NEIGHBOUR: 'it returns false'. Refute it at one input. -/
def fnExactNumOfWrong : ChangeSpec := { name := "fnExactNumOf", fn := fun _ => fun
  | [d] => { results := [.lit (.bool false)], args := [d] }
  | _ => none }
def FnExactNumOfWrongFalsely : Prop := fnExactNumOfRow.holds Try.pinned (OpenSpec.ofChange fnExactNumOfWrong)

/-- 'laws.FnExactPutS': WHATEVER THE INPUT: true; the input reads as it did. -/
def fnExactPutSSpec : ChangeSpec := { name := "fnExactPutS", fn := fun _ => fun
  | [d1, d2] => { results := [.lit (.bool true)], args := [d1, d2] }
  | _ => none }
def fnExactPutSRow : OpenClaim := { program := "ytkahlckjedaolaa", sum := "4dba933f765e5a6714583da4c1f0d563ed321096dd5ca86da40ce57f85d11de7", func := "loop.example/g00288/laws.FnExactPutS", spec := "fnExactPutS", apart := false }
def FnExactPutSSaid : Prop := fnExactPutSRow.holds Try.pinned (OpenSpec.ofChange fnExactPutSSpec)

/-- ITS FALSE NEIGHBOUR: 'it returns false'. Refute it at one input. -/
def fnExactPutSWrong : ChangeSpec := { name := "fnExactPutS", fn := fun _ => fun
  | [d1, d2] => { results := [.lit (.bool false)], args := [d1, d2] }
  | _ => none }
def FnExactPutSWrongFalsely : Prop := fnExactPutSRow.holds Try.pinned (OpenSpec.ofChange fnExactPutSWrong)

/-- 'laws.FnExactGetText': WHATEVER THE INPUT: true; the input reads as it did. -/
def fnExactGetTextSpec : ChangeSpec := { name := "fnExactGetText", fn := fun _ => fun
  | [d1, d2] => { results := [.lit (.bool true)], args := [d1, d2] }
  | _ => none }
def fnExactGetTextRow : OpenClaim := { program := "ytkahlckjedaolaa", sum := "4dba933f765e5a6714583da4c1f0d563ed321096dd5ca86da40ce57f85d11de7", func := "loop.example/g00288/laws.FnExactGetText", spec := "fnExactGetText", apart := false }
def FnExactGetTextSaid : Prop := fnExactGetTextRow.holds Try.pinned (OpenSpec.ofChange fnExactGetTextSpec)

/-- ITS FALSE NEIGHBOUR: 'it returns false'. Refute it at one input. -/
def fnExactGetTextWrong : ChangeSpec := { name := "fnExactGetText", fn := fun _ => fun
  | [d1, d2] => { results := [.lit (.bool false)], args := [d1, d2] }
  | _ => none }
def FnExactGetTextWrongFalsely : Prop := fnExactGetTextRow.holds Try.pinned (OpenSpec.ofChange fnExactGetTextWrong)

/-- 'laws.FnExactGetS': WHATEVER THE INPUT: true; the input reads as it did. -/
def fnExactGetSSpec : ChangeSpec := { name := "fnExactGetS", fn := fun _ => fun
  | [d1, d2] => { results := [.lit (.bool true)], args := [d1, d2] }
  | _ => none }
def fnExactGetSRow : OpenClaim := { program := "ytkahlckjedaolaa", sum := "4dba933f765e5a6714583da4c1f0d563ed321096dd5ca86da40ce57f85d11de7", func := "loop.example/g00288/laws.FnExactGetS", spec := "fnExactGetS", apart := false }
def FnExactGetSSaid : Prop := fnExactGetSRow.holds Try.pinned (OpenSpec.ofChange fnExactGetSSpec)

/-- ITS FALSE NEIGHBOUR: 'it returns false'. Refute it at one input. -/
def fnExactGetSWrong : ChangeSpec := { name := "fnExactGetS", fn := fun _ => fun
  | [d1, d2] => { results := [.lit (.bool false)], args := [d1, d2] }
  | _ => none }
def FnExactGetSWrongFalsely : Prop := fnExactGetSRow.holds Try.pinned (OpenSpec.ofChange fnExactGetSWrong)

/-- 'laws.FnNums': WHATEVER THE INPUT: true; the input reads as it did. -/
def fnNumsSpec : ChangeSpec := { name := "fnNums", fn := fun _ => fun
  | [d] => { results := [.lit (.bool true)], args := [d] }
  | _ => none }
def fnNumsRow : OpenClaim := { program := "ytkahlckjedaolaa", sum := "4dba933f765e5a6714583da4c1f0d563ed321096dd5ca86da40ce57f85d11de7", func := "loop.example/g00288/laws.FnNums", spec := "fnNums", apart := false }
def FnNumsSaid : Prop := fnNumsRow.holds Try.pinned (OpenSpec.ofChange fnNumsSpec)

/-- ITS FALSE NEIGHBOUR: 'it returns false'. Refute it at one input. -/
def fnNumsWrong : ChangeSpec := { name := "fnNums", fn := fun _ => fun
  | [d] => { results := [.lit (.bool false)], args := [d] }
  | _ => none }
def FnNumsWrongFalsely : Prop := fnNumsRow.holds Try.pinned (OpenSpec.ofChange fnNumsWrong)

/-- 'laws.FnExactPutVal': WHATEVER THE INPUT: true; the input reads as it did. -/
def fnExactPutValSpec : ChangeSpec := { name := "fnExactPutVal", fn := fun _ => fun
  | [d1, d2] => { results := [.lit (.bool true)], args := [d1, d2] }
  | _ => none }
def fnExactPutValRow : OpenClaim := { program := "ytkahlckjedaolaa", sum := "4dba933f765e5a6714583da4c1f0d563ed321096dd5ca86da40ce57f85d11de7", func := "loop.example/g00288/laws.FnExactPutVal", spec := "fnExactPutVal", apart := false }
def FnExactPutValSaid : Prop := fnExactPutValRow.holds Try.pinned (OpenSpec.ofChange fnExactPutValSpec)

/-- ITS FALSE NEIGHBOUR: 'it returns false'. Refute it at one input. -/
def fnExactPutValWrong : ChangeSpec := { name := "fnExactPutVal", fn := fun _ => fun
  | [d1, d2] => { results := [.lit (.bool false)], args := [d1, d2] }
  | _ => none }
def FnExactPutValWrongFalsely : Prop := fnExactPutValRow.holds Try.pinned (OpenSpec.ofChange fnExactPutValWrong)

/-- 'laws.FnExactGetVal': WHATEVER THE INPUT: true; the input reads as it did. -/
def fnExactGetValSpec : ChangeSpec := { name := "fnExactGetVal", fn := fun _ => fun
  | [d1, d2] => { results := [.lit (.bool true)], args := [d1, d2] }
  | _ => none }
def fnExactGetValRow : OpenClaim := { program := "ytkahlckjedaolaa", sum := "4dba933f765e5a6714583da4c1f0d563ed321096dd5ca86da40ce57f85d11de7", func := "loop.example/g00288/laws.FnExactGetVal", spec := "fnExactGetVal", apart := false }
def FnExactGetValSaid : Prop := fnExactGetValRow.holds Try.pinned (OpenSpec.ofChange fnExactGetValSpec)

/-- ITS FALSE NEIGHBOUR: 'it returns false'. Refute it at one input. -/
def fnExactGetValWrong : ChangeSpec := { name := "fnExactGetVal", fn := fun _ => fun
  | [d1, d2] => { results := [.lit (.bool false)], args := [d1, d2] }
  | _ => none }
def FnExactGetValWrongFalsely : Prop := fnExactGetValRow.holds Try.pinned (OpenSpec.ofChange fnExactGetValWrong)

/-- 'laws.FnNumsRead': WHATEVER THE INPUT: true; the input reads as it did. -/
def fnNumsReadSpec : ChangeSpec := { name := "fnNumsRead", fn := fun _ => fun
  | [d] => { results := [.lit (.bool true)], args := [d] }
  | _ => none }
def fnNumsReadRow : OpenClaim := { program := "ytkahlckjedaolaa", sum := "4dba933f765e5a6714583da4c1f0d563ed321096dd5ca86da40ce57f85d11de7", func := "loop.example/g00288/laws.FnNumsRead", spec := "fnNumsRead", apart := false }
def FnNumsReadSaid : Prop := fnNumsReadRow.holds Try.pinned (OpenSpec.ofChange fnNumsReadSpec)

/-- ITS FALSE NEIGHBOUR: 'it returns false'. Refute it at one input. -/
def fnNumsReadWrong : ChangeSpec := { name := "fnNumsRead", fn := fun _ => fun
  | [d] => { results := [.lit (.bool false)], args := [d] }
  | _ => none }
def FnNumsReadWrongFalsely : Prop := fnNumsReadRow.holds Try.pinned (OpenSpec.ofChange fnNumsReadWrong)

/- THE SECOND FORM. 'bulk': how many values and letters a reading holds, each counted each time it is reached (what is shared counts as often as it is met; a slice's spare places count too). A statement '..UptoSaid' is the law's where the arguments, and the package variables that the reading takes, are together of bulk at most 1048576: NARROWER than '..Said'. Prove '..Said' where nothing that the law and all that it calls make is longer than what came in: it says more and counts as full. Else prove '..UptoSaid'. A law counts once. -/
mutual
def uptoBulk {H : Type} : DataW H → Nat
  | .lit (.string bytes) => bytes.length + 1
  | .lit _ => 1
  | .nil => 1
  | .ptr d => uptoBulk d + 1
  | .slice elems spare => uptoBulkAll elems + uptoBulkAll spare + 1
  | .agg parts => uptoBulkAll parts + 1
  | .iface _ d => uptoBulk d + 1
  | .map entries => uptoBulkEntries entries + 1
  | .held _ => 1
def uptoBulkAll {H : Type} : List (DataW H) → Nat
  | [] => 0
  | d :: r => uptoBulk d + uptoBulkAll r
def uptoBulkEntries {H : Type} : List (Lit × DataW H) → Nat
  | [] => 0
  | x :: r => uptoBulkEntry x + uptoBulkEntries r
def uptoBulkEntry {H : Type} : Lit × DataW H → Nat
  | (.string bytes, d) => bytes.length + uptoBulk d + 1
  | (_, d) => uptoBulk d + 1
 end
def uptoSmall : (H : Type) → List (DataW H) → Bool := fun _ ds => decide (uptoBulkAll ds ≤ 1048576)
def OpenSpec.upto (s : _root_.Go.ChangeSpec) : _root_.Go.OpenSpec := { _root_.Go.OpenSpec.ofChange s with cond := some uptoSmall }

/-- 'laws.FnExactGetU', WHERE WHAT IT READS IS OF BULK AT MOST 1048576: true; the input reads as it did. -/
def fnExactGetUUptoRow : OpenClaim := { program := "ytkahlckjedaolaa", sum := "4dba933f765e5a6714583da4c1f0d563ed321096dd5ca86da40ce57f85d11de7", func := "loop.example/g00288/laws.FnExactGetU", spec := "fnExactGetU", apart := false, narrowed := true }
def FnExactGetUUptoSaid : Prop := fnExactGetUUptoRow.holds Try.pinned (OpenSpec.upto fnExactGetUSpec)

/-- 'laws.FnWraps', WHERE WHAT IT READS IS OF BULK AT MOST 1048576: true; the input reads as it did. -/
def fnWrapsUptoRow : OpenClaim := { program := "ytkahlckjedaolaa", sum := "4dba933f765e5a6714583da4c1f0d563ed321096dd5ca86da40ce57f85d11de7", func := "loop.example/g00288/laws.FnWraps", spec := "fnWraps", apart := false, narrowed := true }
def FnWrapsUptoSaid : Prop := fnWrapsUptoRow.holds Try.pinned (OpenSpec.upto fnWrapsSpec)

/-- 'laws.FnExactPutU', WHERE WHAT IT READS IS OF BULK AT MOST 1048576: true; the input reads as it did. -/
def fnExactPutUUptoRow : OpenClaim := { program := "ytkahlckjedaolaa", sum := "4dba933f765e5a6714583da4c1f0d563ed321096dd5ca86da40ce57f85d11de7", func := "loop.example/g00288/laws.FnExactPutU", spec := "fnExactPutU", apart := false, narrowed := true }
def FnExactPutUUptoSaid : Prop := fnExactPutUUptoRow.holds Try.pinned (OpenSpec.upto fnExactPutUSpec)

/-- 'laws.FnExactPutText', WHERE WHAT IT READS IS OF BULK AT MOST 1048576: true; the input reads as it did. -/
def fnExactPutTextUptoRow : OpenClaim := { program := "ytkahlckjedaolaa", sum := "4dba933f765e5a6714583da4c1f0d563ed321096dd5ca86da40ce57f85d11de7", func := "loop.example/g00288/laws.FnExactPutText", spec := "fnExactPutText", apart := false, narrowed := true }
def FnExactPutTextUptoSaid : Prop := fnExactPutTextUptoRow.holds Try.pinned (OpenSpec.upto fnExactPutTextSpec)

/-- 'laws.FnExactNumOf', WHERE WHAT IT READS IS OF BULK AT MOST 1048576: true; the input reads as it did. -/
def fnExactNumOfUptoRow : OpenClaim := { program := "ytkahlckjedaolaa", sum := "4dba933f765e5a6714583da4c1f0d563ed321096dd5ca86da40ce57f85d11de7", func := "loop.example/g00288/laws.FnExactNumOf", spec := "fnExactNumOf", apart := false, narrowed := true }
def FnExactNumOfUptoSaid : Prop := fnExactNumOfUptoRow.holds Try.pinned (OpenSpec.upto fnExactNumOfSpec)

/-- 'laws.FnExactPutS', WHERE WHAT IT READS IS OF BULK AT MOST 1048576: true; the input reads as it did. -/
def fnExactPutSUptoRow : OpenClaim := { program := "ytkahlckjedaolaa", sum := "4dba933f765e5a6714583da4c1f0d563ed321096dd5ca86da40ce57f85d11de7", func := "loop.example/g00288/laws.FnExactPutS", spec := "fnExactPutS", apart := false, narrowed := true }
def FnExactPutSUptoSaid : Prop := fnExactPutSUptoRow.holds Try.pinned (OpenSpec.upto fnExactPutSSpec)

/-- 'laws.FnExactGetText', WHERE WHAT IT READS IS OF BULK AT MOST 1048576: true; the input reads as it did. -/
def fnExactGetTextUptoRow : OpenClaim := { program := "ytkahlckjedaolaa", sum := "4dba933f765e5a6714583da4c1f0d563ed321096dd5ca86da40ce57f85d11de7", func := "loop.example/g00288/laws.FnExactGetText", spec := "fnExactGetText", apart := false, narrowed := true }
def FnExactGetTextUptoSaid : Prop := fnExactGetTextUptoRow.holds Try.pinned (OpenSpec.upto fnExactGetTextSpec)

/-- 'laws.FnExactGetS', WHERE WHAT IT READS IS OF BULK AT MOST 1048576: true; the input reads as it did. -/
def fnExactGetSUptoRow : OpenClaim := { program := "ytkahlckjedaolaa", sum := "4dba933f765e5a6714583da4c1f0d563ed321096dd5ca86da40ce57f85d11de7", func := "loop.example/g00288/laws.FnExactGetS", spec := "fnExactGetS", apart := false, narrowed := true }
def FnExactGetSUptoSaid : Prop := fnExactGetSUptoRow.holds Try.pinned (OpenSpec.upto fnExactGetSSpec)

/-- 'laws.FnNums', WHERE WHAT IT READS IS OF BULK AT MOST 1048576: true; the input reads as it did. -/
def fnNumsUptoRow : OpenClaim := { program := "ytkahlckjedaolaa", sum := "4dba933f765e5a6714583da4c1f0d563ed321096dd5ca86da40ce57f85d11de7", func := "loop.example/g00288/laws.FnNums", spec := "fnNums", apart := false, narrowed := true }
def FnNumsUptoSaid : Prop := fnNumsUptoRow.holds Try.pinned (OpenSpec.upto fnNumsSpec)

/-- 'laws.FnExactPutVal', WHERE WHAT IT READS IS OF BULK AT MOST 1048576: true; the input reads as it did. -/
def fnExactPutValUptoRow : OpenClaim := { program := "ytkahlckjedaolaa", sum := "4dba933f765e5a6714583da4c1f0d563ed321096dd5ca86da40ce57f85d11de7", func := "loop.example/g00288/laws.FnExactPutVal", spec := "fnExactPutVal", apart := false, narrowed := true }
def FnExactPutValUptoSaid : Prop := fnExactPutValUptoRow.holds Try.pinned (OpenSpec.upto fnExactPutValSpec)

/-- 'laws.FnExactGetVal', WHERE WHAT IT READS IS OF BULK AT MOST 1048576: true; the input reads as it did. -/
def fnExactGetValUptoRow : OpenClaim := { program := "ytkahlckjedaolaa", sum := "4dba933f765e5a6714583da4c1f0d563ed321096dd5ca86da40ce57f85d11de7", func := "loop.example/g00288/laws.FnExactGetVal", spec := "fnExactGetVal", apart := false, narrowed := true }
def FnExactGetValUptoSaid : Prop := fnExactGetValUptoRow.holds Try.pinned (OpenSpec.upto fnExactGetValSpec)

/-- 'laws.FnNumsRead', WHERE WHAT IT READS IS OF BULK AT MOST 1048576: true; the input reads as it did. -/
def fnNumsReadUptoRow : OpenClaim := { program := "ytkahlckjedaolaa", sum := "4dba933f765e5a6714583da4c1f0d563ed321096dd5ca86da40ce57f85d11de7", func := "loop.example/g00288/laws.FnNumsRead", spec := "fnNumsRead", apart := false, narrowed := true }
def FnNumsReadUptoSaid : Prop := fnNumsReadUptoRow.holds Try.pinned (OpenSpec.upto fnNumsReadSpec)

end Rows
end Go.Proofs.Ytkahlckjedaolaa
