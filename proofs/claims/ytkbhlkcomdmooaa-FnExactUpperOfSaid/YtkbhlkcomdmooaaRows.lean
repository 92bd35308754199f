/-
  No cell of these rows narrows 'for every input' (looked for: loops, veiled, ifaces, maps, wideKeys, modest, calm, conditions, laid).
  DERIVED. THE GIVEN ROWS OF THIS SEAT. 6 by the template 'for every input the law returns true; each argument reads behind the call as it read before'; 0 by the template 'total and deterministic' (their statements: YtkbhlkcomdmooaaTotals.lean).
  GIVEN WITH THE SEED: the statements are not yours to turn. If you find one false, say at which input.
  Laid BY PROGRAM, IN A SANDBOX (cutbox-rows.mjs): the forced cells as the released guide's own fill.sh prints them over the translation 3aac587db727be8b… (all of the seat's roots in one cut). By AI agents, Wed Nov 11 2026. No macro, syntax, notation, axiom, sorry.
-/
import Derived.Test.YtkbhlkcomdmooaaChecked
import GoSem.Claim
import GoSem.ClaimJoined
import GoSem.ClaimMapViews
import Derived.JoinedTies
import Derived.KernelRfl
namespace Go.Proofs.Ytkbhlkcomdmooaa
/- THE CELL 'sum', in the pinned program and in every row, IS THE sha256 OF THE DUMP (.gsa) THAT YtkbhlkcomdmooaaProg.lean LOADS. Nothing in Lean hashes anything: it is a label: what it is worth is what the hold of that sum in a sandbox is worth. -/
noncomputable def Try.pinned : Pinned := { name := "ytkbhlkcomdmooaa", sum := "3aac587db727be8bb44b76eb8f6df4f161e745050c6de18cae7c427b81ecaaa0", checked := Try.checked }
namespace Rows
def none {H : Type} : Left H := { results := [], args := [] }

/-- 'laws.FnExactConstants': WHATEVER THE INPUT: true; the input reads as it did. -/
def fnExactConstantsSpec : ChangeSpec := { name := "fnExactConstants", fn := fun _ => fun
  | [] => { results := [.lit (.bool true)], args := [] }
  | _ => none }
def fnExactConstantsRow : OpenClaim := { program := "ytkbhlkcomdmooaa", sum := "3aac587db727be8bb44b76eb8f6df4f161e745050c6de18cae7c427b81ecaaa0", func := "loop.example/g00288/laws.FnExactConstants", spec := "fnExactConstants", apart := false }
def FnExactConstantsSaid : Prop := fnExactConstantsRow.holds Try.pinned (OpenSpec.ofChange fnExactConstantsSpec)

/-- ITS FALSE NEIGHBOUR: 'it returns false'. Refute it at one input. -/
def fnExactConstantsWrong : ChangeSpec := { name := "fnExactConstants", fn := fun _ => fun
  | [] => { results := [.lit (.bool false)], args := [] }
  | _ => none }
def FnExactConstantsWrongFalsely : Prop := fnExactConstantsRow.holds Try.pinned (OpenSpec.ofChange fnExactConstantsWrong)

/-- 'laws.FnExactWrap': WHATEVER THE INPUT: true; the input reads as it did. -/
def fnExactWrapSpec : ChangeSpec := { name := "fnExactWrap", fn := fun _ => fun
  | [d] => { results := [.lit (.bool true)], args := [d] }
  | _ => none }
def fnExactWrapRow : OpenClaim := { program := "ytkbhlkcomdmooaa", sum := "3aac587db727be8bb44b76eb8f6df4f161e745050c6de18cae7c427b81ecaaa0", func := "loop.example/g00288/laws.FnExactWrap", spec := "fnExactWrap", apart := false }
def FnExactWrapSaid : Prop := fnExactWrapRow.holds Try.pinned (OpenSpec.ofChange fnExactWrapSpec)

/-- ITS FALSE NEIGHBOUR: 'it returns false'. Refute it at one input. -/
def fnExactWrapWrong : ChangeSpec := { name := "fnExactWrap", fn := fun _ => fun
  | [d] => { results := [.lit (.bool false)], args := [d] }
  | _ => none }
def FnExactWrapWrongFalsely : Prop := fnExactWrapRow.holds Try.pinned (OpenSpec.ofChange fnExactWrapWrong)

/-- 'laws.FnExactUpperOf': WHATEVER THE INPUT: true; the input reads as it did. -/
def fnExactUpperOfSpec : ChangeSpec := { name := "fnExactUpperOf", fn := fun _ => fun
  | [d] => { results := [.lit (.bool true)], args := [d] }
  | _ => none }
def fnExactUpperOfRow : OpenClaim := { program := "ytkbhlkcomdmooaa", sum := "3aac587db727be8bb44b76eb8f6df4f161e745050c6de18cae7c427b81ecaaa0", func := "loop.example/g00288/laws.FnExactUpperOf", spec := "fnExactUpperOf", apart := false }
def FnExactUpperOfSaid : Prop := fnExactUpperOfRow.holds Try.pinned (OpenSpec.ofChange fnExactUpperOfSpec)

/-- ITS FALSE NEIGHBOUR: 'it returns false'. Refute it at one input. -/
def fnExactUpperOfWrong : ChangeSpec := { name := "fnExactUpperOf", fn := fun _ => fun
  | [d] => { results := [.lit (.bool false)], args := [d] }
  | _ => none }
def FnExactUpperOfWrongFalsely : Prop := fnExactUpperOfRow.holds Try.pinned (OpenSpec.ofChange fnExactUpperOfWrong)

/-- 'laws.FnExactTruth': WHATEVER THE INPUT: true; the input reads as it did. -/
def fnExactTruthSpec : ChangeSpec := { name := "fnExactTruth", fn := fun _ => fun
  | [d] => { results := [.lit (.bool true)], args := [d] }
  | _ => none }
def fnExactTruthRow : OpenClaim := { program := "ytkbhlkcomdmooaa", sum := "3aac587db727be8bb44b76eb8f6df4f161e745050c6de18cae7c427b81ecaaa0", func := "loop.example/g00288/laws.FnExactTruth", spec := "fnExactTruth", apart := false }
def FnExactTruthSaid : Prop := fnExactTruthRow.holds Try.pinned (OpenSpec.ofChange fnExactTruthSpec)

/-- ITS FALSE NEIGHBOUR: 'it returns false'. Refute it at one input. -/
def fnExactTruthWrong : ChangeSpec := { name := "fnExactTruth", fn := fun _ => fun
  | [d] => { results := [.lit (.bool false)], args := [d] }
  | _ => none }
def FnExactTruthWrongFalsely : Prop := fnExactTruthRow.holds Try.pinned (OpenSpec.ofChange fnExactTruthWrong)

/-- 'laws.FnExactSubText': WHATEVER THE INPUT: true; the input reads as it did. -/
def fnExactSubTextSpec : ChangeSpec := { name := "fnExactSubText", fn := fun _ => fun
  | [d1, d2, d3] => { results := [.lit (.bool true)], args := [d1, d2, d3] }
  | _ => none }
def fnExactSubTextRow : OpenClaim := { program := "ytkbhlkcomdmooaa", sum := "3aac587db727be8bb44b76eb8f6df4f161e745050c6de18cae7c427b81ecaaa0", func := "loop.example/g00288/laws.FnExactSubText", spec := "fnExactSubText", apart := false }
def FnExactSubTextSaid : Prop := fnExactSubTextRow.holds Try.pinned (OpenSpec.ofChange fnExactSubTextSpec)

/-- ITS FALSE NEIGHBOUR: 'it returns false'. Refute it at one input. -/
def fnExactSubTextWrong : ChangeSpec := { name := "fnExactSubText", fn := fun _ => fun
  | [d1, d2, d3] => { results := [.lit (.bool false)], args := [d1, d2, d3] }
  | _ => none }
def FnExactSubTextWrongFalsely : Prop := fnExactSubTextRow.holds Try.pinned (OpenSpec.ofChange fnExactSubTextWrong)

/-- 'laws.FnExactValOk': WHATEVER THE INPUT: true; the input reads as it did. -/
def fnExactValOkSpec : ChangeSpec := { name := "fnExactValOk", fn := fun _ => fun
  | [d] => { results := [.lit (.bool true)], args := [d] }
  | _ => none }
def fnExactValOkRow : OpenClaim := { program := "ytkbhlkcomdmooaa", sum := "3aac587db727be8bb44b76eb8f6df4f161e745050c6de18cae7c427b81ecaaa0", func := "loop.example/g00288/laws.FnExactValOk", spec := "fnExactValOk", apart := false }
def FnExactValOkSaid : Prop := fnExactValOkRow.holds Try.pinned (OpenSpec.ofChange fnExactValOkSpec)

/-- ITS FALSE NEIGHBOUR: 'it returns false'. Refute it at one input. -/
def fnExactValOkWrong : ChangeSpec := { name := "fnExactValOk", fn := fun _ => fun
  | [d] => { results := [.lit (.bool false)], args := [d] }
  | _ => none }
def FnExactValOkWrongFalsely : Prop := fnExactValOkRow.holds Try.pinned (OpenSpec.ofChange fnExactValOkWrong)

/- THE SECOND FORM. 'bulk': how many values and letters a reading holds, each counted each time it is reached (what is shared counts as often as it is met; a slice's spare places count too). A statement '..UptoSaid' is the law's where the arguments, and the package variables that the reading takes, are together of bulk at most 1048576: NARROWER than '..Said'. Prove '..Said' where nothing that the law and all that it calls make is longer than what came in: it says more and counts as full. Else prove '..UptoSaid'. A law counts once. -/
mutual
def uptoBulk {H : Type} : DataW H → Nat
  | .lit (.string bytes) => bytes.length + 1
  | .lit _ => 1
  | .nil => 1
  | .ptr d => uptoBulk d + 1
  | .slice elems spare => uptoBulkAll elems + uptoBulkAll spare + 1
  | .agg parts => uptoBulkAll parts + 1
  | .iface _ d => uptoBulk d + 1
  | .map entries => uptoBulkEntries entries + 1
  | .held _ => 1
def uptoBulkAll {H : Type} : List (DataW H) → Nat
  | [] => 0
  | d :: r => uptoBulk d + uptoBulkAll r
def uptoBulkEntries {H : Type} : List (Lit × DataW H) → Nat
  | [] => 0
  | x :: r => uptoBulkEntry x + uptoBulkEntries r
def uptoBulkEntry {H : Type} : Lit × DataW H → Nat
  | (.string bytes, d) => bytes.length + uptoBulk d + 1
  | (_, d) => uptoBulk d + 1
 end
def uptoSmall : (H : Type) → List (DataW H) → Bool := fun _ ds => decide (uptoBulkAll ds ≤ 1048576)
def OpenSpec.upto (s : _root_.Go.ChangeSpec) : _root_.Go.OpenSpec := { _root_.Go.OpenSpec.ofChange s with cond := some uptoSmall }

/-- 'laws.FnExactConstants', WHERE WHAT IT READS IS OF BULK AT MOST 1048576: true; the input reads as it did. -/
def fnExactConstantsUptoRow : OpenClaim := { program := "ytkbhlkcomdmooaa", sum := "3aac587db727be8bb44b76eb8f6df4f161e745050c6de18cae7c427b81ecaaa0", func := "loop.example/g00288/laws.FnExactConstants", spec := "fnExactConstants", apart := false, narrowed := true }
def FnExactConstantsUptoSaid : Prop := fnExactConstantsUptoRow.holds Try.pinned (OpenSpec.upto fnExactConstantsSpec)

/-- 'laws.FnExactWrap', WHERE WHAT IT READS IS OF BULK AT MOST 1048576: true; the input reads as it did. -/
def fnExactWrapUptoRow : OpenClaim := { program := "ytkbhlkcomdmooaa", sum := "3aac587db727be8bb44b76eb8f6df4f161e745050c6de18cae7c427b81ecaaa0", func := "loop.example/g00288/laws.FnExactWrap", spec := "fnExactWrap", apart := false, narrowed := true }
def FnExactWrapUptoSaid : Prop := fnExactWrapUptoRow.holds Try.pinned (OpenSpec.upto fnExactWrapSpec)

/-- 'laws.FnExactUpperOf', WHERE WHAT IT READS IS OF BULK AT MOST 1048576: true; the input reads as it did. -/
def fnExactUpperOfUptoRow : OpenClaim := { program := "ytkbhlkcomdmooaa", sum := "3aac587db727be8bb44b76eb8f6df4f161e745050c6de18cae7c427b81ecaaa0", func := "loop.example/g00288/laws.FnExactUpperOf", spec := "fnExactUpperOf", apart := false, narrowed := true }
def FnExactUpperOfUptoSaid : Prop := fnExactUpperOfUptoRow.holds Try.pinned (OpenSpec.upto fnExactUpperOfSpec)

/-- 'laws.FnExactTruth', WHERE WHAT IT READS IS OF BULK AT MOST 1048576: true; the input reads as it did. -/
def fnExactTruthUptoRow : OpenClaim := { program := "ytkbhlkcomdmooaa", sum := "3aac587db727be8bb44b76eb8f6df4f161e745050c6de18cae7c427b81ecaaa0", func := "loop.example/g00288/laws.FnExactTruth", spec := "fnExactTruth", apart := false, narrowed := true }
def FnExactTruthUptoSaid : Prop := fnExactTruthUptoRow.holds Try.pinned (OpenSpec.upto fnExactTruthSpec)

/-- 'laws.FnExactSubText', WHERE WHAT IT READS IS OF BULK AT MOST 1048576: true; the input reads as it did. -/
def fnExactSubTextUptoRow : OpenClaim := { program := "ytkbhlkcomdmooaa", sum := "3aac587db727be8bb44b76eb8f6df4f161e745050c6de18cae7c427b81ecaaa0", func := "loop.example/g00288/laws.FnExactSubText", spec := "fnExactSubText", apart := false, narrowed := true }
def FnExactSubTextUptoSaid : Prop := fnExactSubTextUptoRow.holds Try.pinned (OpenSpec.upto fnExactSubTextSpec)

/-- 'laws.FnExactValOk', WHERE WHAT IT READS IS OF BULK AT MOST 1048576: true; the input reads as it did. -/
def fnExactValOkUptoRow : OpenClaim := { program := "ytkbhlkcomdmooaa", sum := "3aac587db727be8bb44b76eb8f6df4f161e745050c6de18cae7c427b81ecaaa0", func := "loop.example/g00288/laws.FnExactValOk", spec := "fnExactValOk", apart := false, narrowed := true }
def FnExactValOkUptoSaid : Prop := fnExactValOkUptoRow.holds Try.pinned (OpenSpec.upto fnExactValOkSpec)

end Rows
end Go.Proofs.Ytkbhlkcomdmooaa
