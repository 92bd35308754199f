/-
  NARROWER THAN 'FOR EVERY INPUT', by the rows' own cells (each row's printed sentence says how): FnExactReplace: loops.
  DERIVED. THE GIVEN ROWS OF THIS SEAT. 8 by the template 'for every input the law returns true; each argument reads behind the call as it read before'; 0 by the template 'total and deterministic' (their statements: YtdfcgnbklnceiaaTotals.lean).
  GIVEN WITH THE SEED: the statements are not yours to turn. If you find one false, say at which input.
  Laid BY PROGRAM, IN A SANDBOX (cutbox-rows.mjs): the forced cells as the released guide's own fill.sh prints them over the translation 3115b00629ee0f3c… (all of the seat's roots in one cut). By AI agents, Wed Nov 11 2026. No macro, syntax, notation, axiom, sorry.
-/
import Derived.Test.YtdfcgnbklnceiaaChecked
import GoSem.Claim
import GoSem.ClaimJoined
import GoSem.ClaimMapViews
import Derived.JoinedTies
import Derived.KernelRfl
namespace Go.Proofs.Ytdfcgnbklnceiaa
/- THE CELL 'sum', in the pinned program and in every row, IS THE sha256 OF THE DUMP (.gsa) THAT YtdfcgnbklnceiaaProg.lean LOADS. Nothing in Lean hashes anything: it is a label: what it is worth is what the hold of that sum in a sandbox is worth. -/
noncomputable def Try.pinned : Pinned := { name := "ytdfcgnbklnceiaa", sum := "3115b00629ee0f3c34a2fb509aac8bda4dce1e6974adfe7cc403a68543927291", checked := Try.checked }
namespace Rows
def none {H : Type} : Left H := { results := [], args := [] }

/-- 'laws.FnExactReplace': WHATEVER THE INPUT: true; the input reads as it did. -/
def fnExactReplaceSpec : ChangeSpec := { name := "fnExactReplace", fn := fun _ => fun
  | [d1, d2, d3, d4] => { results := [.lit (.bool true)], args := [d1, d2, d3, d4] }
  | _ => none }
def fnExactReplaceRow : OpenClaim := { program := "ytdfcgnbklnceiaa", sum := "3115b00629ee0f3c34a2fb509aac8bda4dce1e6974adfe7cc403a68543927291", func := "loop.example/g00288/laws.FnExactReplace", spec := "fnExactReplace", inPlace := ["internal/bytealg.IndexByteString"], unfollowed := true, recurses := true, loops := true, apart := false }
def FnExactReplaceSaid : Prop := fnExactReplaceRow.holds Try.pinned (OpenSpec.ofChange fnExactReplaceSpec)

/-- ITS FALSE NEIGHBOUR: 'it returns false'. Refute it at one input. -/
def fnExactReplaceWrong : ChangeSpec := { name := "fnExactReplace", fn := fun _ => fun
  | [d1, d2, d3, d4] => { results := [.lit (.bool false)], args := [d1, d2, d3, d4] }
  | _ => none }
def FnExactReplaceWrongFalsely : Prop := fnExactReplaceRow.holds Try.pinned (OpenSpec.ofChange fnExactReplaceWrong)

/-- 'laws.FnRexLaws': WHATEVER THE INPUT: true; the input reads as it did. -/
def fnRexLawsSpec : ChangeSpec := { name := "fnRexLaws", fn := fun _ => fun
  | [d] => { results := [.lit (.bool true)], args := [d] }
  | _ => none }
def fnRexLawsRow : OpenClaim := { program := "ytdfcgnbklnceiaa", sum := "3115b00629ee0f3c34a2fb509aac8bda4dce1e6974adfe7cc403a68543927291", func := "loop.example/g00288/laws.FnRexLaws", spec := "fnRexLaws", inPlace := ["internal/bytealg.IndexByteString"], unfollowed := true, recurses := true, apart := false }
def FnRexLawsSaid : Prop := fnRexLawsRow.holds Try.pinned (OpenSpec.ofChange fnRexLawsSpec)

/-- ITS FALSE NEIGHBOUR: 'it returns false'. Refute it at one input. -/
def fnRexLawsWrong : ChangeSpec := { name := "fnRexLaws", fn := fun _ => fun
  | [d] => { results := [.lit (.bool false)], args := [d] }
  | _ => none }
def FnRexLawsWrongFalsely : Prop := fnRexLawsRow.holds Try.pinned (OpenSpec.ofChange fnRexLawsWrong)

/-- 'laws.FnEnds': WHATEVER THE INPUT: true; the input reads as it did. -/
def fnEndsSpec : ChangeSpec := { name := "fnEnds", fn := fun _ => fun
  | [d] => { results := [.lit (.bool true)], args := [d] }
  | _ => none }
def fnEndsRow : OpenClaim := { program := "ytdfcgnbklnceiaa", sum := "3115b00629ee0f3c34a2fb509aac8bda4dce1e6974adfe7cc403a68543927291", func := "loop.example/g00288/laws.FnEnds", spec := "fnEnds", inPlace := ["internal/bytealg.IndexByteString"], unfollowed := true, recurses := true, apart := false }
def FnEndsSaid : Prop := fnEndsRow.holds Try.pinned (OpenSpec.ofChange fnEndsSpec)

/-- ITS FALSE NEIGHBOUR: 'it returns false'. Refute it at one input. -/
def fnEndsWrong : ChangeSpec := { name := "fnEnds", fn := fun _ => fun
  | [d] => { results := [.lit (.bool false)], args := [d] }
  | _ => none }
def FnEndsWrongFalsely : Prop := fnEndsRow.holds Try.pinned (OpenSpec.ofChange fnEndsWrong)

/-- 'laws.FnLongest': WHATEVER THE INPUT: true; the input reads as it did. -/
def fnLongestSpec : ChangeSpec := { name := "fnLongest", fn := fun _ => fun
  | [d] => { results := [.lit (.bool true)], args := [d] }
  | _ => none }
def fnLongestRow : OpenClaim := { program := "ytdfcgnbklnceiaa", sum := "3115b00629ee0f3c34a2fb509aac8bda4dce1e6974adfe7cc403a68543927291", func := "loop.example/g00288/laws.FnLongest", spec := "fnLongest", inPlace := ["internal/bytealg.IndexByteString"], unfollowed := true, recurses := true, apart := false }
def FnLongestSaid : Prop := fnLongestRow.holds Try.pinned (OpenSpec.ofChange fnLongestSpec)

/-- ITS FALSE NEIGHBOUR: 'it returns false'. Refute it at one input. -/
def fnLongestWrong : ChangeSpec := { name := "fnLongest", fn := fun _ => fun
  | [d] => { results := [.lit (.bool false)], args := [d] }
  | _ => none }
def FnLongestWrongFalsely : Prop := fnLongestRow.holds Try.pinned (OpenSpec.ofChange fnLongestWrong)

/-- 'laws.FnReplaced': WHATEVER THE INPUT: true; the input reads as it did. -/
def fnReplacedSpec : ChangeSpec := { name := "fnReplaced", fn := fun _ => fun
  | [d] => { results := [.lit (.bool true)], args := [d] }
  | _ => none }
def fnReplacedRow : OpenClaim := { program := "ytdfcgnbklnceiaa", sum := "3115b00629ee0f3c34a2fb509aac8bda4dce1e6974adfe7cc403a68543927291", func := "loop.example/g00288/laws.FnReplaced", spec := "fnReplaced", inPlace := ["internal/bytealg.IndexByteString"], unfollowed := true, recurses := true, apart := false }
def FnReplacedSaid : Prop := fnReplacedRow.holds Try.pinned (OpenSpec.ofChange fnReplacedSpec)

/-- ITS FALSE NEIGHBOUR: 'it returns false'. Refute it at one input. -/
def fnReplacedWrong : ChangeSpec := { name := "fnReplaced", fn := fun _ => fun
  | [d] => { results := [.lit (.bool false)], args := [d] }
  | _ => none }
def FnReplacedWrongFalsely : Prop := fnReplacedRow.holds Try.pinned (OpenSpec.ofChange fnReplacedWrong)

/-- 'laws.FnExactParseRex': WHATEVER THE INPUT: true; the input reads as it did. -/
def fnExactParseRexSpec : ChangeSpec := { name := "fnExactParseRex", fn := fun _ => fun
  | [d] => { results := [.lit (.bool true)], args := [d] }
  | _ => none }
def fnExactParseRexRow : OpenClaim := { program := "ytdfcgnbklnceiaa", sum := "3115b00629ee0f3c34a2fb509aac8bda4dce1e6974adfe7cc403a68543927291", func := "loop.example/g00288/laws.FnExactParseRex", spec := "fnExactParseRex", inPlace := ["internal/bytealg.IndexByteString", "internal/abi.NoEscape", "internal/bytealg.MakeNoZero"], unfollowed := true, recurses := true, apart := false }
def FnExactParseRexSaid : Prop := fnExactParseRexRow.holds Try.pinned (OpenSpec.ofChange fnExactParseRexSpec)

/-- ITS FALSE NEIGHBOUR: 'it returns false'. Refute it at one input. -/
def fnExactParseRexWrong : ChangeSpec := { name := "fnExactParseRex", fn := fun _ => fun
  | [d] => { results := [.lit (.bool false)], args := [d] }
  | _ => none }
def FnExactParseRexWrongFalsely : Prop := fnExactParseRexRow.holds Try.pinned (OpenSpec.ofChange fnExactParseRexWrong)

/-- 'laws.FnRexes': WHATEVER THE INPUT: true; the input reads as it did. -/
def fnRexesSpec : ChangeSpec := { name := "fnRexes", fn := fun _ => fun
  | [d] => { results := [.lit (.bool true)], args := [d] }
  | _ => none }
def fnRexesRow : OpenClaim := { program := "ytdfcgnbklnceiaa", sum := "3115b00629ee0f3c34a2fb509aac8bda4dce1e6974adfe7cc403a68543927291", func := "loop.example/g00288/laws.FnRexes", spec := "fnRexes", inPlace := ["internal/bytealg.IndexByteString", "internal/abi.NoEscape", "internal/bytealg.MakeNoZero"], unfollowed := true, recurses := true, apart := false }
def FnRexesSaid : Prop := fnRexesRow.holds Try.pinned (OpenSpec.ofChange fnRexesSpec)

/-- ITS FALSE NEIGHBOUR: 'it returns false'. Refute it at one input. -/
def fnRexesWrong : ChangeSpec := { name := "fnRexes", fn := fun _ => fun
  | [d] => { results := [.lit (.bool false)], args := [d] }
  | _ => none }
def FnRexesWrongFalsely : Prop := fnRexesRow.holds Try.pinned (OpenSpec.ofChange fnRexesWrong)

/-- 'laws.FnRexesRead': WHATEVER THE INPUT: true; the input reads as it did. -/
def fnRexesReadSpec : ChangeSpec := { name := "fnRexesRead", fn := fun _ => fun
  | [d] => { results := [.lit (.bool true)], args := [d] }
  | _ => none }
def fnRexesReadRow : OpenClaim := { program := "ytdfcgnbklnceiaa", sum := "3115b00629ee0f3c34a2fb509aac8bda4dce1e6974adfe7cc403a68543927291", func := "loop.example/g00288/laws.FnRexesRead", spec := "fnRexesRead", inPlace := ["internal/bytealg.IndexByteString", "internal/abi.NoEscape", "internal/bytealg.MakeNoZero"], unfollowed := true, recurses := true, apart := false }
def FnRexesReadSaid : Prop := fnRexesReadRow.holds Try.pinned (OpenSpec.ofChange fnRexesReadSpec)

/-- ITS FALSE NEIGHBOUR: 'it returns false'. Refute it at one input. -/
def fnRexesReadWrong : ChangeSpec := { name := "fnRexesRead", fn := fun _ => fun
  | [d] => { results := [.lit (.bool false)], args := [d] }
  | _ => none }
def FnRexesReadWrongFalsely : Prop := fnRexesReadRow.holds Try.pinned (OpenSpec.ofChange fnRexesReadWrong)

/- THE SECOND FORM. 'bulk': how many values and letters a reading holds, each counted each time it is reached (what is shared counts as often as it is met; a slice's spare places count too). A statement '..UptoSaid' is the law's where the arguments, and the package variables that the reading takes, are together of bulk at most 1048576: NARROWER than '..Said'. Prove '..Said' where nothing that the law and all that it calls make is longer than what came in: it says more and counts as full. Else prove '..UptoSaid'. A law counts once. -/
mutual
def uptoBulk {H : Type} : DataW H → Nat
  | .lit (.string bytes) => bytes.length + 1
  | .lit _ => 1
  | .nil => 1
  | .ptr d => uptoBulk d + 1
  | .slice elems spare => uptoBulkAll elems + uptoBulkAll spare + 1
  | .agg parts => uptoBulkAll parts + 1
  | .iface _ d => uptoBulk d + 1
  | .map entries => uptoBulkEntries entries + 1
  | .held _ => 1
def uptoBulkAll {H : Type} : List (DataW H) → Nat
  | [] => 0
  | d :: r => uptoBulk d + uptoBulkAll r
def uptoBulkEntries {H : Type} : List (Lit × DataW H) → Nat
  | [] => 0
  | x :: r => uptoBulkEntry x + uptoBulkEntries r
def uptoBulkEntry {H : Type} : Lit × DataW H → Nat
  | (.string bytes, d) => bytes.length + uptoBulk d + 1
  | (_, d) => uptoBulk d + 1
 end
def uptoSmall : (H : Type) → List (DataW H) → Bool := fun _ ds => decide (uptoBulkAll ds ≤ 1048576)
def OpenSpec.upto (s : _root_.Go.ChangeSpec) : _root_.Go.OpenSpec := { _root_.Go.OpenSpec.ofChange s with cond := some uptoSmall }

/-- 'laws.FnExactReplace', WHERE WHAT IT READS IS OF BULK AT MOST 1048576: true; the input reads as it did. -/
def fnExactReplaceUptoRow : OpenClaim := { program := "ytdfcgnbklnceiaa", sum := "3115b00629ee0f3c34a2fb509aac8bda4dce1e6974adfe7cc403a68543927291", func := "loop.example/g00288/laws.FnExactReplace", spec := "fnExactReplace", inPlace := ["internal/bytealg.IndexByteString"], unfollowed := true, recurses := true, loops := true, apart := false, narrowed := true }
def FnExactReplaceUptoSaid : Prop := fnExactReplaceUptoRow.holds Try.pinned (OpenSpec.upto fnExactReplaceSpec)

/-- 'laws.FnRexLaws', WHERE WHAT IT READS IS OF BULK AT MOST 1048576: true; the input reads as it did. -/
def fnRexLawsUptoRow : OpenClaim := { program := "ytdfcgnbklnceiaa", sum := "3115b00629ee0f3c34a2fb509aac8bda4dce1e6974adfe7cc403a68543927291", func := "loop.example/g00288/laws.FnRexLaws", spec := "fnRexLaws", inPlace := ["internal/bytealg.IndexByteString"], unfollowed := true, recurses := true, apart := false, narrowed := true }
def FnRexLawsUptoSaid : Prop := fnRexLawsUptoRow.holds Try.pinned (OpenSpec.upto fnRexLawsSpec)

/-- 'laws.FnEnds', WHERE WHAT IT READS IS OF BULK AT MOST 1048576: true; the input reads as it did. -/
def fnEndsUptoRow : OpenClaim := { program := "ytdfcgnbklnceiaa", sum := "3115b00629ee0f3c34a2fb509aac8bda4dce1e6974adfe7cc403a68543927291", func := "loop.example/g00288/laws.FnEnds", spec := "fnEnds", inPlace := ["internal/bytealg.IndexByteString"], unfollowed := true, recurses := true, apart := false, narrowed := true }
def FnEndsUptoSaid : Prop := fnEndsUptoRow.holds Try.pinned (OpenSpec.upto fnEndsSpec)

/-- 'laws.FnLongest', WHERE WHAT IT READS IS OF BULK AT MOST 1048576: true; the input reads as it did. -/
def fnLongestUptoRow : OpenClaim := { program := "ytdfcgnbklnceiaa", sum := "3115b00629ee0f3c34a2fb509aac8bda4dce1e6974adfe7cc403a68543927291", func := "loop.example/g00288/laws.FnLongest", spec := "fnLongest", inPlace := ["internal/bytealg.IndexByteString"], unfollowed := true, recurses := true, apart := false, narrowed := true }
def FnLongestUptoSaid : Prop := fnLongestUptoRow.holds Try.pinned (OpenSpec.upto fnLongestSpec)

/-- 'laws.FnReplaced', WHERE WHAT IT READS IS OF BULK AT MOST 1048576: true; the input reads as it did. -/
def fnReplacedUptoRow : OpenClaim := { program := "ytdfcgnbklnceiaa", sum := "3115b00629ee0f3c34a2fb509aac8bda4dce1e6974adfe7cc403a68543927291", func := "loop.example/g00288/laws.FnReplaced", spec := "fnReplaced", inPlace := ["internal/bytealg.IndexByteString"], unfollowed := true, recurses := true, apart := false, narrowed := true }
def FnReplacedUptoSaid : Prop := fnReplacedUptoRow.holds Try.pinned (OpenSpec.upto fnReplacedSpec)

/-- 'laws.FnExactParseRex', WHERE WHAT IT READS IS OF BULK AT MOST 1048576: true; the input reads as it did. -/
def fnExactParseRexUptoRow : OpenClaim := { program := "ytdfcgnbklnceiaa", sum := "3115b00629ee0f3c34a2fb509aac8bda4dce1e6974adfe7cc403a68543927291", func := "loop.example/g00288/laws.FnExactParseRex", spec := "fnExactParseRex", inPlace := ["internal/bytealg.IndexByteString", "internal/abi.NoEscape", "internal/bytealg.MakeNoZero"], unfollowed := true, recurses := true, apart := false, narrowed := true }
def FnExactParseRexUptoSaid : Prop := fnExactParseRexUptoRow.holds Try.pinned (OpenSpec.upto fnExactParseRexSpec)

/-- 'laws.FnRexes', WHERE WHAT IT READS IS OF BULK AT MOST 1048576: true; the input reads as it did. -/
def fnRexesUptoRow : OpenClaim := { program := "ytdfcgnbklnceiaa", sum := "3115b00629ee0f3c34a2fb509aac8bda4dce1e6974adfe7cc403a68543927291", func := "loop.example/g00288/laws.FnRexes", spec := "fnRexes", inPlace := ["internal/bytealg.IndexByteString", "internal/abi.NoEscape", "internal/bytealg.MakeNoZero"], unfollowed := true, recurses := true, apart := false, narrowed := true }
def FnRexesUptoSaid : Prop := fnRexesUptoRow.holds Try.pinned (OpenSpec.upto fnRexesSpec)

/-- 'laws.FnRexesRead', WHERE WHAT IT READS IS OF BULK AT MOST 1048576: true; the input reads as it did. -/
def fnRexesReadUptoRow : OpenClaim := { program := "ytdfcgnbklnceiaa", sum := "3115b00629ee0f3c34a2fb509aac8bda4dce1e6974adfe7cc403a68543927291", func := "loop.example/g00288/laws.FnRexesRead", spec := "fnRexesRead", inPlace := ["internal/bytealg.IndexByteString", "internal/abi.NoEscape", "internal/bytealg.MakeNoZero"], unfollowed := true, recurses := true, apart := false, narrowed := true }
def FnRexesReadUptoSaid : Prop := fnRexesReadUptoRow.holds Try.pinned (OpenSpec.upto fnRexesReadSpec)

end Rows
end Go.Proofs.Ytdfcgnbklnceiaa
