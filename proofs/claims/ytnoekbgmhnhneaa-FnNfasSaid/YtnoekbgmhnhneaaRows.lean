/-
  NARROWER THAN 'FOR EVERY INPUT', by the rows' own cells (each row's printed sentence says how): FnExactNfaOf: loops.
  DERIVED. THE GIVEN ROWS OF THIS SEAT. 6 by the template 'for every input the law returns true; each argument reads behind the call as it read before'; 0 by the template 'total and deterministic' (their statements: YtnoekbgmhnhneaaTotals.lean).
  GIVEN WITH THE SEED: the statements are not yours to turn. If you find one false, say at which input.
  Laid BY PROGRAM, IN A SANDBOX (cutbox-rows.mjs): the forced cells as the released guide's own fill.sh prints them over the translation 4dd6d4cb91a0a9fc… (all of the seat's roots in one cut). By AI agents, Wed Nov 11 2026. No macro, syntax, notation, axiom, sorry.
-/
import Derived.Test.YtnoekbgmhnhneaaChecked
import GoSem.Claim
import GoSem.ClaimJoined
import GoSem.ClaimMapViews
import Derived.JoinedTies
import Derived.KernelRfl
namespace Go.Proofs.Ytnoekbgmhnhneaa
/- THE CELL 'sum', in the pinned program and in every row, IS THE sha256 OF THE DUMP (.gsa) THAT YtnoekbgmhnhneaaProg.lean LOADS. Nothing in Lean hashes anything: it is a label: what it is worth is what the hold of that sum in a sandbox is worth. -/
noncomputable def Try.pinned : Pinned := { name := "ytnoekbgmhnhneaa", sum := "4dd6d4cb91a0a9fc2c3254fadd1feca2960f8f8708b6fb1de76cd2c5ca65d2ac", checked := Try.checked }
namespace Rows
def none {H : Type} : Left H := { results := [], args := [] }

/-- 'laws.FnExactSpread': WHATEVER THE INPUT: true; the input reads as it did. -/
def fnExactSpreadSpec : ChangeSpec := { name := "fnExactSpread", fn := fun _ => fun
  | [d1, d2, d3, d4] => { results := [.lit (.bool true)], args := [d1, d2, d3, d4] }
  | _ => none }
def fnExactSpreadRow : OpenClaim := { program := "ytnoekbgmhnhneaa", sum := "4dd6d4cb91a0a9fc2c3254fadd1feca2960f8f8708b6fb1de76cd2c5ca65d2ac", func := "loop.example/g00288/laws.FnExactSpread", spec := "fnExactSpread", unfollowed := true, recurses := true, apart := false }
def FnExactSpreadSaid : Prop := fnExactSpreadRow.holds Try.pinned (OpenSpec.ofChange fnExactSpreadSpec)

/-- ITS FALSE NEIGHBOUR: 'it returns false'. Refute it at one input. -/
def fnExactSpreadWrong : ChangeSpec := { name := "fnExactSpread", fn := fun _ => fun
  | [d1, d2, d3, d4] => { results := [.lit (.bool false)], args := [d1, d2, d3, d4] }
  | _ => none }
def FnExactSpreadWrongFalsely : Prop := fnExactSpreadRow.holds Try.pinned (OpenSpec.ofChange fnExactSpreadWrong)

/-- 'laws.FnExactNfaOf': WHATEVER THE INPUT: true; the input reads as it did. -/
def fnExactNfaOfSpec : ChangeSpec := { name := "fnExactNfaOf", fn := fun _ => fun
  | [d] => { results := [.lit (.bool true)], args := [d] }
  | _ => none }
def fnExactNfaOfRow : OpenClaim := { program := "ytnoekbgmhnhneaa", sum := "4dd6d4cb91a0a9fc2c3254fadd1feca2960f8f8708b6fb1de76cd2c5ca65d2ac", func := "loop.example/g00288/laws.FnExactNfaOf", spec := "fnExactNfaOf", inPlace := ["internal/bytealg.IndexByteString"], unfollowed := true, recurses := true, loops := true, apart := false }
def FnExactNfaOfSaid : Prop := fnExactNfaOfRow.holds Try.pinned (OpenSpec.ofChange fnExactNfaOfSpec)

/-- ITS FALSE NEIGHBOUR: 'it returns false'. Refute it at one input. -/
def fnExactNfaOfWrong : ChangeSpec := { name := "fnExactNfaOf", fn := fun _ => fun
  | [d] => { results := [.lit (.bool false)], args := [d] }
  | _ => none }
def FnExactNfaOfWrongFalsely : Prop := fnExactNfaOfRow.holds Try.pinned (OpenSpec.ofChange fnExactNfaOfWrong)

/-- 'laws.FnExactOnward': WHATEVER THE INPUT: true; the input reads as it did. -/
def fnExactOnwardSpec : ChangeSpec := { name := "fnExactOnward", fn := fun _ => fun
  | [d1, d2, d3] => { results := [.lit (.bool true)], args := [d1, d2, d3] }
  | _ => none }
def fnExactOnwardRow : OpenClaim := { program := "ytnoekbgmhnhneaa", sum := "4dd6d4cb91a0a9fc2c3254fadd1feca2960f8f8708b6fb1de76cd2c5ca65d2ac", func := "loop.example/g00288/laws.FnExactOnward", spec := "fnExactOnward", inPlace := ["internal/bytealg.IndexByteString"], recurses := true, apart := false }
def FnExactOnwardSaid : Prop := fnExactOnwardRow.holds Try.pinned (OpenSpec.ofChange fnExactOnwardSpec)

/-- ITS FALSE NEIGHBOUR: 'it returns false'. Refute it at one input. -/
def fnExactOnwardWrong : ChangeSpec := { name := "fnExactOnward", fn := fun _ => fun
  | [d1, d2, d3] => { results := [.lit (.bool false)], args := [d1, d2, d3] }
  | _ => none }
def FnExactOnwardWrongFalsely : Prop := fnExactOnwardRow.holds Try.pinned (OpenSpec.ofChange fnExactOnwardWrong)

/-- 'laws.FnExactNfaMatches': WHATEVER THE INPUT: true; the input reads as it did. -/
def fnExactNfaMatchesSpec : ChangeSpec := { name := "fnExactNfaMatches", fn := fun _ => fun
  | [d1, d2] => { results := [.lit (.bool true)], args := [d1, d2] }
  | _ => none }
def fnExactNfaMatchesRow : OpenClaim := { program := "ytnoekbgmhnhneaa", sum := "4dd6d4cb91a0a9fc2c3254fadd1feca2960f8f8708b6fb1de76cd2c5ca65d2ac", func := "loop.example/g00288/laws.FnExactNfaMatches", spec := "fnExactNfaMatches", inPlace := ["internal/bytealg.IndexByteString"], unfollowed := true, recurses := true, apart := false }
def FnExactNfaMatchesSaid : Prop := fnExactNfaMatchesRow.holds Try.pinned (OpenSpec.ofChange fnExactNfaMatchesSpec)

/-- ITS FALSE NEIGHBOUR: 'it returns false'. Refute it at one input. -/
def fnExactNfaMatchesWrong : ChangeSpec := { name := "fnExactNfaMatches", fn := fun _ => fun
  | [d1, d2] => { results := [.lit (.bool false)], args := [d1, d2] }
  | _ => none }
def FnExactNfaMatchesWrongFalsely : Prop := fnExactNfaMatchesRow.holds Try.pinned (OpenSpec.ofChange fnExactNfaMatchesWrong)

/-- 'laws.FnSpread': WHATEVER THE INPUT: true; the input reads as it did. -/
def fnSpreadSpec : ChangeSpec := { name := "fnSpread", fn := fun _ => fun
  | [d] => { results := [.lit (.bool true)], args := [d] }
  | _ => none }
def fnSpreadRow : OpenClaim := { program := "ytnoekbgmhnhneaa", sum := "4dd6d4cb91a0a9fc2c3254fadd1feca2960f8f8708b6fb1de76cd2c5ca65d2ac", func := "loop.example/g00288/laws.FnSpread", spec := "fnSpread", inPlace := ["internal/bytealg.IndexByteString"], unfollowed := true, recurses := true, apart := false }
def FnSpreadSaid : Prop := fnSpreadRow.holds Try.pinned (OpenSpec.ofChange fnSpreadSpec)

/-- ITS FALSE NEIGHBOUR: 'it returns false'. Refute it at one input. -/
def fnSpreadWrong : ChangeSpec := { name := "fnSpread", fn := fun _ => fun
  | [d] => { results := [.lit (.bool false)], args := [d] }
  | _ => none }
def FnSpreadWrongFalsely : Prop := fnSpreadRow.holds Try.pinned (OpenSpec.ofChange fnSpreadWrong)

/-- 'laws.FnNfas': WHATEVER THE INPUT: true; the input reads as it did. -/
def fnNfasSpec : ChangeSpec := { name := "fnNfas", fn := fun _ => fun
  | [d] => { results := [.lit (.bool true)], args := [d] }
  | _ => none }
def fnNfasRow : OpenClaim := { program := "ytnoekbgmhnhneaa", sum := "4dd6d4cb91a0a9fc2c3254fadd1feca2960f8f8708b6fb1de76cd2c5ca65d2ac", func := "loop.example/g00288/laws.FnNfas", spec := "fnNfas", inPlace := ["internal/bytealg.IndexByteString"], unfollowed := true, recurses := true, apart := false }
def FnNfasSaid : Prop := fnNfasRow.holds Try.pinned (OpenSpec.ofChange fnNfasSpec)

/-- ITS FALSE NEIGHBOUR: 'it returns false'. Refute it at one input. -/
def fnNfasWrong : ChangeSpec := { name := "fnNfas", fn := fun _ => fun
  | [d] => { results := [.lit (.bool false)], args := [d] }
  | _ => none }
def FnNfasWrongFalsely : Prop := fnNfasRow.holds Try.pinned (OpenSpec.ofChange fnNfasWrong)

/- THE SECOND FORM. 'bulk': how many values and letters a reading holds, each counted each time it is reached (what is shared counts as often as it is met; a slice's spare places count too). A statement '..UptoSaid' is the law's where the arguments, and the package variables that the reading takes, are together of bulk at most 1048576: NARROWER than '..Said'. Prove '..Said' where nothing that the law and all that it calls make is longer than what came in: it says more and counts as full. Else prove '..UptoSaid'. A law counts once. -/
mutual
def uptoBulk {H : Type} : DataW H → Nat
  | .lit (.string bytes) => bytes.length + 1
  | .lit _ => 1
  | .nil => 1
  | .ptr d => uptoBulk d + 1
  | .slice elems spare => uptoBulkAll elems + uptoBulkAll spare + 1
  | .agg parts => uptoBulkAll parts + 1
  | .iface _ d => uptoBulk d + 1
  | .map entries => uptoBulkEntries entries + 1
  | .held _ => 1
def uptoBulkAll {H : Type} : List (DataW H) → Nat
  | [] => 0
  | d :: r => uptoBulk d + uptoBulkAll r
def uptoBulkEntries {H : Type} : List (Lit × DataW H) → Nat
  | [] => 0
  | x :: r => uptoBulkEntry x + uptoBulkEntries r
def uptoBulkEntry {H : Type} : Lit × DataW H → Nat
  | (.string bytes, d) => bytes.length + uptoBulk d + 1
  | (_, d) => uptoBulk d + 1
 end
def uptoSmall : (H : Type) → List (DataW H) → Bool := fun _ ds => decide (uptoBulkAll ds ≤ 1048576)
def OpenSpec.upto (s : _root_.Go.ChangeSpec) : _root_.Go.OpenSpec := { _root_.Go.OpenSpec.ofChange s with cond := some uptoSmall }

/-- 'laws.FnExactSpread', WHERE WHAT IT READS IS OF BULK AT MOST 1048576: true; the input reads as it did. -/
def fnExactSpreadUptoRow : OpenClaim := { program := "ytnoekbgmhnhneaa", sum := "4dd6d4cb91a0a9fc2c3254fadd1feca2960f8f8708b6fb1de76cd2c5ca65d2ac", func := "loop.example/g00288/laws.FnExactSpread", spec := "fnExactSpread", unfollowed := true, recurses := true, apart := false, narrowed := true }
def FnExactSpreadUptoSaid : Prop := fnExactSpreadUptoRow.holds Try.pinned (OpenSpec.upto fnExactSpreadSpec)

/-- 'laws.FnExactNfaOf', WHERE WHAT IT READS IS OF BULK AT MOST 1048576: true; the input reads as it did. -/
def fnExactNfaOfUptoRow : OpenClaim := { program := "ytnoekbgmhnhneaa", sum := "4dd6d4cb91a0a9fc2c3254fadd1feca2960f8f8708b6fb1de76cd2c5ca65d2ac", func := "loop.example/g00288/laws.FnExactNfaOf", spec := "fnExactNfaOf", inPlace := ["internal/bytealg.IndexByteString"], unfollowed := true, recurses := true, loops := true, apart := false, narrowed := true }
def FnExactNfaOfUptoSaid : Prop := fnExactNfaOfUptoRow.holds Try.pinned (OpenSpec.upto fnExactNfaOfSpec)

/-- 'laws.FnExactOnward', WHERE WHAT IT READS IS OF BULK AT MOST 1048576: true; the input reads as it did. -/
def fnExactOnwardUptoRow : OpenClaim := { program := "ytnoekbgmhnhneaa", sum := "4dd6d4cb91a0a9fc2c3254fadd1feca2960f8f8708b6fb1de76cd2c5ca65d2ac", func := "loop.example/g00288/laws.FnExactOnward", spec := "fnExactOnward", inPlace := ["internal/bytealg.IndexByteString"], recurses := true, apart := false, narrowed := true }
def FnExactOnwardUptoSaid : Prop := fnExactOnwardUptoRow.holds Try.pinned (OpenSpec.upto fnExactOnwardSpec)

/-- 'laws.FnExactNfaMatches', WHERE WHAT IT READS IS OF BULK AT MOST 1048576: true; the input reads as it did. -/
def fnExactNfaMatchesUptoRow : OpenClaim := { program := "ytnoekbgmhnhneaa", sum := "4dd6d4cb91a0a9fc2c3254fadd1feca2960f8f8708b6fb1de76cd2c5ca65d2ac", func := "loop.example/g00288/laws.FnExactNfaMatches", spec := "fnExactNfaMatches", inPlace := ["internal/bytealg.IndexByteString"], unfollowed := true, recurses := true, apart := false, narrowed := true }
def FnExactNfaMatchesUptoSaid : Prop := fnExactNfaMatchesUptoRow.holds Try.pinned (OpenSpec.upto fnExactNfaMatchesSpec)

/-- 'laws.FnSpread', WHERE WHAT IT READS IS OF BULK AT MOST 1048576: true; the input reads as it did. -/
def fnSpreadUptoRow : OpenClaim := { program := "ytnoekbgmhnhneaa", sum := "4dd6d4cb91a0a9fc2c3254fadd1feca2960f8f8708b6fb1de76cd2c5ca65d2ac", func := "loop.example/g00288/laws.FnSpread", spec := "fnSpread", inPlace := ["internal/bytealg.IndexByteString"], unfollowed := true, recurses := true, apart := false, narrowed := true }
def FnSpreadUptoSaid : Prop := fnSpreadUptoRow.holds Try.pinned (OpenSpec.upto fnSpreadSpec)

/-- 'laws.FnNfas', WHERE WHAT IT READS IS OF BULK AT MOST 1048576: true; the input reads as it did. -/
def fnNfasUptoRow : OpenClaim := { program := "ytnoekbgmhnhneaa", sum := "4dd6d4cb91a0a9fc2c3254fadd1feca2960f8f8708b6fb1de76cd2c5ca65d2ac", func := "loop.example/g00288/laws.FnNfas", spec := "fnNfas", inPlace := ["internal/bytealg.IndexByteString"], unfollowed := true, recurses := true, apart := false, narrowed := true }
def FnNfasUptoSaid : Prop := fnNfasUptoRow.holds Try.pinned (OpenSpec.upto fnNfasSpec)

end Rows
end Go.Proofs.Ytnoekbgmhnhneaa
