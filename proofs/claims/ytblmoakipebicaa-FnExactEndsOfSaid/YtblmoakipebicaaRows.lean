/-
  NARROWER THAN 'FOR EVERY INPUT', by the rows' own cells (each row's printed sentence says how): FnExactSameExpr: loops · FnExactSameStmt: loops · FnExactRexOk: loops · FnExactRexText: loops · FnExactNfaOf: loops · FnExactEndsOf: loops · FnExactLongest: loops · FnExactMatches: loops.
  DERIVED. THE GIVEN ROWS OF THIS SEAT. 12 by the template 'for every input the law returns true; each argument reads behind the call as it read before'; 0 by the template 'total and deterministic' (their statements: YtblmoakipebicaaTotals.lean).
  GIVEN WITH THE SEED: the statements are not yours to turn. If you find one false, say at which input.
  Laid BY PROGRAM, IN A SANDBOX (cutbox-rows.mjs): the forced cells as the released guide's own fill.sh prints them over the translation 893e6c112ee5e8e2… (all of the seat's roots in one cut). By AI agents, Wed Nov 11 2026. No macro, syntax, notation, axiom, sorry.
-/
import Derived.Test.YtblmoakipebicaaChecked
import GoSem.Claim
import GoSem.ClaimJoined
import GoSem.ClaimMapViews
import Derived.JoinedTies
import Derived.KernelRfl
namespace Go.Proofs.Ytblmoakipebicaa
/- THE CELL 'sum', in the pinned program and in every row, IS THE sha256 OF THE DUMP (.gsa) THAT YtblmoakipebicaaProg.lean LOADS. Nothing in Lean hashes anything: it is a label: what it is worth is what the hold of that sum in a sandbox is worth. -/
noncomputable def Try.pinned : Pinned := { name := "ytblmoakipebicaa", sum := "893e6c112ee5e8e29c696918e41ea7d1f6b5d72da83ea7d96947da32e7abd843", checked := Try.checked }
namespace Rows
def none {H : Type} : Left H := { results := [], args := [] }

/-- 'laws.FnExactSameExpr': WHATEVER THE INPUT: true; the input reads as it did. -/
def fnExactSameExprSpec : ChangeSpec := { name := "fnExactSameExpr", fn := fun _ => fun
  | [d1, d2] => { results := [.lit (.bool true)], args := [d1, d2] }
  | _ => none }
def fnExactSameExprRow : OpenClaim := { program := "ytblmoakipebicaa", sum := "893e6c112ee5e8e29c696918e41ea7d1f6b5d72da83ea7d96947da32e7abd843", func := "loop.example/g00288/laws.FnExactSameExpr", spec := "fnExactSameExpr", unfollowed := true, recurses := true, loops := true, apart := false }
def FnExactSameExprSaid : Prop := fnExactSameExprRow.holds Try.pinned (OpenSpec.ofChange fnExactSameExprSpec)

/-- ITS FALSE NEIGHBOUR: 'it returns false'. Refute it at one input. -/
def fnExactSameExprWrong : ChangeSpec := { name := "fnExactSameExpr", fn := fun _ => fun
  | [d1, d2] => { results := [.lit (.bool false)], args := [d1, d2] }
  | _ => none }
def FnExactSameExprWrongFalsely : Prop := fnExactSameExprRow.holds Try.pinned (OpenSpec.ofChange fnExactSameExprWrong)

/-- 'laws.FnExactSameStmt': WHATEVER THE INPUT: true; the input reads as it did. -/
def fnExactSameStmtSpec : ChangeSpec := { name := "fnExactSameStmt", fn := fun _ => fun
  | [d1, d2] => { results := [.lit (.bool true)], args := [d1, d2] }
  | _ => none }
def fnExactSameStmtRow : OpenClaim := { program := "ytblmoakipebicaa", sum := "893e6c112ee5e8e29c696918e41ea7d1f6b5d72da83ea7d96947da32e7abd843", func := "loop.example/g00288/laws.FnExactSameStmt", spec := "fnExactSameStmt", unfollowed := true, recurses := true, loops := true, apart := false }
def FnExactSameStmtSaid : Prop := fnExactSameStmtRow.holds Try.pinned (OpenSpec.ofChange fnExactSameStmtSpec)

/-- ITS FALSE NEIGHBOUR: 'it returns false'. Refute it at one input. -/
def fnExactSameStmtWrong : ChangeSpec := { name := "fnExactSameStmt", fn := fun _ => fun
  | [d1, d2] => { results := [.lit (.bool false)], args := [d1, d2] }
  | _ => none }
def FnExactSameStmtWrongFalsely : Prop := fnExactSameStmtRow.holds Try.pinned (OpenSpec.ofChange fnExactSameStmtWrong)

/-- 'laws.FnSameTrees': WHATEVER THE INPUT: true; the input reads as it did. -/
def fnSameTreesSpec : ChangeSpec := { name := "fnSameTrees", fn := fun _ => fun
  | [d] => { results := [.lit (.bool true)], args := [d] }
  | _ => none }
def fnSameTreesRow : OpenClaim := { program := "ytblmoakipebicaa", sum := "893e6c112ee5e8e29c696918e41ea7d1f6b5d72da83ea7d96947da32e7abd843", func := "loop.example/g00288/laws.FnSameTrees", spec := "fnSameTrees", unfollowed := true, recurses := true, apart := false }
def FnSameTreesSaid : Prop := fnSameTreesRow.holds Try.pinned (OpenSpec.ofChange fnSameTreesSpec)

/-- ITS FALSE NEIGHBOUR: 'it returns false'. Refute it at one input. -/
def fnSameTreesWrong : ChangeSpec := { name := "fnSameTrees", fn := fun _ => fun
  | [d] => { results := [.lit (.bool false)], args := [d] }
  | _ => none }
def FnSameTreesWrongFalsely : Prop := fnSameTreesRow.holds Try.pinned (OpenSpec.ofChange fnSameTreesWrong)

/-- 'laws.FnExactRexOk': WHATEVER THE INPUT: true; the input reads as it did. -/
def fnExactRexOkSpec : ChangeSpec := { name := "fnExactRexOk", fn := fun _ => fun
  | [d] => { results := [.lit (.bool true)], args := [d] }
  | _ => none }
def fnExactRexOkRow : OpenClaim := { program := "ytblmoakipebicaa", sum := "893e6c112ee5e8e29c696918e41ea7d1f6b5d72da83ea7d96947da32e7abd843", func := "loop.example/g00288/laws.FnExactRexOk", spec := "fnExactRexOk", inPlace := ["internal/bytealg.IndexByteString"], unfollowed := true, recurses := true, loops := true, apart := false }
def FnExactRexOkSaid : Prop := fnExactRexOkRow.holds Try.pinned (OpenSpec.ofChange fnExactRexOkSpec)

/-- ITS FALSE NEIGHBOUR: 'it returns false'. Refute it at one input. -/
def fnExactRexOkWrong : ChangeSpec := { name := "fnExactRexOk", fn := fun _ => fun
  | [d] => { results := [.lit (.bool false)], args := [d] }
  | _ => none }
def FnExactRexOkWrongFalsely : Prop := fnExactRexOkRow.holds Try.pinned (OpenSpec.ofChange fnExactRexOkWrong)

/-- 'laws.FnExactRexText': WHATEVER THE INPUT: true; the input reads as it did. -/
def fnExactRexTextSpec : ChangeSpec := { name := "fnExactRexText", fn := fun _ => fun
  | [d] => { results := [.lit (.bool true)], args := [d] }
  | _ => none }
def fnExactRexTextRow : OpenClaim := { program := "ytblmoakipebicaa", sum := "893e6c112ee5e8e29c696918e41ea7d1f6b5d72da83ea7d96947da32e7abd843", func := "loop.example/g00288/laws.FnExactRexText", spec := "fnExactRexText", inPlace := ["internal/bytealg.IndexByteString", "internal/abi.NoEscape", "internal/bytealg.MakeNoZero"], unfollowed := true, recurses := true, loops := true, apart := false }
def FnExactRexTextSaid : Prop := fnExactRexTextRow.holds Try.pinned (OpenSpec.ofChange fnExactRexTextSpec)

/-- ITS FALSE NEIGHBOUR: 'it returns false'. Refute it at one input. -/
def fnExactRexTextWrong : ChangeSpec := { name := "fnExactRexText", fn := fun _ => fun
  | [d] => { results := [.lit (.bool false)], args := [d] }
  | _ => none }
def FnExactRexTextWrongFalsely : Prop := fnExactRexTextRow.holds Try.pinned (OpenSpec.ofChange fnExactRexTextWrong)

/-- 'laws.FnExactNfaOk': WHATEVER THE INPUT: true; the input reads as it did. -/
def fnExactNfaOkSpec : ChangeSpec := { name := "fnExactNfaOk", fn := fun _ => fun
  | [d] => { results := [.lit (.bool true)], args := [d] }
  | _ => none }
def fnExactNfaOkRow : OpenClaim := { program := "ytblmoakipebicaa", sum := "893e6c112ee5e8e29c696918e41ea7d1f6b5d72da83ea7d96947da32e7abd843", func := "loop.example/g00288/laws.FnExactNfaOk", spec := "fnExactNfaOk", apart := false }
def FnExactNfaOkSaid : Prop := fnExactNfaOkRow.holds Try.pinned (OpenSpec.ofChange fnExactNfaOkSpec)

/-- ITS FALSE NEIGHBOUR: 'it returns false'. Refute it at one input. -/
def fnExactNfaOkWrong : ChangeSpec := { name := "fnExactNfaOk", fn := fun _ => fun
  | [d] => { results := [.lit (.bool false)], args := [d] }
  | _ => none }
def FnExactNfaOkWrongFalsely : Prop := fnExactNfaOkRow.holds Try.pinned (OpenSpec.ofChange fnExactNfaOkWrong)

/-- 'laws.FnExactOnward': WHATEVER THE INPUT: true; the input reads as it did. -/
def fnExactOnwardSpec : ChangeSpec := { name := "fnExactOnward", fn := fun _ => fun
  | [d1, d2, d3] => { results := [.lit (.bool true)], args := [d1, d2, d3] }
  | _ => none }
def fnExactOnwardRow : OpenClaim := { program := "ytblmoakipebicaa", sum := "893e6c112ee5e8e29c696918e41ea7d1f6b5d72da83ea7d96947da32e7abd843", func := "loop.example/g00288/laws.FnExactOnward", spec := "fnExactOnward", inPlace := ["internal/bytealg.IndexByteString"], recurses := true, apart := false }
def FnExactOnwardSaid : Prop := fnExactOnwardRow.holds Try.pinned (OpenSpec.ofChange fnExactOnwardSpec)

/-- ITS FALSE NEIGHBOUR: 'it returns false'. Refute it at one input. -/
def fnExactOnwardWrong : ChangeSpec := { name := "fnExactOnward", fn := fun _ => fun
  | [d1, d2, d3] => { results := [.lit (.bool false)], args := [d1, d2, d3] }
  | _ => none }
def FnExactOnwardWrongFalsely : Prop := fnExactOnwardRow.holds Try.pinned (OpenSpec.ofChange fnExactOnwardWrong)

/-- 'laws.FnExactSpread': WHATEVER THE INPUT: true; the input reads as it did. -/
def fnExactSpreadSpec : ChangeSpec := { name := "fnExactSpread", fn := fun _ => fun
  | [d1, d2, d3, d4] => { results := [.lit (.bool true)], args := [d1, d2, d3, d4] }
  | _ => none }
def fnExactSpreadRow : OpenClaim := { program := "ytblmoakipebicaa", sum := "893e6c112ee5e8e29c696918e41ea7d1f6b5d72da83ea7d96947da32e7abd843", func := "loop.example/g00288/laws.FnExactSpread", spec := "fnExactSpread", unfollowed := true, recurses := true, apart := false }
def FnExactSpreadSaid : Prop := fnExactSpreadRow.holds Try.pinned (OpenSpec.ofChange fnExactSpreadSpec)

/-- ITS FALSE NEIGHBOUR: 'it returns false'. Refute it at one input. -/
def fnExactSpreadWrong : ChangeSpec := { name := "fnExactSpread", fn := fun _ => fun
  | [d1, d2, d3, d4] => { results := [.lit (.bool false)], args := [d1, d2, d3, d4] }
  | _ => none }
def FnExactSpreadWrongFalsely : Prop := fnExactSpreadRow.holds Try.pinned (OpenSpec.ofChange fnExactSpreadWrong)

/-- 'laws.FnExactNfaOf': WHATEVER THE INPUT: true; the input reads as it did. -/
def fnExactNfaOfSpec : ChangeSpec := { name := "fnExactNfaOf", fn := fun _ => fun
  | [d] => { results := [.lit (.bool true)], args := [d] }
  | _ => none }
def fnExactNfaOfRow : OpenClaim := { program := "ytblmoakipebicaa", sum := "893e6c112ee5e8e29c696918e41ea7d1f6b5d72da83ea7d96947da32e7abd843", func := "loop.example/g00288/laws.FnExactNfaOf", spec := "fnExactNfaOf", inPlace := ["internal/bytealg.IndexByteString"], unfollowed := true, recurses := true, loops := true, apart := false }
def FnExactNfaOfSaid : Prop := fnExactNfaOfRow.holds Try.pinned (OpenSpec.ofChange fnExactNfaOfSpec)

/-- ITS FALSE NEIGHBOUR: 'it returns false'. Refute it at one input. -/
def fnExactNfaOfWrong : ChangeSpec := { name := "fnExactNfaOf", fn := fun _ => fun
  | [d] => { results := [.lit (.bool false)], args := [d] }
  | _ => none }
def FnExactNfaOfWrongFalsely : Prop := fnExactNfaOfRow.holds Try.pinned (OpenSpec.ofChange fnExactNfaOfWrong)

/-- 'laws.FnExactEndsOf': WHATEVER THE INPUT: true; the input reads as it did. -/
def fnExactEndsOfSpec : ChangeSpec := { name := "fnExactEndsOf", fn := fun _ => fun
  | [d1, d2, d3] => { results := [.lit (.bool true)], args := [d1, d2, d3] }
  | _ => none }
def fnExactEndsOfRow : OpenClaim := { program := "ytblmoakipebicaa", sum := "893e6c112ee5e8e29c696918e41ea7d1f6b5d72da83ea7d96947da32e7abd843", func := "loop.example/g00288/laws.FnExactEndsOf", spec := "fnExactEndsOf", inPlace := ["internal/bytealg.IndexByteString"], unfollowed := true, recurses := true, loops := true, apart := false }
def FnExactEndsOfSaid : Prop := fnExactEndsOfRow.holds Try.pinned (OpenSpec.ofChange fnExactEndsOfSpec)

/-- ITS FALSE NEIGHBOUR: 'it returns false'. Refute it at one input. -/
def fnExactEndsOfWrong : ChangeSpec := { name := "fnExactEndsOf", fn := fun _ => fun
  | [d1, d2, d3] => { results := [.lit (.bool false)], args := [d1, d2, d3] }
  | _ => none }
def FnExactEndsOfWrongFalsely : Prop := fnExactEndsOfRow.holds Try.pinned (OpenSpec.ofChange fnExactEndsOfWrong)

/-- 'laws.FnExactLongest': WHATEVER THE INPUT: true; the input reads as it did. -/
def fnExactLongestSpec : ChangeSpec := { name := "fnExactLongest", fn := fun _ => fun
  | [d1, d2] => { results := [.lit (.bool true)], args := [d1, d2] }
  | _ => none }
def fnExactLongestRow : OpenClaim := { program := "ytblmoakipebicaa", sum := "893e6c112ee5e8e29c696918e41ea7d1f6b5d72da83ea7d96947da32e7abd843", func := "loop.example/g00288/laws.FnExactLongest", spec := "fnExactLongest", inPlace := ["internal/bytealg.IndexByteString"], unfollowed := true, recurses := true, loops := true, apart := false }
def FnExactLongestSaid : Prop := fnExactLongestRow.holds Try.pinned (OpenSpec.ofChange fnExactLongestSpec)

/-- ITS FALSE NEIGHBOUR: 'it returns false'. Refute it at one input. -/
def fnExactLongestWrong : ChangeSpec := { name := "fnExactLongest", fn := fun _ => fun
  | [d1, d2] => { results := [.lit (.bool false)], args := [d1, d2] }
  | _ => none }
def FnExactLongestWrongFalsely : Prop := fnExactLongestRow.holds Try.pinned (OpenSpec.ofChange fnExactLongestWrong)

/-- 'laws.FnExactMatches': WHATEVER THE INPUT: true; the input reads as it did. -/
def fnExactMatchesSpec : ChangeSpec := { name := "fnExactMatches", fn := fun _ => fun
  | [d1, d2] => { results := [.lit (.bool true)], args := [d1, d2] }
  | _ => none }
def fnExactMatchesRow : OpenClaim := { program := "ytblmoakipebicaa", sum := "893e6c112ee5e8e29c696918e41ea7d1f6b5d72da83ea7d96947da32e7abd843", func := "loop.example/g00288/laws.FnExactMatches", spec := "fnExactMatches", inPlace := ["internal/bytealg.IndexByteString"], unfollowed := true, recurses := true, loops := true, apart := false }
def FnExactMatchesSaid : Prop := fnExactMatchesRow.holds Try.pinned (OpenSpec.ofChange fnExactMatchesSpec)

/-- ITS FALSE NEIGHBOUR: 'it returns false'. Refute it at one input. -/
def fnExactMatchesWrong : ChangeSpec := { name := "fnExactMatches", fn := fun _ => fun
  | [d1, d2] => { results := [.lit (.bool false)], args := [d1, d2] }
  | _ => none }
def FnExactMatchesWrongFalsely : Prop := fnExactMatchesRow.holds Try.pinned (OpenSpec.ofChange fnExactMatchesWrong)

/- THE SECOND FORM. 'bulk': how many values and letters a reading holds, each counted each time it is reached (what is shared counts as often as it is met; a slice's spare places count too). A statement '..UptoSaid' is the law's where the arguments, and the package variables that the reading takes, are together of bulk at most 1048576: NARROWER than '..Said'. Prove '..Said' where nothing that the law and all that it calls make is longer than what came in: it says more and counts as full. Else prove '..UptoSaid'. A law counts once. -/
mutual
def uptoBulk {H : Type} : DataW H → Nat
  | .lit (.string bytes) => bytes.length + 1
  | .lit _ => 1
  | .nil => 1
  | .ptr d => uptoBulk d + 1
  | .slice elems spare => uptoBulkAll elems + uptoBulkAll spare + 1
  | .agg parts => uptoBulkAll parts + 1
  | .iface _ d => uptoBulk d + 1
  | .map entries => uptoBulkEntries entries + 1
  | .held _ => 1
def uptoBulkAll {H : Type} : List (DataW H) → Nat
  | [] => 0
  | d :: r => uptoBulk d + uptoBulkAll r
def uptoBulkEntries {H : Type} : List (Lit × DataW H) → Nat
  | [] => 0
  | x :: r => uptoBulkEntry x + uptoBulkEntries r
def uptoBulkEntry {H : Type} : Lit × DataW H → Nat
  | (.string bytes, d) => bytes.length + uptoBulk d + 1
  | (_, d) => uptoBulk d + 1
 end
def uptoSmall : (H : Type) → List (DataW H) → Bool := fun _ ds => decide (uptoBulkAll ds ≤ 1048576)
def OpenSpec.upto (s : _root_.Go.ChangeSpec) : _root_.Go.OpenSpec := { _root_.Go.OpenSpec.ofChange s with cond := some uptoSmall }

/-- 'laws.FnExactSameExpr', WHERE WHAT IT READS IS OF BULK AT MOST 1048576: true; the input reads as it did. -/
def fnExactSameExprUptoRow : OpenClaim := { program := "ytblmoakipebicaa", sum := "893e6c112ee5e8e29c696918e41ea7d1f6b5d72da83ea7d96947da32e7abd843", func := "loop.example/g00288/laws.FnExactSameExpr", spec := "fnExactSameExpr", unfollowed := true, recurses := true, loops := true, apart := false, narrowed := true }
def FnExactSameExprUptoSaid : Prop := fnExactSameExprUptoRow.holds Try.pinned (OpenSpec.upto fnExactSameExprSpec)

/-- 'laws.FnExactSameStmt', WHERE WHAT IT READS IS OF BULK AT MOST 1048576: true; the input reads as it did. -/
def fnExactSameStmtUptoRow : OpenClaim := { program := "ytblmoakipebicaa", sum := "893e6c112ee5e8e29c696918e41ea7d1f6b5d72da83ea7d96947da32e7abd843", func := "loop.example/g00288/laws.FnExactSameStmt", spec := "fnExactSameStmt", unfollowed := true, recurses := true, loops := true, apart := false, narrowed := true }
def FnExactSameStmtUptoSaid : Prop := fnExactSameStmtUptoRow.holds Try.pinned (OpenSpec.upto fnExactSameStmtSpec)

/-- 'laws.FnSameTrees', WHERE WHAT IT READS IS OF BULK AT MOST 1048576: true; the input reads as it did. -/
def fnSameTreesUptoRow : OpenClaim := { program := "ytblmoakipebicaa", sum := "893e6c112ee5e8e29c696918e41ea7d1f6b5d72da83ea7d96947da32e7abd843", func := "loop.example/g00288/laws.FnSameTrees", spec := "fnSameTrees", unfollowed := true, recurses := true, apart := false, narrowed := true }
def FnSameTreesUptoSaid : Prop := fnSameTreesUptoRow.holds Try.pinned (OpenSpec.upto fnSameTreesSpec)

/-- 'laws.FnExactRexOk', WHERE WHAT IT READS IS OF BULK AT MOST 1048576: true; the input reads as it did. -/
def fnExactRexOkUptoRow : OpenClaim := { program := "ytblmoakipebicaa", sum := "893e6c112ee5e8e29c696918e41ea7d1f6b5d72da83ea7d96947da32e7abd843", func := "loop.example/g00288/laws.FnExactRexOk", spec := "fnExactRexOk", inPlace := ["internal/bytealg.IndexByteString"], unfollowed := true, recurses := true, loops := true, apart := false, narrowed := true }
def FnExactRexOkUptoSaid : Prop := fnExactRexOkUptoRow.holds Try.pinned (OpenSpec.upto fnExactRexOkSpec)

/-- 'laws.FnExactRexText', WHERE WHAT IT READS IS OF BULK AT MOST 1048576: true; the input reads as it did. -/
def fnExactRexTextUptoRow : OpenClaim := { program := "ytblmoakipebicaa", sum := "893e6c112ee5e8e29c696918e41ea7d1f6b5d72da83ea7d96947da32e7abd843", func := "loop.example/g00288/laws.FnExactRexText", spec := "fnExactRexText", inPlace := ["internal/bytealg.IndexByteString", "internal/abi.NoEscape", "internal/bytealg.MakeNoZero"], unfollowed := true, recurses := true, loops := true, apart := false, narrowed := true }
def FnExactRexTextUptoSaid : Prop := fnExactRexTextUptoRow.holds Try.pinned (OpenSpec.upto fnExactRexTextSpec)

/-- 'laws.FnExactNfaOk', WHERE WHAT IT READS IS OF BULK AT MOST 1048576: true; the input reads as it did. -/
def fnExactNfaOkUptoRow : OpenClaim := { program := "ytblmoakipebicaa", sum := "893e6c112ee5e8e29c696918e41ea7d1f6b5d72da83ea7d96947da32e7abd843", func := "loop.example/g00288/laws.FnExactNfaOk", spec := "fnExactNfaOk", apart := false, narrowed := true }
def FnExactNfaOkUptoSaid : Prop := fnExactNfaOkUptoRow.holds Try.pinned (OpenSpec.upto fnExactNfaOkSpec)

/-- 'laws.FnExactOnward', WHERE WHAT IT READS IS OF BULK AT MOST 1048576: true; the input reads as it did. -/
def fnExactOnwardUptoRow : OpenClaim := { program := "ytblmoakipebicaa", sum := "893e6c112ee5e8e29c696918e41ea7d1f6b5d72da83ea7d96947da32e7abd843", func := "loop.example/g00288/laws.FnExactOnward", spec := "fnExactOnward", inPlace := ["internal/bytealg.IndexByteString"], recurses := true, apart := false, narrowed := true }
def FnExactOnwardUptoSaid : Prop := fnExactOnwardUptoRow.holds Try.pinned (OpenSpec.upto fnExactOnwardSpec)

/-- 'laws.FnExactSpread', WHERE WHAT IT READS IS OF BULK AT MOST 1048576: true; the input reads as it did. -/
def fnExactSpreadUptoRow : OpenClaim := { program := "ytblmoakipebicaa", sum := "893e6c112ee5e8e29c696918e41ea7d1f6b5d72da83ea7d96947da32e7abd843", func := "loop.example/g00288/laws.FnExactSpread", spec := "fnExactSpread", unfollowed := true, recurses := true, apart := false, narrowed := true }
def FnExactSpreadUptoSaid : Prop := fnExactSpreadUptoRow.holds Try.pinned (OpenSpec.upto fnExactSpreadSpec)

/-- 'laws.FnExactNfaOf', WHERE WHAT IT READS IS OF BULK AT MOST 1048576: true; the input reads as it did. -/
def fnExactNfaOfUptoRow : OpenClaim := { program := "ytblmoakipebicaa", sum := "893e6c112ee5e8e29c696918e41ea7d1f6b5d72da83ea7d96947da32e7abd843", func := "loop.example/g00288/laws.FnExactNfaOf", spec := "fnExactNfaOf", inPlace := ["internal/bytealg.IndexByteString"], unfollowed := true, recurses := true, loops := true, apart := false, narrowed := true }
def FnExactNfaOfUptoSaid : Prop := fnExactNfaOfUptoRow.holds Try.pinned (OpenSpec.upto fnExactNfaOfSpec)

/-- 'laws.FnExactEndsOf', WHERE WHAT IT READS IS OF BULK AT MOST 1048576: true; the input reads as it did. -/
def fnExactEndsOfUptoRow : OpenClaim := { program := "ytblmoakipebicaa", sum := "893e6c112ee5e8e29c696918e41ea7d1f6b5d72da83ea7d96947da32e7abd843", func := "loop.example/g00288/laws.FnExactEndsOf", spec := "fnExactEndsOf", inPlace := ["internal/bytealg.IndexByteString"], unfollowed := true, recurses := true, loops := true, apart := false, narrowed := true }
def FnExactEndsOfUptoSaid : Prop := fnExactEndsOfUptoRow.holds Try.pinned (OpenSpec.upto fnExactEndsOfSpec)

/-- 'laws.FnExactLongest', WHERE WHAT IT READS IS OF BULK AT MOST 1048576: true; the input reads as it did. -/
def fnExactLongestUptoRow : OpenClaim := { program := "ytblmoakipebicaa", sum := "893e6c112ee5e8e29c696918e41ea7d1f6b5d72da83ea7d96947da32e7abd843", func := "loop.example/g00288/laws.FnExactLongest", spec := "fnExactLongest", inPlace := ["internal/bytealg.IndexByteString"], unfollowed := true, recurses := true, loops := true, apart := false, narrowed := true }
def FnExactLongestUptoSaid : Prop := fnExactLongestUptoRow.holds Try.pinned (OpenSpec.upto fnExactLongestSpec)

/-- 'laws.FnExactMatches', WHERE WHAT IT READS IS OF BULK AT MOST 1048576: true; the input reads as it did. -/
def fnExactMatchesUptoRow : OpenClaim := { program := "ytblmoakipebicaa", sum := "893e6c112ee5e8e29c696918e41ea7d1f6b5d72da83ea7d96947da32e7abd843", func := "loop.example/g00288/laws.FnExactMatches", spec := "fnExactMatches", inPlace := ["internal/bytealg.IndexByteString"], unfollowed := true, recurses := true, loops := true, apart := false, narrowed := true }
def FnExactMatchesUptoSaid : Prop := fnExactMatchesUptoRow.holds Try.pinned (OpenSpec.upto fnExactMatchesSpec)

end Rows
end Go.Proofs.Ytblmoakipebicaa
