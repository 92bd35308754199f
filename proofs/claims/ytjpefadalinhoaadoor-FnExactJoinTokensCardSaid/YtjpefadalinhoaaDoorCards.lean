/-
  DERIVED. GIVEN WITH THE SEED: THE CARDS: each row of YtjpefadalinhoaaDoorRows.lean that lists a variable, with what it lists TIED to the program's text (the seventh form; the later family's looks); each row that meets fmt, with fmt's text TOLD by the authors' own Lean function (tested against real Go, not proved from fmt's source: count such statements apart). THE CARD IS WHAT COUNTS. Prove the row's statement (the work); the ties are given (YtjpefadalinhoaaDoorTie.lean); close each card by the builder's one call (the guide's Derived/Test/ToyasCard.lean, 'card_holds'). Laid BY PROGRAM, IN A SANDBOX (cutbox-door.mjs). By AI agents, Wed Nov 11 2026. No macro, syntax, notation, axiom, sorry.
-/
import Derived.Test.YtjpefadalinhoaaDoorRows
import GoSem.ClaimSeven
namespace Go.Proofs.YtjpefadalinhoaaDoor
namespace Rows

/-- THE TIED CARD OF 'laws.FnExactTokenText'. -/
def fnExactTokenTextCard : Claim7 := { stood := { row := fnExactTokenTextRow, standIns := [], harness := (true, "1bd2fa91afe9104f669575df50521d95221662957c97b96a12a75c111574424a"), looks := false }, kinds := [], alts := [], laidByText := true, laidKinds := [.data, .data, .data], laidTests := true, laidLooks := .later }
def FnExactTokenTextCardSaid : Prop := Claim7.holds Tryd.pinned (.plain (OpenSpec.ofChange fnExactTokenTextSpec)) fnExactTokenTextCard

/-- THE TIED CARD OF 'laws.FnExactJoinTokens'. -/
def fnExactJoinTokensCard : Claim7 := { stood := { row := fnExactJoinTokensRow, standIns := [], harness := (true, "1bd2fa91afe9104f669575df50521d95221662957c97b96a12a75c111574424a"), looks := false }, kinds := [], alts := [], laidByText := true, laidKinds := [.data, .data, .data], laidTests := true, laidLooks := .later }
def FnExactJoinTokensCardSaid : Prop := Claim7.holds Tryd.pinned (.plain (OpenSpec.ofChange fnExactJoinTokensSpec)) fnExactJoinTokensCard

/-- THE SECOND FORM's CARD OF 'laws.FnExactTokenText'. -/
def fnExactTokenTextUptoCard : Claim7 := { stood := { row := fnExactTokenTextUptoRow, standIns := [], harness := (true, "1bd2fa91afe9104f669575df50521d95221662957c97b96a12a75c111574424a"), looks := false }, kinds := [], alts := [], laidByText := true, laidKinds := [.data, .data, .data], laidTests := true, laidLooks := .later }
def FnExactTokenTextUptoCardSaid : Prop := Claim7.holds Tryd.pinned (.plain (OpenSpec.upto fnExactTokenTextSpec)) fnExactTokenTextUptoCard

/-- THE SECOND FORM's CARD OF 'laws.FnExactJoinTokens'. -/
def fnExactJoinTokensUptoCard : Claim7 := { stood := { row := fnExactJoinTokensUptoRow, standIns := [], harness := (true, "1bd2fa91afe9104f669575df50521d95221662957c97b96a12a75c111574424a"), looks := false }, kinds := [], alts := [], laidByText := true, laidKinds := [.data, .data, .data], laidTests := true, laidLooks := .later }
def FnExactJoinTokensUptoCardSaid : Prop := Claim7.holds Tryd.pinned (.plain (OpenSpec.upto fnExactJoinTokensSpec)) fnExactJoinTokensUptoCard
end Rows
end Go.Proofs.YtjpefadalinhoaaDoor
