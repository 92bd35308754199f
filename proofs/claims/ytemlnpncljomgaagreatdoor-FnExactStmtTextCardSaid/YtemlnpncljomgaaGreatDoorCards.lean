/-
  DERIVED. GIVEN WITH THE SEED: THE CARDS: each row of YtemlnpncljomgaaGreatDoorRows.lean that lists a variable, with what it lists TIED to the program's text (the seventh form; the later family's looks); each row that meets fmt, with fmt's text TOLD by the authors' own Lean function (tested against real Go, not proved from fmt's source: count such statements apart). THE CARD IS WHAT COUNTS. Prove the row's statement (the work); the ties are given (YtemlnpncljomgaaGreatDoorTie.lean); close each card by the builder's one call (the guide's Derived/Test/ToyasCard.lean, 'card_holds'). Laid BY PROGRAM, IN A SANDBOX (cutbox-door.mjs). By AI agents, Wed Nov 11 2026. No macro, syntax, notation, axiom, sorry.
-/
import Derived.Test.YtemlnpncljomgaaGreatDoorRows
import GoSem.ClaimSeven
namespace Go.Proofs.YtemlnpncljomgaaGreatDoor
namespace Rows

/-- THE TIED CARD OF 'laws.FnExactExprText'. -/
def fnExactExprTextCard : Claim7 := { stood := { row := fnExactExprTextRow, standIns := [], harness := (true, "e79c084d100219cd59d8fb653ae068096c61fa08dca2541c900638a9d5bf3e2d"), looks := false }, kinds := [], alts := [], laidByText := true, laidKinds := [.data, .data, .data], laidTests := true, laidLooks := .later }
def FnExactExprTextCardSaid : Prop := Claim7.holds Tryz.pinned (.plain (OpenSpec.ofChange fnExactExprTextSpec)) fnExactExprTextCard

/-- THE TIED CARD OF 'laws.FnExactStmtText'. -/
def fnExactStmtTextCard : Claim7 := { stood := { row := fnExactStmtTextRow, standIns := [], harness := (true, "e79c084d100219cd59d8fb653ae068096c61fa08dca2541c900638a9d5bf3e2d"), looks := false }, kinds := [], alts := [], laidByText := true, laidKinds := [.data, .data, .data], laidTests := true, laidLooks := .later }
def FnExactStmtTextCardSaid : Prop := Claim7.holds Tryz.pinned (.plain (OpenSpec.ofChange fnExactStmtTextSpec)) fnExactStmtTextCard

/-- THE TIED CARD OF 'laws.FnExactBlockText'. -/
def fnExactBlockTextCard : Claim7 := { stood := { row := fnExactBlockTextRow, standIns := [], harness := (true, "e79c084d100219cd59d8fb653ae068096c61fa08dca2541c900638a9d5bf3e2d"), looks := false }, kinds := [], alts := [], laidByText := true, laidKinds := [.data, .data, .data], laidTests := true, laidLooks := .later }
def FnExactBlockTextCardSaid : Prop := Claim7.holds Tryz.pinned (.plain (OpenSpec.ofChange fnExactBlockTextSpec)) fnExactBlockTextCard

/-- THE SECOND FORM's CARD OF 'laws.FnExactExprText'. -/
def fnExactExprTextUptoCard : Claim7 := { stood := { row := fnExactExprTextUptoRow, standIns := [], harness := (true, "e79c084d100219cd59d8fb653ae068096c61fa08dca2541c900638a9d5bf3e2d"), looks := false }, kinds := [], alts := [], laidByText := true, laidKinds := [.data, .data, .data], laidTests := true, laidLooks := .later }
def FnExactExprTextUptoCardSaid : Prop := Claim7.holds Tryz.pinned (.plain (OpenSpec.upto fnExactExprTextSpec)) fnExactExprTextUptoCard

/-- THE SECOND FORM's CARD OF 'laws.FnExactStmtText'. -/
def fnExactStmtTextUptoCard : Claim7 := { stood := { row := fnExactStmtTextUptoRow, standIns := [], harness := (true, "e79c084d100219cd59d8fb653ae068096c61fa08dca2541c900638a9d5bf3e2d"), looks := false }, kinds := [], alts := [], laidByText := true, laidKinds := [.data, .data, .data], laidTests := true, laidLooks := .later }
def FnExactStmtTextUptoCardSaid : Prop := Claim7.holds Tryz.pinned (.plain (OpenSpec.upto fnExactStmtTextSpec)) fnExactStmtTextUptoCard

/-- THE SECOND FORM's CARD OF 'laws.FnExactBlockText'. -/
def fnExactBlockTextUptoCard : Claim7 := { stood := { row := fnExactBlockTextUptoRow, standIns := [], harness := (true, "e79c084d100219cd59d8fb653ae068096c61fa08dca2541c900638a9d5bf3e2d"), looks := false }, kinds := [], alts := [], laidByText := true, laidKinds := [.data, .data, .data], laidTests := true, laidLooks := .later }
def FnExactBlockTextUptoCardSaid : Prop := Claim7.holds Tryz.pinned (.plain (OpenSpec.upto fnExactBlockTextSpec)) fnExactBlockTextUptoCard
end Rows
end Go.Proofs.YtemlnpncljomgaaGreatDoor
