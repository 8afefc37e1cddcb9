/-
  DERIVED. GIVEN WITH THE SEED: THE CARDS: each row of YtefimkcfaoabpaaDoorRows.lean that lists a variable, with what it lists TIED to the program's text (the seventh form; the later family's looks); each row that meets fmt, with fmt's text TOLD by the authors' own Lean function (tested against real Go, not proved from fmt's source: count such statements apart). THE CARD IS WHAT COUNTS. Prove the row's statement (the work); the ties are given (YtefimkcfaoabpaaDoorTie.lean); close each card by the builder's one call (the guide's Derived/Test/ToyasCard.lean, 'card_holds'). Laid BY PROGRAM, IN A SANDBOX (cutbox-door.mjs). By AI agents, Wed Nov 11 2026. No macro, syntax, notation, axiom, sorry.
-/
import Derived.Test.YtefimkcfaoabpaaDoorRows
import GoSem.ClaimSeven
namespace Go.Proofs.YtefimkcfaoabpaaDoor
namespace Rows

/-- THE TIED CARD OF 'concordlaw23.TurnRuns'. -/
def turnRunsCard : Claim7 := { stood := { row := turnRunsRow, standIns := [], harness := (true, "5d596c95893e0261e422746ea35e1dfd7d0a236024d22a689f575989a2fe1a73"), looks := false }, kinds := [], alts := [], laidByText := true, laidKinds := [.data, .data, .data], laidTests := true, laidLooks := .later }
def TurnRunsCardSaid : Prop := Claim7.holds Tryd.pinned (.plain (OpenSpec.ofChange turnRunsSpec)) turnRunsCard

/-- THE SECOND FORM's CARD OF 'concordlaw23.TurnRuns'. -/
def turnRunsUptoCard : Claim7 := { stood := { row := turnRunsUptoRow, standIns := [], harness := (true, "5d596c95893e0261e422746ea35e1dfd7d0a236024d22a689f575989a2fe1a73"), looks := false }, kinds := [], alts := [], laidByText := true, laidKinds := [.data, .data, .data], laidTests := true, laidLooks := .later }
def TurnRunsUptoCardSaid : Prop := Claim7.holds Tryd.pinned (.plain (OpenSpec.upto turnRunsSpec)) turnRunsUptoCard
end Rows
end Go.Proofs.YtefimkcfaoabpaaDoor
