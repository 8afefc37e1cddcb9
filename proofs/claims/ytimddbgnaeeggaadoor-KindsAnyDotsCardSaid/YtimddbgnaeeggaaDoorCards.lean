/-
  DERIVED. GIVEN WITH THE SEED: THE CARDS: each row of YtimddbgnaeeggaaDoorRows.lean that lists a variable, with what it lists TIED to the program's text (the seventh form; the later family's looks); each row that meets fmt, with fmt's text TOLD by the authors' own Lean function (tested against real Go, not proved from fmt's source: count such statements apart). THE CARD IS WHAT COUNTS. Prove the row's statement (the work); the ties are given (YtimddbgnaeeggaaDoorTie.lean); close each card by the builder's one call (the guide's Derived/Test/ToyasCard.lean, 'card_holds'). Laid BY PROGRAM, IN A SANDBOX (cutbox-door.mjs). By AI agents, Wed Nov 11 2026. No macro, syntax, notation, axiom, sorry.
-/
import Derived.Test.YtimddbgnaeeggaaDoorRows
import GoSem.ClaimSeven
namespace Go.Proofs.YtimddbgnaeeggaaDoor
namespace Rows

/-- THE TIED CARD OF 'concordlaw12.KindsOrder'. -/
def kindsOrderCard : Claim7 := { stood := { row := kindsOrderRow, standIns := [], harness := (true, "14b160c3cd38df27cade7a6021485d84df4a8b21eae2ee695e0e26d2541a647e"), looks := false }, kinds := [], alts := [], laidByText := true, laidKinds := [.data, .pinned], laidTests := true, laidLooks := .later }
def KindsOrderCardSaid : Prop := Claim7.holds Tryd.pinned (.plain (OpenSpec.ofChange kindsOrderSpec)) kindsOrderCard

/-- THE TIED CARD OF 'concordlaw12.KindsLattice'. -/
def kindsLatticeCard : Claim7 := { stood := { row := kindsLatticeRow, standIns := [], harness := (true, "14b160c3cd38df27cade7a6021485d84df4a8b21eae2ee695e0e26d2541a647e"), looks := false }, kinds := [], alts := [], laidByText := true, laidKinds := [.data, .pinned], laidTests := true, laidLooks := .later }
def KindsLatticeCardSaid : Prop := Claim7.holds Tryd.pinned (.plain (OpenSpec.ofChange kindsLatticeSpec)) kindsLatticeCard

/-- THE TIED CARD OF 'concordlaw12.KindsJoins'. -/
def kindsJoinsCard : Claim7 := { stood := { row := kindsJoinsRow, standIns := [], harness := (true, "14b160c3cd38df27cade7a6021485d84df4a8b21eae2ee695e0e26d2541a647e"), looks := false }, kinds := [], alts := [], laidByText := true, laidKinds := [.data, .pinned], laidTests := true, laidLooks := .later }
def KindsJoinsCardSaid : Prop := Claim7.holds Tryd.pinned (.plain (OpenSpec.ofChange kindsJoinsSpec)) kindsJoinsCard

/-- THE TIED CARD OF 'concordlaw12.KindsUp'. -/
def kindsUpCard : Claim7 := { stood := { row := kindsUpRow, standIns := [], harness := (true, "14b160c3cd38df27cade7a6021485d84df4a8b21eae2ee695e0e26d2541a647e"), looks := false }, kinds := [], alts := [], laidByText := true, laidKinds := [.data, .pinned], laidTests := true, laidLooks := .later }
def KindsUpCardSaid : Prop := Claim7.holds Tryd.pinned (.plain (OpenSpec.ofChange kindsUpSpec)) kindsUpCard

/-- THE TIED CARD OF 'concordlaw12.KindsReads'. -/
def kindsReadsCard : Claim7 := { stood := { row := kindsReadsRow, standIns := [], harness := (true, "14b160c3cd38df27cade7a6021485d84df4a8b21eae2ee695e0e26d2541a647e"), looks := false }, kinds := [], alts := [], laidByText := true, laidKinds := [.data, .pinned], laidTests := true, laidLooks := .later }
def KindsReadsCardSaid : Prop := Claim7.holds Tryd.pinned (.plain (OpenSpec.ofChange kindsReadsSpec)) kindsReadsCard

/-- THE TIED CARD OF 'concordlaw12.KindsRunes'. -/
def kindsRunesCard : Claim7 := { stood := { row := kindsRunesRow, standIns := [], harness := (true, "14b160c3cd38df27cade7a6021485d84df4a8b21eae2ee695e0e26d2541a647e"), looks := false }, kinds := [], alts := [], laidByText := true, laidKinds := [.data, .pinned], laidTests := true, laidLooks := .later }
def KindsRunesCardSaid : Prop := Claim7.holds Tryd.pinned (.plain (OpenSpec.ofChange kindsRunesSpec)) kindsRunesCard

/-- THE TIED CARD OF 'concordlaw12.KindsResolves'. -/
def kindsResolvesCard : Claim7 := { stood := { row := kindsResolvesRow, standIns := [], harness := (true, "14b160c3cd38df27cade7a6021485d84df4a8b21eae2ee695e0e26d2541a647e"), looks := false }, kinds := [], alts := [], laidByText := true, laidKinds := [.data, .pinned], laidTests := true, laidLooks := .later }
def KindsResolvesCardSaid : Prop := Claim7.holds Tryd.pinned (.plain (OpenSpec.ofChange kindsResolvesSpec)) kindsResolvesCard

/-- THE TIED CARD OF 'concordlaw12.KindsAnyDots'. -/
def kindsAnyDotsCard : Claim7 := { stood := { row := kindsAnyDotsRow, standIns := [], harness := (true, "14b160c3cd38df27cade7a6021485d84df4a8b21eae2ee695e0e26d2541a647e"), looks := false }, kinds := [], alts := [], laidByText := true, laidKinds := [.data, .pinned], laidTests := true, laidLooks := .later }
def KindsAnyDotsCardSaid : Prop := Claim7.holds Tryd.pinned (.plain (OpenSpec.ofChange kindsAnyDotsSpec)) kindsAnyDotsCard

/-- THE TIED CARD OF 'concordlaw12.KindsPrints'. -/
def kindsPrintsCard : Claim7 := { stood := { row := kindsPrintsRow, standIns := [], harness := (true, "14b160c3cd38df27cade7a6021485d84df4a8b21eae2ee695e0e26d2541a647e"), looks := false }, kinds := [], alts := [], laidByText := true, laidKinds := [.data, .data, .data, .data, .pinned], laidTests := true, laidLooks := .later }
def KindsPrintsCardSaid : Prop := Claim7.holds Tryd.pinned (.plain (OpenSpec.ofChange kindsPrintsSpec)) kindsPrintsCard

/-- THE SECOND FORM's CARD OF 'concordlaw12.KindsOrder'. -/
def kindsOrderUptoCard : Claim7 := { stood := { row := kindsOrderUptoRow, standIns := [], harness := (true, "14b160c3cd38df27cade7a6021485d84df4a8b21eae2ee695e0e26d2541a647e"), looks := false }, kinds := [], alts := [], laidByText := true, laidKinds := [.data, .pinned], laidTests := true, laidLooks := .later }
def KindsOrderUptoCardSaid : Prop := Claim7.holds Tryd.pinned (.plain (OpenSpec.upto kindsOrderSpec)) kindsOrderUptoCard

/-- THE SECOND FORM's CARD OF 'concordlaw12.KindsLattice'. -/
def kindsLatticeUptoCard : Claim7 := { stood := { row := kindsLatticeUptoRow, standIns := [], harness := (true, "14b160c3cd38df27cade7a6021485d84df4a8b21eae2ee695e0e26d2541a647e"), looks := false }, kinds := [], alts := [], laidByText := true, laidKinds := [.data, .pinned], laidTests := true, laidLooks := .later }
def KindsLatticeUptoCardSaid : Prop := Claim7.holds Tryd.pinned (.plain (OpenSpec.upto kindsLatticeSpec)) kindsLatticeUptoCard

/-- THE SECOND FORM's CARD OF 'concordlaw12.KindsJoins'. -/
def kindsJoinsUptoCard : Claim7 := { stood := { row := kindsJoinsUptoRow, standIns := [], harness := (true, "14b160c3cd38df27cade7a6021485d84df4a8b21eae2ee695e0e26d2541a647e"), looks := false }, kinds := [], alts := [], laidByText := true, laidKinds := [.data, .pinned], laidTests := true, laidLooks := .later }
def KindsJoinsUptoCardSaid : Prop := Claim7.holds Tryd.pinned (.plain (OpenSpec.upto kindsJoinsSpec)) kindsJoinsUptoCard

/-- THE SECOND FORM's CARD OF 'concordlaw12.KindsUp'. -/
def kindsUpUptoCard : Claim7 := { stood := { row := kindsUpUptoRow, standIns := [], harness := (true, "14b160c3cd38df27cade7a6021485d84df4a8b21eae2ee695e0e26d2541a647e"), looks := false }, kinds := [], alts := [], laidByText := true, laidKinds := [.data, .pinned], laidTests := true, laidLooks := .later }
def KindsUpUptoCardSaid : Prop := Claim7.holds Tryd.pinned (.plain (OpenSpec.upto kindsUpSpec)) kindsUpUptoCard

/-- THE SECOND FORM's CARD OF 'concordlaw12.KindsReads'. -/
def kindsReadsUptoCard : Claim7 := { stood := { row := kindsReadsUptoRow, standIns := [], harness := (true, "14b160c3cd38df27cade7a6021485d84df4a8b21eae2ee695e0e26d2541a647e"), looks := false }, kinds := [], alts := [], laidByText := true, laidKinds := [.data, .pinned], laidTests := true, laidLooks := .later }
def KindsReadsUptoCardSaid : Prop := Claim7.holds Tryd.pinned (.plain (OpenSpec.upto kindsReadsSpec)) kindsReadsUptoCard

/-- THE SECOND FORM's CARD OF 'concordlaw12.KindsRunes'. -/
def kindsRunesUptoCard : Claim7 := { stood := { row := kindsRunesUptoRow, standIns := [], harness := (true, "14b160c3cd38df27cade7a6021485d84df4a8b21eae2ee695e0e26d2541a647e"), looks := false }, kinds := [], alts := [], laidByText := true, laidKinds := [.data, .pinned], laidTests := true, laidLooks := .later }
def KindsRunesUptoCardSaid : Prop := Claim7.holds Tryd.pinned (.plain (OpenSpec.upto kindsRunesSpec)) kindsRunesUptoCard

/-- THE SECOND FORM's CARD OF 'concordlaw12.KindsResolves'. -/
def kindsResolvesUptoCard : Claim7 := { stood := { row := kindsResolvesUptoRow, standIns := [], harness := (true, "14b160c3cd38df27cade7a6021485d84df4a8b21eae2ee695e0e26d2541a647e"), looks := false }, kinds := [], alts := [], laidByText := true, laidKinds := [.data, .pinned], laidTests := true, laidLooks := .later }
def KindsResolvesUptoCardSaid : Prop := Claim7.holds Tryd.pinned (.plain (OpenSpec.upto kindsResolvesSpec)) kindsResolvesUptoCard

/-- THE SECOND FORM's CARD OF 'concordlaw12.KindsAnyDots'. -/
def kindsAnyDotsUptoCard : Claim7 := { stood := { row := kindsAnyDotsUptoRow, standIns := [], harness := (true, "14b160c3cd38df27cade7a6021485d84df4a8b21eae2ee695e0e26d2541a647e"), looks := false }, kinds := [], alts := [], laidByText := true, laidKinds := [.data, .pinned], laidTests := true, laidLooks := .later }
def KindsAnyDotsUptoCardSaid : Prop := Claim7.holds Tryd.pinned (.plain (OpenSpec.upto kindsAnyDotsSpec)) kindsAnyDotsUptoCard

/-- THE SECOND FORM's CARD OF 'concordlaw12.KindsPrints'. -/
def kindsPrintsUptoCard : Claim7 := { stood := { row := kindsPrintsUptoRow, standIns := [], harness := (true, "14b160c3cd38df27cade7a6021485d84df4a8b21eae2ee695e0e26d2541a647e"), looks := false }, kinds := [], alts := [], laidByText := true, laidKinds := [.data, .data, .data, .data, .pinned], laidTests := true, laidLooks := .later }
def KindsPrintsUptoCardSaid : Prop := Claim7.holds Tryd.pinned (.plain (OpenSpec.upto kindsPrintsSpec)) kindsPrintsUptoCard
end Rows
end Go.Proofs.YtimddbgnaeeggaaDoor
