/-
  DERIVED. GIVEN WITH THE SEED: THE CARDS: each row of YtlknjgmhfimhbaaGreatDoorRows.lean that lists a variable, with what it lists TIED to the program's text (the seventh form; the later family's looks); each row that meets fmt, with fmt's text TOLD by the authors' own Lean function (tested against real Go, not proved from fmt's source: count such statements apart). THE CARD IS WHAT COUNTS. Prove the row's statement (the work); the ties are given (YtlknjgmhfimhbaaGreatDoorTie.lean); close each card by the builder's one call (the guide's Derived/Test/ToyasCard.lean, 'card_holds'). Laid BY PROGRAM, IN A SANDBOX (cutbox-door.mjs). By AI agents, Wed Nov 11 2026. No macro, syntax, notation, axiom, sorry.
-/
import Derived.Test.YtlknjgmhfimhbaaGreatDoorRows
import GoSem.ClaimSeven
namespace Go.Proofs.YtlknjgmhfimhbaaGreatDoor
namespace Rows

/-- THE TIED CARD OF 'pointsmantop.TopHeld'. -/
def topHeldCard : Claim7 := { stood := { row := topHeldRow, standIns := [], harness := (true, "df7f7c2cccf0701ec40d57c2e7e1f517b375210676294b9efa70078a4214b341"), looks := true }, kinds := [], alts := [], laidByText := true, laidKinds := [.data, .pinned], laidTests := true, laidLooks := .later }
def TopHeldCardSaid : Prop := Claim7.holds Tryz.pinned (.plain (OpenSpec.ofChange topHeldSpec)) topHeldCard

/-- THE TIED CARD OF 'pointsmantop.TopRoutes'. -/
def topRoutesCard : Claim7 := { stood := { row := topRoutesRow, standIns := [], harness := (true, "df7f7c2cccf0701ec40d57c2e7e1f517b375210676294b9efa70078a4214b341"), looks := true }, kinds := [], alts := [], laidByText := true, laidKinds := [.data, .pinned], laidTests := true, laidLooks := .later }
def TopRoutesCardSaid : Prop := Claim7.holds Tryz.pinned (.plain (OpenSpec.ofChange topRoutesSpec)) topRoutesCard

/-- THE TIED CARD OF 'pointsmantop.TopBumpless'. -/
def topBumplessCard : Claim7 := { stood := { row := topBumplessRow, standIns := [], harness := (true, "df7f7c2cccf0701ec40d57c2e7e1f517b375210676294b9efa70078a4214b341"), looks := true }, kinds := [], alts := [], laidByText := true, laidKinds := [.data, .pinned], laidTests := true, laidLooks := .later }
def TopBumplessCardSaid : Prop := Claim7.holds Tryz.pinned (.plain (OpenSpec.ofChange topBumplessSpec)) topBumplessCard

/-- THE TIED CARD OF 'pointsmanlaw14.PairBegins'. -/
def pairBeginsCard : Claim7 := { stood := { row := pairBeginsRow, standIns := [], harness := (true, "df7f7c2cccf0701ec40d57c2e7e1f517b375210676294b9efa70078a4214b341"), looks := true }, kinds := [], alts := [], laidByText := true, laidKinds := [.data, .pinned], laidTests := true, laidLooks := .later }
def PairBeginsCardSaid : Prop := Claim7.holds Tryz.pinned (.plain (OpenSpec.ofChange pairBeginsSpec)) pairBeginsCard

/-- THE TIED CARD OF 'pointsmanlaw14.PairYields'. -/
def pairYieldsCard : Claim7 := { stood := { row := pairYieldsRow, standIns := [], harness := (true, "df7f7c2cccf0701ec40d57c2e7e1f517b375210676294b9efa70078a4214b341"), looks := true }, kinds := [], alts := [], laidByText := true, laidKinds := [.data, .pinned], laidTests := true, laidLooks := .later }
def PairYieldsCardSaid : Prop := Claim7.holds Tryz.pinned (.plain (OpenSpec.ofChange pairYieldsSpec)) pairYieldsCard

/-- THE SECOND FORM's CARD OF 'pointsmantop.TopHeld'. -/
def topHeldUptoCard : Claim7 := { stood := { row := topHeldUptoRow, standIns := [], harness := (true, "df7f7c2cccf0701ec40d57c2e7e1f517b375210676294b9efa70078a4214b341"), looks := true }, kinds := [], alts := [], laidByText := true, laidKinds := [.data, .pinned], laidTests := true, laidLooks := .later }
def TopHeldUptoCardSaid : Prop := Claim7.holds Tryz.pinned (.plain (OpenSpec.upto topHeldSpec)) topHeldUptoCard

/-- THE SECOND FORM's CARD OF 'pointsmantop.TopRoutes'. -/
def topRoutesUptoCard : Claim7 := { stood := { row := topRoutesUptoRow, standIns := [], harness := (true, "df7f7c2cccf0701ec40d57c2e7e1f517b375210676294b9efa70078a4214b341"), looks := true }, kinds := [], alts := [], laidByText := true, laidKinds := [.data, .pinned], laidTests := true, laidLooks := .later }
def TopRoutesUptoCardSaid : Prop := Claim7.holds Tryz.pinned (.plain (OpenSpec.upto topRoutesSpec)) topRoutesUptoCard

/-- THE SECOND FORM's CARD OF 'pointsmantop.TopBumpless'. -/
def topBumplessUptoCard : Claim7 := { stood := { row := topBumplessUptoRow, standIns := [], harness := (true, "df7f7c2cccf0701ec40d57c2e7e1f517b375210676294b9efa70078a4214b341"), looks := true }, kinds := [], alts := [], laidByText := true, laidKinds := [.data, .pinned], laidTests := true, laidLooks := .later }
def TopBumplessUptoCardSaid : Prop := Claim7.holds Tryz.pinned (.plain (OpenSpec.upto topBumplessSpec)) topBumplessUptoCard

/-- THE SECOND FORM's CARD OF 'pointsmanlaw14.PairBegins'. -/
def pairBeginsUptoCard : Claim7 := { stood := { row := pairBeginsUptoRow, standIns := [], harness := (true, "df7f7c2cccf0701ec40d57c2e7e1f517b375210676294b9efa70078a4214b341"), looks := true }, kinds := [], alts := [], laidByText := true, laidKinds := [.data, .pinned], laidTests := true, laidLooks := .later }
def PairBeginsUptoCardSaid : Prop := Claim7.holds Tryz.pinned (.plain (OpenSpec.upto pairBeginsSpec)) pairBeginsUptoCard

/-- THE SECOND FORM's CARD OF 'pointsmanlaw14.PairYields'. -/
def pairYieldsUptoCard : Claim7 := { stood := { row := pairYieldsUptoRow, standIns := [], harness := (true, "df7f7c2cccf0701ec40d57c2e7e1f517b375210676294b9efa70078a4214b341"), looks := true }, kinds := [], alts := [], laidByText := true, laidKinds := [.data, .pinned], laidTests := true, laidLooks := .later }
def PairYieldsUptoCardSaid : Prop := Claim7.holds Tryz.pinned (.plain (OpenSpec.upto pairYieldsSpec)) pairYieldsUptoCard
end Rows
end Go.Proofs.YtlknjgmhfimhbaaGreatDoor
