/-
  DERIVED. GIVEN WITH THE SEED: THE CARDS: each row of YtbhmihigfncfgaaDoorRows.lean that lists a variable, with what it lists TIED to the program's text (the seventh form; the later family's looks); each row that meets fmt, with fmt's text TOLD by the authors' own Lean function (tested against real Go, not proved from fmt's source: count such statements apart). THE CARD IS WHAT COUNTS. Prove the row's statement (the work); the ties are given (YtbhmihigfncfgaaDoorTie.lean); close each card by the builder's one call (the guide's Derived/Test/ToyasCard.lean, 'card_holds'). Laid BY PROGRAM, IN A SANDBOX (cutbox-door.mjs). By AI agents, Wed Nov 11 2026. No macro, syntax, notation, axiom, sorry.
-/
import Derived.Test.YtbhmihigfncfgaaDoorRows
import GoSem.ClaimSeven
namespace Go.Proofs.YtbhmihigfncfgaaDoor
namespace Rows

/-- THE TIED CARD OF 'pointsmanlaw4.TableMay'. -/
def tableMayCard : Claim7 := { stood := { row := tableMayRow, standIns := [], harness := (true, "348245f37e525bcfffca93b1b7d7ac6714d0d2170e2af4e996ed49715ea08ef3"), looks := false }, kinds := [], alts := [], laidByText := true, laidKinds := [.data, .pinned], laidTests := true, laidLooks := .later }
def TableMayCardSaid : Prop := Claim7.holds Tryd.pinned (.plain (OpenSpec.ofChange tableMaySpec)) tableMayCard

/-- THE TIED CARD OF 'pointsmanlaw4.TableShares'. -/
def tableSharesCard : Claim7 := { stood := { row := tableSharesRow, standIns := [], harness := (true, "348245f37e525bcfffca93b1b7d7ac6714d0d2170e2af4e996ed49715ea08ef3"), looks := false }, kinds := [], alts := [], laidByText := true, laidKinds := [.data, .pinned], laidTests := true, laidLooks := .later }
def TableSharesCardSaid : Prop := Claim7.holds Tryd.pinned (.plain (OpenSpec.ofChange tableSharesSpec)) tableSharesCard

/-- THE TIED CARD OF 'pointsmanlaw4.TablePoints'. -/
def tablePointsCard : Claim7 := { stood := { row := tablePointsRow, standIns := [], harness := (true, "348245f37e525bcfffca93b1b7d7ac6714d0d2170e2af4e996ed49715ea08ef3"), looks := false }, kinds := [], alts := [], laidByText := true, laidKinds := [.data, .pinned], laidTests := true, laidLooks := .later }
def TablePointsCardSaid : Prop := Claim7.holds Tryd.pinned (.plain (OpenSpec.ofChange tablePointsSpec)) tablePointsCard

/-- THE TIED CARD OF 'pointsmanlaw4.TableOdd'. -/
def tableOddCard : Claim7 := { stood := { row := tableOddRow, standIns := [], harness := (true, "348245f37e525bcfffca93b1b7d7ac6714d0d2170e2af4e996ed49715ea08ef3"), looks := false }, kinds := [], alts := [], laidByText := true, laidKinds := [.data, .pinned], laidTests := true, laidLooks := .later }
def TableOddCardSaid : Prop := Claim7.holds Tryd.pinned (.plain (OpenSpec.ofChange tableOddSpec)) tableOddCard

/-- THE TIED CARD OF 'pointsmanlaw4.TableSelf'. -/
def tableSelfCard : Claim7 := { stood := { row := tableSelfRow, standIns := [], harness := (true, "348245f37e525bcfffca93b1b7d7ac6714d0d2170e2af4e996ed49715ea08ef3"), looks := false }, kinds := [], alts := [], laidByText := true, laidKinds := [.data, .pinned], laidTests := true, laidLooks := .later }
def TableSelfCardSaid : Prop := Claim7.holds Tryd.pinned (.plain (OpenSpec.ofChange tableSelfSpec)) tableSelfCard

/-- THE TIED CARD OF 'pointsmanlaw4.TableLess'. -/
def tableLessCard : Claim7 := { stood := { row := tableLessRow, standIns := [], harness := (true, "348245f37e525bcfffca93b1b7d7ac6714d0d2170e2af4e996ed49715ea08ef3"), looks := false }, kinds := [], alts := [], laidByText := true, laidKinds := [.data, .pinned], laidTests := true, laidLooks := .later }
def TableLessCardSaid : Prop := Claim7.holds Tryd.pinned (.plain (OpenSpec.ofChange tableLessSpec)) tableLessCard

/-- THE TIED CARD OF 'pointsmanlaw4.TableBounds'. -/
def tableBoundsCard : Claim7 := { stood := { row := tableBoundsRow, standIns := [], harness := (true, "348245f37e525bcfffca93b1b7d7ac6714d0d2170e2af4e996ed49715ea08ef3"), looks := false }, kinds := [], alts := [], laidByText := true, laidKinds := [.data, .pinned], laidTests := true, laidLooks := .later }
def TableBoundsCardSaid : Prop := Claim7.holds Tryd.pinned (.plain (OpenSpec.ofChange tableBoundsSpec)) tableBoundsCard

/-- THE TIED CARD OF 'pointsmanlaw6.FieldMoves'. -/
def fieldMovesCard : Claim7 := { stood := { row := fieldMovesRow, standIns := [], harness := (true, "348245f37e525bcfffca93b1b7d7ac6714d0d2170e2af4e996ed49715ea08ef3"), looks := false }, kinds := [], alts := [], laidByText := true, laidKinds := [.data, .pinned], laidTests := true, laidLooks := .later }
def FieldMovesCardSaid : Prop := Claim7.holds Tryd.pinned (.plain (OpenSpec.ofChange fieldMovesSpec)) fieldMovesCard

/-- THE TIED CARD OF 'pointsmanlaw6.FieldStops'. -/
def fieldStopsCard : Claim7 := { stood := { row := fieldStopsRow, standIns := [], harness := (true, "348245f37e525bcfffca93b1b7d7ac6714d0d2170e2af4e996ed49715ea08ef3"), looks := false }, kinds := [], alts := [], laidByText := true, laidKinds := [.data, .pinned], laidTests := true, laidLooks := .later }
def FieldStopsCardSaid : Prop := Claim7.holds Tryd.pinned (.plain (OpenSpec.ofChange fieldStopsSpec)) fieldStopsCard

/-- THE SECOND FORM's CARD OF 'pointsmanlaw4.TableMay'. -/
def tableMayUptoCard : Claim7 := { stood := { row := tableMayUptoRow, standIns := [], harness := (true, "348245f37e525bcfffca93b1b7d7ac6714d0d2170e2af4e996ed49715ea08ef3"), looks := false }, kinds := [], alts := [], laidByText := true, laidKinds := [.data, .pinned], laidTests := true, laidLooks := .later }
def TableMayUptoCardSaid : Prop := Claim7.holds Tryd.pinned (.plain (OpenSpec.upto tableMaySpec)) tableMayUptoCard

/-- THE SECOND FORM's CARD OF 'pointsmanlaw4.TableShares'. -/
def tableSharesUptoCard : Claim7 := { stood := { row := tableSharesUptoRow, standIns := [], harness := (true, "348245f37e525bcfffca93b1b7d7ac6714d0d2170e2af4e996ed49715ea08ef3"), looks := false }, kinds := [], alts := [], laidByText := true, laidKinds := [.data, .pinned], laidTests := true, laidLooks := .later }
def TableSharesUptoCardSaid : Prop := Claim7.holds Tryd.pinned (.plain (OpenSpec.upto tableSharesSpec)) tableSharesUptoCard

/-- THE SECOND FORM's CARD OF 'pointsmanlaw4.TablePoints'. -/
def tablePointsUptoCard : Claim7 := { stood := { row := tablePointsUptoRow, standIns := [], harness := (true, "348245f37e525bcfffca93b1b7d7ac6714d0d2170e2af4e996ed49715ea08ef3"), looks := false }, kinds := [], alts := [], laidByText := true, laidKinds := [.data, .pinned], laidTests := true, laidLooks := .later }
def TablePointsUptoCardSaid : Prop := Claim7.holds Tryd.pinned (.plain (OpenSpec.upto tablePointsSpec)) tablePointsUptoCard

/-- THE SECOND FORM's CARD OF 'pointsmanlaw4.TableOdd'. -/
def tableOddUptoCard : Claim7 := { stood := { row := tableOddUptoRow, standIns := [], harness := (true, "348245f37e525bcfffca93b1b7d7ac6714d0d2170e2af4e996ed49715ea08ef3"), looks := false }, kinds := [], alts := [], laidByText := true, laidKinds := [.data, .pinned], laidTests := true, laidLooks := .later }
def TableOddUptoCardSaid : Prop := Claim7.holds Tryd.pinned (.plain (OpenSpec.upto tableOddSpec)) tableOddUptoCard

/-- THE SECOND FORM's CARD OF 'pointsmanlaw4.TableSelf'. -/
def tableSelfUptoCard : Claim7 := { stood := { row := tableSelfUptoRow, standIns := [], harness := (true, "348245f37e525bcfffca93b1b7d7ac6714d0d2170e2af4e996ed49715ea08ef3"), looks := false }, kinds := [], alts := [], laidByText := true, laidKinds := [.data, .pinned], laidTests := true, laidLooks := .later }
def TableSelfUptoCardSaid : Prop := Claim7.holds Tryd.pinned (.plain (OpenSpec.upto tableSelfSpec)) tableSelfUptoCard

/-- THE SECOND FORM's CARD OF 'pointsmanlaw4.TableLess'. -/
def tableLessUptoCard : Claim7 := { stood := { row := tableLessUptoRow, standIns := [], harness := (true, "348245f37e525bcfffca93b1b7d7ac6714d0d2170e2af4e996ed49715ea08ef3"), looks := false }, kinds := [], alts := [], laidByText := true, laidKinds := [.data, .pinned], laidTests := true, laidLooks := .later }
def TableLessUptoCardSaid : Prop := Claim7.holds Tryd.pinned (.plain (OpenSpec.upto tableLessSpec)) tableLessUptoCard

/-- THE SECOND FORM's CARD OF 'pointsmanlaw4.TableBounds'. -/
def tableBoundsUptoCard : Claim7 := { stood := { row := tableBoundsUptoRow, standIns := [], harness := (true, "348245f37e525bcfffca93b1b7d7ac6714d0d2170e2af4e996ed49715ea08ef3"), looks := false }, kinds := [], alts := [], laidByText := true, laidKinds := [.data, .pinned], laidTests := true, laidLooks := .later }
def TableBoundsUptoCardSaid : Prop := Claim7.holds Tryd.pinned (.plain (OpenSpec.upto tableBoundsSpec)) tableBoundsUptoCard

/-- THE SECOND FORM's CARD OF 'pointsmanlaw6.FieldMoves'. -/
def fieldMovesUptoCard : Claim7 := { stood := { row := fieldMovesUptoRow, standIns := [], harness := (true, "348245f37e525bcfffca93b1b7d7ac6714d0d2170e2af4e996ed49715ea08ef3"), looks := false }, kinds := [], alts := [], laidByText := true, laidKinds := [.data, .pinned], laidTests := true, laidLooks := .later }
def FieldMovesUptoCardSaid : Prop := Claim7.holds Tryd.pinned (.plain (OpenSpec.upto fieldMovesSpec)) fieldMovesUptoCard

/-- THE SECOND FORM's CARD OF 'pointsmanlaw6.FieldStops'. -/
def fieldStopsUptoCard : Claim7 := { stood := { row := fieldStopsUptoRow, standIns := [], harness := (true, "348245f37e525bcfffca93b1b7d7ac6714d0d2170e2af4e996ed49715ea08ef3"), looks := false }, kinds := [], alts := [], laidByText := true, laidKinds := [.data, .pinned], laidTests := true, laidLooks := .later }
def FieldStopsUptoCardSaid : Prop := Claim7.holds Tryd.pinned (.plain (OpenSpec.upto fieldStopsSpec)) fieldStopsUptoCard
end Rows
end Go.Proofs.YtbhmihigfncfgaaDoor
