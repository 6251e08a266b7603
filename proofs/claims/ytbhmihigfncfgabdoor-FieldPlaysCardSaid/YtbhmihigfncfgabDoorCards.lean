/-
  DERIVED. GIVEN WITH THE SEED: THE CARDS: each row of YtbhmihigfncfgabDoorRows.lean that lists a variable, with what it lists TIED to the program's text (the seventh form; the later family's looks); each row that meets fmt, with fmt's text TOLD by the authors' own Lean function (tested against real Go, not proved from fmt's source: count such statements apart). THE CARD IS WHAT COUNTS. Prove the row's statement (the work); the ties are given (YtbhmihigfncfgabDoorTie.lean); close each card by the builder's one call (the guide's Derived/Test/ToyasCard.lean, 'card_holds'). Laid BY PROGRAM, IN A SANDBOX (cutbox-door.mjs). By AI agents, Wed Nov 11 2026. No macro, syntax, notation, axiom, sorry.
-/
import Derived.Test.YtbhmihigfncfgabDoorRows
import GoSem.ClaimSeven
namespace Go.Proofs.YtbhmihigfncfgabDoor
namespace Rows

/-- THE TIED CARD OF 'pointsmanlaw6.FieldKeeps'. -/
def fieldKeepsCard : Claim7 := { stood := { row := fieldKeepsRow, standIns := [], harness := (true, "0a3549b1ff74bfba2ef963813598a2268f85fa1b989d515e599a58c7a655be22"), looks := false }, kinds := [], alts := [], laidByText := true, laidKinds := [.data, .pinned], laidTests := true, laidLooks := .later }
def FieldKeepsCardSaid : Prop := Claim7.holds Tryd.pinned (.plain (OpenSpec.ofChange fieldKeepsSpec)) fieldKeepsCard

/-- THE TIED CARD OF 'pointsmanlaw4.TableTells'. -/
def tableTellsCard : Claim7 := { stood := { row := tableTellsRow, standIns := [], harness := (true, "0a3549b1ff74bfba2ef963813598a2268f85fa1b989d515e599a58c7a655be22"), looks := false }, kinds := [], alts := [], laidByText := true, laidKinds := [.data, .pinned], laidTests := true, laidLooks := .later }
def TableTellsCardSaid : Prop := Claim7.holds Tryd.pinned (.plain (OpenSpec.ofChange tableTellsSpec)) tableTellsCard

/-- THE TIED CARD OF 'pointsmanlaw4.TableEntry'. -/
def tableEntryCard : Claim7 := { stood := { row := tableEntryRow, standIns := [], harness := (true, "0a3549b1ff74bfba2ef963813598a2268f85fa1b989d515e599a58c7a655be22"), looks := false }, kinds := [], alts := [], laidByText := true, laidKinds := [.data, .pinned], laidTests := true, laidLooks := .later }
def TableEntryCardSaid : Prop := Claim7.holds Tryd.pinned (.plain (OpenSpec.ofChange tableEntrySpec)) tableEntryCard

/-- THE TIED CARD OF 'pointsmanlaw6.FieldApart'. -/
def fieldApartCard : Claim7 := { stood := { row := fieldApartRow, standIns := [], harness := (true, "0a3549b1ff74bfba2ef963813598a2268f85fa1b989d515e599a58c7a655be22"), looks := false }, kinds := [], alts := [], laidByText := true, laidKinds := [.data, .pinned], laidTests := true, laidLooks := .later }
def FieldApartCardSaid : Prop := Claim7.holds Tryd.pinned (.plain (OpenSpec.ofChange fieldApartSpec)) fieldApartCard

/-- THE TIED CARD OF 'pointsmanlaw6.FieldTrains'. -/
def fieldTrainsCard : Claim7 := { stood := { row := fieldTrainsRow, standIns := [], harness := (true, "0a3549b1ff74bfba2ef963813598a2268f85fa1b989d515e599a58c7a655be22"), looks := false }, kinds := [], alts := [], laidByText := true, laidKinds := [.data, .pinned], laidTests := true, laidLooks := .later }
def FieldTrainsCardSaid : Prop := Claim7.holds Tryd.pinned (.plain (OpenSpec.ofChange fieldTrainsSpec)) fieldTrainsCard

/-- THE TIED CARD OF 'pointsmanlaw6.FieldSticks'. -/
def fieldSticksCard : Claim7 := { stood := { row := fieldSticksRow, standIns := [], harness := (true, "0a3549b1ff74bfba2ef963813598a2268f85fa1b989d515e599a58c7a655be22"), looks := false }, kinds := [], alts := [], laidByText := true, laidKinds := [.data, .pinned], laidTests := true, laidLooks := .later }
def FieldSticksCardSaid : Prop := Claim7.holds Tryd.pinned (.plain (OpenSpec.ofChange fieldSticksSpec)) fieldSticksCard

/-- THE TIED CARD OF 'pointsmanlaw6.FieldPlays'. -/
def fieldPlaysCard : Claim7 := { stood := { row := fieldPlaysRow, standIns := [], harness := (true, "0a3549b1ff74bfba2ef963813598a2268f85fa1b989d515e599a58c7a655be22"), looks := false }, kinds := [], alts := [], laidByText := true, laidKinds := [.data, .pinned], laidTests := true, laidLooks := .later }
def FieldPlaysCardSaid : Prop := Claim7.holds Tryd.pinned (.plain (OpenSpec.ofChange fieldPlaysSpec)) fieldPlaysCard

/-- THE TIED CARD OF 'pointsmanlaw6.FieldOwn'. -/
def fieldOwnCard : Claim7 := { stood := { row := fieldOwnRow, standIns := [], harness := (true, "0a3549b1ff74bfba2ef963813598a2268f85fa1b989d515e599a58c7a655be22"), looks := false }, kinds := [], alts := [], laidByText := true, laidKinds := [.data, .pinned], laidTests := true, laidLooks := .later }
def FieldOwnCardSaid : Prop := Claim7.holds Tryd.pinned (.plain (OpenSpec.ofChange fieldOwnSpec)) fieldOwnCard

/-- THE SECOND FORM's CARD OF 'pointsmanlaw6.FieldKeeps'. -/
def fieldKeepsUptoCard : Claim7 := { stood := { row := fieldKeepsUptoRow, standIns := [], harness := (true, "0a3549b1ff74bfba2ef963813598a2268f85fa1b989d515e599a58c7a655be22"), looks := false }, kinds := [], alts := [], laidByText := true, laidKinds := [.data, .pinned], laidTests := true, laidLooks := .later }
def FieldKeepsUptoCardSaid : Prop := Claim7.holds Tryd.pinned (.plain (OpenSpec.upto fieldKeepsSpec)) fieldKeepsUptoCard

/-- THE SECOND FORM's CARD OF 'pointsmanlaw4.TableTells'. -/
def tableTellsUptoCard : Claim7 := { stood := { row := tableTellsUptoRow, standIns := [], harness := (true, "0a3549b1ff74bfba2ef963813598a2268f85fa1b989d515e599a58c7a655be22"), looks := false }, kinds := [], alts := [], laidByText := true, laidKinds := [.data, .pinned], laidTests := true, laidLooks := .later }
def TableTellsUptoCardSaid : Prop := Claim7.holds Tryd.pinned (.plain (OpenSpec.upto tableTellsSpec)) tableTellsUptoCard

/-- THE SECOND FORM's CARD OF 'pointsmanlaw4.TableEntry'. -/
def tableEntryUptoCard : Claim7 := { stood := { row := tableEntryUptoRow, standIns := [], harness := (true, "0a3549b1ff74bfba2ef963813598a2268f85fa1b989d515e599a58c7a655be22"), looks := false }, kinds := [], alts := [], laidByText := true, laidKinds := [.data, .pinned], laidTests := true, laidLooks := .later }
def TableEntryUptoCardSaid : Prop := Claim7.holds Tryd.pinned (.plain (OpenSpec.upto tableEntrySpec)) tableEntryUptoCard

/-- THE SECOND FORM's CARD OF 'pointsmanlaw6.FieldApart'. -/
def fieldApartUptoCard : Claim7 := { stood := { row := fieldApartUptoRow, standIns := [], harness := (true, "0a3549b1ff74bfba2ef963813598a2268f85fa1b989d515e599a58c7a655be22"), looks := false }, kinds := [], alts := [], laidByText := true, laidKinds := [.data, .pinned], laidTests := true, laidLooks := .later }
def FieldApartUptoCardSaid : Prop := Claim7.holds Tryd.pinned (.plain (OpenSpec.upto fieldApartSpec)) fieldApartUptoCard

/-- THE SECOND FORM's CARD OF 'pointsmanlaw6.FieldTrains'. -/
def fieldTrainsUptoCard : Claim7 := { stood := { row := fieldTrainsUptoRow, standIns := [], harness := (true, "0a3549b1ff74bfba2ef963813598a2268f85fa1b989d515e599a58c7a655be22"), looks := false }, kinds := [], alts := [], laidByText := true, laidKinds := [.data, .pinned], laidTests := true, laidLooks := .later }
def FieldTrainsUptoCardSaid : Prop := Claim7.holds Tryd.pinned (.plain (OpenSpec.upto fieldTrainsSpec)) fieldTrainsUptoCard

/-- THE SECOND FORM's CARD OF 'pointsmanlaw6.FieldSticks'. -/
def fieldSticksUptoCard : Claim7 := { stood := { row := fieldSticksUptoRow, standIns := [], harness := (true, "0a3549b1ff74bfba2ef963813598a2268f85fa1b989d515e599a58c7a655be22"), looks := false }, kinds := [], alts := [], laidByText := true, laidKinds := [.data, .pinned], laidTests := true, laidLooks := .later }
def FieldSticksUptoCardSaid : Prop := Claim7.holds Tryd.pinned (.plain (OpenSpec.upto fieldSticksSpec)) fieldSticksUptoCard

/-- THE SECOND FORM's CARD OF 'pointsmanlaw6.FieldPlays'. -/
def fieldPlaysUptoCard : Claim7 := { stood := { row := fieldPlaysUptoRow, standIns := [], harness := (true, "0a3549b1ff74bfba2ef963813598a2268f85fa1b989d515e599a58c7a655be22"), looks := false }, kinds := [], alts := [], laidByText := true, laidKinds := [.data, .pinned], laidTests := true, laidLooks := .later }
def FieldPlaysUptoCardSaid : Prop := Claim7.holds Tryd.pinned (.plain (OpenSpec.upto fieldPlaysSpec)) fieldPlaysUptoCard

/-- THE SECOND FORM's CARD OF 'pointsmanlaw6.FieldOwn'. -/
def fieldOwnUptoCard : Claim7 := { stood := { row := fieldOwnUptoRow, standIns := [], harness := (true, "0a3549b1ff74bfba2ef963813598a2268f85fa1b989d515e599a58c7a655be22"), looks := false }, kinds := [], alts := [], laidByText := true, laidKinds := [.data, .pinned], laidTests := true, laidLooks := .later }
def FieldOwnUptoCardSaid : Prop := Claim7.holds Tryd.pinned (.plain (OpenSpec.upto fieldOwnSpec)) fieldOwnUptoCard
end Rows
end Go.Proofs.YtbhmihigfncfgabDoor
