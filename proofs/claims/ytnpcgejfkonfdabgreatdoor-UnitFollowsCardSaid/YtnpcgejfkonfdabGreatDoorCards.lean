/-
  DERIVED. GIVEN WITH THE SEED: THE CARDS: each row of YtnpcgejfkonfdabGreatDoorRows.lean that lists a variable, with what it lists TIED to the program's text (the seventh form; the later family's looks); each row that meets fmt, with fmt's text TOLD by the authors' own Lean function (tested against real Go, not proved from fmt's source: count such statements apart). THE CARD IS WHAT COUNTS. Prove the row's statement (the work); the ties are given (YtnpcgejfkonfdabGreatDoorTie.lean); close each card by the builder's one call (the guide's Derived/Test/ToyasCard.lean, 'card_holds'). Laid BY PROGRAM, IN A SANDBOX (cutbox-door.mjs). By AI agents, Wed Nov 11 2026. No macro, syntax, notation, axiom, sorry.
-/
import Derived.Test.YtnpcgejfkonfdabGreatDoorRows
import GoSem.ClaimSeven
namespace Go.Proofs.YtnpcgejfkonfdabGreatDoor
namespace Rows

/-- THE TIED CARD OF 'pointsmanlaw12.UnitCommands'. -/
def unitCommandsCard : Claim7 := { stood := { row := unitCommandsRow, standIns := [], harness := (true, "19497271d5d3e106ecc14b9c1c19a824923db1cf03fd3ec1fdd7bc570e58660d"), looks := true }, kinds := [], alts := [], laidByText := true, laidKinds := [.data, .pinned], laidTests := true, laidLooks := .later }
def UnitCommandsCardSaid : Prop := Claim7.holds Tryz.pinned (.plain (OpenSpec.ofChange unitCommandsSpec)) unitCommandsCard

/-- THE TIED CARD OF 'pointsmanlaw12.UnitSends'. -/
def unitSendsCard : Claim7 := { stood := { row := unitSendsRow, standIns := [], harness := (true, "19497271d5d3e106ecc14b9c1c19a824923db1cf03fd3ec1fdd7bc570e58660d"), looks := true }, kinds := [], alts := [], laidByText := true, laidKinds := [.data, .pinned], laidTests := true, laidLooks := .later }
def UnitSendsCardSaid : Prop := Claim7.holds Tryz.pinned (.plain (OpenSpec.ofChange unitSendsSpec)) unitSendsCard

/-- THE TIED CARD OF 'pointsmanlaw12.UnitFollows'. -/
def unitFollowsCard : Claim7 := { stood := { row := unitFollowsRow, standIns := [], harness := (true, "19497271d5d3e106ecc14b9c1c19a824923db1cf03fd3ec1fdd7bc570e58660d"), looks := true }, kinds := [], alts := [], laidByText := true, laidKinds := [.data, .pinned], laidTests := true, laidLooks := .later }
def UnitFollowsCardSaid : Prop := Claim7.holds Tryz.pinned (.plain (OpenSpec.ofChange unitFollowsSpec)) unitFollowsCard

/-- THE TIED CARD OF 'pointsmanlaw12.UnitOther'. -/
def unitOtherCard : Claim7 := { stood := { row := unitOtherRow, standIns := [], harness := (true, "19497271d5d3e106ecc14b9c1c19a824923db1cf03fd3ec1fdd7bc570e58660d"), looks := true }, kinds := [], alts := [], laidByText := true, laidKinds := [.data, .pinned], laidTests := true, laidLooks := .later }
def UnitOtherCardSaid : Prop := Claim7.holds Tryz.pinned (.plain (OpenSpec.ofChange unitOtherSpec)) unitOtherCard

/-- THE TIED CARD OF 'pointsmanlaw12.UnitQuiet'. -/
def unitQuietCard : Claim7 := { stood := { row := unitQuietRow, standIns := [], harness := (true, "19497271d5d3e106ecc14b9c1c19a824923db1cf03fd3ec1fdd7bc570e58660d"), looks := true }, kinds := [], alts := [], laidByText := true, laidKinds := [.data, .pinned], laidTests := true, laidLooks := .later }
def UnitQuietCardSaid : Prop := Claim7.holds Tryz.pinned (.plain (OpenSpec.ofChange unitQuietSpec)) unitQuietCard

/-- THE TIED CARD OF 'pointsmanlaw12.UnitOfNothing'. -/
def unitOfNothingCard : Claim7 := { stood := { row := unitOfNothingRow, standIns := [], harness := (true, "19497271d5d3e106ecc14b9c1c19a824923db1cf03fd3ec1fdd7bc570e58660d"), looks := true }, kinds := [], alts := [], laidByText := true, laidKinds := [.data, .pinned], laidTests := true, laidLooks := .later }
def UnitOfNothingCardSaid : Prop := Claim7.holds Tryz.pinned (.plain (OpenSpec.ofChange unitOfNothingSpec)) unitOfNothingCard

/-- THE SECOND FORM's CARD OF 'pointsmanlaw12.UnitCommands'. -/
def unitCommandsUptoCard : Claim7 := { stood := { row := unitCommandsUptoRow, standIns := [], harness := (true, "19497271d5d3e106ecc14b9c1c19a824923db1cf03fd3ec1fdd7bc570e58660d"), looks := true }, kinds := [], alts := [], laidByText := true, laidKinds := [.data, .pinned], laidTests := true, laidLooks := .later }
def UnitCommandsUptoCardSaid : Prop := Claim7.holds Tryz.pinned (.plain (OpenSpec.upto unitCommandsSpec)) unitCommandsUptoCard

/-- THE SECOND FORM's CARD OF 'pointsmanlaw12.UnitSends'. -/
def unitSendsUptoCard : Claim7 := { stood := { row := unitSendsUptoRow, standIns := [], harness := (true, "19497271d5d3e106ecc14b9c1c19a824923db1cf03fd3ec1fdd7bc570e58660d"), looks := true }, kinds := [], alts := [], laidByText := true, laidKinds := [.data, .pinned], laidTests := true, laidLooks := .later }
def UnitSendsUptoCardSaid : Prop := Claim7.holds Tryz.pinned (.plain (OpenSpec.upto unitSendsSpec)) unitSendsUptoCard

/-- THE SECOND FORM's CARD OF 'pointsmanlaw12.UnitFollows'. -/
def unitFollowsUptoCard : Claim7 := { stood := { row := unitFollowsUptoRow, standIns := [], harness := (true, "19497271d5d3e106ecc14b9c1c19a824923db1cf03fd3ec1fdd7bc570e58660d"), looks := true }, kinds := [], alts := [], laidByText := true, laidKinds := [.data, .pinned], laidTests := true, laidLooks := .later }
def UnitFollowsUptoCardSaid : Prop := Claim7.holds Tryz.pinned (.plain (OpenSpec.upto unitFollowsSpec)) unitFollowsUptoCard

/-- THE SECOND FORM's CARD OF 'pointsmanlaw12.UnitOther'. -/
def unitOtherUptoCard : Claim7 := { stood := { row := unitOtherUptoRow, standIns := [], harness := (true, "19497271d5d3e106ecc14b9c1c19a824923db1cf03fd3ec1fdd7bc570e58660d"), looks := true }, kinds := [], alts := [], laidByText := true, laidKinds := [.data, .pinned], laidTests := true, laidLooks := .later }
def UnitOtherUptoCardSaid : Prop := Claim7.holds Tryz.pinned (.plain (OpenSpec.upto unitOtherSpec)) unitOtherUptoCard

/-- THE SECOND FORM's CARD OF 'pointsmanlaw12.UnitQuiet'. -/
def unitQuietUptoCard : Claim7 := { stood := { row := unitQuietUptoRow, standIns := [], harness := (true, "19497271d5d3e106ecc14b9c1c19a824923db1cf03fd3ec1fdd7bc570e58660d"), looks := true }, kinds := [], alts := [], laidByText := true, laidKinds := [.data, .pinned], laidTests := true, laidLooks := .later }
def UnitQuietUptoCardSaid : Prop := Claim7.holds Tryz.pinned (.plain (OpenSpec.upto unitQuietSpec)) unitQuietUptoCard

/-- THE SECOND FORM's CARD OF 'pointsmanlaw12.UnitOfNothing'. -/
def unitOfNothingUptoCard : Claim7 := { stood := { row := unitOfNothingUptoRow, standIns := [], harness := (true, "19497271d5d3e106ecc14b9c1c19a824923db1cf03fd3ec1fdd7bc570e58660d"), looks := true }, kinds := [], alts := [], laidByText := true, laidKinds := [.data, .pinned], laidTests := true, laidLooks := .later }
def UnitOfNothingUptoCardSaid : Prop := Claim7.holds Tryz.pinned (.plain (OpenSpec.upto unitOfNothingSpec)) unitOfNothingUptoCard
end Rows
end Go.Proofs.YtnpcgejfkonfdabGreatDoor
