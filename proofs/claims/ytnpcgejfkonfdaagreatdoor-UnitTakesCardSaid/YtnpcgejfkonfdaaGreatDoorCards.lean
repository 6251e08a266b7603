/-
  DERIVED. GIVEN WITH THE SEED: THE CARDS: each row of YtnpcgejfkonfdaaGreatDoorRows.lean that lists a variable, with what it lists TIED to the program's text (the seventh form; the later family's looks); each row that meets fmt, with fmt's text TOLD by the authors' own Lean function (tested against real Go, not proved from fmt's source: count such statements apart). THE CARD IS WHAT COUNTS. Prove the row's statement (the work); the ties are given (YtnpcgejfkonfdaaGreatDoorTie.lean); close each card by the builder's one call (the guide's Derived/Test/ToyasCard.lean, 'card_holds'). Laid BY PROGRAM, IN A SANDBOX (cutbox-door.mjs). By AI agents, Wed Nov 11 2026. No macro, syntax, notation, axiom, sorry.
-/
import Derived.Test.YtnpcgejfkonfdaaGreatDoorRows
import GoSem.ClaimSeven
namespace Go.Proofs.YtnpcgejfkonfdaaGreatDoor
namespace Rows

/-- THE TIED CARD OF 'pointsmanlaw12.UnitDeaf'. -/
def unitDeafCard : Claim7 := { stood := { row := unitDeafRow, standIns := [], harness := (true, "4998a90d77b3641fa3fd166215436704e82a22d2c066471ad4579c3a94cc80d7"), looks := true }, kinds := [], alts := [], laidByText := true, laidKinds := [.data, .pinned], laidTests := true, laidLooks := .later }
def UnitDeafCardSaid : Prop := Claim7.holds Tryz.pinned (.plain (OpenSpec.ofChange unitDeafSpec)) unitDeafCard

/-- THE TIED CARD OF 'pointsmanlaw12.UnitTakes'. -/
def unitTakesCard : Claim7 := { stood := { row := unitTakesRow, standIns := [], harness := (true, "4998a90d77b3641fa3fd166215436704e82a22d2c066471ad4579c3a94cc80d7"), looks := true }, kinds := [], alts := [], laidByText := true, laidKinds := [.data, .pinned], laidTests := true, laidLooks := .later }
def UnitTakesCardSaid : Prop := Claim7.holds Tryz.pinned (.plain (OpenSpec.ofChange unitTakesSpec)) unitTakesCard

/-- THE SECOND FORM's CARD OF 'pointsmanlaw12.UnitDeaf'. -/
def unitDeafUptoCard : Claim7 := { stood := { row := unitDeafUptoRow, standIns := [], harness := (true, "4998a90d77b3641fa3fd166215436704e82a22d2c066471ad4579c3a94cc80d7"), looks := true }, kinds := [], alts := [], laidByText := true, laidKinds := [.data, .pinned], laidTests := true, laidLooks := .later }
def UnitDeafUptoCardSaid : Prop := Claim7.holds Tryz.pinned (.plain (OpenSpec.upto unitDeafSpec)) unitDeafUptoCard

/-- THE SECOND FORM's CARD OF 'pointsmanlaw12.UnitTakes'. -/
def unitTakesUptoCard : Claim7 := { stood := { row := unitTakesUptoRow, standIns := [], harness := (true, "4998a90d77b3641fa3fd166215436704e82a22d2c066471ad4579c3a94cc80d7"), looks := true }, kinds := [], alts := [], laidByText := true, laidKinds := [.data, .pinned], laidTests := true, laidLooks := .later }
def UnitTakesUptoCardSaid : Prop := Claim7.holds Tryz.pinned (.plain (OpenSpec.upto unitTakesSpec)) unitTakesUptoCard
end Rows
end Go.Proofs.YtnpcgejfkonfdaaGreatDoor
