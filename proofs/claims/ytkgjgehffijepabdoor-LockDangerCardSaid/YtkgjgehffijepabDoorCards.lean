/-
  DERIVED. GIVEN WITH THE SEED: THE CARDS: each row of YtkgjgehffijepabDoorRows.lean that lists a variable, with what it lists TIED to the program's text (the seventh form; the later family's looks); each row that meets fmt, with fmt's text TOLD by the authors' own Lean function (tested against real Go, not proved from fmt's source: count such statements apart). THE CARD IS WHAT COUNTS. Prove the row's statement (the work); the ties are given (YtkgjgehffijepabDoorTie.lean); close each card by the builder's one call (the guide's Derived/Test/ToyasCard.lean, 'card_holds'). Laid BY PROGRAM, IN A SANDBOX (cutbox-door.mjs). By AI agents, Wed Nov 11 2026. No macro, syntax, notation, axiom, sorry.
-/
import Derived.Test.YtkgjgehffijepabDoorRows
import GoSem.ClaimSeven
namespace Go.Proofs.YtkgjgehffijepabDoor
namespace Rows

/-- THE TIED CARD OF 'pointsmanlaw5.LockDanger'. -/
def lockDangerCard : Claim7 := { stood := { row := lockDangerRow, standIns := [], harness := (true, "5072aa4f7af264b1a011ba4566cc1794c2cf4d9d3278d1683d336e54c7f7587b"), looks := false }, kinds := [], alts := [], laidByText := true, laidKinds := [.data, .pinned], laidTests := true, laidLooks := .later }
def LockDangerCardSaid : Prop := Claim7.holds Tryd.pinned (.plain (OpenSpec.ofChange lockDangerSpec)) lockDangerCard

/-- THE TIED CARD OF 'pointsmanlaw5.LockIn'. -/
def lockInCard : Claim7 := { stood := { row := lockInRow, standIns := [], harness := (true, "5072aa4f7af264b1a011ba4566cc1794c2cf4d9d3278d1683d336e54c7f7587b"), looks := false }, kinds := [], alts := [], laidByText := true, laidKinds := [.data, .pinned], laidTests := true, laidLooks := .later }
def LockInCardSaid : Prop := Claim7.holds Tryd.pinned (.plain (OpenSpec.ofChange lockInSpec)) lockInCard

/-- THE TIED CARD OF 'pointsmanlaw5.LockApart'. -/
def lockApartCard : Claim7 := { stood := { row := lockApartRow, standIns := [], harness := (true, "5072aa4f7af264b1a011ba4566cc1794c2cf4d9d3278d1683d336e54c7f7587b"), looks := false }, kinds := [], alts := [], laidByText := true, laidKinds := [.data, .pinned], laidTests := true, laidLooks := .later }
def LockApartCardSaid : Prop := Claim7.holds Tryd.pinned (.plain (OpenSpec.ofChange lockApartSpec)) lockApartCard

/-- THE TIED CARD OF 'pointsmanlaw5.LockOfNothing'. -/
def lockOfNothingCard : Claim7 := { stood := { row := lockOfNothingRow, standIns := [], harness := (true, "5072aa4f7af264b1a011ba4566cc1794c2cf4d9d3278d1683d336e54c7f7587b"), looks := false }, kinds := [], alts := [], laidByText := true, laidKinds := [.data, .pinned], laidTests := true, laidLooks := .later }
def LockOfNothingCardSaid : Prop := Claim7.holds Tryd.pinned (.plain (OpenSpec.ofChange lockOfNothingSpec)) lockOfNothingCard

/-- THE TIED CARD OF 'pointsmanlaw5.LockSetsBack'. -/
def lockSetsBackCard : Claim7 := { stood := { row := lockSetsBackRow, standIns := [], harness := (true, "5072aa4f7af264b1a011ba4566cc1794c2cf4d9d3278d1683d336e54c7f7587b"), looks := false }, kinds := [], alts := [], laidByText := true, laidKinds := [.data, .pinned], laidTests := true, laidLooks := .later }
def LockSetsBackCardSaid : Prop := Claim7.holds Tryd.pinned (.plain (OpenSpec.ofChange lockSetsBackSpec)) lockSetsBackCard

/-- THE TIED CARD OF 'pointsmanlaw5.LockOwn'. -/
def lockOwnCard : Claim7 := { stood := { row := lockOwnRow, standIns := [], harness := (true, "5072aa4f7af264b1a011ba4566cc1794c2cf4d9d3278d1683d336e54c7f7587b"), looks := false }, kinds := [], alts := [], laidByText := true, laidKinds := [.data, .pinned], laidTests := true, laidLooks := .later }
def LockOwnCardSaid : Prop := Claim7.holds Tryd.pinned (.plain (OpenSpec.ofChange lockOwnSpec)) lockOwnCard

/-- THE SECOND FORM's CARD OF 'pointsmanlaw5.LockDanger'. -/
def lockDangerUptoCard : Claim7 := { stood := { row := lockDangerUptoRow, standIns := [], harness := (true, "5072aa4f7af264b1a011ba4566cc1794c2cf4d9d3278d1683d336e54c7f7587b"), looks := false }, kinds := [], alts := [], laidByText := true, laidKinds := [.data, .pinned], laidTests := true, laidLooks := .later }
def LockDangerUptoCardSaid : Prop := Claim7.holds Tryd.pinned (.plain (OpenSpec.upto lockDangerSpec)) lockDangerUptoCard

/-- THE SECOND FORM's CARD OF 'pointsmanlaw5.LockIn'. -/
def lockInUptoCard : Claim7 := { stood := { row := lockInUptoRow, standIns := [], harness := (true, "5072aa4f7af264b1a011ba4566cc1794c2cf4d9d3278d1683d336e54c7f7587b"), looks := false }, kinds := [], alts := [], laidByText := true, laidKinds := [.data, .pinned], laidTests := true, laidLooks := .later }
def LockInUptoCardSaid : Prop := Claim7.holds Tryd.pinned (.plain (OpenSpec.upto lockInSpec)) lockInUptoCard

/-- THE SECOND FORM's CARD OF 'pointsmanlaw5.LockApart'. -/
def lockApartUptoCard : Claim7 := { stood := { row := lockApartUptoRow, standIns := [], harness := (true, "5072aa4f7af264b1a011ba4566cc1794c2cf4d9d3278d1683d336e54c7f7587b"), looks := false }, kinds := [], alts := [], laidByText := true, laidKinds := [.data, .pinned], laidTests := true, laidLooks := .later }
def LockApartUptoCardSaid : Prop := Claim7.holds Tryd.pinned (.plain (OpenSpec.upto lockApartSpec)) lockApartUptoCard

/-- THE SECOND FORM's CARD OF 'pointsmanlaw5.LockOfNothing'. -/
def lockOfNothingUptoCard : Claim7 := { stood := { row := lockOfNothingUptoRow, standIns := [], harness := (true, "5072aa4f7af264b1a011ba4566cc1794c2cf4d9d3278d1683d336e54c7f7587b"), looks := false }, kinds := [], alts := [], laidByText := true, laidKinds := [.data, .pinned], laidTests := true, laidLooks := .later }
def LockOfNothingUptoCardSaid : Prop := Claim7.holds Tryd.pinned (.plain (OpenSpec.upto lockOfNothingSpec)) lockOfNothingUptoCard

/-- THE SECOND FORM's CARD OF 'pointsmanlaw5.LockSetsBack'. -/
def lockSetsBackUptoCard : Claim7 := { stood := { row := lockSetsBackUptoRow, standIns := [], harness := (true, "5072aa4f7af264b1a011ba4566cc1794c2cf4d9d3278d1683d336e54c7f7587b"), looks := false }, kinds := [], alts := [], laidByText := true, laidKinds := [.data, .pinned], laidTests := true, laidLooks := .later }
def LockSetsBackUptoCardSaid : Prop := Claim7.holds Tryd.pinned (.plain (OpenSpec.upto lockSetsBackSpec)) lockSetsBackUptoCard

/-- THE SECOND FORM's CARD OF 'pointsmanlaw5.LockOwn'. -/
def lockOwnUptoCard : Claim7 := { stood := { row := lockOwnUptoRow, standIns := [], harness := (true, "5072aa4f7af264b1a011ba4566cc1794c2cf4d9d3278d1683d336e54c7f7587b"), looks := false }, kinds := [], alts := [], laidByText := true, laidKinds := [.data, .pinned], laidTests := true, laidLooks := .later }
def LockOwnUptoCardSaid : Prop := Claim7.holds Tryd.pinned (.plain (OpenSpec.upto lockOwnSpec)) lockOwnUptoCard
end Rows
end Go.Proofs.YtkgjgehffijepabDoor
