/-
  DERIVED. GIVEN WITH THE SEED: THE CARDS: each row of YtlknjgmhfimhbacGreatDoorRows.lean that lists a variable, with what it lists TIED to the program's text (the seventh form; the later family's looks); each row that meets fmt, with fmt's text TOLD by the authors' own Lean function (tested against real Go, not proved from fmt's source: count such statements apart). THE CARD IS WHAT COUNTS. Prove the row's statement (the work); the ties are given (YtlknjgmhfimhbacGreatDoorTie.lean); close each card by the builder's one call (the guide's Derived/Test/ToyasCard.lean, 'card_holds'). Laid BY PROGRAM, IN A SANDBOX (cutbox-door.mjs). By AI agents, Wed Nov 11 2026. No macro, syntax, notation, axiom, sorry.
-/
import Derived.Test.YtlknjgmhfimhbacGreatDoorRows
import GoSem.ClaimSeven
namespace Go.Proofs.YtlknjgmhfimhbacGreatDoor
namespace Rows

/-- THE TIED CARD OF 'pointsmanlaw14.PairFew'. -/
def pairFewCard : Claim7 := { stood := { row := pairFewRow, standIns := [], harness := (true, "f75c8bdafac3cee6a2a0596742aa09cb17c21fb5d8f4036dd59eafaed37a6a30"), looks := true }, kinds := [], alts := [], laidByText := true, laidKinds := [.data, .pinned], laidTests := true, laidLooks := .later }
def PairFewCardSaid : Prop := Claim7.holds Tryz.pinned (.plain (OpenSpec.ofChange pairFewSpec)) pairFewCard

/-- THE TIED CARD OF 'pointsmanlaw14.PairPlays'. -/
def pairPlaysCard : Claim7 := { stood := { row := pairPlaysRow, standIns := [], harness := (true, "f75c8bdafac3cee6a2a0596742aa09cb17c21fb5d8f4036dd59eafaed37a6a30"), looks := true }, kinds := [], alts := [], laidByText := true, laidKinds := [.data, .pinned], laidTests := true, laidLooks := .later }
def PairPlaysCardSaid : Prop := Claim7.holds Tryz.pinned (.plain (OpenSpec.ofChange pairPlaysSpec)) pairPlaysCard

/-- THE TIED CARD OF 'pointsmanlaw14.PairOfNothing'. -/
def pairOfNothingCard : Claim7 := { stood := { row := pairOfNothingRow, standIns := [], harness := (true, "f75c8bdafac3cee6a2a0596742aa09cb17c21fb5d8f4036dd59eafaed37a6a30"), looks := true }, kinds := [], alts := [], laidByText := true, laidKinds := [.data, .pinned], laidTests := true, laidLooks := .later }
def PairOfNothingCardSaid : Prop := Claim7.holds Tryz.pinned (.plain (OpenSpec.ofChange pairOfNothingSpec)) pairOfNothingCard

/-- THE TIED CARD OF 'pointsmantop.TopAlone'. -/
def topAloneCard : Claim7 := { stood := { row := topAloneRow, standIns := [], harness := (true, "f75c8bdafac3cee6a2a0596742aa09cb17c21fb5d8f4036dd59eafaed37a6a30"), looks := true }, kinds := [], alts := [], laidByText := true, laidKinds := [.data, .pinned], laidTests := true, laidLooks := .later }
def TopAloneCardSaid : Prop := Claim7.holds Tryz.pinned (.plain (OpenSpec.ofChange topAloneSpec)) topAloneCard

/-- THE TIED CARD OF 'pointsmantop.TopSafe'. -/
def topSafeCard : Claim7 := { stood := { row := topSafeRow, standIns := [], harness := (true, "f75c8bdafac3cee6a2a0596742aa09cb17c21fb5d8f4036dd59eafaed37a6a30"), looks := true }, kinds := [], alts := [], laidByText := true, laidKinds := [.data, .pinned], laidTests := true, laidLooks := .later }
def TopSafeCardSaid : Prop := Claim7.holds Tryz.pinned (.plain (OpenSpec.ofChange topSafeSpec)) topSafeCard

/-- THE SECOND FORM's CARD OF 'pointsmanlaw14.PairFew'. -/
def pairFewUptoCard : Claim7 := { stood := { row := pairFewUptoRow, standIns := [], harness := (true, "f75c8bdafac3cee6a2a0596742aa09cb17c21fb5d8f4036dd59eafaed37a6a30"), looks := true }, kinds := [], alts := [], laidByText := true, laidKinds := [.data, .pinned], laidTests := true, laidLooks := .later }
def PairFewUptoCardSaid : Prop := Claim7.holds Tryz.pinned (.plain (OpenSpec.upto pairFewSpec)) pairFewUptoCard

/-- THE SECOND FORM's CARD OF 'pointsmanlaw14.PairPlays'. -/
def pairPlaysUptoCard : Claim7 := { stood := { row := pairPlaysUptoRow, standIns := [], harness := (true, "f75c8bdafac3cee6a2a0596742aa09cb17c21fb5d8f4036dd59eafaed37a6a30"), looks := true }, kinds := [], alts := [], laidByText := true, laidKinds := [.data, .pinned], laidTests := true, laidLooks := .later }
def PairPlaysUptoCardSaid : Prop := Claim7.holds Tryz.pinned (.plain (OpenSpec.upto pairPlaysSpec)) pairPlaysUptoCard

/-- THE SECOND FORM's CARD OF 'pointsmanlaw14.PairOfNothing'. -/
def pairOfNothingUptoCard : Claim7 := { stood := { row := pairOfNothingUptoRow, standIns := [], harness := (true, "f75c8bdafac3cee6a2a0596742aa09cb17c21fb5d8f4036dd59eafaed37a6a30"), looks := true }, kinds := [], alts := [], laidByText := true, laidKinds := [.data, .pinned], laidTests := true, laidLooks := .later }
def PairOfNothingUptoCardSaid : Prop := Claim7.holds Tryz.pinned (.plain (OpenSpec.upto pairOfNothingSpec)) pairOfNothingUptoCard

/-- THE SECOND FORM's CARD OF 'pointsmantop.TopAlone'. -/
def topAloneUptoCard : Claim7 := { stood := { row := topAloneUptoRow, standIns := [], harness := (true, "f75c8bdafac3cee6a2a0596742aa09cb17c21fb5d8f4036dd59eafaed37a6a30"), looks := true }, kinds := [], alts := [], laidByText := true, laidKinds := [.data, .pinned], laidTests := true, laidLooks := .later }
def TopAloneUptoCardSaid : Prop := Claim7.holds Tryz.pinned (.plain (OpenSpec.upto topAloneSpec)) topAloneUptoCard

/-- THE SECOND FORM's CARD OF 'pointsmantop.TopSafe'. -/
def topSafeUptoCard : Claim7 := { stood := { row := topSafeUptoRow, standIns := [], harness := (true, "f75c8bdafac3cee6a2a0596742aa09cb17c21fb5d8f4036dd59eafaed37a6a30"), looks := true }, kinds := [], alts := [], laidByText := true, laidKinds := [.data, .pinned], laidTests := true, laidLooks := .later }
def TopSafeUptoCardSaid : Prop := Claim7.holds Tryz.pinned (.plain (OpenSpec.upto topSafeSpec)) topSafeUptoCard
end Rows
end Go.Proofs.YtlknjgmhfimhbacGreatDoor
