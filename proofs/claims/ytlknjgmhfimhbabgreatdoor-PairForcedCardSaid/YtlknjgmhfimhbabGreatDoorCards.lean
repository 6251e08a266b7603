/-
  DERIVED. GIVEN WITH THE SEED: THE CARDS: each row of YtlknjgmhfimhbabGreatDoorRows.lean that lists a variable, with what it lists TIED to the program's text (the seventh form; the later family's looks); each row that meets fmt, with fmt's text TOLD by the authors' own Lean function (tested against real Go, not proved from fmt's source: count such statements apart). THE CARD IS WHAT COUNTS. Prove the row's statement (the work); the ties are given (YtlknjgmhfimhbabGreatDoorTie.lean); close each card by the builder's one call (the guide's Derived/Test/ToyasCard.lean, 'card_holds'). Laid BY PROGRAM, IN A SANDBOX (cutbox-door.mjs). By AI agents, Wed Nov 11 2026. No macro, syntax, notation, axiom, sorry.
-/
import Derived.Test.YtlknjgmhfimhbabGreatDoorRows
import GoSem.ClaimSeven
namespace Go.Proofs.YtlknjgmhfimhbabGreatDoor
namespace Rows

/-- THE TIED CARD OF 'pointsmanlaw14.PairCrashes'. -/
def pairCrashesCard : Claim7 := { stood := { row := pairCrashesRow, standIns := [], harness := (true, "d7ebf49903bcd012a50a5831aea4ef13f2a20311fb658b846b5ed53e6df47494"), looks := true }, kinds := [], alts := [], laidByText := true, laidKinds := [.data, .pinned], laidTests := true, laidLooks := .later }
def PairCrashesCardSaid : Prop := Claim7.holds Tryz.pinned (.plain (OpenSpec.ofChange pairCrashesSpec)) pairCrashesCard

/-- THE TIED CARD OF 'pointsmanlaw14.PairDeaf'. -/
def pairDeafCard : Claim7 := { stood := { row := pairDeafRow, standIns := [], harness := (true, "d7ebf49903bcd012a50a5831aea4ef13f2a20311fb658b846b5ed53e6df47494"), looks := true }, kinds := [], alts := [], laidByText := true, laidKinds := [.data, .pinned], laidTests := true, laidLooks := .later }
def PairDeafCardSaid : Prop := Claim7.holds Tryz.pinned (.plain (OpenSpec.ofChange pairDeafSpec)) pairDeafCard

/-- THE TIED CARD OF 'pointsmanlaw14.PairStarts'. -/
def pairStartsCard : Claim7 := { stood := { row := pairStartsRow, standIns := [], harness := (true, "d7ebf49903bcd012a50a5831aea4ef13f2a20311fb658b846b5ed53e6df47494"), looks := true }, kinds := [], alts := [], laidByText := true, laidKinds := [.data, .pinned], laidTests := true, laidLooks := .later }
def PairStartsCardSaid : Prop := Claim7.holds Tryz.pinned (.plain (OpenSpec.ofChange pairStartsSpec)) pairStartsCard

/-- THE TIED CARD OF 'pointsmanlaw14.PairTrain'. -/
def pairTrainCard : Claim7 := { stood := { row := pairTrainRow, standIns := [], harness := (true, "d7ebf49903bcd012a50a5831aea4ef13f2a20311fb658b846b5ed53e6df47494"), looks := true }, kinds := [], alts := [], laidByText := true, laidKinds := [.data, .pinned], laidTests := true, laidLooks := .later }
def PairTrainCardSaid : Prop := Claim7.holds Tryz.pinned (.plain (OpenSpec.ofChange pairTrainSpec)) pairTrainCard

/-- THE TIED CARD OF 'pointsmanlaw14.PairForced'. -/
def pairForcedCard : Claim7 := { stood := { row := pairForcedRow, standIns := [], harness := (true, "d7ebf49903bcd012a50a5831aea4ef13f2a20311fb658b846b5ed53e6df47494"), looks := true }, kinds := [], alts := [], laidByText := true, laidKinds := [.data, .pinned], laidTests := true, laidLooks := .later }
def PairForcedCardSaid : Prop := Claim7.holds Tryz.pinned (.plain (OpenSpec.ofChange pairForcedSpec)) pairForcedCard

/-- THE SECOND FORM's CARD OF 'pointsmanlaw14.PairCrashes'. -/
def pairCrashesUptoCard : Claim7 := { stood := { row := pairCrashesUptoRow, standIns := [], harness := (true, "d7ebf49903bcd012a50a5831aea4ef13f2a20311fb658b846b5ed53e6df47494"), looks := true }, kinds := [], alts := [], laidByText := true, laidKinds := [.data, .pinned], laidTests := true, laidLooks := .later }
def PairCrashesUptoCardSaid : Prop := Claim7.holds Tryz.pinned (.plain (OpenSpec.upto pairCrashesSpec)) pairCrashesUptoCard

/-- THE SECOND FORM's CARD OF 'pointsmanlaw14.PairDeaf'. -/
def pairDeafUptoCard : Claim7 := { stood := { row := pairDeafUptoRow, standIns := [], harness := (true, "d7ebf49903bcd012a50a5831aea4ef13f2a20311fb658b846b5ed53e6df47494"), looks := true }, kinds := [], alts := [], laidByText := true, laidKinds := [.data, .pinned], laidTests := true, laidLooks := .later }
def PairDeafUptoCardSaid : Prop := Claim7.holds Tryz.pinned (.plain (OpenSpec.upto pairDeafSpec)) pairDeafUptoCard

/-- THE SECOND FORM's CARD OF 'pointsmanlaw14.PairStarts'. -/
def pairStartsUptoCard : Claim7 := { stood := { row := pairStartsUptoRow, standIns := [], harness := (true, "d7ebf49903bcd012a50a5831aea4ef13f2a20311fb658b846b5ed53e6df47494"), looks := true }, kinds := [], alts := [], laidByText := true, laidKinds := [.data, .pinned], laidTests := true, laidLooks := .later }
def PairStartsUptoCardSaid : Prop := Claim7.holds Tryz.pinned (.plain (OpenSpec.upto pairStartsSpec)) pairStartsUptoCard

/-- THE SECOND FORM's CARD OF 'pointsmanlaw14.PairTrain'. -/
def pairTrainUptoCard : Claim7 := { stood := { row := pairTrainUptoRow, standIns := [], harness := (true, "d7ebf49903bcd012a50a5831aea4ef13f2a20311fb658b846b5ed53e6df47494"), looks := true }, kinds := [], alts := [], laidByText := true, laidKinds := [.data, .pinned], laidTests := true, laidLooks := .later }
def PairTrainUptoCardSaid : Prop := Claim7.holds Tryz.pinned (.plain (OpenSpec.upto pairTrainSpec)) pairTrainUptoCard

/-- THE SECOND FORM's CARD OF 'pointsmanlaw14.PairForced'. -/
def pairForcedUptoCard : Claim7 := { stood := { row := pairForcedUptoRow, standIns := [], harness := (true, "d7ebf49903bcd012a50a5831aea4ef13f2a20311fb658b846b5ed53e6df47494"), looks := true }, kinds := [], alts := [], laidByText := true, laidKinds := [.data, .pinned], laidTests := true, laidLooks := .later }
def PairForcedUptoCardSaid : Prop := Claim7.holds Tryz.pinned (.plain (OpenSpec.upto pairForcedSpec)) pairForcedUptoCard
end Rows
end Go.Proofs.YtlknjgmhfimhbabGreatDoor
