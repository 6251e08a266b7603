/-
  DERIVED. GIVEN WITH THE SEED: THE CARDS: each row of YtkgjgehffijepaaDoorRows.lean that lists a variable, with what it lists TIED to the program's text (the seventh form; the later family's looks); each row that meets fmt, with fmt's text TOLD by the authors' own Lean function (tested against real Go, not proved from fmt's source: count such statements apart). THE CARD IS WHAT COUNTS. Prove the row's statement (the work); the ties are given (YtkgjgehffijepaaDoorTie.lean); close each card by the builder's one call (the guide's Derived/Test/ToyasCard.lean, 'card_holds'). Laid BY PROGRAM, IN A SANDBOX (cutbox-door.mjs). By AI agents, Wed Nov 11 2026. No macro, syntax, notation, axiom, sorry.
-/
import Derived.Test.YtkgjgehffijepaaDoorRows
import GoSem.ClaimSeven
namespace Go.Proofs.YtkgjgehffijepaaDoor
namespace Rows

/-- THE TIED CARD OF 'pointsmanlaw5.LockTells'. -/
def lockTellsCard : Claim7 := { stood := { row := lockTellsRow, standIns := [], harness := (true, "2fc2d9fd394e87f4821b1a69979de96ba47bbb823d601531f890e75d705f2964"), looks := false }, kinds := [], alts := [], laidByText := true, laidKinds := [.data, .pinned], laidTests := true, laidLooks := .later }
def LockTellsCardSaid : Prop := Claim7.holds Tryd.pinned (.plain (OpenSpec.ofChange lockTellsSpec)) lockTellsCard

/-- THE TIED CARD OF 'pointsmanlaw5.LockErrs'. -/
def lockErrsCard : Claim7 := { stood := { row := lockErrsRow, standIns := [], harness := (true, "2fc2d9fd394e87f4821b1a69979de96ba47bbb823d601531f890e75d705f2964"), looks := false }, kinds := [], alts := [], laidByText := true, laidKinds := [.data, .pinned], laidTests := true, laidLooks := .later }
def LockErrsCardSaid : Prop := Claim7.holds Tryd.pinned (.plain (OpenSpec.ofChange lockErrsSpec)) lockErrsCard

/-- THE TIED CARD OF 'pointsmanlaw5.LockRuns'. -/
def lockRunsCard : Claim7 := { stood := { row := lockRunsRow, standIns := [], harness := (true, "2fc2d9fd394e87f4821b1a69979de96ba47bbb823d601531f890e75d705f2964"), looks := false }, kinds := [], alts := [], laidByText := true, laidKinds := [.data, .pinned], laidTests := true, laidLooks := .later }
def LockRunsCardSaid : Prop := Claim7.holds Tryd.pinned (.plain (OpenSpec.ofChange lockRunsSpec)) lockRunsCard

/-- THE TIED CARD OF 'pointsmanlaw5.LockSets'. -/
def lockSetsCard : Claim7 := { stood := { row := lockSetsRow, standIns := [], harness := (true, "2fc2d9fd394e87f4821b1a69979de96ba47bbb823d601531f890e75d705f2964"), looks := false }, kinds := [], alts := [], laidByText := true, laidKinds := [.data, .pinned], laidTests := true, laidLooks := .later }
def LockSetsCardSaid : Prop := Claim7.holds Tryd.pinned (.plain (OpenSpec.ofChange lockSetsSpec)) lockSetsCard

/-- THE TIED CARD OF 'pointsmanlaw5.LockHolds'. -/
def lockHoldsCard : Claim7 := { stood := { row := lockHoldsRow, standIns := [], harness := (true, "2fc2d9fd394e87f4821b1a69979de96ba47bbb823d601531f890e75d705f2964"), looks := false }, kinds := [], alts := [], laidByText := true, laidKinds := [.data, .pinned], laidTests := true, laidLooks := .later }
def LockHoldsCardSaid : Prop := Claim7.holds Tryd.pinned (.plain (OpenSpec.ofChange lockHoldsSpec)) lockHoldsCard

/-- THE TIED CARD OF 'pointsmanlaw5.LockCalls'. -/
def lockCallsCard : Claim7 := { stood := { row := lockCallsRow, standIns := [], harness := (true, "2fc2d9fd394e87f4821b1a69979de96ba47bbb823d601531f890e75d705f2964"), looks := false }, kinds := [], alts := [], laidByText := true, laidKinds := [.data, .pinned], laidTests := true, laidLooks := .later }
def LockCallsCardSaid : Prop := Claim7.holds Tryd.pinned (.plain (OpenSpec.ofChange lockCallsSpec)) lockCallsCard

/-- THE TIED CARD OF 'pointsmanlaw5.LockBusy'. -/
def lockBusyCard : Claim7 := { stood := { row := lockBusyRow, standIns := [], harness := (true, "2fc2d9fd394e87f4821b1a69979de96ba47bbb823d601531f890e75d705f2964"), looks := false }, kinds := [], alts := [], laidByText := true, laidKinds := [.data, .pinned], laidTests := true, laidLooks := .later }
def LockBusyCardSaid : Prop := Claim7.holds Tryd.pinned (.plain (OpenSpec.ofChange lockBusySpec)) lockBusyCard

/-- THE SECOND FORM's CARD OF 'pointsmanlaw5.LockTells'. -/
def lockTellsUptoCard : Claim7 := { stood := { row := lockTellsUptoRow, standIns := [], harness := (true, "2fc2d9fd394e87f4821b1a69979de96ba47bbb823d601531f890e75d705f2964"), looks := false }, kinds := [], alts := [], laidByText := true, laidKinds := [.data, .pinned], laidTests := true, laidLooks := .later }
def LockTellsUptoCardSaid : Prop := Claim7.holds Tryd.pinned (.plain (OpenSpec.upto lockTellsSpec)) lockTellsUptoCard

/-- THE SECOND FORM's CARD OF 'pointsmanlaw5.LockErrs'. -/
def lockErrsUptoCard : Claim7 := { stood := { row := lockErrsUptoRow, standIns := [], harness := (true, "2fc2d9fd394e87f4821b1a69979de96ba47bbb823d601531f890e75d705f2964"), looks := false }, kinds := [], alts := [], laidByText := true, laidKinds := [.data, .pinned], laidTests := true, laidLooks := .later }
def LockErrsUptoCardSaid : Prop := Claim7.holds Tryd.pinned (.plain (OpenSpec.upto lockErrsSpec)) lockErrsUptoCard

/-- THE SECOND FORM's CARD OF 'pointsmanlaw5.LockRuns'. -/
def lockRunsUptoCard : Claim7 := { stood := { row := lockRunsUptoRow, standIns := [], harness := (true, "2fc2d9fd394e87f4821b1a69979de96ba47bbb823d601531f890e75d705f2964"), looks := false }, kinds := [], alts := [], laidByText := true, laidKinds := [.data, .pinned], laidTests := true, laidLooks := .later }
def LockRunsUptoCardSaid : Prop := Claim7.holds Tryd.pinned (.plain (OpenSpec.upto lockRunsSpec)) lockRunsUptoCard

/-- THE SECOND FORM's CARD OF 'pointsmanlaw5.LockSets'. -/
def lockSetsUptoCard : Claim7 := { stood := { row := lockSetsUptoRow, standIns := [], harness := (true, "2fc2d9fd394e87f4821b1a69979de96ba47bbb823d601531f890e75d705f2964"), looks := false }, kinds := [], alts := [], laidByText := true, laidKinds := [.data, .pinned], laidTests := true, laidLooks := .later }
def LockSetsUptoCardSaid : Prop := Claim7.holds Tryd.pinned (.plain (OpenSpec.upto lockSetsSpec)) lockSetsUptoCard

/-- THE SECOND FORM's CARD OF 'pointsmanlaw5.LockHolds'. -/
def lockHoldsUptoCard : Claim7 := { stood := { row := lockHoldsUptoRow, standIns := [], harness := (true, "2fc2d9fd394e87f4821b1a69979de96ba47bbb823d601531f890e75d705f2964"), looks := false }, kinds := [], alts := [], laidByText := true, laidKinds := [.data, .pinned], laidTests := true, laidLooks := .later }
def LockHoldsUptoCardSaid : Prop := Claim7.holds Tryd.pinned (.plain (OpenSpec.upto lockHoldsSpec)) lockHoldsUptoCard

/-- THE SECOND FORM's CARD OF 'pointsmanlaw5.LockCalls'. -/
def lockCallsUptoCard : Claim7 := { stood := { row := lockCallsUptoRow, standIns := [], harness := (true, "2fc2d9fd394e87f4821b1a69979de96ba47bbb823d601531f890e75d705f2964"), looks := false }, kinds := [], alts := [], laidByText := true, laidKinds := [.data, .pinned], laidTests := true, laidLooks := .later }
def LockCallsUptoCardSaid : Prop := Claim7.holds Tryd.pinned (.plain (OpenSpec.upto lockCallsSpec)) lockCallsUptoCard

/-- THE SECOND FORM's CARD OF 'pointsmanlaw5.LockBusy'. -/
def lockBusyUptoCard : Claim7 := { stood := { row := lockBusyUptoRow, standIns := [], harness := (true, "2fc2d9fd394e87f4821b1a69979de96ba47bbb823d601531f890e75d705f2964"), looks := false }, kinds := [], alts := [], laidByText := true, laidKinds := [.data, .pinned], laidTests := true, laidLooks := .later }
def LockBusyUptoCardSaid : Prop := Claim7.holds Tryd.pinned (.plain (OpenSpec.upto lockBusySpec)) lockBusyUptoCard
end Rows
end Go.Proofs.YtkgjgehffijepaaDoor
