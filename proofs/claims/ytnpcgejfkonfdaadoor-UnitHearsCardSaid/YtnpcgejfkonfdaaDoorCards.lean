/-
  DERIVED. GIVEN WITH THE SEED: THE CARDS: each row of YtnpcgejfkonfdaaDoorRows.lean that lists a variable, with what it lists TIED to the program's text (the seventh form; the later family's looks); each row that meets fmt, with fmt's text TOLD by the authors' own Lean function (tested against real Go, not proved from fmt's source: count such statements apart). THE CARD IS WHAT COUNTS. Prove the row's statement (the work); the ties are given (YtnpcgejfkonfdaaDoorTie.lean); close each card by the builder's one call (the guide's Derived/Test/ToyasCard.lean, 'card_holds'). Laid BY PROGRAM, IN A SANDBOX (cutbox-door.mjs). By AI agents, Wed Nov 11 2026. No macro, syntax, notation, axiom, sorry.
-/
import Derived.Test.YtnpcgejfkonfdaaDoorRows
import GoSem.ClaimSeven
namespace Go.Proofs.YtnpcgejfkonfdaaDoor
namespace Rows

/-- THE TIED CARD OF 'pointsmanlaw12.UnitBoots'. -/
def unitBootsCard : Claim7 := { stood := { row := unitBootsRow, standIns := [], harness := (true, "e7194139db5427c59200206466bff0756ba32bbc48bfaa37c082dbc95ed1449e"), looks := true }, kinds := [], alts := [], laidByText := true, laidKinds := [.data, .pinned], laidTests := true, laidLooks := .later }
def UnitBootsCardSaid : Prop := Claim7.holds Tryd.pinned (.plain (OpenSpec.ofChange unitBootsSpec)) unitBootsCard

/-- THE TIED CARD OF 'pointsmanlaw12.UnitHears'. -/
def unitHearsCard : Claim7 := { stood := { row := unitHearsRow, standIns := [], harness := (true, "e7194139db5427c59200206466bff0756ba32bbc48bfaa37c082dbc95ed1449e"), looks := true }, kinds := [], alts := [], laidByText := true, laidKinds := [.data, .pinned], laidTests := true, laidLooks := .later }
def UnitHearsCardSaid : Prop := Claim7.holds Tryd.pinned (.plain (OpenSpec.ofChange unitHearsSpec)) unitHearsCard

/-- THE TIED CARD OF 'pointsmanlaw12.UnitYields'. -/
def unitYieldsCard : Claim7 := { stood := { row := unitYieldsRow, standIns := [], harness := (true, "e7194139db5427c59200206466bff0756ba32bbc48bfaa37c082dbc95ed1449e"), looks := true }, kinds := [], alts := [], laidByText := true, laidKinds := [.data, .pinned], laidTests := true, laidLooks := .later }
def UnitYieldsCardSaid : Prop := Claim7.holds Tryd.pinned (.plain (OpenSpec.ofChange unitYieldsSpec)) unitYieldsCard

/-- THE TIED CARD OF 'pointsmanlaw12.UnitLoses'. -/
def unitLosesCard : Claim7 := { stood := { row := unitLosesRow, standIns := [], harness := (true, "e7194139db5427c59200206466bff0756ba32bbc48bfaa37c082dbc95ed1449e"), looks := true }, kinds := [], alts := [], laidByText := true, laidKinds := [.data, .pinned], laidTests := true, laidLooks := .later }
def UnitLosesCardSaid : Prop := Claim7.holds Tryd.pinned (.plain (OpenSpec.ofChange unitLosesSpec)) unitLosesCard

/-- THE TIED CARD OF 'pointsmanlaw12.UnitHolds'. -/
def unitHoldsCard : Claim7 := { stood := { row := unitHoldsRow, standIns := [], harness := (true, "e7194139db5427c59200206466bff0756ba32bbc48bfaa37c082dbc95ed1449e"), looks := true }, kinds := [], alts := [], laidByText := true, laidKinds := [.data, .pinned], laidTests := true, laidLooks := .later }
def UnitHoldsCardSaid : Prop := Claim7.holds Tryd.pinned (.plain (OpenSpec.ofChange unitHoldsSpec)) unitHoldsCard

/-- THE SECOND FORM's CARD OF 'pointsmanlaw12.UnitBoots'. -/
def unitBootsUptoCard : Claim7 := { stood := { row := unitBootsUptoRow, standIns := [], harness := (true, "e7194139db5427c59200206466bff0756ba32bbc48bfaa37c082dbc95ed1449e"), looks := true }, kinds := [], alts := [], laidByText := true, laidKinds := [.data, .pinned], laidTests := true, laidLooks := .later }
def UnitBootsUptoCardSaid : Prop := Claim7.holds Tryd.pinned (.plain (OpenSpec.upto unitBootsSpec)) unitBootsUptoCard

/-- THE SECOND FORM's CARD OF 'pointsmanlaw12.UnitHears'. -/
def unitHearsUptoCard : Claim7 := { stood := { row := unitHearsUptoRow, standIns := [], harness := (true, "e7194139db5427c59200206466bff0756ba32bbc48bfaa37c082dbc95ed1449e"), looks := true }, kinds := [], alts := [], laidByText := true, laidKinds := [.data, .pinned], laidTests := true, laidLooks := .later }
def UnitHearsUptoCardSaid : Prop := Claim7.holds Tryd.pinned (.plain (OpenSpec.upto unitHearsSpec)) unitHearsUptoCard

/-- THE SECOND FORM's CARD OF 'pointsmanlaw12.UnitYields'. -/
def unitYieldsUptoCard : Claim7 := { stood := { row := unitYieldsUptoRow, standIns := [], harness := (true, "e7194139db5427c59200206466bff0756ba32bbc48bfaa37c082dbc95ed1449e"), looks := true }, kinds := [], alts := [], laidByText := true, laidKinds := [.data, .pinned], laidTests := true, laidLooks := .later }
def UnitYieldsUptoCardSaid : Prop := Claim7.holds Tryd.pinned (.plain (OpenSpec.upto unitYieldsSpec)) unitYieldsUptoCard

/-- THE SECOND FORM's CARD OF 'pointsmanlaw12.UnitLoses'. -/
def unitLosesUptoCard : Claim7 := { stood := { row := unitLosesUptoRow, standIns := [], harness := (true, "e7194139db5427c59200206466bff0756ba32bbc48bfaa37c082dbc95ed1449e"), looks := true }, kinds := [], alts := [], laidByText := true, laidKinds := [.data, .pinned], laidTests := true, laidLooks := .later }
def UnitLosesUptoCardSaid : Prop := Claim7.holds Tryd.pinned (.plain (OpenSpec.upto unitLosesSpec)) unitLosesUptoCard

/-- THE SECOND FORM's CARD OF 'pointsmanlaw12.UnitHolds'. -/
def unitHoldsUptoCard : Claim7 := { stood := { row := unitHoldsUptoRow, standIns := [], harness := (true, "e7194139db5427c59200206466bff0756ba32bbc48bfaa37c082dbc95ed1449e"), looks := true }, kinds := [], alts := [], laidByText := true, laidKinds := [.data, .pinned], laidTests := true, laidLooks := .later }
def UnitHoldsUptoCardSaid : Prop := Claim7.holds Tryd.pinned (.plain (OpenSpec.upto unitHoldsSpec)) unitHoldsUptoCard
end Rows
end Go.Proofs.YtnpcgejfkonfdaaDoor
