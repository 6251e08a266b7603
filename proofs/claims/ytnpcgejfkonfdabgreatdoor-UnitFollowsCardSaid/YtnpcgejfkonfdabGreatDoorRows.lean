/-
  NARROWER THAN 'FOR EVERY INPUT', by the rows' own cells (each row's printed sentence says how): UnitCommands: laid · UnitSends: laid · UnitFollows: laid · UnitOther: laid · UnitQuiet: laid · UnitOfNothing: laid.
  DERIVED. THE GIVEN ROWS OF THIS SEAT. 6 by the template 'for every input the law returns true; each argument reads behind the call as it read before'; 0 by the template 'total and deterministic' (their statements: YtnpcgejfkonfdabGreatDoorTotals.lean).
  GIVEN WITH THE SEED: the statements are not yours to turn. If you find one false, say at which input.
  Laid BY PROGRAM, IN A SANDBOX (cutbox-rows.mjs): the forced cells as the released guide's own fill.sh prints them over the translation e0dc042695d4aded… (all of the seat's roots in one cut). By AI agents, Wed Nov 11 2026. No macro, syntax, notation, axiom, sorry.
-/
import Derived.Test.YtnpcgejfkonfdabGreatDoorChecked
import GoSem.PinnedTables
import GoSem.Claim
import GoSem.ClaimJoined
import GoSem.ClaimMapViews
import Derived.JoinedTies
import Derived.KernelRfl
namespace Go.Proofs.YtnpcgejfkonfdabGreatDoor
/- THE CELL 'sum', in the pinned program and in every row, IS THE sha256 OF THE DUMP (.gsa) THAT YtnpcgejfkonfdabGreatDoorProg.lean LOADS. Nothing in Lean hashes anything: it is a label: what it is worth is what the hold of that sum in a sandbox is worth. -/
noncomputable def Tryz.pinned : Pinned := { name := "ytnpcgejfkonfdabgreatdoor", sum := "e0dc042695d4adedc34ae12c4d0291d6518fb888813a990143147e9b8917adf0", checked := Tryz.checked }
namespace Rows
def none {H : Type} : Left H := { results := [], args := [] }

/- WHAT THE LISTED PACKAGE-LEVEL VARIABLES READ AS WHEN THE CALL BEGINS. Each datum BY PROGRAM (the guide's laid-datum.mjs) off the statement by which the dump's own 'gosem.cut.vars' lays the variable. In a bare row this is a premise. The card (YtnpcgejfkonfdabGreatDoorCards.lean) ties it to the program's text. -/
def laid_unicode_utf8_acceptRanges {H : Type} : DataW H := .agg [.agg [.lit (.int .u8 128), .lit (.int .u8 191)], .agg [.lit (.int .u8 160), .lit (.int .u8 191)], .agg [.lit (.int .u8 128), .lit (.int .u8 159)], .agg [.lit (.int .u8 144), .lit (.int .u8 191)], .agg [.lit (.int .u8 128), .lit (.int .u8 143)], .agg [.lit (.int .u8 0), .lit (.int .u8 0)], .agg [.lit (.int .u8 0), .lit (.int .u8 0)], .agg [.lit (.int .u8 0), .lit (.int .u8 0)], .agg [.lit (.int .u8 0), .lit (.int .u8 0)], .agg [.lit (.int .u8 0), .lit (.int .u8 0)], .agg [.lit (.int .u8 0), .lit (.int .u8 0)], .agg [.lit (.int .u8 0), .lit (.int .u8 0)], .agg [.lit (.int .u8 0), .lit (.int .u8 0)], .agg [.lit (.int .u8 0), .lit (.int .u8 0)], .agg [.lit (.int .u8 0), .lit (.int .u8 0)], .agg [.lit (.int .u8 0), .lit (.int .u8 0)]]
/-- One of Go's own tables, pinned by name: the form's constant. -/
def laid_unicode_utf8_first : DataW Unit := Go.Pinned.utf8First

/-- 'pointsmanlaw12.UnitCommands': WHATEVER THE INPUT: true; the input reads as it did. -/
def unitCommandsSpec : ChangeSpec := { name := "unitCommands", fn := fun _ => fun
  | [d1, d2] => { results := [.lit (.bool true)], args := [d1, d2] }
  | _ => none }
def unitCommandsRow : OpenClaim := { program := "ytnpcgejfkonfdabgreatdoor", sum := "e0dc042695d4adedc34ae12c4d0291d6518fb888813a990143147e9b8917adf0", func := "pointsman/pointsmanlaw12.UnitCommands", spec := "unitCommands", unfollowed := true, recurses := true, named := ["unicode/utf8.first", "unicode/utf8.acceptRanges"], apart := false, laid := [("unicode/utf8.acceptRanges", laid_unicode_utf8_acceptRanges), ("unicode/utf8.first", laid_unicode_utf8_first)] }
def UnitCommandsSaid : Prop := unitCommandsRow.holds Tryz.pinned (OpenSpec.ofChange unitCommandsSpec)

/-- ITS FALSE NEIGHBOUR: 'it returns false'. Refute it at one input. -/
def unitCommandsWrong : ChangeSpec := { name := "unitCommands", fn := fun _ => fun
  | [d1, d2] => { results := [.lit (.bool false)], args := [d1, d2] }
  | _ => none }
def UnitCommandsWrongFalsely : Prop := unitCommandsRow.holds Tryz.pinned (OpenSpec.ofChange unitCommandsWrong)

/-- 'pointsmanlaw12.UnitSends': WHATEVER THE INPUT: true; the input reads as it did. -/
def unitSendsSpec : ChangeSpec := { name := "unitSends", fn := fun _ => fun
  | [d1, d2] => { results := [.lit (.bool true)], args := [d1, d2] }
  | _ => none }
def unitSendsRow : OpenClaim := { program := "ytnpcgejfkonfdabgreatdoor", sum := "e0dc042695d4adedc34ae12c4d0291d6518fb888813a990143147e9b8917adf0", func := "pointsman/pointsmanlaw12.UnitSends", spec := "unitSends", unfollowed := true, recurses := true, named := ["unicode/utf8.first", "unicode/utf8.acceptRanges"], apart := false, laid := [("unicode/utf8.acceptRanges", laid_unicode_utf8_acceptRanges), ("unicode/utf8.first", laid_unicode_utf8_first)] }
def UnitSendsSaid : Prop := unitSendsRow.holds Tryz.pinned (OpenSpec.ofChange unitSendsSpec)

/-- ITS FALSE NEIGHBOUR: 'it returns false'. Refute it at one input. -/
def unitSendsWrong : ChangeSpec := { name := "unitSends", fn := fun _ => fun
  | [d1, d2] => { results := [.lit (.bool false)], args := [d1, d2] }
  | _ => none }
def UnitSendsWrongFalsely : Prop := unitSendsRow.holds Tryz.pinned (OpenSpec.ofChange unitSendsWrong)

/-- 'pointsmanlaw12.UnitFollows': WHATEVER THE INPUT: true; the input reads as it did. -/
def unitFollowsSpec : ChangeSpec := { name := "unitFollows", fn := fun _ => fun
  | [d1, d2] => { results := [.lit (.bool true)], args := [d1, d2] }
  | _ => none }
def unitFollowsRow : OpenClaim := { program := "ytnpcgejfkonfdabgreatdoor", sum := "e0dc042695d4adedc34ae12c4d0291d6518fb888813a990143147e9b8917adf0", func := "pointsman/pointsmanlaw12.UnitFollows", spec := "unitFollows", unfollowed := true, recurses := true, named := ["unicode/utf8.first", "unicode/utf8.acceptRanges"], apart := false, laid := [("unicode/utf8.acceptRanges", laid_unicode_utf8_acceptRanges), ("unicode/utf8.first", laid_unicode_utf8_first)] }
def UnitFollowsSaid : Prop := unitFollowsRow.holds Tryz.pinned (OpenSpec.ofChange unitFollowsSpec)

/-- ITS FALSE NEIGHBOUR: 'it returns false'. Refute it at one input. -/
def unitFollowsWrong : ChangeSpec := { name := "unitFollows", fn := fun _ => fun
  | [d1, d2] => { results := [.lit (.bool false)], args := [d1, d2] }
  | _ => none }
def UnitFollowsWrongFalsely : Prop := unitFollowsRow.holds Tryz.pinned (OpenSpec.ofChange unitFollowsWrong)

/-- 'pointsmanlaw12.UnitOther': WHATEVER THE INPUT: true; the input reads as it did. -/
def unitOtherSpec : ChangeSpec := { name := "unitOther", fn := fun _ => fun
  | [d1, d2] => { results := [.lit (.bool true)], args := [d1, d2] }
  | _ => none }
def unitOtherRow : OpenClaim := { program := "ytnpcgejfkonfdabgreatdoor", sum := "e0dc042695d4adedc34ae12c4d0291d6518fb888813a990143147e9b8917adf0", func := "pointsman/pointsmanlaw12.UnitOther", spec := "unitOther", unfollowed := true, recurses := true, named := ["unicode/utf8.first", "unicode/utf8.acceptRanges"], apart := false, laid := [("unicode/utf8.acceptRanges", laid_unicode_utf8_acceptRanges), ("unicode/utf8.first", laid_unicode_utf8_first)] }
def UnitOtherSaid : Prop := unitOtherRow.holds Tryz.pinned (OpenSpec.ofChange unitOtherSpec)

/-- ITS FALSE NEIGHBOUR: 'it returns false'. Refute it at one input. -/
def unitOtherWrong : ChangeSpec := { name := "unitOther", fn := fun _ => fun
  | [d1, d2] => { results := [.lit (.bool false)], args := [d1, d2] }
  | _ => none }
def UnitOtherWrongFalsely : Prop := unitOtherRow.holds Tryz.pinned (OpenSpec.ofChange unitOtherWrong)

/-- 'pointsmanlaw12.UnitQuiet': WHATEVER THE INPUT: true; the input reads as it did. -/
def unitQuietSpec : ChangeSpec := { name := "unitQuiet", fn := fun _ => fun
  | [d1, d2] => { results := [.lit (.bool true)], args := [d1, d2] }
  | _ => none }
def unitQuietRow : OpenClaim := { program := "ytnpcgejfkonfdabgreatdoor", sum := "e0dc042695d4adedc34ae12c4d0291d6518fb888813a990143147e9b8917adf0", func := "pointsman/pointsmanlaw12.UnitQuiet", spec := "unitQuiet", unfollowed := true, recurses := true, named := ["unicode/utf8.first", "unicode/utf8.acceptRanges"], apart := false, laid := [("unicode/utf8.acceptRanges", laid_unicode_utf8_acceptRanges), ("unicode/utf8.first", laid_unicode_utf8_first)] }
def UnitQuietSaid : Prop := unitQuietRow.holds Tryz.pinned (OpenSpec.ofChange unitQuietSpec)

/-- ITS FALSE NEIGHBOUR: 'it returns false'. Refute it at one input. -/
def unitQuietWrong : ChangeSpec := { name := "unitQuiet", fn := fun _ => fun
  | [d1, d2] => { results := [.lit (.bool false)], args := [d1, d2] }
  | _ => none }
def UnitQuietWrongFalsely : Prop := unitQuietRow.holds Tryz.pinned (OpenSpec.ofChange unitQuietWrong)

/-- 'pointsmanlaw12.UnitOfNothing': WHATEVER THE INPUT: true; the input reads as it did. -/
def unitOfNothingSpec : ChangeSpec := { name := "unitOfNothing", fn := fun _ => fun
  | [d] => { results := [.lit (.bool true)], args := [d] }
  | _ => none }
def unitOfNothingRow : OpenClaim := { program := "ytnpcgejfkonfdabgreatdoor", sum := "e0dc042695d4adedc34ae12c4d0291d6518fb888813a990143147e9b8917adf0", func := "pointsman/pointsmanlaw12.UnitOfNothing", spec := "unitOfNothing", unfollowed := true, recurses := true, named := ["unicode/utf8.first", "unicode/utf8.acceptRanges"], apart := false, laid := [("unicode/utf8.acceptRanges", laid_unicode_utf8_acceptRanges), ("unicode/utf8.first", laid_unicode_utf8_first)] }
def UnitOfNothingSaid : Prop := unitOfNothingRow.holds Tryz.pinned (OpenSpec.ofChange unitOfNothingSpec)

/-- ITS FALSE NEIGHBOUR: 'it returns false'. Refute it at one input. -/
def unitOfNothingWrong : ChangeSpec := { name := "unitOfNothing", fn := fun _ => fun
  | [d] => { results := [.lit (.bool false)], args := [d] }
  | _ => none }
def UnitOfNothingWrongFalsely : Prop := unitOfNothingRow.holds Tryz.pinned (OpenSpec.ofChange unitOfNothingWrong)

/- THE SECOND FORM. 'bulk': how many values and letters a reading holds, each counted each time it is reached (what is shared counts as often as it is met; a slice's spare places count too). A statement '..UptoSaid' is the law's where the arguments, and the package variables that the reading takes, are together of bulk at most 1048576: NARROWER than '..Said'. Prove '..Said' where nothing that the law and all that it calls make is longer than what came in: it says more and counts as full. Else prove '..UptoSaid'. A law counts once. -/
mutual
def uptoBulk {H : Type} : DataW H → Nat
  | .lit (.string bytes) => bytes.length + 1
  | .lit _ => 1
  | .nil => 1
  | .ptr d => uptoBulk d + 1
  | .slice elems spare => uptoBulkAll elems + uptoBulkAll spare + 1
  | .agg parts => uptoBulkAll parts + 1
  | .iface _ d => uptoBulk d + 1
  | .map entries => uptoBulkEntries entries + 1
  | .held _ => 1
def uptoBulkAll {H : Type} : List (DataW H) → Nat
  | [] => 0
  | d :: r => uptoBulk d + uptoBulkAll r
def uptoBulkEntries {H : Type} : List (Lit × DataW H) → Nat
  | [] => 0
  | x :: r => uptoBulkEntry x + uptoBulkEntries r
def uptoBulkEntry {H : Type} : Lit × DataW H → Nat
  | (.string bytes, d) => bytes.length + uptoBulk d + 1
  | (_, d) => uptoBulk d + 1
 end
def uptoSmall : (H : Type) → List (DataW H) → Bool := fun _ ds => decide (uptoBulkAll ds ≤ 1048576)
def OpenSpec.upto (s : _root_.Go.ChangeSpec) : _root_.Go.OpenSpec := { _root_.Go.OpenSpec.ofChange s with cond := some uptoSmall }

/-- 'pointsmanlaw12.UnitCommands', WHERE WHAT IT READS IS OF BULK AT MOST 1048576: true; the input reads as it did. -/
def unitCommandsUptoRow : OpenClaim := { program := "ytnpcgejfkonfdabgreatdoor", sum := "e0dc042695d4adedc34ae12c4d0291d6518fb888813a990143147e9b8917adf0", func := "pointsman/pointsmanlaw12.UnitCommands", spec := "unitCommands", unfollowed := true, recurses := true, named := ["unicode/utf8.first", "unicode/utf8.acceptRanges"], apart := false, laid := [("unicode/utf8.acceptRanges", laid_unicode_utf8_acceptRanges), ("unicode/utf8.first", laid_unicode_utf8_first)], narrowed := true }
def UnitCommandsUptoSaid : Prop := unitCommandsUptoRow.holds Tryz.pinned (OpenSpec.upto unitCommandsSpec)

/-- 'pointsmanlaw12.UnitSends', WHERE WHAT IT READS IS OF BULK AT MOST 1048576: true; the input reads as it did. -/
def unitSendsUptoRow : OpenClaim := { program := "ytnpcgejfkonfdabgreatdoor", sum := "e0dc042695d4adedc34ae12c4d0291d6518fb888813a990143147e9b8917adf0", func := "pointsman/pointsmanlaw12.UnitSends", spec := "unitSends", unfollowed := true, recurses := true, named := ["unicode/utf8.first", "unicode/utf8.acceptRanges"], apart := false, laid := [("unicode/utf8.acceptRanges", laid_unicode_utf8_acceptRanges), ("unicode/utf8.first", laid_unicode_utf8_first)], narrowed := true }
def UnitSendsUptoSaid : Prop := unitSendsUptoRow.holds Tryz.pinned (OpenSpec.upto unitSendsSpec)

/-- 'pointsmanlaw12.UnitFollows', WHERE WHAT IT READS IS OF BULK AT MOST 1048576: true; the input reads as it did. -/
def unitFollowsUptoRow : OpenClaim := { program := "ytnpcgejfkonfdabgreatdoor", sum := "e0dc042695d4adedc34ae12c4d0291d6518fb888813a990143147e9b8917adf0", func := "pointsman/pointsmanlaw12.UnitFollows", spec := "unitFollows", unfollowed := true, recurses := true, named := ["unicode/utf8.first", "unicode/utf8.acceptRanges"], apart := false, laid := [("unicode/utf8.acceptRanges", laid_unicode_utf8_acceptRanges), ("unicode/utf8.first", laid_unicode_utf8_first)], narrowed := true }
def UnitFollowsUptoSaid : Prop := unitFollowsUptoRow.holds Tryz.pinned (OpenSpec.upto unitFollowsSpec)

/-- 'pointsmanlaw12.UnitOther', WHERE WHAT IT READS IS OF BULK AT MOST 1048576: true; the input reads as it did. -/
def unitOtherUptoRow : OpenClaim := { program := "ytnpcgejfkonfdabgreatdoor", sum := "e0dc042695d4adedc34ae12c4d0291d6518fb888813a990143147e9b8917adf0", func := "pointsman/pointsmanlaw12.UnitOther", spec := "unitOther", unfollowed := true, recurses := true, named := ["unicode/utf8.first", "unicode/utf8.acceptRanges"], apart := false, laid := [("unicode/utf8.acceptRanges", laid_unicode_utf8_acceptRanges), ("unicode/utf8.first", laid_unicode_utf8_first)], narrowed := true }
def UnitOtherUptoSaid : Prop := unitOtherUptoRow.holds Tryz.pinned (OpenSpec.upto unitOtherSpec)

/-- 'pointsmanlaw12.UnitQuiet', WHERE WHAT IT READS IS OF BULK AT MOST 1048576: true; the input reads as it did. -/
def unitQuietUptoRow : OpenClaim := { program := "ytnpcgejfkonfdabgreatdoor", sum := "e0dc042695d4adedc34ae12c4d0291d6518fb888813a990143147e9b8917adf0", func := "pointsman/pointsmanlaw12.UnitQuiet", spec := "unitQuiet", unfollowed := true, recurses := true, named := ["unicode/utf8.first", "unicode/utf8.acceptRanges"], apart := false, laid := [("unicode/utf8.acceptRanges", laid_unicode_utf8_acceptRanges), ("unicode/utf8.first", laid_unicode_utf8_first)], narrowed := true }
def UnitQuietUptoSaid : Prop := unitQuietUptoRow.holds Tryz.pinned (OpenSpec.upto unitQuietSpec)

/-- 'pointsmanlaw12.UnitOfNothing', WHERE WHAT IT READS IS OF BULK AT MOST 1048576: true; the input reads as it did. -/
def unitOfNothingUptoRow : OpenClaim := { program := "ytnpcgejfkonfdabgreatdoor", sum := "e0dc042695d4adedc34ae12c4d0291d6518fb888813a990143147e9b8917adf0", func := "pointsman/pointsmanlaw12.UnitOfNothing", spec := "unitOfNothing", unfollowed := true, recurses := true, named := ["unicode/utf8.first", "unicode/utf8.acceptRanges"], apart := false, laid := [("unicode/utf8.acceptRanges", laid_unicode_utf8_acceptRanges), ("unicode/utf8.first", laid_unicode_utf8_first)], narrowed := true }
def UnitOfNothingUptoSaid : Prop := unitOfNothingUptoRow.holds Tryz.pinned (OpenSpec.upto unitOfNothingSpec)

end Rows
end Go.Proofs.YtnpcgejfkonfdabGreatDoor
