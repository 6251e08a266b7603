/-
  NARROWER THAN 'FOR EVERY INPUT', by the rows' own cells (each row's printed sentence says how): FieldKeeps: laid · TableTells: laid · TableEntry: laid · FieldApart: laid · FieldTrains: laid · FieldSticks: laid · FieldPlays: laid · FieldOwn: laid.
  DERIVED. THE GIVEN ROWS OF THIS SEAT. 8 by the template 'for every input the law returns true; each argument reads behind the call as it read before'; 0 by the template 'total and deterministic' (their statements: YtbhmihigfncfgabDoorTotals.lean).
  GIVEN WITH THE SEED: the statements are not yours to turn. If you find one false, say at which input.
  Laid BY PROGRAM, IN A SANDBOX (cutbox-rows.mjs): the forced cells as the released guide's own fill.sh prints them over the translation 787c4757cdc1cedc… (all of the seat's roots in one cut). By AI agents, Wed Nov 11 2026. No macro, syntax, notation, axiom, sorry.
-/
import Derived.Test.YtbhmihigfncfgabDoorChecked
import GoSem.PinnedTables
import GoSem.Claim
import GoSem.ClaimJoined
import GoSem.ClaimMapViews
import Derived.JoinedTies
import Derived.KernelRfl
namespace Go.Proofs.YtbhmihigfncfgabDoor
/- THE CELL 'sum', in the pinned program and in every row, IS THE sha256 OF THE DUMP (.gsa) THAT YtbhmihigfncfgabDoorProg.lean LOADS. Nothing in Lean hashes anything: it is a label: what it is worth is what the hold of that sum in a sandbox is worth. -/
noncomputable def Tryd.pinned : Pinned := { name := "ytbhmihigfncfgabdoor", sum := "787c4757cdc1cedc5d264aebaab7251c0ec788923dd15df6e2e85aa15381c21c", checked := Tryd.checked }
namespace Rows
def none {H : Type} : Left H := { results := [], args := [] }

/- WHAT THE LISTED PACKAGE-LEVEL VARIABLES READ AS WHEN THE CALL BEGINS. Each datum BY PROGRAM (the guide's laid-datum.mjs) off the statement by which the dump's own 'gosem.cut.vars' lays the variable. In a bare row this is a premise. The card (YtbhmihigfncfgabDoorCards.lean) ties it to the program's text. -/
def laid_unicode_utf8_acceptRanges {H : Type} : DataW H := .agg [.agg [.lit (.int .u8 128), .lit (.int .u8 191)], .agg [.lit (.int .u8 160), .lit (.int .u8 191)], .agg [.lit (.int .u8 128), .lit (.int .u8 159)], .agg [.lit (.int .u8 144), .lit (.int .u8 191)], .agg [.lit (.int .u8 128), .lit (.int .u8 143)], .agg [.lit (.int .u8 0), .lit (.int .u8 0)], .agg [.lit (.int .u8 0), .lit (.int .u8 0)], .agg [.lit (.int .u8 0), .lit (.int .u8 0)], .agg [.lit (.int .u8 0), .lit (.int .u8 0)], .agg [.lit (.int .u8 0), .lit (.int .u8 0)], .agg [.lit (.int .u8 0), .lit (.int .u8 0)], .agg [.lit (.int .u8 0), .lit (.int .u8 0)], .agg [.lit (.int .u8 0), .lit (.int .u8 0)], .agg [.lit (.int .u8 0), .lit (.int .u8 0)], .agg [.lit (.int .u8 0), .lit (.int .u8 0)], .agg [.lit (.int .u8 0), .lit (.int .u8 0)]]
/-- One of Go's own tables, pinned by name: the form's constant. -/
def laid_unicode_utf8_first : DataW Unit := Go.Pinned.utf8First

/-- 'pointsmanlaw6.FieldKeeps': WHATEVER THE INPUT: true; the input reads as it did. -/
def fieldKeepsSpec : ChangeSpec := { name := "fieldKeeps", fn := fun _ => fun
  | [d] => { results := [.lit (.bool true)], args := [d] }
  | _ => none }
def fieldKeepsRow : OpenClaim := { program := "ytbhmihigfncfgabdoor", sum := "787c4757cdc1cedc5d264aebaab7251c0ec788923dd15df6e2e85aa15381c21c", func := "pointsman/pointsmanlaw6.FieldKeeps", spec := "fieldKeeps", named := ["unicode/utf8.first", "unicode/utf8.acceptRanges"], apart := false, laid := [("unicode/utf8.acceptRanges", laid_unicode_utf8_acceptRanges), ("unicode/utf8.first", laid_unicode_utf8_first)] }
def FieldKeepsSaid : Prop := fieldKeepsRow.holds Tryd.pinned (OpenSpec.ofChange fieldKeepsSpec)

/-- ITS FALSE NEIGHBOUR: 'it returns false'. Refute it at one input. -/
def fieldKeepsWrong : ChangeSpec := { name := "fieldKeeps", fn := fun _ => fun
  | [d] => { results := [.lit (.bool false)], args := [d] }
  | _ => none }
def FieldKeepsWrongFalsely : Prop := fieldKeepsRow.holds Tryd.pinned (OpenSpec.ofChange fieldKeepsWrong)

/-- 'pointsmanlaw4.TableTells': WHATEVER THE INPUT: true; the input reads as it did. -/
def tableTellsSpec : ChangeSpec := { name := "tableTells", fn := fun _ => fun
  | [d1, d2] => { results := [.lit (.bool true)], args := [d1, d2] }
  | _ => none }
def tableTellsRow : OpenClaim := { program := "ytbhmihigfncfgabdoor", sum := "787c4757cdc1cedc5d264aebaab7251c0ec788923dd15df6e2e85aa15381c21c", func := "pointsman/pointsmanlaw4.TableTells", spec := "tableTells", unfollowed := true, recurses := true, named := ["unicode/utf8.first", "unicode/utf8.acceptRanges"], apart := false, laid := [("unicode/utf8.acceptRanges", laid_unicode_utf8_acceptRanges), ("unicode/utf8.first", laid_unicode_utf8_first)] }
def TableTellsSaid : Prop := tableTellsRow.holds Tryd.pinned (OpenSpec.ofChange tableTellsSpec)

/-- ITS FALSE NEIGHBOUR: 'it returns false'. Refute it at one input. -/
def tableTellsWrong : ChangeSpec := { name := "tableTells", fn := fun _ => fun
  | [d1, d2] => { results := [.lit (.bool false)], args := [d1, d2] }
  | _ => none }
def TableTellsWrongFalsely : Prop := tableTellsRow.holds Tryd.pinned (OpenSpec.ofChange tableTellsWrong)

/-- 'pointsmanlaw4.TableEntry': WHATEVER THE INPUT: true; the input reads as it did. -/
def tableEntrySpec : ChangeSpec := { name := "tableEntry", fn := fun _ => fun
  | [d] => { results := [.lit (.bool true)], args := [d] }
  | _ => none }
def tableEntryRow : OpenClaim := { program := "ytbhmihigfncfgabdoor", sum := "787c4757cdc1cedc5d264aebaab7251c0ec788923dd15df6e2e85aa15381c21c", func := "pointsman/pointsmanlaw4.TableEntry", spec := "tableEntry", unfollowed := true, recurses := true, named := ["unicode/utf8.first", "unicode/utf8.acceptRanges"], apart := false, laid := [("unicode/utf8.acceptRanges", laid_unicode_utf8_acceptRanges), ("unicode/utf8.first", laid_unicode_utf8_first)] }
def TableEntrySaid : Prop := tableEntryRow.holds Tryd.pinned (OpenSpec.ofChange tableEntrySpec)

/-- ITS FALSE NEIGHBOUR: 'it returns false'. Refute it at one input. -/
def tableEntryWrong : ChangeSpec := { name := "tableEntry", fn := fun _ => fun
  | [d] => { results := [.lit (.bool false)], args := [d] }
  | _ => none }
def TableEntryWrongFalsely : Prop := tableEntryRow.holds Tryd.pinned (OpenSpec.ofChange tableEntryWrong)

/-- 'pointsmanlaw6.FieldApart': WHATEVER THE INPUT: true; the input reads as it did. -/
def fieldApartSpec : ChangeSpec := { name := "fieldApart", fn := fun _ => fun
  | [d1, d2] => { results := [.lit (.bool true)], args := [d1, d2] }
  | _ => none }
def fieldApartRow : OpenClaim := { program := "ytbhmihigfncfgabdoor", sum := "787c4757cdc1cedc5d264aebaab7251c0ec788923dd15df6e2e85aa15381c21c", func := "pointsman/pointsmanlaw6.FieldApart", spec := "fieldApart", named := ["unicode/utf8.first", "unicode/utf8.acceptRanges"], apart := false, laid := [("unicode/utf8.acceptRanges", laid_unicode_utf8_acceptRanges), ("unicode/utf8.first", laid_unicode_utf8_first)] }
def FieldApartSaid : Prop := fieldApartRow.holds Tryd.pinned (OpenSpec.ofChange fieldApartSpec)

/-- ITS FALSE NEIGHBOUR: 'it returns false'. Refute it at one input. -/
def fieldApartWrong : ChangeSpec := { name := "fieldApart", fn := fun _ => fun
  | [d1, d2] => { results := [.lit (.bool false)], args := [d1, d2] }
  | _ => none }
def FieldApartWrongFalsely : Prop := fieldApartRow.holds Tryd.pinned (OpenSpec.ofChange fieldApartWrong)

/-- 'pointsmanlaw6.FieldTrains': WHATEVER THE INPUT: true; the input reads as it did. -/
def fieldTrainsSpec : ChangeSpec := { name := "fieldTrains", fn := fun _ => fun
  | [d1, d2] => { results := [.lit (.bool true)], args := [d1, d2] }
  | _ => none }
def fieldTrainsRow : OpenClaim := { program := "ytbhmihigfncfgabdoor", sum := "787c4757cdc1cedc5d264aebaab7251c0ec788923dd15df6e2e85aa15381c21c", func := "pointsman/pointsmanlaw6.FieldTrains", spec := "fieldTrains", named := ["unicode/utf8.first", "unicode/utf8.acceptRanges"], apart := false, laid := [("unicode/utf8.acceptRanges", laid_unicode_utf8_acceptRanges), ("unicode/utf8.first", laid_unicode_utf8_first)] }
def FieldTrainsSaid : Prop := fieldTrainsRow.holds Tryd.pinned (OpenSpec.ofChange fieldTrainsSpec)

/-- ITS FALSE NEIGHBOUR: 'it returns false'. Refute it at one input. -/
def fieldTrainsWrong : ChangeSpec := { name := "fieldTrains", fn := fun _ => fun
  | [d1, d2] => { results := [.lit (.bool false)], args := [d1, d2] }
  | _ => none }
def FieldTrainsWrongFalsely : Prop := fieldTrainsRow.holds Tryd.pinned (OpenSpec.ofChange fieldTrainsWrong)

/-- 'pointsmanlaw6.FieldSticks': WHATEVER THE INPUT: true; the input reads as it did. -/
def fieldSticksSpec : ChangeSpec := { name := "fieldSticks", fn := fun _ => fun
  | [d1, d2] => { results := [.lit (.bool true)], args := [d1, d2] }
  | _ => none }
def fieldSticksRow : OpenClaim := { program := "ytbhmihigfncfgabdoor", sum := "787c4757cdc1cedc5d264aebaab7251c0ec788923dd15df6e2e85aa15381c21c", func := "pointsman/pointsmanlaw6.FieldSticks", spec := "fieldSticks", named := ["unicode/utf8.first", "unicode/utf8.acceptRanges"], apart := false, laid := [("unicode/utf8.acceptRanges", laid_unicode_utf8_acceptRanges), ("unicode/utf8.first", laid_unicode_utf8_first)] }
def FieldSticksSaid : Prop := fieldSticksRow.holds Tryd.pinned (OpenSpec.ofChange fieldSticksSpec)

/-- ITS FALSE NEIGHBOUR: 'it returns false'. Refute it at one input. -/
def fieldSticksWrong : ChangeSpec := { name := "fieldSticks", fn := fun _ => fun
  | [d1, d2] => { results := [.lit (.bool false)], args := [d1, d2] }
  | _ => none }
def FieldSticksWrongFalsely : Prop := fieldSticksRow.holds Tryd.pinned (OpenSpec.ofChange fieldSticksWrong)

/-- 'pointsmanlaw6.FieldPlays': WHATEVER THE INPUT: true; the input reads as it did. -/
def fieldPlaysSpec : ChangeSpec := { name := "fieldPlays", fn := fun _ => fun
  | [d1, d2] => { results := [.lit (.bool true)], args := [d1, d2] }
  | _ => none }
def fieldPlaysRow : OpenClaim := { program := "ytbhmihigfncfgabdoor", sum := "787c4757cdc1cedc5d264aebaab7251c0ec788923dd15df6e2e85aa15381c21c", func := "pointsman/pointsmanlaw6.FieldPlays", spec := "fieldPlays", named := ["unicode/utf8.first", "unicode/utf8.acceptRanges"], apart := false, laid := [("unicode/utf8.acceptRanges", laid_unicode_utf8_acceptRanges), ("unicode/utf8.first", laid_unicode_utf8_first)] }
def FieldPlaysSaid : Prop := fieldPlaysRow.holds Tryd.pinned (OpenSpec.ofChange fieldPlaysSpec)

/-- ITS FALSE NEIGHBOUR: 'it returns false'. Refute it at one input. -/
def fieldPlaysWrong : ChangeSpec := { name := "fieldPlays", fn := fun _ => fun
  | [d1, d2] => { results := [.lit (.bool false)], args := [d1, d2] }
  | _ => none }
def FieldPlaysWrongFalsely : Prop := fieldPlaysRow.holds Tryd.pinned (OpenSpec.ofChange fieldPlaysWrong)

/-- 'pointsmanlaw6.FieldOwn': WHATEVER THE INPUT: true; the input reads as it did. -/
def fieldOwnSpec : ChangeSpec := { name := "fieldOwn", fn := fun _ => fun
  | [d] => { results := [.lit (.bool true)], args := [d] }
  | _ => none }
def fieldOwnRow : OpenClaim := { program := "ytbhmihigfncfgabdoor", sum := "787c4757cdc1cedc5d264aebaab7251c0ec788923dd15df6e2e85aa15381c21c", func := "pointsman/pointsmanlaw6.FieldOwn", spec := "fieldOwn", named := ["unicode/utf8.first", "unicode/utf8.acceptRanges"], apart := false, laid := [("unicode/utf8.acceptRanges", laid_unicode_utf8_acceptRanges), ("unicode/utf8.first", laid_unicode_utf8_first)] }
def FieldOwnSaid : Prop := fieldOwnRow.holds Tryd.pinned (OpenSpec.ofChange fieldOwnSpec)

/-- ITS FALSE NEIGHBOUR: 'it returns false'. Refute it at one input. -/
def fieldOwnWrong : ChangeSpec := { name := "fieldOwn", fn := fun _ => fun
  | [d] => { results := [.lit (.bool false)], args := [d] }
  | _ => none }
def FieldOwnWrongFalsely : Prop := fieldOwnRow.holds Tryd.pinned (OpenSpec.ofChange fieldOwnWrong)

/- THE SECOND FORM. 'bulk': how many values and letters a reading holds, each counted each time it is reached (what is shared counts as often as it is met; a slice's spare places count too). A statement '..UptoSaid' is the law's where the arguments, and the package variables that the reading takes, are together of bulk at most 1048576: NARROWER than '..Said'. Prove '..Said' where nothing that the law and all that it calls make is longer than what came in: it says more and counts as full. Else prove '..UptoSaid'. A law counts once. -/
mutual
def uptoBulk {H : Type} : DataW H → Nat
  | .lit (.string bytes) => bytes.length + 1
  | .lit _ => 1
  | .nil => 1
  | .ptr d => uptoBulk d + 1
  | .slice elems spare => uptoBulkAll elems + uptoBulkAll spare + 1
  | .agg parts => uptoBulkAll parts + 1
  | .iface _ d => uptoBulk d + 1
  | .map entries => uptoBulkEntries entries + 1
  | .held _ => 1
def uptoBulkAll {H : Type} : List (DataW H) → Nat
  | [] => 0
  | d :: r => uptoBulk d + uptoBulkAll r
def uptoBulkEntries {H : Type} : List (Lit × DataW H) → Nat
  | [] => 0
  | x :: r => uptoBulkEntry x + uptoBulkEntries r
def uptoBulkEntry {H : Type} : Lit × DataW H → Nat
  | (.string bytes, d) => bytes.length + uptoBulk d + 1
  | (_, d) => uptoBulk d + 1
 end
def uptoSmall : (H : Type) → List (DataW H) → Bool := fun _ ds => decide (uptoBulkAll ds ≤ 1048576)
def OpenSpec.upto (s : _root_.Go.ChangeSpec) : _root_.Go.OpenSpec := { _root_.Go.OpenSpec.ofChange s with cond := some uptoSmall }

/-- 'pointsmanlaw6.FieldKeeps', WHERE WHAT IT READS IS OF BULK AT MOST 1048576: true; the input reads as it did. -/
def fieldKeepsUptoRow : OpenClaim := { program := "ytbhmihigfncfgabdoor", sum := "787c4757cdc1cedc5d264aebaab7251c0ec788923dd15df6e2e85aa15381c21c", func := "pointsman/pointsmanlaw6.FieldKeeps", spec := "fieldKeeps", named := ["unicode/utf8.first", "unicode/utf8.acceptRanges"], apart := false, laid := [("unicode/utf8.acceptRanges", laid_unicode_utf8_acceptRanges), ("unicode/utf8.first", laid_unicode_utf8_first)], narrowed := true }
def FieldKeepsUptoSaid : Prop := fieldKeepsUptoRow.holds Tryd.pinned (OpenSpec.upto fieldKeepsSpec)

/-- 'pointsmanlaw4.TableTells', WHERE WHAT IT READS IS OF BULK AT MOST 1048576: true; the input reads as it did. -/
def tableTellsUptoRow : OpenClaim := { program := "ytbhmihigfncfgabdoor", sum := "787c4757cdc1cedc5d264aebaab7251c0ec788923dd15df6e2e85aa15381c21c", func := "pointsman/pointsmanlaw4.TableTells", spec := "tableTells", unfollowed := true, recurses := true, named := ["unicode/utf8.first", "unicode/utf8.acceptRanges"], apart := false, laid := [("unicode/utf8.acceptRanges", laid_unicode_utf8_acceptRanges), ("unicode/utf8.first", laid_unicode_utf8_first)], narrowed := true }
def TableTellsUptoSaid : Prop := tableTellsUptoRow.holds Tryd.pinned (OpenSpec.upto tableTellsSpec)

/-- 'pointsmanlaw4.TableEntry', WHERE WHAT IT READS IS OF BULK AT MOST 1048576: true; the input reads as it did. -/
def tableEntryUptoRow : OpenClaim := { program := "ytbhmihigfncfgabdoor", sum := "787c4757cdc1cedc5d264aebaab7251c0ec788923dd15df6e2e85aa15381c21c", func := "pointsman/pointsmanlaw4.TableEntry", spec := "tableEntry", unfollowed := true, recurses := true, named := ["unicode/utf8.first", "unicode/utf8.acceptRanges"], apart := false, laid := [("unicode/utf8.acceptRanges", laid_unicode_utf8_acceptRanges), ("unicode/utf8.first", laid_unicode_utf8_first)], narrowed := true }
def TableEntryUptoSaid : Prop := tableEntryUptoRow.holds Tryd.pinned (OpenSpec.upto tableEntrySpec)

/-- 'pointsmanlaw6.FieldApart', WHERE WHAT IT READS IS OF BULK AT MOST 1048576: true; the input reads as it did. -/
def fieldApartUptoRow : OpenClaim := { program := "ytbhmihigfncfgabdoor", sum := "787c4757cdc1cedc5d264aebaab7251c0ec788923dd15df6e2e85aa15381c21c", func := "pointsman/pointsmanlaw6.FieldApart", spec := "fieldApart", named := ["unicode/utf8.first", "unicode/utf8.acceptRanges"], apart := false, laid := [("unicode/utf8.acceptRanges", laid_unicode_utf8_acceptRanges), ("unicode/utf8.first", laid_unicode_utf8_first)], narrowed := true }
def FieldApartUptoSaid : Prop := fieldApartUptoRow.holds Tryd.pinned (OpenSpec.upto fieldApartSpec)

/-- 'pointsmanlaw6.FieldTrains', WHERE WHAT IT READS IS OF BULK AT MOST 1048576: true; the input reads as it did. -/
def fieldTrainsUptoRow : OpenClaim := { program := "ytbhmihigfncfgabdoor", sum := "787c4757cdc1cedc5d264aebaab7251c0ec788923dd15df6e2e85aa15381c21c", func := "pointsman/pointsmanlaw6.FieldTrains", spec := "fieldTrains", named := ["unicode/utf8.first", "unicode/utf8.acceptRanges"], apart := false, laid := [("unicode/utf8.acceptRanges", laid_unicode_utf8_acceptRanges), ("unicode/utf8.first", laid_unicode_utf8_first)], narrowed := true }
def FieldTrainsUptoSaid : Prop := fieldTrainsUptoRow.holds Tryd.pinned (OpenSpec.upto fieldTrainsSpec)

/-- 'pointsmanlaw6.FieldSticks', WHERE WHAT IT READS IS OF BULK AT MOST 1048576: true; the input reads as it did. -/
def fieldSticksUptoRow : OpenClaim := { program := "ytbhmihigfncfgabdoor", sum := "787c4757cdc1cedc5d264aebaab7251c0ec788923dd15df6e2e85aa15381c21c", func := "pointsman/pointsmanlaw6.FieldSticks", spec := "fieldSticks", named := ["unicode/utf8.first", "unicode/utf8.acceptRanges"], apart := false, laid := [("unicode/utf8.acceptRanges", laid_unicode_utf8_acceptRanges), ("unicode/utf8.first", laid_unicode_utf8_first)], narrowed := true }
def FieldSticksUptoSaid : Prop := fieldSticksUptoRow.holds Tryd.pinned (OpenSpec.upto fieldSticksSpec)

/-- 'pointsmanlaw6.FieldPlays', WHERE WHAT IT READS IS OF BULK AT MOST 1048576: true; the input reads as it did. -/
def fieldPlaysUptoRow : OpenClaim := { program := "ytbhmihigfncfgabdoor", sum := "787c4757cdc1cedc5d264aebaab7251c0ec788923dd15df6e2e85aa15381c21c", func := "pointsman/pointsmanlaw6.FieldPlays", spec := "fieldPlays", named := ["unicode/utf8.first", "unicode/utf8.acceptRanges"], apart := false, laid := [("unicode/utf8.acceptRanges", laid_unicode_utf8_acceptRanges), ("unicode/utf8.first", laid_unicode_utf8_first)], narrowed := true }
def FieldPlaysUptoSaid : Prop := fieldPlaysUptoRow.holds Tryd.pinned (OpenSpec.upto fieldPlaysSpec)

/-- 'pointsmanlaw6.FieldOwn', WHERE WHAT IT READS IS OF BULK AT MOST 1048576: true; the input reads as it did. -/
def fieldOwnUptoRow : OpenClaim := { program := "ytbhmihigfncfgabdoor", sum := "787c4757cdc1cedc5d264aebaab7251c0ec788923dd15df6e2e85aa15381c21c", func := "pointsman/pointsmanlaw6.FieldOwn", spec := "fieldOwn", named := ["unicode/utf8.first", "unicode/utf8.acceptRanges"], apart := false, laid := [("unicode/utf8.acceptRanges", laid_unicode_utf8_acceptRanges), ("unicode/utf8.first", laid_unicode_utf8_first)], narrowed := true }
def FieldOwnUptoSaid : Prop := fieldOwnUptoRow.holds Tryd.pinned (OpenSpec.upto fieldOwnSpec)

end Rows
end Go.Proofs.YtbhmihigfncfgabDoor
