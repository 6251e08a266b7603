/-
  NARROWER THAN 'FOR EVERY INPUT', by the rows' own cells (each row's printed sentence says how): TableMay: laid · TableShares: laid · TablePoints: laid · TableOdd: laid · TableSelf: laid · TableLess: laid · TableBounds: laid · FieldMoves: laid · FieldStops: laid.
  DERIVED. THE GIVEN ROWS OF THIS SEAT. 9 by the template 'for every input the law returns true; each argument reads behind the call as it read before'; 0 by the template 'total and deterministic' (their statements: YtbhmihigfncfgaaDoorTotals.lean).
  GIVEN WITH THE SEED: the statements are not yours to turn. If you find one false, say at which input.
  Laid BY PROGRAM, IN A SANDBOX (cutbox-rows.mjs): the forced cells as the released guide's own fill.sh prints them over the translation a2a8f01f9d2bc29d… (all of the seat's roots in one cut). By AI agents, Wed Nov 11 2026. No macro, syntax, notation, axiom, sorry.
-/
import Derived.Test.YtbhmihigfncfgaaDoorChecked
import GoSem.PinnedTables
import GoSem.Claim
import GoSem.ClaimJoined
import GoSem.ClaimMapViews
import Derived.JoinedTies
import Derived.KernelRfl
namespace Go.Proofs.YtbhmihigfncfgaaDoor
/- THE CELL 'sum', in the pinned program and in every row, IS THE sha256 OF THE DUMP (.gsa) THAT YtbhmihigfncfgaaDoorProg.lean LOADS. Nothing in Lean hashes anything: it is a label: what it is worth is what the hold of that sum in a sandbox is worth. -/
noncomputable def Tryd.pinned : Pinned := { name := "ytbhmihigfncfgaadoor", sum := "a2a8f01f9d2bc29da09a33915b3a6ee866b5eb8ede7ad65a3a892f71692855c2", checked := Tryd.checked }
namespace Rows
def none {H : Type} : Left H := { results := [], args := [] }

/- WHAT THE LISTED PACKAGE-LEVEL VARIABLES READ AS WHEN THE CALL BEGINS. Each datum BY PROGRAM (the guide's laid-datum.mjs) off the statement by which the dump's own 'gosem.cut.vars' lays the variable. In a bare row this is a premise. The card (YtbhmihigfncfgaaDoorCards.lean) ties it to the program's text. -/
def laid_unicode_utf8_acceptRanges {H : Type} : DataW H := .agg [.agg [.lit (.int .u8 128), .lit (.int .u8 191)], .agg [.lit (.int .u8 160), .lit (.int .u8 191)], .agg [.lit (.int .u8 128), .lit (.int .u8 159)], .agg [.lit (.int .u8 144), .lit (.int .u8 191)], .agg [.lit (.int .u8 128), .lit (.int .u8 143)], .agg [.lit (.int .u8 0), .lit (.int .u8 0)], .agg [.lit (.int .u8 0), .lit (.int .u8 0)], .agg [.lit (.int .u8 0), .lit (.int .u8 0)], .agg [.lit (.int .u8 0), .lit (.int .u8 0)], .agg [.lit (.int .u8 0), .lit (.int .u8 0)], .agg [.lit (.int .u8 0), .lit (.int .u8 0)], .agg [.lit (.int .u8 0), .lit (.int .u8 0)], .agg [.lit (.int .u8 0), .lit (.int .u8 0)], .agg [.lit (.int .u8 0), .lit (.int .u8 0)], .agg [.lit (.int .u8 0), .lit (.int .u8 0)], .agg [.lit (.int .u8 0), .lit (.int .u8 0)]]
/-- One of Go's own tables, pinned by name: the form's constant. -/
def laid_unicode_utf8_first : DataW Unit := Go.Pinned.utf8First

/-- 'pointsmanlaw4.TableMay': WHATEVER THE INPUT: true; the input reads as it did. -/
def tableMaySpec : ChangeSpec := { name := "tableMay", fn := fun _ => fun
  | [d] => { results := [.lit (.bool true)], args := [d] }
  | _ => none }
def tableMayRow : OpenClaim := { program := "ytbhmihigfncfgaadoor", sum := "a2a8f01f9d2bc29da09a33915b3a6ee866b5eb8ede7ad65a3a892f71692855c2", func := "pointsman/pointsmanlaw4.TableMay", spec := "tableMay", unfollowed := true, recurses := true, named := ["unicode/utf8.first", "unicode/utf8.acceptRanges"], apart := false, laid := [("unicode/utf8.acceptRanges", laid_unicode_utf8_acceptRanges), ("unicode/utf8.first", laid_unicode_utf8_first)] }
def TableMaySaid : Prop := tableMayRow.holds Tryd.pinned (OpenSpec.ofChange tableMaySpec)

/-- ITS FALSE NEIGHBOUR: 'it returns false'. Refute it at one input. -/
def tableMayWrong : ChangeSpec := { name := "tableMay", fn := fun _ => fun
  | [d] => { results := [.lit (.bool false)], args := [d] }
  | _ => none }
def TableMayWrongFalsely : Prop := tableMayRow.holds Tryd.pinned (OpenSpec.ofChange tableMayWrong)

/-- 'pointsmanlaw4.TableShares': WHATEVER THE INPUT: true; the input reads as it did. -/
def tableSharesSpec : ChangeSpec := { name := "tableShares", fn := fun _ => fun
  | [d1, d2] => { results := [.lit (.bool true)], args := [d1, d2] }
  | _ => none }
def tableSharesRow : OpenClaim := { program := "ytbhmihigfncfgaadoor", sum := "a2a8f01f9d2bc29da09a33915b3a6ee866b5eb8ede7ad65a3a892f71692855c2", func := "pointsman/pointsmanlaw4.TableShares", spec := "tableShares", unfollowed := true, recurses := true, named := ["unicode/utf8.first", "unicode/utf8.acceptRanges"], apart := false, laid := [("unicode/utf8.acceptRanges", laid_unicode_utf8_acceptRanges), ("unicode/utf8.first", laid_unicode_utf8_first)] }
def TableSharesSaid : Prop := tableSharesRow.holds Tryd.pinned (OpenSpec.ofChange tableSharesSpec)

/-- ITS FALSE NEIGHBOUR: 'it returns false'. Refute it at one input. -/
def tableSharesWrong : ChangeSpec := { name := "tableShares", fn := fun _ => fun
  | [d1, d2] => { results := [.lit (.bool false)], args := [d1, d2] }
  | _ => none }
def TableSharesWrongFalsely : Prop := tableSharesRow.holds Tryd.pinned (OpenSpec.ofChange tableSharesWrong)

/-- 'pointsmanlaw4.TablePoints': WHATEVER THE INPUT: true; the input reads as it did. -/
def tablePointsSpec : ChangeSpec := { name := "tablePoints", fn := fun _ => fun
  | [d1, d2, d3] => { results := [.lit (.bool true)], args := [d1, d2, d3] }
  | _ => none }
def tablePointsRow : OpenClaim := { program := "ytbhmihigfncfgaadoor", sum := "a2a8f01f9d2bc29da09a33915b3a6ee866b5eb8ede7ad65a3a892f71692855c2", func := "pointsman/pointsmanlaw4.TablePoints", spec := "tablePoints", unfollowed := true, recurses := true, named := ["unicode/utf8.first", "unicode/utf8.acceptRanges"], apart := false, laid := [("unicode/utf8.acceptRanges", laid_unicode_utf8_acceptRanges), ("unicode/utf8.first", laid_unicode_utf8_first)] }
def TablePointsSaid : Prop := tablePointsRow.holds Tryd.pinned (OpenSpec.ofChange tablePointsSpec)

/-- ITS FALSE NEIGHBOUR: 'it returns false'. Refute it at one input. -/
def tablePointsWrong : ChangeSpec := { name := "tablePoints", fn := fun _ => fun
  | [d1, d2, d3] => { results := [.lit (.bool false)], args := [d1, d2, d3] }
  | _ => none }
def TablePointsWrongFalsely : Prop := tablePointsRow.holds Tryd.pinned (OpenSpec.ofChange tablePointsWrong)

/-- 'pointsmanlaw4.TableOdd': WHATEVER THE INPUT: true; the input reads as it did. -/
def tableOddSpec : ChangeSpec := { name := "tableOdd", fn := fun _ => fun
  | [d] => { results := [.lit (.bool true)], args := [d] }
  | _ => none }
def tableOddRow : OpenClaim := { program := "ytbhmihigfncfgaadoor", sum := "a2a8f01f9d2bc29da09a33915b3a6ee866b5eb8ede7ad65a3a892f71692855c2", func := "pointsman/pointsmanlaw4.TableOdd", spec := "tableOdd", unfollowed := true, recurses := true, named := ["unicode/utf8.first", "unicode/utf8.acceptRanges"], apart := false, laid := [("unicode/utf8.acceptRanges", laid_unicode_utf8_acceptRanges), ("unicode/utf8.first", laid_unicode_utf8_first)] }
def TableOddSaid : Prop := tableOddRow.holds Tryd.pinned (OpenSpec.ofChange tableOddSpec)

/-- ITS FALSE NEIGHBOUR: 'it returns false'. Refute it at one input. -/
def tableOddWrong : ChangeSpec := { name := "tableOdd", fn := fun _ => fun
  | [d] => { results := [.lit (.bool false)], args := [d] }
  | _ => none }
def TableOddWrongFalsely : Prop := tableOddRow.holds Tryd.pinned (OpenSpec.ofChange tableOddWrong)

/-- 'pointsmanlaw4.TableSelf': WHATEVER THE INPUT: true; the input reads as it did. -/
def tableSelfSpec : ChangeSpec := { name := "tableSelf", fn := fun _ => fun
  | [d] => { results := [.lit (.bool true)], args := [d] }
  | _ => none }
def tableSelfRow : OpenClaim := { program := "ytbhmihigfncfgaadoor", sum := "a2a8f01f9d2bc29da09a33915b3a6ee866b5eb8ede7ad65a3a892f71692855c2", func := "pointsman/pointsmanlaw4.TableSelf", spec := "tableSelf", unfollowed := true, recurses := true, named := ["unicode/utf8.first", "unicode/utf8.acceptRanges"], apart := false, laid := [("unicode/utf8.acceptRanges", laid_unicode_utf8_acceptRanges), ("unicode/utf8.first", laid_unicode_utf8_first)] }
def TableSelfSaid : Prop := tableSelfRow.holds Tryd.pinned (OpenSpec.ofChange tableSelfSpec)

/-- ITS FALSE NEIGHBOUR: 'it returns false'. Refute it at one input. -/
def tableSelfWrong : ChangeSpec := { name := "tableSelf", fn := fun _ => fun
  | [d] => { results := [.lit (.bool false)], args := [d] }
  | _ => none }
def TableSelfWrongFalsely : Prop := tableSelfRow.holds Tryd.pinned (OpenSpec.ofChange tableSelfWrong)

/-- 'pointsmanlaw4.TableLess': WHATEVER THE INPUT: true; the input reads as it did. -/
def tableLessSpec : ChangeSpec := { name := "tableLess", fn := fun _ => fun
  | [d] => { results := [.lit (.bool true)], args := [d] }
  | _ => none }
def tableLessRow : OpenClaim := { program := "ytbhmihigfncfgaadoor", sum := "a2a8f01f9d2bc29da09a33915b3a6ee866b5eb8ede7ad65a3a892f71692855c2", func := "pointsman/pointsmanlaw4.TableLess", spec := "tableLess", unfollowed := true, recurses := true, named := ["unicode/utf8.first", "unicode/utf8.acceptRanges"], apart := false, laid := [("unicode/utf8.acceptRanges", laid_unicode_utf8_acceptRanges), ("unicode/utf8.first", laid_unicode_utf8_first)] }
def TableLessSaid : Prop := tableLessRow.holds Tryd.pinned (OpenSpec.ofChange tableLessSpec)

/-- ITS FALSE NEIGHBOUR: 'it returns false'. Refute it at one input. -/
def tableLessWrong : ChangeSpec := { name := "tableLess", fn := fun _ => fun
  | [d] => { results := [.lit (.bool false)], args := [d] }
  | _ => none }
def TableLessWrongFalsely : Prop := tableLessRow.holds Tryd.pinned (OpenSpec.ofChange tableLessWrong)

/-- 'pointsmanlaw4.TableBounds': WHATEVER THE INPUT: true; the input reads as it did. -/
def tableBoundsSpec : ChangeSpec := { name := "tableBounds", fn := fun _ => fun
  | [d1, d2, d3, d4] => { results := [.lit (.bool true)], args := [d1, d2, d3, d4] }
  | _ => none }
def tableBoundsRow : OpenClaim := { program := "ytbhmihigfncfgaadoor", sum := "a2a8f01f9d2bc29da09a33915b3a6ee866b5eb8ede7ad65a3a892f71692855c2", func := "pointsman/pointsmanlaw4.TableBounds", spec := "tableBounds", unfollowed := true, recurses := true, named := ["unicode/utf8.first", "unicode/utf8.acceptRanges"], apart := false, laid := [("unicode/utf8.acceptRanges", laid_unicode_utf8_acceptRanges), ("unicode/utf8.first", laid_unicode_utf8_first)] }
def TableBoundsSaid : Prop := tableBoundsRow.holds Tryd.pinned (OpenSpec.ofChange tableBoundsSpec)

/-- ITS FALSE NEIGHBOUR: 'it returns false'. Refute it at one input. -/
def tableBoundsWrong : ChangeSpec := { name := "tableBounds", fn := fun _ => fun
  | [d1, d2, d3, d4] => { results := [.lit (.bool false)], args := [d1, d2, d3, d4] }
  | _ => none }
def TableBoundsWrongFalsely : Prop := tableBoundsRow.holds Tryd.pinned (OpenSpec.ofChange tableBoundsWrong)

/-- 'pointsmanlaw6.FieldMoves': WHATEVER THE INPUT: true; the input reads as it did. -/
def fieldMovesSpec : ChangeSpec := { name := "fieldMoves", fn := fun _ => fun
  | [d] => { results := [.lit (.bool true)], args := [d] }
  | _ => none }
def fieldMovesRow : OpenClaim := { program := "ytbhmihigfncfgaadoor", sum := "a2a8f01f9d2bc29da09a33915b3a6ee866b5eb8ede7ad65a3a892f71692855c2", func := "pointsman/pointsmanlaw6.FieldMoves", spec := "fieldMoves", named := ["unicode/utf8.first", "unicode/utf8.acceptRanges"], apart := false, laid := [("unicode/utf8.acceptRanges", laid_unicode_utf8_acceptRanges), ("unicode/utf8.first", laid_unicode_utf8_first)] }
def FieldMovesSaid : Prop := fieldMovesRow.holds Tryd.pinned (OpenSpec.ofChange fieldMovesSpec)

/-- ITS FALSE NEIGHBOUR: 'it returns false'. Refute it at one input. -/
def fieldMovesWrong : ChangeSpec := { name := "fieldMoves", fn := fun _ => fun
  | [d] => { results := [.lit (.bool false)], args := [d] }
  | _ => none }
def FieldMovesWrongFalsely : Prop := fieldMovesRow.holds Tryd.pinned (OpenSpec.ofChange fieldMovesWrong)

/-- 'pointsmanlaw6.FieldStops': WHATEVER THE INPUT: true; the input reads as it did. -/
def fieldStopsSpec : ChangeSpec := { name := "fieldStops", fn := fun _ => fun
  | [d1, d2] => { results := [.lit (.bool true)], args := [d1, d2] }
  | _ => none }
def fieldStopsRow : OpenClaim := { program := "ytbhmihigfncfgaadoor", sum := "a2a8f01f9d2bc29da09a33915b3a6ee866b5eb8ede7ad65a3a892f71692855c2", func := "pointsman/pointsmanlaw6.FieldStops", spec := "fieldStops", named := ["unicode/utf8.first", "unicode/utf8.acceptRanges"], apart := false, laid := [("unicode/utf8.acceptRanges", laid_unicode_utf8_acceptRanges), ("unicode/utf8.first", laid_unicode_utf8_first)] }
def FieldStopsSaid : Prop := fieldStopsRow.holds Tryd.pinned (OpenSpec.ofChange fieldStopsSpec)

/-- ITS FALSE NEIGHBOUR: 'it returns false'. Refute it at one input. -/
def fieldStopsWrong : ChangeSpec := { name := "fieldStops", fn := fun _ => fun
  | [d1, d2] => { results := [.lit (.bool false)], args := [d1, d2] }
  | _ => none }
def FieldStopsWrongFalsely : Prop := fieldStopsRow.holds Tryd.pinned (OpenSpec.ofChange fieldStopsWrong)

/- THE SECOND FORM. 'bulk': how many values and letters a reading holds, each counted each time it is reached (what is shared counts as often as it is met; a slice's spare places count too). A statement '..UptoSaid' is the law's where the arguments, and the package variables that the reading takes, are together of bulk at most 1048576: NARROWER than '..Said'. Prove '..Said' where nothing that the law and all that it calls make is longer than what came in: it says more and counts as full. Else prove '..UptoSaid'. A law counts once. -/
mutual
def uptoBulk {H : Type} : DataW H → Nat
  | .lit (.string bytes) => bytes.length + 1
  | .lit _ => 1
  | .nil => 1
  | .ptr d => uptoBulk d + 1
  | .slice elems spare => uptoBulkAll elems + uptoBulkAll spare + 1
  | .agg parts => uptoBulkAll parts + 1
  | .iface _ d => uptoBulk d + 1
  | .map entries => uptoBulkEntries entries + 1
  | .held _ => 1
def uptoBulkAll {H : Type} : List (DataW H) → Nat
  | [] => 0
  | d :: r => uptoBulk d + uptoBulkAll r
def uptoBulkEntries {H : Type} : List (Lit × DataW H) → Nat
  | [] => 0
  | x :: r => uptoBulkEntry x + uptoBulkEntries r
def uptoBulkEntry {H : Type} : Lit × DataW H → Nat
  | (.string bytes, d) => bytes.length + uptoBulk d + 1
  | (_, d) => uptoBulk d + 1
 end
def uptoSmall : (H : Type) → List (DataW H) → Bool := fun _ ds => decide (uptoBulkAll ds ≤ 1048576)
def OpenSpec.upto (s : _root_.Go.ChangeSpec) : _root_.Go.OpenSpec := { _root_.Go.OpenSpec.ofChange s with cond := some uptoSmall }

/-- 'pointsmanlaw4.TableMay', WHERE WHAT IT READS IS OF BULK AT MOST 1048576: true; the input reads as it did. -/
def tableMayUptoRow : OpenClaim := { program := "ytbhmihigfncfgaadoor", sum := "a2a8f01f9d2bc29da09a33915b3a6ee866b5eb8ede7ad65a3a892f71692855c2", func := "pointsman/pointsmanlaw4.TableMay", spec := "tableMay", unfollowed := true, recurses := true, named := ["unicode/utf8.first", "unicode/utf8.acceptRanges"], apart := false, laid := [("unicode/utf8.acceptRanges", laid_unicode_utf8_acceptRanges), ("unicode/utf8.first", laid_unicode_utf8_first)], narrowed := true }
def TableMayUptoSaid : Prop := tableMayUptoRow.holds Tryd.pinned (OpenSpec.upto tableMaySpec)

/-- 'pointsmanlaw4.TableShares', WHERE WHAT IT READS IS OF BULK AT MOST 1048576: true; the input reads as it did. -/
def tableSharesUptoRow : OpenClaim := { program := "ytbhmihigfncfgaadoor", sum := "a2a8f01f9d2bc29da09a33915b3a6ee866b5eb8ede7ad65a3a892f71692855c2", func := "pointsman/pointsmanlaw4.TableShares", spec := "tableShares", unfollowed := true, recurses := true, named := ["unicode/utf8.first", "unicode/utf8.acceptRanges"], apart := false, laid := [("unicode/utf8.acceptRanges", laid_unicode_utf8_acceptRanges), ("unicode/utf8.first", laid_unicode_utf8_first)], narrowed := true }
def TableSharesUptoSaid : Prop := tableSharesUptoRow.holds Tryd.pinned (OpenSpec.upto tableSharesSpec)

/-- 'pointsmanlaw4.TablePoints', WHERE WHAT IT READS IS OF BULK AT MOST 1048576: true; the input reads as it did. -/
def tablePointsUptoRow : OpenClaim := { program := "ytbhmihigfncfgaadoor", sum := "a2a8f01f9d2bc29da09a33915b3a6ee866b5eb8ede7ad65a3a892f71692855c2", func := "pointsman/pointsmanlaw4.TablePoints", spec := "tablePoints", unfollowed := true, recurses := true, named := ["unicode/utf8.first", "unicode/utf8.acceptRanges"], apart := false, laid := [("unicode/utf8.acceptRanges", laid_unicode_utf8_acceptRanges), ("unicode/utf8.first", laid_unicode_utf8_first)], narrowed := true }
def TablePointsUptoSaid : Prop := tablePointsUptoRow.holds Tryd.pinned (OpenSpec.upto tablePointsSpec)

/-- 'pointsmanlaw4.TableOdd', WHERE WHAT IT READS IS OF BULK AT MOST 1048576: true; the input reads as it did. -/
def tableOddUptoRow : OpenClaim := { program := "ytbhmihigfncfgaadoor", sum := "a2a8f01f9d2bc29da09a33915b3a6ee866b5eb8ede7ad65a3a892f71692855c2", func := "pointsman/pointsmanlaw4.TableOdd", spec := "tableOdd", unfollowed := true, recurses := true, named := ["unicode/utf8.first", "unicode/utf8.acceptRanges"], apart := false, laid := [("unicode/utf8.acceptRanges", laid_unicode_utf8_acceptRanges), ("unicode/utf8.first", laid_unicode_utf8_first)], narrowed := true }
def TableOddUptoSaid : Prop := tableOddUptoRow.holds Tryd.pinned (OpenSpec.upto tableOddSpec)

/-- 'pointsmanlaw4.TableSelf', WHERE WHAT IT READS IS OF BULK AT MOST 1048576: true; the input reads as it did. -/
def tableSelfUptoRow : OpenClaim := { program := "ytbhmihigfncfgaadoor", sum := "a2a8f01f9d2bc29da09a33915b3a6ee866b5eb8ede7ad65a3a892f71692855c2", func := "pointsman/pointsmanlaw4.TableSelf", spec := "tableSelf", unfollowed := true, recurses := true, named := ["unicode/utf8.first", "unicode/utf8.acceptRanges"], apart := false, laid := [("unicode/utf8.acceptRanges", laid_unicode_utf8_acceptRanges), ("unicode/utf8.first", laid_unicode_utf8_first)], narrowed := true }
def TableSelfUptoSaid : Prop := tableSelfUptoRow.holds Tryd.pinned (OpenSpec.upto tableSelfSpec)

/-- 'pointsmanlaw4.TableLess', WHERE WHAT IT READS IS OF BULK AT MOST 1048576: true; the input reads as it did. -/
def tableLessUptoRow : OpenClaim := { program := "ytbhmihigfncfgaadoor", sum := "a2a8f01f9d2bc29da09a33915b3a6ee866b5eb8ede7ad65a3a892f71692855c2", func := "pointsman/pointsmanlaw4.TableLess", spec := "tableLess", unfollowed := true, recurses := true, named := ["unicode/utf8.first", "unicode/utf8.acceptRanges"], apart := false, laid := [("unicode/utf8.acceptRanges", laid_unicode_utf8_acceptRanges), ("unicode/utf8.first", laid_unicode_utf8_first)], narrowed := true }
def TableLessUptoSaid : Prop := tableLessUptoRow.holds Tryd.pinned (OpenSpec.upto tableLessSpec)

/-- 'pointsmanlaw4.TableBounds', WHERE WHAT IT READS IS OF BULK AT MOST 1048576: true; the input reads as it did. -/
def tableBoundsUptoRow : OpenClaim := { program := "ytbhmihigfncfgaadoor", sum := "a2a8f01f9d2bc29da09a33915b3a6ee866b5eb8ede7ad65a3a892f71692855c2", func := "pointsman/pointsmanlaw4.TableBounds", spec := "tableBounds", unfollowed := true, recurses := true, named := ["unicode/utf8.first", "unicode/utf8.acceptRanges"], apart := false, laid := [("unicode/utf8.acceptRanges", laid_unicode_utf8_acceptRanges), ("unicode/utf8.first", laid_unicode_utf8_first)], narrowed := true }
def TableBoundsUptoSaid : Prop := tableBoundsUptoRow.holds Tryd.pinned (OpenSpec.upto tableBoundsSpec)

/-- 'pointsmanlaw6.FieldMoves', WHERE WHAT IT READS IS OF BULK AT MOST 1048576: true; the input reads as it did. -/
def fieldMovesUptoRow : OpenClaim := { program := "ytbhmihigfncfgaadoor", sum := "a2a8f01f9d2bc29da09a33915b3a6ee866b5eb8ede7ad65a3a892f71692855c2", func := "pointsman/pointsmanlaw6.FieldMoves", spec := "fieldMoves", named := ["unicode/utf8.first", "unicode/utf8.acceptRanges"], apart := false, laid := [("unicode/utf8.acceptRanges", laid_unicode_utf8_acceptRanges), ("unicode/utf8.first", laid_unicode_utf8_first)], narrowed := true }
def FieldMovesUptoSaid : Prop := fieldMovesUptoRow.holds Tryd.pinned (OpenSpec.upto fieldMovesSpec)

/-- 'pointsmanlaw6.FieldStops', WHERE WHAT IT READS IS OF BULK AT MOST 1048576: true; the input reads as it did. -/
def fieldStopsUptoRow : OpenClaim := { program := "ytbhmihigfncfgaadoor", sum := "a2a8f01f9d2bc29da09a33915b3a6ee866b5eb8ede7ad65a3a892f71692855c2", func := "pointsman/pointsmanlaw6.FieldStops", spec := "fieldStops", named := ["unicode/utf8.first", "unicode/utf8.acceptRanges"], apart := false, laid := [("unicode/utf8.acceptRanges", laid_unicode_utf8_acceptRanges), ("unicode/utf8.first", laid_unicode_utf8_first)], narrowed := true }
def FieldStopsUptoSaid : Prop := fieldStopsUptoRow.holds Tryd.pinned (OpenSpec.upto fieldStopsSpec)

end Rows
end Go.Proofs.YtbhmihigfncfgaaDoor
