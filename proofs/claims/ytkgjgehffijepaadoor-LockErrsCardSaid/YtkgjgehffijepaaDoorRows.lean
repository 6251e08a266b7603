/-
  NARROWER THAN 'FOR EVERY INPUT', by the rows' own cells (each row's printed sentence says how): LockTells: laid · LockErrs: laid · LockRuns: laid · LockSets: laid · LockHolds: laid · LockCalls: laid · LockBusy: laid.
  DERIVED. THE GIVEN ROWS OF THIS SEAT. 7 by the template 'for every input the law returns true; each argument reads behind the call as it read before'; 0 by the template 'total and deterministic' (their statements: YtkgjgehffijepaaDoorTotals.lean).
  GIVEN WITH THE SEED: the statements are not yours to turn. If you find one false, say at which input.
  Laid BY PROGRAM, IN A SANDBOX (cutbox-rows.mjs): the forced cells as the released guide's own fill.sh prints them over the translation 1bc0e8e44602b53e… (all of the seat's roots in one cut). By AI agents, Wed Nov 11 2026. No macro, syntax, notation, axiom, sorry.
-/
import Derived.Test.YtkgjgehffijepaaDoorChecked
import GoSem.PinnedTables
import GoSem.Claim
import GoSem.ClaimJoined
import GoSem.ClaimMapViews
import Derived.JoinedTies
import Derived.KernelRfl
namespace Go.Proofs.YtkgjgehffijepaaDoor
/- THE CELL 'sum', in the pinned program and in every row, IS THE sha256 OF THE DUMP (.gsa) THAT YtkgjgehffijepaaDoorProg.lean LOADS. Nothing in Lean hashes anything: it is a label: what it is worth is what the hold of that sum in a sandbox is worth. -/
noncomputable def Tryd.pinned : Pinned := { name := "ytkgjgehffijepaadoor", sum := "1bc0e8e44602b53e1ae99d562d737f3df46dffdf2b5b21845747ef62238f75b6", checked := Tryd.checked }
namespace Rows
def none {H : Type} : Left H := { results := [], args := [] }

/- WHAT THE LISTED PACKAGE-LEVEL VARIABLES READ AS WHEN THE CALL BEGINS. Each datum BY PROGRAM (the guide's laid-datum.mjs) off the statement by which the dump's own 'gosem.cut.vars' lays the variable. In a bare row this is a premise. The card (YtkgjgehffijepaaDoorCards.lean) ties it to the program's text. -/
def laid_unicode_utf8_acceptRanges {H : Type} : DataW H := .agg [.agg [.lit (.int .u8 128), .lit (.int .u8 191)], .agg [.lit (.int .u8 160), .lit (.int .u8 191)], .agg [.lit (.int .u8 128), .lit (.int .u8 159)], .agg [.lit (.int .u8 144), .lit (.int .u8 191)], .agg [.lit (.int .u8 128), .lit (.int .u8 143)], .agg [.lit (.int .u8 0), .lit (.int .u8 0)], .agg [.lit (.int .u8 0), .lit (.int .u8 0)], .agg [.lit (.int .u8 0), .lit (.int .u8 0)], .agg [.lit (.int .u8 0), .lit (.int .u8 0)], .agg [.lit (.int .u8 0), .lit (.int .u8 0)], .agg [.lit (.int .u8 0), .lit (.int .u8 0)], .agg [.lit (.int .u8 0), .lit (.int .u8 0)], .agg [.lit (.int .u8 0), .lit (.int .u8 0)], .agg [.lit (.int .u8 0), .lit (.int .u8 0)], .agg [.lit (.int .u8 0), .lit (.int .u8 0)], .agg [.lit (.int .u8 0), .lit (.int .u8 0)]]
/-- One of Go's own tables, pinned by name: the form's constant. -/
def laid_unicode_utf8_first : DataW Unit := Go.Pinned.utf8First

/-- 'pointsmanlaw5.LockTells': WHATEVER THE INPUT: true; the input reads as it did. -/
def lockTellsSpec : ChangeSpec := { name := "lockTells", fn := fun _ => fun
  | [d1, d2] => { results := [.lit (.bool true)], args := [d1, d2] }
  | _ => none }
def lockTellsRow : OpenClaim := { program := "ytkgjgehffijepaadoor", sum := "1bc0e8e44602b53e1ae99d562d737f3df46dffdf2b5b21845747ef62238f75b6", func := "pointsman/pointsmanlaw5.LockTells", spec := "lockTells", unfollowed := true, recurses := true, named := ["unicode/utf8.first", "unicode/utf8.acceptRanges"], apart := false, laid := [("unicode/utf8.acceptRanges", laid_unicode_utf8_acceptRanges), ("unicode/utf8.first", laid_unicode_utf8_first)] }
def LockTellsSaid : Prop := lockTellsRow.holds Tryd.pinned (OpenSpec.ofChange lockTellsSpec)

/-- ITS FALSE NEIGHBOUR: 'it returns false'. Refute it at one input. -/
def lockTellsWrong : ChangeSpec := { name := "lockTells", fn := fun _ => fun
  | [d1, d2] => { results := [.lit (.bool false)], args := [d1, d2] }
  | _ => none }
def LockTellsWrongFalsely : Prop := lockTellsRow.holds Tryd.pinned (OpenSpec.ofChange lockTellsWrong)

/-- 'pointsmanlaw5.LockErrs': WHATEVER THE INPUT: true; the input reads as it did. -/
def lockErrsSpec : ChangeSpec := { name := "lockErrs", fn := fun _ => fun
  | [d1, d2, d3] => { results := [.lit (.bool true)], args := [d1, d2, d3] }
  | _ => none }
def lockErrsRow : OpenClaim := { program := "ytkgjgehffijepaadoor", sum := "1bc0e8e44602b53e1ae99d562d737f3df46dffdf2b5b21845747ef62238f75b6", func := "pointsman/pointsmanlaw5.LockErrs", spec := "lockErrs", unfollowed := true, recurses := true, named := ["unicode/utf8.first", "unicode/utf8.acceptRanges"], apart := false, laid := [("unicode/utf8.acceptRanges", laid_unicode_utf8_acceptRanges), ("unicode/utf8.first", laid_unicode_utf8_first)] }
def LockErrsSaid : Prop := lockErrsRow.holds Tryd.pinned (OpenSpec.ofChange lockErrsSpec)

/-- ITS FALSE NEIGHBOUR: 'it returns false'. Refute it at one input. -/
def lockErrsWrong : ChangeSpec := { name := "lockErrs", fn := fun _ => fun
  | [d1, d2, d3] => { results := [.lit (.bool false)], args := [d1, d2, d3] }
  | _ => none }
def LockErrsWrongFalsely : Prop := lockErrsRow.holds Tryd.pinned (OpenSpec.ofChange lockErrsWrong)

/-- 'pointsmanlaw5.LockRuns': WHATEVER THE INPUT: true; the input reads as it did. -/
def lockRunsSpec : ChangeSpec := { name := "lockRuns", fn := fun _ => fun
  | [d] => { results := [.lit (.bool true)], args := [d] }
  | _ => none }
def lockRunsRow : OpenClaim := { program := "ytkgjgehffijepaadoor", sum := "1bc0e8e44602b53e1ae99d562d737f3df46dffdf2b5b21845747ef62238f75b6", func := "pointsman/pointsmanlaw5.LockRuns", spec := "lockRuns", unfollowed := true, recurses := true, named := ["unicode/utf8.first", "unicode/utf8.acceptRanges"], apart := false, laid := [("unicode/utf8.acceptRanges", laid_unicode_utf8_acceptRanges), ("unicode/utf8.first", laid_unicode_utf8_first)] }
def LockRunsSaid : Prop := lockRunsRow.holds Tryd.pinned (OpenSpec.ofChange lockRunsSpec)

/-- ITS FALSE NEIGHBOUR: 'it returns false'. Refute it at one input. -/
def lockRunsWrong : ChangeSpec := { name := "lockRuns", fn := fun _ => fun
  | [d] => { results := [.lit (.bool false)], args := [d] }
  | _ => none }
def LockRunsWrongFalsely : Prop := lockRunsRow.holds Tryd.pinned (OpenSpec.ofChange lockRunsWrong)

/-- 'pointsmanlaw5.LockSets': WHATEVER THE INPUT: true; the input reads as it did. -/
def lockSetsSpec : ChangeSpec := { name := "lockSets", fn := fun _ => fun
  | [d] => { results := [.lit (.bool true)], args := [d] }
  | _ => none }
def lockSetsRow : OpenClaim := { program := "ytkgjgehffijepaadoor", sum := "1bc0e8e44602b53e1ae99d562d737f3df46dffdf2b5b21845747ef62238f75b6", func := "pointsman/pointsmanlaw5.LockSets", spec := "lockSets", unfollowed := true, recurses := true, named := ["unicode/utf8.first", "unicode/utf8.acceptRanges"], apart := false, laid := [("unicode/utf8.acceptRanges", laid_unicode_utf8_acceptRanges), ("unicode/utf8.first", laid_unicode_utf8_first)] }
def LockSetsSaid : Prop := lockSetsRow.holds Tryd.pinned (OpenSpec.ofChange lockSetsSpec)

/-- ITS FALSE NEIGHBOUR: 'it returns false'. Refute it at one input. -/
def lockSetsWrong : ChangeSpec := { name := "lockSets", fn := fun _ => fun
  | [d] => { results := [.lit (.bool false)], args := [d] }
  | _ => none }
def LockSetsWrongFalsely : Prop := lockSetsRow.holds Tryd.pinned (OpenSpec.ofChange lockSetsWrong)

/-- 'pointsmanlaw5.LockHolds': WHATEVER THE INPUT: true; the input reads as it did. -/
def lockHoldsSpec : ChangeSpec := { name := "lockHolds", fn := fun _ => fun
  | [d1, d2] => { results := [.lit (.bool true)], args := [d1, d2] }
  | _ => none }
def lockHoldsRow : OpenClaim := { program := "ytkgjgehffijepaadoor", sum := "1bc0e8e44602b53e1ae99d562d737f3df46dffdf2b5b21845747ef62238f75b6", func := "pointsman/pointsmanlaw5.LockHolds", spec := "lockHolds", unfollowed := true, recurses := true, named := ["unicode/utf8.first", "unicode/utf8.acceptRanges"], apart := false, laid := [("unicode/utf8.acceptRanges", laid_unicode_utf8_acceptRanges), ("unicode/utf8.first", laid_unicode_utf8_first)] }
def LockHoldsSaid : Prop := lockHoldsRow.holds Tryd.pinned (OpenSpec.ofChange lockHoldsSpec)

/-- ITS FALSE NEIGHBOUR: 'it returns false'. Refute it at one input. -/
def lockHoldsWrong : ChangeSpec := { name := "lockHolds", fn := fun _ => fun
  | [d1, d2] => { results := [.lit (.bool false)], args := [d1, d2] }
  | _ => none }
def LockHoldsWrongFalsely : Prop := lockHoldsRow.holds Tryd.pinned (OpenSpec.ofChange lockHoldsWrong)

/-- 'pointsmanlaw5.LockCalls': WHATEVER THE INPUT: true; the input reads as it did. -/
def lockCallsSpec : ChangeSpec := { name := "lockCalls", fn := fun _ => fun
  | [d1, d2] => { results := [.lit (.bool true)], args := [d1, d2] }
  | _ => none }
def lockCallsRow : OpenClaim := { program := "ytkgjgehffijepaadoor", sum := "1bc0e8e44602b53e1ae99d562d737f3df46dffdf2b5b21845747ef62238f75b6", func := "pointsman/pointsmanlaw5.LockCalls", spec := "lockCalls", unfollowed := true, recurses := true, named := ["unicode/utf8.first", "unicode/utf8.acceptRanges"], apart := false, laid := [("unicode/utf8.acceptRanges", laid_unicode_utf8_acceptRanges), ("unicode/utf8.first", laid_unicode_utf8_first)] }
def LockCallsSaid : Prop := lockCallsRow.holds Tryd.pinned (OpenSpec.ofChange lockCallsSpec)

/-- ITS FALSE NEIGHBOUR: 'it returns false'. Refute it at one input. -/
def lockCallsWrong : ChangeSpec := { name := "lockCalls", fn := fun _ => fun
  | [d1, d2] => { results := [.lit (.bool false)], args := [d1, d2] }
  | _ => none }
def LockCallsWrongFalsely : Prop := lockCallsRow.holds Tryd.pinned (OpenSpec.ofChange lockCallsWrong)

/-- 'pointsmanlaw5.LockBusy': WHATEVER THE INPUT: true; the input reads as it did. -/
def lockBusySpec : ChangeSpec := { name := "lockBusy", fn := fun _ => fun
  | [d1, d2, d3] => { results := [.lit (.bool true)], args := [d1, d2, d3] }
  | _ => none }
def lockBusyRow : OpenClaim := { program := "ytkgjgehffijepaadoor", sum := "1bc0e8e44602b53e1ae99d562d737f3df46dffdf2b5b21845747ef62238f75b6", func := "pointsman/pointsmanlaw5.LockBusy", spec := "lockBusy", unfollowed := true, recurses := true, named := ["unicode/utf8.first", "unicode/utf8.acceptRanges"], apart := false, laid := [("unicode/utf8.acceptRanges", laid_unicode_utf8_acceptRanges), ("unicode/utf8.first", laid_unicode_utf8_first)] }
def LockBusySaid : Prop := lockBusyRow.holds Tryd.pinned (OpenSpec.ofChange lockBusySpec)

/-- ITS FALSE NEIGHBOUR: 'it returns false'. Refute it at one input. -/
def lockBusyWrong : ChangeSpec := { name := "lockBusy", fn := fun _ => fun
  | [d1, d2, d3] => { results := [.lit (.bool false)], args := [d1, d2, d3] }
  | _ => none }
def LockBusyWrongFalsely : Prop := lockBusyRow.holds Tryd.pinned (OpenSpec.ofChange lockBusyWrong)

/- THE SECOND FORM. 'bulk': how many values and letters a reading holds, each counted each time it is reached (what is shared counts as often as it is met; a slice's spare places count too). A statement '..UptoSaid' is the law's where the arguments, and the package variables that the reading takes, are together of bulk at most 1048576: NARROWER than '..Said'. Prove '..Said' where nothing that the law and all that it calls make is longer than what came in: it says more and counts as full. Else prove '..UptoSaid'. A law counts once. -/
mutual
def uptoBulk {H : Type} : DataW H → Nat
  | .lit (.string bytes) => bytes.length + 1
  | .lit _ => 1
  | .nil => 1
  | .ptr d => uptoBulk d + 1
  | .slice elems spare => uptoBulkAll elems + uptoBulkAll spare + 1
  | .agg parts => uptoBulkAll parts + 1
  | .iface _ d => uptoBulk d + 1
  | .map entries => uptoBulkEntries entries + 1
  | .held _ => 1
def uptoBulkAll {H : Type} : List (DataW H) → Nat
  | [] => 0
  | d :: r => uptoBulk d + uptoBulkAll r
def uptoBulkEntries {H : Type} : List (Lit × DataW H) → Nat
  | [] => 0
  | x :: r => uptoBulkEntry x + uptoBulkEntries r
def uptoBulkEntry {H : Type} : Lit × DataW H → Nat
  | (.string bytes, d) => bytes.length + uptoBulk d + 1
  | (_, d) => uptoBulk d + 1
 end
def uptoSmall : (H : Type) → List (DataW H) → Bool := fun _ ds => decide (uptoBulkAll ds ≤ 1048576)
def OpenSpec.upto (s : _root_.Go.ChangeSpec) : _root_.Go.OpenSpec := { _root_.Go.OpenSpec.ofChange s with cond := some uptoSmall }

/-- 'pointsmanlaw5.LockTells', WHERE WHAT IT READS IS OF BULK AT MOST 1048576: true; the input reads as it did. -/
def lockTellsUptoRow : OpenClaim := { program := "ytkgjgehffijepaadoor", sum := "1bc0e8e44602b53e1ae99d562d737f3df46dffdf2b5b21845747ef62238f75b6", func := "pointsman/pointsmanlaw5.LockTells", spec := "lockTells", unfollowed := true, recurses := true, named := ["unicode/utf8.first", "unicode/utf8.acceptRanges"], apart := false, laid := [("unicode/utf8.acceptRanges", laid_unicode_utf8_acceptRanges), ("unicode/utf8.first", laid_unicode_utf8_first)], narrowed := true }
def LockTellsUptoSaid : Prop := lockTellsUptoRow.holds Tryd.pinned (OpenSpec.upto lockTellsSpec)

/-- 'pointsmanlaw5.LockErrs', WHERE WHAT IT READS IS OF BULK AT MOST 1048576: true; the input reads as it did. -/
def lockErrsUptoRow : OpenClaim := { program := "ytkgjgehffijepaadoor", sum := "1bc0e8e44602b53e1ae99d562d737f3df46dffdf2b5b21845747ef62238f75b6", func := "pointsman/pointsmanlaw5.LockErrs", spec := "lockErrs", unfollowed := true, recurses := true, named := ["unicode/utf8.first", "unicode/utf8.acceptRanges"], apart := false, laid := [("unicode/utf8.acceptRanges", laid_unicode_utf8_acceptRanges), ("unicode/utf8.first", laid_unicode_utf8_first)], narrowed := true }
def LockErrsUptoSaid : Prop := lockErrsUptoRow.holds Tryd.pinned (OpenSpec.upto lockErrsSpec)

/-- 'pointsmanlaw5.LockRuns', WHERE WHAT IT READS IS OF BULK AT MOST 1048576: true; the input reads as it did. -/
def lockRunsUptoRow : OpenClaim := { program := "ytkgjgehffijepaadoor", sum := "1bc0e8e44602b53e1ae99d562d737f3df46dffdf2b5b21845747ef62238f75b6", func := "pointsman/pointsmanlaw5.LockRuns", spec := "lockRuns", unfollowed := true, recurses := true, named := ["unicode/utf8.first", "unicode/utf8.acceptRanges"], apart := false, laid := [("unicode/utf8.acceptRanges", laid_unicode_utf8_acceptRanges), ("unicode/utf8.first", laid_unicode_utf8_first)], narrowed := true }
def LockRunsUptoSaid : Prop := lockRunsUptoRow.holds Tryd.pinned (OpenSpec.upto lockRunsSpec)

/-- 'pointsmanlaw5.LockSets', WHERE WHAT IT READS IS OF BULK AT MOST 1048576: true; the input reads as it did. -/
def lockSetsUptoRow : OpenClaim := { program := "ytkgjgehffijepaadoor", sum := "1bc0e8e44602b53e1ae99d562d737f3df46dffdf2b5b21845747ef62238f75b6", func := "pointsman/pointsmanlaw5.LockSets", spec := "lockSets", unfollowed := true, recurses := true, named := ["unicode/utf8.first", "unicode/utf8.acceptRanges"], apart := false, laid := [("unicode/utf8.acceptRanges", laid_unicode_utf8_acceptRanges), ("unicode/utf8.first", laid_unicode_utf8_first)], narrowed := true }
def LockSetsUptoSaid : Prop := lockSetsUptoRow.holds Tryd.pinned (OpenSpec.upto lockSetsSpec)

/-- 'pointsmanlaw5.LockHolds', WHERE WHAT IT READS IS OF BULK AT MOST 1048576: true; the input reads as it did. -/
def lockHoldsUptoRow : OpenClaim := { program := "ytkgjgehffijepaadoor", sum := "1bc0e8e44602b53e1ae99d562d737f3df46dffdf2b5b21845747ef62238f75b6", func := "pointsman/pointsmanlaw5.LockHolds", spec := "lockHolds", unfollowed := true, recurses := true, named := ["unicode/utf8.first", "unicode/utf8.acceptRanges"], apart := false, laid := [("unicode/utf8.acceptRanges", laid_unicode_utf8_acceptRanges), ("unicode/utf8.first", laid_unicode_utf8_first)], narrowed := true }
def LockHoldsUptoSaid : Prop := lockHoldsUptoRow.holds Tryd.pinned (OpenSpec.upto lockHoldsSpec)

/-- 'pointsmanlaw5.LockCalls', WHERE WHAT IT READS IS OF BULK AT MOST 1048576: true; the input reads as it did. -/
def lockCallsUptoRow : OpenClaim := { program := "ytkgjgehffijepaadoor", sum := "1bc0e8e44602b53e1ae99d562d737f3df46dffdf2b5b21845747ef62238f75b6", func := "pointsman/pointsmanlaw5.LockCalls", spec := "lockCalls", unfollowed := true, recurses := true, named := ["unicode/utf8.first", "unicode/utf8.acceptRanges"], apart := false, laid := [("unicode/utf8.acceptRanges", laid_unicode_utf8_acceptRanges), ("unicode/utf8.first", laid_unicode_utf8_first)], narrowed := true }
def LockCallsUptoSaid : Prop := lockCallsUptoRow.holds Tryd.pinned (OpenSpec.upto lockCallsSpec)

/-- 'pointsmanlaw5.LockBusy', WHERE WHAT IT READS IS OF BULK AT MOST 1048576: true; the input reads as it did. -/
def lockBusyUptoRow : OpenClaim := { program := "ytkgjgehffijepaadoor", sum := "1bc0e8e44602b53e1ae99d562d737f3df46dffdf2b5b21845747ef62238f75b6", func := "pointsman/pointsmanlaw5.LockBusy", spec := "lockBusy", unfollowed := true, recurses := true, named := ["unicode/utf8.first", "unicode/utf8.acceptRanges"], apart := false, laid := [("unicode/utf8.acceptRanges", laid_unicode_utf8_acceptRanges), ("unicode/utf8.first", laid_unicode_utf8_first)], narrowed := true }
def LockBusyUptoSaid : Prop := lockBusyUptoRow.holds Tryd.pinned (OpenSpec.upto lockBusySpec)

end Rows
end Go.Proofs.YtkgjgehffijepaaDoor
