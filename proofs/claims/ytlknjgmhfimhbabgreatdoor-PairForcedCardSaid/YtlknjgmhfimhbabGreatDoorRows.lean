/-
  NARROWER THAN 'FOR EVERY INPUT', by the rows' own cells (each row's printed sentence says how): PairCrashes: laid · PairDeaf: laid · PairStarts: laid · PairTrain: laid · PairForced: laid.
  DERIVED. THE GIVEN ROWS OF THIS SEAT. 5 by the template 'for every input the law returns true; each argument reads behind the call as it read before'; 0 by the template 'total and deterministic' (their statements: YtlknjgmhfimhbabGreatDoorTotals.lean).
  GIVEN WITH THE SEED: the statements are not yours to turn. If you find one false, say at which input.
  Laid BY PROGRAM, IN A SANDBOX (cutbox-rows.mjs): the forced cells as the released guide's own fill.sh prints them over the translation ac315424efae6dc1… (all of the seat's roots in one cut). By AI agents, Wed Nov 11 2026. No macro, syntax, notation, axiom, sorry.
-/
import Derived.Test.YtlknjgmhfimhbabGreatDoorChecked
import GoSem.PinnedTables
import GoSem.Claim
import GoSem.ClaimJoined
import GoSem.ClaimMapViews
import Derived.JoinedTies
import Derived.KernelRfl
namespace Go.Proofs.YtlknjgmhfimhbabGreatDoor
/- THE CELL 'sum', in the pinned program and in every row, IS THE sha256 OF THE DUMP (.gsa) THAT YtlknjgmhfimhbabGreatDoorProg.lean LOADS. Nothing in Lean hashes anything: it is a label: what it is worth is what the hold of that sum in a sandbox is worth. -/
noncomputable def Tryz.pinned : Pinned := { name := "ytlknjgmhfimhbabgreatdoor", sum := "ac315424efae6dc1d08c9795680ae095e46a51659890a83d4adb2ba85fcc0dca", checked := Tryz.checked }
namespace Rows
def none {H : Type} : Left H := { results := [], args := [] }

/- WHAT THE LISTED PACKAGE-LEVEL VARIABLES READ AS WHEN THE CALL BEGINS. Each datum BY PROGRAM (the guide's laid-datum.mjs) off the statement by which the dump's own 'gosem.cut.vars' lays the variable. In a bare row this is a premise. The card (YtlknjgmhfimhbabGreatDoorCards.lean) ties it to the program's text. -/
def laid_unicode_utf8_acceptRanges {H : Type} : DataW H := .agg [.agg [.lit (.int .u8 128), .lit (.int .u8 191)], .agg [.lit (.int .u8 160), .lit (.int .u8 191)], .agg [.lit (.int .u8 128), .lit (.int .u8 159)], .agg [.lit (.int .u8 144), .lit (.int .u8 191)], .agg [.lit (.int .u8 128), .lit (.int .u8 143)], .agg [.lit (.int .u8 0), .lit (.int .u8 0)], .agg [.lit (.int .u8 0), .lit (.int .u8 0)], .agg [.lit (.int .u8 0), .lit (.int .u8 0)], .agg [.lit (.int .u8 0), .lit (.int .u8 0)], .agg [.lit (.int .u8 0), .lit (.int .u8 0)], .agg [.lit (.int .u8 0), .lit (.int .u8 0)], .agg [.lit (.int .u8 0), .lit (.int .u8 0)], .agg [.lit (.int .u8 0), .lit (.int .u8 0)], .agg [.lit (.int .u8 0), .lit (.int .u8 0)], .agg [.lit (.int .u8 0), .lit (.int .u8 0)], .agg [.lit (.int .u8 0), .lit (.int .u8 0)]]
/-- One of Go's own tables, pinned by name: the form's constant. -/
def laid_unicode_utf8_first : DataW Unit := Go.Pinned.utf8First

/-- 'pointsmanlaw14.PairCrashes': WHATEVER THE INPUT: true; the input reads as it did. -/
def pairCrashesSpec : ChangeSpec := { name := "pairCrashes", fn := fun _ => fun
  | [d] => { results := [.lit (.bool true)], args := [d] }
  | _ => none }
def pairCrashesRow : OpenClaim := { program := "ytlknjgmhfimhbabgreatdoor", sum := "ac315424efae6dc1d08c9795680ae095e46a51659890a83d4adb2ba85fcc0dca", func := "pointsman/pointsmanlaw14.PairCrashes", spec := "pairCrashes", unfollowed := true, recurses := true, named := ["unicode/utf8.first", "unicode/utf8.acceptRanges"], apart := false, laid := [("unicode/utf8.acceptRanges", laid_unicode_utf8_acceptRanges), ("unicode/utf8.first", laid_unicode_utf8_first)] }
def PairCrashesSaid : Prop := pairCrashesRow.holds Tryz.pinned (OpenSpec.ofChange pairCrashesSpec)

/-- ITS FALSE NEIGHBOUR: 'it returns false'. Refute it at one input. -/
def pairCrashesWrong : ChangeSpec := { name := "pairCrashes", fn := fun _ => fun
  | [d] => { results := [.lit (.bool false)], args := [d] }
  | _ => none }
def PairCrashesWrongFalsely : Prop := pairCrashesRow.holds Tryz.pinned (OpenSpec.ofChange pairCrashesWrong)

/-- 'pointsmanlaw14.PairDeaf': WHATEVER THE INPUT: true; the input reads as it did. -/
def pairDeafSpec : ChangeSpec := { name := "pairDeaf", fn := fun _ => fun
  | [d] => { results := [.lit (.bool true)], args := [d] }
  | _ => none }
def pairDeafRow : OpenClaim := { program := "ytlknjgmhfimhbabgreatdoor", sum := "ac315424efae6dc1d08c9795680ae095e46a51659890a83d4adb2ba85fcc0dca", func := "pointsman/pointsmanlaw14.PairDeaf", spec := "pairDeaf", unfollowed := true, recurses := true, named := ["unicode/utf8.first", "unicode/utf8.acceptRanges"], apart := false, laid := [("unicode/utf8.acceptRanges", laid_unicode_utf8_acceptRanges), ("unicode/utf8.first", laid_unicode_utf8_first)] }
def PairDeafSaid : Prop := pairDeafRow.holds Tryz.pinned (OpenSpec.ofChange pairDeafSpec)

/-- ITS FALSE NEIGHBOUR: 'it returns false'. Refute it at one input. -/
def pairDeafWrong : ChangeSpec := { name := "pairDeaf", fn := fun _ => fun
  | [d] => { results := [.lit (.bool false)], args := [d] }
  | _ => none }
def PairDeafWrongFalsely : Prop := pairDeafRow.holds Tryz.pinned (OpenSpec.ofChange pairDeafWrong)

/-- 'pointsmanlaw14.PairStarts': WHATEVER THE INPUT: true; the input reads as it did. -/
def pairStartsSpec : ChangeSpec := { name := "pairStarts", fn := fun _ => fun
  | [d] => { results := [.lit (.bool true)], args := [d] }
  | _ => none }
def pairStartsRow : OpenClaim := { program := "ytlknjgmhfimhbabgreatdoor", sum := "ac315424efae6dc1d08c9795680ae095e46a51659890a83d4adb2ba85fcc0dca", func := "pointsman/pointsmanlaw14.PairStarts", spec := "pairStarts", unfollowed := true, recurses := true, named := ["unicode/utf8.first", "unicode/utf8.acceptRanges"], apart := false, laid := [("unicode/utf8.acceptRanges", laid_unicode_utf8_acceptRanges), ("unicode/utf8.first", laid_unicode_utf8_first)] }
def PairStartsSaid : Prop := pairStartsRow.holds Tryz.pinned (OpenSpec.ofChange pairStartsSpec)

/-- ITS FALSE NEIGHBOUR: 'it returns false'. Refute it at one input. -/
def pairStartsWrong : ChangeSpec := { name := "pairStarts", fn := fun _ => fun
  | [d] => { results := [.lit (.bool false)], args := [d] }
  | _ => none }
def PairStartsWrongFalsely : Prop := pairStartsRow.holds Tryz.pinned (OpenSpec.ofChange pairStartsWrong)

/-- 'pointsmanlaw14.PairTrain': WHATEVER THE INPUT: true; the input reads as it did. -/
def pairTrainSpec : ChangeSpec := { name := "pairTrain", fn := fun _ => fun
  | [d] => { results := [.lit (.bool true)], args := [d] }
  | _ => none }
def pairTrainRow : OpenClaim := { program := "ytlknjgmhfimhbabgreatdoor", sum := "ac315424efae6dc1d08c9795680ae095e46a51659890a83d4adb2ba85fcc0dca", func := "pointsman/pointsmanlaw14.PairTrain", spec := "pairTrain", unfollowed := true, recurses := true, named := ["unicode/utf8.first", "unicode/utf8.acceptRanges"], apart := false, laid := [("unicode/utf8.acceptRanges", laid_unicode_utf8_acceptRanges), ("unicode/utf8.first", laid_unicode_utf8_first)] }
def PairTrainSaid : Prop := pairTrainRow.holds Tryz.pinned (OpenSpec.ofChange pairTrainSpec)

/-- ITS FALSE NEIGHBOUR: 'it returns false'. Refute it at one input. -/
def pairTrainWrong : ChangeSpec := { name := "pairTrain", fn := fun _ => fun
  | [d] => { results := [.lit (.bool false)], args := [d] }
  | _ => none }
def PairTrainWrongFalsely : Prop := pairTrainRow.holds Tryz.pinned (OpenSpec.ofChange pairTrainWrong)

/-- 'pointsmanlaw14.PairForced': WHATEVER THE INPUT: true; the input reads as it did. -/
def pairForcedSpec : ChangeSpec := { name := "pairForced", fn := fun _ => fun
  | [d] => { results := [.lit (.bool true)], args := [d] }
  | _ => none }
def pairForcedRow : OpenClaim := { program := "ytlknjgmhfimhbabgreatdoor", sum := "ac315424efae6dc1d08c9795680ae095e46a51659890a83d4adb2ba85fcc0dca", func := "pointsman/pointsmanlaw14.PairForced", spec := "pairForced", unfollowed := true, recurses := true, named := ["unicode/utf8.first", "unicode/utf8.acceptRanges"], apart := false, laid := [("unicode/utf8.acceptRanges", laid_unicode_utf8_acceptRanges), ("unicode/utf8.first", laid_unicode_utf8_first)] }
def PairForcedSaid : Prop := pairForcedRow.holds Tryz.pinned (OpenSpec.ofChange pairForcedSpec)

/-- ITS FALSE NEIGHBOUR: 'it returns false'. Refute it at one input. -/
def pairForcedWrong : ChangeSpec := { name := "pairForced", fn := fun _ => fun
  | [d] => { results := [.lit (.bool false)], args := [d] }
  | _ => none }
def PairForcedWrongFalsely : Prop := pairForcedRow.holds Tryz.pinned (OpenSpec.ofChange pairForcedWrong)

/- THE SECOND FORM. 'bulk': how many values and letters a reading holds, each counted each time it is reached (what is shared counts as often as it is met; a slice's spare places count too). A statement '..UptoSaid' is the law's where the arguments, and the package variables that the reading takes, are together of bulk at most 1048576: NARROWER than '..Said'. Prove '..Said' where nothing that the law and all that it calls make is longer than what came in: it says more and counts as full. Else prove '..UptoSaid'. A law counts once. -/
mutual
def uptoBulk {H : Type} : DataW H → Nat
  | .lit (.string bytes) => bytes.length + 1
  | .lit _ => 1
  | .nil => 1
  | .ptr d => uptoBulk d + 1
  | .slice elems spare => uptoBulkAll elems + uptoBulkAll spare + 1
  | .agg parts => uptoBulkAll parts + 1
  | .iface _ d => uptoBulk d + 1
  | .map entries => uptoBulkEntries entries + 1
  | .held _ => 1
def uptoBulkAll {H : Type} : List (DataW H) → Nat
  | [] => 0
  | d :: r => uptoBulk d + uptoBulkAll r
def uptoBulkEntries {H : Type} : List (Lit × DataW H) → Nat
  | [] => 0
  | x :: r => uptoBulkEntry x + uptoBulkEntries r
def uptoBulkEntry {H : Type} : Lit × DataW H → Nat
  | (.string bytes, d) => bytes.length + uptoBulk d + 1
  | (_, d) => uptoBulk d + 1
 end
def uptoSmall : (H : Type) → List (DataW H) → Bool := fun _ ds => decide (uptoBulkAll ds ≤ 1048576)
def OpenSpec.upto (s : _root_.Go.ChangeSpec) : _root_.Go.OpenSpec := { _root_.Go.OpenSpec.ofChange s with cond := some uptoSmall }

/-- 'pointsmanlaw14.PairCrashes', WHERE WHAT IT READS IS OF BULK AT MOST 1048576: true; the input reads as it did. -/
def pairCrashesUptoRow : OpenClaim := { program := "ytlknjgmhfimhbabgreatdoor", sum := "ac315424efae6dc1d08c9795680ae095e46a51659890a83d4adb2ba85fcc0dca", func := "pointsman/pointsmanlaw14.PairCrashes", spec := "pairCrashes", unfollowed := true, recurses := true, named := ["unicode/utf8.first", "unicode/utf8.acceptRanges"], apart := false, laid := [("unicode/utf8.acceptRanges", laid_unicode_utf8_acceptRanges), ("unicode/utf8.first", laid_unicode_utf8_first)], narrowed := true }
def PairCrashesUptoSaid : Prop := pairCrashesUptoRow.holds Tryz.pinned (OpenSpec.upto pairCrashesSpec)

/-- 'pointsmanlaw14.PairDeaf', WHERE WHAT IT READS IS OF BULK AT MOST 1048576: true; the input reads as it did. -/
def pairDeafUptoRow : OpenClaim := { program := "ytlknjgmhfimhbabgreatdoor", sum := "ac315424efae6dc1d08c9795680ae095e46a51659890a83d4adb2ba85fcc0dca", func := "pointsman/pointsmanlaw14.PairDeaf", spec := "pairDeaf", unfollowed := true, recurses := true, named := ["unicode/utf8.first", "unicode/utf8.acceptRanges"], apart := false, laid := [("unicode/utf8.acceptRanges", laid_unicode_utf8_acceptRanges), ("unicode/utf8.first", laid_unicode_utf8_first)], narrowed := true }
def PairDeafUptoSaid : Prop := pairDeafUptoRow.holds Tryz.pinned (OpenSpec.upto pairDeafSpec)

/-- 'pointsmanlaw14.PairStarts', WHERE WHAT IT READS IS OF BULK AT MOST 1048576: true; the input reads as it did. -/
def pairStartsUptoRow : OpenClaim := { program := "ytlknjgmhfimhbabgreatdoor", sum := "ac315424efae6dc1d08c9795680ae095e46a51659890a83d4adb2ba85fcc0dca", func := "pointsman/pointsmanlaw14.PairStarts", spec := "pairStarts", unfollowed := true, recurses := true, named := ["unicode/utf8.first", "unicode/utf8.acceptRanges"], apart := false, laid := [("unicode/utf8.acceptRanges", laid_unicode_utf8_acceptRanges), ("unicode/utf8.first", laid_unicode_utf8_first)], narrowed := true }
def PairStartsUptoSaid : Prop := pairStartsUptoRow.holds Tryz.pinned (OpenSpec.upto pairStartsSpec)

/-- 'pointsmanlaw14.PairTrain', WHERE WHAT IT READS IS OF BULK AT MOST 1048576: true; the input reads as it did. -/
def pairTrainUptoRow : OpenClaim := { program := "ytlknjgmhfimhbabgreatdoor", sum := "ac315424efae6dc1d08c9795680ae095e46a51659890a83d4adb2ba85fcc0dca", func := "pointsman/pointsmanlaw14.PairTrain", spec := "pairTrain", unfollowed := true, recurses := true, named := ["unicode/utf8.first", "unicode/utf8.acceptRanges"], apart := false, laid := [("unicode/utf8.acceptRanges", laid_unicode_utf8_acceptRanges), ("unicode/utf8.first", laid_unicode_utf8_first)], narrowed := true }
def PairTrainUptoSaid : Prop := pairTrainUptoRow.holds Tryz.pinned (OpenSpec.upto pairTrainSpec)

/-- 'pointsmanlaw14.PairForced', WHERE WHAT IT READS IS OF BULK AT MOST 1048576: true; the input reads as it did. -/
def pairForcedUptoRow : OpenClaim := { program := "ytlknjgmhfimhbabgreatdoor", sum := "ac315424efae6dc1d08c9795680ae095e46a51659890a83d4adb2ba85fcc0dca", func := "pointsman/pointsmanlaw14.PairForced", spec := "pairForced", unfollowed := true, recurses := true, named := ["unicode/utf8.first", "unicode/utf8.acceptRanges"], apart := false, laid := [("unicode/utf8.acceptRanges", laid_unicode_utf8_acceptRanges), ("unicode/utf8.first", laid_unicode_utf8_first)], narrowed := true }
def PairForcedUptoSaid : Prop := pairForcedUptoRow.holds Tryz.pinned (OpenSpec.upto pairForcedSpec)

end Rows
end Go.Proofs.YtlknjgmhfimhbabGreatDoor
