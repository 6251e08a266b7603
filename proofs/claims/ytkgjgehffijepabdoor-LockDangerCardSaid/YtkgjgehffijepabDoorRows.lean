/-
  NARROWER THAN 'FOR EVERY INPUT', by the rows' own cells (each row's printed sentence says how): LockDanger: laid · LockIn: laid · LockApart: laid · LockOfNothing: laid · LockSetsBack: laid · LockOwn: laid.
  DERIVED. THE GIVEN ROWS OF THIS SEAT. 6 by the template 'for every input the law returns true; each argument reads behind the call as it read before'; 0 by the template 'total and deterministic' (their statements: YtkgjgehffijepabDoorTotals.lean).
  GIVEN WITH THE SEED: the statements are not yours to turn. If you find one false, say at which input.
  Laid BY PROGRAM, IN A SANDBOX (cutbox-rows.mjs): the forced cells as the released guide's own fill.sh prints them over the translation 855678c1b41a9a76… (all of the seat's roots in one cut). By AI agents, Wed Nov 11 2026. No macro, syntax, notation, axiom, sorry.
-/
import Derived.Test.YtkgjgehffijepabDoorChecked
import GoSem.PinnedTables
import GoSem.Claim
import GoSem.ClaimJoined
import GoSem.ClaimMapViews
import Derived.JoinedTies
import Derived.KernelRfl
namespace Go.Proofs.YtkgjgehffijepabDoor
/- THE CELL 'sum', in the pinned program and in every row, IS THE sha256 OF THE DUMP (.gsa) THAT YtkgjgehffijepabDoorProg.lean LOADS. Nothing in Lean hashes anything: it is a label: what it is worth is what the hold of that sum in a sandbox is worth. -/
noncomputable def Tryd.pinned : Pinned := { name := "ytkgjgehffijepabdoor", sum := "855678c1b41a9a76e1295c4b4e47cb519353ed5e99077a70d75b619410b6a1c6", checked := Tryd.checked }
namespace Rows
def none {H : Type} : Left H := { results := [], args := [] }

/- WHAT THE LISTED PACKAGE-LEVEL VARIABLES READ AS WHEN THE CALL BEGINS. Each datum BY PROGRAM (the guide's laid-datum.mjs) off the statement by which the dump's own 'gosem.cut.vars' lays the variable. In a bare row this is a premise. The card (YtkgjgehffijepabDoorCards.lean) ties it to the program's text. -/
def laid_unicode_utf8_acceptRanges {H : Type} : DataW H := .agg [.agg [.lit (.int .u8 128), .lit (.int .u8 191)], .agg [.lit (.int .u8 160), .lit (.int .u8 191)], .agg [.lit (.int .u8 128), .lit (.int .u8 159)], .agg [.lit (.int .u8 144), .lit (.int .u8 191)], .agg [.lit (.int .u8 128), .lit (.int .u8 143)], .agg [.lit (.int .u8 0), .lit (.int .u8 0)], .agg [.lit (.int .u8 0), .lit (.int .u8 0)], .agg [.lit (.int .u8 0), .lit (.int .u8 0)], .agg [.lit (.int .u8 0), .lit (.int .u8 0)], .agg [.lit (.int .u8 0), .lit (.int .u8 0)], .agg [.lit (.int .u8 0), .lit (.int .u8 0)], .agg [.lit (.int .u8 0), .lit (.int .u8 0)], .agg [.lit (.int .u8 0), .lit (.int .u8 0)], .agg [.lit (.int .u8 0), .lit (.int .u8 0)], .agg [.lit (.int .u8 0), .lit (.int .u8 0)], .agg [.lit (.int .u8 0), .lit (.int .u8 0)]]
/-- One of Go's own tables, pinned by name: the form's constant. -/
def laid_unicode_utf8_first : DataW Unit := Go.Pinned.utf8First

/-- 'pointsmanlaw5.LockDanger': WHATEVER THE INPUT: true; the input reads as it did. -/
def lockDangerSpec : ChangeSpec := { name := "lockDanger", fn := fun _ => fun
  | [d] => { results := [.lit (.bool true)], args := [d] }
  | _ => none }
def lockDangerRow : OpenClaim := { program := "ytkgjgehffijepabdoor", sum := "855678c1b41a9a76e1295c4b4e47cb519353ed5e99077a70d75b619410b6a1c6", func := "pointsman/pointsmanlaw5.LockDanger", spec := "lockDanger", unfollowed := true, recurses := true, named := ["unicode/utf8.first", "unicode/utf8.acceptRanges"], apart := false, laid := [("unicode/utf8.acceptRanges", laid_unicode_utf8_acceptRanges), ("unicode/utf8.first", laid_unicode_utf8_first)] }
def LockDangerSaid : Prop := lockDangerRow.holds Tryd.pinned (OpenSpec.ofChange lockDangerSpec)

/-- ITS FALSE NEIGHBOUR: 'it returns false'. Refute it at one input. -/
def lockDangerWrong : ChangeSpec := { name := "lockDanger", fn := fun _ => fun
  | [d] => { results := [.lit (.bool false)], args := [d] }
  | _ => none }
def LockDangerWrongFalsely : Prop := lockDangerRow.holds Tryd.pinned (OpenSpec.ofChange lockDangerWrong)

/-- 'pointsmanlaw5.LockIn': WHATEVER THE INPUT: true; the input reads as it did. -/
def lockInSpec : ChangeSpec := { name := "lockIn", fn := fun _ => fun
  | [d1, d2] => { results := [.lit (.bool true)], args := [d1, d2] }
  | _ => none }
def lockInRow : OpenClaim := { program := "ytkgjgehffijepabdoor", sum := "855678c1b41a9a76e1295c4b4e47cb519353ed5e99077a70d75b619410b6a1c6", func := "pointsman/pointsmanlaw5.LockIn", spec := "lockIn", unfollowed := true, recurses := true, named := ["unicode/utf8.first", "unicode/utf8.acceptRanges"], apart := false, laid := [("unicode/utf8.acceptRanges", laid_unicode_utf8_acceptRanges), ("unicode/utf8.first", laid_unicode_utf8_first)] }
def LockInSaid : Prop := lockInRow.holds Tryd.pinned (OpenSpec.ofChange lockInSpec)

/-- ITS FALSE NEIGHBOUR: 'it returns false'. Refute it at one input. -/
def lockInWrong : ChangeSpec := { name := "lockIn", fn := fun _ => fun
  | [d1, d2] => { results := [.lit (.bool false)], args := [d1, d2] }
  | _ => none }
def LockInWrongFalsely : Prop := lockInRow.holds Tryd.pinned (OpenSpec.ofChange lockInWrong)

/-- 'pointsmanlaw5.LockApart': WHATEVER THE INPUT: true; the input reads as it did. -/
def lockApartSpec : ChangeSpec := { name := "lockApart", fn := fun _ => fun
  | [d1, d2] => { results := [.lit (.bool true)], args := [d1, d2] }
  | _ => none }
def lockApartRow : OpenClaim := { program := "ytkgjgehffijepabdoor", sum := "855678c1b41a9a76e1295c4b4e47cb519353ed5e99077a70d75b619410b6a1c6", func := "pointsman/pointsmanlaw5.LockApart", spec := "lockApart", unfollowed := true, recurses := true, named := ["unicode/utf8.first", "unicode/utf8.acceptRanges"], apart := false, laid := [("unicode/utf8.acceptRanges", laid_unicode_utf8_acceptRanges), ("unicode/utf8.first", laid_unicode_utf8_first)] }
def LockApartSaid : Prop := lockApartRow.holds Tryd.pinned (OpenSpec.ofChange lockApartSpec)

/-- ITS FALSE NEIGHBOUR: 'it returns false'. Refute it at one input. -/
def lockApartWrong : ChangeSpec := { name := "lockApart", fn := fun _ => fun
  | [d1, d2] => { results := [.lit (.bool false)], args := [d1, d2] }
  | _ => none }
def LockApartWrongFalsely : Prop := lockApartRow.holds Tryd.pinned (OpenSpec.ofChange lockApartWrong)

/-- 'pointsmanlaw5.LockOfNothing': WHATEVER THE INPUT: true; the input reads as it did. -/
def lockOfNothingSpec : ChangeSpec := { name := "lockOfNothing", fn := fun _ => fun
  | [d] => { results := [.lit (.bool true)], args := [d] }
  | _ => none }
def lockOfNothingRow : OpenClaim := { program := "ytkgjgehffijepabdoor", sum := "855678c1b41a9a76e1295c4b4e47cb519353ed5e99077a70d75b619410b6a1c6", func := "pointsman/pointsmanlaw5.LockOfNothing", spec := "lockOfNothing", unfollowed := true, recurses := true, named := ["unicode/utf8.first", "unicode/utf8.acceptRanges"], apart := false, laid := [("unicode/utf8.acceptRanges", laid_unicode_utf8_acceptRanges), ("unicode/utf8.first", laid_unicode_utf8_first)] }
def LockOfNothingSaid : Prop := lockOfNothingRow.holds Tryd.pinned (OpenSpec.ofChange lockOfNothingSpec)

/-- ITS FALSE NEIGHBOUR: 'it returns false'. Refute it at one input. -/
def lockOfNothingWrong : ChangeSpec := { name := "lockOfNothing", fn := fun _ => fun
  | [d] => { results := [.lit (.bool false)], args := [d] }
  | _ => none }
def LockOfNothingWrongFalsely : Prop := lockOfNothingRow.holds Tryd.pinned (OpenSpec.ofChange lockOfNothingWrong)

/-- 'pointsmanlaw5.LockSetsBack': WHATEVER THE INPUT: true; the input reads as it did. -/
def lockSetsBackSpec : ChangeSpec := { name := "lockSetsBack", fn := fun _ => fun
  | [d1, d2, d3] => { results := [.lit (.bool true)], args := [d1, d2, d3] }
  | _ => none }
def lockSetsBackRow : OpenClaim := { program := "ytkgjgehffijepabdoor", sum := "855678c1b41a9a76e1295c4b4e47cb519353ed5e99077a70d75b619410b6a1c6", func := "pointsman/pointsmanlaw5.LockSetsBack", spec := "lockSetsBack", unfollowed := true, recurses := true, named := ["unicode/utf8.first", "unicode/utf8.acceptRanges"], apart := false, laid := [("unicode/utf8.acceptRanges", laid_unicode_utf8_acceptRanges), ("unicode/utf8.first", laid_unicode_utf8_first)] }
def LockSetsBackSaid : Prop := lockSetsBackRow.holds Tryd.pinned (OpenSpec.ofChange lockSetsBackSpec)

/-- ITS FALSE NEIGHBOUR: 'it returns false'. Refute it at one input. -/
def lockSetsBackWrong : ChangeSpec := { name := "lockSetsBack", fn := fun _ => fun
  | [d1, d2, d3] => { results := [.lit (.bool false)], args := [d1, d2, d3] }
  | _ => none }
def LockSetsBackWrongFalsely : Prop := lockSetsBackRow.holds Tryd.pinned (OpenSpec.ofChange lockSetsBackWrong)

/-- 'pointsmanlaw5.LockOwn': WHATEVER THE INPUT: true; the input reads as it did. -/
def lockOwnSpec : ChangeSpec := { name := "lockOwn", fn := fun _ => fun
  | [d] => { results := [.lit (.bool true)], args := [d] }
  | _ => none }
def lockOwnRow : OpenClaim := { program := "ytkgjgehffijepabdoor", sum := "855678c1b41a9a76e1295c4b4e47cb519353ed5e99077a70d75b619410b6a1c6", func := "pointsman/pointsmanlaw5.LockOwn", spec := "lockOwn", unfollowed := true, recurses := true, named := ["unicode/utf8.first", "unicode/utf8.acceptRanges"], apart := false, laid := [("unicode/utf8.acceptRanges", laid_unicode_utf8_acceptRanges), ("unicode/utf8.first", laid_unicode_utf8_first)] }
def LockOwnSaid : Prop := lockOwnRow.holds Tryd.pinned (OpenSpec.ofChange lockOwnSpec)

/-- ITS FALSE NEIGHBOUR: 'it returns false'. Refute it at one input. -/
def lockOwnWrong : ChangeSpec := { name := "lockOwn", fn := fun _ => fun
  | [d] => { results := [.lit (.bool false)], args := [d] }
  | _ => none }
def LockOwnWrongFalsely : Prop := lockOwnRow.holds Tryd.pinned (OpenSpec.ofChange lockOwnWrong)

/- THE SECOND FORM. 'bulk': how many values and letters a reading holds, each counted each time it is reached (what is shared counts as often as it is met; a slice's spare places count too). A statement '..UptoSaid' is the law's where the arguments, and the package variables that the reading takes, are together of bulk at most 1048576: NARROWER than '..Said'. Prove '..Said' where nothing that the law and all that it calls make is longer than what came in: it says more and counts as full. Else prove '..UptoSaid'. A law counts once. -/
mutual
def uptoBulk {H : Type} : DataW H → Nat
  | .lit (.string bytes) => bytes.length + 1
  | .lit _ => 1
  | .nil => 1
  | .ptr d => uptoBulk d + 1
  | .slice elems spare => uptoBulkAll elems + uptoBulkAll spare + 1
  | .agg parts => uptoBulkAll parts + 1
  | .iface _ d => uptoBulk d + 1
  | .map entries => uptoBulkEntries entries + 1
  | .held _ => 1
def uptoBulkAll {H : Type} : List (DataW H) → Nat
  | [] => 0
  | d :: r => uptoBulk d + uptoBulkAll r
def uptoBulkEntries {H : Type} : List (Lit × DataW H) → Nat
  | [] => 0
  | x :: r => uptoBulkEntry x + uptoBulkEntries r
def uptoBulkEntry {H : Type} : Lit × DataW H → Nat
  | (.string bytes, d) => bytes.length + uptoBulk d + 1
  | (_, d) => uptoBulk d + 1
 end
def uptoSmall : (H : Type) → List (DataW H) → Bool := fun _ ds => decide (uptoBulkAll ds ≤ 1048576)
def OpenSpec.upto (s : _root_.Go.ChangeSpec) : _root_.Go.OpenSpec := { _root_.Go.OpenSpec.ofChange s with cond := some uptoSmall }

/-- 'pointsmanlaw5.LockDanger', WHERE WHAT IT READS IS OF BULK AT MOST 1048576: true; the input reads as it did. -/
def lockDangerUptoRow : OpenClaim := { program := "ytkgjgehffijepabdoor", sum := "855678c1b41a9a76e1295c4b4e47cb519353ed5e99077a70d75b619410b6a1c6", func := "pointsman/pointsmanlaw5.LockDanger", spec := "lockDanger", unfollowed := true, recurses := true, named := ["unicode/utf8.first", "unicode/utf8.acceptRanges"], apart := false, laid := [("unicode/utf8.acceptRanges", laid_unicode_utf8_acceptRanges), ("unicode/utf8.first", laid_unicode_utf8_first)], narrowed := true }
def LockDangerUptoSaid : Prop := lockDangerUptoRow.holds Tryd.pinned (OpenSpec.upto lockDangerSpec)

/-- 'pointsmanlaw5.LockIn', WHERE WHAT IT READS IS OF BULK AT MOST 1048576: true; the input reads as it did. -/
def lockInUptoRow : OpenClaim := { program := "ytkgjgehffijepabdoor", sum := "855678c1b41a9a76e1295c4b4e47cb519353ed5e99077a70d75b619410b6a1c6", func := "pointsman/pointsmanlaw5.LockIn", spec := "lockIn", unfollowed := true, recurses := true, named := ["unicode/utf8.first", "unicode/utf8.acceptRanges"], apart := false, laid := [("unicode/utf8.acceptRanges", laid_unicode_utf8_acceptRanges), ("unicode/utf8.first", laid_unicode_utf8_first)], narrowed := true }
def LockInUptoSaid : Prop := lockInUptoRow.holds Tryd.pinned (OpenSpec.upto lockInSpec)

/-- 'pointsmanlaw5.LockApart', WHERE WHAT IT READS IS OF BULK AT MOST 1048576: true; the input reads as it did. -/
def lockApartUptoRow : OpenClaim := { program := "ytkgjgehffijepabdoor", sum := "855678c1b41a9a76e1295c4b4e47cb519353ed5e99077a70d75b619410b6a1c6", func := "pointsman/pointsmanlaw5.LockApart", spec := "lockApart", unfollowed := true, recurses := true, named := ["unicode/utf8.first", "unicode/utf8.acceptRanges"], apart := false, laid := [("unicode/utf8.acceptRanges", laid_unicode_utf8_acceptRanges), ("unicode/utf8.first", laid_unicode_utf8_first)], narrowed := true }
def LockApartUptoSaid : Prop := lockApartUptoRow.holds Tryd.pinned (OpenSpec.upto lockApartSpec)

/-- 'pointsmanlaw5.LockOfNothing', WHERE WHAT IT READS IS OF BULK AT MOST 1048576: true; the input reads as it did. -/
def lockOfNothingUptoRow : OpenClaim := { program := "ytkgjgehffijepabdoor", sum := "855678c1b41a9a76e1295c4b4e47cb519353ed5e99077a70d75b619410b6a1c6", func := "pointsman/pointsmanlaw5.LockOfNothing", spec := "lockOfNothing", unfollowed := true, recurses := true, named := ["unicode/utf8.first", "unicode/utf8.acceptRanges"], apart := false, laid := [("unicode/utf8.acceptRanges", laid_unicode_utf8_acceptRanges), ("unicode/utf8.first", laid_unicode_utf8_first)], narrowed := true }
def LockOfNothingUptoSaid : Prop := lockOfNothingUptoRow.holds Tryd.pinned (OpenSpec.upto lockOfNothingSpec)

/-- 'pointsmanlaw5.LockSetsBack', WHERE WHAT IT READS IS OF BULK AT MOST 1048576: true; the input reads as it did. -/
def lockSetsBackUptoRow : OpenClaim := { program := "ytkgjgehffijepabdoor", sum := "855678c1b41a9a76e1295c4b4e47cb519353ed5e99077a70d75b619410b6a1c6", func := "pointsman/pointsmanlaw5.LockSetsBack", spec := "lockSetsBack", unfollowed := true, recurses := true, named := ["unicode/utf8.first", "unicode/utf8.acceptRanges"], apart := false, laid := [("unicode/utf8.acceptRanges", laid_unicode_utf8_acceptRanges), ("unicode/utf8.first", laid_unicode_utf8_first)], narrowed := true }
def LockSetsBackUptoSaid : Prop := lockSetsBackUptoRow.holds Tryd.pinned (OpenSpec.upto lockSetsBackSpec)

/-- 'pointsmanlaw5.LockOwn', WHERE WHAT IT READS IS OF BULK AT MOST 1048576: true; the input reads as it did. -/
def lockOwnUptoRow : OpenClaim := { program := "ytkgjgehffijepabdoor", sum := "855678c1b41a9a76e1295c4b4e47cb519353ed5e99077a70d75b619410b6a1c6", func := "pointsman/pointsmanlaw5.LockOwn", spec := "lockOwn", unfollowed := true, recurses := true, named := ["unicode/utf8.first", "unicode/utf8.acceptRanges"], apart := false, laid := [("unicode/utf8.acceptRanges", laid_unicode_utf8_acceptRanges), ("unicode/utf8.first", laid_unicode_utf8_first)], narrowed := true }
def LockOwnUptoSaid : Prop := lockOwnUptoRow.holds Tryd.pinned (OpenSpec.upto lockOwnSpec)

end Rows
end Go.Proofs.YtkgjgehffijepabDoor
