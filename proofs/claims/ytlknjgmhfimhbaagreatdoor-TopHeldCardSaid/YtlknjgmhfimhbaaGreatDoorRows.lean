/-
  NARROWER THAN 'FOR EVERY INPUT', by the rows' own cells (each row's printed sentence says how): TopHeld: laid · TopRoutes: laid · TopBumpless: laid · PairBegins: laid · PairYields: laid.
  DERIVED. THE GIVEN ROWS OF THIS SEAT. 5 by the template 'for every input the law returns true; each argument reads behind the call as it read before'; 0 by the template 'total and deterministic' (their statements: YtlknjgmhfimhbaaGreatDoorTotals.lean).
  GIVEN WITH THE SEED: the statements are not yours to turn. If you find one false, say at which input.
  Laid BY PROGRAM, IN A SANDBOX (cutbox-rows.mjs): the forced cells as the released guide's own fill.sh prints them over the translation 439405324266e74b… (all of the seat's roots in one cut). By AI agents, Wed Nov 11 2026. No macro, syntax, notation, axiom, sorry.
-/
import Derived.Test.YtlknjgmhfimhbaaGreatDoorChecked
import GoSem.PinnedTables
import GoSem.Claim
import GoSem.ClaimJoined
import GoSem.ClaimMapViews
import Derived.JoinedTies
import Derived.KernelRfl
namespace Go.Proofs.YtlknjgmhfimhbaaGreatDoor
/- THE CELL 'sum', in the pinned program and in every row, IS THE sha256 OF THE DUMP (.gsa) THAT YtlknjgmhfimhbaaGreatDoorProg.lean LOADS. Nothing in Lean hashes anything: it is a label: what it is worth is what the hold of that sum in a sandbox is worth. -/
noncomputable def Tryz.pinned : Pinned := { name := "ytlknjgmhfimhbaagreatdoor", sum := "439405324266e74bca35fe46652a4eb58567c49c0b23d7f536f1744808bdd78e", checked := Tryz.checked }
namespace Rows
def none {H : Type} : Left H := { results := [], args := [] }

/- WHAT THE LISTED PACKAGE-LEVEL VARIABLES READ AS WHEN THE CALL BEGINS. Each datum BY PROGRAM (the guide's laid-datum.mjs) off the statement by which the dump's own 'gosem.cut.vars' lays the variable. In a bare row this is a premise. The card (YtlknjgmhfimhbaaGreatDoorCards.lean) ties it to the program's text. -/
def laid_unicode_utf8_acceptRanges {H : Type} : DataW H := .agg [.agg [.lit (.int .u8 128), .lit (.int .u8 191)], .agg [.lit (.int .u8 160), .lit (.int .u8 191)], .agg [.lit (.int .u8 128), .lit (.int .u8 159)], .agg [.lit (.int .u8 144), .lit (.int .u8 191)], .agg [.lit (.int .u8 128), .lit (.int .u8 143)], .agg [.lit (.int .u8 0), .lit (.int .u8 0)], .agg [.lit (.int .u8 0), .lit (.int .u8 0)], .agg [.lit (.int .u8 0), .lit (.int .u8 0)], .agg [.lit (.int .u8 0), .lit (.int .u8 0)], .agg [.lit (.int .u8 0), .lit (.int .u8 0)], .agg [.lit (.int .u8 0), .lit (.int .u8 0)], .agg [.lit (.int .u8 0), .lit (.int .u8 0)], .agg [.lit (.int .u8 0), .lit (.int .u8 0)], .agg [.lit (.int .u8 0), .lit (.int .u8 0)], .agg [.lit (.int .u8 0), .lit (.int .u8 0)], .agg [.lit (.int .u8 0), .lit (.int .u8 0)]]
/-- One of Go's own tables, pinned by name: the form's constant. -/
def laid_unicode_utf8_first : DataW Unit := Go.Pinned.utf8First

/-- 'pointsmantop.TopHeld': WHATEVER THE INPUT: true; the input reads as it did. -/
def topHeldSpec : ChangeSpec := { name := "topHeld", fn := fun _ => fun
  | [d1, d2] => { results := [.lit (.bool true)], args := [d1, d2] }
  | _ => none }
def topHeldRow : OpenClaim := { program := "ytlknjgmhfimhbaagreatdoor", sum := "439405324266e74bca35fe46652a4eb58567c49c0b23d7f536f1744808bdd78e", func := "pointsman/pointsmantop.TopHeld", spec := "topHeld", unfollowed := true, recurses := true, named := ["unicode/utf8.first", "unicode/utf8.acceptRanges"], apart := false, laid := [("unicode/utf8.acceptRanges", laid_unicode_utf8_acceptRanges), ("unicode/utf8.first", laid_unicode_utf8_first)] }
def TopHeldSaid : Prop := topHeldRow.holds Tryz.pinned (OpenSpec.ofChange topHeldSpec)

/-- ITS FALSE NEIGHBOUR: 'it returns false'. Refute it at one input. -/
def topHeldWrong : ChangeSpec := { name := "topHeld", fn := fun _ => fun
  | [d1, d2] => { results := [.lit (.bool false)], args := [d1, d2] }
  | _ => none }
def TopHeldWrongFalsely : Prop := topHeldRow.holds Tryz.pinned (OpenSpec.ofChange topHeldWrong)

/-- 'pointsmantop.TopRoutes': WHATEVER THE INPUT: true; the input reads as it did. -/
def topRoutesSpec : ChangeSpec := { name := "topRoutes", fn := fun _ => fun
  | [d1, d2] => { results := [.lit (.bool true)], args := [d1, d2] }
  | _ => none }
def topRoutesRow : OpenClaim := { program := "ytlknjgmhfimhbaagreatdoor", sum := "439405324266e74bca35fe46652a4eb58567c49c0b23d7f536f1744808bdd78e", func := "pointsman/pointsmantop.TopRoutes", spec := "topRoutes", unfollowed := true, recurses := true, named := ["unicode/utf8.first", "unicode/utf8.acceptRanges"], apart := false, laid := [("unicode/utf8.acceptRanges", laid_unicode_utf8_acceptRanges), ("unicode/utf8.first", laid_unicode_utf8_first)] }
def TopRoutesSaid : Prop := topRoutesRow.holds Tryz.pinned (OpenSpec.ofChange topRoutesSpec)

/-- ITS FALSE NEIGHBOUR: 'it returns false'. Refute it at one input. -/
def topRoutesWrong : ChangeSpec := { name := "topRoutes", fn := fun _ => fun
  | [d1, d2] => { results := [.lit (.bool false)], args := [d1, d2] }
  | _ => none }
def TopRoutesWrongFalsely : Prop := topRoutesRow.holds Tryz.pinned (OpenSpec.ofChange topRoutesWrong)

/-- 'pointsmantop.TopBumpless': WHATEVER THE INPUT: true; the input reads as it did. -/
def topBumplessSpec : ChangeSpec := { name := "topBumpless", fn := fun _ => fun
  | [d1, d2] => { results := [.lit (.bool true)], args := [d1, d2] }
  | _ => none }
def topBumplessRow : OpenClaim := { program := "ytlknjgmhfimhbaagreatdoor", sum := "439405324266e74bca35fe46652a4eb58567c49c0b23d7f536f1744808bdd78e", func := "pointsman/pointsmantop.TopBumpless", spec := "topBumpless", unfollowed := true, recurses := true, named := ["unicode/utf8.first", "unicode/utf8.acceptRanges"], apart := false, laid := [("unicode/utf8.acceptRanges", laid_unicode_utf8_acceptRanges), ("unicode/utf8.first", laid_unicode_utf8_first)] }
def TopBumplessSaid : Prop := topBumplessRow.holds Tryz.pinned (OpenSpec.ofChange topBumplessSpec)

/-- ITS FALSE NEIGHBOUR: 'it returns false'. Refute it at one input. -/
def topBumplessWrong : ChangeSpec := { name := "topBumpless", fn := fun _ => fun
  | [d1, d2] => { results := [.lit (.bool false)], args := [d1, d2] }
  | _ => none }
def TopBumplessWrongFalsely : Prop := topBumplessRow.holds Tryz.pinned (OpenSpec.ofChange topBumplessWrong)

/-- 'pointsmanlaw14.PairBegins': WHATEVER THE INPUT: true; the input reads as it did. -/
def pairBeginsSpec : ChangeSpec := { name := "pairBegins", fn := fun _ => fun
  | [d1, d2] => { results := [.lit (.bool true)], args := [d1, d2] }
  | _ => none }
def pairBeginsRow : OpenClaim := { program := "ytlknjgmhfimhbaagreatdoor", sum := "439405324266e74bca35fe46652a4eb58567c49c0b23d7f536f1744808bdd78e", func := "pointsman/pointsmanlaw14.PairBegins", spec := "pairBegins", unfollowed := true, recurses := true, named := ["unicode/utf8.first", "unicode/utf8.acceptRanges"], apart := false, laid := [("unicode/utf8.acceptRanges", laid_unicode_utf8_acceptRanges), ("unicode/utf8.first", laid_unicode_utf8_first)] }
def PairBeginsSaid : Prop := pairBeginsRow.holds Tryz.pinned (OpenSpec.ofChange pairBeginsSpec)

/-- ITS FALSE NEIGHBOUR: 'it returns false'. Refute it at one input. -/
def pairBeginsWrong : ChangeSpec := { name := "pairBegins", fn := fun _ => fun
  | [d1, d2] => { results := [.lit (.bool false)], args := [d1, d2] }
  | _ => none }
def PairBeginsWrongFalsely : Prop := pairBeginsRow.holds Tryz.pinned (OpenSpec.ofChange pairBeginsWrong)

/-- 'pointsmanlaw14.PairYields': WHATEVER THE INPUT: true; the input reads as it did. -/
def pairYieldsSpec : ChangeSpec := { name := "pairYields", fn := fun _ => fun
  | [d] => { results := [.lit (.bool true)], args := [d] }
  | _ => none }
def pairYieldsRow : OpenClaim := { program := "ytlknjgmhfimhbaagreatdoor", sum := "439405324266e74bca35fe46652a4eb58567c49c0b23d7f536f1744808bdd78e", func := "pointsman/pointsmanlaw14.PairYields", spec := "pairYields", unfollowed := true, recurses := true, named := ["unicode/utf8.first", "unicode/utf8.acceptRanges"], apart := false, laid := [("unicode/utf8.acceptRanges", laid_unicode_utf8_acceptRanges), ("unicode/utf8.first", laid_unicode_utf8_first)] }
def PairYieldsSaid : Prop := pairYieldsRow.holds Tryz.pinned (OpenSpec.ofChange pairYieldsSpec)

/-- ITS FALSE NEIGHBOUR: 'it returns false'. Refute it at one input. -/
def pairYieldsWrong : ChangeSpec := { name := "pairYields", fn := fun _ => fun
  | [d] => { results := [.lit (.bool false)], args := [d] }
  | _ => none }
def PairYieldsWrongFalsely : Prop := pairYieldsRow.holds Tryz.pinned (OpenSpec.ofChange pairYieldsWrong)

/- THE SECOND FORM. 'bulk': how many values and letters a reading holds, each counted each time it is reached (what is shared counts as often as it is met; a slice's spare places count too). A statement '..UptoSaid' is the law's where the arguments, and the package variables that the reading takes, are together of bulk at most 1048576: NARROWER than '..Said'. Prove '..Said' where nothing that the law and all that it calls make is longer than what came in: it says more and counts as full. Else prove '..UptoSaid'. A law counts once. -/
mutual
def uptoBulk {H : Type} : DataW H → Nat
  | .lit (.string bytes) => bytes.length + 1
  | .lit _ => 1
  | .nil => 1
  | .ptr d => uptoBulk d + 1
  | .slice elems spare => uptoBulkAll elems + uptoBulkAll spare + 1
  | .agg parts => uptoBulkAll parts + 1
  | .iface _ d => uptoBulk d + 1
  | .map entries => uptoBulkEntries entries + 1
  | .held _ => 1
def uptoBulkAll {H : Type} : List (DataW H) → Nat
  | [] => 0
  | d :: r => uptoBulk d + uptoBulkAll r
def uptoBulkEntries {H : Type} : List (Lit × DataW H) → Nat
  | [] => 0
  | x :: r => uptoBulkEntry x + uptoBulkEntries r
def uptoBulkEntry {H : Type} : Lit × DataW H → Nat
  | (.string bytes, d) => bytes.length + uptoBulk d + 1
  | (_, d) => uptoBulk d + 1
 end
def uptoSmall : (H : Type) → List (DataW H) → Bool := fun _ ds => decide (uptoBulkAll ds ≤ 1048576)
def OpenSpec.upto (s : _root_.Go.ChangeSpec) : _root_.Go.OpenSpec := { _root_.Go.OpenSpec.ofChange s with cond := some uptoSmall }

/-- 'pointsmantop.TopHeld', WHERE WHAT IT READS IS OF BULK AT MOST 1048576: true; the input reads as it did. -/
def topHeldUptoRow : OpenClaim := { program := "ytlknjgmhfimhbaagreatdoor", sum := "439405324266e74bca35fe46652a4eb58567c49c0b23d7f536f1744808bdd78e", func := "pointsman/pointsmantop.TopHeld", spec := "topHeld", unfollowed := true, recurses := true, named := ["unicode/utf8.first", "unicode/utf8.acceptRanges"], apart := false, laid := [("unicode/utf8.acceptRanges", laid_unicode_utf8_acceptRanges), ("unicode/utf8.first", laid_unicode_utf8_first)], narrowed := true }
def TopHeldUptoSaid : Prop := topHeldUptoRow.holds Tryz.pinned (OpenSpec.upto topHeldSpec)

/-- 'pointsmantop.TopRoutes', WHERE WHAT IT READS IS OF BULK AT MOST 1048576: true; the input reads as it did. -/
def topRoutesUptoRow : OpenClaim := { program := "ytlknjgmhfimhbaagreatdoor", sum := "439405324266e74bca35fe46652a4eb58567c49c0b23d7f536f1744808bdd78e", func := "pointsman/pointsmantop.TopRoutes", spec := "topRoutes", unfollowed := true, recurses := true, named := ["unicode/utf8.first", "unicode/utf8.acceptRanges"], apart := false, laid := [("unicode/utf8.acceptRanges", laid_unicode_utf8_acceptRanges), ("unicode/utf8.first", laid_unicode_utf8_first)], narrowed := true }
def TopRoutesUptoSaid : Prop := topRoutesUptoRow.holds Tryz.pinned (OpenSpec.upto topRoutesSpec)

/-- 'pointsmantop.TopBumpless', WHERE WHAT IT READS IS OF BULK AT MOST 1048576: true; the input reads as it did. -/
def topBumplessUptoRow : OpenClaim := { program := "ytlknjgmhfimhbaagreatdoor", sum := "439405324266e74bca35fe46652a4eb58567c49c0b23d7f536f1744808bdd78e", func := "pointsman/pointsmantop.TopBumpless", spec := "topBumpless", unfollowed := true, recurses := true, named := ["unicode/utf8.first", "unicode/utf8.acceptRanges"], apart := false, laid := [("unicode/utf8.acceptRanges", laid_unicode_utf8_acceptRanges), ("unicode/utf8.first", laid_unicode_utf8_first)], narrowed := true }
def TopBumplessUptoSaid : Prop := topBumplessUptoRow.holds Tryz.pinned (OpenSpec.upto topBumplessSpec)

/-- 'pointsmanlaw14.PairBegins', WHERE WHAT IT READS IS OF BULK AT MOST 1048576: true; the input reads as it did. -/
def pairBeginsUptoRow : OpenClaim := { program := "ytlknjgmhfimhbaagreatdoor", sum := "439405324266e74bca35fe46652a4eb58567c49c0b23d7f536f1744808bdd78e", func := "pointsman/pointsmanlaw14.PairBegins", spec := "pairBegins", unfollowed := true, recurses := true, named := ["unicode/utf8.first", "unicode/utf8.acceptRanges"], apart := false, laid := [("unicode/utf8.acceptRanges", laid_unicode_utf8_acceptRanges), ("unicode/utf8.first", laid_unicode_utf8_first)], narrowed := true }
def PairBeginsUptoSaid : Prop := pairBeginsUptoRow.holds Tryz.pinned (OpenSpec.upto pairBeginsSpec)

/-- 'pointsmanlaw14.PairYields', WHERE WHAT IT READS IS OF BULK AT MOST 1048576: true; the input reads as it did. -/
def pairYieldsUptoRow : OpenClaim := { program := "ytlknjgmhfimhbaagreatdoor", sum := "439405324266e74bca35fe46652a4eb58567c49c0b23d7f536f1744808bdd78e", func := "pointsman/pointsmanlaw14.PairYields", spec := "pairYields", unfollowed := true, recurses := true, named := ["unicode/utf8.first", "unicode/utf8.acceptRanges"], apart := false, laid := [("unicode/utf8.acceptRanges", laid_unicode_utf8_acceptRanges), ("unicode/utf8.first", laid_unicode_utf8_first)], narrowed := true }
def PairYieldsUptoSaid : Prop := pairYieldsUptoRow.holds Tryz.pinned (OpenSpec.upto pairYieldsSpec)

end Rows
end Go.Proofs.YtlknjgmhfimhbaaGreatDoor
