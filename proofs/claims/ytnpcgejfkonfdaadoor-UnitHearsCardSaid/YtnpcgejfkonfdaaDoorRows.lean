/-
  NARROWER THAN 'FOR EVERY INPUT', by the rows' own cells (each row's printed sentence says how): UnitBoots: laid · UnitHears: laid · UnitYields: laid · UnitLoses: laid · UnitHolds: laid.
  DERIVED. THE GIVEN ROWS OF THIS SEAT. 5 by the template 'for every input the law returns true; each argument reads behind the call as it read before'; 0 by the template 'total and deterministic' (their statements: YtnpcgejfkonfdaaDoorTotals.lean).
  GIVEN WITH THE SEED: the statements are not yours to turn. If you find one false, say at which input.
  Laid BY PROGRAM, IN A SANDBOX (cutbox-rows.mjs): the forced cells as the released guide's own fill.sh prints them over the translation 43b63cea52b566f4… (all of the seat's roots in one cut). By AI agents, Wed Nov 11 2026. No macro, syntax, notation, axiom, sorry.
-/
import Derived.Test.YtnpcgejfkonfdaaDoorChecked
import GoSem.PinnedTables
import GoSem.Claim
import GoSem.ClaimJoined
import GoSem.ClaimMapViews
import Derived.JoinedTies
import Derived.KernelRfl
namespace Go.Proofs.YtnpcgejfkonfdaaDoor
/- THE CELL 'sum', in the pinned program and in every row, IS THE sha256 OF THE DUMP (.gsa) THAT YtnpcgejfkonfdaaDoorProg.lean LOADS. Nothing in Lean hashes anything: it is a label: what it is worth is what the hold of that sum in a sandbox is worth. -/
noncomputable def Tryd.pinned : Pinned := { name := "ytnpcgejfkonfdaadoor", sum := "43b63cea52b566f40252208163ef14b16924eeda4e299ed7d3ce91461b576738", checked := Tryd.checked }
namespace Rows
def none {H : Type} : Left H := { results := [], args := [] }

/- WHAT THE LISTED PACKAGE-LEVEL VARIABLES READ AS WHEN THE CALL BEGINS. Each datum BY PROGRAM (the guide's laid-datum.mjs) off the statement by which the dump's own 'gosem.cut.vars' lays the variable. In a bare row this is a premise. The card (YtnpcgejfkonfdaaDoorCards.lean) ties it to the program's text. -/
def laid_unicode_utf8_acceptRanges {H : Type} : DataW H := .agg [.agg [.lit (.int .u8 128), .lit (.int .u8 191)], .agg [.lit (.int .u8 160), .lit (.int .u8 191)], .agg [.lit (.int .u8 128), .lit (.int .u8 159)], .agg [.lit (.int .u8 144), .lit (.int .u8 191)], .agg [.lit (.int .u8 128), .lit (.int .u8 143)], .agg [.lit (.int .u8 0), .lit (.int .u8 0)], .agg [.lit (.int .u8 0), .lit (.int .u8 0)], .agg [.lit (.int .u8 0), .lit (.int .u8 0)], .agg [.lit (.int .u8 0), .lit (.int .u8 0)], .agg [.lit (.int .u8 0), .lit (.int .u8 0)], .agg [.lit (.int .u8 0), .lit (.int .u8 0)], .agg [.lit (.int .u8 0), .lit (.int .u8 0)], .agg [.lit (.int .u8 0), .lit (.int .u8 0)], .agg [.lit (.int .u8 0), .lit (.int .u8 0)], .agg [.lit (.int .u8 0), .lit (.int .u8 0)], .agg [.lit (.int .u8 0), .lit (.int .u8 0)]]
/-- One of Go's own tables, pinned by name: the form's constant. -/
def laid_unicode_utf8_first : DataW Unit := Go.Pinned.utf8First

/-- 'pointsmanlaw12.UnitBoots': WHATEVER THE INPUT: true; the input reads as it did. -/
def unitBootsSpec : ChangeSpec := { name := "unitBoots", fn := fun _ => fun
  | [d] => { results := [.lit (.bool true)], args := [d] }
  | _ => none }
def unitBootsRow : OpenClaim := { program := "ytnpcgejfkonfdaadoor", sum := "43b63cea52b566f40252208163ef14b16924eeda4e299ed7d3ce91461b576738", func := "pointsman/pointsmanlaw12.UnitBoots", spec := "unitBoots", unfollowed := true, recurses := true, named := ["unicode/utf8.first", "unicode/utf8.acceptRanges"], apart := false, laid := [("unicode/utf8.acceptRanges", laid_unicode_utf8_acceptRanges), ("unicode/utf8.first", laid_unicode_utf8_first)] }
def UnitBootsSaid : Prop := unitBootsRow.holds Tryd.pinned (OpenSpec.ofChange unitBootsSpec)

/-- ITS FALSE NEIGHBOUR: 'it returns false'. Refute it at one input. -/
def unitBootsWrong : ChangeSpec := { name := "unitBoots", fn := fun _ => fun
  | [d] => { results := [.lit (.bool false)], args := [d] }
  | _ => none }
def UnitBootsWrongFalsely : Prop := unitBootsRow.holds Tryd.pinned (OpenSpec.ofChange unitBootsWrong)

/-- 'pointsmanlaw12.UnitHears': WHATEVER THE INPUT: true; the input reads as it did. -/
def unitHearsSpec : ChangeSpec := { name := "unitHears", fn := fun _ => fun
  | [d1, d2] => { results := [.lit (.bool true)], args := [d1, d2] }
  | _ => none }
def unitHearsRow : OpenClaim := { program := "ytnpcgejfkonfdaadoor", sum := "43b63cea52b566f40252208163ef14b16924eeda4e299ed7d3ce91461b576738", func := "pointsman/pointsmanlaw12.UnitHears", spec := "unitHears", unfollowed := true, recurses := true, named := ["unicode/utf8.first", "unicode/utf8.acceptRanges"], apart := false, laid := [("unicode/utf8.acceptRanges", laid_unicode_utf8_acceptRanges), ("unicode/utf8.first", laid_unicode_utf8_first)] }
def UnitHearsSaid : Prop := unitHearsRow.holds Tryd.pinned (OpenSpec.ofChange unitHearsSpec)

/-- ITS FALSE NEIGHBOUR: 'it returns false'. Refute it at one input. -/
def unitHearsWrong : ChangeSpec := { name := "unitHears", fn := fun _ => fun
  | [d1, d2] => { results := [.lit (.bool false)], args := [d1, d2] }
  | _ => none }
def UnitHearsWrongFalsely : Prop := unitHearsRow.holds Tryd.pinned (OpenSpec.ofChange unitHearsWrong)

/-- 'pointsmanlaw12.UnitYields': WHATEVER THE INPUT: true; the input reads as it did. -/
def unitYieldsSpec : ChangeSpec := { name := "unitYields", fn := fun _ => fun
  | [d] => { results := [.lit (.bool true)], args := [d] }
  | _ => none }
def unitYieldsRow : OpenClaim := { program := "ytnpcgejfkonfdaadoor", sum := "43b63cea52b566f40252208163ef14b16924eeda4e299ed7d3ce91461b576738", func := "pointsman/pointsmanlaw12.UnitYields", spec := "unitYields", unfollowed := true, recurses := true, named := ["unicode/utf8.first", "unicode/utf8.acceptRanges"], apart := false, laid := [("unicode/utf8.acceptRanges", laid_unicode_utf8_acceptRanges), ("unicode/utf8.first", laid_unicode_utf8_first)] }
def UnitYieldsSaid : Prop := unitYieldsRow.holds Tryd.pinned (OpenSpec.ofChange unitYieldsSpec)

/-- ITS FALSE NEIGHBOUR: 'it returns false'. Refute it at one input. -/
def unitYieldsWrong : ChangeSpec := { name := "unitYields", fn := fun _ => fun
  | [d] => { results := [.lit (.bool false)], args := [d] }
  | _ => none }
def UnitYieldsWrongFalsely : Prop := unitYieldsRow.holds Tryd.pinned (OpenSpec.ofChange unitYieldsWrong)

/-- 'pointsmanlaw12.UnitLoses': WHATEVER THE INPUT: true; the input reads as it did. -/
def unitLosesSpec : ChangeSpec := { name := "unitLoses", fn := fun _ => fun
  | [d1, d2] => { results := [.lit (.bool true)], args := [d1, d2] }
  | _ => none }
def unitLosesRow : OpenClaim := { program := "ytnpcgejfkonfdaadoor", sum := "43b63cea52b566f40252208163ef14b16924eeda4e299ed7d3ce91461b576738", func := "pointsman/pointsmanlaw12.UnitLoses", spec := "unitLoses", unfollowed := true, recurses := true, named := ["unicode/utf8.first", "unicode/utf8.acceptRanges"], apart := false, laid := [("unicode/utf8.acceptRanges", laid_unicode_utf8_acceptRanges), ("unicode/utf8.first", laid_unicode_utf8_first)] }
def UnitLosesSaid : Prop := unitLosesRow.holds Tryd.pinned (OpenSpec.ofChange unitLosesSpec)

/-- ITS FALSE NEIGHBOUR: 'it returns false'. Refute it at one input. -/
def unitLosesWrong : ChangeSpec := { name := "unitLoses", fn := fun _ => fun
  | [d1, d2] => { results := [.lit (.bool false)], args := [d1, d2] }
  | _ => none }
def UnitLosesWrongFalsely : Prop := unitLosesRow.holds Tryd.pinned (OpenSpec.ofChange unitLosesWrong)

/-- 'pointsmanlaw12.UnitHolds': WHATEVER THE INPUT: true; the input reads as it did. -/
def unitHoldsSpec : ChangeSpec := { name := "unitHolds", fn := fun _ => fun
  | [d] => { results := [.lit (.bool true)], args := [d] }
  | _ => none }
def unitHoldsRow : OpenClaim := { program := "ytnpcgejfkonfdaadoor", sum := "43b63cea52b566f40252208163ef14b16924eeda4e299ed7d3ce91461b576738", func := "pointsman/pointsmanlaw12.UnitHolds", spec := "unitHolds", unfollowed := true, recurses := true, named := ["unicode/utf8.first", "unicode/utf8.acceptRanges"], apart := false, laid := [("unicode/utf8.acceptRanges", laid_unicode_utf8_acceptRanges), ("unicode/utf8.first", laid_unicode_utf8_first)] }
def UnitHoldsSaid : Prop := unitHoldsRow.holds Tryd.pinned (OpenSpec.ofChange unitHoldsSpec)

/-- ITS FALSE NEIGHBOUR: 'it returns false'. Refute it at one input. -/
def unitHoldsWrong : ChangeSpec := { name := "unitHolds", fn := fun _ => fun
  | [d] => { results := [.lit (.bool false)], args := [d] }
  | _ => none }
def UnitHoldsWrongFalsely : Prop := unitHoldsRow.holds Tryd.pinned (OpenSpec.ofChange unitHoldsWrong)

/- THE SECOND FORM. 'bulk': how many values and letters a reading holds, each counted each time it is reached (what is shared counts as often as it is met; a slice's spare places count too). A statement '..UptoSaid' is the law's where the arguments, and the package variables that the reading takes, are together of bulk at most 1048576: NARROWER than '..Said'. Prove '..Said' where nothing that the law and all that it calls make is longer than what came in: it says more and counts as full. Else prove '..UptoSaid'. A law counts once. -/
mutual
def uptoBulk {H : Type} : DataW H → Nat
  | .lit (.string bytes) => bytes.length + 1
  | .lit _ => 1
  | .nil => 1
  | .ptr d => uptoBulk d + 1
  | .slice elems spare => uptoBulkAll elems + uptoBulkAll spare + 1
  | .agg parts => uptoBulkAll parts + 1
  | .iface _ d => uptoBulk d + 1
  | .map entries => uptoBulkEntries entries + 1
  | .held _ => 1
def uptoBulkAll {H : Type} : List (DataW H) → Nat
  | [] => 0
  | d :: r => uptoBulk d + uptoBulkAll r
def uptoBulkEntries {H : Type} : List (Lit × DataW H) → Nat
  | [] => 0
  | x :: r => uptoBulkEntry x + uptoBulkEntries r
def uptoBulkEntry {H : Type} : Lit × DataW H → Nat
  | (.string bytes, d) => bytes.length + uptoBulk d + 1
  | (_, d) => uptoBulk d + 1
 end
def uptoSmall : (H : Type) → List (DataW H) → Bool := fun _ ds => decide (uptoBulkAll ds ≤ 1048576)
def OpenSpec.upto (s : _root_.Go.ChangeSpec) : _root_.Go.OpenSpec := { _root_.Go.OpenSpec.ofChange s with cond := some uptoSmall }

/-- 'pointsmanlaw12.UnitBoots', WHERE WHAT IT READS IS OF BULK AT MOST 1048576: true; the input reads as it did. -/
def unitBootsUptoRow : OpenClaim := { program := "ytnpcgejfkonfdaadoor", sum := "43b63cea52b566f40252208163ef14b16924eeda4e299ed7d3ce91461b576738", func := "pointsman/pointsmanlaw12.UnitBoots", spec := "unitBoots", unfollowed := true, recurses := true, named := ["unicode/utf8.first", "unicode/utf8.acceptRanges"], apart := false, laid := [("unicode/utf8.acceptRanges", laid_unicode_utf8_acceptRanges), ("unicode/utf8.first", laid_unicode_utf8_first)], narrowed := true }
def UnitBootsUptoSaid : Prop := unitBootsUptoRow.holds Tryd.pinned (OpenSpec.upto unitBootsSpec)

/-- 'pointsmanlaw12.UnitHears', WHERE WHAT IT READS IS OF BULK AT MOST 1048576: true; the input reads as it did. -/
def unitHearsUptoRow : OpenClaim := { program := "ytnpcgejfkonfdaadoor", sum := "43b63cea52b566f40252208163ef14b16924eeda4e299ed7d3ce91461b576738", func := "pointsman/pointsmanlaw12.UnitHears", spec := "unitHears", unfollowed := true, recurses := true, named := ["unicode/utf8.first", "unicode/utf8.acceptRanges"], apart := false, laid := [("unicode/utf8.acceptRanges", laid_unicode_utf8_acceptRanges), ("unicode/utf8.first", laid_unicode_utf8_first)], narrowed := true }
def UnitHearsUptoSaid : Prop := unitHearsUptoRow.holds Tryd.pinned (OpenSpec.upto unitHearsSpec)

/-- 'pointsmanlaw12.UnitYields', WHERE WHAT IT READS IS OF BULK AT MOST 1048576: true; the input reads as it did. -/
def unitYieldsUptoRow : OpenClaim := { program := "ytnpcgejfkonfdaadoor", sum := "43b63cea52b566f40252208163ef14b16924eeda4e299ed7d3ce91461b576738", func := "pointsman/pointsmanlaw12.UnitYields", spec := "unitYields", unfollowed := true, recurses := true, named := ["unicode/utf8.first", "unicode/utf8.acceptRanges"], apart := false, laid := [("unicode/utf8.acceptRanges", laid_unicode_utf8_acceptRanges), ("unicode/utf8.first", laid_unicode_utf8_first)], narrowed := true }
def UnitYieldsUptoSaid : Prop := unitYieldsUptoRow.holds Tryd.pinned (OpenSpec.upto unitYieldsSpec)

/-- 'pointsmanlaw12.UnitLoses', WHERE WHAT IT READS IS OF BULK AT MOST 1048576: true; the input reads as it did. -/
def unitLosesUptoRow : OpenClaim := { program := "ytnpcgejfkonfdaadoor", sum := "43b63cea52b566f40252208163ef14b16924eeda4e299ed7d3ce91461b576738", func := "pointsman/pointsmanlaw12.UnitLoses", spec := "unitLoses", unfollowed := true, recurses := true, named := ["unicode/utf8.first", "unicode/utf8.acceptRanges"], apart := false, laid := [("unicode/utf8.acceptRanges", laid_unicode_utf8_acceptRanges), ("unicode/utf8.first", laid_unicode_utf8_first)], narrowed := true }
def UnitLosesUptoSaid : Prop := unitLosesUptoRow.holds Tryd.pinned (OpenSpec.upto unitLosesSpec)

/-- 'pointsmanlaw12.UnitHolds', WHERE WHAT IT READS IS OF BULK AT MOST 1048576: true; the input reads as it did. -/
def unitHoldsUptoRow : OpenClaim := { program := "ytnpcgejfkonfdaadoor", sum := "43b63cea52b566f40252208163ef14b16924eeda4e299ed7d3ce91461b576738", func := "pointsman/pointsmanlaw12.UnitHolds", spec := "unitHolds", unfollowed := true, recurses := true, named := ["unicode/utf8.first", "unicode/utf8.acceptRanges"], apart := false, laid := [("unicode/utf8.acceptRanges", laid_unicode_utf8_acceptRanges), ("unicode/utf8.first", laid_unicode_utf8_first)], narrowed := true }
def UnitHoldsUptoSaid : Prop := unitHoldsUptoRow.holds Tryd.pinned (OpenSpec.upto unitHoldsSpec)

end Rows
end Go.Proofs.YtnpcgejfkonfdaaDoor
