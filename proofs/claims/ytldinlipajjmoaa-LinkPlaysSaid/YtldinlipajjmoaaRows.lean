/-
  No cell of these rows narrows 'for every input' (looked for: loops, veiled, ifaces, maps, wideKeys, modest, calm, conditions, laid).
  DERIVED. THE GIVEN ROWS OF THIS SEAT. 6 by the template 'for every input the law returns true; each argument reads behind the call as it read before'; 0 by the template 'total and deterministic' (their statements: YtldinlipajjmoaaTotals.lean).
  GIVEN WITH THE SEED: the statements are not yours to turn. If you find one false, say at which input.
  Laid BY PROGRAM, IN A SANDBOX (cutbox-rows.mjs): the forced cells as the released guide's own fill.sh prints them over the translation ad031492037c7117… (all of the seat's roots in one cut). By AI agents, Wed Nov 11 2026. No macro, syntax, notation, axiom, sorry.
-/
import Derived.Test.YtldinlipajjmoaaChecked
import GoSem.Claim
import GoSem.ClaimJoined
import GoSem.ClaimMapViews
import Derived.JoinedTies
import Derived.KernelRfl
namespace Go.Proofs.Ytldinlipajjmoaa
/- THE CELL 'sum', in the pinned program and in every row, IS THE sha256 OF THE DUMP (.gsa) THAT YtldinlipajjmoaaProg.lean LOADS. Nothing in Lean hashes anything: it is a label: what it is worth is what the hold of that sum in a sandbox is worth. -/
noncomputable def Try.pinned : Pinned := { name := "ytldinlipajjmoaa", sum := "ad031492037c7117d34e50eb570bb3d6cfdf722cb5f54584326fd01f846f623b", checked := Try.checked }
namespace Rows
def none {H : Type} : Left H := { results := [], args := [] }

/-- 'pointsmanlaw13.LinkPlays': WHATEVER THE INPUT: true; the input reads as it did. -/
def linkPlaysSpec : ChangeSpec := { name := "linkPlays", fn := fun _ => fun
  | [d] => { results := [.lit (.bool true)], args := [d] }
  | _ => none }
def linkPlaysRow : OpenClaim := { program := "ytldinlipajjmoaa", sum := "ad031492037c7117d34e50eb570bb3d6cfdf722cb5f54584326fd01f846f623b", func := "pointsman/pointsmanlaw13.LinkPlays", spec := "linkPlays", apart := false }
def LinkPlaysSaid : Prop := linkPlaysRow.holds Try.pinned (OpenSpec.ofChange linkPlaysSpec)

/-- ITS FALSE NEIGHBOUR: 'it returns false'. Refute it at one input. -/
def linkPlaysWrong : ChangeSpec := { name := "linkPlays", fn := fun _ => fun
  | [d] => { results := [.lit (.bool false)], args := [d] }
  | _ => none }
def LinkPlaysWrongFalsely : Prop := linkPlaysRow.holds Try.pinned (OpenSpec.ofChange linkPlaysWrong)

/-- 'pointsmanlaw13.LinkCrosses': WHATEVER THE INPUT: true; the input reads as it did. -/
def linkCrossesSpec : ChangeSpec := { name := "linkCrosses", fn := fun _ => fun
  | [d1, d2, d3] => { results := [.lit (.bool true)], args := [d1, d2, d3] }
  | _ => none }
def linkCrossesRow : OpenClaim := { program := "ytldinlipajjmoaa", sum := "ad031492037c7117d34e50eb570bb3d6cfdf722cb5f54584326fd01f846f623b", func := "pointsman/pointsmanlaw13.LinkCrosses", spec := "linkCrosses", apart := false }
def LinkCrossesSaid : Prop := linkCrossesRow.holds Try.pinned (OpenSpec.ofChange linkCrossesSpec)

/-- ITS FALSE NEIGHBOUR: 'it returns false'. Refute it at one input. -/
def linkCrossesWrong : ChangeSpec := { name := "linkCrosses", fn := fun _ => fun
  | [d1, d2, d3] => { results := [.lit (.bool false)], args := [d1, d2, d3] }
  | _ => none }
def LinkCrossesWrongFalsely : Prop := linkCrossesRow.holds Try.pinned (OpenSpec.ofChange linkCrossesWrong)

/-- 'pointsmanlaw13.LinkSpoils': WHATEVER THE INPUT: true; the input reads as it did. -/
def linkSpoilsSpec : ChangeSpec := { name := "linkSpoils", fn := fun _ => fun
  | [d1, d2, d3] => { results := [.lit (.bool true)], args := [d1, d2, d3] }
  | _ => none }
def linkSpoilsRow : OpenClaim := { program := "ytldinlipajjmoaa", sum := "ad031492037c7117d34e50eb570bb3d6cfdf722cb5f54584326fd01f846f623b", func := "pointsman/pointsmanlaw13.LinkSpoils", spec := "linkSpoils", apart := false }
def LinkSpoilsSaid : Prop := linkSpoilsRow.holds Try.pinned (OpenSpec.ofChange linkSpoilsSpec)

/-- ITS FALSE NEIGHBOUR: 'it returns false'. Refute it at one input. -/
def linkSpoilsWrong : ChangeSpec := { name := "linkSpoils", fn := fun _ => fun
  | [d1, d2, d3] => { results := [.lit (.bool false)], args := [d1, d2, d3] }
  | _ => none }
def LinkSpoilsWrongFalsely : Prop := linkSpoilsRow.holds Try.pinned (OpenSpec.ofChange linkSpoilsWrong)

/-- 'pointsmanlaw13.LinkOwn': WHATEVER THE INPUT: true; the input reads as it did. -/
def linkOwnSpec : ChangeSpec := { name := "linkOwn", fn := fun _ => fun
  | [d1, d2] => { results := [.lit (.bool true)], args := [d1, d2] }
  | _ => none }
def linkOwnRow : OpenClaim := { program := "ytldinlipajjmoaa", sum := "ad031492037c7117d34e50eb570bb3d6cfdf722cb5f54584326fd01f846f623b", func := "pointsman/pointsmanlaw13.LinkOwn", spec := "linkOwn", apart := false }
def LinkOwnSaid : Prop := linkOwnRow.holds Try.pinned (OpenSpec.ofChange linkOwnSpec)

/-- ITS FALSE NEIGHBOUR: 'it returns false'. Refute it at one input. -/
def linkOwnWrong : ChangeSpec := { name := "linkOwn", fn := fun _ => fun
  | [d1, d2] => { results := [.lit (.bool false)], args := [d1, d2] }
  | _ => none }
def LinkOwnWrongFalsely : Prop := linkOwnRow.holds Try.pinned (OpenSpec.ofChange linkOwnWrong)

/-- 'pointsmanlaw13.LinkLast': WHATEVER THE INPUT: true; the input reads as it did. -/
def linkLastSpec : ChangeSpec := { name := "linkLast", fn := fun _ => fun
  | [d] => { results := [.lit (.bool true)], args := [d] }
  | _ => none }
def linkLastRow : OpenClaim := { program := "ytldinlipajjmoaa", sum := "ad031492037c7117d34e50eb570bb3d6cfdf722cb5f54584326fd01f846f623b", func := "pointsman/pointsmanlaw13.LinkLast", spec := "linkLast", apart := false }
def LinkLastSaid : Prop := linkLastRow.holds Try.pinned (OpenSpec.ofChange linkLastSpec)

/-- ITS FALSE NEIGHBOUR: 'it returns false'. Refute it at one input. -/
def linkLastWrong : ChangeSpec := { name := "linkLast", fn := fun _ => fun
  | [d] => { results := [.lit (.bool false)], args := [d] }
  | _ => none }
def LinkLastWrongFalsely : Prop := linkLastRow.holds Try.pinned (OpenSpec.ofChange linkLastWrong)

/-- 'pointsmanlaw13.LinkTurns': WHATEVER THE INPUT: true; the input reads as it did. -/
def linkTurnsSpec : ChangeSpec := { name := "linkTurns", fn := fun _ => fun
  | [d1, d2] => { results := [.lit (.bool true)], args := [d1, d2] }
  | _ => none }
def linkTurnsRow : OpenClaim := { program := "ytldinlipajjmoaa", sum := "ad031492037c7117d34e50eb570bb3d6cfdf722cb5f54584326fd01f846f623b", func := "pointsman/pointsmanlaw13.LinkTurns", spec := "linkTurns", apart := false }
def LinkTurnsSaid : Prop := linkTurnsRow.holds Try.pinned (OpenSpec.ofChange linkTurnsSpec)

/-- ITS FALSE NEIGHBOUR: 'it returns false'. Refute it at one input. -/
def linkTurnsWrong : ChangeSpec := { name := "linkTurns", fn := fun _ => fun
  | [d1, d2] => { results := [.lit (.bool false)], args := [d1, d2] }
  | _ => none }
def LinkTurnsWrongFalsely : Prop := linkTurnsRow.holds Try.pinned (OpenSpec.ofChange linkTurnsWrong)

/- THE SECOND FORM. 'bulk': how many values and letters a reading holds, each counted each time it is reached (what is shared counts as often as it is met; a slice's spare places count too). A statement '..UptoSaid' is the law's where the arguments, and the package variables that the reading takes, are together of bulk at most 1048576: NARROWER than '..Said'. Prove '..Said' where nothing that the law and all that it calls make is longer than what came in: it says more and counts as full. Else prove '..UptoSaid'. A law counts once. -/
mutual
def uptoBulk {H : Type} : DataW H → Nat
  | .lit (.string bytes) => bytes.length + 1
  | .lit _ => 1
  | .nil => 1
  | .ptr d => uptoBulk d + 1
  | .slice elems spare => uptoBulkAll elems + uptoBulkAll spare + 1
  | .agg parts => uptoBulkAll parts + 1
  | .iface _ d => uptoBulk d + 1
  | .map entries => uptoBulkEntries entries + 1
  | .held _ => 1
def uptoBulkAll {H : Type} : List (DataW H) → Nat
  | [] => 0
  | d :: r => uptoBulk d + uptoBulkAll r
def uptoBulkEntries {H : Type} : List (Lit × DataW H) → Nat
  | [] => 0
  | x :: r => uptoBulkEntry x + uptoBulkEntries r
def uptoBulkEntry {H : Type} : Lit × DataW H → Nat
  | (.string bytes, d) => bytes.length + uptoBulk d + 1
  | (_, d) => uptoBulk d + 1
 end
def uptoSmall : (H : Type) → List (DataW H) → Bool := fun _ ds => decide (uptoBulkAll ds ≤ 1048576)
def OpenSpec.upto (s : _root_.Go.ChangeSpec) : _root_.Go.OpenSpec := { _root_.Go.OpenSpec.ofChange s with cond := some uptoSmall }

/-- 'pointsmanlaw13.LinkPlays', WHERE WHAT IT READS IS OF BULK AT MOST 1048576: true; the input reads as it did. -/
def linkPlaysUptoRow : OpenClaim := { program := "ytldinlipajjmoaa", sum := "ad031492037c7117d34e50eb570bb3d6cfdf722cb5f54584326fd01f846f623b", func := "pointsman/pointsmanlaw13.LinkPlays", spec := "linkPlays", apart := false, narrowed := true }
def LinkPlaysUptoSaid : Prop := linkPlaysUptoRow.holds Try.pinned (OpenSpec.upto linkPlaysSpec)

/-- 'pointsmanlaw13.LinkCrosses', WHERE WHAT IT READS IS OF BULK AT MOST 1048576: true; the input reads as it did. -/
def linkCrossesUptoRow : OpenClaim := { program := "ytldinlipajjmoaa", sum := "ad031492037c7117d34e50eb570bb3d6cfdf722cb5f54584326fd01f846f623b", func := "pointsman/pointsmanlaw13.LinkCrosses", spec := "linkCrosses", apart := false, narrowed := true }
def LinkCrossesUptoSaid : Prop := linkCrossesUptoRow.holds Try.pinned (OpenSpec.upto linkCrossesSpec)

/-- 'pointsmanlaw13.LinkSpoils', WHERE WHAT IT READS IS OF BULK AT MOST 1048576: true; the input reads as it did. -/
def linkSpoilsUptoRow : OpenClaim := { program := "ytldinlipajjmoaa", sum := "ad031492037c7117d34e50eb570bb3d6cfdf722cb5f54584326fd01f846f623b", func := "pointsman/pointsmanlaw13.LinkSpoils", spec := "linkSpoils", apart := false, narrowed := true }
def LinkSpoilsUptoSaid : Prop := linkSpoilsUptoRow.holds Try.pinned (OpenSpec.upto linkSpoilsSpec)

/-- 'pointsmanlaw13.LinkOwn', WHERE WHAT IT READS IS OF BULK AT MOST 1048576: true; the input reads as it did. -/
def linkOwnUptoRow : OpenClaim := { program := "ytldinlipajjmoaa", sum := "ad031492037c7117d34e50eb570bb3d6cfdf722cb5f54584326fd01f846f623b", func := "pointsman/pointsmanlaw13.LinkOwn", spec := "linkOwn", apart := false, narrowed := true }
def LinkOwnUptoSaid : Prop := linkOwnUptoRow.holds Try.pinned (OpenSpec.upto linkOwnSpec)

/-- 'pointsmanlaw13.LinkLast', WHERE WHAT IT READS IS OF BULK AT MOST 1048576: true; the input reads as it did. -/
def linkLastUptoRow : OpenClaim := { program := "ytldinlipajjmoaa", sum := "ad031492037c7117d34e50eb570bb3d6cfdf722cb5f54584326fd01f846f623b", func := "pointsman/pointsmanlaw13.LinkLast", spec := "linkLast", apart := false, narrowed := true }
def LinkLastUptoSaid : Prop := linkLastUptoRow.holds Try.pinned (OpenSpec.upto linkLastSpec)

/-- 'pointsmanlaw13.LinkTurns', WHERE WHAT IT READS IS OF BULK AT MOST 1048576: true; the input reads as it did. -/
def linkTurnsUptoRow : OpenClaim := { program := "ytldinlipajjmoaa", sum := "ad031492037c7117d34e50eb570bb3d6cfdf722cb5f54584326fd01f846f623b", func := "pointsman/pointsmanlaw13.LinkTurns", spec := "linkTurns", apart := false, narrowed := true }
def LinkTurnsUptoSaid : Prop := linkTurnsUptoRow.holds Try.pinned (OpenSpec.upto linkTurnsSpec)

end Rows
end Go.Proofs.Ytldinlipajjmoaa
