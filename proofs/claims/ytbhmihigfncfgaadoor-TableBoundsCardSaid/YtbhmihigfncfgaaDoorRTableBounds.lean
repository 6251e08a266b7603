/-
  TableBounds: the row and its tied card: for every input of the statement the law returns true, and its arguments read as before. No condition of ours.
-/
import Derived.Test.YtbhmihigfncfgaaDoorPTableBounds
import Derived.Test.YtbhmihigfncfgaaDoorCode
import Derived.Test.YtbhmihigfncfgaaDoorDoor
import Derived.Test.YtbhmihigfncfgaaDoorCards
import Derived.Test.YtbhmihigfncfgaaDoorTie
import Derived.ProofKit
import Derived.LaidMore
import Derived.OpenShut
import Derived.Stop.Joined
set_option linter.unusedVariables false
set_option maxRecDepth 100000
namespace Go.Proofs.YtbhmihigfncfgaaDoor
open Go Go.PM Go.ChangeShapes Go.WideShapes Go.ChangeAt Go.RowKit
theorem own_TableBounds : ownKnob Tryd.prog.godebug = none := by kernel_rfl
theorem lay_TableBounds : laidOutB Tryd.prog = true := by kernel_rfl
theorem ok_TableBounds : doorOk Tryd.prog 0 1 = true := by kernel_rfl
theorem acc_TableBounds : (Rows.laid_unicode_utf8_acceptRanges : DataW Unit) = Go.Lib.acceptData := by kernel_rfl
theorem lifted_TableBounds (os : Os) (started : os.Started) (H : Type) (enc : TypeId × Value → H) :
    ReturnsInHanded {} Tryd.checked os 9 .any (fun w args => (Rows.tableBoundsSpec.pre enc Tryd.prog Tryd.f9 Rows.tableBoundsRow.domain false w args ∧ laidMetH Tryd.prog Rows.tableBoundsRow.laid w) ∧ sizedMet enc Tryd.prog Tryd.f9 (OpenSpec.ofChange Rows.tableBoundsSpec) false w args)
      (Rows.tableBoundsSpec.post enc Tryd.prog Tryd.f9 false true false false) := by
  refine returnsInHanded_of_change_and (C := Tryd.checked) (X := fun w _ => laidMetH Tryd.prog Rows.tableBoundsRow.laid w) (fun _ _ _ hh h => h.of_heap hh) own_TableBounds started (by kernel_rfl) Tryd.func9
    (ChangeSpec.witness_shaped (enc := enc) (C := Tryd.checked) (os := os) (X := fun w _ => laidMetH Tryd.prog Rows.tableBoundsRow.laid w) false (World.laidAll Tryd.prog os Rows.tableBoundsRow.laid) #[.int .i64 0, .int .i64 0, .int .i64 0, .int .i64 0] 8 (World.laidAll_os _ _ _)
      (World.shaped_of_ZipB (by kernel_rfl) (by kernel_rfl)) (by kernel_rfl) (by kernel_rfl) (by kernel_rfl)
      (by rw [MakeChecks.laidMetH_plain _ _ _ (by kernel_rfl)]; exact laidMet_laidAll _ (by kernel_rfl) (by kernel_rfl))) ?_
  intro W base args ds gs before hval0 hW _ hsz hL _
  exact law_with (D.kok _ _) lay_TableBounds (n := 8) (ss := D.ss_TableBounds) (by kernel_rfl) rfl (tb := 4) (by kernel_rfl) (by kernel_rfl) (fun ds hds => by
      match ds, hds with
      | [d0, d1, d2, d3], _ => rfl)
    (D.pure_TableBounds) (door_of_laid ok_TableBounds acc_TableBounds rfl hL) hval0 hW hsz
theorem holds_TableBounds : Rows.TableBoundsSaid :=
  OpenClaim.holds_of_wide 9 Tryd.f9 rfl rfl rfl rfl rfl rfl rfl ⟨rfl, rfl, rfl, rfl, rfl⟩ rfl rfl rfl rfl rfl (by kernel_rfl) Tryd.func9 (by kernel_rfl)
    (of_decide_eq_true (by kernel_rfl)) (by unfold Func.isWrapper; first | (rw [if_pos (by decide +kernel)]; kernel_rfl) | (rw [if_neg (by decide +kernel)]; exact ⟨rfl, rfl⟩))
    (fun os started H enc _ => lifted_TableBounds os started H enc)
theorem card_TableBounds : Rows.TableBoundsCardSaid :=
  Claim7.holds_tied_plain_at .later [] [.data, .pinned] true (true, "348245f37e525bcfffca93b1b7d7ac6714d0d2170e2af4e996ed49715ea08ef3") false holds_TableBounds (fun _ h => by cases h) (by kernel_rfl) (fun _ h => by cases h) tableBounds_row_tie rfl ⟨rfl, rfl⟩ (by kernel_rfl) rfl
    (fun f fn hf hfn => by
      obtain rfl : f = 9 := Option.some.inj ((show Tryd.prog.funcNamed "pointsman/pointsmanlaw4.TableBounds" = some 9 by kernel_rfl).symm.trans hf) |>.symm
      obtain rfl : fn = Tryd.f9 := (Option.some.inj (Tryd.func9.symm.trans hfn)).symm
      exact ⟨by kernel_rfl, fun j t ht => by
        have hm : t ∈ Tryd.f9.params.toList := by simpa using Array.mem_of_getElem? ht
        have hall : (Tryd.f9.params.toList.all fun u => !Tryd.prog.wantsStandIn u) = true := by kernel_rfl
        exact (show Tryd.prog.wantsStandIn t = false by simpa using List.all_eq_true.1 hall t hm)⟩)
    (by kernel_rfl)
#print axioms card_TableBounds
end Go.Proofs.YtbhmihigfncfgaaDoor
