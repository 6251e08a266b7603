/-
  FieldPlays: the row and its tied card: for every input of the statement the law returns true, and its arguments read as before. No condition of ours.
-/
import Derived.Test.YtbhmihigfncfgabDoorPFieldPlays
import Derived.Test.YtbhmihigfncfgabDoorCode
import Derived.Test.YtbhmihigfncfgabDoorDoor
import Derived.Test.YtbhmihigfncfgabDoorCards
import Derived.Test.YtbhmihigfncfgabDoorTie
import Derived.ProofKit
import Derived.LaidMore
import Derived.OpenShut
import Derived.Stop.Joined
set_option linter.unusedVariables false
set_option maxRecDepth 100000
namespace Go.Proofs.YtbhmihigfncfgabDoor
open Go Go.PM Go.ChangeShapes Go.WideShapes Go.ChangeAt Go.RowKit
theorem own_FieldPlays : ownKnob Tryd.prog.godebug = none := by kernel_rfl
theorem lay_FieldPlays : laidOutB Tryd.prog = true := by kernel_rfl
theorem ok_FieldPlays : doorOk Tryd.prog 0 1 = true := by kernel_rfl
theorem acc_FieldPlays : (Rows.laid_unicode_utf8_acceptRanges : DataW Unit) = Go.Lib.acceptData := by kernel_rfl
theorem lifted_FieldPlays (os : Os) (started : os.Started) (H : Type) (enc : TypeId × Value → H) :
    ReturnsInHanded {} Tryd.checked os 9 .any (fun w args => (Rows.fieldPlaysSpec.pre enc Tryd.prog Tryd.f9 Rows.fieldPlaysRow.domain false w args ∧ laidMetH Tryd.prog Rows.fieldPlaysRow.laid w) ∧ sizedMet enc Tryd.prog Tryd.f9 (OpenSpec.ofChange Rows.fieldPlaysSpec) false w args)
      (Rows.fieldPlaysSpec.post enc Tryd.prog Tryd.f9 false true false false) := by
  refine returnsInHanded_of_change_and (C := Tryd.checked) (X := fun w _ => laidMetH Tryd.prog Rows.fieldPlaysRow.laid w) (fun _ _ _ hh h => h.of_heap hh) own_FieldPlays started (by kernel_rfl) Tryd.func9
    (ChangeSpec.witness_shaped (enc := enc) (C := Tryd.checked) (os := os) (X := fun w _ => laidMetH Tryd.prog Rows.fieldPlaysRow.laid w) false (World.laidAll Tryd.prog os Rows.fieldPlaysRow.laid) #[.agg #[.slice none 0 0, .slice none 0 0, .slice none 0 0, .slice none 0 0], .slice none 0 0] 8 (World.laidAll_os _ _ _)
      (World.shaped_of_ZipB (by kernel_rfl) (by kernel_rfl)) (by kernel_rfl) (by kernel_rfl) (by kernel_rfl)
      (by rw [MakeChecks.laidMetH_plain _ _ _ (by kernel_rfl)]; exact laidMet_laidAll _ (by kernel_rfl) (by kernel_rfl))) ?_
  intro W base args ds gs before hval0 hW _ hsz hL _
  exact law_with (D.kok _ _) lay_FieldPlays (n := 8) (ss := D.ss_FieldPlays) (by kernel_rfl) rfl (tb := 4) (by kernel_rfl) (by kernel_rfl) (fun ds hds => by
      match ds, hds with
      | [d0, d1], _ => rfl)
    (D.pure_FieldPlays) (door_of_laid ok_FieldPlays acc_FieldPlays rfl hL) hval0 hW hsz
theorem holds_FieldPlays : Rows.FieldPlaysSaid :=
  OpenClaim.holds_of_wide 9 Tryd.f9 rfl rfl rfl rfl rfl rfl rfl ⟨rfl, rfl, rfl, rfl, rfl⟩ rfl rfl rfl rfl rfl (by kernel_rfl) Tryd.func9 (by kernel_rfl)
    (of_decide_eq_true (by kernel_rfl)) (by unfold Func.isWrapper; first | (rw [if_pos (by decide +kernel)]; kernel_rfl) | (rw [if_neg (by decide +kernel)]; exact ⟨rfl, rfl⟩))
    (fun os started H enc _ => lifted_FieldPlays os started H enc)
theorem card_FieldPlays : Rows.FieldPlaysCardSaid :=
  Claim7.holds_tied_plain_at .later [] [.data, .pinned] true (true, "0a3549b1ff74bfba2ef963813598a2268f85fa1b989d515e599a58c7a655be22") false holds_FieldPlays (fun _ h => by cases h) (by kernel_rfl) (fun _ h => by cases h) fieldPlays_row_tie rfl ⟨rfl, rfl⟩ (by kernel_rfl) rfl
    (fun f fn hf hfn => by
      obtain rfl : f = 9 := Option.some.inj ((show Tryd.prog.funcNamed "pointsman/pointsmanlaw6.FieldPlays" = some 9 by kernel_rfl).symm.trans hf) |>.symm
      obtain rfl : fn = Tryd.f9 := (Option.some.inj (Tryd.func9.symm.trans hfn)).symm
      exact ⟨by kernel_rfl, fun j t ht => by
        have hm : t ∈ Tryd.f9.params.toList := by simpa using Array.mem_of_getElem? ht
        have hall : (Tryd.f9.params.toList.all fun u => !Tryd.prog.wantsStandIn u) = true := by kernel_rfl
        exact (show Tryd.prog.wantsStandIn t = false by simpa using List.all_eq_true.1 hall t hm)⟩)
    (by kernel_rfl)
#print axioms card_FieldPlays
end Go.Proofs.YtbhmihigfncfgabDoor
