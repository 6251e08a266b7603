/-
  UnitFollows: the row and its tied card: for every input of the statement the law returns true, and its arguments read as before. No condition of ours.
-/
import Derived.Test.YtnpcgejfkonfdabGreatDoorX1
import Derived.Test.YtnpcgejfkonfdabGreatDoorCode
import Derived.Test.YtnpcgejfkonfdabGreatDoorDoor
import Derived.Test.YtnpcgejfkonfdabGreatDoorCards
import Derived.Test.YtnpcgejfkonfdabGreatDoorTie
import Derived.ProofKit
import Derived.LaidMore
import Derived.OpenShut
import Derived.Stop.Joined
set_option linter.unusedVariables false
set_option maxRecDepth 100000
namespace Go.Proofs.YtnpcgejfkonfdabGreatDoor
open Go Go.PM Go.ChangeShapes Go.WideShapes Go.ChangeAt Go.RowKit
theorem own_UnitFollows : ownKnob Tryz.prog.godebug = none := by kernel_rfl
theorem lay_UnitFollows : laidOutB Tryz.prog = true := by kernel_rfl
theorem ok_UnitFollows : doorOk Tryz.prog 0 1 = true := by kernel_rfl
theorem acc_UnitFollows : (Rows.laid_unicode_utf8_acceptRanges : DataW Unit) = Go.Lib.acceptData := by kernel_rfl
theorem lifted_UnitFollows (os : Os) (started : os.Started) (H : Type) (enc : TypeId × Value → H) :
    ReturnsInHanded {} Tryz.checked os 5 .any (fun w args => (Rows.unitFollowsSpec.pre enc Tryz.prog Tryz.f5 Rows.unitFollowsRow.domain false w args ∧ laidMetH Tryz.prog Rows.unitFollowsRow.laid w) ∧ sizedMet enc Tryz.prog Tryz.f5 (OpenSpec.ofChange Rows.unitFollowsSpec) false w args)
      (Rows.unitFollowsSpec.post enc Tryz.prog Tryz.f5 false true false false) := by
  refine returnsInHanded_of_change_and (C := Tryz.checked) (X := fun w _ => laidMetH Tryz.prog Rows.unitFollowsRow.laid w) (fun _ _ _ hh h => h.of_heap hh) own_UnitFollows started (by kernel_rfl) Tryz.func5
    (ChangeSpec.witness_shaped (enc := enc) (C := Tryz.checked) (os := os) (X := fun w _ => laidMetH Tryz.prog Rows.unitFollowsRow.laid w) false (World.laidAll Tryz.prog os Rows.unitFollowsRow.laid) #[.int .i64 0, .slice none 0 0] 8 (World.laidAll_os _ _ _)
      (World.shaped_of_ZipB (by kernel_rfl) (by kernel_rfl)) (by kernel_rfl) (by kernel_rfl) (by kernel_rfl)
      (by rw [MakeChecks.laidMetH_plain _ _ _ (by kernel_rfl)]; exact laidMet_laidAll _ (by kernel_rfl) (by kernel_rfl))) ?_
  intro W base args ds gs before hval0 hW _ hsz hL _
  exact law_with (D.kok _ _) lay_UnitFollows (n := 8) (ss := D.ss_UnitFollows) (by kernel_rfl) rfl (tb := 4) (by kernel_rfl) (by kernel_rfl) (fun ds hds => by
      match ds, hds with
      | [d0, d1], _ => rfl)
    (D.pure_UnitFollows) (door_of_laid ok_UnitFollows acc_UnitFollows rfl hL) hval0 hW hsz
theorem holds_UnitFollows : Rows.UnitFollowsSaid :=
  OpenClaim.holds_of_wide 5 Tryz.f5 rfl rfl rfl rfl rfl rfl rfl ⟨rfl, rfl, rfl, rfl, rfl⟩ rfl rfl rfl rfl rfl (by kernel_rfl) Tryz.func5 (by kernel_rfl)
    (of_decide_eq_true (by kernel_rfl)) (by unfold Func.isWrapper; first | (rw [if_pos (by decide +kernel)]; kernel_rfl) | (rw [if_neg (by decide +kernel)]; exact ⟨rfl, rfl⟩))
    (fun os started H enc _ => lifted_UnitFollows os started H enc)
theorem card_UnitFollows : Rows.UnitFollowsCardSaid :=
  Claim7.holds_tied_plain_at .later [] [.data, .pinned] true (true, "19497271d5d3e106ecc14b9c1c19a824923db1cf03fd3ec1fdd7bc570e58660d") true holds_UnitFollows (fun _ h => by cases h) (by kernel_rfl) (fun _ h => by cases h) unitFollows_row_tie rfl ⟨rfl, rfl⟩ (by kernel_rfl) rfl
    (fun f fn hf hfn => by
      obtain rfl : f = 5 := Option.some.inj ((show Tryz.prog.funcNamed "pointsman/pointsmanlaw12.UnitFollows" = some 5 by kernel_rfl).symm.trans hf) |>.symm
      obtain rfl : fn = Tryz.f5 := (Option.some.inj (Tryz.func5.symm.trans hfn)).symm
      exact ⟨by kernel_rfl, fun j t ht => by
        have hm : t ∈ Tryz.f5.params.toList := by simpa using Array.mem_of_getElem? ht
        have hall : (Tryz.f5.params.toList.all fun u => !Tryz.prog.wantsStandIn u) = true := by kernel_rfl
        exact (show Tryz.prog.wantsStandIn t = false by simpa using List.all_eq_true.1 hall t hm)⟩)
    (by kernel_rfl)
#print axioms card_UnitFollows
end Go.Proofs.YtnpcgejfkonfdabGreatDoor
