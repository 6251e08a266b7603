/-
  UnitTakes: the row and its tied card: for every input of the statement the law returns true, and its arguments read as before. No condition of ours.
-/
import Derived.Test.YtnpcgejfkonfdaaGreatDoorX1
import Derived.Test.YtnpcgejfkonfdaaGreatDoorCode
import Derived.Test.YtnpcgejfkonfdaaGreatDoorDoor
import Derived.Test.YtnpcgejfkonfdaaGreatDoorCards
import Derived.Test.YtnpcgejfkonfdaaGreatDoorTie
import Derived.ProofKit
import Derived.LaidMore
import Derived.OpenShut
import Derived.Stop.Joined
set_option linter.unusedVariables false
set_option maxRecDepth 100000
namespace Go.Proofs.YtnpcgejfkonfdaaGreatDoor
open Go Go.PM Go.ChangeShapes Go.WideShapes Go.ChangeAt Go.RowKit
theorem own_UnitTakes : ownKnob Tryz.prog.godebug = none := by kernel_rfl
theorem lay_UnitTakes : laidOutB Tryz.prog = true := by kernel_rfl
theorem ok_UnitTakes : doorOk Tryz.prog 0 1 = true := by kernel_rfl
theorem acc_UnitTakes : (Rows.laid_unicode_utf8_acceptRanges : DataW Unit) = Go.Lib.acceptData := by kernel_rfl
theorem lifted_UnitTakes (os : Os) (started : os.Started) (H : Type) (enc : TypeId × Value → H) :
    ReturnsInHanded {} Tryz.checked os 4 .any (fun w args => (Rows.unitTakesSpec.pre enc Tryz.prog Tryz.f4 Rows.unitTakesRow.domain false w args ∧ laidMetH Tryz.prog Rows.unitTakesRow.laid w) ∧ sizedMet enc Tryz.prog Tryz.f4 (OpenSpec.ofChange Rows.unitTakesSpec) false w args)
      (Rows.unitTakesSpec.post enc Tryz.prog Tryz.f4 false true false false) := by
  refine returnsInHanded_of_change_and (C := Tryz.checked) (X := fun w _ => laidMetH Tryz.prog Rows.unitTakesRow.laid w) (fun _ _ _ hh h => h.of_heap hh) own_UnitTakes started (by kernel_rfl) Tryz.func4
    (ChangeSpec.witness_shaped (enc := enc) (C := Tryz.checked) (os := os) (X := fun w _ => laidMetH Tryz.prog Rows.unitTakesRow.laid w) false (World.laidAll Tryz.prog os Rows.unitTakesRow.laid) #[.int .i64 0, .int .i64 0, .int .i64 0, .int .i64 0, .bool false] 8 (World.laidAll_os _ _ _)
      (World.shaped_of_ZipB (by kernel_rfl) (by kernel_rfl)) (by kernel_rfl) (by kernel_rfl) (by kernel_rfl)
      (by rw [MakeChecks.laidMetH_plain _ _ _ (by kernel_rfl)]; exact laidMet_laidAll _ (by kernel_rfl) (by kernel_rfl))) ?_
  intro W base args ds gs before hval0 hW _ hsz hL _
  exact law_with (D.kok _ _) lay_UnitTakes (n := 8) (ss := D.ss_UnitTakes) (by kernel_rfl) rfl (tb := 4) (by kernel_rfl) (by kernel_rfl) (fun ds hds => by
      match ds, hds with
      | [d0, d1, d2, d3, d4], _ => rfl)
    (D.pure_UnitTakes) (door_of_laid ok_UnitTakes acc_UnitTakes rfl hL) hval0 hW hsz
theorem holds_UnitTakes : Rows.UnitTakesSaid :=
  OpenClaim.holds_of_wide 4 Tryz.f4 rfl rfl rfl rfl rfl rfl rfl ⟨rfl, rfl, rfl, rfl, rfl⟩ rfl rfl rfl rfl rfl (by kernel_rfl) Tryz.func4 (by kernel_rfl)
    (of_decide_eq_true (by kernel_rfl)) (by unfold Func.isWrapper; first | (rw [if_pos (by decide +kernel)]; kernel_rfl) | (rw [if_neg (by decide +kernel)]; exact ⟨rfl, rfl⟩))
    (fun os started H enc _ => lifted_UnitTakes os started H enc)
theorem card_UnitTakes : Rows.UnitTakesCardSaid :=
  Claim7.holds_tied_plain_at .later [] [.data, .pinned] true (true, "4998a90d77b3641fa3fd166215436704e82a22d2c066471ad4579c3a94cc80d7") true holds_UnitTakes (fun _ h => by cases h) (by kernel_rfl) (fun _ h => by cases h) unitTakes_row_tie rfl ⟨rfl, rfl⟩ (by kernel_rfl) rfl
    (fun f fn hf hfn => by
      obtain rfl : f = 4 := Option.some.inj ((show Tryz.prog.funcNamed "pointsman/pointsmanlaw12.UnitTakes" = some 4 by kernel_rfl).symm.trans hf) |>.symm
      obtain rfl : fn = Tryz.f4 := (Option.some.inj (Tryz.func4.symm.trans hfn)).symm
      exact ⟨by kernel_rfl, fun j t ht => by
        have hm : t ∈ Tryz.f4.params.toList := by simpa using Array.mem_of_getElem? ht
        have hall : (Tryz.f4.params.toList.all fun u => !Tryz.prog.wantsStandIn u) = true := by kernel_rfl
        exact (show Tryz.prog.wantsStandIn t = false by simpa using List.all_eq_true.1 hall t hm)⟩)
    (by kernel_rfl)
#print axioms card_UnitTakes
end Go.Proofs.YtnpcgejfkonfdaaGreatDoor
