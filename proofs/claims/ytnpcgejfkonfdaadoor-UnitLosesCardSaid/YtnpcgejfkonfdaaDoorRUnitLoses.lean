/-
  UnitLoses: the row and its tied card: for every input of the statement the law returns true, and its arguments read as before. No condition of ours.
-/
import Derived.Test.YtnpcgejfkonfdaaDoorPUnitLoses
import Derived.Test.YtnpcgejfkonfdaaDoorCode
import Derived.Test.YtnpcgejfkonfdaaDoorDoor
import Derived.Test.YtnpcgejfkonfdaaDoorCards
import Derived.Test.YtnpcgejfkonfdaaDoorTie
import Derived.ProofKit
import Derived.LaidMore
import Derived.OpenShut
import Derived.Stop.Joined
set_option linter.unusedVariables false
set_option maxRecDepth 100000
namespace Go.Proofs.YtnpcgejfkonfdaaDoor
open Go Go.PM Go.ChangeShapes Go.WideShapes Go.ChangeAt Go.RowKit
theorem own_UnitLoses : ownKnob Tryd.prog.godebug = none := by kernel_rfl
theorem lay_UnitLoses : laidOutB Tryd.prog = true := by kernel_rfl
theorem ok_UnitLoses : doorOk Tryd.prog 0 1 = true := by kernel_rfl
theorem acc_UnitLoses : (Rows.laid_unicode_utf8_acceptRanges : DataW Unit) = Go.Lib.acceptData := by kernel_rfl
theorem lifted_UnitLoses (os : Os) (started : os.Started) (H : Type) (enc : TypeId × Value → H) :
    ReturnsInHanded {} Tryd.checked os 6 .any (fun w args => (Rows.unitLosesSpec.pre enc Tryd.prog Tryd.f6 Rows.unitLosesRow.domain false w args ∧ laidMetH Tryd.prog Rows.unitLosesRow.laid w) ∧ sizedMet enc Tryd.prog Tryd.f6 (OpenSpec.ofChange Rows.unitLosesSpec) false w args)
      (Rows.unitLosesSpec.post enc Tryd.prog Tryd.f6 false true false false) := by
  refine returnsInHanded_of_change_and (C := Tryd.checked) (X := fun w _ => laidMetH Tryd.prog Rows.unitLosesRow.laid w) (fun _ _ _ hh h => h.of_heap hh) own_UnitLoses started (by kernel_rfl) Tryd.func6
    (ChangeSpec.witness_shaped (enc := enc) (C := Tryd.checked) (os := os) (X := fun w _ => laidMetH Tryd.prog Rows.unitLosesRow.laid w) false (World.laidAll Tryd.prog os Rows.unitLosesRow.laid) #[.int .i64 0, .bool false] 8 (World.laidAll_os _ _ _)
      (World.shaped_of_ZipB (by kernel_rfl) (by kernel_rfl)) (by kernel_rfl) (by kernel_rfl) (by kernel_rfl)
      (by rw [MakeChecks.laidMetH_plain _ _ _ (by kernel_rfl)]; exact laidMet_laidAll _ (by kernel_rfl) (by kernel_rfl))) ?_
  intro W base args ds gs before hval0 hW _ hsz hL _
  exact law_with (D.kok _ _) lay_UnitLoses (n := 8) (ss := D.ss_UnitLoses) (by kernel_rfl) rfl (tb := 4) (by kernel_rfl) (by kernel_rfl) (fun ds hds => by
      match ds, hds with
      | [d0, d1], _ => rfl)
    (D.pure_UnitLoses) (door_of_laid ok_UnitLoses acc_UnitLoses rfl hL) hval0 hW hsz
theorem holds_UnitLoses : Rows.UnitLosesSaid :=
  OpenClaim.holds_of_wide 6 Tryd.f6 rfl rfl rfl rfl rfl rfl rfl ⟨rfl, rfl, rfl, rfl, rfl⟩ rfl rfl rfl rfl rfl (by kernel_rfl) Tryd.func6 (by kernel_rfl)
    (of_decide_eq_true (by kernel_rfl)) (by unfold Func.isWrapper; first | (rw [if_pos (by decide +kernel)]; kernel_rfl) | (rw [if_neg (by decide +kernel)]; exact ⟨rfl, rfl⟩))
    (fun os started H enc _ => lifted_UnitLoses os started H enc)
theorem card_UnitLoses : Rows.UnitLosesCardSaid :=
  Claim7.holds_tied_plain_at .later [] [.data, .pinned] true (true, "e7194139db5427c59200206466bff0756ba32bbc48bfaa37c082dbc95ed1449e") true holds_UnitLoses (fun _ h => by cases h) (by kernel_rfl) (fun _ h => by cases h) unitLoses_row_tie rfl ⟨rfl, rfl⟩ (by kernel_rfl) rfl
    (fun f fn hf hfn => by
      obtain rfl : f = 6 := Option.some.inj ((show Tryd.prog.funcNamed "pointsman/pointsmanlaw12.UnitLoses" = some 6 by kernel_rfl).symm.trans hf) |>.symm
      obtain rfl : fn = Tryd.f6 := (Option.some.inj (Tryd.func6.symm.trans hfn)).symm
      exact ⟨by kernel_rfl, fun j t ht => by
        have hm : t ∈ Tryd.f6.params.toList := by simpa using Array.mem_of_getElem? ht
        have hall : (Tryd.f6.params.toList.all fun u => !Tryd.prog.wantsStandIn u) = true := by kernel_rfl
        exact (show Tryd.prog.wantsStandIn t = false by simpa using List.all_eq_true.1 hall t hm)⟩)
    (by kernel_rfl)
#print axioms card_UnitLoses
end Go.Proofs.YtnpcgejfkonfdaaDoor
