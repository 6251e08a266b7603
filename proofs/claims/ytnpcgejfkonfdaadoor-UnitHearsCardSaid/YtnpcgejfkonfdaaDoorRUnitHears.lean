/-
  UnitHears: the row and its tied card: for every input of the statement the law returns true, and its arguments read as before. No condition of ours.
-/
import Derived.Test.YtnpcgejfkonfdaaDoorX1
import Derived.Test.YtnpcgejfkonfdaaDoorCode
import Derived.Test.YtnpcgejfkonfdaaDoorDoor
import Derived.Test.YtnpcgejfkonfdaaDoorCards
import Derived.Test.YtnpcgejfkonfdaaDoorTie
import Derived.ProofKit
import Derived.LaidMore
import Derived.OpenShut
import Derived.Stop.Joined
set_option linter.unusedVariables false
set_option maxRecDepth 100000
namespace Go.Proofs.YtnpcgejfkonfdaaDoor
open Go Go.PM Go.ChangeShapes Go.WideShapes Go.ChangeAt Go.RowKit
theorem own_UnitHears : ownKnob Tryd.prog.godebug = none := by kernel_rfl
theorem lay_UnitHears : laidOutB Tryd.prog = true := by kernel_rfl
theorem ok_UnitHears : doorOk Tryd.prog 0 1 = true := by kernel_rfl
theorem acc_UnitHears : (Rows.laid_unicode_utf8_acceptRanges : DataW Unit) = Go.Lib.acceptData := by kernel_rfl
theorem lifted_UnitHears (os : Os) (started : os.Started) (H : Type) (enc : TypeId × Value → H) :
    ReturnsInHanded {} Tryd.checked os 4 .any (fun w args => (Rows.unitHearsSpec.pre enc Tryd.prog Tryd.f4 Rows.unitHearsRow.domain false w args ∧ laidMetH Tryd.prog Rows.unitHearsRow.laid w) ∧ sizedMet enc Tryd.prog Tryd.f4 (OpenSpec.ofChange Rows.unitHearsSpec) false w args)
      (Rows.unitHearsSpec.post enc Tryd.prog Tryd.f4 false true false false) := by
  refine returnsInHanded_of_change_and (C := Tryd.checked) (X := fun w _ => laidMetH Tryd.prog Rows.unitHearsRow.laid w) (fun _ _ _ hh h => h.of_heap hh) own_UnitHears started (by kernel_rfl) Tryd.func4
    (ChangeSpec.witness_shaped (enc := enc) (C := Tryd.checked) (os := os) (X := fun w _ => laidMetH Tryd.prog Rows.unitHearsRow.laid w) false (World.laidAll Tryd.prog os Rows.unitHearsRow.laid) #[.slice none 0 0, .slice none 0 0] 8 (World.laidAll_os _ _ _)
      (World.shaped_of_ZipB (by kernel_rfl) (by kernel_rfl)) (by kernel_rfl) (by kernel_rfl) (by kernel_rfl)
      (by rw [MakeChecks.laidMetH_plain _ _ _ (by kernel_rfl)]; exact laidMet_laidAll _ (by kernel_rfl) (by kernel_rfl))) ?_
  intro W base args ds gs before hval0 hW _ hsz hL _
  exact law_with (D.kok _ _) lay_UnitHears (n := 8) (ss := D.ss_UnitHears) (by kernel_rfl) rfl (tb := 4) (by kernel_rfl) (by kernel_rfl) (fun ds hds => by
      match ds, hds with
      | [d0, d1], _ => rfl)
    (D.pure_UnitHears) (door_of_laid ok_UnitHears acc_UnitHears rfl hL) hval0 hW hsz
theorem holds_UnitHears : Rows.UnitHearsSaid :=
  OpenClaim.holds_of_wide 4 Tryd.f4 rfl rfl rfl rfl rfl rfl rfl ⟨rfl, rfl, rfl, rfl, rfl⟩ rfl rfl rfl rfl rfl (by kernel_rfl) Tryd.func4 (by kernel_rfl)
    (of_decide_eq_true (by kernel_rfl)) (by unfold Func.isWrapper; first | (rw [if_pos (by decide +kernel)]; kernel_rfl) | (rw [if_neg (by decide +kernel)]; exact ⟨rfl, rfl⟩))
    (fun os started H enc _ => lifted_UnitHears os started H enc)
theorem card_UnitHears : Rows.UnitHearsCardSaid :=
  Claim7.holds_tied_plain_at .later [] [.data, .pinned] true (true, "e7194139db5427c59200206466bff0756ba32bbc48bfaa37c082dbc95ed1449e") true holds_UnitHears (fun _ h => by cases h) (by kernel_rfl) (fun _ h => by cases h) unitHears_row_tie rfl ⟨rfl, rfl⟩ (by kernel_rfl) rfl
    (fun f fn hf hfn => by
      obtain rfl : f = 4 := Option.some.inj ((show Tryd.prog.funcNamed "pointsman/pointsmanlaw12.UnitHears" = some 4 by kernel_rfl).symm.trans hf) |>.symm
      obtain rfl : fn = Tryd.f4 := (Option.some.inj (Tryd.func4.symm.trans hfn)).symm
      exact ⟨by kernel_rfl, fun j t ht => by
        have hm : t ∈ Tryd.f4.params.toList := by simpa using Array.mem_of_getElem? ht
        have hall : (Tryd.f4.params.toList.all fun u => !Tryd.prog.wantsStandIn u) = true := by kernel_rfl
        exact (show Tryd.prog.wantsStandIn t = false by simpa using List.all_eq_true.1 hall t hm)⟩)
    (by kernel_rfl)
#print axioms card_UnitHears
end Go.Proofs.YtnpcgejfkonfdaaDoor
