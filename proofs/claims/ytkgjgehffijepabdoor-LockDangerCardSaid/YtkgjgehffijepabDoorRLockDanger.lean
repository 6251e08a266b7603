/-
  LockDanger: the row and its tied card: for every input of the statement the law returns true, and its arguments read as before. No condition of ours.
-/
import Derived.Test.YtkgjgehffijepabDoorPLockDanger
import Derived.Test.YtkgjgehffijepabDoorCode
import Derived.Test.YtkgjgehffijepabDoorDoor
import Derived.Test.YtkgjgehffijepabDoorCards
import Derived.Test.YtkgjgehffijepabDoorTie
import Derived.ProofKit
import Derived.LaidMore
import Derived.OpenShut
import Derived.Stop.Joined
set_option linter.unusedVariables false
set_option maxRecDepth 100000
namespace Go.Proofs.YtkgjgehffijepabDoor
open Go Go.PM Go.ChangeShapes Go.WideShapes Go.ChangeAt Go.RowKit
theorem own_LockDanger : ownKnob Tryd.prog.godebug = none := by kernel_rfl
theorem lay_LockDanger : laidOutB Tryd.prog = true := by kernel_rfl
theorem ok_LockDanger : doorOk Tryd.prog 0 1 = true := by kernel_rfl
theorem acc_LockDanger : (Rows.laid_unicode_utf8_acceptRanges : DataW Unit) = Go.Lib.acceptData := by kernel_rfl
theorem lifted_LockDanger (os : Os) (started : os.Started) (H : Type) (enc : TypeId × Value → H) :
    ReturnsInHanded {} Tryd.checked os 3 .any (fun w args => (Rows.lockDangerSpec.pre enc Tryd.prog Tryd.f3 Rows.lockDangerRow.domain false w args ∧ laidMetH Tryd.prog Rows.lockDangerRow.laid w) ∧ sizedMet enc Tryd.prog Tryd.f3 (OpenSpec.ofChange Rows.lockDangerSpec) false w args)
      (Rows.lockDangerSpec.post enc Tryd.prog Tryd.f3 false true false false) := by
  refine returnsInHanded_of_change_and (C := Tryd.checked) (X := fun w _ => laidMetH Tryd.prog Rows.lockDangerRow.laid w) (fun _ _ _ hh h => h.of_heap hh) own_LockDanger started (by kernel_rfl) Tryd.func3
    (ChangeSpec.witness_shaped (enc := enc) (C := Tryd.checked) (os := os) (X := fun w _ => laidMetH Tryd.prog Rows.lockDangerRow.laid w) false (World.laidAll Tryd.prog os Rows.lockDangerRow.laid) #[.slice none 0 0] 8 (World.laidAll_os _ _ _)
      (World.shaped_of_ZipB (by kernel_rfl) (by kernel_rfl)) (by kernel_rfl) (by kernel_rfl) (by kernel_rfl)
      (by rw [MakeChecks.laidMetH_plain _ _ _ (by kernel_rfl)]; exact laidMet_laidAll _ (by kernel_rfl) (by kernel_rfl))) ?_
  intro W base args ds gs before hval0 hW _ hsz hL _
  exact law_with (D.kok _ _) lay_LockDanger (n := 8) (ss := D.ss_LockDanger) (by kernel_rfl) rfl (tb := 4) (by kernel_rfl) (by kernel_rfl) (fun ds hds => by
      match ds, hds with
      | [d0], _ => rfl)
    (D.pure_LockDanger) (door_of_laid ok_LockDanger acc_LockDanger rfl hL) hval0 hW hsz
theorem holds_LockDanger : Rows.LockDangerSaid :=
  OpenClaim.holds_of_wide 3 Tryd.f3 rfl rfl rfl rfl rfl rfl rfl ⟨rfl, rfl, rfl, rfl, rfl⟩ rfl rfl rfl rfl rfl (by kernel_rfl) Tryd.func3 (by kernel_rfl)
    (of_decide_eq_true (by kernel_rfl)) (by unfold Func.isWrapper; first | (rw [if_pos (by decide +kernel)]; kernel_rfl) | (rw [if_neg (by decide +kernel)]; exact ⟨rfl, rfl⟩))
    (fun os started H enc _ => lifted_LockDanger os started H enc)
theorem card_LockDanger : Rows.LockDangerCardSaid :=
  Claim7.holds_tied_plain_at .later [] [.data, .pinned] true (true, "5072aa4f7af264b1a011ba4566cc1794c2cf4d9d3278d1683d336e54c7f7587b") false holds_LockDanger (fun _ h => by cases h) (by kernel_rfl) (fun _ h => by cases h) lockDanger_row_tie rfl ⟨rfl, rfl⟩ (by kernel_rfl) rfl
    (fun f fn hf hfn => by
      obtain rfl : f = 3 := Option.some.inj ((show Tryd.prog.funcNamed "pointsman/pointsmanlaw5.LockDanger" = some 3 by kernel_rfl).symm.trans hf) |>.symm
      obtain rfl : fn = Tryd.f3 := (Option.some.inj (Tryd.func3.symm.trans hfn)).symm
      exact ⟨by kernel_rfl, fun j t ht => by
        have hm : t ∈ Tryd.f3.params.toList := by simpa using Array.mem_of_getElem? ht
        have hall : (Tryd.f3.params.toList.all fun u => !Tryd.prog.wantsStandIn u) = true := by kernel_rfl
        exact (show Tryd.prog.wantsStandIn t = false by simpa using List.all_eq_true.1 hall t hm)⟩)
    (by kernel_rfl)
#print axioms card_LockDanger
end Go.Proofs.YtkgjgehffijepabDoor
