/-
  LockErrs: the row and its tied card: for every input of the statement the law returns true, and its arguments read as before. No condition of ours.
-/
import Derived.Test.YtkgjgehffijepaaDoorPLockErrs
import Derived.Test.YtkgjgehffijepaaDoorCode
import Derived.Test.YtkgjgehffijepaaDoorDoor
import Derived.Test.YtkgjgehffijepaaDoorCards
import Derived.Test.YtkgjgehffijepaaDoorTie
import Derived.ProofKit
import Derived.LaidMore
import Derived.OpenShut
import Derived.Stop.Joined
set_option linter.unusedVariables false
set_option maxRecDepth 100000
namespace Go.Proofs.YtkgjgehffijepaaDoor
open Go Go.PM Go.ChangeShapes Go.WideShapes Go.ChangeAt Go.RowKit
theorem own_LockErrs : ownKnob Tryd.prog.godebug = none := by kernel_rfl
theorem lay_LockErrs : laidOutB Tryd.prog = true := by kernel_rfl
theorem ok_LockErrs : doorOk Tryd.prog 0 1 = true := by kernel_rfl
theorem acc_LockErrs : (Rows.laid_unicode_utf8_acceptRanges : DataW Unit) = Go.Lib.acceptData := by kernel_rfl
theorem lifted_LockErrs (os : Os) (started : os.Started) (H : Type) (enc : TypeId × Value → H) :
    ReturnsInHanded {} Tryd.checked os 4 .any (fun w args => (Rows.lockErrsSpec.pre enc Tryd.prog Tryd.f4 Rows.lockErrsRow.domain false w args ∧ laidMetH Tryd.prog Rows.lockErrsRow.laid w) ∧ sizedMet enc Tryd.prog Tryd.f4 (OpenSpec.ofChange Rows.lockErrsSpec) false w args)
      (Rows.lockErrsSpec.post enc Tryd.prog Tryd.f4 false true false false) := by
  refine returnsInHanded_of_change_and (C := Tryd.checked) (X := fun w _ => laidMetH Tryd.prog Rows.lockErrsRow.laid w) (fun _ _ _ hh h => h.of_heap hh) own_LockErrs started (by kernel_rfl) Tryd.func4
    (ChangeSpec.witness_shaped (enc := enc) (C := Tryd.checked) (os := os) (X := fun w _ => laidMetH Tryd.prog Rows.lockErrsRow.laid w) false (World.laidAll Tryd.prog os Rows.lockErrsRow.laid) #[.agg #[.slice none 0 0, .slice none 0 0, .slice none 0 0, .slice none 0 0], .slice none 0 0, .agg #[.int .i64 0, .slice none 0 0, .slice none 0 0, .int .i64 0, .int .i64 0, .slice none 0 0]] 8 (World.laidAll_os _ _ _)
      (World.shaped_of_ZipB (by kernel_rfl) (by kernel_rfl)) (by kernel_rfl) (by kernel_rfl) (by kernel_rfl)
      (by rw [MakeChecks.laidMetH_plain _ _ _ (by kernel_rfl)]; exact laidMet_laidAll _ (by kernel_rfl) (by kernel_rfl))) ?_
  intro W base args ds gs before hval0 hW _ hsz hL _
  exact law_with (D.kok _ _) lay_LockErrs (n := 8) (ss := D.ss_LockErrs) (by kernel_rfl) rfl (tb := 4) (by kernel_rfl) (by kernel_rfl) (fun ds hds => by
      match ds, hds with
      | [d0, d1, d2], _ => rfl)
    (D.pure_LockErrs) (door_of_laid ok_LockErrs acc_LockErrs rfl hL) hval0 hW hsz
theorem holds_LockErrs : Rows.LockErrsSaid :=
  OpenClaim.holds_of_wide 4 Tryd.f4 rfl rfl rfl rfl rfl rfl rfl ⟨rfl, rfl, rfl, rfl, rfl⟩ rfl rfl rfl rfl rfl (by kernel_rfl) Tryd.func4 (by kernel_rfl)
    (of_decide_eq_true (by kernel_rfl)) (by unfold Func.isWrapper; first | (rw [if_pos (by decide +kernel)]; kernel_rfl) | (rw [if_neg (by decide +kernel)]; exact ⟨rfl, rfl⟩))
    (fun os started H enc _ => lifted_LockErrs os started H enc)
theorem card_LockErrs : Rows.LockErrsCardSaid :=
  Claim7.holds_tied_plain_at .later [] [.data, .pinned] true (true, "2fc2d9fd394e87f4821b1a69979de96ba47bbb823d601531f890e75d705f2964") false holds_LockErrs (fun _ h => by cases h) (by kernel_rfl) (fun _ h => by cases h) lockErrs_row_tie rfl ⟨rfl, rfl⟩ (by kernel_rfl) rfl
    (fun f fn hf hfn => by
      obtain rfl : f = 4 := Option.some.inj ((show Tryd.prog.funcNamed "pointsman/pointsmanlaw5.LockErrs" = some 4 by kernel_rfl).symm.trans hf) |>.symm
      obtain rfl : fn = Tryd.f4 := (Option.some.inj (Tryd.func4.symm.trans hfn)).symm
      exact ⟨by kernel_rfl, fun j t ht => by
        have hm : t ∈ Tryd.f4.params.toList := by simpa using Array.mem_of_getElem? ht
        have hall : (Tryd.f4.params.toList.all fun u => !Tryd.prog.wantsStandIn u) = true := by kernel_rfl
        exact (show Tryd.prog.wantsStandIn t = false by simpa using List.all_eq_true.1 hall t hm)⟩)
    (by kernel_rfl)
#print axioms card_LockErrs
end Go.Proofs.YtkgjgehffijepaaDoor
