/-
  LockRuns: the row and its tied card: for every input of the statement the law returns true, and its arguments read as before. No condition of ours.
-/
import Derived.Test.YtkgjgehffijepaaDoorPLockRuns
import Derived.Test.YtkgjgehffijepaaDoorCode
import Derived.Test.YtkgjgehffijepaaDoorDoor
import Derived.Test.YtkgjgehffijepaaDoorCards
import Derived.Test.YtkgjgehffijepaaDoorTie
import Derived.ProofKit
import Derived.LaidMore
import Derived.OpenShut
import Derived.Stop.Joined
set_option linter.unusedVariables false
set_option maxRecDepth 100000
namespace Go.Proofs.YtkgjgehffijepaaDoor
open Go Go.PM Go.ChangeShapes Go.WideShapes Go.ChangeAt Go.RowKit
theorem own_LockRuns : ownKnob Tryd.prog.godebug = none := by kernel_rfl
theorem lay_LockRuns : laidOutB Tryd.prog = true := by kernel_rfl
theorem ok_LockRuns : doorOk Tryd.prog 0 1 = true := by kernel_rfl
theorem acc_LockRuns : (Rows.laid_unicode_utf8_acceptRanges : DataW Unit) = Go.Lib.acceptData := by kernel_rfl
theorem lifted_LockRuns (os : Os) (started : os.Started) (H : Type) (enc : TypeId × Value → H) :
    ReturnsInHanded {} Tryd.checked os 5 .any (fun w args => (Rows.lockRunsSpec.pre enc Tryd.prog Tryd.f5 Rows.lockRunsRow.domain false w args ∧ laidMetH Tryd.prog Rows.lockRunsRow.laid w) ∧ sizedMet enc Tryd.prog Tryd.f5 (OpenSpec.ofChange Rows.lockRunsSpec) false w args)
      (Rows.lockRunsSpec.post enc Tryd.prog Tryd.f5 false true false false) := by
  refine returnsInHanded_of_change_and (C := Tryd.checked) (X := fun w _ => laidMetH Tryd.prog Rows.lockRunsRow.laid w) (fun _ _ _ hh h => h.of_heap hh) own_LockRuns started (by kernel_rfl) Tryd.func5
    (ChangeSpec.witness_shaped (enc := enc) (C := Tryd.checked) (os := os) (X := fun w _ => laidMetH Tryd.prog Rows.lockRunsRow.laid w) false (World.laidAll Tryd.prog os Rows.lockRunsRow.laid) #[.int .i64 0] 8 (World.laidAll_os _ _ _)
      (World.shaped_of_ZipB (by kernel_rfl) (by kernel_rfl)) (by kernel_rfl) (by kernel_rfl) (by kernel_rfl)
      (by rw [MakeChecks.laidMetH_plain _ _ _ (by kernel_rfl)]; exact laidMet_laidAll _ (by kernel_rfl) (by kernel_rfl))) ?_
  intro W base args ds gs before hval0 hW _ _ hL _
  exact law_with (D.kok _ _) lay_LockRuns (n := 8) (ss := D.ss_LockRuns) (by kernel_rfl) rfl (tb := 4) (by kernel_rfl) (by kernel_rfl) (fun ds hds => by
      match ds, hds with
      | [d0], _ => rfl)
    (D.pure_LockRuns) (door_of_laid ok_LockRuns acc_LockRuns rfl hL) hval0 hW
theorem holds_LockRuns : Rows.LockRunsSaid :=
  OpenClaim.holds_of_wide 5 Tryd.f5 rfl rfl rfl rfl rfl rfl rfl ⟨rfl, rfl, rfl, rfl, rfl⟩ rfl rfl rfl rfl rfl (by kernel_rfl) Tryd.func5 (by kernel_rfl)
    (of_decide_eq_true (by kernel_rfl)) (by unfold Func.isWrapper; first | (rw [if_pos (by decide +kernel)]; kernel_rfl) | (rw [if_neg (by decide +kernel)]; exact ⟨rfl, rfl⟩))
    (fun os started H enc _ => lifted_LockRuns os started H enc)
theorem card_LockRuns : Rows.LockRunsCardSaid :=
  Claim7.holds_tied_plain_at .later [] [.data, .pinned] true (true, "2fc2d9fd394e87f4821b1a69979de96ba47bbb823d601531f890e75d705f2964") false holds_LockRuns (fun _ h => by cases h) (by kernel_rfl) (fun _ h => by cases h) lockRuns_row_tie rfl ⟨rfl, rfl⟩ (by kernel_rfl) rfl
    (fun f fn hf hfn => by
      obtain rfl : f = 5 := Option.some.inj ((show Tryd.prog.funcNamed "pointsman/pointsmanlaw5.LockRuns" = some 5 by kernel_rfl).symm.trans hf) |>.symm
      obtain rfl : fn = Tryd.f5 := (Option.some.inj (Tryd.func5.symm.trans hfn)).symm
      exact ⟨by kernel_rfl, fun j t ht => by
        have hm : t ∈ Tryd.f5.params.toList := by simpa using Array.mem_of_getElem? ht
        have hall : (Tryd.f5.params.toList.all fun u => !Tryd.prog.wantsStandIn u) = true := by kernel_rfl
        exact (show Tryd.prog.wantsStandIn t = false by simpa using List.all_eq_true.1 hall t hm)⟩)
    (by kernel_rfl)
#print axioms card_LockRuns
end Go.Proofs.YtkgjgehffijepaaDoor
