/-
  LockCalls: the row and its tied card: for every input of the statement the law returns true, and its arguments read as before. No condition of ours.
-/
import Derived.Test.YtkgjgehffijepaaDoorPLockCalls
import Derived.Test.YtkgjgehffijepaaDoorCode
import Derived.Test.YtkgjgehffijepaaDoorDoor
import Derived.Test.YtkgjgehffijepaaDoorCards
import Derived.Test.YtkgjgehffijepaaDoorTie
import Derived.ProofKit
import Derived.LaidMore
import Derived.OpenShut
import Derived.Stop.Joined
set_option linter.unusedVariables false
set_option maxRecDepth 100000
namespace Go.Proofs.YtkgjgehffijepaaDoor
open Go Go.PM Go.ChangeShapes Go.WideShapes Go.ChangeAt Go.RowKit
theorem own_LockCalls : ownKnob Tryd.prog.godebug = none := by kernel_rfl
theorem lay_LockCalls : laidOutB Tryd.prog = true := by kernel_rfl
theorem ok_LockCalls : doorOk Tryd.prog 0 1 = true := by kernel_rfl
theorem acc_LockCalls : (Rows.laid_unicode_utf8_acceptRanges : DataW Unit) = Go.Lib.acceptData := by kernel_rfl
theorem lifted_LockCalls (os : Os) (started : os.Started) (H : Type) (enc : TypeId × Value → H) :
    ReturnsInHanded {} Tryd.checked os 8 .any (fun w args => (Rows.lockCallsSpec.pre enc Tryd.prog Tryd.f8 Rows.lockCallsRow.domain false w args ∧ laidMetH Tryd.prog Rows.lockCallsRow.laid w) ∧ sizedMet enc Tryd.prog Tryd.f8 (OpenSpec.ofChange Rows.lockCallsSpec) false w args)
      (Rows.lockCallsSpec.post enc Tryd.prog Tryd.f8 false true false false) := by
  refine returnsInHanded_of_change_and (C := Tryd.checked) (X := fun w _ => laidMetH Tryd.prog Rows.lockCallsRow.laid w) (fun _ _ _ hh h => h.of_heap hh) own_LockCalls started (by kernel_rfl) Tryd.func8
    (ChangeSpec.witness_shaped (enc := enc) (C := Tryd.checked) (os := os) (X := fun w _ => laidMetH Tryd.prog Rows.lockCallsRow.laid w) false (World.laidAll Tryd.prog os Rows.lockCallsRow.laid) #[.int .i64 0, .int .i64 0] 8 (World.laidAll_os _ _ _)
      (World.shaped_of_ZipB (by kernel_rfl) (by kernel_rfl)) (by kernel_rfl) (by kernel_rfl) (by kernel_rfl)
      (by rw [MakeChecks.laidMetH_plain _ _ _ (by kernel_rfl)]; exact laidMet_laidAll _ (by kernel_rfl) (by kernel_rfl))) ?_
  intro W base args ds gs before hval0 hW _ _ hL _
  exact law_with (D.kok _ _) lay_LockCalls (n := 8) (ss := D.ss_LockCalls) (by kernel_rfl) rfl (tb := 4) (by kernel_rfl) (by kernel_rfl) (fun ds hds => by
      match ds, hds with
      | [d0, d1], _ => rfl)
    (D.pure_LockCalls) (door_of_laid ok_LockCalls acc_LockCalls rfl hL) hval0 hW
theorem holds_LockCalls : Rows.LockCallsSaid :=
  OpenClaim.holds_of_wide 8 Tryd.f8 rfl rfl rfl rfl rfl rfl rfl ⟨rfl, rfl, rfl, rfl, rfl⟩ rfl rfl rfl rfl rfl (by kernel_rfl) Tryd.func8 (by kernel_rfl)
    (of_decide_eq_true (by kernel_rfl)) (by unfold Func.isWrapper; first | (rw [if_pos (by decide +kernel)]; kernel_rfl) | (rw [if_neg (by decide +kernel)]; exact ⟨rfl, rfl⟩))
    (fun os started H enc _ => lifted_LockCalls os started H enc)
theorem card_LockCalls : Rows.LockCallsCardSaid :=
  Claim7.holds_tied_plain_at .later [] [.data, .pinned] true (true, "2fc2d9fd394e87f4821b1a69979de96ba47bbb823d601531f890e75d705f2964") false holds_LockCalls (fun _ h => by cases h) (by kernel_rfl) (fun _ h => by cases h) lockCalls_row_tie rfl ⟨rfl, rfl⟩ (by kernel_rfl) rfl
    (fun f fn hf hfn => by
      obtain rfl : f = 8 := Option.some.inj ((show Tryd.prog.funcNamed "pointsman/pointsmanlaw5.LockCalls" = some 8 by kernel_rfl).symm.trans hf) |>.symm
      obtain rfl : fn = Tryd.f8 := (Option.some.inj (Tryd.func8.symm.trans hfn)).symm
      exact ⟨by kernel_rfl, fun j t ht => by
        have hm : t ∈ Tryd.f8.params.toList := by simpa using Array.mem_of_getElem? ht
        have hall : (Tryd.f8.params.toList.all fun u => !Tryd.prog.wantsStandIn u) = true := by kernel_rfl
        exact (show Tryd.prog.wantsStandIn t = false by simpa using List.all_eq_true.1 hall t hm)⟩)
    (by kernel_rfl)
#print axioms card_LockCalls
end Go.Proofs.YtkgjgehffijepaaDoor
