/-
  PairForced: the row and its tied card: for every input of the statement the law returns true, and its arguments read as before. No condition of ours.
-/
import Derived.Test.YtlknjgmhfimhbabGreatDoorPPairForced
import Derived.Test.YtlknjgmhfimhbabGreatDoorCode
import Derived.Test.YtlknjgmhfimhbabGreatDoorDoor
import Derived.Test.YtlknjgmhfimhbabGreatDoorCards
import Derived.Test.YtlknjgmhfimhbabGreatDoorTie
import Derived.ProofKit
import Derived.LaidMore
import Derived.OpenShut
import Derived.Stop.Joined
set_option linter.unusedVariables false
set_option maxRecDepth 100000
namespace Go.Proofs.YtlknjgmhfimhbabGreatDoor
open Go Go.PM Go.ChangeShapes Go.WideShapes Go.ChangeAt Go.RowKit
theorem own_PairForced : ownKnob Tryz.prog.godebug = none := by kernel_rfl
theorem lay_PairForced : laidOutB Tryz.prog = true := by kernel_rfl
theorem ok_PairForced : doorOk Tryz.prog 0 1 = true := by kernel_rfl
theorem acc_PairForced : (Rows.laid_unicode_utf8_acceptRanges : DataW Unit) = Go.Lib.acceptData := by kernel_rfl
theorem lifted_PairForced (os : Os) (started : os.Started) (H : Type) (enc : TypeId × Value → H) :
    ReturnsInHanded {} Tryz.checked os 7 .any (fun w args => (Rows.pairForcedSpec.pre enc Tryz.prog Tryz.f7 Rows.pairForcedRow.domain false w args ∧ laidMetH Tryz.prog Rows.pairForcedRow.laid w) ∧ sizedMet enc Tryz.prog Tryz.f7 (OpenSpec.ofChange Rows.pairForcedSpec) false w args)
      (Rows.pairForcedSpec.post enc Tryz.prog Tryz.f7 false true false false) := by
  refine returnsInHanded_of_change_and (C := Tryz.checked) (X := fun w _ => laidMetH Tryz.prog Rows.pairForcedRow.laid w) (fun _ _ _ hh h => h.of_heap hh) own_PairForced started (by kernel_rfl) Tryz.func7
    (ChangeSpec.witness_shaped (enc := enc) (C := Tryz.checked) (os := os) (X := fun w _ => laidMetH Tryz.prog Rows.pairForcedRow.laid w) false (World.laidAll Tryz.prog os Rows.pairForcedRow.laid) #[.int .i64 0] 8 (World.laidAll_os _ _ _)
      (World.shaped_of_ZipB (by kernel_rfl) (by kernel_rfl)) (by kernel_rfl) (by kernel_rfl) (by kernel_rfl)
      (by rw [MakeChecks.laidMetH_plain _ _ _ (by kernel_rfl)]; exact laidMet_laidAll _ (by kernel_rfl) (by kernel_rfl))) ?_
  intro W base args ds gs before hval0 hW _ hsz hL _
  exact law_with (D.kok _ _) lay_PairForced (n := 8) (ss := D.ss_PairForced) (by kernel_rfl) rfl (tb := 4) (by kernel_rfl) (by kernel_rfl) (fun ds hds => by
      match ds, hds with
      | [d0], _ => rfl)
    (D.pure_PairForced) (door_of_laid ok_PairForced acc_PairForced rfl hL) hval0 hW hsz
theorem holds_PairForced : Rows.PairForcedSaid :=
  OpenClaim.holds_of_wide 7 Tryz.f7 rfl rfl rfl rfl rfl rfl rfl ⟨rfl, rfl, rfl, rfl, rfl⟩ rfl rfl rfl rfl rfl (by kernel_rfl) Tryz.func7 (by kernel_rfl)
    (of_decide_eq_true (by kernel_rfl)) (by unfold Func.isWrapper; first | (rw [if_pos (by decide +kernel)]; kernel_rfl) | (rw [if_neg (by decide +kernel)]; exact ⟨rfl, rfl⟩))
    (fun os started H enc _ => lifted_PairForced os started H enc)
theorem card_PairForced : Rows.PairForcedCardSaid :=
  Claim7.holds_tied_plain_at .later [] [.data, .pinned] true (true, "d7ebf49903bcd012a50a5831aea4ef13f2a20311fb658b846b5ed53e6df47494") true holds_PairForced (fun _ h => by cases h) (by kernel_rfl) (fun _ h => by cases h) pairForced_row_tie rfl ⟨rfl, rfl⟩ (by kernel_rfl) rfl
    (fun f fn hf hfn => by
      obtain rfl : f = 7 := Option.some.inj ((show Tryz.prog.funcNamed "pointsman/pointsmanlaw14.PairForced" = some 7 by kernel_rfl).symm.trans hf) |>.symm
      obtain rfl : fn = Tryz.f7 := (Option.some.inj (Tryz.func7.symm.trans hfn)).symm
      exact ⟨by kernel_rfl, fun j t ht => by
        have hm : t ∈ Tryz.f7.params.toList := by simpa using Array.mem_of_getElem? ht
        have hall : (Tryz.f7.params.toList.all fun u => !Tryz.prog.wantsStandIn u) = true := by kernel_rfl
        exact (show Tryz.prog.wantsStandIn t = false by simpa using List.all_eq_true.1 hall t hm)⟩)
    (by kernel_rfl)
#print axioms card_PairForced
end Go.Proofs.YtlknjgmhfimhbabGreatDoor
