/-
  TopHeld: the row and its tied card: for every input of the statement the law returns true, and its arguments read as before. No condition of ours.
-/
import Derived.Test.YtlknjgmhfimhbaaGreatDoorX4
import Derived.Test.YtlknjgmhfimhbaaGreatDoorCode
import Derived.Test.YtlknjgmhfimhbaaGreatDoorDoor
import Derived.Test.YtlknjgmhfimhbaaGreatDoorCards
import Derived.Test.YtlknjgmhfimhbaaGreatDoorTie
import Derived.ProofKit
import Derived.LaidMore
import Derived.OpenShut
import Derived.Stop.Joined
set_option maxRecDepth 100000
namespace Go.Proofs.YtlknjgmhfimhbaaGreatDoor
open Go Go.PM Go.ChangeShapes Go.WideShapes Go.ChangeAt Go.RowKit
theorem oH:ownKnob Tryz.prog.godebug=none:=by kernel_rfl
theorem lH:laidOutB Tryz.prog=true:=by kernel_rfl
theorem kH:zFk Tryz.prog 0 1=true:=by kernel_rfl
theorem aH:(Rows.laid_unicode_utf8_acceptRanges:DataW Unit)=Go.Lib.acceptData:=by kernel_rfl
theorem iH (os:Os) (started:os.Started) (H:Type) (enc:TypeId×Value→H) :
  ReturnsInHanded {} Tryz.checked os 3 .any (fun w args=>(Rows.topHeldSpec.pre enc Tryz.prog Tryz.f3 Rows.topHeldRow.domain false w args∧laidMetH Tryz.prog Rows.topHeldRow.laid w)∧sizedMet enc Tryz.prog Tryz.f3 (OpenSpec.ofChange Rows.topHeldSpec) false w args)
   (Rows.topHeldSpec.post enc Tryz.prog Tryz.f3 false true false false):=by
 refine returnsInHanded_of_change_and (C:=Tryz.checked) (X:=fun w _=>laidMetH Tryz.prog Rows.topHeldRow.laid w) (fun _ _ _ hh h=>h.of_heap hh) oH started (by kernel_rfl) Tryz.func3
  (ChangeSpec.witness_shaped (enc:=enc) (C:=Tryz.checked) (os:=os) (X:=fun w _=>laidMetH Tryz.prog Rows.topHeldRow.laid w) false (World.laidAll Tryz.prog os Rows.topHeldRow.laid) #[.agg #[.slice none 0 0,.slice none 0 0,.slice none 0 0,.slice none 0 0],.slice none 0 0] 8 (World.laidAll_os _ _ _)
   (World.shaped_of_ZipB (by kernel_rfl) (by kernel_rfl)) (by kernel_rfl) (by kernel_rfl) (by kernel_rfl)
   (by rw[MakeChecks.laidMetH_plain _ _ _ (by kernel_rfl)]; exact laidMet_laidAll _ (by kernel_rfl) (by kernel_rfl))) ?_
 intro W base args ds gs before hval0 hW _ hsz hL _
 exact zJ3 (D.kok _ _) lH (n:=8) (ss:=D.ss_TopHeld) (by kernel_rfl) rfl (tb:=4) (by kernel_rfl) (by kernel_rfl) (fun ds hds=>by
   match ds,hds with
   | [d0,d1],_=>rfl)
  (D.pure_TopHeld) (zFo kH aH rfl hL) hval0 hW hsz
theorem holds_TopHeld:Rows.TopHeldSaid:=
 OpenClaim.holds_of_wide 3 Tryz.f3 rfl rfl rfl rfl rfl rfl rfl ⟨rfl,rfl,rfl,rfl,rfl⟩ rfl rfl rfl rfl rfl (by kernel_rfl) Tryz.func3 (by kernel_rfl)
  (of_decide_eq_true (by kernel_rfl)) (by unfold Func.isWrapper; first | (rw[if_pos (by decide +kernel)]; kernel_rfl) | (rw[if_neg (by decide +kernel)]; exact⟨rfl,rfl⟩))
  (fun os started H enc _=>iH os started H enc)
theorem card_TopHeld:Rows.TopHeldCardSaid:=
 Claim7.holds_tied_plain_at .later [] [.data,.pinned] true (true,"df7f7c2cccf0701ec40d57c2e7e1f517b375210676294b9efa70078a4214b341") true holds_TopHeld (fun _ h=>by cases h) (by kernel_rfl) (fun _ h=>by cases h) topHeld_row_tie rfl ⟨rfl,rfl⟩ (by kernel_rfl) rfl
  (fun f fn hf hfn=>by
   obtain rfl : f=3 := Option.some.inj ((show Tryz.prog.funcNamed "pointsman/pointsmantop.TopHeld"=some 3 by kernel_rfl).symm.trans hf) |>.symm
   obtain rfl:fn=Tryz.f3:=(Option.some.inj (Tryz.func3.symm.trans hfn)).symm
   exact⟨by kernel_rfl,fun j t ht=>by
    have hm:t∈Tryz.f3.params.toList:=by simpa using Array.mem_of_getElem? ht
    have hall:(Tryz.f3.params.toList.all fun u=>!Tryz.prog.wantsStandIn u)=true:=by kernel_rfl
    exact (show Tryz.prog.wantsStandIn t=false by simpa using List.all_eq_true.1 hall t hm)⟩)
  (by kernel_rfl)
#print axioms card_TopHeld
end Go.Proofs.YtlknjgmhfimhbaaGreatDoor
