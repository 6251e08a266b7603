/-
  PairForced over D: input by input.
-/
import Derived.Test.YtlknjgmhfimhbabGreatDoorFn
import Derived.Test.YtlknjgmhfimhbabGreatDoorDoor
import Derived.Test.YtlknjgmhfimhbabGreatDoorFast
import Derived.Test.YtlknjgmhfimhbabGreatDoorCPairForced
set_option linter.unusedVariables false
set_option linter.unusedSimpArgs false
set_option maxHeartbeats 4000000
set_option maxRecDepth 100000
namespace Go.Proofs.YtlknjgmhfimhbabGreatDoor.D
open Go Go.PM
theorem useK {args : List DV} (h : ansT (fnF DGx (tabK TB245) 0 D.f7 args .lf 0) = true) : ansT (dcallF (doorG 0 1) tab 30 7 args .lf 0 0) = true := by
  obtain ⟨H', n', e⟩ := ansT_spec h
  rw [fnF_eq] at e
  have e2 := fn_le (tab_le okk245) e
  rw [dcallF_eq] at e2
  rw [show dcallF (doorG 0 1) tab 30 = K (doorG 0 1) 30 from dcallF_eq _ _ _, D.k7]
  exact congrArg ansT e2
def ss_PairForced : List (Bool × List Kd) := [(false, [.i .i64])]
theorem in_0 : ansT (dcallF (doorG 0 1) tab 30 7 [.imm (.int .i64 0)] .lf 0 0) = true := useK (by kernel_rfl)
theorem in_1 : ansT (dcallF (doorG 0 1) tab 30 7 [.imm (.int .i64 1)] .lf 0 0) = true := useK (by kernel_rfl)
theorem in_2 : ansT (dcallF (doorG 0 1) tab 30 7 [.imm (.int .i64 2)] .lf 0 0) = true := useK (by kernel_rfl)
theorem in_3 : ansT (dcallF (doorG 0 1) tab 30 7 [.imm (.int .i64 3)] .lf 0 0) = true := useK (by kernel_rfl)
theorem in_4 : ansT (dcallF (doorG 0 1) tab 30 7 [.imm (.int .i64 4)] .lf 0 0) = true := useK (by kernel_rfl)
theorem in_5 : ansT (dcallF (doorG 0 1) tab 30 7 [.imm (.int .i64 5)] .lf 0 0) = true := useK (by kernel_rfl)
theorem in_6 : ansT (dcallF (doorG 0 1) tab 30 7 [.imm (.int .i64 6)] .lf 0 0) = true := useK (by kernel_rfl)
theorem in_7 : ansT (dcallF (doorG 0 1) tab 30 7 [.imm (.int .i64 7)] .lf 0 0) = true := useK (by kernel_rfl)
theorem in_8 : ansT (dcallF (doorG 0 1) tab 30 7 [.imm (.int .i64 8)] .lf 0 0) = true := useK (by kernel_rfl)
theorem in_9 : ansT (dcallF (doorG 0 1) tab 30 7 [.imm (.int .i64 9)] .lf 0 0) = true := useK (by kernel_rfl)
theorem out_PairForced (x0 : Int) (h : ¬ ((0 ≤ x0 ∧ x0 ≤ 9))) : ansT (K (doorG 0 1) 30 7 [.imm (.int .i64 x0)] .lf 0 0) = true := by
  rw [D.k7]
  by_cases c0 : x0 < 0
  · simp only [D.f7, fn_run, run_seq, run_cond, run_block, run_reg, run_reg0, run_drw, run_skip, run_ret, run_exit, then_norm, then_ret, then_exit, cd_true, cd_false, block_norm, block_ret, block_exit, reg_nil, reg_cons, ops_nil, ops_cons, opsThen_nil, opsThen_cons, calm_some, res_norm, res_ret, fnEnd, argsT, opRun, PT.get_put, dstep, ev, evs, evO, give, giveI, binOf, isNilK, isNil, PM.flip, putT, putL, putH, binInt, callM, loadOf, storeOf, cut, over, ofCells, asNat, natOr, calm, clashes, Acc.clash, ressOf, resOf, DV.out.outs, frz, frz.frzs, snap, snap.snaps, DV.pure, DV.pure.pures, DV.flat, DV.flat.flats, unOf, binStr, ansT, out_imm, out_ptr, out_sl, cells_imm, cells_ptr, cells_sl, cells_agg, scal_int, scal_bool, scal_str, scal_nils, scal_nilp, scal_lst, scal_ptr, scal_sl, Option.map, List.length_cons, List.length_nil, reduceIte, Nat.reduceEqDiff, Nat.reduceAdd]
    simp [c0, run_seq, run_cond, run_block, run_reg, run_reg0, run_drw, run_skip, run_ret, run_exit, then_norm, then_ret, then_exit, cd_true, cd_false, block_norm, block_ret, block_exit, reg_nil, reg_cons, ops_nil, ops_cons, opsThen_nil, opsThen_cons, calm_some, res_norm, res_ret, fnEnd, argsT, opRun, PT.get_put, dstep, ev, evs, evO, give, giveI, binOf, isNilK, isNil, PM.flip, putT, putL, putH, binInt, callM, loadOf, storeOf, cut, over, ofCells, asNat, natOr, calm, clashes, Acc.clash, ressOf, resOf, DV.out.outs, frz, frz.frzs, snap, snap.snaps, DV.pure, DV.pure.pures, DV.flat, DV.flat.flats, unOf, binStr, ansT, out_imm, out_ptr, out_sl, cells_imm, cells_ptr, cells_sl, cells_agg, scal_int, scal_bool, scal_str, scal_nils, scal_nilp, scal_lst, scal_ptr, scal_sl, Option.map, List.length_cons, List.length_nil, reduceIte, Nat.reduceEqDiff, Nat.reduceAdd]
  by_cases c1 : 10 ≤ x0
  · simp only [D.f7, fn_run, run_seq, run_cond, run_block, run_reg, run_reg0, run_drw, run_skip, run_ret, run_exit, then_norm, then_ret, then_exit, cd_true, cd_false, block_norm, block_ret, block_exit, reg_nil, reg_cons, ops_nil, ops_cons, opsThen_nil, opsThen_cons, calm_some, res_norm, res_ret, fnEnd, argsT, opRun, PT.get_put, dstep, ev, evs, evO, give, giveI, binOf, isNilK, isNil, PM.flip, putT, putL, putH, binInt, callM, loadOf, storeOf, cut, over, ofCells, asNat, natOr, calm, clashes, Acc.clash, ressOf, resOf, DV.out.outs, frz, frz.frzs, snap, snap.snaps, DV.pure, DV.pure.pures, DV.flat, DV.flat.flats, unOf, binStr, ansT, out_imm, out_ptr, out_sl, cells_imm, cells_ptr, cells_sl, cells_agg, scal_int, scal_bool, scal_str, scal_nils, scal_nilp, scal_lst, scal_ptr, scal_sl, Option.map, List.length_cons, List.length_nil, reduceIte, Nat.reduceEqDiff, Nat.reduceAdd]
    simp [c0, c1, run_seq, run_cond, run_block, run_reg, run_reg0, run_drw, run_skip, run_ret, run_exit, then_norm, then_ret, then_exit, cd_true, cd_false, block_norm, block_ret, block_exit, reg_nil, reg_cons, ops_nil, ops_cons, opsThen_nil, opsThen_cons, calm_some, res_norm, res_ret, fnEnd, argsT, opRun, PT.get_put, dstep, ev, evs, evO, give, giveI, binOf, isNilK, isNil, PM.flip, putT, putL, putH, binInt, callM, loadOf, storeOf, cut, over, ofCells, asNat, natOr, calm, clashes, Acc.clash, ressOf, resOf, DV.out.outs, frz, frz.frzs, snap, snap.snaps, DV.pure, DV.pure.pures, DV.flat, DV.flat.flats, unOf, binStr, ansT, out_imm, out_ptr, out_sl, cells_imm, cells_ptr, cells_sl, cells_agg, scal_int, scal_bool, scal_str, scal_nils, scal_nilp, scal_lst, scal_ptr, scal_sl, Option.map, List.length_cons, List.length_nil, reduceIte, Nat.reduceEqDiff, Nat.reduceAdd]
  exact absurd (by omega) h
theorem pure_PairForced : ∀ cs, ArgsFit ss_PairForced cs → ∃ H' n', K (doorG 0 1) 30 7 cs .lf 0 0 = some (.imm (.bool true), H', n') := fun cs h0 => by
  obtain ⟨d0, r0, rfl, g0, h1⟩ := fit_cons h0
  obtain ⟨x0, rfl, _⟩ := fit_i g0
  cases fit0 (r := []) h1
  apply ansT_spec
  by_cases h : (0 ≤ x0 ∧ x0 ≤ 9)
  · skip
    have e0 : x0 = 0 ∨ x0 = 1 ∨ x0 = 2 ∨ x0 = 3 ∨ x0 = 4 ∨ x0 = 5 ∨ x0 = 6 ∨ x0 = 7 ∨ x0 = 8 ∨ x0 = 9 := by omega
    rw [show K (doorG 0 1) 30 = dcallF (doorG 0 1) tab 30 from (dcallF_eq _ _ _).symm]
    rcases e0 with rfl | rfl | rfl | rfl | rfl | rfl | rfl | rfl | rfl | rfl
    · exact in_0
    · exact in_1
    · exact in_2
    · exact in_3
    · exact in_4
    · exact in_5
    · exact in_6
    · exact in_7
    · exact in_8
    · exact in_9
  · exact out_PairForced x0 h
end Go.Proofs.YtlknjgmhfimhbabGreatDoor.D
