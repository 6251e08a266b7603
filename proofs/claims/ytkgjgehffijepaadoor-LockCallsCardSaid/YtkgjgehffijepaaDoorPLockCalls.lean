/-
  LockCalls over D: input by input.
-/
import Derived.Test.YtkgjgehffijepaaDoorFn
import Derived.Test.YtkgjgehffijepaaDoorDoor
import Derived.Test.YtkgjgehffijepaaDoorFast
set_option linter.unusedVariables false
set_option linter.unusedSimpArgs false
set_option maxHeartbeats 4000000
set_option maxRecDepth 100000
namespace Go.Proofs.YtkgjgehffijepaaDoor.D
open Go Go.PM
def ss_LockCalls : List (Bool × List Kd) := [(false, [.i .i64]), (false, [.i .i64])]
theorem in_0_0 : ansT (dcallF (doorG 0 1) tab 30 8 [.imm (.int .i64 0), .imm (.int .i64 0)] .lf 0 0) = true := by kernel_rfl
theorem in_0_1 : ansT (dcallF (doorG 0 1) tab 30 8 [.imm (.int .i64 0), .imm (.int .i64 1)] .lf 0 0) = true := by kernel_rfl
theorem in_0_2 : ansT (dcallF (doorG 0 1) tab 30 8 [.imm (.int .i64 0), .imm (.int .i64 2)] .lf 0 0) = true := by kernel_rfl
theorem in_1_0 : ansT (dcallF (doorG 0 1) tab 30 8 [.imm (.int .i64 1), .imm (.int .i64 0)] .lf 0 0) = true := by kernel_rfl
theorem in_1_1 : ansT (dcallF (doorG 0 1) tab 30 8 [.imm (.int .i64 1), .imm (.int .i64 1)] .lf 0 0) = true := by kernel_rfl
theorem in_1_2 : ansT (dcallF (doorG 0 1) tab 30 8 [.imm (.int .i64 1), .imm (.int .i64 2)] .lf 0 0) = true := by kernel_rfl
theorem in_2_0 : ansT (dcallF (doorG 0 1) tab 30 8 [.imm (.int .i64 2), .imm (.int .i64 0)] .lf 0 0) = true := by kernel_rfl
theorem in_2_1 : ansT (dcallF (doorG 0 1) tab 30 8 [.imm (.int .i64 2), .imm (.int .i64 1)] .lf 0 0) = true := by kernel_rfl
theorem in_2_2 : ansT (dcallF (doorG 0 1) tab 30 8 [.imm (.int .i64 2), .imm (.int .i64 2)] .lf 0 0) = true := by kernel_rfl
theorem in_3_0 : ansT (dcallF (doorG 0 1) tab 30 8 [.imm (.int .i64 3), .imm (.int .i64 0)] .lf 0 0) = true := by kernel_rfl
theorem in_3_1 : ansT (dcallF (doorG 0 1) tab 30 8 [.imm (.int .i64 3), .imm (.int .i64 1)] .lf 0 0) = true := by kernel_rfl
theorem in_3_2 : ansT (dcallF (doorG 0 1) tab 30 8 [.imm (.int .i64 3), .imm (.int .i64 2)] .lf 0 0) = true := by kernel_rfl
theorem in_4_0 : ansT (dcallF (doorG 0 1) tab 30 8 [.imm (.int .i64 4), .imm (.int .i64 0)] .lf 0 0) = true := by kernel_rfl
theorem in_4_1 : ansT (dcallF (doorG 0 1) tab 30 8 [.imm (.int .i64 4), .imm (.int .i64 1)] .lf 0 0) = true := by kernel_rfl
theorem in_4_2 : ansT (dcallF (doorG 0 1) tab 30 8 [.imm (.int .i64 4), .imm (.int .i64 2)] .lf 0 0) = true := by kernel_rfl
theorem in_5_0 : ansT (dcallF (doorG 0 1) tab 30 8 [.imm (.int .i64 5), .imm (.int .i64 0)] .lf 0 0) = true := by kernel_rfl
theorem in_5_1 : ansT (dcallF (doorG 0 1) tab 30 8 [.imm (.int .i64 5), .imm (.int .i64 1)] .lf 0 0) = true := by kernel_rfl
theorem in_5_2 : ansT (dcallF (doorG 0 1) tab 30 8 [.imm (.int .i64 5), .imm (.int .i64 2)] .lf 0 0) = true := by kernel_rfl
theorem in_6_0 : ansT (dcallF (doorG 0 1) tab 30 8 [.imm (.int .i64 6), .imm (.int .i64 0)] .lf 0 0) = true := by kernel_rfl
theorem in_6_1 : ansT (dcallF (doorG 0 1) tab 30 8 [.imm (.int .i64 6), .imm (.int .i64 1)] .lf 0 0) = true := by kernel_rfl
theorem in_6_2 : ansT (dcallF (doorG 0 1) tab 30 8 [.imm (.int .i64 6), .imm (.int .i64 2)] .lf 0 0) = true := by kernel_rfl
theorem in_7_0 : ansT (dcallF (doorG 0 1) tab 30 8 [.imm (.int .i64 7), .imm (.int .i64 0)] .lf 0 0) = true := by kernel_rfl
theorem in_7_1 : ansT (dcallF (doorG 0 1) tab 30 8 [.imm (.int .i64 7), .imm (.int .i64 1)] .lf 0 0) = true := by kernel_rfl
theorem in_7_2 : ansT (dcallF (doorG 0 1) tab 30 8 [.imm (.int .i64 7), .imm (.int .i64 2)] .lf 0 0) = true := by kernel_rfl
theorem out_LockCalls (x0 : Int) (x1 : Int) (h : ¬ ((0 ≤ x0 ∧ x0 ≤ 7) ∧ (0 ≤ x1 ∧ x1 ≤ 2))) : ansT (K (doorG 0 1) 30 8 [.imm (.int .i64 x0), .imm (.int .i64 x1)] .lf 0 0) = true := by
  rw [k8]
  by_cases c0 : x0 < 0
  · simp only [f8, fn_run, run_seq, run_cond, run_block, run_reg, run_reg0, run_drw, run_skip, run_ret, run_exit, then_norm, then_ret, then_exit, cd_true, cd_false, block_norm, block_ret, block_exit, reg_nil, reg_cons, ops_nil, ops_cons, opsThen_nil, opsThen_cons, calm_some, res_norm, res_ret, fnEnd, argsT, opRun, PT.get_put, dstep, ev, evs, evO, give, giveI, binOf, isNilK, isNil, PM.flip, putT, putL, putH, binInt, callM, loadOf, storeOf, cut, over, ofCells, asNat, natOr, calm, clashes, Acc.clash, ressOf, resOf, DV.out.outs, frz, frz.frzs, snap, snap.snaps, DV.pure, DV.pure.pures, DV.flat, DV.flat.flats, unOf, binStr, ansT, out_imm, out_ptr, out_sl, cells_imm, cells_ptr, cells_sl, cells_agg, scal_int, scal_bool, scal_str, scal_nils, scal_nilp, scal_lst, scal_ptr, scal_sl, Option.map, List.length_cons, List.length_nil, reduceIte, Nat.reduceEqDiff, Nat.reduceAdd]
    simp [c0, run_seq, run_cond, run_block, run_reg, run_reg0, run_drw, run_skip, run_ret, run_exit, then_norm, then_ret, then_exit, cd_true, cd_false, block_norm, block_ret, block_exit, reg_nil, reg_cons, ops_nil, ops_cons, opsThen_nil, opsThen_cons, calm_some, res_norm, res_ret, fnEnd, argsT, opRun, PT.get_put, dstep, ev, evs, evO, give, giveI, binOf, isNilK, isNil, PM.flip, putT, putL, putH, binInt, callM, loadOf, storeOf, cut, over, ofCells, asNat, natOr, calm, clashes, Acc.clash, ressOf, resOf, DV.out.outs, frz, frz.frzs, snap, snap.snaps, DV.pure, DV.pure.pures, DV.flat, DV.flat.flats, unOf, binStr, ansT, out_imm, out_ptr, out_sl, cells_imm, cells_ptr, cells_sl, cells_agg, scal_int, scal_bool, scal_str, scal_nils, scal_nilp, scal_lst, scal_ptr, scal_sl, Option.map, List.length_cons, List.length_nil, reduceIte, Nat.reduceEqDiff, Nat.reduceAdd]
  by_cases c1 : 7 < x0
  · simp only [f8, fn_run, run_seq, run_cond, run_block, run_reg, run_reg0, run_drw, run_skip, run_ret, run_exit, then_norm, then_ret, then_exit, cd_true, cd_false, block_norm, block_ret, block_exit, reg_nil, reg_cons, ops_nil, ops_cons, opsThen_nil, opsThen_cons, calm_some, res_norm, res_ret, fnEnd, argsT, opRun, PT.get_put, dstep, ev, evs, evO, give, giveI, binOf, isNilK, isNil, PM.flip, putT, putL, putH, binInt, callM, loadOf, storeOf, cut, over, ofCells, asNat, natOr, calm, clashes, Acc.clash, ressOf, resOf, DV.out.outs, frz, frz.frzs, snap, snap.snaps, DV.pure, DV.pure.pures, DV.flat, DV.flat.flats, unOf, binStr, ansT, out_imm, out_ptr, out_sl, cells_imm, cells_ptr, cells_sl, cells_agg, scal_int, scal_bool, scal_str, scal_nils, scal_nilp, scal_lst, scal_ptr, scal_sl, Option.map, List.length_cons, List.length_nil, reduceIte, Nat.reduceEqDiff, Nat.reduceAdd]
    simp [c0, c1, run_seq, run_cond, run_block, run_reg, run_reg0, run_drw, run_skip, run_ret, run_exit, then_norm, then_ret, then_exit, cd_true, cd_false, block_norm, block_ret, block_exit, reg_nil, reg_cons, ops_nil, ops_cons, opsThen_nil, opsThen_cons, calm_some, res_norm, res_ret, fnEnd, argsT, opRun, PT.get_put, dstep, ev, evs, evO, give, giveI, binOf, isNilK, isNil, PM.flip, putT, putL, putH, binInt, callM, loadOf, storeOf, cut, over, ofCells, asNat, natOr, calm, clashes, Acc.clash, ressOf, resOf, DV.out.outs, frz, frz.frzs, snap, snap.snaps, DV.pure, DV.pure.pures, DV.flat, DV.flat.flats, unOf, binStr, ansT, out_imm, out_ptr, out_sl, cells_imm, cells_ptr, cells_sl, cells_agg, scal_int, scal_bool, scal_str, scal_nils, scal_nilp, scal_lst, scal_ptr, scal_sl, Option.map, List.length_cons, List.length_nil, reduceIte, Nat.reduceEqDiff, Nat.reduceAdd]
  by_cases c2 : x1 < 0
  · simp only [f8, fn_run, run_seq, run_cond, run_block, run_reg, run_reg0, run_drw, run_skip, run_ret, run_exit, then_norm, then_ret, then_exit, cd_true, cd_false, block_norm, block_ret, block_exit, reg_nil, reg_cons, ops_nil, ops_cons, opsThen_nil, opsThen_cons, calm_some, res_norm, res_ret, fnEnd, argsT, opRun, PT.get_put, dstep, ev, evs, evO, give, giveI, binOf, isNilK, isNil, PM.flip, putT, putL, putH, binInt, callM, loadOf, storeOf, cut, over, ofCells, asNat, natOr, calm, clashes, Acc.clash, ressOf, resOf, DV.out.outs, frz, frz.frzs, snap, snap.snaps, DV.pure, DV.pure.pures, DV.flat, DV.flat.flats, unOf, binStr, ansT, out_imm, out_ptr, out_sl, cells_imm, cells_ptr, cells_sl, cells_agg, scal_int, scal_bool, scal_str, scal_nils, scal_nilp, scal_lst, scal_ptr, scal_sl, Option.map, List.length_cons, List.length_nil, reduceIte, Nat.reduceEqDiff, Nat.reduceAdd]
    simp [c0, c1, c2, run_seq, run_cond, run_block, run_reg, run_reg0, run_drw, run_skip, run_ret, run_exit, then_norm, then_ret, then_exit, cd_true, cd_false, block_norm, block_ret, block_exit, reg_nil, reg_cons, ops_nil, ops_cons, opsThen_nil, opsThen_cons, calm_some, res_norm, res_ret, fnEnd, argsT, opRun, PT.get_put, dstep, ev, evs, evO, give, giveI, binOf, isNilK, isNil, PM.flip, putT, putL, putH, binInt, callM, loadOf, storeOf, cut, over, ofCells, asNat, natOr, calm, clashes, Acc.clash, ressOf, resOf, DV.out.outs, frz, frz.frzs, snap, snap.snaps, DV.pure, DV.pure.pures, DV.flat, DV.flat.flats, unOf, binStr, ansT, out_imm, out_ptr, out_sl, cells_imm, cells_ptr, cells_sl, cells_agg, scal_int, scal_bool, scal_str, scal_nils, scal_nilp, scal_lst, scal_ptr, scal_sl, Option.map, List.length_cons, List.length_nil, reduceIte, Nat.reduceEqDiff, Nat.reduceAdd]
  by_cases c3 : 2 < x1
  · simp only [f8, fn_run, run_seq, run_cond, run_block, run_reg, run_reg0, run_drw, run_skip, run_ret, run_exit, then_norm, then_ret, then_exit, cd_true, cd_false, block_norm, block_ret, block_exit, reg_nil, reg_cons, ops_nil, ops_cons, opsThen_nil, opsThen_cons, calm_some, res_norm, res_ret, fnEnd, argsT, opRun, PT.get_put, dstep, ev, evs, evO, give, giveI, binOf, isNilK, isNil, PM.flip, putT, putL, putH, binInt, callM, loadOf, storeOf, cut, over, ofCells, asNat, natOr, calm, clashes, Acc.clash, ressOf, resOf, DV.out.outs, frz, frz.frzs, snap, snap.snaps, DV.pure, DV.pure.pures, DV.flat, DV.flat.flats, unOf, binStr, ansT, out_imm, out_ptr, out_sl, cells_imm, cells_ptr, cells_sl, cells_agg, scal_int, scal_bool, scal_str, scal_nils, scal_nilp, scal_lst, scal_ptr, scal_sl, Option.map, List.length_cons, List.length_nil, reduceIte, Nat.reduceEqDiff, Nat.reduceAdd]
    simp [c0, c1, c2, c3, run_seq, run_cond, run_block, run_reg, run_reg0, run_drw, run_skip, run_ret, run_exit, then_norm, then_ret, then_exit, cd_true, cd_false, block_norm, block_ret, block_exit, reg_nil, reg_cons, ops_nil, ops_cons, opsThen_nil, opsThen_cons, calm_some, res_norm, res_ret, fnEnd, argsT, opRun, PT.get_put, dstep, ev, evs, evO, give, giveI, binOf, isNilK, isNil, PM.flip, putT, putL, putH, binInt, callM, loadOf, storeOf, cut, over, ofCells, asNat, natOr, calm, clashes, Acc.clash, ressOf, resOf, DV.out.outs, frz, frz.frzs, snap, snap.snaps, DV.pure, DV.pure.pures, DV.flat, DV.flat.flats, unOf, binStr, ansT, out_imm, out_ptr, out_sl, cells_imm, cells_ptr, cells_sl, cells_agg, scal_int, scal_bool, scal_str, scal_nils, scal_nilp, scal_lst, scal_ptr, scal_sl, Option.map, List.length_cons, List.length_nil, reduceIte, Nat.reduceEqDiff, Nat.reduceAdd]
  exact absurd (by omega) h
theorem pure_LockCalls : ∀ cs, ArgsFit ss_LockCalls cs → ∃ H' n', K (doorG 0 1) 30 8 cs .lf 0 0 = some (.imm (.bool true), H', n') := fun cs h0 => by
  obtain ⟨d0, r0, rfl, g0, h1⟩ := fit_cons h0
  obtain ⟨x0, rfl, _⟩ := fit_i g0
  obtain ⟨d1, r1, rfl, g1, h2⟩ := fit_cons h1
  obtain ⟨x1, rfl, _⟩ := fit_i g1
  cases fit0 (r := []) h2
  apply ansT_spec
  by_cases h : (0 ≤ x0 ∧ x0 ≤ 7) ∧ (0 ≤ x1 ∧ x1 ≤ 2)
  · skip
    have e0 : x0 = 0 ∨ x0 = 1 ∨ x0 = 2 ∨ x0 = 3 ∨ x0 = 4 ∨ x0 = 5 ∨ x0 = 6 ∨ x0 = 7 := by omega
    skip
    have e1 : x1 = 0 ∨ x1 = 1 ∨ x1 = 2 := by omega
    rw [show K (doorG 0 1) 30 = dcallF (doorG 0 1) tab 30 from (dcallF_eq _ _ _).symm]
    rcases e0 with rfl | rfl | rfl | rfl | rfl | rfl | rfl | rfl <;> rcases e1 with rfl | rfl | rfl
    · exact in_0_0
    · exact in_0_1
    · exact in_0_2
    · exact in_1_0
    · exact in_1_1
    · exact in_1_2
    · exact in_2_0
    · exact in_2_1
    · exact in_2_2
    · exact in_3_0
    · exact in_3_1
    · exact in_3_2
    · exact in_4_0
    · exact in_4_1
    · exact in_4_2
    · exact in_5_0
    · exact in_5_1
    · exact in_5_2
    · exact in_6_0
    · exact in_6_1
    · exact in_6_2
    · exact in_7_0
    · exact in_7_1
    · exact in_7_2
  · exact out_LockCalls x0 x1 h
end Go.Proofs.YtkgjgehffijepaaDoor.D
