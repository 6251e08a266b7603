/-
  FieldStops over D: input by input.
-/
import Derived.Test.YtbhmihigfncfgaaDoorFn
import Derived.Test.YtbhmihigfncfgaaDoorDoor
import Derived.Test.YtbhmihigfncfgaaDoorFast
set_option linter.unusedVariables false
set_option linter.unusedSimpArgs false
set_option maxHeartbeats 4000000
set_option maxRecDepth 100000
namespace Go.Proofs.YtbhmihigfncfgaaDoor.D
open Go Go.PM
def ss_FieldStops : List (Bool × List Kd) := [(false, [.i .i64]), (false, [.i .i64])]
theorem in_1_1 : ansT (dcallF (doorG 0 1) tab 30 11 [.imm (.int .i64 1), .imm (.int .i64 1)] .lf 0 0) = true := by kernel_rfl
theorem in_1_2 : ansT (dcallF (doorG 0 1) tab 30 11 [.imm (.int .i64 1), .imm (.int .i64 2)] .lf 0 0) = true := by kernel_rfl
theorem in_1_3 : ansT (dcallF (doorG 0 1) tab 30 11 [.imm (.int .i64 1), .imm (.int .i64 3)] .lf 0 0) = true := by kernel_rfl
theorem in_1_4 : ansT (dcallF (doorG 0 1) tab 30 11 [.imm (.int .i64 1), .imm (.int .i64 4)] .lf 0 0) = true := by kernel_rfl
theorem in_1_5 : ansT (dcallF (doorG 0 1) tab 30 11 [.imm (.int .i64 1), .imm (.int .i64 5)] .lf 0 0) = true := by kernel_rfl
theorem in_1_6 : ansT (dcallF (doorG 0 1) tab 30 11 [.imm (.int .i64 1), .imm (.int .i64 6)] .lf 0 0) = true := by kernel_rfl
theorem in_1_7 : ansT (dcallF (doorG 0 1) tab 30 11 [.imm (.int .i64 1), .imm (.int .i64 7)] .lf 0 0) = true := by kernel_rfl
theorem in_1_8 : ansT (dcallF (doorG 0 1) tab 30 11 [.imm (.int .i64 1), .imm (.int .i64 8)] .lf 0 0) = true := by kernel_rfl
theorem in_1_9 : ansT (dcallF (doorG 0 1) tab 30 11 [.imm (.int .i64 1), .imm (.int .i64 9)] .lf 0 0) = true := by kernel_rfl
theorem in_1_10 : ansT (dcallF (doorG 0 1) tab 30 11 [.imm (.int .i64 1), .imm (.int .i64 10)] .lf 0 0) = true := by kernel_rfl
theorem in_2_1 : ansT (dcallF (doorG 0 1) tab 30 11 [.imm (.int .i64 2), .imm (.int .i64 1)] .lf 0 0) = true := by kernel_rfl
theorem in_2_2 : ansT (dcallF (doorG 0 1) tab 30 11 [.imm (.int .i64 2), .imm (.int .i64 2)] .lf 0 0) = true := by kernel_rfl
theorem in_2_3 : ansT (dcallF (doorG 0 1) tab 30 11 [.imm (.int .i64 2), .imm (.int .i64 3)] .lf 0 0) = true := by kernel_rfl
theorem in_2_4 : ansT (dcallF (doorG 0 1) tab 30 11 [.imm (.int .i64 2), .imm (.int .i64 4)] .lf 0 0) = true := by kernel_rfl
theorem in_2_5 : ansT (dcallF (doorG 0 1) tab 30 11 [.imm (.int .i64 2), .imm (.int .i64 5)] .lf 0 0) = true := by kernel_rfl
theorem in_2_6 : ansT (dcallF (doorG 0 1) tab 30 11 [.imm (.int .i64 2), .imm (.int .i64 6)] .lf 0 0) = true := by kernel_rfl
theorem in_2_7 : ansT (dcallF (doorG 0 1) tab 30 11 [.imm (.int .i64 2), .imm (.int .i64 7)] .lf 0 0) = true := by kernel_rfl
theorem in_2_8 : ansT (dcallF (doorG 0 1) tab 30 11 [.imm (.int .i64 2), .imm (.int .i64 8)] .lf 0 0) = true := by kernel_rfl
theorem in_2_9 : ansT (dcallF (doorG 0 1) tab 30 11 [.imm (.int .i64 2), .imm (.int .i64 9)] .lf 0 0) = true := by kernel_rfl
theorem in_2_10 : ansT (dcallF (doorG 0 1) tab 30 11 [.imm (.int .i64 2), .imm (.int .i64 10)] .lf 0 0) = true := by kernel_rfl
theorem out_FieldStops (x0 : Int) (x1 : Int) (h : ¬ ((1 ≤ x0 ∧ x0 ≤ 2) ∧ (1 ≤ x1 ∧ x1 ≤ 10))) : ansT (K (doorG 0 1) 30 11 [.imm (.int .i64 x0), .imm (.int .i64 x1)] .lf 0 0) = true := by
  rw [k11]
  by_cases c0 : x0 < 1
  · simp only [f11, fn_run, run_seq, run_cond, run_block, run_reg, run_reg0, run_drw, run_skip, run_ret, run_exit, then_norm, then_ret, then_exit, cd_true, cd_false, block_norm, block_ret, block_exit, reg_nil, reg_cons, ops_nil, ops_cons, opsThen_nil, opsThen_cons, calm_some, res_norm, res_ret, fnEnd, argsT, opRun, PT.get_put, dstep, ev, evs, evO, give, giveI, binOf, isNilK, isNil, PM.flip, putT, putL, putH, binInt, callM, loadOf, storeOf, cut, over, ofCells, asNat, natOr, calm, clashes, Acc.clash, ressOf, resOf, DV.out.outs, frz, frz.frzs, snap, snap.snaps, DV.pure, DV.pure.pures, DV.flat, DV.flat.flats, unOf, binStr, ansT, out_imm, out_ptr, out_sl, cells_imm, cells_ptr, cells_sl, cells_agg, scal_int, scal_bool, scal_str, scal_nils, scal_nilp, scal_lst, scal_ptr, scal_sl, Option.map, List.length_cons, List.length_nil, reduceIte, Nat.reduceEqDiff, Nat.reduceAdd]
    simp [c0, run_seq, run_cond, run_block, run_reg, run_reg0, run_drw, run_skip, run_ret, run_exit, then_norm, then_ret, then_exit, cd_true, cd_false, block_norm, block_ret, block_exit, reg_nil, reg_cons, ops_nil, ops_cons, opsThen_nil, opsThen_cons, calm_some, res_norm, res_ret, fnEnd, argsT, opRun, PT.get_put, dstep, ev, evs, evO, give, giveI, binOf, isNilK, isNil, PM.flip, putT, putL, putH, binInt, callM, loadOf, storeOf, cut, over, ofCells, asNat, natOr, calm, clashes, Acc.clash, ressOf, resOf, DV.out.outs, frz, frz.frzs, snap, snap.snaps, DV.pure, DV.pure.pures, DV.flat, DV.flat.flats, unOf, binStr, ansT, out_imm, out_ptr, out_sl, cells_imm, cells_ptr, cells_sl, cells_agg, scal_int, scal_bool, scal_str, scal_nils, scal_nilp, scal_lst, scal_ptr, scal_sl, Option.map, List.length_cons, List.length_nil, reduceIte, Nat.reduceEqDiff, Nat.reduceAdd]
  by_cases c1 : 3 ≤ x0
  · simp only [f11, fn_run, run_seq, run_cond, run_block, run_reg, run_reg0, run_drw, run_skip, run_ret, run_exit, then_norm, then_ret, then_exit, cd_true, cd_false, block_norm, block_ret, block_exit, reg_nil, reg_cons, ops_nil, ops_cons, opsThen_nil, opsThen_cons, calm_some, res_norm, res_ret, fnEnd, argsT, opRun, PT.get_put, dstep, ev, evs, evO, give, giveI, binOf, isNilK, isNil, PM.flip, putT, putL, putH, binInt, callM, loadOf, storeOf, cut, over, ofCells, asNat, natOr, calm, clashes, Acc.clash, ressOf, resOf, DV.out.outs, frz, frz.frzs, snap, snap.snaps, DV.pure, DV.pure.pures, DV.flat, DV.flat.flats, unOf, binStr, ansT, out_imm, out_ptr, out_sl, cells_imm, cells_ptr, cells_sl, cells_agg, scal_int, scal_bool, scal_str, scal_nils, scal_nilp, scal_lst, scal_ptr, scal_sl, Option.map, List.length_cons, List.length_nil, reduceIte, Nat.reduceEqDiff, Nat.reduceAdd]
    simp [c0, c1, run_seq, run_cond, run_block, run_reg, run_reg0, run_drw, run_skip, run_ret, run_exit, then_norm, then_ret, then_exit, cd_true, cd_false, block_norm, block_ret, block_exit, reg_nil, reg_cons, ops_nil, ops_cons, opsThen_nil, opsThen_cons, calm_some, res_norm, res_ret, fnEnd, argsT, opRun, PT.get_put, dstep, ev, evs, evO, give, giveI, binOf, isNilK, isNil, PM.flip, putT, putL, putH, binInt, callM, loadOf, storeOf, cut, over, ofCells, asNat, natOr, calm, clashes, Acc.clash, ressOf, resOf, DV.out.outs, frz, frz.frzs, snap, snap.snaps, DV.pure, DV.pure.pures, DV.flat, DV.flat.flats, unOf, binStr, ansT, out_imm, out_ptr, out_sl, cells_imm, cells_ptr, cells_sl, cells_agg, scal_int, scal_bool, scal_str, scal_nils, scal_nilp, scal_lst, scal_ptr, scal_sl, Option.map, List.length_cons, List.length_nil, reduceIte, Nat.reduceEqDiff, Nat.reduceAdd]
  by_cases c2 : x1 < 1
  · simp only [f11, fn_run, run_seq, run_cond, run_block, run_reg, run_reg0, run_drw, run_skip, run_ret, run_exit, then_norm, then_ret, then_exit, cd_true, cd_false, block_norm, block_ret, block_exit, reg_nil, reg_cons, ops_nil, ops_cons, opsThen_nil, opsThen_cons, calm_some, res_norm, res_ret, fnEnd, argsT, opRun, PT.get_put, dstep, ev, evs, evO, give, giveI, binOf, isNilK, isNil, PM.flip, putT, putL, putH, binInt, callM, loadOf, storeOf, cut, over, ofCells, asNat, natOr, calm, clashes, Acc.clash, ressOf, resOf, DV.out.outs, frz, frz.frzs, snap, snap.snaps, DV.pure, DV.pure.pures, DV.flat, DV.flat.flats, unOf, binStr, ansT, out_imm, out_ptr, out_sl, cells_imm, cells_ptr, cells_sl, cells_agg, scal_int, scal_bool, scal_str, scal_nils, scal_nilp, scal_lst, scal_ptr, scal_sl, Option.map, List.length_cons, List.length_nil, reduceIte, Nat.reduceEqDiff, Nat.reduceAdd]
    simp [c0, c1, c2, run_seq, run_cond, run_block, run_reg, run_reg0, run_drw, run_skip, run_ret, run_exit, then_norm, then_ret, then_exit, cd_true, cd_false, block_norm, block_ret, block_exit, reg_nil, reg_cons, ops_nil, ops_cons, opsThen_nil, opsThen_cons, calm_some, res_norm, res_ret, fnEnd, argsT, opRun, PT.get_put, dstep, ev, evs, evO, give, giveI, binOf, isNilK, isNil, PM.flip, putT, putL, putH, binInt, callM, loadOf, storeOf, cut, over, ofCells, asNat, natOr, calm, clashes, Acc.clash, ressOf, resOf, DV.out.outs, frz, frz.frzs, snap, snap.snaps, DV.pure, DV.pure.pures, DV.flat, DV.flat.flats, unOf, binStr, ansT, out_imm, out_ptr, out_sl, cells_imm, cells_ptr, cells_sl, cells_agg, scal_int, scal_bool, scal_str, scal_nils, scal_nilp, scal_lst, scal_ptr, scal_sl, Option.map, List.length_cons, List.length_nil, reduceIte, Nat.reduceEqDiff, Nat.reduceAdd]
  by_cases c3 : 10 < x1
  · simp only [f11, fn_run, run_seq, run_cond, run_block, run_reg, run_reg0, run_drw, run_skip, run_ret, run_exit, then_norm, then_ret, then_exit, cd_true, cd_false, block_norm, block_ret, block_exit, reg_nil, reg_cons, ops_nil, ops_cons, opsThen_nil, opsThen_cons, calm_some, res_norm, res_ret, fnEnd, argsT, opRun, PT.get_put, dstep, ev, evs, evO, give, giveI, binOf, isNilK, isNil, PM.flip, putT, putL, putH, binInt, callM, loadOf, storeOf, cut, over, ofCells, asNat, natOr, calm, clashes, Acc.clash, ressOf, resOf, DV.out.outs, frz, frz.frzs, snap, snap.snaps, DV.pure, DV.pure.pures, DV.flat, DV.flat.flats, unOf, binStr, ansT, out_imm, out_ptr, out_sl, cells_imm, cells_ptr, cells_sl, cells_agg, scal_int, scal_bool, scal_str, scal_nils, scal_nilp, scal_lst, scal_ptr, scal_sl, Option.map, List.length_cons, List.length_nil, reduceIte, Nat.reduceEqDiff, Nat.reduceAdd]
    simp [c0, c1, c2, c3, run_seq, run_cond, run_block, run_reg, run_reg0, run_drw, run_skip, run_ret, run_exit, then_norm, then_ret, then_exit, cd_true, cd_false, block_norm, block_ret, block_exit, reg_nil, reg_cons, ops_nil, ops_cons, opsThen_nil, opsThen_cons, calm_some, res_norm, res_ret, fnEnd, argsT, opRun, PT.get_put, dstep, ev, evs, evO, give, giveI, binOf, isNilK, isNil, PM.flip, putT, putL, putH, binInt, callM, loadOf, storeOf, cut, over, ofCells, asNat, natOr, calm, clashes, Acc.clash, ressOf, resOf, DV.out.outs, frz, frz.frzs, snap, snap.snaps, DV.pure, DV.pure.pures, DV.flat, DV.flat.flats, unOf, binStr, ansT, out_imm, out_ptr, out_sl, cells_imm, cells_ptr, cells_sl, cells_agg, scal_int, scal_bool, scal_str, scal_nils, scal_nilp, scal_lst, scal_ptr, scal_sl, Option.map, List.length_cons, List.length_nil, reduceIte, Nat.reduceEqDiff, Nat.reduceAdd]
  exact absurd (by omega) h
theorem pure_FieldStops : ∀ cs, ArgsFit ss_FieldStops cs → ∃ H' n', K (doorG 0 1) 30 11 cs .lf 0 0 = some (.imm (.bool true), H', n') := fun cs h0 => by
  obtain ⟨d0, r0, rfl, g0, h1⟩ := fit_cons h0
  obtain ⟨x0, rfl, _⟩ := fit_i g0
  obtain ⟨d1, r1, rfl, g1, h2⟩ := fit_cons h1
  obtain ⟨x1, rfl, _⟩ := fit_i g1
  cases fit0 (r := []) h2
  apply ansT_spec
  by_cases h : (1 ≤ x0 ∧ x0 ≤ 2) ∧ (1 ≤ x1 ∧ x1 ≤ 10)
  · skip
    have e0 : x0 = 1 ∨ x0 = 2 := by omega
    skip
    have e1 : x1 = 1 ∨ x1 = 2 ∨ x1 = 3 ∨ x1 = 4 ∨ x1 = 5 ∨ x1 = 6 ∨ x1 = 7 ∨ x1 = 8 ∨ x1 = 9 ∨ x1 = 10 := by omega
    rw [show K (doorG 0 1) 30 = dcallF (doorG 0 1) tab 30 from (dcallF_eq _ _ _).symm]
    rcases e0 with rfl | rfl <;> rcases e1 with rfl | rfl | rfl | rfl | rfl | rfl | rfl | rfl | rfl | rfl
    · exact in_1_1
    · exact in_1_2
    · exact in_1_3
    · exact in_1_4
    · exact in_1_5
    · exact in_1_6
    · exact in_1_7
    · exact in_1_8
    · exact in_1_9
    · exact in_1_10
    · exact in_2_1
    · exact in_2_2
    · exact in_2_3
    · exact in_2_4
    · exact in_2_5
    · exact in_2_6
    · exact in_2_7
    · exact in_2_8
    · exact in_2_9
    · exact in_2_10
  · exact out_FieldStops x0 x1 h
end Go.Proofs.YtbhmihigfncfgaaDoor.D
