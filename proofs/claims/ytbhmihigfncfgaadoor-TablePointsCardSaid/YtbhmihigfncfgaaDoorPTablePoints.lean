/-
  TablePoints over D: input by input.
-/
import Derived.Test.YtbhmihigfncfgaaDoorFn
import Derived.Test.YtbhmihigfncfgaaDoorDoor
import Derived.Test.YtbhmihigfncfgaaDoorFast
set_option linter.unusedVariables false
set_option linter.unusedSimpArgs false
set_option maxHeartbeats 4000000
set_option maxRecDepth 100000
namespace Go.Proofs.YtbhmihigfncfgaaDoor.D
open Go Go.PM
def ss_TablePoints : List (Bool × List Kd) := [(false, [.i .i64]), (false, [.b]), (false, [.b])]
theorem in_0_false_false : ansT (dcallF (doorG 0 1) tab 30 5 [.imm (.int .i64 0), .imm (.bool false), .imm (.bool false)] .lf 0 0) = true := by kernel_rfl
theorem in_0_false_true : ansT (dcallF (doorG 0 1) tab 30 5 [.imm (.int .i64 0), .imm (.bool false), .imm (.bool true)] .lf 0 0) = true := by kernel_rfl
theorem in_0_true_false : ansT (dcallF (doorG 0 1) tab 30 5 [.imm (.int .i64 0), .imm (.bool true), .imm (.bool false)] .lf 0 0) = true := by kernel_rfl
theorem in_0_true_true : ansT (dcallF (doorG 0 1) tab 30 5 [.imm (.int .i64 0), .imm (.bool true), .imm (.bool true)] .lf 0 0) = true := by kernel_rfl
theorem in_1_false_false : ansT (dcallF (doorG 0 1) tab 30 5 [.imm (.int .i64 1), .imm (.bool false), .imm (.bool false)] .lf 0 0) = true := by kernel_rfl
theorem in_1_false_true : ansT (dcallF (doorG 0 1) tab 30 5 [.imm (.int .i64 1), .imm (.bool false), .imm (.bool true)] .lf 0 0) = true := by kernel_rfl
theorem in_1_true_false : ansT (dcallF (doorG 0 1) tab 30 5 [.imm (.int .i64 1), .imm (.bool true), .imm (.bool false)] .lf 0 0) = true := by kernel_rfl
theorem in_1_true_true : ansT (dcallF (doorG 0 1) tab 30 5 [.imm (.int .i64 1), .imm (.bool true), .imm (.bool true)] .lf 0 0) = true := by kernel_rfl
theorem in_2_false_false : ansT (dcallF (doorG 0 1) tab 30 5 [.imm (.int .i64 2), .imm (.bool false), .imm (.bool false)] .lf 0 0) = true := by kernel_rfl
theorem in_2_false_true : ansT (dcallF (doorG 0 1) tab 30 5 [.imm (.int .i64 2), .imm (.bool false), .imm (.bool true)] .lf 0 0) = true := by kernel_rfl
theorem in_2_true_false : ansT (dcallF (doorG 0 1) tab 30 5 [.imm (.int .i64 2), .imm (.bool true), .imm (.bool false)] .lf 0 0) = true := by kernel_rfl
theorem in_2_true_true : ansT (dcallF (doorG 0 1) tab 30 5 [.imm (.int .i64 2), .imm (.bool true), .imm (.bool true)] .lf 0 0) = true := by kernel_rfl
theorem in_3_false_false : ansT (dcallF (doorG 0 1) tab 30 5 [.imm (.int .i64 3), .imm (.bool false), .imm (.bool false)] .lf 0 0) = true := by kernel_rfl
theorem in_3_false_true : ansT (dcallF (doorG 0 1) tab 30 5 [.imm (.int .i64 3), .imm (.bool false), .imm (.bool true)] .lf 0 0) = true := by kernel_rfl
theorem in_3_true_false : ansT (dcallF (doorG 0 1) tab 30 5 [.imm (.int .i64 3), .imm (.bool true), .imm (.bool false)] .lf 0 0) = true := by kernel_rfl
theorem in_3_true_true : ansT (dcallF (doorG 0 1) tab 30 5 [.imm (.int .i64 3), .imm (.bool true), .imm (.bool true)] .lf 0 0) = true := by kernel_rfl
theorem in_4_false_false : ansT (dcallF (doorG 0 1) tab 30 5 [.imm (.int .i64 4), .imm (.bool false), .imm (.bool false)] .lf 0 0) = true := by kernel_rfl
theorem in_4_false_true : ansT (dcallF (doorG 0 1) tab 30 5 [.imm (.int .i64 4), .imm (.bool false), .imm (.bool true)] .lf 0 0) = true := by kernel_rfl
theorem in_4_true_false : ansT (dcallF (doorG 0 1) tab 30 5 [.imm (.int .i64 4), .imm (.bool true), .imm (.bool false)] .lf 0 0) = true := by kernel_rfl
theorem in_4_true_true : ansT (dcallF (doorG 0 1) tab 30 5 [.imm (.int .i64 4), .imm (.bool true), .imm (.bool true)] .lf 0 0) = true := by kernel_rfl
theorem out_TablePoints (x0 : Int) (x1 : Bool) (x2 : Bool) (h : ¬ ((0 ≤ x0 ∧ x0 ≤ 4))) : ansT (K (doorG 0 1) 30 5 [.imm (.int .i64 x0), .imm (.bool x1), .imm (.bool x2)] .lf 0 0) = true := by
  rw [k5]
  by_cases c0 : x0 < 0
  · simp only [f5, fn_run, run_seq, run_cond, run_block, run_reg, run_reg0, run_drw, run_skip, run_ret, run_exit, then_norm, then_ret, then_exit, cd_true, cd_false, block_norm, block_ret, block_exit, reg_nil, reg_cons, ops_nil, ops_cons, opsThen_nil, opsThen_cons, calm_some, res_norm, res_ret, fnEnd, argsT, opRun, PT.get_put, dstep, ev, evs, evO, give, giveI, binOf, isNilK, isNil, PM.flip, putT, putL, putH, binInt, callM, loadOf, storeOf, cut, over, ofCells, asNat, natOr, calm, clashes, Acc.clash, ressOf, resOf, DV.out.outs, frz, frz.frzs, snap, snap.snaps, DV.pure, DV.pure.pures, DV.flat, DV.flat.flats, unOf, binStr, ansT, out_imm, out_ptr, out_sl, cells_imm, cells_ptr, cells_sl, cells_agg, scal_int, scal_bool, scal_str, scal_nils, scal_nilp, scal_lst, scal_ptr, scal_sl, Option.map, List.length_cons, List.length_nil, reduceIte, Nat.reduceEqDiff, Nat.reduceAdd]
    simp [c0, run_seq, run_cond, run_block, run_reg, run_reg0, run_drw, run_skip, run_ret, run_exit, then_norm, then_ret, then_exit, cd_true, cd_false, block_norm, block_ret, block_exit, reg_nil, reg_cons, ops_nil, ops_cons, opsThen_nil, opsThen_cons, calm_some, res_norm, res_ret, fnEnd, argsT, opRun, PT.get_put, dstep, ev, evs, evO, give, giveI, binOf, isNilK, isNil, PM.flip, putT, putL, putH, binInt, callM, loadOf, storeOf, cut, over, ofCells, asNat, natOr, calm, clashes, Acc.clash, ressOf, resOf, DV.out.outs, frz, frz.frzs, snap, snap.snaps, DV.pure, DV.pure.pures, DV.flat, DV.flat.flats, unOf, binStr, ansT, out_imm, out_ptr, out_sl, cells_imm, cells_ptr, cells_sl, cells_agg, scal_int, scal_bool, scal_str, scal_nils, scal_nilp, scal_lst, scal_ptr, scal_sl, Option.map, List.length_cons, List.length_nil, reduceIte, Nat.reduceEqDiff, Nat.reduceAdd]
  by_cases c1 : 4 < x0
  · simp only [f5, fn_run, run_seq, run_cond, run_block, run_reg, run_reg0, run_drw, run_skip, run_ret, run_exit, then_norm, then_ret, then_exit, cd_true, cd_false, block_norm, block_ret, block_exit, reg_nil, reg_cons, ops_nil, ops_cons, opsThen_nil, opsThen_cons, calm_some, res_norm, res_ret, fnEnd, argsT, opRun, PT.get_put, dstep, ev, evs, evO, give, giveI, binOf, isNilK, isNil, PM.flip, putT, putL, putH, binInt, callM, loadOf, storeOf, cut, over, ofCells, asNat, natOr, calm, clashes, Acc.clash, ressOf, resOf, DV.out.outs, frz, frz.frzs, snap, snap.snaps, DV.pure, DV.pure.pures, DV.flat, DV.flat.flats, unOf, binStr, ansT, out_imm, out_ptr, out_sl, cells_imm, cells_ptr, cells_sl, cells_agg, scal_int, scal_bool, scal_str, scal_nils, scal_nilp, scal_lst, scal_ptr, scal_sl, Option.map, List.length_cons, List.length_nil, reduceIte, Nat.reduceEqDiff, Nat.reduceAdd]
    simp [c0, c1, run_seq, run_cond, run_block, run_reg, run_reg0, run_drw, run_skip, run_ret, run_exit, then_norm, then_ret, then_exit, cd_true, cd_false, block_norm, block_ret, block_exit, reg_nil, reg_cons, ops_nil, ops_cons, opsThen_nil, opsThen_cons, calm_some, res_norm, res_ret, fnEnd, argsT, opRun, PT.get_put, dstep, ev, evs, evO, give, giveI, binOf, isNilK, isNil, PM.flip, putT, putL, putH, binInt, callM, loadOf, storeOf, cut, over, ofCells, asNat, natOr, calm, clashes, Acc.clash, ressOf, resOf, DV.out.outs, frz, frz.frzs, snap, snap.snaps, DV.pure, DV.pure.pures, DV.flat, DV.flat.flats, unOf, binStr, ansT, out_imm, out_ptr, out_sl, cells_imm, cells_ptr, cells_sl, cells_agg, scal_int, scal_bool, scal_str, scal_nils, scal_nilp, scal_lst, scal_ptr, scal_sl, Option.map, List.length_cons, List.length_nil, reduceIte, Nat.reduceEqDiff, Nat.reduceAdd]
  exact absurd (by omega) h
theorem pure_TablePoints : ∀ cs, ArgsFit ss_TablePoints cs → ∃ H' n', K (doorG 0 1) 30 5 cs .lf 0 0 = some (.imm (.bool true), H', n') := fun cs h0 => by
  obtain ⟨d0, r0, rfl, g0, h1⟩ := fit_cons h0
  obtain ⟨x0, rfl, _⟩ := fit_i g0
  obtain ⟨d1, r1, rfl, g1, h2⟩ := fit_cons h1
  obtain ⟨x1, rfl⟩ := fit_b g1
  obtain ⟨d2, r2, rfl, g2, h3⟩ := fit_cons h2
  obtain ⟨x2, rfl⟩ := fit_b g2
  cases fit0 (r := []) h3
  apply ansT_spec
  by_cases h : (0 ≤ x0 ∧ x0 ≤ 4)
  · skip
    have e0 : x0 = 0 ∨ x0 = 1 ∨ x0 = 2 ∨ x0 = 3 ∨ x0 = 4 := by omega
    rw [show K (doorG 0 1) 30 = dcallF (doorG 0 1) tab 30 from (dcallF_eq _ _ _).symm]
    rcases e0 with rfl | rfl | rfl | rfl | rfl <;> cases x1 <;> cases x2
    · exact in_0_false_false
    · exact in_0_false_true
    · exact in_0_true_false
    · exact in_0_true_true
    · exact in_1_false_false
    · exact in_1_false_true
    · exact in_1_true_false
    · exact in_1_true_true
    · exact in_2_false_false
    · exact in_2_false_true
    · exact in_2_true_false
    · exact in_2_true_true
    · exact in_3_false_false
    · exact in_3_false_true
    · exact in_3_true_false
    · exact in_3_true_true
    · exact in_4_false_false
    · exact in_4_false_true
    · exact in_4_true_false
    · exact in_4_true_true
  · exact out_TablePoints x0 x1 x2 h
end Go.Proofs.YtbhmihigfncfgaaDoor.D
