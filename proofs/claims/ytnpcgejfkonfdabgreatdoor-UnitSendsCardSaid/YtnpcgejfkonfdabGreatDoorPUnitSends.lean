/-
  UnitSends over D: input by input.
-/
import Derived.Test.YtnpcgejfkonfdabGreatDoorFn
import Derived.Test.YtnpcgejfkonfdabGreatDoorDoor
import Derived.Test.YtnpcgejfkonfdabGreatDoorFast
set_option linter.unusedVariables false
set_option linter.unusedSimpArgs false
set_option maxHeartbeats 4000000
set_option maxRecDepth 100000
namespace Go.Proofs.YtnpcgejfkonfdabGreatDoor.D
open Go Go.PM
def ss_UnitSends : List (Bool × List Kd) := [(false, [.i .i64]), (false, [.b])]
theorem in_0_false : ansT (dcallF (doorG 0 1) tab 30 4 [.imm (.int .i64 0), .imm (.bool false)] .lf 0 0) = true := by kernel_rfl
theorem in_0_true : ansT (dcallF (doorG 0 1) tab 30 4 [.imm (.int .i64 0), .imm (.bool true)] .lf 0 0) = true := by kernel_rfl
theorem in_1_false : ansT (dcallF (doorG 0 1) tab 30 4 [.imm (.int .i64 1), .imm (.bool false)] .lf 0 0) = true := by kernel_rfl
theorem in_1_true : ansT (dcallF (doorG 0 1) tab 30 4 [.imm (.int .i64 1), .imm (.bool true)] .lf 0 0) = true := by kernel_rfl
theorem in_2_false : ansT (dcallF (doorG 0 1) tab 30 4 [.imm (.int .i64 2), .imm (.bool false)] .lf 0 0) = true := by kernel_rfl
theorem in_2_true : ansT (dcallF (doorG 0 1) tab 30 4 [.imm (.int .i64 2), .imm (.bool true)] .lf 0 0) = true := by kernel_rfl
theorem in_3_false : ansT (dcallF (doorG 0 1) tab 30 4 [.imm (.int .i64 3), .imm (.bool false)] .lf 0 0) = true := by kernel_rfl
theorem in_3_true : ansT (dcallF (doorG 0 1) tab 30 4 [.imm (.int .i64 3), .imm (.bool true)] .lf 0 0) = true := by kernel_rfl
theorem in_4_false : ansT (dcallF (doorG 0 1) tab 30 4 [.imm (.int .i64 4), .imm (.bool false)] .lf 0 0) = true := by kernel_rfl
theorem in_4_true : ansT (dcallF (doorG 0 1) tab 30 4 [.imm (.int .i64 4), .imm (.bool true)] .lf 0 0) = true := by kernel_rfl
theorem in_5_false : ansT (dcallF (doorG 0 1) tab 30 4 [.imm (.int .i64 5), .imm (.bool false)] .lf 0 0) = true := by kernel_rfl
theorem in_5_true : ansT (dcallF (doorG 0 1) tab 30 4 [.imm (.int .i64 5), .imm (.bool true)] .lf 0 0) = true := by kernel_rfl
theorem in_6_false : ansT (dcallF (doorG 0 1) tab 30 4 [.imm (.int .i64 6), .imm (.bool false)] .lf 0 0) = true := by kernel_rfl
theorem in_6_true : ansT (dcallF (doorG 0 1) tab 30 4 [.imm (.int .i64 6), .imm (.bool true)] .lf 0 0) = true := by kernel_rfl
theorem in_7_false : ansT (dcallF (doorG 0 1) tab 30 4 [.imm (.int .i64 7), .imm (.bool false)] .lf 0 0) = true := by kernel_rfl
theorem in_7_true : ansT (dcallF (doorG 0 1) tab 30 4 [.imm (.int .i64 7), .imm (.bool true)] .lf 0 0) = true := by kernel_rfl
theorem in_8_false : ansT (dcallF (doorG 0 1) tab 30 4 [.imm (.int .i64 8), .imm (.bool false)] .lf 0 0) = true := by kernel_rfl
theorem in_8_true : ansT (dcallF (doorG 0 1) tab 30 4 [.imm (.int .i64 8), .imm (.bool true)] .lf 0 0) = true := by kernel_rfl
theorem in_9_false : ansT (dcallF (doorG 0 1) tab 30 4 [.imm (.int .i64 9), .imm (.bool false)] .lf 0 0) = true := by kernel_rfl
theorem in_9_true : ansT (dcallF (doorG 0 1) tab 30 4 [.imm (.int .i64 9), .imm (.bool true)] .lf 0 0) = true := by kernel_rfl
theorem in_10_false : ansT (dcallF (doorG 0 1) tab 30 4 [.imm (.int .i64 10), .imm (.bool false)] .lf 0 0) = true := by kernel_rfl
theorem in_10_true : ansT (dcallF (doorG 0 1) tab 30 4 [.imm (.int .i64 10), .imm (.bool true)] .lf 0 0) = true := by kernel_rfl
theorem in_11_false : ansT (dcallF (doorG 0 1) tab 30 4 [.imm (.int .i64 11), .imm (.bool false)] .lf 0 0) = true := by kernel_rfl
theorem in_11_true : ansT (dcallF (doorG 0 1) tab 30 4 [.imm (.int .i64 11), .imm (.bool true)] .lf 0 0) = true := by kernel_rfl
theorem in_12_false : ansT (dcallF (doorG 0 1) tab 30 4 [.imm (.int .i64 12), .imm (.bool false)] .lf 0 0) = true := by kernel_rfl
theorem in_12_true : ansT (dcallF (doorG 0 1) tab 30 4 [.imm (.int .i64 12), .imm (.bool true)] .lf 0 0) = true := by kernel_rfl
theorem in_13_false : ansT (dcallF (doorG 0 1) tab 30 4 [.imm (.int .i64 13), .imm (.bool false)] .lf 0 0) = true := by kernel_rfl
theorem in_13_true : ansT (dcallF (doorG 0 1) tab 30 4 [.imm (.int .i64 13), .imm (.bool true)] .lf 0 0) = true := by kernel_rfl
theorem in_14_false : ansT (dcallF (doorG 0 1) tab 30 4 [.imm (.int .i64 14), .imm (.bool false)] .lf 0 0) = true := by kernel_rfl
theorem in_14_true : ansT (dcallF (doorG 0 1) tab 30 4 [.imm (.int .i64 14), .imm (.bool true)] .lf 0 0) = true := by kernel_rfl
theorem in_15_false : ansT (dcallF (doorG 0 1) tab 30 4 [.imm (.int .i64 15), .imm (.bool false)] .lf 0 0) = true := by kernel_rfl
theorem in_15_true : ansT (dcallF (doorG 0 1) tab 30 4 [.imm (.int .i64 15), .imm (.bool true)] .lf 0 0) = true := by kernel_rfl
theorem in_16_false : ansT (dcallF (doorG 0 1) tab 30 4 [.imm (.int .i64 16), .imm (.bool false)] .lf 0 0) = true := by kernel_rfl
theorem in_16_true : ansT (dcallF (doorG 0 1) tab 30 4 [.imm (.int .i64 16), .imm (.bool true)] .lf 0 0) = true := by kernel_rfl
theorem in_17_false : ansT (dcallF (doorG 0 1) tab 30 4 [.imm (.int .i64 17), .imm (.bool false)] .lf 0 0) = true := by kernel_rfl
theorem in_17_true : ansT (dcallF (doorG 0 1) tab 30 4 [.imm (.int .i64 17), .imm (.bool true)] .lf 0 0) = true := by kernel_rfl
theorem in_18_false : ansT (dcallF (doorG 0 1) tab 30 4 [.imm (.int .i64 18), .imm (.bool false)] .lf 0 0) = true := by kernel_rfl
theorem in_18_true : ansT (dcallF (doorG 0 1) tab 30 4 [.imm (.int .i64 18), .imm (.bool true)] .lf 0 0) = true := by kernel_rfl
theorem in_19_false : ansT (dcallF (doorG 0 1) tab 30 4 [.imm (.int .i64 19), .imm (.bool false)] .lf 0 0) = true := by kernel_rfl
theorem in_19_true : ansT (dcallF (doorG 0 1) tab 30 4 [.imm (.int .i64 19), .imm (.bool true)] .lf 0 0) = true := by kernel_rfl
theorem in_20_false : ansT (dcallF (doorG 0 1) tab 30 4 [.imm (.int .i64 20), .imm (.bool false)] .lf 0 0) = true := by kernel_rfl
theorem in_20_true : ansT (dcallF (doorG 0 1) tab 30 4 [.imm (.int .i64 20), .imm (.bool true)] .lf 0 0) = true := by kernel_rfl
theorem in_21_false : ansT (dcallF (doorG 0 1) tab 30 4 [.imm (.int .i64 21), .imm (.bool false)] .lf 0 0) = true := by kernel_rfl
theorem in_21_true : ansT (dcallF (doorG 0 1) tab 30 4 [.imm (.int .i64 21), .imm (.bool true)] .lf 0 0) = true := by kernel_rfl
theorem in_22_false : ansT (dcallF (doorG 0 1) tab 30 4 [.imm (.int .i64 22), .imm (.bool false)] .lf 0 0) = true := by kernel_rfl
theorem in_22_true : ansT (dcallF (doorG 0 1) tab 30 4 [.imm (.int .i64 22), .imm (.bool true)] .lf 0 0) = true := by kernel_rfl
theorem in_23_false : ansT (dcallF (doorG 0 1) tab 30 4 [.imm (.int .i64 23), .imm (.bool false)] .lf 0 0) = true := by kernel_rfl
theorem in_23_true : ansT (dcallF (doorG 0 1) tab 30 4 [.imm (.int .i64 23), .imm (.bool true)] .lf 0 0) = true := by kernel_rfl
theorem in_24_false : ansT (dcallF (doorG 0 1) tab 30 4 [.imm (.int .i64 24), .imm (.bool false)] .lf 0 0) = true := by kernel_rfl
theorem in_24_true : ansT (dcallF (doorG 0 1) tab 30 4 [.imm (.int .i64 24), .imm (.bool true)] .lf 0 0) = true := by kernel_rfl
theorem in_25_false : ansT (dcallF (doorG 0 1) tab 30 4 [.imm (.int .i64 25), .imm (.bool false)] .lf 0 0) = true := by kernel_rfl
theorem in_25_true : ansT (dcallF (doorG 0 1) tab 30 4 [.imm (.int .i64 25), .imm (.bool true)] .lf 0 0) = true := by kernel_rfl
theorem in_26_false : ansT (dcallF (doorG 0 1) tab 30 4 [.imm (.int .i64 26), .imm (.bool false)] .lf 0 0) = true := by kernel_rfl
theorem in_26_true : ansT (dcallF (doorG 0 1) tab 30 4 [.imm (.int .i64 26), .imm (.bool true)] .lf 0 0) = true := by kernel_rfl
theorem in_27_false : ansT (dcallF (doorG 0 1) tab 30 4 [.imm (.int .i64 27), .imm (.bool false)] .lf 0 0) = true := by kernel_rfl
theorem in_27_true : ansT (dcallF (doorG 0 1) tab 30 4 [.imm (.int .i64 27), .imm (.bool true)] .lf 0 0) = true := by kernel_rfl
theorem in_28_false : ansT (dcallF (doorG 0 1) tab 30 4 [.imm (.int .i64 28), .imm (.bool false)] .lf 0 0) = true := by kernel_rfl
theorem in_28_true : ansT (dcallF (doorG 0 1) tab 30 4 [.imm (.int .i64 28), .imm (.bool true)] .lf 0 0) = true := by kernel_rfl
theorem in_29_false : ansT (dcallF (doorG 0 1) tab 30 4 [.imm (.int .i64 29), .imm (.bool false)] .lf 0 0) = true := by kernel_rfl
theorem in_29_true : ansT (dcallF (doorG 0 1) tab 30 4 [.imm (.int .i64 29), .imm (.bool true)] .lf 0 0) = true := by kernel_rfl
theorem in_30_false : ansT (dcallF (doorG 0 1) tab 30 4 [.imm (.int .i64 30), .imm (.bool false)] .lf 0 0) = true := by kernel_rfl
theorem in_30_true : ansT (dcallF (doorG 0 1) tab 30 4 [.imm (.int .i64 30), .imm (.bool true)] .lf 0 0) = true := by kernel_rfl
theorem out_UnitSends (x0 : Int) (x1 : Bool) (h : ¬ ((0 ≤ x0 ∧ x0 ≤ 30))) : ansT (K (doorG 0 1) 30 4 [.imm (.int .i64 x0), .imm (.bool x1)] .lf 0 0) = true := by
  rw [D.k4]
  by_cases c0 : x0 < 0
  · simp only [D.f4, fn_run, run_seq, run_cond, run_block, run_reg, run_reg0, run_drw, run_skip, run_ret, run_exit, then_norm, then_ret, then_exit, cd_true, cd_false, block_norm, block_ret, block_exit, reg_nil, reg_cons, ops_nil, ops_cons, opsThen_nil, opsThen_cons, calm_some, res_norm, res_ret, fnEnd, argsT, opRun, PT.get_put, dstep, ev, evs, evO, give, giveI, binOf, isNilK, isNil, PM.flip, putT, putL, putH, binInt, callM, loadOf, storeOf, cut, over, ofCells, asNat, natOr, calm, clashes, Acc.clash, ressOf, resOf, DV.out.outs, frz, frz.frzs, snap, snap.snaps, DV.pure, DV.pure.pures, DV.flat, DV.flat.flats, unOf, binStr, ansT, out_imm, out_ptr, out_sl, cells_imm, cells_ptr, cells_sl, cells_agg, scal_int, scal_bool, scal_str, scal_nils, scal_nilp, scal_lst, scal_ptr, scal_sl, Option.map, List.length_cons, List.length_nil, reduceIte, Nat.reduceEqDiff, Nat.reduceAdd]
    simp [c0, run_seq, run_cond, run_block, run_reg, run_reg0, run_drw, run_skip, run_ret, run_exit, then_norm, then_ret, then_exit, cd_true, cd_false, block_norm, block_ret, block_exit, reg_nil, reg_cons, ops_nil, ops_cons, opsThen_nil, opsThen_cons, calm_some, res_norm, res_ret, fnEnd, argsT, opRun, PT.get_put, dstep, ev, evs, evO, give, giveI, binOf, isNilK, isNil, PM.flip, putT, putL, putH, binInt, callM, loadOf, storeOf, cut, over, ofCells, asNat, natOr, calm, clashes, Acc.clash, ressOf, resOf, DV.out.outs, frz, frz.frzs, snap, snap.snaps, DV.pure, DV.pure.pures, DV.flat, DV.flat.flats, unOf, binStr, ansT, out_imm, out_ptr, out_sl, cells_imm, cells_ptr, cells_sl, cells_agg, scal_int, scal_bool, scal_str, scal_nils, scal_nilp, scal_lst, scal_ptr, scal_sl, Option.map, List.length_cons, List.length_nil, reduceIte, Nat.reduceEqDiff, Nat.reduceAdd]
  by_cases c1 : 30 < x0
  · simp only [D.f4, fn_run, run_seq, run_cond, run_block, run_reg, run_reg0, run_drw, run_skip, run_ret, run_exit, then_norm, then_ret, then_exit, cd_true, cd_false, block_norm, block_ret, block_exit, reg_nil, reg_cons, ops_nil, ops_cons, opsThen_nil, opsThen_cons, calm_some, res_norm, res_ret, fnEnd, argsT, opRun, PT.get_put, dstep, ev, evs, evO, give, giveI, binOf, isNilK, isNil, PM.flip, putT, putL, putH, binInt, callM, loadOf, storeOf, cut, over, ofCells, asNat, natOr, calm, clashes, Acc.clash, ressOf, resOf, DV.out.outs, frz, frz.frzs, snap, snap.snaps, DV.pure, DV.pure.pures, DV.flat, DV.flat.flats, unOf, binStr, ansT, out_imm, out_ptr, out_sl, cells_imm, cells_ptr, cells_sl, cells_agg, scal_int, scal_bool, scal_str, scal_nils, scal_nilp, scal_lst, scal_ptr, scal_sl, Option.map, List.length_cons, List.length_nil, reduceIte, Nat.reduceEqDiff, Nat.reduceAdd]
    simp [c0, c1, run_seq, run_cond, run_block, run_reg, run_reg0, run_drw, run_skip, run_ret, run_exit, then_norm, then_ret, then_exit, cd_true, cd_false, block_norm, block_ret, block_exit, reg_nil, reg_cons, ops_nil, ops_cons, opsThen_nil, opsThen_cons, calm_some, res_norm, res_ret, fnEnd, argsT, opRun, PT.get_put, dstep, ev, evs, evO, give, giveI, binOf, isNilK, isNil, PM.flip, putT, putL, putH, binInt, callM, loadOf, storeOf, cut, over, ofCells, asNat, natOr, calm, clashes, Acc.clash, ressOf, resOf, DV.out.outs, frz, frz.frzs, snap, snap.snaps, DV.pure, DV.pure.pures, DV.flat, DV.flat.flats, unOf, binStr, ansT, out_imm, out_ptr, out_sl, cells_imm, cells_ptr, cells_sl, cells_agg, scal_int, scal_bool, scal_str, scal_nils, scal_nilp, scal_lst, scal_ptr, scal_sl, Option.map, List.length_cons, List.length_nil, reduceIte, Nat.reduceEqDiff, Nat.reduceAdd]
  exact absurd (by omega) h
theorem pure_UnitSends : ∀ cs, ArgsFit ss_UnitSends cs → ∃ H' n', K (doorG 0 1) 30 4 cs .lf 0 0 = some (.imm (.bool true), H', n') := fun cs h0 => by
  obtain ⟨d0, r0, rfl, g0, h1⟩ := fit_cons h0
  obtain ⟨x0, rfl, _⟩ := fit_i g0
  obtain ⟨d1, r1, rfl, g1, h2⟩ := fit_cons h1
  obtain ⟨x1, rfl⟩ := fit_b g1
  cases fit0 (r := []) h2
  apply ansT_spec
  by_cases h : (0 ≤ x0 ∧ x0 ≤ 30)
  · skip
    have e0 : x0 = 0 ∨ x0 = 1 ∨ x0 = 2 ∨ x0 = 3 ∨ x0 = 4 ∨ x0 = 5 ∨ x0 = 6 ∨ x0 = 7 ∨ x0 = 8 ∨ x0 = 9 ∨ x0 = 10 ∨ x0 = 11 ∨ x0 = 12 ∨ x0 = 13 ∨ x0 = 14 ∨ x0 = 15 ∨ x0 = 16 ∨ x0 = 17 ∨ x0 = 18 ∨ x0 = 19 ∨ x0 = 20 ∨ x0 = 21 ∨ x0 = 22 ∨ x0 = 23 ∨ x0 = 24 ∨ x0 = 25 ∨ x0 = 26 ∨ x0 = 27 ∨ x0 = 28 ∨ x0 = 29 ∨ x0 = 30 := by omega
    rw [show K (doorG 0 1) 30 = dcallF (doorG 0 1) tab 30 from (dcallF_eq _ _ _).symm]
    rcases e0 with rfl | rfl | rfl | rfl | rfl | rfl | rfl | rfl | rfl | rfl | rfl | rfl | rfl | rfl | rfl | rfl | rfl | rfl | rfl | rfl | rfl | rfl | rfl | rfl | rfl | rfl | rfl | rfl | rfl | rfl | rfl <;> cases x1
    · exact in_0_false
    · exact in_0_true
    · exact in_1_false
    · exact in_1_true
    · exact in_2_false
    · exact in_2_true
    · exact in_3_false
    · exact in_3_true
    · exact in_4_false
    · exact in_4_true
    · exact in_5_false
    · exact in_5_true
    · exact in_6_false
    · exact in_6_true
    · exact in_7_false
    · exact in_7_true
    · exact in_8_false
    · exact in_8_true
    · exact in_9_false
    · exact in_9_true
    · exact in_10_false
    · exact in_10_true
    · exact in_11_false
    · exact in_11_true
    · exact in_12_false
    · exact in_12_true
    · exact in_13_false
    · exact in_13_true
    · exact in_14_false
    · exact in_14_true
    · exact in_15_false
    · exact in_15_true
    · exact in_16_false
    · exact in_16_true
    · exact in_17_false
    · exact in_17_true
    · exact in_18_false
    · exact in_18_true
    · exact in_19_false
    · exact in_19_true
    · exact in_20_false
    · exact in_20_true
    · exact in_21_false
    · exact in_21_true
    · exact in_22_false
    · exact in_22_true
    · exact in_23_false
    · exact in_23_true
    · exact in_24_false
    · exact in_24_true
    · exact in_25_false
    · exact in_25_true
    · exact in_26_false
    · exact in_26_true
    · exact in_27_false
    · exact in_27_true
    · exact in_28_false
    · exact in_28_true
    · exact in_29_false
    · exact in_29_true
    · exact in_30_false
    · exact in_30_true
  · exact out_UnitSends x0 x1 h
end Go.Proofs.YtnpcgejfkonfdabGreatDoor.D
