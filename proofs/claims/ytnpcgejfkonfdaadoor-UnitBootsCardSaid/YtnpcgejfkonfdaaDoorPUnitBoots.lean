/-
  UnitBoots over D: what crashed is back behind so many ticks of its own.
-/
import Derived.Test.YtnpcgejfkonfdaaDoorFn
import Derived.Test.YtnpcgejfkonfdaaDoorRun3
import Derived.Test.YtnpcgejfkonfdaaDoorDoor
import Derived.Test.YtnpcgejfkonfdaaDoorFast
import Derived.KernelRfl
set_option linter.unusedVariables false
set_option linter.unusedSimpArgs false
set_option maxHeartbeats 16000000
set_option maxRecDepth 100000
namespace Go.Proofs.YtnpcgejfkonfdaaDoor.D
open Go Go.PM
abbrev GG := doorG 0 1
noncomputable abbrev KF (d : Nat) : Go.PM.Callee := dcallF GG tab d
theorem KF_eq (d : Nat) : KF d = K GG d := dcallF_eq _ _ _

theorem knownB : ansT (KF 29 16 [] .lf 0 0) = true := by kernel_rfl
theorem callM_b0 {K : Go.PM.Callee} {f : FuncId} {H : PT HB} {n lo : Nat} : callM K .blind f [] H n lo = (bl K f []).map fun v => ⟨v, H, n, []⟩ := callM_bl rfl
theorem known12 : bl (K GG 29) 16 [] = some (.imm (.bool true)) := by
  obtain ⟨H', n', e⟩ := ansT_spec (by rw [← KF_eq]; exact knownB : ansT (K GG 29 16 [] .lf 0 0) = true)
  exact bl_imm e

/-- A unit: its mode, its ticks. -/
def Ub (H : PT HB) (a : Nat) (m t : Int) : Prop := ∃ v0 v1 v2 v5 v6, H.get a = some ⟨7, [[v0, v1, v2, .imm (.int .i64 m), .imm (.int .i64 t), v5, v6]]⟩
def isUb (o : Option HB) (m t : Int) : Bool := match o with
  | some ⟨7, [[_, _, _, .imm (.int .i64 x), .imm (.int .i64 y), _, _]]⟩ => x == m && y == t
  | _ => false
theorem isUb_spec {H : PT HB} {a : Nat} {m t : Int} (h : isUb (H.get a) m t = true) : Ub H a m t := by
  unfold isUb at h
  split at h
  · rename_i e
    simp only [Bool.and_eq_true, beq_iff_eq] at h
    obtain ⟨rfl, rfl⟩ := h
    exact ⟨_, _, _, _, _, e⟩
  · cases h

/-! ### The beginning -/
def retI (r : Option (DV × PT HB × Nat)) (z : Int) (c : PT HB → Nat → Bool) : Bool := match r with
  | some (.imm (.int .i64 x), H, n) => x == z && c H n
  | _ => false
theorem retI_spec {r : Option (DV × PT HB × Nat)} {z : Int} {c : PT HB → Nat → Bool} (h : retI r z c = true) : ∃ H n, r = some (.imm (.int .i64 z), H, n) ∧ c H n = true := by
  unfold retI at h
  split at h
  · simp only [Bool.and_eq_true, beq_iff_eq] at h
    obtain ⟨rfl, h⟩ := h
    exact ⟨_, _, rfl, h⟩
  · cases h
def ret0 (r : Option (DV × PT HB × Nat)) (c : PT HB → Nat → Bool) : Bool := match r with
  | some (.tup [], H, n) => c H n
  | _ => false
theorem ret0_spec {r : Option (DV × PT HB × Nat)} {c : PT HB → Nat → Bool} (h : ret0 r c = true) : ∃ H n, r = some (.tup [], H, n) ∧ c H n = true := by
  unfold ret0 at h
  split at h
  · exact ⟨_, _, rfl, h⟩
  · cases h
def retP (r : Option (DV × PT HB × Nat)) (c : Nat → PT HB → Nat → Bool) : Bool := match r with
  | some (.tup [.ptr a 0 0, .imm (.int .i64 z)], H, n) => z == 0 && c a H n
  | _ => false
theorem retP_spec {r : Option (DV × PT HB × Nat)} {c : Nat → PT HB → Nat → Bool} (h : retP r c = true) : ∃ a H n, r = some (.tup [.ptr a 0 0, .imm (.int .i64 0)], H, n) ∧ c a H n = true := by
  unfold retP at h
  split at h
  · simp only [Bool.and_eq_true, beq_iff_eq] at h
    obtain ⟨rfl, h⟩ := h
    exact ⟨_, _, _, rfl, h⟩
  · cases h
noncomputable def retB (r : Option DV) (c : DV → Bool) : Bool := match r with
  | some v => c v
  | none => false
theorem retB_spec {r : Option DV} {c : DV → Bool} (h : retB r c = true) : ∃ v, r = some v ∧ c v = true := by
  unfold retB at h
  split at h
  · exact ⟨_, rfl, h⟩
  · cases h

noncomputable def begin1 (K : Go.PM.Callee) : Bool :=
  retB (bl K 9 []) fun v => v.out && retP (K 8 [v] .lf 0 0) fun a H n => ret0 (K 10 [.ptr a 0 0, .imm (.int .i64 1), .imm (.int .i64 5)] H n 0) fun H n =>
    ret0 (K 11 [.ptr a 0 0] H n 0) fun H n => retI (K 12 [.ptr a 0 0] H n n) 0 fun _ n => retI (K 13 [.ptr a 0 0] H n n) 0 fun _ n =>
    retI (K 14 [.ptr a 0 0] H n 0) 0 fun H n => retI (K 14 [.ptr a 0 0] H n 0) 7 fun H n => isUb (H.get a) 1 0
theorem begin1_true : begin1 (KF 29) = true := by kernel_rfl
theorem begins : ∃ v a H0 n0 H1 n1 H2 n2 H3 n3 H4 n4 H5 n5 H6 n6, bl (K GG 29) 9 [] = some v ∧ K GG 29 8 [v] .lf 0 0 = some (.tup [.ptr a 0 0, .imm (.int .i64 0)], H0, n0) ∧
    K GG 29 10 [.ptr a 0 0, .imm (.int .i64 1), .imm (.int .i64 5)] H0 n0 0 = some (.tup [], H1, n1) ∧ K GG 29 11 [.ptr a 0 0] H1 n1 0 = some (.tup [], H2, n2) ∧
    K GG 29 12 [.ptr a 0 0] H2 n2 n2 = some (.imm (.int .i64 0), H3, n3) ∧ K GG 29 13 [.ptr a 0 0] H2 n3 n3 = some (.imm (.int .i64 0), H4, n4) ∧
    K GG 29 14 [.ptr a 0 0] H2 n4 0 = some (.imm (.int .i64 0), H5, n5) ∧ K GG 29 14 [.ptr a 0 0] H5 n5 0 = some (.imm (.int .i64 7), H6, n6) ∧ Ub H6 a 1 0 ∧ v.out = true := by
  have h := begin1_true
  rw [KF_eq] at h
  obtain ⟨v, e0, h⟩ := retB_spec h
  obtain ⟨ho, h⟩ := Bool.and_eq_true_iff.mp h
  obtain ⟨a, H0, n0, e1, h⟩ := retP_spec h
  obtain ⟨H1, n1, e2, h⟩ := ret0_spec h
  obtain ⟨H2, n2, e3, h⟩ := ret0_spec h
  obtain ⟨H3, n3, e4, h⟩ := retI_spec h
  obtain ⟨H4, n4, e5, h⟩ := retI_spec h
  obtain ⟨H5, n5, e6, h⟩ := retI_spec h
  obtain ⟨H6, n6, e7, h⟩ := retI_spec h
  exact ⟨v, a, H0, n0, H1, n1, H2, n2, H3, n3, H4, n4, H5, n5, H6, n6, e0, e1, e2, e3, e4, e5, e6, e7, isUb_spec h, ho⟩

/-! ### Ticks -/
def md (c : Nat) : Int := if c < 3 then 1 else 2
theorem mode_eq (d : Nat) {H : PT HB} {a : Nat} {m t : Int} (h : Ub H a m t) (n lo : Nat) : K GG (d + 1) 12 [.ptr a 0 0] H n lo = some (.imm (.int .i64 m), H, n) := by
  obtain ⟨v0, v1, v2, v5, v6, h⟩ := h
  rw [D.k12]
  simp only [D.f12, fn_run, run_seq, run_cond, run_block, run_reg, run_reg0, run_drw, run_skip, run_ret, run_exit, then_norm, then_ret, then_exit, cd_true, cd_false, block_norm, block_ret, block_exit, reg_nil, reg_cons, ops_nil, ops_cons, opsThen_nil, opsThen_cons, calm_some, res_norm, res_ret, fnEnd, argsT, opRun, PT.get_put, dstep, ev, evs, evO, give, giveI, binOf, isNilK, np_nilp, np_ptr, np_lref, np_cref, ns_nils, ns_lst, ns_sl, nf_nilf, nf_fnc, ni_nili, ni_iface, PM.flip, putT, putL, putH, bi_add, bi_sub, bi_mul, bi_eql, bi_neq, bi_lss, bi_leq, bi_gtr, bi_geq, callM, loadOf, storeOf, cut, over, ofCells, asNat, natOr, calm, clashes, Acc.clash, ressOf, resOf, out_agg, out_tup, out_fnc, outs_nil, outs_cons, len_nils, len_lst, len_sl, scal_fnc, frz, frz.frzs, snap, snap.snaps, DV.pure, DV.pure.pures, DV.flat, DV.flat.flats, un_not, un_neg, binStr, ansT, out_imm, out_ptr, out_sl, cells_imm, cells_ptr, cells_sl, cells_agg, scal_int, scal_bool, scal_str, scal_nils, scal_nilp, scal_lst, scal_ptr, scal_sl, Option.map, List.length_cons, List.length_nil, reduceIte, Nat.reduceEqDiff, Nat.reduceAdd]
  simp [h, run_seq, run_cond, run_block, run_reg, run_reg0, run_drw, run_skip, run_ret, run_exit, then_norm, then_ret, then_exit, cd_true, cd_false, block_norm, block_ret, block_exit, reg_nil, reg_cons, ops_nil, ops_cons, opsThen_nil, opsThen_cons, calm_some, res_norm, res_ret, fnEnd, argsT, opRun, PT.get_put, dstep, ev, evs, evO, give, giveI, binOf, isNilK, np_nilp, np_ptr, np_lref, np_cref, ns_nils, ns_lst, ns_sl, nf_nilf, nf_fnc, ni_nili, ni_iface, PM.flip, putT, putL, putH, bi_add, bi_sub, bi_mul, bi_eql, bi_neq, bi_lss, bi_leq, bi_gtr, bi_geq, callM, loadOf, storeOf, cut, over, ofCells, asNat, natOr, calm, clashes, Acc.clash, ressOf, resOf, out_agg, out_tup, out_fnc, outs_nil, outs_cons, len_nils, len_lst, len_sl, scal_fnc, frz, frz.frzs, snap, snap.snaps, DV.pure, DV.pure.pures, DV.flat, DV.flat.flats, un_not, un_neg, binStr, ansT, out_imm, out_ptr, out_sl, cells_imm, cells_ptr, cells_sl, cells_agg, scal_int, scal_bool, scal_str, scal_nils, scal_nilp, scal_lst, scal_ptr, scal_sl, Option.map, List.length_cons, List.length_nil, reduceIte, Nat.reduceEqDiff, Nat.reduceAdd]
theorem works_eq (d : Nat) {H : PT HB} {a : Nat} {t : Int} (h : Ub H a 2 t) (n lo : Nat) : K GG (d + 1) 26 [.ptr a 0 0] H n lo = some (.imm (.bool false), H, n) := by
  obtain ⟨v0, v1, v2, v5, v6, h⟩ := h
  rw [D.k26]
  simp only [D.f26, fn_run, run_seq, run_cond, run_block, run_reg, run_reg0, run_drw, run_skip, run_ret, run_exit, then_norm, then_ret, then_exit, cd_true, cd_false, block_norm, block_ret, block_exit, reg_nil, reg_cons, ops_nil, ops_cons, opsThen_nil, opsThen_cons, calm_some, res_norm, res_ret, fnEnd, argsT, opRun, PT.get_put, dstep, ev, evs, evO, give, giveI, binOf, isNilK, np_nilp, np_ptr, np_lref, np_cref, ns_nils, ns_lst, ns_sl, nf_nilf, nf_fnc, ni_nili, ni_iface, PM.flip, putT, putL, putH, bi_add, bi_sub, bi_mul, bi_eql, bi_neq, bi_lss, bi_leq, bi_gtr, bi_geq, callM, loadOf, storeOf, cut, over, ofCells, asNat, natOr, calm, clashes, Acc.clash, ressOf, resOf, out_agg, out_tup, out_fnc, outs_nil, outs_cons, len_nils, len_lst, len_sl, scal_fnc, frz, frz.frzs, snap, snap.snaps, DV.pure, DV.pure.pures, DV.flat, DV.flat.flats, un_not, un_neg, binStr, ansT, out_imm, out_ptr, out_sl, cells_imm, cells_ptr, cells_sl, cells_agg, scal_int, scal_bool, scal_str, scal_nils, scal_nilp, scal_lst, scal_ptr, scal_sl, Option.map, List.length_cons, List.length_nil, reduceIte, Nat.reduceEqDiff, Nat.reduceAdd]
  simp [h, run_seq, run_cond, run_block, run_reg, run_reg0, run_drw, run_skip, run_ret, run_exit, then_norm, then_ret, then_exit, cd_true, cd_false, block_norm, block_ret, block_exit, reg_nil, reg_cons, ops_nil, ops_cons, opsThen_nil, opsThen_cons, calm_some, res_norm, res_ret, fnEnd, argsT, opRun, PT.get_put, dstep, ev, evs, evO, give, giveI, binOf, isNilK, np_nilp, np_ptr, np_lref, np_cref, ns_nils, ns_lst, ns_sl, nf_nilf, nf_fnc, ni_nili, ni_iface, PM.flip, putT, putL, putH, bi_add, bi_sub, bi_mul, bi_eql, bi_neq, bi_lss, bi_leq, bi_gtr, bi_geq, callM, loadOf, storeOf, cut, over, ofCells, asNat, natOr, calm, clashes, Acc.clash, ressOf, resOf, out_agg, out_tup, out_fnc, outs_nil, outs_cons, len_nils, len_lst, len_sl, scal_fnc, frz, frz.frzs, snap, snap.snaps, DV.pure, DV.pure.pures, DV.flat, DV.flat.flats, un_not, un_neg, binStr, ansT, out_imm, out_ptr, out_sl, cells_imm, cells_ptr, cells_sl, cells_agg, scal_int, scal_bool, scal_str, scal_nils, scal_nilp, scal_lst, scal_ptr, scal_sl, Option.map, List.length_cons, List.length_nil, reduceIte, Nat.reduceEqDiff, Nat.reduceAdd]
theorem tick_eq (d : Nat) {H : PT HB} {a : Nat} {c : Nat} (hc : c ≤ 1000) (h : Ub H a (md c) c) (slow : Bool) (n : Nat) :
    ∃ H' n', K GG (d + 2) 15 [.ptr a 0 0, .imm (.bool slow)] H n 0 = some (.tup [], H', n') ∧ Ub H' a (md (if slow then c else c + 1)) ((if slow then c else c + 1 : Nat) : Int) := by
  have hw : IntKind.i64.wrap ((c : Int) + 1) = (c : Int) + 1 := wr_id (by omega) (by omega)
  have h' := h
  obtain ⟨v0, v1, v2, v5, v6, h⟩ := h
  rw [D.k15]
  by_cases h3 : c < 3
  · have e : md c = 1 := if_pos h3
    rw [e] at h
    cases slow with
    | true =>
      have h4 : ¬ (3 : Int) ≤ c := by omega
      have w : ∀ n lo, K GG (d + 1) 26 [.ptr a 0 0] H n lo = some (.imm (.bool false), H, n) := fun n lo => by
        rw [D.k26]
        simp only [D.f26, fn_run, run_seq, run_cond, run_block, run_reg, run_reg0, run_drw, run_skip, run_ret, run_exit, then_norm, then_ret, then_exit, cd_true, cd_false, block_norm, block_ret, block_exit, reg_nil, reg_cons, ops_nil, ops_cons, opsThen_nil, opsThen_cons, calm_some, res_norm, res_ret, fnEnd, argsT, opRun, PT.get_put, dstep, ev, evs, evO, give, giveI, binOf, isNilK, np_nilp, np_ptr, np_lref, np_cref, ns_nils, ns_lst, ns_sl, nf_nilf, nf_fnc, ni_nili, ni_iface, PM.flip, putT, putL, putH, bi_add, bi_sub, bi_mul, bi_eql, bi_neq, bi_lss, bi_leq, bi_gtr, bi_geq, callM, loadOf, storeOf, cut, over, ofCells, asNat, natOr, calm, clashes, Acc.clash, ressOf, resOf, out_agg, out_tup, out_fnc, outs_nil, outs_cons, len_nils, len_lst, len_sl, scal_fnc, frz, frz.frzs, snap, snap.snaps, DV.pure, DV.pure.pures, DV.flat, DV.flat.flats, un_not, un_neg, binStr, ansT, out_imm, out_ptr, out_sl, cells_imm, cells_ptr, cells_sl, cells_agg, scal_int, scal_bool, scal_str, scal_nils, scal_nilp, scal_lst, scal_ptr, scal_sl, Option.map, List.length_cons, List.length_nil, reduceIte, Nat.reduceEqDiff, Nat.reduceAdd]
        simp [h, run_seq, run_cond, run_block, run_reg, run_reg0, run_drw, run_skip, run_ret, run_exit, then_norm, then_ret, then_exit, cd_true, cd_false, block_norm, block_ret, block_exit, reg_nil, reg_cons, ops_nil, ops_cons, opsThen_nil, opsThen_cons, calm_some, res_norm, res_ret, fnEnd, argsT, opRun, PT.get_put, dstep, ev, evs, evO, give, giveI, binOf, isNilK, np_nilp, np_ptr, np_lref, np_cref, ns_nils, ns_lst, ns_sl, nf_nilf, nf_fnc, ni_nili, ni_iface, PM.flip, putT, putL, putH, bi_add, bi_sub, bi_mul, bi_eql, bi_neq, bi_lss, bi_leq, bi_gtr, bi_geq, callM, loadOf, storeOf, cut, over, ofCells, asNat, natOr, calm, clashes, Acc.clash, ressOf, resOf, out_agg, out_tup, out_fnc, outs_nil, outs_cons, len_nils, len_lst, len_sl, scal_fnc, frz, frz.frzs, snap, snap.snaps, DV.pure, DV.pure.pures, DV.flat, DV.flat.flats, un_not, un_neg, binStr, ansT, out_imm, out_ptr, out_sl, cells_imm, cells_ptr, cells_sl, cells_agg, scal_int, scal_bool, scal_str, scal_nils, scal_nilp, scal_lst, scal_ptr, scal_sl, Option.map, List.length_cons, List.length_nil, reduceIte, Nat.reduceEqDiff, Nat.reduceAdd]
      simp only [D.f15, fn_run, run_seq, run_cond, run_block, run_reg, run_reg0, run_drw, run_skip, run_ret, run_exit, then_norm, then_ret, then_exit, cd_true, cd_false, block_norm, block_ret, block_exit, reg_nil, reg_cons, ops_nil, ops_cons, opsThen_nil, opsThen_cons, calm_some, res_norm, res_ret, fnEnd, argsT, opRun, PT.get_put, dstep, ev, evs, evO, give, giveI, binOf, isNilK, np_nilp, np_ptr, np_lref, np_cref, ns_nils, ns_lst, ns_sl, nf_nilf, nf_fnc, ni_nili, ni_iface, PM.flip, putT, putL, putH, bi_add, bi_sub, bi_mul, bi_eql, bi_neq, bi_lss, bi_leq, bi_gtr, bi_geq, callM_bl, callM_ro, callM_eff, pures_nil, pures_cons, pure_imm, pure_agg, loadOf, storeOf, cut, over, ofCells, asNat, natOr, calm, clashes, Acc.clash, ressOf, resOf, out_agg, out_tup, out_fnc, outs_nil, outs_cons, len_nils, len_lst, len_sl, scal_fnc, frz, frz.frzs, DV.flat, DV.flat.flats, un_not, un_neg, binStr, ansT, out_imm, out_ptr, out_sl, cells_imm, cells_ptr, cells_sl, cells_agg, scal_int, scal_bool, scal_str, scal_nils, scal_nilp, scal_lst, scal_ptr, scal_sl, Option.map, List.length_cons, List.length_nil, reduceIte, Nat.reduceEqDiff, Nat.reduceAdd]
      simp [h, h4, w, e, run_seq, run_cond, run_block, run_reg, run_reg0, run_drw, run_skip, run_ret, run_exit, then_norm, then_ret, then_exit, cd_true, cd_false, block_norm, block_ret, block_exit, reg_nil, reg_cons, ops_nil, ops_cons, opsThen_nil, opsThen_cons, calm_some, res_norm, res_ret, fnEnd, argsT, opRun, PT.get_put, dstep, ev, evs, evO, give, giveI, binOf, isNilK, np_nilp, np_ptr, np_lref, np_cref, ns_nils, ns_lst, ns_sl, nf_nilf, nf_fnc, ni_nili, ni_iface, PM.flip, putT, putL, putH, bi_add, bi_sub, bi_mul, bi_eql, bi_neq, bi_lss, bi_leq, bi_gtr, bi_geq, callM_bl, callM_ro, callM_eff, pures_nil, pures_cons, pure_imm, pure_agg, loadOf, storeOf, cut, over, ofCells, asNat, natOr, calm, clashes, Acc.clash, ressOf, resOf, out_agg, out_tup, out_fnc, outs_nil, outs_cons, len_nils, len_lst, len_sl, scal_fnc, frz, frz.frzs, DV.flat, DV.flat.flats, un_not, un_neg, binStr, ansT, out_imm, out_ptr, out_sl, cells_imm, cells_ptr, cells_sl, cells_agg, scal_int, scal_bool, scal_str, scal_nils, scal_nilp, scal_lst, scal_ptr, scal_sl, Option.map, List.length_cons, List.length_nil, reduceIte, Nat.reduceEqDiff, Nat.reduceAdd]
      exact ⟨v0, v1, v2, v5, v6, by simpa [e] using h⟩
    | false =>
      by_cases h2 : c < 2
      · have h4 : ¬ (3 : Int) ≤ c + 1 := by omega
        have e2 : md (c + 1) = 1 := if_pos (by omega)
        have w : ∀ n lo, K GG (d + 1) 26 [.ptr a 0 0] (H.put a (some ⟨7, [[v0, v1, v2, .imm (.int .i64 1), .imm (.int .i64 (c + 1)), v5, v6]]⟩)) n lo = some (.imm (.bool false), H.put a (some ⟨7, [[v0, v1, v2, .imm (.int .i64 1), .imm (.int .i64 (c + 1)), v5, v6]]⟩), n) := fun n lo => by
          rw [D.k26]
          simp only [D.f26, fn_run, run_seq, run_cond, run_block, run_reg, run_reg0, run_drw, run_skip, run_ret, run_exit, then_norm, then_ret, then_exit, cd_true, cd_false, block_norm, block_ret, block_exit, reg_nil, reg_cons, ops_nil, ops_cons, opsThen_nil, opsThen_cons, calm_some, res_norm, res_ret, fnEnd, argsT, opRun, PT.get_put, dstep, ev, evs, evO, give, giveI, binOf, isNilK, np_nilp, np_ptr, np_lref, np_cref, ns_nils, ns_lst, ns_sl, nf_nilf, nf_fnc, ni_nili, ni_iface, PM.flip, putT, putL, putH, bi_add, bi_sub, bi_mul, bi_eql, bi_neq, bi_lss, bi_leq, bi_gtr, bi_geq, callM, loadOf, storeOf, cut, over, ofCells, asNat, natOr, calm, clashes, Acc.clash, ressOf, resOf, out_agg, out_tup, out_fnc, outs_nil, outs_cons, len_nils, len_lst, len_sl, scal_fnc, frz, frz.frzs, snap, snap.snaps, DV.pure, DV.pure.pures, DV.flat, DV.flat.flats, un_not, un_neg, binStr, ansT, out_imm, out_ptr, out_sl, cells_imm, cells_ptr, cells_sl, cells_agg, scal_int, scal_bool, scal_str, scal_nils, scal_nilp, scal_lst, scal_ptr, scal_sl, Option.map, List.length_cons, List.length_nil, reduceIte, Nat.reduceEqDiff, Nat.reduceAdd]
          simp [run_seq, run_cond, run_block, run_reg, run_reg0, run_drw, run_skip, run_ret, run_exit, then_norm, then_ret, then_exit, cd_true, cd_false, block_norm, block_ret, block_exit, reg_nil, reg_cons, ops_nil, ops_cons, opsThen_nil, opsThen_cons, calm_some, res_norm, res_ret, fnEnd, argsT, opRun, PT.get_put, dstep, ev, evs, evO, give, giveI, binOf, isNilK, np_nilp, np_ptr, np_lref, np_cref, ns_nils, ns_lst, ns_sl, nf_nilf, nf_fnc, ni_nili, ni_iface, PM.flip, putT, putL, putH, bi_add, bi_sub, bi_mul, bi_eql, bi_neq, bi_lss, bi_leq, bi_gtr, bi_geq, callM, loadOf, storeOf, cut, over, ofCells, asNat, natOr, calm, clashes, Acc.clash, ressOf, resOf, out_agg, out_tup, out_fnc, outs_nil, outs_cons, len_nils, len_lst, len_sl, scal_fnc, frz, frz.frzs, snap, snap.snaps, DV.pure, DV.pure.pures, DV.flat, DV.flat.flats, un_not, un_neg, binStr, ansT, out_imm, out_ptr, out_sl, cells_imm, cells_ptr, cells_sl, cells_agg, scal_int, scal_bool, scal_str, scal_nils, scal_nilp, scal_lst, scal_ptr, scal_sl, Option.map, List.length_cons, List.length_nil, reduceIte, Nat.reduceEqDiff, Nat.reduceAdd]
        simp only [D.f15, fn_run, run_seq, run_cond, run_block, run_reg, run_reg0, run_drw, run_skip, run_ret, run_exit, then_norm, then_ret, then_exit, cd_true, cd_false, block_norm, block_ret, block_exit, reg_nil, reg_cons, ops_nil, ops_cons, opsThen_nil, opsThen_cons, calm_some, res_norm, res_ret, fnEnd, argsT, opRun, PT.get_put, dstep, ev, evs, evO, give, giveI, binOf, isNilK, np_nilp, np_ptr, np_lref, np_cref, ns_nils, ns_lst, ns_sl, nf_nilf, nf_fnc, ni_nili, ni_iface, PM.flip, putT, putL, putH, bi_add, bi_sub, bi_mul, bi_eql, bi_neq, bi_lss, bi_leq, bi_gtr, bi_geq, callM_bl, callM_ro, callM_eff, pures_nil, pures_cons, pure_imm, pure_agg, loadOf, storeOf, cut, over, ofCells, asNat, natOr, calm, clashes, Acc.clash, ressOf, resOf, out_agg, out_tup, out_fnc, outs_nil, outs_cons, len_nils, len_lst, len_sl, scal_fnc, frz, frz.frzs, DV.flat, DV.flat.flats, un_not, un_neg, binStr, ansT, out_imm, out_ptr, out_sl, cells_imm, cells_ptr, cells_sl, cells_agg, scal_int, scal_bool, scal_str, scal_nils, scal_nilp, scal_lst, scal_ptr, scal_sl, Option.map, List.length_cons, List.length_nil, reduceIte, Nat.reduceEqDiff, Nat.reduceAdd]
        simp [h, hw, h4, w, run_seq, run_cond, run_block, run_reg, run_reg0, run_drw, run_skip, run_ret, run_exit, then_norm, then_ret, then_exit, cd_true, cd_false, block_norm, block_ret, block_exit, reg_nil, reg_cons, ops_nil, ops_cons, opsThen_nil, opsThen_cons, calm_some, res_norm, res_ret, fnEnd, argsT, opRun, PT.get_put, dstep, ev, evs, evO, give, giveI, binOf, isNilK, np_nilp, np_ptr, np_lref, np_cref, ns_nils, ns_lst, ns_sl, nf_nilf, nf_fnc, ni_nili, ni_iface, PM.flip, putT, putL, putH, bi_add, bi_sub, bi_mul, bi_eql, bi_neq, bi_lss, bi_leq, bi_gtr, bi_geq, callM_bl, callM_ro, callM_eff, pures_nil, pures_cons, pure_imm, pure_agg, loadOf, storeOf, cut, over, ofCells, asNat, natOr, calm, clashes, Acc.clash, ressOf, resOf, out_agg, out_tup, out_fnc, outs_nil, outs_cons, len_nils, len_lst, len_sl, scal_fnc, frz, frz.frzs, DV.flat, DV.flat.flats, un_not, un_neg, binStr, ansT, out_imm, out_ptr, out_sl, cells_imm, cells_ptr, cells_sl, cells_agg, scal_int, scal_bool, scal_str, scal_nils, scal_nilp, scal_lst, scal_ptr, scal_sl, Option.map, List.length_cons, List.length_nil, reduceIte, Nat.reduceEqDiff, Nat.reduceAdd]
        exact ⟨v0, v1, v2, v5, v6, by rw [e2]; simp [PT.get_put]⟩
      · have h4 : (3 : Int) ≤ c + 1 := by omega
        have e2 : md (c + 1) = 2 := if_neg (by omega)
        simp only [D.f15, fn_run, run_seq, run_cond, run_block, run_reg, run_reg0, run_drw, run_skip, run_ret, run_exit, then_norm, then_ret, then_exit, cd_true, cd_false, block_norm, block_ret, block_exit, reg_nil, reg_cons, ops_nil, ops_cons, opsThen_nil, opsThen_cons, calm_some, res_norm, res_ret, fnEnd, argsT, opRun, PT.get_put, dstep, ev, evs, evO, give, giveI, binOf, isNilK, np_nilp, np_ptr, np_lref, np_cref, ns_nils, ns_lst, ns_sl, nf_nilf, nf_fnc, ni_nili, ni_iface, PM.flip, putT, putL, putH, bi_add, bi_sub, bi_mul, bi_eql, bi_neq, bi_lss, bi_leq, bi_gtr, bi_geq, callM_bl, callM_ro, callM_eff, pures_nil, pures_cons, pure_imm, pure_agg, loadOf, storeOf, cut, over, ofCells, asNat, natOr, calm, clashes, Acc.clash, ressOf, resOf, out_agg, out_tup, out_fnc, outs_nil, outs_cons, len_nils, len_lst, len_sl, scal_fnc, frz, frz.frzs, DV.flat, DV.flat.flats, un_not, un_neg, binStr, ansT, out_imm, out_ptr, out_sl, cells_imm, cells_ptr, cells_sl, cells_agg, scal_int, scal_bool, scal_str, scal_nils, scal_nilp, scal_lst, scal_ptr, scal_sl, Option.map, List.length_cons, List.length_nil, reduceIte, Nat.reduceEqDiff, Nat.reduceAdd]
        simp [h, hw, h4, run_seq, run_cond, run_block, run_reg, run_reg0, run_drw, run_skip, run_ret, run_exit, then_norm, then_ret, then_exit, cd_true, cd_false, block_norm, block_ret, block_exit, reg_nil, reg_cons, ops_nil, ops_cons, opsThen_nil, opsThen_cons, calm_some, res_norm, res_ret, fnEnd, argsT, opRun, PT.get_put, dstep, ev, evs, evO, give, giveI, binOf, isNilK, np_nilp, np_ptr, np_lref, np_cref, ns_nils, ns_lst, ns_sl, nf_nilf, nf_fnc, ni_nili, ni_iface, PM.flip, putT, putL, putH, bi_add, bi_sub, bi_mul, bi_eql, bi_neq, bi_lss, bi_leq, bi_gtr, bi_geq, callM_bl, callM_ro, callM_eff, pures_nil, pures_cons, pure_imm, pure_agg, loadOf, storeOf, cut, over, ofCells, asNat, natOr, calm, clashes, Acc.clash, ressOf, resOf, out_agg, out_tup, out_fnc, outs_nil, outs_cons, len_nils, len_lst, len_sl, scal_fnc, frz, frz.frzs, DV.flat, DV.flat.flats, un_not, un_neg, binStr, ansT, out_imm, out_ptr, out_sl, cells_imm, cells_ptr, cells_sl, cells_agg, scal_int, scal_bool, scal_str, scal_nils, scal_nilp, scal_lst, scal_ptr, scal_sl, Option.map, List.length_cons, List.length_nil, reduceIte, Nat.reduceEqDiff, Nat.reduceAdd]
        exact ⟨v0, v1, v2, v5, v6, by rw [e2]; simp [PT.get_put]⟩
  · have e : md c = 2 := if_neg h3
    rw [e] at h h'
    cases slow with
    | true =>
      have w := works_eq d h'
      simp only [D.f15, fn_run, run_seq, run_cond, run_block, run_reg, run_reg0, run_drw, run_skip, run_ret, run_exit, then_norm, then_ret, then_exit, cd_true, cd_false, block_norm, block_ret, block_exit, reg_nil, reg_cons, ops_nil, ops_cons, opsThen_nil, opsThen_cons, calm_some, res_norm, res_ret, fnEnd, argsT, opRun, PT.get_put, dstep, ev, evs, evO, give, giveI, binOf, isNilK, np_nilp, np_ptr, np_lref, np_cref, ns_nils, ns_lst, ns_sl, nf_nilf, nf_fnc, ni_nili, ni_iface, PM.flip, putT, putL, putH, bi_add, bi_sub, bi_mul, bi_eql, bi_neq, bi_lss, bi_leq, bi_gtr, bi_geq, callM_bl, callM_ro, callM_eff, pures_nil, pures_cons, pure_imm, pure_agg, loadOf, storeOf, cut, over, ofCells, asNat, natOr, calm, clashes, Acc.clash, ressOf, resOf, out_agg, out_tup, out_fnc, outs_nil, outs_cons, len_nils, len_lst, len_sl, scal_fnc, frz, frz.frzs, DV.flat, DV.flat.flats, un_not, un_neg, binStr, ansT, out_imm, out_ptr, out_sl, cells_imm, cells_ptr, cells_sl, cells_agg, scal_int, scal_bool, scal_str, scal_nils, scal_nilp, scal_lst, scal_ptr, scal_sl, Option.map, List.length_cons, List.length_nil, reduceIte, Nat.reduceEqDiff, Nat.reduceAdd]
      simp [h, w, e, run_seq, run_cond, run_block, run_reg, run_reg0, run_drw, run_skip, run_ret, run_exit, then_norm, then_ret, then_exit, cd_true, cd_false, block_norm, block_ret, block_exit, reg_nil, reg_cons, ops_nil, ops_cons, opsThen_nil, opsThen_cons, calm_some, res_norm, res_ret, fnEnd, argsT, opRun, PT.get_put, dstep, ev, evs, evO, give, giveI, binOf, isNilK, np_nilp, np_ptr, np_lref, np_cref, ns_nils, ns_lst, ns_sl, nf_nilf, nf_fnc, ni_nili, ni_iface, PM.flip, putT, putL, putH, bi_add, bi_sub, bi_mul, bi_eql, bi_neq, bi_lss, bi_leq, bi_gtr, bi_geq, callM_bl, callM_ro, callM_eff, pures_nil, pures_cons, pure_imm, pure_agg, loadOf, storeOf, cut, over, ofCells, asNat, natOr, calm, clashes, Acc.clash, ressOf, resOf, out_agg, out_tup, out_fnc, outs_nil, outs_cons, len_nils, len_lst, len_sl, scal_fnc, frz, frz.frzs, DV.flat, DV.flat.flats, un_not, un_neg, binStr, ansT, out_imm, out_ptr, out_sl, cells_imm, cells_ptr, cells_sl, cells_agg, scal_int, scal_bool, scal_str, scal_nils, scal_nilp, scal_lst, scal_ptr, scal_sl, Option.map, List.length_cons, List.length_nil, reduceIte, Nat.reduceEqDiff, Nat.reduceAdd]
      exact ⟨v0, v1, v2, v5, v6, by simpa [e] using h⟩
    | false =>
      have e2 : md (c + 1) = 2 := if_neg (by omega)
      have w : ∀ n lo, K GG (d + 1) 26 [.ptr a 0 0] (H.put a (some ⟨7, [[v0, v1, v2, .imm (.int .i64 2), .imm (.int .i64 (c + 1)), v5, v6]]⟩)) n lo = some (.imm (.bool false), H.put a (some ⟨7, [[v0, v1, v2, .imm (.int .i64 2), .imm (.int .i64 (c + 1)), v5, v6]]⟩), n) := fun n lo =>
        works_eq d (t := c + 1) ⟨v0, v1, v2, v5, v6, by simp [PT.get_put]⟩ n lo
      simp only [D.f15, fn_run, run_seq, run_cond, run_block, run_reg, run_reg0, run_drw, run_skip, run_ret, run_exit, then_norm, then_ret, then_exit, cd_true, cd_false, block_norm, block_ret, block_exit, reg_nil, reg_cons, ops_nil, ops_cons, opsThen_nil, opsThen_cons, calm_some, res_norm, res_ret, fnEnd, argsT, opRun, PT.get_put, dstep, ev, evs, evO, give, giveI, binOf, isNilK, np_nilp, np_ptr, np_lref, np_cref, ns_nils, ns_lst, ns_sl, nf_nilf, nf_fnc, ni_nili, ni_iface, PM.flip, putT, putL, putH, bi_add, bi_sub, bi_mul, bi_eql, bi_neq, bi_lss, bi_leq, bi_gtr, bi_geq, callM_bl, callM_ro, callM_eff, pures_nil, pures_cons, pure_imm, pure_agg, loadOf, storeOf, cut, over, ofCells, asNat, natOr, calm, clashes, Acc.clash, ressOf, resOf, out_agg, out_tup, out_fnc, outs_nil, outs_cons, len_nils, len_lst, len_sl, scal_fnc, frz, frz.frzs, DV.flat, DV.flat.flats, un_not, un_neg, binStr, ansT, out_imm, out_ptr, out_sl, cells_imm, cells_ptr, cells_sl, cells_agg, scal_int, scal_bool, scal_str, scal_nils, scal_nilp, scal_lst, scal_ptr, scal_sl, Option.map, List.length_cons, List.length_nil, reduceIte, Nat.reduceEqDiff, Nat.reduceAdd]
      simp [h, hw, w, run_seq, run_cond, run_block, run_reg, run_reg0, run_drw, run_skip, run_ret, run_exit, then_norm, then_ret, then_exit, cd_true, cd_false, block_norm, block_ret, block_exit, reg_nil, reg_cons, ops_nil, ops_cons, opsThen_nil, opsThen_cons, calm_some, res_norm, res_ret, fnEnd, argsT, opRun, PT.get_put, dstep, ev, evs, evO, give, giveI, binOf, isNilK, np_nilp, np_ptr, np_lref, np_cref, ns_nils, ns_lst, ns_sl, nf_nilf, nf_fnc, ni_nili, ni_iface, PM.flip, putT, putL, putH, bi_add, bi_sub, bi_mul, bi_eql, bi_neq, bi_lss, bi_leq, bi_gtr, bi_geq, callM_bl, callM_ro, callM_eff, pures_nil, pures_cons, pure_imm, pure_agg, loadOf, storeOf, cut, over, ofCells, asNat, natOr, calm, clashes, Acc.clash, ressOf, resOf, out_agg, out_tup, out_fnc, outs_nil, outs_cons, len_nils, len_lst, len_sl, scal_fnc, frz, frz.frzs, DV.flat, DV.flat.flats, un_not, un_neg, binStr, ansT, out_imm, out_ptr, out_sl, cells_imm, cells_ptr, cells_sl, cells_agg, scal_int, scal_bool, scal_str, scal_nils, scal_nilp, scal_lst, scal_ptr, scal_sl, Option.map, List.length_cons, List.length_nil, reduceIte, Nat.reduceEqDiff, Nat.reduceAdd]
      exact ⟨v0, v1, v2, v5, v6, by rw [e2]; simp [PT.get_put]⟩

/-! ### The law -/
def ivB (b : Bool) : List IV := [.bool b]
theorem bools_of_fit {iv : IV} (h : FitK (.sl [.b]) iv) : iv = .nils ∨ ∃ zs : List Bool, iv = .lst false 1 (zs.map ivB) ∧ zs.length ≤ reachBytes := by
  cases h with
  | nil => exact .inl rfl
  | sl hm hl hk =>
    rename_i es
    right
    have : ∀ e : List IV, ∃ z : Bool, e ∈ es → e = ivB z := fun e => by
      by_cases he : e ∈ es
      · obtain ⟨i, hi⟩ := List.getElem?_of_mem he
        have h1 := hl e he
        match e, h1 with
        | [x], _ =>
          have := hk i 0 [x] _ x hi rfl rfl
          cases this
          exact ⟨_, fun _ => rfl⟩
      · exact ⟨false, fun h => absurd h he⟩
    obtain ⟨f, hf⟩ := Classical.axiomOfChoice this
    refine ⟨es.map f, ?_, by simpa using hm⟩
    congr 1
    rw [List.map_map]
    exact ((List.map_congr_left (fun e he => (hf e he).symm)).trans (List.map_id es)).symm

def IB (es : List (List IV)) (a i : Nat) (s : St) : Prop :=
  s.T.get 0 = some (.imm (.lst false 1 es)) ∧ s.T.get 3 = some (.ptr a 0 0) ∧ ∃ c : Nat, c ≤ i ∧ s.T.get 5 = some (.imm (.int .i64 c)) ∧ s.T.get 6 = some (.imm (.int .i64 i)) ∧ Ub s.H a (md c) c
theorem roundB {zs : List Bool} (hl : zs.length ≤ 40) {a i : Nat} {s : St} (h : IB (zs.map ivB) a i s) (hi : i < zs.length) :
    ∃ s', D.l3_0b.run GG (K GG 29) 0 ⟨keep s.T [0, 3, 5, 6], keep s.L [], s.H, s.n⟩ = some (.norm, s') ∧ IB (zs.map ivB) a (i + 1) s' := by
  obtain ⟨h0, h3, c, hc, h5, h6, hu⟩ := h
  have hi' : (i : Int) < zs.length := by omega
  have hz : zs[i]? = some zs[i] := List.getElem?_eq_getElem hi
  generalize hze : zs[i] = z at hz
  have hw : IntKind.i64.wrap ((i : Int) + 1) = (i : Int) + 1 := wr_id (by omega) (by omega)
  have hwc : IntKind.i64.wrap ((c : Int) + 1) = (c : Int) + 1 := wr_id (by omega) (by omega)
  have hm := mode_eq 28 hu
  obtain ⟨H', n', et, hu'⟩ := tick_eq 27 (by omega) hu z s.n
  by_cases h3c : c < 3
  · have e : md c = 1 := if_pos h3c
    have h4 : (c : Int) < 3 := by omega
    have h4' : ¬ (3 : Int) ≤ c := by omega
    rw [e] at hm
    cases z with
    | true =>
      simp only [D.l3_0b, keep, run_seq, run_cond, run_block, run_reg, run_reg0, run_drw, run_skip, run_ret, run_exit, then_norm, then_ret, then_exit, cd_true, cd_false, block_norm, block_ret, block_exit, reg_nil, reg_cons, ops_nil, ops_cons, opsThen_nil, opsThen_cons, calm_some, res_norm, res_ret, fnEnd, argsT, opRun, PT.get_put, dstep, ev, evs, evO, give, giveI, binOf, isNilK, np_nilp, np_ptr, np_lref, np_cref, ns_nils, ns_lst, ns_sl, nf_nilf, nf_fnc, ni_nili, ni_iface, PM.flip, putT, putL, putH, bi_add, bi_sub, bi_mul, bi_eql, bi_neq, bi_lss, bi_leq, bi_gtr, bi_geq, callM_bl, callM_ro, callM_eff, pures_nil, pures_cons, pure_imm, pure_agg, loadOf, storeOf, cut, over, ofCells, asNat, natOr, calm, clashes, Acc.clash, ressOf, resOf, out_agg, out_tup, out_fnc, outs_nil, outs_cons, len_nils, len_lst, len_sl, scal_fnc, frz, frz.frzs, DV.flat, DV.flat.flats, un_not, un_neg, binStr, ansT, out_imm, out_ptr, out_sl, cells_imm, cells_ptr, cells_sl, cells_agg, scal_int, scal_bool, scal_str, scal_nils, scal_nilp, scal_lst, scal_ptr, scal_sl, Option.map, List.length_cons, List.length_nil, reduceIte, Nat.reduceEqDiff, Nat.reduceAdd]
      simp [h0, h3, h5, h6, hi', hi, hz, hze, hw, h4, h4', hm, et, ivB, imms, run_seq, run_cond, run_block, run_reg, run_reg0, run_drw, run_skip, run_ret, run_exit, then_norm, then_ret, then_exit, cd_true, cd_false, block_norm, block_ret, block_exit, reg_nil, reg_cons, ops_nil, ops_cons, opsThen_nil, opsThen_cons, calm_some, res_norm, res_ret, fnEnd, argsT, opRun, PT.get_put, dstep, ev, evs, evO, give, giveI, binOf, isNilK, np_nilp, np_ptr, np_lref, np_cref, ns_nils, ns_lst, ns_sl, nf_nilf, nf_fnc, ni_nili, ni_iface, PM.flip, putT, putL, putH, bi_add, bi_sub, bi_mul, bi_eql, bi_neq, bi_lss, bi_leq, bi_gtr, bi_geq, callM_bl, callM_ro, callM_eff, pures_nil, pures_cons, pure_imm, pure_agg, loadOf, storeOf, cut, over, ofCells, asNat, natOr, calm, clashes, Acc.clash, ressOf, resOf, out_agg, out_tup, out_fnc, outs_nil, outs_cons, len_nils, len_lst, len_sl, scal_fnc, frz, frz.frzs, DV.flat, DV.flat.flats, un_not, un_neg, binStr, ansT, out_imm, out_ptr, out_sl, cells_imm, cells_ptr, cells_sl, cells_agg, scal_int, scal_bool, scal_str, scal_nils, scal_nilp, scal_lst, scal_ptr, scal_sl, Option.map, List.length_cons, List.length_nil, reduceIte, Nat.reduceEqDiff, Nat.reduceAdd]
      exact ⟨by simp [PT.get_put, h0, ivB], by simp [PT.get_put, h3], c, by omega, by simp [PT.get_put, h5], by simp [PT.get_put], by simpa using hu'⟩
    | false =>
      simp only [D.l3_0b, keep, run_seq, run_cond, run_block, run_reg, run_reg0, run_drw, run_skip, run_ret, run_exit, then_norm, then_ret, then_exit, cd_true, cd_false, block_norm, block_ret, block_exit, reg_nil, reg_cons, ops_nil, ops_cons, opsThen_nil, opsThen_cons, calm_some, res_norm, res_ret, fnEnd, argsT, opRun, PT.get_put, dstep, ev, evs, evO, give, giveI, binOf, isNilK, np_nilp, np_ptr, np_lref, np_cref, ns_nils, ns_lst, ns_sl, nf_nilf, nf_fnc, ni_nili, ni_iface, PM.flip, putT, putL, putH, bi_add, bi_sub, bi_mul, bi_eql, bi_neq, bi_lss, bi_leq, bi_gtr, bi_geq, callM_bl, callM_ro, callM_eff, pures_nil, pures_cons, pure_imm, pure_agg, loadOf, storeOf, cut, over, ofCells, asNat, natOr, calm, clashes, Acc.clash, ressOf, resOf, out_agg, out_tup, out_fnc, outs_nil, outs_cons, len_nils, len_lst, len_sl, scal_fnc, frz, frz.frzs, DV.flat, DV.flat.flats, un_not, un_neg, binStr, ansT, out_imm, out_ptr, out_sl, cells_imm, cells_ptr, cells_sl, cells_agg, scal_int, scal_bool, scal_str, scal_nils, scal_nilp, scal_lst, scal_ptr, scal_sl, Option.map, List.length_cons, List.length_nil, reduceIte, Nat.reduceEqDiff, Nat.reduceAdd]
      simp [h0, h3, h5, h6, hi', hi, hz, hze, hw, hwc, h4, h4', hm, et, ivB, imms, run_seq, run_cond, run_block, run_reg, run_reg0, run_drw, run_skip, run_ret, run_exit, then_norm, then_ret, then_exit, cd_true, cd_false, block_norm, block_ret, block_exit, reg_nil, reg_cons, ops_nil, ops_cons, opsThen_nil, opsThen_cons, calm_some, res_norm, res_ret, fnEnd, argsT, opRun, PT.get_put, dstep, ev, evs, evO, give, giveI, binOf, isNilK, np_nilp, np_ptr, np_lref, np_cref, ns_nils, ns_lst, ns_sl, nf_nilf, nf_fnc, ni_nili, ni_iface, PM.flip, putT, putL, putH, bi_add, bi_sub, bi_mul, bi_eql, bi_neq, bi_lss, bi_leq, bi_gtr, bi_geq, callM_bl, callM_ro, callM_eff, pures_nil, pures_cons, pure_imm, pure_agg, loadOf, storeOf, cut, over, ofCells, asNat, natOr, calm, clashes, Acc.clash, ressOf, resOf, out_agg, out_tup, out_fnc, outs_nil, outs_cons, len_nils, len_lst, len_sl, scal_fnc, frz, frz.frzs, DV.flat, DV.flat.flats, un_not, un_neg, binStr, ansT, out_imm, out_ptr, out_sl, cells_imm, cells_ptr, cells_sl, cells_agg, scal_int, scal_bool, scal_str, scal_nils, scal_nilp, scal_lst, scal_ptr, scal_sl, Option.map, List.length_cons, List.length_nil, reduceIte, Nat.reduceEqDiff, Nat.reduceAdd]
      exact ⟨by simp [PT.get_put, h0, ivB], by simp [PT.get_put, h3], c + 1, by omega, by simp [PT.get_put], by simp [PT.get_put], by simpa using hu'⟩
  · have e : md c = 2 := if_neg h3c
    have h4 : ¬ (c : Int) < 3 := by omega
    have h4' : (3 : Int) ≤ c := by omega
    rw [e] at hm
    cases z with
    | true =>
      simp only [D.l3_0b, keep, run_seq, run_cond, run_block, run_reg, run_reg0, run_drw, run_skip, run_ret, run_exit, then_norm, then_ret, then_exit, cd_true, cd_false, block_norm, block_ret, block_exit, reg_nil, reg_cons, ops_nil, ops_cons, opsThen_nil, opsThen_cons, calm_some, res_norm, res_ret, fnEnd, argsT, opRun, PT.get_put, dstep, ev, evs, evO, give, giveI, binOf, isNilK, np_nilp, np_ptr, np_lref, np_cref, ns_nils, ns_lst, ns_sl, nf_nilf, nf_fnc, ni_nili, ni_iface, PM.flip, putT, putL, putH, bi_add, bi_sub, bi_mul, bi_eql, bi_neq, bi_lss, bi_leq, bi_gtr, bi_geq, callM_bl, callM_ro, callM_eff, pures_nil, pures_cons, pure_imm, pure_agg, loadOf, storeOf, cut, over, ofCells, asNat, natOr, calm, clashes, Acc.clash, ressOf, resOf, out_agg, out_tup, out_fnc, outs_nil, outs_cons, len_nils, len_lst, len_sl, scal_fnc, frz, frz.frzs, DV.flat, DV.flat.flats, un_not, un_neg, binStr, ansT, out_imm, out_ptr, out_sl, cells_imm, cells_ptr, cells_sl, cells_agg, scal_int, scal_bool, scal_str, scal_nils, scal_nilp, scal_lst, scal_ptr, scal_sl, Option.map, List.length_cons, List.length_nil, reduceIte, Nat.reduceEqDiff, Nat.reduceAdd]
      simp [h0, h3, h5, h6, hi', hi, hz, hze, hw, h4, h4', hm, et, ivB, imms, run_seq, run_cond, run_block, run_reg, run_reg0, run_drw, run_skip, run_ret, run_exit, then_norm, then_ret, then_exit, cd_true, cd_false, block_norm, block_ret, block_exit, reg_nil, reg_cons, ops_nil, ops_cons, opsThen_nil, opsThen_cons, calm_some, res_norm, res_ret, fnEnd, argsT, opRun, PT.get_put, dstep, ev, evs, evO, give, giveI, binOf, isNilK, np_nilp, np_ptr, np_lref, np_cref, ns_nils, ns_lst, ns_sl, nf_nilf, nf_fnc, ni_nili, ni_iface, PM.flip, putT, putL, putH, bi_add, bi_sub, bi_mul, bi_eql, bi_neq, bi_lss, bi_leq, bi_gtr, bi_geq, callM_bl, callM_ro, callM_eff, pures_nil, pures_cons, pure_imm, pure_agg, loadOf, storeOf, cut, over, ofCells, asNat, natOr, calm, clashes, Acc.clash, ressOf, resOf, out_agg, out_tup, out_fnc, outs_nil, outs_cons, len_nils, len_lst, len_sl, scal_fnc, frz, frz.frzs, DV.flat, DV.flat.flats, un_not, un_neg, binStr, ansT, out_imm, out_ptr, out_sl, cells_imm, cells_ptr, cells_sl, cells_agg, scal_int, scal_bool, scal_str, scal_nils, scal_nilp, scal_lst, scal_ptr, scal_sl, Option.map, List.length_cons, List.length_nil, reduceIte, Nat.reduceEqDiff, Nat.reduceAdd]
      exact ⟨by simp [PT.get_put, h0, ivB], by simp [PT.get_put, h3], c, by omega, by simp [PT.get_put, h5], by simp [PT.get_put], by simpa using hu'⟩
    | false =>
      simp only [D.l3_0b, keep, run_seq, run_cond, run_block, run_reg, run_reg0, run_drw, run_skip, run_ret, run_exit, then_norm, then_ret, then_exit, cd_true, cd_false, block_norm, block_ret, block_exit, reg_nil, reg_cons, ops_nil, ops_cons, opsThen_nil, opsThen_cons, calm_some, res_norm, res_ret, fnEnd, argsT, opRun, PT.get_put, dstep, ev, evs, evO, give, giveI, binOf, isNilK, np_nilp, np_ptr, np_lref, np_cref, ns_nils, ns_lst, ns_sl, nf_nilf, nf_fnc, ni_nili, ni_iface, PM.flip, putT, putL, putH, bi_add, bi_sub, bi_mul, bi_eql, bi_neq, bi_lss, bi_leq, bi_gtr, bi_geq, callM_bl, callM_ro, callM_eff, pures_nil, pures_cons, pure_imm, pure_agg, loadOf, storeOf, cut, over, ofCells, asNat, natOr, calm, clashes, Acc.clash, ressOf, resOf, out_agg, out_tup, out_fnc, outs_nil, outs_cons, len_nils, len_lst, len_sl, scal_fnc, frz, frz.frzs, DV.flat, DV.flat.flats, un_not, un_neg, binStr, ansT, out_imm, out_ptr, out_sl, cells_imm, cells_ptr, cells_sl, cells_agg, scal_int, scal_bool, scal_str, scal_nils, scal_nilp, scal_lst, scal_ptr, scal_sl, Option.map, List.length_cons, List.length_nil, reduceIte, Nat.reduceEqDiff, Nat.reduceAdd]
      simp [h0, h3, h5, h6, hi', hi, hz, hze, hw, hwc, h4, h4', hm, et, ivB, imms, run_seq, run_cond, run_block, run_reg, run_reg0, run_drw, run_skip, run_ret, run_exit, then_norm, then_ret, then_exit, cd_true, cd_false, block_norm, block_ret, block_exit, reg_nil, reg_cons, ops_nil, ops_cons, opsThen_nil, opsThen_cons, calm_some, res_norm, res_ret, fnEnd, argsT, opRun, PT.get_put, dstep, ev, evs, evO, give, giveI, binOf, isNilK, np_nilp, np_ptr, np_lref, np_cref, ns_nils, ns_lst, ns_sl, nf_nilf, nf_fnc, ni_nili, ni_iface, PM.flip, putT, putL, putH, bi_add, bi_sub, bi_mul, bi_eql, bi_neq, bi_lss, bi_leq, bi_gtr, bi_geq, callM_bl, callM_ro, callM_eff, pures_nil, pures_cons, pure_imm, pure_agg, loadOf, storeOf, cut, over, ofCells, asNat, natOr, calm, clashes, Acc.clash, ressOf, resOf, out_agg, out_tup, out_fnc, outs_nil, outs_cons, len_nils, len_lst, len_sl, scal_fnc, frz, frz.frzs, DV.flat, DV.flat.flats, un_not, un_neg, binStr, ansT, out_imm, out_ptr, out_sl, cells_imm, cells_ptr, cells_sl, cells_agg, scal_int, scal_bool, scal_str, scal_nils, scal_nilp, scal_lst, scal_ptr, scal_sl, Option.map, List.length_cons, List.length_nil, reduceIte, Nat.reduceEqDiff, Nat.reduceAdd]
      exact ⟨by simp [PT.get_put, h0, ivB], by simp [PT.get_put, h3], c + 1, by omega, by simp [PT.get_put], by simp [PT.get_put], by simpa using hu'⟩
theorem loopB {zs : List Bool} (hl : zs.length ≤ 40) {a : Nat} {s : St} (h : IB (zs.map ivB) a 0 s) : ∃ s', D.l3_0.run GG (K GG 29) 0 s = some (.exit 0, s') := by
  obtain ⟨e, s', q1, rfl⟩ := rng_loop (G := GG) (K := K GG 29) (lo := 0) (live := [0, 3, 5, 6]) (own := []) (b := D.l3_0b) (N := zs.length) (by unfold LOOP; omega) (IB (zs.map ivB) a) (fun e s' => e = .exit 0)
    (fun i s hI hle => by
      by_cases hi : i < zs.length
      · exact .inl ⟨hi, roundB hl hI hi⟩
      · right
        obtain rfl : i = zs.length := by omega
        obtain ⟨h0, h3, c, hc, h5, h6, hu⟩ := hI
        refine ⟨.exit 0, ?_⟩
        simp only [D.l3_0b, keep, run_seq, run_cond, run_block, run_reg, run_reg0, run_drw, run_skip, run_ret, run_exit, then_norm, then_ret, then_exit, cd_true, cd_false, block_norm, block_ret, block_exit, reg_nil, reg_cons, ops_nil, ops_cons, opsThen_nil, opsThen_cons, calm_some, res_norm, res_ret, fnEnd, argsT, opRun, PT.get_put, dstep, ev, evs, evO, give, giveI, binOf, isNilK, np_nilp, np_ptr, np_lref, np_cref, ns_nils, ns_lst, ns_sl, nf_nilf, nf_fnc, ni_nili, ni_iface, PM.flip, putT, putL, putH, bi_add, bi_sub, bi_mul, bi_eql, bi_neq, bi_lss, bi_leq, bi_gtr, bi_geq, callM_bl, callM_ro, callM_eff, pures_nil, pures_cons, pure_imm, pure_agg, loadOf, storeOf, cut, over, ofCells, asNat, natOr, calm, clashes, Acc.clash, ressOf, resOf, out_agg, out_tup, out_fnc, outs_nil, outs_cons, len_nils, len_lst, len_sl, scal_fnc, frz, frz.frzs, DV.flat, DV.flat.flats, un_not, un_neg, binStr, ansT, out_imm, out_ptr, out_sl, cells_imm, cells_ptr, cells_sl, cells_agg, scal_int, scal_bool, scal_str, scal_nils, scal_nilp, scal_lst, scal_ptr, scal_sl, Option.map, List.length_cons, List.length_nil, reduceIte, Nat.reduceEqDiff, Nat.reduceAdd]
        simp [h0, h3, h5, h6, run_seq, run_cond, run_block, run_reg, run_reg0, run_drw, run_skip, run_ret, run_exit, then_norm, then_ret, then_exit, cd_true, cd_false, block_norm, block_ret, block_exit, reg_nil, reg_cons, ops_nil, ops_cons, opsThen_nil, opsThen_cons, calm_some, res_norm, res_ret, fnEnd, argsT, opRun, PT.get_put, dstep, ev, evs, evO, give, giveI, binOf, isNilK, np_nilp, np_ptr, np_lref, np_cref, ns_nils, ns_lst, ns_sl, nf_nilf, nf_fnc, ni_nili, ni_iface, PM.flip, putT, putL, putH, bi_add, bi_sub, bi_mul, bi_eql, bi_neq, bi_lss, bi_leq, bi_gtr, bi_geq, callM_bl, callM_ro, callM_eff, pures_nil, pures_cons, pure_imm, pure_agg, loadOf, storeOf, cut, over, ofCells, asNat, natOr, calm, clashes, Acc.clash, ressOf, resOf, out_agg, out_tup, out_fnc, outs_nil, outs_cons, len_nils, len_lst, len_sl, scal_fnc, frz, frz.frzs, DV.flat, DV.flat.flats, un_not, un_neg, binStr, ansT, out_imm, out_ptr, out_sl, cells_imm, cells_ptr, cells_sl, cells_agg, scal_int, scal_bool, scal_str, scal_nils, scal_nilp, scal_lst, scal_ptr, scal_sl, Option.map, List.length_cons, List.length_nil, reduceIte, Nat.reduceEqDiff, Nat.reduceAdd]) s h
  exact ⟨s', q1⟩

def ss_UnitBoots : List (Bool × List Kd) := [(false, [.sl [.b]])]
theorem pure_UnitBoots : ∀ cs, ArgsFit ss_UnitBoots cs → ∃ H' n', K GG 30 3 cs .lf 0 0 = some (.imm (.bool true), H', n') := fun cs h0 => by
  obtain ⟨d0, r0, rfl, g0, h1⟩ := fit_cons h0
  cases fit0 (r := []) h1
  obtain ⟨x, rfl, hx⟩ := fit_s g0
  obtain ⟨v, a, H0, n0, H1, n1, H2, n2, H3, n3, H4, n4, H5, n5, H6, n6, e0, e1, e2, e3, e4, e5, e6, e7, hu, hvo⟩ := begins
  have ek := known12
  rw [D.k3]
  rcases bools_of_fit hx with rfl | ⟨zs, rfl, hzl⟩
  · obtain ⟨k, hL⟩ : ∃ k, LOOP = k + 1 := ⟨2 ^ 62 - 1, rfl⟩
    simp only [D.f3, D.l3_0, fn_run, run_loop, hL, callM_b0, run_seq, run_cond, run_block, run_reg, run_reg0, run_drw, run_skip, run_ret, run_exit, then_norm, then_ret, then_exit, cd_true, cd_false, block_norm, block_ret, block_exit, reg_nil, reg_cons, ops_nil, ops_cons, opsThen_nil, opsThen_cons, calm_some, res_norm, res_ret, fnEnd, argsT, opRun, PT.get_put, dstep, ev, evs, evO, give, giveI, binOf, isNilK, np_nilp, np_ptr, np_lref, np_cref, ns_nils, ns_lst, ns_sl, nf_nilf, nf_fnc, ni_nili, ni_iface, PM.flip, putT, putL, putH, bi_add, bi_sub, bi_mul, bi_eql, bi_neq, bi_lss, bi_leq, bi_gtr, bi_geq, callM_bl, callM_ro, callM_eff, pures_nil, pures_cons, pure_imm, pure_agg, loadOf, storeOf, cut, over, ofCells, asNat, natOr, calm, clashes, Acc.clash, ressOf, resOf, out_agg, out_tup, out_fnc, outs_nil, outs_cons, len_nils, len_lst, len_sl, scal_fnc, frz, frz.frzs, DV.flat, DV.flat.flats, un_not, un_neg, binStr, ansT, out_imm, out_ptr, out_sl, cells_imm, cells_ptr, cells_sl, cells_agg, scal_int, scal_bool, scal_str, scal_nils, scal_nilp, scal_lst, scal_ptr, scal_sl, Option.map, List.length_cons, List.length_nil, reduceIte, Nat.reduceEqDiff, Nat.reduceAdd]
    simp [e0, e1, e2, e3, e4, e5, e6, e7, ek, hvo, D.l3_0, D.l3_0b, run_loop, hL, iter, loopRun_eq, keep, callM_b0, run_seq, run_cond, run_block, run_reg, run_reg0, run_drw, run_skip, run_ret, run_exit, then_norm, then_ret, then_exit, cd_true, cd_false, block_norm, block_ret, block_exit, reg_nil, reg_cons, ops_nil, ops_cons, opsThen_nil, opsThen_cons, calm_some, res_norm, res_ret, fnEnd, argsT, opRun, PT.get_put, dstep, ev, evs, evO, give, giveI, binOf, isNilK, np_nilp, np_ptr, np_lref, np_cref, ns_nils, ns_lst, ns_sl, nf_nilf, nf_fnc, ni_nili, ni_iface, PM.flip, putT, putL, putH, bi_add, bi_sub, bi_mul, bi_eql, bi_neq, bi_lss, bi_leq, bi_gtr, bi_geq, callM_bl, callM_ro, callM_eff, pures_nil, pures_cons, pure_imm, pure_agg, loadOf, storeOf, cut, over, ofCells, asNat, natOr, calm, clashes, Acc.clash, ressOf, resOf, out_agg, out_tup, out_fnc, outs_nil, outs_cons, len_nils, len_lst, len_sl, scal_fnc, frz, frz.frzs, DV.flat, DV.flat.flats, un_not, un_neg, binStr, ansT, out_imm, out_ptr, out_sl, cells_imm, cells_ptr, cells_sl, cells_agg, scal_int, scal_bool, scal_str, scal_nils, scal_nilp, scal_lst, scal_ptr, scal_sl, Option.map, List.length_cons, List.length_nil, reduceIte, Nat.reduceEqDiff, Nat.reduceAdd]
  · by_cases hA : 40 < zs.length
    · have hA' : (40 : Int) < zs.length := by omega
      simp only [D.f3, fn_run, callM_b0, run_seq, run_cond, run_block, run_reg, run_reg0, run_drw, run_skip, run_ret, run_exit, then_norm, then_ret, then_exit, cd_true, cd_false, block_norm, block_ret, block_exit, reg_nil, reg_cons, ops_nil, ops_cons, opsThen_nil, opsThen_cons, calm_some, res_norm, res_ret, fnEnd, argsT, opRun, PT.get_put, dstep, ev, evs, evO, give, giveI, binOf, isNilK, np_nilp, np_ptr, np_lref, np_cref, ns_nils, ns_lst, ns_sl, nf_nilf, nf_fnc, ni_nili, ni_iface, PM.flip, putT, putL, putH, bi_add, bi_sub, bi_mul, bi_eql, bi_neq, bi_lss, bi_leq, bi_gtr, bi_geq, callM_bl, callM_ro, callM_eff, pures_nil, pures_cons, pure_imm, pure_agg, loadOf, storeOf, cut, over, ofCells, asNat, natOr, calm, clashes, Acc.clash, ressOf, resOf, out_agg, out_tup, out_fnc, outs_nil, outs_cons, len_nils, len_lst, len_sl, scal_fnc, frz, frz.frzs, DV.flat, DV.flat.flats, un_not, un_neg, binStr, ansT, out_imm, out_ptr, out_sl, cells_imm, cells_ptr, cells_sl, cells_agg, scal_int, scal_bool, scal_str, scal_nils, scal_nilp, scal_lst, scal_ptr, scal_sl, Option.map, List.length_cons, List.length_nil, reduceIte, Nat.reduceEqDiff, Nat.reduceAdd]
      simp [hA, hA', callM_b0, run_seq, run_cond, run_block, run_reg, run_reg0, run_drw, run_skip, run_ret, run_exit, then_norm, then_ret, then_exit, cd_true, cd_false, block_norm, block_ret, block_exit, reg_nil, reg_cons, ops_nil, ops_cons, opsThen_nil, opsThen_cons, calm_some, res_norm, res_ret, fnEnd, argsT, opRun, PT.get_put, dstep, ev, evs, evO, give, giveI, binOf, isNilK, np_nilp, np_ptr, np_lref, np_cref, ns_nils, ns_lst, ns_sl, nf_nilf, nf_fnc, ni_nili, ni_iface, PM.flip, putT, putL, putH, bi_add, bi_sub, bi_mul, bi_eql, bi_neq, bi_lss, bi_leq, bi_gtr, bi_geq, callM_bl, callM_ro, callM_eff, pures_nil, pures_cons, pure_imm, pure_agg, loadOf, storeOf, cut, over, ofCells, asNat, natOr, calm, clashes, Acc.clash, ressOf, resOf, out_agg, out_tup, out_fnc, outs_nil, outs_cons, len_nils, len_lst, len_sl, scal_fnc, frz, frz.frzs, DV.flat, DV.flat.flats, un_not, un_neg, binStr, ansT, out_imm, out_ptr, out_sl, cells_imm, cells_ptr, cells_sl, cells_agg, scal_int, scal_bool, scal_str, scal_nils, scal_nilp, scal_lst, scal_ptr, scal_sl, Option.map, List.length_cons, List.length_nil, reduceIte, Nat.reduceEqDiff, Nat.reduceAdd]
    have hA' : ¬ (40 : Int) < zs.length := by omega
    simp only [D.f3, fn_run, callM_b0, run_seq, run_cond, run_block, run_reg, run_reg0, run_drw, run_skip, run_ret, run_exit, then_norm, then_ret, then_exit, cd_true, cd_false, block_norm, block_ret, block_exit, reg_nil, reg_cons, ops_nil, ops_cons, opsThen_nil, opsThen_cons, calm_some, res_norm, res_ret, fnEnd, argsT, opRun, PT.get_put, dstep, ev, evs, evO, give, giveI, binOf, isNilK, np_nilp, np_ptr, np_lref, np_cref, ns_nils, ns_lst, ns_sl, nf_nilf, nf_fnc, ni_nili, ni_iface, PM.flip, putT, putL, putH, bi_add, bi_sub, bi_mul, bi_eql, bi_neq, bi_lss, bi_leq, bi_gtr, bi_geq, callM_bl, callM_ro, callM_eff, pures_nil, pures_cons, pure_imm, pure_agg, loadOf, storeOf, cut, over, ofCells, asNat, natOr, calm, clashes, Acc.clash, ressOf, resOf, out_agg, out_tup, out_fnc, outs_nil, outs_cons, len_nils, len_lst, len_sl, scal_fnc, frz, frz.frzs, DV.flat, DV.flat.flats, un_not, un_neg, binStr, ansT, out_imm, out_ptr, out_sl, cells_imm, cells_ptr, cells_sl, cells_agg, scal_int, scal_bool, scal_str, scal_nils, scal_nilp, scal_lst, scal_ptr, scal_sl, Option.map, List.length_cons, List.length_nil, reduceIte, Nat.reduceEqDiff, Nat.reduceAdd]
    simp [hA, hA', e0, e1, e2, e3, e4, e5, e6, e7, hvo, callM_b0, run_seq, run_cond, run_block, run_reg, run_reg0, run_drw, run_skip, run_ret, run_exit, then_norm, then_ret, then_exit, cd_true, cd_false, block_norm, block_ret, block_exit, reg_nil, reg_cons, ops_nil, ops_cons, opsThen_nil, opsThen_cons, calm_some, res_norm, res_ret, fnEnd, argsT, opRun, PT.get_put, dstep, ev, evs, evO, give, giveI, binOf, isNilK, np_nilp, np_ptr, np_lref, np_cref, ns_nils, ns_lst, ns_sl, nf_nilf, nf_fnc, ni_nili, ni_iface, PM.flip, putT, putL, putH, bi_add, bi_sub, bi_mul, bi_eql, bi_neq, bi_lss, bi_leq, bi_gtr, bi_geq, callM_bl, callM_ro, callM_eff, pures_nil, pures_cons, pure_imm, pure_agg, loadOf, storeOf, cut, over, ofCells, asNat, natOr, calm, clashes, Acc.clash, ressOf, resOf, out_agg, out_tup, out_fnc, outs_nil, outs_cons, len_nils, len_lst, len_sl, scal_fnc, frz, frz.frzs, DV.flat, DV.flat.flats, un_not, un_neg, binStr, ansT, out_imm, out_ptr, out_sl, cells_imm, cells_ptr, cells_sl, cells_agg, scal_int, scal_bool, scal_str, scal_nils, scal_nilp, scal_lst, scal_ptr, scal_sl, Option.map, List.length_cons, List.length_nil, reduceIte, Nat.reduceEqDiff, Nat.reduceAdd]
    generalize hrun : D.l3_0.run GG (K GG 29) 0 _ = r
    obtain ⟨s', rfl⟩ : ∃ s', r = some (.exit 0, s') := by
      rw [← hrun]
      exact loopB (zs := zs) (a := a) (by omega) ⟨by simp [PT.get_put], by simp [PT.get_put], 0, Nat.le_refl _, by simp [PT.get_put], by simp [PT.get_put], hu⟩
    clear hrun
    simp [ek, callM_b0, run_seq, run_cond, run_block, run_reg, run_reg0, run_drw, run_skip, run_ret, run_exit, then_norm, then_ret, then_exit, cd_true, cd_false, block_norm, block_ret, block_exit, reg_nil, reg_cons, ops_nil, ops_cons, opsThen_nil, opsThen_cons, calm_some, res_norm, res_ret, fnEnd, argsT, opRun, PT.get_put, dstep, ev, evs, evO, give, giveI, binOf, isNilK, np_nilp, np_ptr, np_lref, np_cref, ns_nils, ns_lst, ns_sl, nf_nilf, nf_fnc, ni_nili, ni_iface, PM.flip, putT, putL, putH, bi_add, bi_sub, bi_mul, bi_eql, bi_neq, bi_lss, bi_leq, bi_gtr, bi_geq, callM_bl, callM_ro, callM_eff, pures_nil, pures_cons, pure_imm, pure_agg, loadOf, storeOf, cut, over, ofCells, asNat, natOr, calm, clashes, Acc.clash, ressOf, resOf, out_agg, out_tup, out_fnc, outs_nil, outs_cons, len_nils, len_lst, len_sl, scal_fnc, frz, frz.frzs, DV.flat, DV.flat.flats, un_not, un_neg, binStr, ansT, out_imm, out_ptr, out_sl, cells_imm, cells_ptr, cells_sl, cells_agg, scal_int, scal_bool, scal_str, scal_nils, scal_nilp, scal_lst, scal_ptr, scal_sl, Option.map, List.length_cons, List.length_nil, reduceIte, Nat.reduceEqDiff, Nat.reduceAdd]
end Go.Proofs.YtnpcgejfkonfdaaDoor.D
