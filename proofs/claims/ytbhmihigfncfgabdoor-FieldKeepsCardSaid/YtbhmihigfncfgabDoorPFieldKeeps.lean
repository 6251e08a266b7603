/-
  FieldKeeps over D: a point that is not driven, or driven to where it lies, stays.
-/
import Derived.Test.YtbhmihigfncfgabDoorFld2
set_option linter.unusedVariables false
set_option linter.unusedSimpArgs false
set_option maxHeartbeats 8000000
namespace Go.Proofs.YtbhmihigfncfgabDoor.D
open Go Go.PM

theorem bools_of_fit {iv : IV} (h : FitK (.sl [.b]) iv) : iv = .nils ∨ ∃ zs : List Bool, iv = .lst false 1 (zs.map ivB) := by
  cases h with
  | nil => exact .inl rfl
  | sl hm hl hk =>
    rename_i es
    right
    have : ∀ e : List IV, ∃ z : Bool, e ∈ es → e = ivB z := fun e => by
      by_cases he : e ∈ es
      · obtain ⟨i, hi⟩ := List.getElem?_of_mem he
        have h1 := hl e he
        match e, h1 with
        | [x], _ =>
          have := hk i 0 [x] _ x hi rfl rfl
          cases this
          exact ⟨_, fun _ => rfl⟩
      · exact ⟨false, fun h => absurd h he⟩
    obtain ⟨f, hf⟩ := Classical.axiomOfChoice this
    refine ⟨es.map f, ?_⟩
    congr 1
    rw [List.map_map]
    exact ((List.map_congr_left (fun e he => (hf e he).symm)).trans (List.map_id es)).symm

def IK (es : List (List IV)) (i : Nat) (s : St) : Prop :=
  s.T.get 0 = some (.imm (.lst false 1 es)) ∧ s.T.get 3 = some (.ptr 2 0 0) ∧ s.T.get 5 = some (.imm (.int .i64 i)) ∧ 5 ≤ s.n ∧ Fd s.H 2 [1, 4] [false] [⟨1, 0, 0⟩]

theorem roundK (zs : List Bool) (hlen : zs.length ≤ 60) (i : Nat) (s : St) (h : IK (zs.map ivB) i s) (hi : i < zs.length) :
    ∃ s', D.l3_0b.run GG (K GG 29) 0 ⟨keep s.T [0, 3, 5], keep s.L [], s.H, s.n⟩ = some (.norm, s') ∧ IK (zs.map ivB) (i + 1) s' := by
  obtain ⟨h0, h3, h5, hn, hf⟩ := h
  have hi' : (i : Int) < zs.length := by omega
  have hz : zs[i]? = some zs[i] := List.getElem?_eq_getElem hi
  generalize hze : zs[i] = z at hz
  have hw : IntKind.i64.wrap ((i : Int) + 1) = (i : Int) + 1 := wr_id (by omega) (by omega)
  cases z with
  | true =>
    obtain ⟨H', n', e1, f1, m1, n2, e2, m2⟩ := step_one hf 1 hn
    have e : drivenP ⟨1, 0, 0⟩ 1 = ⟨1, 0, 0⟩ := rfl
    rw [e] at f1 e2
    simp only [D.l3_0b, keep, run_seq, run_cond, run_block, run_reg, run_reg0, run_drw, run_skip, run_ret, run_exit, then_norm, then_ret, then_exit, cd_true, cd_false, block_norm, block_ret, block_exit, reg_nil, reg_cons, ops_nil, ops_cons, opsThen_nil, opsThen_cons, calm_some, res_norm, res_ret, fnEnd, argsT, opRun, PT.get_put, dstep, ev, evs, evO, give, giveI, binOf, isNilK, np_nilp, np_ptr, np_lref, np_cref, ns_nils, ns_lst, ns_sl, nf_nilf, nf_fnc, ni_nili, ni_iface, PM.flip, putT, putL, putH, binInt, callM_eff, loadOf, storeOf, cut, over, ofCells, asNat, natOr, calm, clashes, Acc.clash, ressOf, resOf, out_agg, out_tup, out_fnc, outs_nil, outs_cons, len_nils, len_lst, len_sl, scal_fnc, frz, frz.frzs, snap, snap.snaps, DV.pure, DV.pure.pures, DV.flat, DV.flat.flats, unOf, binStr, ansT, out_imm, out_ptr, out_sl, cells_imm, cells_ptr, cells_sl, cells_agg, scal_int, scal_bool, scal_str, scal_nils, scal_nilp, scal_lst, scal_ptr, scal_sl, Option.map, List.length_cons, List.length_nil, reduceIte, Nat.reduceEqDiff, Nat.reduceAdd]
    simp [h0, h3, h5, hi', hi, hz, hze, hw, e1, e2, ivB, imms, evParts2, lay, rowsN, unImms, unImm, mapO, run_seq, run_cond, run_block, run_reg, run_reg0, run_drw, run_skip, run_ret, run_exit, then_norm, then_ret, then_exit, cd_true, cd_false, block_norm, block_ret, block_exit, reg_nil, reg_cons, ops_nil, ops_cons, opsThen_nil, opsThen_cons, calm_some, res_norm, res_ret, fnEnd, argsT, opRun, PT.get_put, dstep, ev, evs, evO, give, giveI, binOf, isNilK, np_nilp, np_ptr, np_lref, np_cref, ns_nils, ns_lst, ns_sl, nf_nilf, nf_fnc, ni_nili, ni_iface, PM.flip, putT, putL, putH, binInt, callM_eff, loadOf, storeOf, cut, over, ofCells, asNat, natOr, calm, clashes, Acc.clash, ressOf, resOf, out_agg, out_tup, out_fnc, outs_nil, outs_cons, len_nils, len_lst, len_sl, scal_fnc, frz, frz.frzs, snap, snap.snaps, DV.pure, DV.pure.pures, DV.flat, DV.flat.flats, unOf, binStr, ansT, out_imm, out_ptr, out_sl, cells_imm, cells_ptr, cells_sl, cells_agg, scal_int, scal_bool, scal_str, scal_nils, scal_nilp, scal_lst, scal_ptr, scal_sl, Option.map, List.length_cons, List.length_nil, reduceIte, Nat.reduceEqDiff, Nat.reduceAdd]
    refine ⟨?_, ?_, ?_, ?_, f1⟩ <;> simp [PT.get_put, h0, h3]
    omega
  | false =>
    obtain ⟨H', n', e1, f1, m1, n2, e2, m2⟩ := step_one hf 0 hn
    have e : drivenP ⟨1, 0, 0⟩ 0 = ⟨1, 0, 0⟩ := rfl
    rw [e] at f1 e2
    simp only [D.l3_0b, keep, run_seq, run_cond, run_block, run_reg, run_reg0, run_drw, run_skip, run_ret, run_exit, then_norm, then_ret, then_exit, cd_true, cd_false, block_norm, block_ret, block_exit, reg_nil, reg_cons, ops_nil, ops_cons, opsThen_nil, opsThen_cons, calm_some, res_norm, res_ret, fnEnd, argsT, opRun, PT.get_put, dstep, ev, evs, evO, give, giveI, binOf, isNilK, np_nilp, np_ptr, np_lref, np_cref, ns_nils, ns_lst, ns_sl, nf_nilf, nf_fnc, ni_nili, ni_iface, PM.flip, putT, putL, putH, binInt, callM_eff, loadOf, storeOf, cut, over, ofCells, asNat, natOr, calm, clashes, Acc.clash, ressOf, resOf, out_agg, out_tup, out_fnc, outs_nil, outs_cons, len_nils, len_lst, len_sl, scal_fnc, frz, frz.frzs, snap, snap.snaps, DV.pure, DV.pure.pures, DV.flat, DV.flat.flats, unOf, binStr, ansT, out_imm, out_ptr, out_sl, cells_imm, cells_ptr, cells_sl, cells_agg, scal_int, scal_bool, scal_str, scal_nils, scal_nilp, scal_lst, scal_ptr, scal_sl, Option.map, List.length_cons, List.length_nil, reduceIte, Nat.reduceEqDiff, Nat.reduceAdd]
    simp [h0, h3, h5, hi', hi, hz, hze, hw, e1, e2, ivB, imms, evParts2, lay, rowsN, unImms, unImm, mapO, run_seq, run_cond, run_block, run_reg, run_reg0, run_drw, run_skip, run_ret, run_exit, then_norm, then_ret, then_exit, cd_true, cd_false, block_norm, block_ret, block_exit, reg_nil, reg_cons, ops_nil, ops_cons, opsThen_nil, opsThen_cons, calm_some, res_norm, res_ret, fnEnd, argsT, opRun, PT.get_put, dstep, ev, evs, evO, give, giveI, binOf, isNilK, np_nilp, np_ptr, np_lref, np_cref, ns_nils, ns_lst, ns_sl, nf_nilf, nf_fnc, ni_nili, ni_iface, PM.flip, putT, putL, putH, binInt, callM_eff, loadOf, storeOf, cut, over, ofCells, asNat, natOr, calm, clashes, Acc.clash, ressOf, resOf, out_agg, out_tup, out_fnc, outs_nil, outs_cons, len_nils, len_lst, len_sl, scal_fnc, frz, frz.frzs, snap, snap.snaps, DV.pure, DV.pure.pures, DV.flat, DV.flat.flats, unOf, binStr, ansT, out_imm, out_ptr, out_sl, cells_imm, cells_ptr, cells_sl, cells_agg, scal_int, scal_bool, scal_str, scal_nils, scal_nilp, scal_lst, scal_ptr, scal_sl, Option.map, List.length_cons, List.length_nil, reduceIte, Nat.reduceEqDiff, Nat.reduceAdd]
    refine ⟨?_, ?_, ?_, ?_, f1⟩ <;> simp [PT.get_put, h0, h3]
    omega

theorem loopK (zs : List Bool) (hlen : zs.length ≤ 60) (s : St) (h : IK (zs.map ivB) 0 s) : ∃ s', D.l3_0.run GG (K GG 29) 0 s = some (.exit 0, s') := by
  obtain ⟨e, s', q1, q2, rfl⟩ := iter_ind (f := loopRun GG (K GG 29) 0 [0, 3, 5] [] D.l3_0b) (fun m s => ∃ i : Nat, IK (zs.map ivB) i s ∧ m = zs.length - i) (fun e s' => e = .exit 0)
    (fun m s ⟨i, hI, hm⟩ => by
      by_cases hi : i < zs.length
      · obtain ⟨s', e1, e2⟩ := roundK zs hlen i s hI hi
        exact .inl ⟨s', _, e1, by omega, i + 1, e2, rfl⟩
      · obtain ⟨h0, h3, h5, hn, hf⟩ := hI
        have hi' : ¬ (i : Int) < zs.length := by omega
        refine .inr ⟨.exit 0, ?_⟩
        simp only [loopRun_eq, D.l3_0b, keep, run_seq, run_cond, run_block, run_reg, run_reg0, run_drw, run_skip, run_ret, run_exit, then_norm, then_ret, then_exit, cd_true, cd_false, block_norm, block_ret, block_exit, reg_nil, reg_cons, ops_nil, ops_cons, opsThen_nil, opsThen_cons, calm_some, res_norm, res_ret, fnEnd, argsT, opRun, PT.get_put, dstep, ev, evs, evO, give, giveI, binOf, isNilK, np_nilp, np_ptr, np_lref, np_cref, ns_nils, ns_lst, ns_sl, nf_nilf, nf_fnc, ni_nili, ni_iface, PM.flip, putT, putL, putH, binInt, callM_eff, loadOf, storeOf, cut, over, ofCells, asNat, natOr, calm, clashes, Acc.clash, ressOf, resOf, out_agg, out_tup, out_fnc, outs_nil, outs_cons, len_nils, len_lst, len_sl, scal_fnc, frz, frz.frzs, snap, snap.snaps, DV.pure, DV.pure.pures, DV.flat, DV.flat.flats, unOf, binStr, ansT, out_imm, out_ptr, out_sl, cells_imm, cells_ptr, cells_sl, cells_agg, scal_int, scal_bool, scal_str, scal_nils, scal_nilp, scal_lst, scal_ptr, scal_sl, Option.map, List.length_cons, List.length_nil, reduceIte, Nat.reduceEqDiff, Nat.reduceAdd]
        simp [h0, h3, h5, hi', hi, run_seq, run_cond, run_block, run_reg, run_reg0, run_drw, run_skip, run_ret, run_exit, then_norm, then_ret, then_exit, cd_true, cd_false, block_norm, block_ret, block_exit, reg_nil, reg_cons, ops_nil, ops_cons, opsThen_nil, opsThen_cons, calm_some, res_norm, res_ret, fnEnd, argsT, opRun, PT.get_put, dstep, ev, evs, evO, give, giveI, binOf, isNilK, np_nilp, np_ptr, np_lref, np_cref, ns_nils, ns_lst, ns_sl, nf_nilf, nf_fnc, ni_nili, ni_iface, PM.flip, putT, putL, putH, binInt, callM_eff, loadOf, storeOf, cut, over, ofCells, asNat, natOr, calm, clashes, Acc.clash, ressOf, resOf, out_agg, out_tup, out_fnc, outs_nil, outs_cons, len_nils, len_lst, len_sl, scal_fnc, frz, frz.frzs, snap, snap.snaps, DV.pure, DV.pure.pures, DV.flat, DV.flat.flats, unOf, binStr, ansT, out_imm, out_ptr, out_sl, cells_imm, cells_ptr, cells_sl, cells_agg, scal_int, scal_bool, scal_str, scal_nils, scal_nilp, scal_lst, scal_ptr, scal_sl, Option.map, List.length_cons, List.length_nil, reduceIte, Nat.reduceEqDiff, Nat.reduceAdd]) zs.length LOOP s ⟨0, h, by omega⟩ (by unfold LOOP; omega)
  exact ⟨s', q1⟩

def ss_FieldKeeps : List (Bool × List Kd) := [(false, [.sl [.b]])]
theorem pure_FieldKeeps : ∀ cs, ArgsFit ss_FieldKeeps cs → ∃ H' n', K GG 30 3 cs .lf 0 0 = some (.imm (.bool true), H', n') := fun cs h0 => by
  obtain ⟨d0, r0, rfl, g0, h1⟩ := fit_cons h0
  cases fit0 (r := []) h1
  obtain ⟨a, rfl, ha⟩ := fit_s g0
  obtain ⟨v, H0, hv, e1, e2, hf⟩ := new_one
  have ek := known6
  rw [D.k3]
  rcases bools_of_fit ha with rfl | ⟨zs, rfl⟩
  · obtain ⟨k, hL⟩ : ∃ k, LOOP = k + 1 := ⟨2 ^ 62 - 1, rfl⟩
    simp only [D.f3, D.l3_0, fn_run, run_loop, hL, run_seq, run_cond, run_block, run_reg, run_reg0, run_drw, run_skip, run_ret, run_exit, then_norm, then_ret, then_exit, cd_true, cd_false, block_norm, block_ret, block_exit, reg_nil, reg_cons, ops_nil, ops_cons, opsThen_nil, opsThen_cons, calm_some, res_norm, res_ret, fnEnd, argsT, opRun, PT.get_put, dstep, ev, evs, evO, give, giveI, binOf, isNilK, np_nilp, np_ptr, np_lref, np_cref, ns_nils, ns_lst, ns_sl, nf_nilf, nf_fnc, ni_nili, ni_iface, PM.flip, putT, putL, putH, binInt, callM_eff, loadOf, storeOf, cut, over, ofCells, asNat, natOr, calm, clashes, Acc.clash, ressOf, resOf, out_agg, out_tup, out_fnc, outs_nil, outs_cons, len_nils, len_lst, len_sl, scal_fnc, frz, frz.frzs, snap, snap.snaps, DV.pure, DV.pure.pures, DV.flat, DV.flat.flats, unOf, binStr, ansT, out_imm, out_ptr, out_sl, cells_imm, cells_ptr, cells_sl, cells_agg, scal_int, scal_bool, scal_str, scal_nils, scal_nilp, scal_lst, scal_ptr, scal_sl, Option.map, List.length_cons, List.length_nil, reduceIte, Nat.reduceEqDiff, Nat.reduceAdd]
    simp [e1, e2, ek, hv, D.l3_0, D.l3_0b, run_loop, hL, iter, loopRun_eq, keep, run_seq, run_cond, run_block, run_reg, run_reg0, run_drw, run_skip, run_ret, run_exit, then_norm, then_ret, then_exit, cd_true, cd_false, block_norm, block_ret, block_exit, reg_nil, reg_cons, ops_nil, ops_cons, opsThen_nil, opsThen_cons, calm_some, res_norm, res_ret, fnEnd, argsT, opRun, PT.get_put, dstep, ev, evs, evO, give, giveI, binOf, isNilK, np_nilp, np_ptr, np_lref, np_cref, ns_nils, ns_lst, ns_sl, nf_nilf, nf_fnc, ni_nili, ni_iface, PM.flip, putT, putL, putH, binInt, callM_eff, loadOf, storeOf, cut, over, ofCells, asNat, natOr, calm, clashes, Acc.clash, ressOf, resOf, out_agg, out_tup, out_fnc, outs_nil, outs_cons, len_nils, len_lst, len_sl, scal_fnc, frz, frz.frzs, snap, snap.snaps, DV.pure, DV.pure.pures, DV.flat, DV.flat.flats, unOf, binStr, ansT, out_imm, out_ptr, out_sl, cells_imm, cells_ptr, cells_sl, cells_agg, scal_int, scal_bool, scal_str, scal_nils, scal_nilp, scal_lst, scal_ptr, scal_sl, Option.map, List.length_cons, List.length_nil, reduceIte, Nat.reduceEqDiff, Nat.reduceAdd]
  · by_cases hA : 60 < zs.length
    · have hA' : (60 : Int) < zs.length := by omega
      simp only [D.f3, fn_run, run_seq, run_cond, run_block, run_reg, run_reg0, run_drw, run_skip, run_ret, run_exit, then_norm, then_ret, then_exit, cd_true, cd_false, block_norm, block_ret, block_exit, reg_nil, reg_cons, ops_nil, ops_cons, opsThen_nil, opsThen_cons, calm_some, res_norm, res_ret, fnEnd, argsT, opRun, PT.get_put, dstep, ev, evs, evO, give, giveI, binOf, isNilK, np_nilp, np_ptr, np_lref, np_cref, ns_nils, ns_lst, ns_sl, nf_nilf, nf_fnc, ni_nili, ni_iface, PM.flip, putT, putL, putH, binInt, callM_eff, loadOf, storeOf, cut, over, ofCells, asNat, natOr, calm, clashes, Acc.clash, ressOf, resOf, out_agg, out_tup, out_fnc, outs_nil, outs_cons, len_nils, len_lst, len_sl, scal_fnc, frz, frz.frzs, snap, snap.snaps, DV.pure, DV.pure.pures, DV.flat, DV.flat.flats, unOf, binStr, ansT, out_imm, out_ptr, out_sl, cells_imm, cells_ptr, cells_sl, cells_agg, scal_int, scal_bool, scal_str, scal_nils, scal_nilp, scal_lst, scal_ptr, scal_sl, Option.map, List.length_cons, List.length_nil, reduceIte, Nat.reduceEqDiff, Nat.reduceAdd]
      simp [hA, hA', run_seq, run_cond, run_block, run_reg, run_reg0, run_drw, run_skip, run_ret, run_exit, then_norm, then_ret, then_exit, cd_true, cd_false, block_norm, block_ret, block_exit, reg_nil, reg_cons, ops_nil, ops_cons, opsThen_nil, opsThen_cons, calm_some, res_norm, res_ret, fnEnd, argsT, opRun, PT.get_put, dstep, ev, evs, evO, give, giveI, binOf, isNilK, np_nilp, np_ptr, np_lref, np_cref, ns_nils, ns_lst, ns_sl, nf_nilf, nf_fnc, ni_nili, ni_iface, PM.flip, putT, putL, putH, binInt, callM_eff, loadOf, storeOf, cut, over, ofCells, asNat, natOr, calm, clashes, Acc.clash, ressOf, resOf, out_agg, out_tup, out_fnc, outs_nil, outs_cons, len_nils, len_lst, len_sl, scal_fnc, frz, frz.frzs, snap, snap.snaps, DV.pure, DV.pure.pures, DV.flat, DV.flat.flats, unOf, binStr, ansT, out_imm, out_ptr, out_sl, cells_imm, cells_ptr, cells_sl, cells_agg, scal_int, scal_bool, scal_str, scal_nils, scal_nilp, scal_lst, scal_ptr, scal_sl, Option.map, List.length_cons, List.length_nil, reduceIte, Nat.reduceEqDiff, Nat.reduceAdd]
    have hA' : ¬ (60 : Int) < zs.length := by omega
    simp only [D.f3, fn_run, run_seq, run_cond, run_block, run_reg, run_reg0, run_drw, run_skip, run_ret, run_exit, then_norm, then_ret, then_exit, cd_true, cd_false, block_norm, block_ret, block_exit, reg_nil, reg_cons, ops_nil, ops_cons, opsThen_nil, opsThen_cons, calm_some, res_norm, res_ret, fnEnd, argsT, opRun, PT.get_put, dstep, ev, evs, evO, give, giveI, binOf, isNilK, np_nilp, np_ptr, np_lref, np_cref, ns_nils, ns_lst, ns_sl, nf_nilf, nf_fnc, ni_nili, ni_iface, PM.flip, putT, putL, putH, binInt, callM_eff, loadOf, storeOf, cut, over, ofCells, asNat, natOr, calm, clashes, Acc.clash, ressOf, resOf, out_agg, out_tup, out_fnc, outs_nil, outs_cons, len_nils, len_lst, len_sl, scal_fnc, frz, frz.frzs, snap, snap.snaps, DV.pure, DV.pure.pures, DV.flat, DV.flat.flats, unOf, binStr, ansT, out_imm, out_ptr, out_sl, cells_imm, cells_ptr, cells_sl, cells_agg, scal_int, scal_bool, scal_str, scal_nils, scal_nilp, scal_lst, scal_ptr, scal_sl, Option.map, List.length_cons, List.length_nil, reduceIte, Nat.reduceEqDiff, Nat.reduceAdd]
    simp [hA, hA', e1, e2, hv, run_seq, run_cond, run_block, run_reg, run_reg0, run_drw, run_skip, run_ret, run_exit, then_norm, then_ret, then_exit, cd_true, cd_false, block_norm, block_ret, block_exit, reg_nil, reg_cons, ops_nil, ops_cons, opsThen_nil, opsThen_cons, calm_some, res_norm, res_ret, fnEnd, argsT, opRun, PT.get_put, dstep, ev, evs, evO, give, giveI, binOf, isNilK, np_nilp, np_ptr, np_lref, np_cref, ns_nils, ns_lst, ns_sl, nf_nilf, nf_fnc, ni_nili, ni_iface, PM.flip, putT, putL, putH, binInt, callM_eff, loadOf, storeOf, cut, over, ofCells, asNat, natOr, calm, clashes, Acc.clash, ressOf, resOf, out_agg, out_tup, out_fnc, outs_nil, outs_cons, len_nils, len_lst, len_sl, scal_fnc, frz, frz.frzs, snap, snap.snaps, DV.pure, DV.pure.pures, DV.flat, DV.flat.flats, unOf, binStr, ansT, out_imm, out_ptr, out_sl, cells_imm, cells_ptr, cells_sl, cells_agg, scal_int, scal_bool, scal_str, scal_nils, scal_nilp, scal_lst, scal_ptr, scal_sl, Option.map, List.length_cons, List.length_nil, reduceIte, Nat.reduceEqDiff, Nat.reduceAdd]
    generalize hrun : D.l3_0.run GG (K GG 29) 0 _ = r
    obtain ⟨s', rfl⟩ : ∃ s', r = some (.exit 0, s') := by
      rw [← hrun]
      refine loopK zs (by omega) _ ?_
      refine ⟨?_, ?_, ?_, ?_, hf⟩ <;> simp [PT.get_put]
    clear hrun
    simp [ek, run_seq, run_cond, run_block, run_reg, run_reg0, run_drw, run_skip, run_ret, run_exit, then_norm, then_ret, then_exit, cd_true, cd_false, block_norm, block_ret, block_exit, reg_nil, reg_cons, ops_nil, ops_cons, opsThen_nil, opsThen_cons, calm_some, res_norm, res_ret, fnEnd, argsT, opRun, PT.get_put, dstep, ev, evs, evO, give, giveI, binOf, isNilK, np_nilp, np_ptr, np_lref, np_cref, ns_nils, ns_lst, ns_sl, nf_nilf, nf_fnc, ni_nili, ni_iface, PM.flip, putT, putL, putH, binInt, callM_eff, loadOf, storeOf, cut, over, ofCells, asNat, natOr, calm, clashes, Acc.clash, ressOf, resOf, out_agg, out_tup, out_fnc, outs_nil, outs_cons, len_nils, len_lst, len_sl, scal_fnc, frz, frz.frzs, snap, snap.snaps, DV.pure, DV.pure.pures, DV.flat, DV.flat.flats, unOf, binStr, ansT, out_imm, out_ptr, out_sl, cells_imm, cells_ptr, cells_sl, cells_agg, scal_int, scal_bool, scal_str, scal_nils, scal_nilp, scal_lst, scal_ptr, scal_sl, Option.map, List.length_cons, List.length_nil, reduceIte, Nat.reduceEqDiff, Nat.reduceAdd]
end Go.Proofs.YtbhmihigfncfgabDoor.D
