/-
  FieldMoves over D: a point that is driven one way long enough lies there; driven to and fro it lies nowhere.
-/
import Derived.Test.YtbhmihigfncfgaaDoorFld2
set_option linter.unusedVariables false
set_option linter.unusedSimpArgs false
set_option maxHeartbeats 8000000
namespace Go.Proofs.YtbhmihigfncfgaaDoor.D
open Go Go.PM

/-- Rows of whole numbers. -/
theorem ints_of_fit {iv : IV} (h : FitK (.sl [.i .i64]) iv) : iv = .nils ∨ ∃ zs : List Int, iv = .lst false 1 (zs.map ivI) := by
  cases h with
  | nil => exact .inl rfl
  | sl hm hl hk =>
    rename_i es
    right
    have : ∀ e : List IV, ∃ z : Int, e ∈ es → e = ivI z := fun e => by
      by_cases he : e ∈ es
      · obtain ⟨i, hi⟩ := List.getElem?_of_mem he
        have h1 := hl e he
        match e, h1 with
        | [x], _ =>
          have := hk i 0 [x] _ x hi rfl rfl
          cases this with
          | i h => exact ⟨_, fun _ => rfl⟩
      · exact ⟨0, fun h => absurd h he⟩
    obtain ⟨f, hf⟩ := Classical.axiomOfChoice this
    refine ⟨es.map f, ?_⟩
    congr 1
    rw [List.map_map]
    exact ((List.map_congr_left (fun e he => (hf e he).symm)).trans (List.map_id es)).symm

def IM (es : List (List IV)) (i : Nat) (s : St) : Prop :=
  s.T.get 0 = some (.imm (.lst false 1 es)) ∧ s.T.get 3 = some (.ptr 2 0 0) ∧ s.T.get 8 = some (.imm (.int .i64 i)) ∧ 5 ≤ s.n ∧
  ∃ p : Pt, Fd s.H 2 [1, 4] [false] [p] ∧ 0 ≤ p.s ∧ p.s ≤ 2 ∧ s.T.get 5 = some (.imm (.int .i64 p.l)) ∧ s.T.get 6 = some (.imm (.int .i64 p.s)) ∧ s.T.get 7 = some (.imm (.int .i64 p.t))

theorem roundM (zs : List Int) (hlen : zs.length ≤ 40) (i : Nat) (s : St) (h : IM (zs.map ivI) i s) (hi : i < zs.length) :
    ∃ s', D.l10_0b.run GG (K GG 29) 0 ⟨keep s.T [0, 3, 5, 6, 7, 8], keep s.L [], s.H, s.n⟩ = some (.norm, s') ∧ IM (zs.map ivI) (i + 1) s' := by
  obtain ⟨h0, h3, h8, hn, p, hf, hs0, hs2, h5, h6, h7⟩ := h
  have hi' : (i : Int) < zs.length := by omega
  have hz : zs[i]? = some zs[i] := List.getElem?_eq_getElem hi
  generalize hze : zs[i] = z at hz
  have hw : IntKind.i64.wrap ((i : Int) + 1) = (i : Int) + 1 := wr_id (by omega) (by omega)
  simp only [D.l10_0b, keep, run_seq, run_cond, run_block, run_reg, run_reg0, run_drw, run_skip, run_ret, run_exit, then_norm, then_ret, then_exit, cd_true, cd_false, block_norm, block_ret, block_exit, reg_nil, reg_cons, ops_nil, ops_cons, opsThen_nil, opsThen_cons, calm_some, res_norm, res_ret, fnEnd, argsT, opRun, PT.get_put, dstep, ev, evs, evO, give, giveI, binOf, isNilK, np_nilp, np_ptr, np_lref, np_cref, ns_nils, ns_lst, ns_sl, nf_nilf, nf_fnc, ni_nili, ni_iface, PM.flip, putT, putL, putH, binInt, callM_eff, loadOf, storeOf, cut, over, ofCells, asNat, natOr, calm, clashes, Acc.clash, ressOf, resOf, out_agg, out_tup, out_fnc, outs_nil, outs_cons, len_nils, len_lst, len_sl, scal_fnc, frz, frz.frzs, snap, snap.snaps, DV.pure, DV.pure.pures, DV.flat, DV.flat.flats, unOf, binStr, ansT, out_imm, out_ptr, out_sl, cells_imm, cells_ptr, cells_sl, cells_agg, scal_int, scal_bool, scal_str, scal_nils, scal_nilp, scal_lst, scal_ptr, scal_sl, Option.map, List.length_cons, List.length_nil, reduceIte, Nat.reduceEqDiff, Nat.reduceAdd]
  simp [h0, h3, h5, h6, h7, h8, hi', hi, hz, hze, ivI, imms, evParts2, lay, rowsN, unImms, unImm, mapO, run_seq, run_cond, run_block, run_reg, run_reg0, run_drw, run_skip, run_ret, run_exit, then_norm, then_ret, then_exit, cd_true, cd_false, block_norm, block_ret, block_exit, reg_nil, reg_cons, ops_nil, ops_cons, opsThen_nil, opsThen_cons, calm_some, res_norm, res_ret, fnEnd, argsT, opRun, PT.get_put, dstep, ev, evs, evO, give, giveI, binOf, isNilK, np_nilp, np_ptr, np_lref, np_cref, ns_nils, ns_lst, ns_sl, nf_nilf, nf_fnc, ni_nili, ni_iface, PM.flip, putT, putL, putH, binInt, callM_eff, loadOf, storeOf, cut, over, ofCells, asNat, natOr, calm, clashes, Acc.clash, ressOf, resOf, out_agg, out_tup, out_fnc, outs_nil, outs_cons, len_nils, len_lst, len_sl, scal_fnc, frz, frz.frzs, snap, snap.snaps, DV.pure, DV.pure.pures, DV.flat, DV.flat.flats, unOf, binStr, ansT, out_imm, out_ptr, out_sl, cells_imm, cells_ptr, cells_sl, cells_agg, scal_int, scal_bool, scal_str, scal_nils, scal_nilp, scal_lst, scal_ptr, scal_sl, Option.map, List.length_cons, List.length_nil, reduceIte, Nat.reduceEqDiff, Nat.reduceAdd]
  generalize Int.tmod _ 3 = x
  obtain ⟨H', n', e1, f1, m1, n2, e2, m2⟩ := step_one hf x hn
  have hw2 : IntKind.i64.wrap (p.s + 1) = p.s + 1 := wr_id (by omega) (by omega)
  have w1 : IntKind.i64.wrap (0 + 1) = 1 := by decide
  have w1' : IntKind.i64.wrap 1 = 1 := by decide
  by_cases c0 : x = 0
  · have e : drivenP p x = ⟨p.l, 0, 0⟩ := by unfold drivenP; rw [if_pos (.inl c0)]
    rw [e] at f1 e2
    subst c0
    simp [e1, e2, hw, imms, run_seq, run_cond, run_block, run_reg, run_reg0, run_drw, run_skip, run_ret, run_exit, then_norm, then_ret, then_exit, cd_true, cd_false, block_norm, block_ret, block_exit, reg_nil, reg_cons, ops_nil, ops_cons, opsThen_nil, opsThen_cons, calm_some, res_norm, res_ret, fnEnd, argsT, opRun, PT.get_put, dstep, ev, evs, evO, give, giveI, binOf, isNilK, np_nilp, np_ptr, np_lref, np_cref, ns_nils, ns_lst, ns_sl, nf_nilf, nf_fnc, ni_nili, ni_iface, PM.flip, putT, putL, putH, binInt, callM_eff, loadOf, storeOf, cut, over, ofCells, asNat, natOr, calm, clashes, Acc.clash, ressOf, resOf, out_agg, out_tup, out_fnc, outs_nil, outs_cons, len_nils, len_lst, len_sl, scal_fnc, frz, frz.frzs, snap, snap.snaps, DV.pure, DV.pure.pures, DV.flat, DV.flat.flats, unOf, binStr, ansT, out_imm, out_ptr, out_sl, cells_imm, cells_ptr, cells_sl, cells_agg, scal_int, scal_bool, scal_str, scal_nils, scal_nilp, scal_lst, scal_ptr, scal_sl, Option.map, List.length_cons, List.length_nil, reduceIte, Nat.reduceEqDiff, Nat.reduceAdd]
    refine ⟨?_, ?_, ?_, ?_, ⟨p.l, 0, 0⟩, f1, ?_, ?_, ?_, ?_, ?_⟩ <;> simp [PT.get_put, h0, h3, h5]
    omega
  by_cases c1 : x = p.l
  · have e : drivenP p x = ⟨p.l, 0, 0⟩ := by unfold drivenP; rw [if_pos (.inr c1)]
    rw [e] at f1 e2
    subst c1
    simp [e1, e2, bf c0, hw, imms, run_seq, run_cond, run_block, run_reg, run_reg0, run_drw, run_skip, run_ret, run_exit, then_norm, then_ret, then_exit, cd_true, cd_false, block_norm, block_ret, block_exit, reg_nil, reg_cons, ops_nil, ops_cons, opsThen_nil, opsThen_cons, calm_some, res_norm, res_ret, fnEnd, argsT, opRun, PT.get_put, dstep, ev, evs, evO, give, giveI, binOf, isNilK, np_nilp, np_ptr, np_lref, np_cref, ns_nils, ns_lst, ns_sl, nf_nilf, nf_fnc, ni_nili, ni_iface, PM.flip, putT, putL, putH, binInt, callM_eff, loadOf, storeOf, cut, over, ofCells, asNat, natOr, calm, clashes, Acc.clash, ressOf, resOf, out_agg, out_tup, out_fnc, outs_nil, outs_cons, len_nils, len_lst, len_sl, scal_fnc, frz, frz.frzs, snap, snap.snaps, DV.pure, DV.pure.pures, DV.flat, DV.flat.flats, unOf, binStr, ansT, out_imm, out_ptr, out_sl, cells_imm, cells_ptr, cells_sl, cells_agg, scal_int, scal_bool, scal_str, scal_nils, scal_nilp, scal_lst, scal_ptr, scal_sl, Option.map, List.length_cons, List.length_nil, reduceIte, Nat.reduceEqDiff, Nat.reduceAdd]
    refine ⟨?_, ?_, ?_, ?_, ⟨p.l, 0, 0⟩, f1, ?_, ?_, ?_, ?_, ?_⟩ <;> simp [PT.get_put, h0, h3, h5]
    omega
  have hno : ¬ (x = 0 ∨ x = p.l) := fun h => h.elim c0 c1
  by_cases c2 : x = p.t
  · by_cases c3 : p.s + 1 = 3
    · have e : drivenP p x = ⟨x, 0, 0⟩ := by unfold drivenP; rw [if_neg hno, if_pos c2, if_pos (by rw [hw2]; omega)]
      rw [e] at f1 e2
      subst c2
      have w3 : IntKind.i64.wrap 3 = 3 := by decide
      simp [e1, e2, bf c0, bf c1, c3, w3, hw, imms, run_seq, run_cond, run_block, run_reg, run_reg0, run_drw, run_skip, run_ret, run_exit, then_norm, then_ret, then_exit, cd_true, cd_false, block_norm, block_ret, block_exit, reg_nil, reg_cons, ops_nil, ops_cons, opsThen_nil, opsThen_cons, calm_some, res_norm, res_ret, fnEnd, argsT, opRun, PT.get_put, dstep, ev, evs, evO, give, giveI, binOf, isNilK, np_nilp, np_ptr, np_lref, np_cref, ns_nils, ns_lst, ns_sl, nf_nilf, nf_fnc, ni_nili, ni_iface, PM.flip, putT, putL, putH, binInt, callM_eff, loadOf, storeOf, cut, over, ofCells, asNat, natOr, calm, clashes, Acc.clash, ressOf, resOf, out_agg, out_tup, out_fnc, outs_nil, outs_cons, len_nils, len_lst, len_sl, scal_fnc, frz, frz.frzs, snap, snap.snaps, DV.pure, DV.pure.pures, DV.flat, DV.flat.flats, unOf, binStr, ansT, out_imm, out_ptr, out_sl, cells_imm, cells_ptr, cells_sl, cells_agg, scal_int, scal_bool, scal_str, scal_nils, scal_nilp, scal_lst, scal_ptr, scal_sl, Option.map, List.length_cons, List.length_nil, reduceIte, Nat.reduceEqDiff, Nat.reduceAdd]
      refine ⟨?_, ?_, ?_, ?_, ⟨p.t, 0, 0⟩, f1, ?_, ?_, ?_, ?_, ?_⟩ <;> simp [PT.get_put, h0, h3, h5]
      omega
    · have e : drivenP p x = ⟨0, x, p.s + 1⟩ := by unfold drivenP; rw [if_neg hno, if_pos c2, if_neg (by rw [hw2]; omega), hw2]
      rw [e] at f1 e2
      subst c2
      simp [e1, e2, bf c0, bf c1, bf c3, c3, hw2, hw, imms, run_seq, run_cond, run_block, run_reg, run_reg0, run_drw, run_skip, run_ret, run_exit, then_norm, then_ret, then_exit, cd_true, cd_false, block_norm, block_ret, block_exit, reg_nil, reg_cons, ops_nil, ops_cons, opsThen_nil, opsThen_cons, calm_some, res_norm, res_ret, fnEnd, argsT, opRun, PT.get_put, dstep, ev, evs, evO, give, giveI, binOf, isNilK, np_nilp, np_ptr, np_lref, np_cref, ns_nils, ns_lst, ns_sl, nf_nilf, nf_fnc, ni_nili, ni_iface, PM.flip, putT, putL, putH, binInt, callM_eff, loadOf, storeOf, cut, over, ofCells, asNat, natOr, calm, clashes, Acc.clash, ressOf, resOf, out_agg, out_tup, out_fnc, outs_nil, outs_cons, len_nils, len_lst, len_sl, scal_fnc, frz, frz.frzs, snap, snap.snaps, DV.pure, DV.pure.pures, DV.flat, DV.flat.flats, unOf, binStr, ansT, out_imm, out_ptr, out_sl, cells_imm, cells_ptr, cells_sl, cells_agg, scal_int, scal_bool, scal_str, scal_nils, scal_nilp, scal_lst, scal_ptr, scal_sl, Option.map, List.length_cons, List.length_nil, reduceIte, Nat.reduceEqDiff, Nat.reduceAdd]
      refine ⟨?_, ?_, ?_, ?_, ⟨0, p.t, p.s + 1⟩, f1, ?_, ?_, ?_, ?_, ?_⟩ <;> simp [PT.get_put, h0, h3, h5, h7] <;> omega
  · have e : drivenP p x = ⟨0, x, 1⟩ := by unfold drivenP; rw [if_neg hno, if_neg c2, w1, if_neg (by decide)]
    rw [e] at f1 e2
    simp [e1, e2, bf c0, bf c1, bn c2, w1', hw, imms, run_seq, run_cond, run_block, run_reg, run_reg0, run_drw, run_skip, run_ret, run_exit, then_norm, then_ret, then_exit, cd_true, cd_false, block_norm, block_ret, block_exit, reg_nil, reg_cons, ops_nil, ops_cons, opsThen_nil, opsThen_cons, calm_some, res_norm, res_ret, fnEnd, argsT, opRun, PT.get_put, dstep, ev, evs, evO, give, giveI, binOf, isNilK, np_nilp, np_ptr, np_lref, np_cref, ns_nils, ns_lst, ns_sl, nf_nilf, nf_fnc, ni_nili, ni_iface, PM.flip, putT, putL, putH, binInt, callM_eff, loadOf, storeOf, cut, over, ofCells, asNat, natOr, calm, clashes, Acc.clash, ressOf, resOf, out_agg, out_tup, out_fnc, outs_nil, outs_cons, len_nils, len_lst, len_sl, scal_fnc, frz, frz.frzs, snap, snap.snaps, DV.pure, DV.pure.pures, DV.flat, DV.flat.flats, unOf, binStr, ansT, out_imm, out_ptr, out_sl, cells_imm, cells_ptr, cells_sl, cells_agg, scal_int, scal_bool, scal_str, scal_nils, scal_nilp, scal_lst, scal_ptr, scal_sl, Option.map, List.length_cons, List.length_nil, reduceIte, Nat.reduceEqDiff, Nat.reduceAdd]
    refine ⟨?_, ?_, ?_, ?_, ⟨0, x, 1⟩, f1, ?_, ?_, ?_, ?_, ?_⟩ <;> simp [PT.get_put, h0, h3, h5]
    omega

theorem lastM (zs : List Int) (i : Nat) (s : St) (h : IM (zs.map ivI) i s) (hi : ¬ i < zs.length) :
    ∃ s', D.l10_0b.run GG (K GG 29) 0 ⟨keep s.T [0, 3, 5, 6, 7, 8], keep s.L [], s.H, s.n⟩ = some (.exit 0, s') := by
  obtain ⟨h0, h3, h8, hn, p, hf, hs0, hs2, h5, h6, h7⟩ := h
  have hi' : ¬ (i : Int) < zs.length := by omega
  simp only [D.l10_0b, keep, run_seq, run_cond, run_block, run_reg, run_reg0, run_drw, run_skip, run_ret, run_exit, then_norm, then_ret, then_exit, cd_true, cd_false, block_norm, block_ret, block_exit, reg_nil, reg_cons, ops_nil, ops_cons, opsThen_nil, opsThen_cons, calm_some, res_norm, res_ret, fnEnd, argsT, opRun, PT.get_put, dstep, ev, evs, evO, give, giveI, binOf, isNilK, np_nilp, np_ptr, np_lref, np_cref, ns_nils, ns_lst, ns_sl, nf_nilf, nf_fnc, ni_nili, ni_iface, PM.flip, putT, putL, putH, binInt, callM_eff, loadOf, storeOf, cut, over, ofCells, asNat, natOr, calm, clashes, Acc.clash, ressOf, resOf, out_agg, out_tup, out_fnc, outs_nil, outs_cons, len_nils, len_lst, len_sl, scal_fnc, frz, frz.frzs, snap, snap.snaps, DV.pure, DV.pure.pures, DV.flat, DV.flat.flats, unOf, binStr, ansT, out_imm, out_ptr, out_sl, cells_imm, cells_ptr, cells_sl, cells_agg, scal_int, scal_bool, scal_str, scal_nils, scal_nilp, scal_lst, scal_ptr, scal_sl, Option.map, List.length_cons, List.length_nil, reduceIte, Nat.reduceEqDiff, Nat.reduceAdd]
  simp [h0, h3, h5, h6, h7, h8, hi', hi, run_seq, run_cond, run_block, run_reg, run_reg0, run_drw, run_skip, run_ret, run_exit, then_norm, then_ret, then_exit, cd_true, cd_false, block_norm, block_ret, block_exit, reg_nil, reg_cons, ops_nil, ops_cons, opsThen_nil, opsThen_cons, calm_some, res_norm, res_ret, fnEnd, argsT, opRun, PT.get_put, dstep, ev, evs, evO, give, giveI, binOf, isNilK, np_nilp, np_ptr, np_lref, np_cref, ns_nils, ns_lst, ns_sl, nf_nilf, nf_fnc, ni_nili, ni_iface, PM.flip, putT, putL, putH, binInt, callM_eff, loadOf, storeOf, cut, over, ofCells, asNat, natOr, calm, clashes, Acc.clash, ressOf, resOf, out_agg, out_tup, out_fnc, outs_nil, outs_cons, len_nils, len_lst, len_sl, scal_fnc, frz, frz.frzs, snap, snap.snaps, DV.pure, DV.pure.pures, DV.flat, DV.flat.flats, unOf, binStr, ansT, out_imm, out_ptr, out_sl, cells_imm, cells_ptr, cells_sl, cells_agg, scal_int, scal_bool, scal_str, scal_nils, scal_nilp, scal_lst, scal_ptr, scal_sl, Option.map, List.length_cons, List.length_nil, reduceIte, Nat.reduceEqDiff, Nat.reduceAdd]

theorem loopM (zs : List Int) (hlen : zs.length ≤ 40) (s : St) (h : IM (zs.map ivI) 0 s) : ∃ s', D.l10_0.run GG (K GG 29) 0 s = some (.exit 0, s') := by
  obtain ⟨e, s', q1, q2, rfl⟩ := iter_ind (f := loopRun GG (K GG 29) 0 [0, 3, 5, 6, 7, 8] [] D.l10_0b) (fun m s => ∃ i : Nat, IM (zs.map ivI) i s ∧ m = zs.length - i) (fun e s' => e = .exit 0)
    (fun m s ⟨i, hI, hm⟩ => by
      by_cases hi : i < zs.length
      · obtain ⟨s', e1, e2⟩ := roundM zs hlen i s hI hi
        exact .inl ⟨s', _, e1, by omega, i + 1, e2, rfl⟩
      · obtain ⟨s', e1⟩ := lastM zs i s hI hi
        exact .inr ⟨.exit 0, s', e1, by simp, rfl⟩) zs.length LOOP s ⟨0, h, by omega⟩ (by unfold LOOP; omega)
  exact ⟨s', q1⟩

def ss_FieldMoves : List (Bool × List Kd) := [(false, [.sl [.i .i64]])]
theorem pure_FieldMoves : ∀ cs, ArgsFit ss_FieldMoves cs → ∃ H' n', K GG 30 10 cs .lf 0 0 = some (.imm (.bool true), H', n') := fun cs h0 => by
  obtain ⟨d0, r0, rfl, g0, h1⟩ := fit_cons h0
  cases fit0 (r := []) h1
  obtain ⟨a, rfl, ha⟩ := fit_s g0
  obtain ⟨v, H0, hv, e1, e2, hf⟩ := new_one
  have ek := known6
  rw [D.k10]
  rcases ints_of_fit ha with rfl | ⟨zs, rfl⟩
  · obtain ⟨k, hL⟩ : ∃ k, LOOP = k + 1 := ⟨2 ^ 62 - 1, rfl⟩
    simp only [D.f10, D.l10_0, fn_run, run_loop, hL, run_seq, run_cond, run_block, run_reg, run_reg0, run_drw, run_skip, run_ret, run_exit, then_norm, then_ret, then_exit, cd_true, cd_false, block_norm, block_ret, block_exit, reg_nil, reg_cons, ops_nil, ops_cons, opsThen_nil, opsThen_cons, calm_some, res_norm, res_ret, fnEnd, argsT, opRun, PT.get_put, dstep, ev, evs, evO, give, giveI, binOf, isNilK, np_nilp, np_ptr, np_lref, np_cref, ns_nils, ns_lst, ns_sl, nf_nilf, nf_fnc, ni_nili, ni_iface, PM.flip, putT, putL, putH, binInt, callM_eff, loadOf, storeOf, cut, over, ofCells, asNat, natOr, calm, clashes, Acc.clash, ressOf, resOf, out_agg, out_tup, out_fnc, outs_nil, outs_cons, len_nils, len_lst, len_sl, scal_fnc, frz, frz.frzs, snap, snap.snaps, DV.pure, DV.pure.pures, DV.flat, DV.flat.flats, unOf, binStr, ansT, out_imm, out_ptr, out_sl, cells_imm, cells_ptr, cells_sl, cells_agg, scal_int, scal_bool, scal_str, scal_nils, scal_nilp, scal_lst, scal_ptr, scal_sl, Option.map, List.length_cons, List.length_nil, reduceIte, Nat.reduceEqDiff, Nat.reduceAdd]
    simp [e1, e2, ek, hv, D.l10_0, D.l10_0b, run_loop, hL, iter, loopRun_eq, keep, run_seq, run_cond, run_block, run_reg, run_reg0, run_drw, run_skip, run_ret, run_exit, then_norm, then_ret, then_exit, cd_true, cd_false, block_norm, block_ret, block_exit, reg_nil, reg_cons, ops_nil, ops_cons, opsThen_nil, opsThen_cons, calm_some, res_norm, res_ret, fnEnd, argsT, opRun, PT.get_put, dstep, ev, evs, evO, give, giveI, binOf, isNilK, np_nilp, np_ptr, np_lref, np_cref, ns_nils, ns_lst, ns_sl, nf_nilf, nf_fnc, ni_nili, ni_iface, PM.flip, putT, putL, putH, binInt, callM_eff, loadOf, storeOf, cut, over, ofCells, asNat, natOr, calm, clashes, Acc.clash, ressOf, resOf, out_agg, out_tup, out_fnc, outs_nil, outs_cons, len_nils, len_lst, len_sl, scal_fnc, frz, frz.frzs, snap, snap.snaps, DV.pure, DV.pure.pures, DV.flat, DV.flat.flats, unOf, binStr, ansT, out_imm, out_ptr, out_sl, cells_imm, cells_ptr, cells_sl, cells_agg, scal_int, scal_bool, scal_str, scal_nils, scal_nilp, scal_lst, scal_ptr, scal_sl, Option.map, List.length_cons, List.length_nil, reduceIte, Nat.reduceEqDiff, Nat.reduceAdd]
  · by_cases hA : 40 < zs.length
    · have hA' : (40 : Int) < zs.length := by omega
      simp only [D.f10, fn_run, run_seq, run_cond, run_block, run_reg, run_reg0, run_drw, run_skip, run_ret, run_exit, then_norm, then_ret, then_exit, cd_true, cd_false, block_norm, block_ret, block_exit, reg_nil, reg_cons, ops_nil, ops_cons, opsThen_nil, opsThen_cons, calm_some, res_norm, res_ret, fnEnd, argsT, opRun, PT.get_put, dstep, ev, evs, evO, give, giveI, binOf, isNilK, np_nilp, np_ptr, np_lref, np_cref, ns_nils, ns_lst, ns_sl, nf_nilf, nf_fnc, ni_nili, ni_iface, PM.flip, putT, putL, putH, binInt, callM_eff, loadOf, storeOf, cut, over, ofCells, asNat, natOr, calm, clashes, Acc.clash, ressOf, resOf, out_agg, out_tup, out_fnc, outs_nil, outs_cons, len_nils, len_lst, len_sl, scal_fnc, frz, frz.frzs, snap, snap.snaps, DV.pure, DV.pure.pures, DV.flat, DV.flat.flats, unOf, binStr, ansT, out_imm, out_ptr, out_sl, cells_imm, cells_ptr, cells_sl, cells_agg, scal_int, scal_bool, scal_str, scal_nils, scal_nilp, scal_lst, scal_ptr, scal_sl, Option.map, List.length_cons, List.length_nil, reduceIte, Nat.reduceEqDiff, Nat.reduceAdd]
      simp [hA, hA', run_seq, run_cond, run_block, run_reg, run_reg0, run_drw, run_skip, run_ret, run_exit, then_norm, then_ret, then_exit, cd_true, cd_false, block_norm, block_ret, block_exit, reg_nil, reg_cons, ops_nil, ops_cons, opsThen_nil, opsThen_cons, calm_some, res_norm, res_ret, fnEnd, argsT, opRun, PT.get_put, dstep, ev, evs, evO, give, giveI, binOf, isNilK, np_nilp, np_ptr, np_lref, np_cref, ns_nils, ns_lst, ns_sl, nf_nilf, nf_fnc, ni_nili, ni_iface, PM.flip, putT, putL, putH, binInt, callM_eff, loadOf, storeOf, cut, over, ofCells, asNat, natOr, calm, clashes, Acc.clash, ressOf, resOf, out_agg, out_tup, out_fnc, outs_nil, outs_cons, len_nils, len_lst, len_sl, scal_fnc, frz, frz.frzs, snap, snap.snaps, DV.pure, DV.pure.pures, DV.flat, DV.flat.flats, unOf, binStr, ansT, out_imm, out_ptr, out_sl, cells_imm, cells_ptr, cells_sl, cells_agg, scal_int, scal_bool, scal_str, scal_nils, scal_nilp, scal_lst, scal_ptr, scal_sl, Option.map, List.length_cons, List.length_nil, reduceIte, Nat.reduceEqDiff, Nat.reduceAdd]
    have hA' : ¬ (40 : Int) < zs.length := by omega
    simp only [D.f10, fn_run, run_seq, run_cond, run_block, run_reg, run_reg0, run_drw, run_skip, run_ret, run_exit, then_norm, then_ret, then_exit, cd_true, cd_false, block_norm, block_ret, block_exit, reg_nil, reg_cons, ops_nil, ops_cons, opsThen_nil, opsThen_cons, calm_some, res_norm, res_ret, fnEnd, argsT, opRun, PT.get_put, dstep, ev, evs, evO, give, giveI, binOf, isNilK, np_nilp, np_ptr, np_lref, np_cref, ns_nils, ns_lst, ns_sl, nf_nilf, nf_fnc, ni_nili, ni_iface, PM.flip, putT, putL, putH, binInt, callM_eff, loadOf, storeOf, cut, over, ofCells, asNat, natOr, calm, clashes, Acc.clash, ressOf, resOf, out_agg, out_tup, out_fnc, outs_nil, outs_cons, len_nils, len_lst, len_sl, scal_fnc, frz, frz.frzs, snap, snap.snaps, DV.pure, DV.pure.pures, DV.flat, DV.flat.flats, unOf, binStr, ansT, out_imm, out_ptr, out_sl, cells_imm, cells_ptr, cells_sl, cells_agg, scal_int, scal_bool, scal_str, scal_nils, scal_nilp, scal_lst, scal_ptr, scal_sl, Option.map, List.length_cons, List.length_nil, reduceIte, Nat.reduceEqDiff, Nat.reduceAdd]
    simp [hA, hA', e1, e2, hv, run_seq, run_cond, run_block, run_reg, run_reg0, run_drw, run_skip, run_ret, run_exit, then_norm, then_ret, then_exit, cd_true, cd_false, block_norm, block_ret, block_exit, reg_nil, reg_cons, ops_nil, ops_cons, opsThen_nil, opsThen_cons, calm_some, res_norm, res_ret, fnEnd, argsT, opRun, PT.get_put, dstep, ev, evs, evO, give, giveI, binOf, isNilK, np_nilp, np_ptr, np_lref, np_cref, ns_nils, ns_lst, ns_sl, nf_nilf, nf_fnc, ni_nili, ni_iface, PM.flip, putT, putL, putH, binInt, callM_eff, loadOf, storeOf, cut, over, ofCells, asNat, natOr, calm, clashes, Acc.clash, ressOf, resOf, out_agg, out_tup, out_fnc, outs_nil, outs_cons, len_nils, len_lst, len_sl, scal_fnc, frz, frz.frzs, snap, snap.snaps, DV.pure, DV.pure.pures, DV.flat, DV.flat.flats, unOf, binStr, ansT, out_imm, out_ptr, out_sl, cells_imm, cells_ptr, cells_sl, cells_agg, scal_int, scal_bool, scal_str, scal_nils, scal_nilp, scal_lst, scal_ptr, scal_sl, Option.map, List.length_cons, List.length_nil, reduceIte, Nat.reduceEqDiff, Nat.reduceAdd]
    generalize hrun : D.l10_0.run GG (K GG 29) 0 _ = r
    obtain ⟨s', rfl⟩ : ∃ s', r = some (.exit 0, s') := by
      rw [← hrun]
      refine loopM zs (by omega) _ ?_
      refine ⟨?_, ?_, ?_, ?_, ⟨1, 0, 0⟩, hf, ?_, ?_, ?_, ?_, ?_⟩ <;> simp [PT.get_put]
    clear hrun
    simp [ek, run_seq, run_cond, run_block, run_reg, run_reg0, run_drw, run_skip, run_ret, run_exit, then_norm, then_ret, then_exit, cd_true, cd_false, block_norm, block_ret, block_exit, reg_nil, reg_cons, ops_nil, ops_cons, opsThen_nil, opsThen_cons, calm_some, res_norm, res_ret, fnEnd, argsT, opRun, PT.get_put, dstep, ev, evs, evO, give, giveI, binOf, isNilK, np_nilp, np_ptr, np_lref, np_cref, ns_nils, ns_lst, ns_sl, nf_nilf, nf_fnc, ni_nili, ni_iface, PM.flip, putT, putL, putH, binInt, callM_eff, loadOf, storeOf, cut, over, ofCells, asNat, natOr, calm, clashes, Acc.clash, ressOf, resOf, out_agg, out_tup, out_fnc, outs_nil, outs_cons, len_nils, len_lst, len_sl, scal_fnc, frz, frz.frzs, snap, snap.snaps, DV.pure, DV.pure.pures, DV.flat, DV.flat.flats, unOf, binStr, ansT, out_imm, out_ptr, out_sl, cells_imm, cells_ptr, cells_sl, cells_agg, scal_int, scal_bool, scal_str, scal_nils, scal_nilp, scal_lst, scal_ptr, scal_sl, Option.map, List.length_cons, List.length_nil, reduceIte, Nat.reduceEqDiff, Nat.reduceAdd]
end Go.Proofs.YtbhmihigfncfgaaDoor.D
