/-
  Rows of needs that are one. Over D.
-/
import Derived.Test.YtbhmihigfncfgaaDoorT6
set_option linter.unusedVariables false
set_option linter.unusedSimpArgs false
set_option maxHeartbeats 16000000
namespace Go.Proofs.YtbhmihigfncfgaaDoor.D
open Go Go.PM Go.Lib
/-! ### Rows that are one -/
def ISN (v w : IV) (i : Nat) (st : St) : Prop := st.T.get 0 = some (.imm v) ∧ st.T.get 1 = some (.imm w) ∧ st.T.get 5 = some (.imm (.int .i64 i))
theorem loopSN {d : Nat} {v w : IV} {xs : List Need} (hv : Sl 2 v (xs.map ivN)) (hw : Sl 2 w (xs.map ivN)) (hl : xs.length ≤ reachBytes) {ks : List Kf} {st : St} {Q : Ex → St → Prop} (h : ISN v w 0 st)
    (hk : ∀ st', Bk DG (K DG d) 0 (.exit 0) ks st' Q) : Wp DG (K DG d) 0 D.l20_0 ks st Q := by
  refine dw_loop (N := xs.length) (small hl) (ISN v w) (fun e st' => e = .exit 0) (fun i st hle hI => ?_) h (fun e s' h => by rw [h]; exact hk s')
  obtain ⟨h0, h1, h5⟩ := hI
  have vl := hv.len
  simp only [List.length_map] at vl
  by_cases hi : i < xs.length
  · have hi' : (i : Int) < xs.length := by omega
    have hj' := ilt_t hi'
    have hw8 : IntKind.i64.wrap ((i : Int) + 1) = (i : Int) + 1 := wr_succ hi hl
    have ix := fun {h : Nat → Option HB} {n : Nat} => idx_sl (h := h) (n := n) hv (by omega) (k := .i64) (z := (i : Int)) (by omega) hi'
    have iy := fun {h : Nat → Option HB} {n : Nat} => idx_sl (h := h) (n := n) hw (by omega) (k := .i64) (z := (i : Int)) (by omega) hi'
    have eq : dec (NEq (nth xs i).pt (nth xs i).rev (nth xs i).pt (nth xs i).rev) = true := dec_t ⟨rfl, rfl⟩
    generalize hQ : (fun (e : Ex) (s' : St) => _) = Q'
    simp only [D.l20_0b]
    simp [h0, h1, h5, vl, hj', hw8, ix, iy, ivN, eq_need, eq, dw_regg, dr_consg, dg_tt, dg_ff, dg_tf, dg_ft, dg_u, dg_d, dg_n, dg_o, dg_a, rg_tt, rg_ff, rg_tf, rg_ft, rg_u, rg_d, rg_n, undT, dw_seq, dw_block, dw_cond, dw_skip, dw_ret, dw_exit, dw_reg0, dw_reg, rs_some, dw_drw, dr_cons, dq_some, dr_nil, bk_nil, bk_norm_thn, bk_ret_thn, bk_exit_thn, bk_norm_blk, bk_ret_blk, bk_exit_blk, cd_t, cd_f, cd_d, cd_p, dg_p, rg_p, dec_true, dec_false, dec_iff, dec_fi, cd_n, cd_a, cd_o, fe_some, fin_ret, fin_norm, fnEnd, argsT, PT.get_put, keep, opRun, ev, evs, evO, give, giveI, binOf, isNilK, np_nilp, np_ptr, np_lref, np_cref, ns_nils, ns_lst, ns_sl, nf_nilf, nf_fnc, ni_nili, ni_iface, PM.flip, putT, putL, putH, un_not, un_neg, bi_add, bi_sub, bi_mul, bd_eql, bd_neq, bd_lss, bd_leq, bd_gtr, bd_geq, ilt_self, ilt_n0, bs_eql, bs_neq, callM_bl, callM_ro, callM_eff, pures_nil, pures_cons, pure_imm, pure_agg, loadOf, storeOf, cut, over, ofCells, asNat, natOr, calm, clashes, Acc.clash, ressOf, resOf, frz, frz.frzs, DV.flat, DV.flat.flats, imms, out_imm, out_ptr, out_sl, out_agg, out_tup, out_fnc, outs_nil, outs_cons, cells_imm, cells_ptr, cells_sl, cells_agg, len_nils, len_lst, len_sl, scal_int, scal_bool, scal_str, scal_nils, scal_nilp, scal_lst, scal_ptr, scal_sl, scal_fnc, dq_idx, dq_mv, dq_pick, dq_nilck, dq_bin, dq_un, dq_cvI, dq_cvBS, dq_cvSB, dq_cvBB, dq_mkI, dq_asrt, dq_mkF, dq_fld, dq_idxA, dq_ld, dq_st, dq_part, dq_idxV, dq_idxS, dq_boxL, dq_boxH, dq_alL, dq_alH, dq_build, dq_bsl, dq_mks, dq_slc, dq_slS, dq_len, dq_lenS, dq_lenA, dq_cap, dq_mn, dq_mx, dq_app, dq_appZ, dq_rng, dq_nxt, dq_ext]
    subst hQ
    simp [ISN, PT.get_put, hi]
  · obtain rfl : i = xs.length := by omega
    generalize hQ : (fun (e : Ex) (s' : St) => _) = Q'
    simp only [D.l20_0b]
    simp [h0, h1, h5, vl, dw_regg, dr_consg, dg_tt, dg_ff, dg_tf, dg_ft, dg_u, dg_d, dg_n, dg_o, dg_a, rg_tt, rg_ff, rg_tf, rg_ft, rg_u, rg_d, rg_n, undT, dw_seq, dw_block, dw_cond, dw_skip, dw_ret, dw_exit, dw_reg0, dw_reg, rs_some, dw_drw, dr_cons, dq_some, dr_nil, bk_nil, bk_norm_thn, bk_ret_thn, bk_exit_thn, bk_norm_blk, bk_ret_blk, bk_exit_blk, cd_t, cd_f, cd_d, cd_p, dg_p, rg_p, dec_true, dec_false, dec_iff, dec_fi, cd_n, cd_a, cd_o, fe_some, fin_ret, fin_norm, fnEnd, argsT, PT.get_put, keep, opRun, ev, evs, evO, give, giveI, binOf, isNilK, np_nilp, np_ptr, np_lref, np_cref, ns_nils, ns_lst, ns_sl, nf_nilf, nf_fnc, ni_nili, ni_iface, PM.flip, putT, putL, putH, un_not, un_neg, bi_add, bi_sub, bi_mul, bd_eql, bd_neq, bd_lss, bd_leq, bd_gtr, bd_geq, ilt_self, ilt_n0, bs_eql, bs_neq, callM_bl, callM_ro, callM_eff, pures_nil, pures_cons, pure_imm, pure_agg, loadOf, storeOf, cut, over, ofCells, asNat, natOr, calm, clashes, Acc.clash, ressOf, resOf, frz, frz.frzs, DV.flat, DV.flat.flats, imms, out_imm, out_ptr, out_sl, out_agg, out_tup, out_fnc, outs_nil, outs_cons, cells_imm, cells_ptr, cells_sl, cells_agg, len_nils, len_lst, len_sl, scal_int, scal_bool, scal_str, scal_nils, scal_nilp, scal_lst, scal_ptr, scal_sl, scal_fnc, dq_idx, dq_mv, dq_pick, dq_nilck, dq_bin, dq_un, dq_cvI, dq_cvBS, dq_cvSB, dq_cvBB, dq_mkI, dq_asrt, dq_mkF, dq_fld, dq_idxA, dq_ld, dq_st, dq_part, dq_idxV, dq_idxS, dq_boxL, dq_boxH, dq_alL, dq_alH, dq_build, dq_bsl, dq_mks, dq_slc, dq_slS, dq_len, dq_lenS, dq_lenA, dq_cap, dq_mn, dq_mx, dq_app, dq_appZ, dq_rng, dq_nxt, dq_ext]
    subst hQ
    simp
theorem needs_same {D : Nat} (hD : 1 ≤ D) {v w : IV} {xs : List Need} (hv : Sl 2 v (xs.map ivN)) (hw : Sl 2 w (xs.map ivN)) (hl : xs.length ≤ reachBytes) :
    bl (K DG D) 20 [.imm v, .imm w] = some (.imm (.bool true)) := by
  obtain ⟨d, rfl⟩ : ∃ d, D = d + 1 := ⟨D - 1, by omega⟩
  refine bl_fe ?_
  rw [D.k20]
  refine fn_dw rfl ?_
  have vl := hv.len
  have wl := hw.len
  simp only [List.length_map] at vl wl
  simp [vl, wl, dw_regg, dr_consg, dg_tt, dg_ff, dg_tf, dg_ft, dg_u, dg_d, dg_n, dg_o, dg_a, rg_tt, rg_ff, rg_tf, rg_ft, rg_u, rg_d, rg_n, undT, dw_seq, dw_block, dw_cond, dw_skip, dw_ret, dw_exit, dw_reg0, dw_reg, rs_some, dw_drw, dr_cons, dq_some, dr_nil, bk_nil, bk_norm_thn, bk_ret_thn, bk_exit_thn, bk_norm_blk, bk_ret_blk, bk_exit_blk, cd_t, cd_f, cd_d, cd_p, dg_p, rg_p, dec_true, dec_false, dec_iff, dec_fi, cd_n, cd_a, cd_o, fe_some, fin_ret, fin_norm, fnEnd, argsT, PT.get_put, keep, opRun, ev, evs, evO, give, giveI, binOf, isNilK, np_nilp, np_ptr, np_lref, np_cref, ns_nils, ns_lst, ns_sl, nf_nilf, nf_fnc, ni_nili, ni_iface, PM.flip, putT, putL, putH, un_not, un_neg, bi_add, bi_sub, bi_mul, bd_eql, bd_neq, bd_lss, bd_leq, bd_gtr, bd_geq, ilt_self, ilt_n0, bs_eql, bs_neq, callM_bl, callM_ro, callM_eff, pures_nil, pures_cons, pure_imm, pure_agg, loadOf, storeOf, cut, over, ofCells, asNat, natOr, calm, clashes, Acc.clash, ressOf, resOf, frz, frz.frzs, DV.flat, DV.flat.flats, imms, out_imm, out_ptr, out_sl, out_agg, out_tup, out_fnc, outs_nil, outs_cons, cells_imm, cells_ptr, cells_sl, cells_agg, len_nils, len_lst, len_sl, scal_int, scal_bool, scal_str, scal_nils, scal_nilp, scal_lst, scal_ptr, scal_sl, scal_fnc, dq_idx, dq_mv, dq_pick, dq_nilck, dq_bin, dq_un, dq_cvI, dq_cvBS, dq_cvSB, dq_cvBB, dq_mkI, dq_asrt, dq_mkF, dq_fld, dq_idxA, dq_ld, dq_st, dq_part, dq_idxV, dq_idxS, dq_boxL, dq_boxH, dq_alL, dq_alH, dq_build, dq_bsl, dq_mks, dq_slc, dq_slS, dq_len, dq_lenS, dq_lenA, dq_cap, dq_mn, dq_mx, dq_app, dq_appZ, dq_rng, dq_nxt, dq_ext]
  refine loopSN hv hw hl ⟨by simp [PT.get_put], by simp [PT.get_put], by simp [PT.get_put]⟩ ?_
  intro st'
  simp [dw_regg, dr_consg, dg_tt, dg_ff, dg_tf, dg_ft, dg_u, dg_d, dg_n, dg_o, dg_a, rg_tt, rg_ff, rg_tf, rg_ft, rg_u, rg_d, rg_n, undT, dw_seq, dw_block, dw_cond, dw_skip, dw_ret, dw_exit, dw_reg0, dw_reg, rs_some, dw_drw, dr_cons, dq_some, dr_nil, bk_nil, bk_norm_thn, bk_ret_thn, bk_exit_thn, bk_norm_blk, bk_ret_blk, bk_exit_blk, cd_t, cd_f, cd_d, cd_p, dg_p, rg_p, dec_true, dec_false, dec_iff, dec_fi, cd_n, cd_a, cd_o, fe_some, fin_ret, fin_norm, fnEnd, argsT, PT.get_put, keep, opRun, ev, evs, evO, give, giveI, binOf, isNilK, np_nilp, np_ptr, np_lref, np_cref, ns_nils, ns_lst, ns_sl, nf_nilf, nf_fnc, ni_nili, ni_iface, PM.flip, putT, putL, putH, un_not, un_neg, bi_add, bi_sub, bi_mul, bd_eql, bd_neq, bd_lss, bd_leq, bd_gtr, bd_geq, ilt_self, ilt_n0, bs_eql, bs_neq, callM_bl, callM_ro, callM_eff, pures_nil, pures_cons, pure_imm, pure_agg, loadOf, storeOf, cut, over, ofCells, asNat, natOr, calm, clashes, Acc.clash, ressOf, resOf, frz, frz.frzs, DV.flat, DV.flat.flats, imms, out_imm, out_ptr, out_sl, out_agg, out_tup, out_fnc, outs_nil, outs_cons, cells_imm, cells_ptr, cells_sl, cells_agg, len_nils, len_lst, len_sl, scal_int, scal_bool, scal_str, scal_nils, scal_nilp, scal_lst, scal_ptr, scal_sl, scal_fnc, dq_idx, dq_mv, dq_pick, dq_nilck, dq_bin, dq_un, dq_cvI, dq_cvBS, dq_cvSB, dq_cvBB, dq_mkI, dq_asrt, dq_mkF, dq_fld, dq_idxA, dq_ld, dq_st, dq_part, dq_idxV, dq_idxS, dq_boxL, dq_boxH, dq_alL, dq_alH, dq_build, dq_bsl, dq_mks, dq_slc, dq_slS, dq_len, dq_lenS, dq_lenA, dq_cap, dq_mn, dq_mx, dq_app, dq_appZ, dq_rng, dq_nxt, dq_ext]
end Go.Proofs.YtbhmihigfncfgaaDoor.D
