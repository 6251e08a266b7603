/-
  TableMay over D.
-/
import Derived.Test.YtbhmihigfncfgaaDoorT4
set_option linter.unusedVariables false
set_option linter.unusedSimpArgs false
set_option maxHeartbeats 4000000
namespace Go.Proofs.YtbhmihigfncfgaaDoor.D
open Go Go.PM
def ss_TableMay : List (Bool × List Kd) := [(true, kdL)]
theorem run_TableMay {l : Lo} (ok : LoOk l) : Fe (K DG 30 3 [l.dv] .lf 0 0) (fun v _ _ => v = .imm (.bool true)) := by
  obtain ⟨m, hm, hs⟩ := size_bl (D := 29) (by omega) ok
  have hk := known_bl
  rw [D.k3]
  refine fn_dw rfl ?_
  by_cases hm3 : m < 3000
  · have hj3 : ILt (m : Int) 3000 = True := ilt_t (by omega)
    have e1 := Is_bl (D := 29) (by omega) ok
    have e2 := Is4_bl (D := 29) (by omega) ok (hs hm3).sm
    simp (config := {contextual := true, maxSteps := 2000000}) [ok.s.scal, ok.p.scal, ok.g.scal, ok.r.scal, hm, hj3, hk, e1, e2, dw_regg, dr_consg, dg_tt, dg_ff, dg_tf, dg_ft, dg_u, dg_d, dg_n, dg_o, dg_a, rg_tt, rg_ff, rg_tf, rg_ft, rg_u, rg_d, rg_n, undT, dw_seq, dw_block, dw_cond, dw_skip, dw_ret, dw_exit, dw_reg0, dw_reg, rs_some, dw_drw, dr_cons, dq_some, dr_nil, bk_nil, bk_norm_thn, bk_ret_thn, bk_exit_thn, bk_norm_blk, bk_ret_blk, bk_exit_blk, cd_t, cd_f, cd_d, cd_p, dg_p, rg_p, dec_true, dec_false, dec_iff, dec_fi, cd_n, cd_a, cd_o, fe_some, fin_ret, fin_norm, fnEnd, argsT, PT.get_put, keep, opRun, ev, evs, evO, give, giveI, binOf, isNilK, np_nilp, np_ptr, np_lref, np_cref, ns_nils, ns_lst, ns_sl, nf_nilf, nf_fnc, ni_nili, ni_iface, PM.flip, putT, putL, putH, un_not, un_neg, bi_add, bi_sub, bi_mul, bd_eql, bd_neq, bd_lss, bd_leq, bd_gtr, bd_geq, ilt_lit, ilt_self, ilt_n0, bs_eql, bs_neq, callM_bl, callM_ro, callM_eff, pures_nil, pures_cons, pure_imm, pure_agg, loadOf, storeOf, cut, over, ofCells, asNat, natOr, calm, clashes, Acc.clash, ressOf, resOf, frz, frz.frzs, DV.flat, DV.flat.flats, imms, out_imm, out_ptr, out_sl, out_agg, out_tup, out_fnc, outs_nil, outs_cons, cells_imm, cells_ptr, cells_sl, cells_agg, len_nils, len_lst, len_sl, scal_int, scal_bool, scal_str, scal_nils, scal_nilp, scal_lst, scal_ptr, scal_sl, scal_fnc, dq_idx, dq_mv, dq_pick, dq_nilck, dq_bin, dq_un, dq_cvI, dq_cvBS, dq_cvSB, dq_cvBB, dq_mkI, dq_asrt, dq_mkF, dq_fld, dq_idxA, dq_ld, dq_st, dq_part, dq_idxV, dq_idxS, dq_boxL, dq_boxH, dq_alL, dq_alH, dq_build, dq_bsl, dq_mks, dq_slc, dq_slS, dq_len, dq_lenS, dq_lenA, dq_cap, dq_mn, dq_mx, dq_app, dq_appZ, dq_rng, dq_nxt, dq_ext]
  · have hj3 : ILt (m : Int) 3000 = False := ilt_f (by omega)
    simp (config := {contextual := true, maxSteps := 2000000}) [ok.s.scal, ok.p.scal, ok.g.scal, ok.r.scal, hm, hj3, dw_regg, dr_consg, dg_tt, dg_ff, dg_tf, dg_ft, dg_u, dg_d, dg_n, dg_o, dg_a, rg_tt, rg_ff, rg_tf, rg_ft, rg_u, rg_d, rg_n, undT, dw_seq, dw_block, dw_cond, dw_skip, dw_ret, dw_exit, dw_reg0, dw_reg, rs_some, dw_drw, dr_cons, dq_some, dr_nil, bk_nil, bk_norm_thn, bk_ret_thn, bk_exit_thn, bk_norm_blk, bk_ret_blk, bk_exit_blk, cd_t, cd_f, cd_d, cd_p, dg_p, rg_p, dec_true, dec_false, dec_iff, dec_fi, cd_n, cd_a, cd_o, fe_some, fin_ret, fin_norm, fnEnd, argsT, PT.get_put, keep, opRun, ev, evs, evO, give, giveI, binOf, isNilK, np_nilp, np_ptr, np_lref, np_cref, ns_nils, ns_lst, ns_sl, nf_nilf, nf_fnc, ni_nili, ni_iface, PM.flip, putT, putL, putH, un_not, un_neg, bi_add, bi_sub, bi_mul, bd_eql, bd_neq, bd_lss, bd_leq, bd_gtr, bd_geq, ilt_lit, ilt_self, ilt_n0, bs_eql, bs_neq, callM_bl, callM_ro, callM_eff, pures_nil, pures_cons, pure_imm, pure_agg, loadOf, storeOf, cut, over, ofCells, asNat, natOr, calm, clashes, Acc.clash, ressOf, resOf, frz, frz.frzs, DV.flat, DV.flat.flats, imms, out_imm, out_ptr, out_sl, out_agg, out_tup, out_fnc, outs_nil, outs_cons, cells_imm, cells_ptr, cells_sl, cells_agg, len_nils, len_lst, len_sl, scal_int, scal_bool, scal_str, scal_nils, scal_nilp, scal_lst, scal_ptr, scal_sl, scal_fnc, dq_idx, dq_mv, dq_pick, dq_nilck, dq_bin, dq_un, dq_cvI, dq_cvBS, dq_cvSB, dq_cvBB, dq_mkI, dq_asrt, dq_mkF, dq_fld, dq_idxA, dq_ld, dq_st, dq_part, dq_idxV, dq_idxS, dq_boxL, dq_boxH, dq_alL, dq_alH, dq_build, dq_bsl, dq_mks, dq_slc, dq_slS, dq_len, dq_lenS, dq_lenA, dq_cap, dq_mn, dq_mx, dq_app, dq_appZ, dq_rng, dq_nxt, dq_ext]
theorem pure_TableMay : ∀ cs, ArgsFit ss_TableMay cs → ∃ H' n', K (doorG 0 1) 30 3 cs .lf 0 0 = some (.imm (.bool true), H', n') := fun cs h => by
  obtain ⟨d, ds, rfl, h1, h2⟩ := fit_cons h
  obtain ⟨l, rfl, ok⟩ := lay_of h1
  cases fit0 (r := []) h2
  obtain ⟨v, H, n, e, rfl⟩ := run_TableMay ok
  exact ⟨H, n, e⟩
end Go.Proofs.YtbhmihigfncfgaaDoor.D
