/-
  TableSelf over D.
-/
import Derived.Test.YtbhmihigfncfgaaDoorT4
import Derived.Test.YtbhmihigfncfgaaDoorT6
set_option linter.unusedVariables false
set_option linter.unusedSimpArgs false
set_option maxHeartbeats 4000000
namespace Go.Proofs.YtbhmihigfncfgaaDoor.D
open Go Go.PM
def ss_TableSelf : List (Bool × List Kd) := [(true, kdL)]
def ISe (l : Lo) (i : Nat) (st : St) : Prop := Box st 1 l.ivs ∧ st.T.get 3 = some (.imm (.int .i64 i))
theorem loopSe {l : Lo} (ok : LoOk l) (is : ISL l) {ks : List Kf} {st : St} {Q : Ex → St → Prop} (h : ISe l 0 st) (hk : ∀ st', ISe l l.rts.length st' → Bk DG (K DG 29) 0 (.exit 0) ks st' Q) :
    Wp DG (K DG 29) 0 D.l7_0 ks st Q := by
  have hrb := rb3
  refine dw_loop (N := l.rts.length) (small ok.lr) (ISe l) (fun e st' => e = .exit 0 ∧ ISe l l.rts.length st') (fun i st hle hI => ?_) h (fun e s' h => by rw [h.1]; exact hk s' h.2)
  obtain ⟨⟨id, h1, hL⟩, h3⟩ := hI
  have lr := ok.lr
  have rl := ok.r.len
  simp only [List.length_map] at rl
  by_cases hi : i < l.rts.length
  · have hi' : (i : Int) < l.rts.length := by omega
    have hj' := ilt_t hi'
    have hw8 : IntKind.i64.wrap ((i : Int) + 1) = (i : Int) + 1 := wr_succ hi lr
    have rk := ok.or _ (nth_mem hi)
    have ix := fun {h : Nat → Option HB} {n : Nat} => idx_sl (h := h) (n := n) ok.r (by omega) (k := .i64) (z := (i : Int)) (by omega) hi'
    have hc := Conflict_bl (D := 29) (by omega) ok is.few hi hi
    rw [dec_t (.inl rfl)] at hc
    obtain ⟨v, e, hv⟩ := Needs_bl (D := 29) (by omega) ok hi (is.few i hi).1 (is.few i hi).2
    have vl := hv.len
    simp only [List.length_map, nd, List.length_append] at vl
    have ql := rk.q.len
    have fl := rk.f.len
    simp only [List.length_map] at ql fl
    have a1 := is.few i hi
    have hw : IntKind.i64.wrap (((nth l.rts i).pts.length : Int) + ((nth l.rts i).flk.length : Int)) = ((nth l.rts i).pts.length + (nth l.rts i).flk.length : Nat) := by rw [wr_id (by omega) (by omega)]; omega
    generalize hQ : (fun (e : Ex) (s' : St) => _) = Q'
    simp only [D.l7_0b]
    simp (config := {contextual := true, maxSteps := 2000000}) [h1, h3, hL, hj', hw8, hc, e, vl, ql, fl, ix, hw, rl, ivRt, dw_regg, dr_consg, dg_tt, dg_ff, dg_tf, dg_ft, dg_u, dg_d, dg_n, dg_o, dg_a, rg_tt, rg_ff, rg_tf, rg_ft, rg_u, rg_d, rg_n, undT, dw_seq, dw_block, dw_cond, dw_skip, dw_ret, dw_exit, dw_reg0, dw_reg, rs_some, dw_drw, dr_cons, dq_some, dr_nil, bk_nil, bk_norm_thn, bk_ret_thn, bk_exit_thn, bk_norm_blk, bk_ret_blk, bk_exit_blk, cd_t, cd_f, cd_d, cd_p, dg_p, rg_p, dec_true, dec_false, dec_iff, dec_fi, cd_n, cd_a, cd_o, fe_some, fin_ret, fin_norm, fnEnd, argsT, PT.get_put, keep, opRun, ev, evs, evO, give, giveI, binOf, isNilK, np_nilp, np_ptr, np_lref, np_cref, ns_nils, ns_lst, ns_sl, nf_nilf, nf_fnc, ni_nili, ni_iface, PM.flip, putT, putL, putH, un_not, un_neg, bi_add, bi_sub, bi_mul, bd_eql, bd_neq, bd_lss, bd_leq, bd_gtr, bd_geq, ilt_self, ilt_n0, bs_eql, bs_neq, callM_bl, callM_ro, callM_eff, pures_nil, pures_cons, pure_imm, pure_agg, loadOf, storeOf, cut, over, ofCells, asNat, natOr, calm, clashes, Acc.clash, ressOf, resOf, frz, frz.frzs, DV.flat, DV.flat.flats, imms, out_imm, out_ptr, out_sl, out_agg, out_tup, out_fnc, outs_nil, outs_cons, cells_imm, cells_ptr, cells_sl, cells_agg, len_nils, len_lst, len_sl, scal_int, scal_bool, scal_str, scal_nils, scal_nilp, scal_lst, scal_ptr, scal_sl, scal_fnc, dq_idx, dq_mv, dq_pick, dq_nilck, dq_bin, dq_un, dq_cvI, dq_cvBS, dq_cvSB, dq_cvBB, dq_mkI, dq_asrt, dq_mkF, dq_fld, dq_idxA, dq_ld, dq_st, dq_part, dq_idxV, dq_idxS, dq_boxL, dq_boxH, dq_alL, dq_alH, dq_build, dq_bsl, dq_mks, dq_slc, dq_slS, dq_len, dq_lenS, dq_lenA, dq_cap, dq_mn, dq_mx, dq_app, dq_appZ, dq_rng, dq_nxt, dq_ext]
    subst hQ
    simp [ISe, Box, PT.get_put, imms, hi]
  · obtain rfl : i = l.rts.length := by omega
    generalize hQ : (fun (e : Ex) (s' : St) => _) = Q'
    simp only [D.l7_0b]
    simp [h1, h3, hL, rl, dw_regg, dr_consg, dg_tt, dg_ff, dg_tf, dg_ft, dg_u, dg_d, dg_n, dg_o, dg_a, rg_tt, rg_ff, rg_tf, rg_ft, rg_u, rg_d, rg_n, undT, dw_seq, dw_block, dw_cond, dw_skip, dw_ret, dw_exit, dw_reg0, dw_reg, rs_some, dw_drw, dr_cons, dq_some, dr_nil, bk_nil, bk_norm_thn, bk_ret_thn, bk_exit_thn, bk_norm_blk, bk_ret_blk, bk_exit_blk, cd_t, cd_f, cd_d, cd_p, dg_p, rg_p, dec_true, dec_false, dec_iff, dec_fi, cd_n, cd_a, cd_o, fe_some, fin_ret, fin_norm, fnEnd, argsT, PT.get_put, keep, opRun, ev, evs, evO, give, giveI, binOf, isNilK, np_nilp, np_ptr, np_lref, np_cref, ns_nils, ns_lst, ns_sl, nf_nilf, nf_fnc, ni_nili, ni_iface, PM.flip, putT, putL, putH, un_not, un_neg, bi_add, bi_sub, bi_mul, bd_eql, bd_neq, bd_lss, bd_leq, bd_gtr, bd_geq, ilt_self, ilt_n0, bs_eql, bs_neq, callM_bl, callM_ro, callM_eff, pures_nil, pures_cons, pure_imm, pure_agg, loadOf, storeOf, cut, over, ofCells, asNat, natOr, calm, clashes, Acc.clash, ressOf, resOf, frz, frz.frzs, DV.flat, DV.flat.flats, imms, out_imm, out_ptr, out_sl, out_agg, out_tup, out_fnc, outs_nil, outs_cons, cells_imm, cells_ptr, cells_sl, cells_agg, len_nils, len_lst, len_sl, scal_int, scal_bool, scal_str, scal_nils, scal_nilp, scal_lst, scal_ptr, scal_sl, scal_fnc, dq_idx, dq_mv, dq_pick, dq_nilck, dq_bin, dq_un, dq_cvI, dq_cvBS, dq_cvSB, dq_cvBB, dq_mkI, dq_asrt, dq_mkF, dq_fld, dq_idxA, dq_ld, dq_st, dq_part, dq_idxV, dq_idxS, dq_boxL, dq_boxH, dq_alL, dq_alH, dq_build, dq_bsl, dq_mks, dq_slc, dq_slS, dq_len, dq_lenS, dq_lenA, dq_cap, dq_mn, dq_mx, dq_app, dq_appZ, dq_rng, dq_nxt, dq_ext]
    subst hQ
    simp [ISe, Box, PT.get_put, h1, h3, hL, imms]
theorem run_TableSelf {l : Lo} (ok : LoOk l) : Fe (K DG 30 7 [l.dv] .lf 0 0) (fun v _ _ => v = .imm (.bool true)) := by
  obtain ⟨m, hm, hs⟩ := size_bl (D := 29) (by omega) ok
  have hk := known_bl
  rw [D.k7]
  refine fn_dw rfl ?_
  by_cases hm3 : m < 3000
  · have hj3 : ILt (m : Int) 3000 = True := ilt_t (by omega)
    have e2 := Is4_bl (D := 29) (by omega) ok (hs hm3).sm
    generalize hQ : Fin _ _ = Q
    simp (config := {contextual := true, maxSteps := 2000000}) [ok.s.scal, ok.p.scal, ok.g.scal, ok.r.scal, hm, hj3, e2, dw_regg, dr_consg, dg_tt, dg_ff, dg_tf, dg_ft, dg_u, dg_d, dg_n, dg_o, dg_a, rg_tt, rg_ff, rg_tf, rg_ft, rg_u, rg_d, rg_n, undT, dw_seq, dw_block, dw_cond, dw_skip, dw_ret, dw_exit, dw_reg0, dw_reg, rs_some, dw_drw, dr_cons, dq_some, dr_nil, bk_nil, bk_norm_thn, bk_ret_thn, bk_exit_thn, bk_norm_blk, bk_ret_blk, bk_exit_blk, cd_t, cd_f, cd_d, cd_p, dg_p, rg_p, dec_true, dec_false, dec_iff, dec_fi, cd_n, cd_a, cd_o, fe_some, fin_ret, fin_norm, fnEnd, argsT, PT.get_put, keep, opRun, ev, evs, evO, give, giveI, binOf, isNilK, np_nilp, np_ptr, np_lref, np_cref, ns_nils, ns_lst, ns_sl, nf_nilf, nf_fnc, ni_nili, ni_iface, PM.flip, putT, putL, putH, un_not, un_neg, bi_add, bi_sub, bi_mul, bd_eql, bd_neq, bd_lss, bd_leq, bd_gtr, bd_geq, ilt_self, ilt_n0, bs_eql, bs_neq, callM_bl, callM_ro, callM_eff, pures_nil, pures_cons, pure_imm, pure_agg, loadOf, storeOf, cut, over, ofCells, asNat, natOr, calm, clashes, Acc.clash, ressOf, resOf, frz, frz.frzs, DV.flat, DV.flat.flats, imms, out_imm, out_ptr, out_sl, out_agg, out_tup, out_fnc, outs_nil, outs_cons, cells_imm, cells_ptr, cells_sl, cells_agg, len_nils, len_lst, len_sl, scal_int, scal_bool, scal_str, scal_nils, scal_nilp, scal_lst, scal_ptr, scal_sl, scal_fnc, dq_idx, dq_mv, dq_pick, dq_nilck, dq_bin, dq_un, dq_cvI, dq_cvBS, dq_cvSB, dq_cvBB, dq_mkI, dq_asrt, dq_mkF, dq_fld, dq_idxA, dq_ld, dq_st, dq_part, dq_idxV, dq_idxS, dq_boxL, dq_boxH, dq_alL, dq_alH, dq_build, dq_bsl, dq_mks, dq_slc, dq_slS, dq_len, dq_lenS, dq_lenA, dq_cap, dq_mn, dq_mx, dq_app, dq_appZ, dq_rng, dq_nxt, dq_ext]
    subst hQ
    refine ⟨fun is => ?_, fun _ => by simp [dw_regg, dr_consg, dg_tt, dg_ff, dg_tf, dg_ft, dg_u, dg_d, dg_n, dg_o, dg_a, rg_tt, rg_ff, rg_tf, rg_ft, rg_u, rg_d, rg_n, undT, dw_seq, dw_block, dw_cond, dw_skip, dw_ret, dw_exit, dw_reg0, dw_reg, rs_some, dw_drw, dr_cons, dq_some, dr_nil, bk_nil, bk_norm_thn, bk_ret_thn, bk_exit_thn, bk_norm_blk, bk_ret_blk, bk_exit_blk, cd_t, cd_f, cd_d, cd_p, dg_p, rg_p, dec_true, dec_false, dec_iff, dec_fi, cd_n, cd_a, cd_o, fe_some, fin_ret, fin_norm, fnEnd, argsT, PT.get_put, keep, opRun, ev, evs, evO, give, giveI, binOf, isNilK, np_nilp, np_ptr, np_lref, np_cref, ns_nils, ns_lst, ns_sl, nf_nilf, nf_fnc, ni_nili, ni_iface, PM.flip, putT, putL, putH, un_not, un_neg, bi_add, bi_sub, bi_mul, bd_eql, bd_neq, bd_lss, bd_leq, bd_gtr, bd_geq, ilt_self, ilt_n0, bs_eql, bs_neq, callM_bl, callM_ro, callM_eff, pures_nil, pures_cons, pure_imm, pure_agg, loadOf, storeOf, cut, over, ofCells, asNat, natOr, calm, clashes, Acc.clash, ressOf, resOf, frz, frz.frzs, DV.flat, DV.flat.flats, imms, out_imm, out_ptr, out_sl, out_agg, out_tup, out_fnc, outs_nil, outs_cons, cells_imm, cells_ptr, cells_sl, cells_agg, len_nils, len_lst, len_sl, scal_int, scal_bool, scal_str, scal_nils, scal_nilp, scal_lst, scal_ptr, scal_sl, scal_fnc, dq_idx, dq_mv, dq_pick, dq_nilck, dq_bin, dq_un, dq_cvI, dq_cvBS, dq_cvSB, dq_cvBB, dq_mkI, dq_asrt, dq_mkF, dq_fld, dq_idxA, dq_ld, dq_st, dq_part, dq_idxV, dq_idxS, dq_boxL, dq_boxH, dq_alL, dq_alH, dq_build, dq_bsl, dq_mks, dq_slc, dq_slS, dq_len, dq_lenS, dq_lenA, dq_cap, dq_mn, dq_mx, dq_app, dq_appZ, dq_rng, dq_nxt, dq_ext]⟩
    refine loopSe ok is ⟨⟨0, by simp [PT.get_put], by simp [PT.get_put, imms]⟩, by simp [PT.get_put]⟩ ?_
    rintro st' ⟨⟨id, h1, hL⟩, h3⟩
    simp [hk, dw_regg, dr_consg, dg_tt, dg_ff, dg_tf, dg_ft, dg_u, dg_d, dg_n, dg_o, dg_a, rg_tt, rg_ff, rg_tf, rg_ft, rg_u, rg_d, rg_n, undT, dw_seq, dw_block, dw_cond, dw_skip, dw_ret, dw_exit, dw_reg0, dw_reg, rs_some, dw_drw, dr_cons, dq_some, dr_nil, bk_nil, bk_norm_thn, bk_ret_thn, bk_exit_thn, bk_norm_blk, bk_ret_blk, bk_exit_blk, cd_t, cd_f, cd_d, cd_p, dg_p, rg_p, dec_true, dec_false, dec_iff, dec_fi, cd_n, cd_a, cd_o, fe_some, fin_ret, fin_norm, fnEnd, argsT, PT.get_put, keep, opRun, ev, evs, evO, give, giveI, binOf, isNilK, np_nilp, np_ptr, np_lref, np_cref, ns_nils, ns_lst, ns_sl, nf_nilf, nf_fnc, ni_nili, ni_iface, PM.flip, putT, putL, putH, un_not, un_neg, bi_add, bi_sub, bi_mul, bd_eql, bd_neq, bd_lss, bd_leq, bd_gtr, bd_geq, ilt_self, ilt_n0, bs_eql, bs_neq, callM_bl, callM_ro, callM_eff, pures_nil, pures_cons, pure_imm, pure_agg, loadOf, storeOf, cut, over, ofCells, asNat, natOr, calm, clashes, Acc.clash, ressOf, resOf, frz, frz.frzs, DV.flat, DV.flat.flats, imms, out_imm, out_ptr, out_sl, out_agg, out_tup, out_fnc, outs_nil, outs_cons, cells_imm, cells_ptr, cells_sl, cells_agg, len_nils, len_lst, len_sl, scal_int, scal_bool, scal_str, scal_nils, scal_nilp, scal_lst, scal_ptr, scal_sl, scal_fnc, dq_idx, dq_mv, dq_pick, dq_nilck, dq_bin, dq_un, dq_cvI, dq_cvBS, dq_cvSB, dq_cvBB, dq_mkI, dq_asrt, dq_mkF, dq_fld, dq_idxA, dq_ld, dq_st, dq_part, dq_idxV, dq_idxS, dq_boxL, dq_boxH, dq_alL, dq_alH, dq_build, dq_bsl, dq_mks, dq_slc, dq_slS, dq_len, dq_lenS, dq_lenA, dq_cap, dq_mn, dq_mx, dq_app, dq_appZ, dq_rng, dq_nxt, dq_ext]
  · have hj3 : ILt (m : Int) 3000 = False := ilt_f (by omega)
    simp (config := {contextual := true, maxSteps := 2000000}) [ok.s.scal, ok.p.scal, ok.g.scal, ok.r.scal, hm, hj3, dw_regg, dr_consg, dg_tt, dg_ff, dg_tf, dg_ft, dg_u, dg_d, dg_n, dg_o, dg_a, rg_tt, rg_ff, rg_tf, rg_ft, rg_u, rg_d, rg_n, undT, dw_seq, dw_block, dw_cond, dw_skip, dw_ret, dw_exit, dw_reg0, dw_reg, rs_some, dw_drw, dr_cons, dq_some, dr_nil, bk_nil, bk_norm_thn, bk_ret_thn, bk_exit_thn, bk_norm_blk, bk_ret_blk, bk_exit_blk, cd_t, cd_f, cd_d, cd_p, dg_p, rg_p, dec_true, dec_false, dec_iff, dec_fi, cd_n, cd_a, cd_o, fe_some, fin_ret, fin_norm, fnEnd, argsT, PT.get_put, keep, opRun, ev, evs, evO, give, giveI, binOf, isNilK, np_nilp, np_ptr, np_lref, np_cref, ns_nils, ns_lst, ns_sl, nf_nilf, nf_fnc, ni_nili, ni_iface, PM.flip, putT, putL, putH, un_not, un_neg, bi_add, bi_sub, bi_mul, bd_eql, bd_neq, bd_lss, bd_leq, bd_gtr, bd_geq, ilt_self, ilt_n0, bs_eql, bs_neq, callM_bl, callM_ro, callM_eff, pures_nil, pures_cons, pure_imm, pure_agg, loadOf, storeOf, cut, over, ofCells, asNat, natOr, calm, clashes, Acc.clash, ressOf, resOf, frz, frz.frzs, DV.flat, DV.flat.flats, imms, out_imm, out_ptr, out_sl, out_agg, out_tup, out_fnc, outs_nil, outs_cons, cells_imm, cells_ptr, cells_sl, cells_agg, len_nils, len_lst, len_sl, scal_int, scal_bool, scal_str, scal_nils, scal_nilp, scal_lst, scal_ptr, scal_sl, scal_fnc, dq_idx, dq_mv, dq_pick, dq_nilck, dq_bin, dq_un, dq_cvI, dq_cvBS, dq_cvSB, dq_cvBB, dq_mkI, dq_asrt, dq_mkF, dq_fld, dq_idxA, dq_ld, dq_st, dq_part, dq_idxV, dq_idxS, dq_boxL, dq_boxH, dq_alL, dq_alH, dq_build, dq_bsl, dq_mks, dq_slc, dq_slS, dq_len, dq_lenS, dq_lenA, dq_cap, dq_mn, dq_mx, dq_app, dq_appZ, dq_rng, dq_nxt, dq_ext]
theorem pure_TableSelf : ∀ cs, ArgsFit ss_TableSelf cs → ∃ H' n', K (doorG 0 1) 30 7 cs .lf 0 0 = some (.imm (.bool true), H', n') := fun cs h => by
  obtain ⟨d, ds, rfl, h1, h2⟩ := fit_cons h
  obtain ⟨l, rfl, ok⟩ := lay_of h1
  cases fit0 (r := []) h2
  obtain ⟨v, H, n, e, rfl⟩ := run_TableSelf ok
  exact ⟨H, n, e⟩
end Go.Proofs.YtbhmihigfncfgaaDoor.D
