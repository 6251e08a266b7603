/-
  TableLess over D.
-/
import Derived.Test.YtbhmihigfncfgaaDoorT4
import Derived.Test.YtbhmihigfncfgaaDoorT7
set_option linter.unusedVariables false
set_option linter.unusedSimpArgs false
set_option maxHeartbeats 4000000
namespace Go.Proofs.YtbhmihigfncfgaaDoor.D
open Go Go.PM
def ss_TableLess : List (Bool × List Kd) := [(true, kdL)]
/-- A layout's first routes. -/
def Lo.less (l : Lo) (n : Nat) : Lo := { l with rv := takeV l.rv n, rts := l.rts.take n }
theorem nth_take {α : Type} [Inhabited α] {xs : List α} {n i : Nat} (h : i < n) : nth (xs.take n) i = nth xs i := by
  simp [nth, List.getD, List.getElem?_take, h]
theorem less_ok {l : Lo} (ok : LoOk l) (n : Nat) : LoOk (l.less n) :=
  ⟨ok.s, ok.p, ok.g, takeV_sl ok.r n, ok.ls, ok.lp, ok.lg, by simp [Lo.less]; have := ok.lr; omega, ok.os, ok.op, ok.og, fun x hx => ok.or x (List.mem_of_mem_take hx)⟩
theorem less_rt {l : Lo} {n : Nat} {r : Rt} (h : RT l r) : RT (l.less n) r := ⟨h.fr, h.to, h.ne, h.pa, h.p1, h.p5, h.np, h.nf, h.ct⟩
theorem NM_take {ss : List (List UInt8)} (h : NM ss) (n : Nat) : NM (ss.take n) := fun i s hi => by
  rw [List.getElem?_take] at hi
  split at hi
  · rename_i hlt
    have := h i s hi
    rw [List.take_take, Nat.min_eq_left (by omega)]
    exact this
  · cases hi
theorem less_is {l : Lo} {n : Nat} (hn : n ≤ l.rts.length) (is : ISL l) : ISL (l.less n) := by
  have hl : (l.less n).rts.length = n := by simp [Lo.less]; omega
  refine ⟨is.s1, is.s2, is.g1, is.g2, is.p2, by rw [hl]; have := is.r2; omega, is.ps, is.ns, is.ng, is.np, ?_, fun i hi => ?_⟩
  · have := NM_take is.nr n
    simpa [rn, Lo.less, List.map_take] using this
  · rw [hl] at hi
    have : nth (l.less n).rts i = nth l.rts i := nth_take hi
    rw [this]
    exact less_rt (is.rr i (by omega))
theorem less_cf {l : Lo} {n r s : Nat} (hr : r < n) (hs : s < n) : CF (l.less n) r s = CF l r s := by
  have h1 : nth (l.less n).rts r = nth l.rts r := nth_take hr
  have h2 : nth (l.less n).rts s = nth l.rts s := nth_take hs
  simp only [CF, h1, h2]
def ILe (l : Lo) (n : Nat) (st : St) : Prop := Box st 1 l.ivs ∧ st.T.get 3 = some (.imm (.int .i64 n)) ∧ Box st 4 (l.less n).ivs
def IL1 (l : Lo) (n r s : Nat) (st : St) : Prop := ILe l n st ∧ st.T.get 5 = some (.imm (.int .i64 r)) ∧ st.T.get 6 = some (.imm (.int .i64 s))
theorem loopL1 {l : Lo} (ok : LoOk l) (is : ISL l) {n : Nat} (hn : n < l.rts.length) {r : Nat} (hr : r < n) {ks : List Kf} {st : St} {Q : Ex → St → Prop} (h : IL1 l n r 0 st) (hk : ∀ st', IL1 l n r n st' → Bk DG (K DG 29) 0 (.exit 2) ks st' Q) :
    Wp DG (K DG 29) 0 D.l8_1 ks st Q := by
  have hrb := rb3
  have lr := ok.lr
  have r6 := is.r2
  refine dw_loop (N := n) (small (by omega)) (IL1 l n r) (fun e st' => e = .exit 2 ∧ IL1 l n r n st') (fun i st hle hI => ?_) h (fun e s' h => by rw [h.1]; exact hk s' h.2)
  obtain ⟨⟨⟨i1, h1, L1⟩, h3, ⟨i4, h4, L4⟩⟩, h5, h6⟩ := hI
  have ml : (l.less n).rts.length = n := by simp [Lo.less]; omega
  by_cases hi : i < n
  · have hi' : (i : Int) < n := by omega
    have hj' := ilt_t hi'
    have hw8 : IntKind.i64.wrap ((i : Int) + 1) = (i : Int) + 1 := wr_succ hi (by omega)
    have c1 := Conflict_bl (D := 29) (by omega) ok is.few (r := r) (s := i) (by omega) (by omega)
    have c2 := Conflict_bl (D := 29) (by omega) (less_ok ok n) (less_is (n := n) (by omega) is).few (r := r) (s := i) (by omega) (by omega)
    rw [less_cf hr hi] at c2
    generalize hQ : (fun (e : Ex) (s' : St) => _) = Q'
    simp only [D.l8_1b]
    simp [h1, h3, h4, h5, h6, L1, L4, hj', hw8, c1, c2, dw_regg, dr_consg, dg_tt, dg_ff, dg_tf, dg_ft, dg_u, dg_d, dg_n, dg_o, dg_a, rg_tt, rg_ff, rg_tf, rg_ft, rg_u, rg_d, rg_n, undT, dw_seq, dw_block, dw_cond, dw_skip, dw_ret, dw_exit, dw_reg0, dw_reg, rs_some, dw_drw, dr_cons, dq_some, dr_nil, bk_nil, bk_norm_thn, bk_ret_thn, bk_exit_thn, bk_norm_blk, bk_ret_blk, bk_exit_blk, cd_t, cd_f, cd_d, cd_p, dg_p, rg_p, dec_true, dec_false, dec_iff, dec_fi, cd_n, cd_a, cd_o, fe_some, fin_ret, fin_norm, fnEnd, argsT, PT.get_put, keep, opRun, ev, evs, evO, give, giveI, binOf, isNilK, np_nilp, np_ptr, np_lref, np_cref, ns_nils, ns_lst, ns_sl, nf_nilf, nf_fnc, ni_nili, ni_iface, PM.flip, putT, putL, putH, un_not, un_neg, bi_add, bi_sub, bi_mul, bd_eql, bd_neq, bd_lss, bd_leq, bd_gtr, bd_geq, ilt_self, ilt_n0, bs_eql, bs_neq, callM_bl, callM_ro, callM_eff, pures_nil, pures_cons, pure_imm, pure_agg, loadOf, storeOf, cut, over, ofCells, asNat, natOr, calm, clashes, Acc.clash, ressOf, resOf, frz, frz.frzs, DV.flat, DV.flat.flats, imms, out_imm, out_ptr, out_sl, out_agg, out_tup, out_fnc, outs_nil, outs_cons, cells_imm, cells_ptr, cells_sl, cells_agg, len_nils, len_lst, len_sl, scal_int, scal_bool, scal_str, scal_nils, scal_nilp, scal_lst, scal_ptr, scal_sl, scal_fnc, dq_idx, dq_mv, dq_pick, dq_nilck, dq_bin, dq_un, dq_cvI, dq_cvBS, dq_cvSB, dq_cvBB, dq_mkI, dq_asrt, dq_mkF, dq_fld, dq_idxA, dq_ld, dq_st, dq_part, dq_idxV, dq_idxS, dq_boxL, dq_boxH, dq_alL, dq_alH, dq_build, dq_bsl, dq_mks, dq_slc, dq_slS, dq_len, dq_lenS, dq_lenA, dq_cap, dq_mn, dq_mx, dq_app, dq_appZ, dq_rng, dq_nxt, dq_ext]
    subst hQ
    exact .inl ⟨rfl, hi, ⟨⟨i1, by simp [PT.get_put], by simp [PT.get_put, imms]⟩, by simp [PT.get_put], ⟨i4, by simp [PT.get_put], by simp [PT.get_put, imms]⟩⟩, by simp [PT.get_put], by simp [PT.get_put]⟩
  · obtain rfl : i = n := by omega
    generalize hQ : (fun (e : Ex) (s' : St) => _) = Q'
    simp only [D.l8_1b]
    simp [h1, h3, h4, h5, h6, L1, L4, dw_regg, dr_consg, dg_tt, dg_ff, dg_tf, dg_ft, dg_u, dg_d, dg_n, dg_o, dg_a, rg_tt, rg_ff, rg_tf, rg_ft, rg_u, rg_d, rg_n, undT, dw_seq, dw_block, dw_cond, dw_skip, dw_ret, dw_exit, dw_reg0, dw_reg, rs_some, dw_drw, dr_cons, dq_some, dr_nil, bk_nil, bk_norm_thn, bk_ret_thn, bk_exit_thn, bk_norm_blk, bk_ret_blk, bk_exit_blk, cd_t, cd_f, cd_d, cd_p, dg_p, rg_p, dec_true, dec_false, dec_iff, dec_fi, cd_n, cd_a, cd_o, fe_some, fin_ret, fin_norm, fnEnd, argsT, PT.get_put, keep, opRun, ev, evs, evO, give, giveI, binOf, isNilK, np_nilp, np_ptr, np_lref, np_cref, ns_nils, ns_lst, ns_sl, nf_nilf, nf_fnc, ni_nili, ni_iface, PM.flip, putT, putL, putH, un_not, un_neg, bi_add, bi_sub, bi_mul, bd_eql, bd_neq, bd_lss, bd_leq, bd_gtr, bd_geq, ilt_self, ilt_n0, bs_eql, bs_neq, callM_bl, callM_ro, callM_eff, pures_nil, pures_cons, pure_imm, pure_agg, loadOf, storeOf, cut, over, ofCells, asNat, natOr, calm, clashes, Acc.clash, ressOf, resOf, frz, frz.frzs, DV.flat, DV.flat.flats, imms, out_imm, out_ptr, out_sl, out_agg, out_tup, out_fnc, outs_nil, outs_cons, cells_imm, cells_ptr, cells_sl, cells_agg, len_nils, len_lst, len_sl, scal_int, scal_bool, scal_str, scal_nils, scal_nilp, scal_lst, scal_ptr, scal_sl, scal_fnc, dq_idx, dq_mv, dq_pick, dq_nilck, dq_bin, dq_un, dq_cvI, dq_cvBS, dq_cvSB, dq_cvBB, dq_mkI, dq_asrt, dq_mkF, dq_fld, dq_idxA, dq_ld, dq_st, dq_part, dq_idxV, dq_idxS, dq_boxL, dq_boxH, dq_alL, dq_alH, dq_build, dq_bsl, dq_mks, dq_slc, dq_slS, dq_len, dq_lenS, dq_lenA, dq_cap, dq_mn, dq_mx, dq_app, dq_appZ, dq_rng, dq_nxt, dq_ext]
    subst hQ
    exact .inr ⟨nofun, rfl, ⟨⟨i1, by simp [PT.get_put, h1], by simp [PT.get_put, L1, imms]⟩, by simp [PT.get_put], ⟨i4, by simp [PT.get_put, h4], by simp [PT.get_put, L4, imms]⟩⟩, by simp [PT.get_put], by simp [PT.get_put]⟩
def IL0 (l : Lo) (n r : Nat) (st : St) : Prop := ILe l n st ∧ st.T.get 5 = some (.imm (.int .i64 r))
theorem loopL0 {l : Lo} (ok : LoOk l) (is : ISL l) {n : Nat} (hn : n < l.rts.length) {ks : List Kf} {st : St} {Q : Ex → St → Prop} (h : IL0 l n 0 st) (hk : ∀ st', Bk DG (K DG 29) 0 (.exit 0) ks st' Q) :
    Wp DG (K DG 29) 0 D.l8_0 ks st Q := by
  have hrb := rb3
  have lr := ok.lr
  have r6 := is.r2
  refine dw_loop (N := n) (small (by omega)) (IL0 l n) (fun e st' => e = .exit 0) (fun i st hle hI => ?_) h (fun e s' h => by rw [h]; exact hk s')
  obtain ⟨⟨⟨i1, h1, L1⟩, h3, ⟨i4, h4, L4⟩⟩, h5⟩ := hI
  have ml : (l.less n).rts.length = n := by simp [Lo.less]; omega
  by_cases hi : i < n
  · have hi' : (i : Int) < n := by omega
    have hj' := ilt_t hi'
    have hw8 : IntKind.i64.wrap ((i : Int) + 1) = (i : Int) + 1 := wr_succ hi (by omega)
    have fw := is.few i (by omega)
    have im := less_is (n := n) (by omega) is
    have fm := im.few i (by omega)
    obtain ⟨v, e1, hv⟩ := Needs_bl (D := 29) (by omega) ok (r := i) (by omega) fw.1 fw.2
    obtain ⟨w, e2, hw⟩ := Needs_bl (D := 29) (by omega) (less_ok ok n) (r := i) (by omega) fm.1 fm.2
    rw [show nth (l.less n).rts i = nth l.rts i from nth_take hi] at hw
    have e3 := needs_same (D := 29) (by omega) hv hw (by simp [nd]; omega)
    generalize hQ : (fun (e : Ex) (s' : St) => _) = Q'
    simp only [D.l8_0b]
    simp [h1, h3, h4, h5, L1, L4, hj', dw_regg, dr_consg, dg_tt, dg_ff, dg_tf, dg_ft, dg_u, dg_d, dg_n, dg_o, dg_a, rg_tt, rg_ff, rg_tf, rg_ft, rg_u, rg_d, rg_n, undT, dw_seq, dw_block, dw_cond, dw_skip, dw_ret, dw_exit, dw_reg0, dw_reg, rs_some, dw_drw, dr_cons, dq_some, dr_nil, bk_nil, bk_norm_thn, bk_ret_thn, bk_exit_thn, bk_norm_blk, bk_ret_blk, bk_exit_blk, cd_t, cd_f, cd_d, cd_p, dg_p, rg_p, dec_true, dec_false, dec_iff, dec_fi, cd_n, cd_a, cd_o, fe_some, fin_ret, fin_norm, fnEnd, argsT, PT.get_put, keep, opRun, ev, evs, evO, give, giveI, binOf, isNilK, np_nilp, np_ptr, np_lref, np_cref, ns_nils, ns_lst, ns_sl, nf_nilf, nf_fnc, ni_nili, ni_iface, PM.flip, putT, putL, putH, un_not, un_neg, bi_add, bi_sub, bi_mul, bd_eql, bd_neq, bd_lss, bd_leq, bd_gtr, bd_geq, ilt_self, ilt_n0, bs_eql, bs_neq, callM_bl, callM_ro, callM_eff, pures_nil, pures_cons, pure_imm, pure_agg, loadOf, storeOf, cut, over, ofCells, asNat, natOr, calm, clashes, Acc.clash, ressOf, resOf, frz, frz.frzs, DV.flat, DV.flat.flats, imms, out_imm, out_ptr, out_sl, out_agg, out_tup, out_fnc, outs_nil, outs_cons, cells_imm, cells_ptr, cells_sl, cells_agg, len_nils, len_lst, len_sl, scal_int, scal_bool, scal_str, scal_nils, scal_nilp, scal_lst, scal_ptr, scal_sl, scal_fnc, dq_idx, dq_mv, dq_pick, dq_nilck, dq_bin, dq_un, dq_cvI, dq_cvBS, dq_cvSB, dq_cvBB, dq_mkI, dq_asrt, dq_mkF, dq_fld, dq_idxA, dq_ld, dq_st, dq_part, dq_idxV, dq_idxS, dq_boxL, dq_boxH, dq_alL, dq_alH, dq_build, dq_bsl, dq_mks, dq_slc, dq_slS, dq_len, dq_lenS, dq_lenA, dq_cap, dq_mn, dq_mx, dq_app, dq_appZ, dq_rng, dq_nxt, dq_ext]
    refine loopL1 (l := l) (n := n) ok is hn hi ⟨⟨⟨i1, by simp [PT.get_put, h1], by simp [PT.get_put, L1, imms]⟩, by simp [PT.get_put], ⟨i4, by simp [PT.get_put, h4], by simp [PT.get_put, L4, imms]⟩⟩, by simp [PT.get_put], by simp [PT.get_put]⟩ ?_
    rintro st' ⟨⟨⟨j1, g1, M1⟩, g3, ⟨j4, g4, M4⟩⟩, g5, g6⟩
    simp [g1, g3, g4, g5, M1, M4, hw8, e1, e2, e3, dw_regg, dr_consg, dg_tt, dg_ff, dg_tf, dg_ft, dg_u, dg_d, dg_n, dg_o, dg_a, rg_tt, rg_ff, rg_tf, rg_ft, rg_u, rg_d, rg_n, undT, dw_seq, dw_block, dw_cond, dw_skip, dw_ret, dw_exit, dw_reg0, dw_reg, rs_some, dw_drw, dr_cons, dq_some, dr_nil, bk_nil, bk_norm_thn, bk_ret_thn, bk_exit_thn, bk_norm_blk, bk_ret_blk, bk_exit_blk, cd_t, cd_f, cd_d, cd_p, dg_p, rg_p, dec_true, dec_false, dec_iff, dec_fi, cd_n, cd_a, cd_o, fe_some, fin_ret, fin_norm, fnEnd, argsT, PT.get_put, keep, opRun, ev, evs, evO, give, giveI, binOf, isNilK, np_nilp, np_ptr, np_lref, np_cref, ns_nils, ns_lst, ns_sl, nf_nilf, nf_fnc, ni_nili, ni_iface, PM.flip, putT, putL, putH, un_not, un_neg, bi_add, bi_sub, bi_mul, bd_eql, bd_neq, bd_lss, bd_leq, bd_gtr, bd_geq, ilt_self, ilt_n0, bs_eql, bs_neq, callM_bl, callM_ro, callM_eff, pures_nil, pures_cons, pure_imm, pure_agg, loadOf, storeOf, cut, over, ofCells, asNat, natOr, calm, clashes, Acc.clash, ressOf, resOf, frz, frz.frzs, DV.flat, DV.flat.flats, imms, out_imm, out_ptr, out_sl, out_agg, out_tup, out_fnc, outs_nil, outs_cons, cells_imm, cells_ptr, cells_sl, cells_agg, len_nils, len_lst, len_sl, scal_int, scal_bool, scal_str, scal_nils, scal_nilp, scal_lst, scal_ptr, scal_sl, scal_fnc, dq_idx, dq_mv, dq_pick, dq_nilck, dq_bin, dq_un, dq_cvI, dq_cvBS, dq_cvSB, dq_cvBB, dq_mkI, dq_asrt, dq_mkF, dq_fld, dq_idxA, dq_ld, dq_st, dq_part, dq_idxV, dq_idxS, dq_boxL, dq_boxH, dq_alL, dq_alH, dq_build, dq_bsl, dq_mks, dq_slc, dq_slS, dq_len, dq_lenS, dq_lenA, dq_cap, dq_mn, dq_mx, dq_app, dq_appZ, dq_rng, dq_nxt, dq_ext]
    subst hQ
    exact .inl ⟨rfl, hi, ⟨⟨j1, by simp [PT.get_put, g1], by simp [PT.get_put, M1, imms]⟩, by simp [PT.get_put, g3], ⟨j4, by simp [PT.get_put, g4], by simp [PT.get_put, M4, imms]⟩⟩, by simp [PT.get_put]⟩
  · obtain rfl : i = n := by omega
    generalize hQ : (fun (e : Ex) (s' : St) => _) = Q'
    simp only [D.l8_0b]
    simp [h1, h3, h4, h5, L1, L4, dw_regg, dr_consg, dg_tt, dg_ff, dg_tf, dg_ft, dg_u, dg_d, dg_n, dg_o, dg_a, rg_tt, rg_ff, rg_tf, rg_ft, rg_u, rg_d, rg_n, undT, dw_seq, dw_block, dw_cond, dw_skip, dw_ret, dw_exit, dw_reg0, dw_reg, rs_some, dw_drw, dr_cons, dq_some, dr_nil, bk_nil, bk_norm_thn, bk_ret_thn, bk_exit_thn, bk_norm_blk, bk_ret_blk, bk_exit_blk, cd_t, cd_f, cd_d, cd_p, dg_p, rg_p, dec_true, dec_false, dec_iff, dec_fi, cd_n, cd_a, cd_o, fe_some, fin_ret, fin_norm, fnEnd, argsT, PT.get_put, keep, opRun, ev, evs, evO, give, giveI, binOf, isNilK, np_nilp, np_ptr, np_lref, np_cref, ns_nils, ns_lst, ns_sl, nf_nilf, nf_fnc, ni_nili, ni_iface, PM.flip, putT, putL, putH, un_not, un_neg, bi_add, bi_sub, bi_mul, bd_eql, bd_neq, bd_lss, bd_leq, bd_gtr, bd_geq, ilt_self, ilt_n0, bs_eql, bs_neq, callM_bl, callM_ro, callM_eff, pures_nil, pures_cons, pure_imm, pure_agg, loadOf, storeOf, cut, over, ofCells, asNat, natOr, calm, clashes, Acc.clash, ressOf, resOf, frz, frz.frzs, DV.flat, DV.flat.flats, imms, out_imm, out_ptr, out_sl, out_agg, out_tup, out_fnc, outs_nil, outs_cons, cells_imm, cells_ptr, cells_sl, cells_agg, len_nils, len_lst, len_sl, scal_int, scal_bool, scal_str, scal_nils, scal_nilp, scal_lst, scal_ptr, scal_sl, scal_fnc, dq_idx, dq_mv, dq_pick, dq_nilck, dq_bin, dq_un, dq_cvI, dq_cvBS, dq_cvSB, dq_cvBB, dq_mkI, dq_asrt, dq_mkF, dq_fld, dq_idxA, dq_ld, dq_st, dq_part, dq_idxV, dq_idxS, dq_boxL, dq_boxH, dq_alL, dq_alH, dq_build, dq_bsl, dq_mks, dq_slc, dq_slS, dq_len, dq_lenS, dq_lenA, dq_cap, dq_mn, dq_mx, dq_app, dq_appZ, dq_rng, dq_nxt, dq_ext]
    subst hQ
    simp
theorem run_TableLess {l : Lo} (ok : LoOk l) : Fe (K DG 30 8 [l.dv] .lf 0 0) (fun v _ _ => v = .imm (.bool true)) := by
  have hrb := rb3
  have lr := ok.lr
  obtain ⟨m, hm, hs⟩ := size_bl (D := 29) (by omega) ok
  have hkn := known_bl
  have rl := ok.r.len
  simp only [List.length_map] at rl
  rw [D.k8]
  refine fn_dw rfl ?_
  by_cases hm3 : m < 3000
  · have hj3 : ILt (m : Int) 3000 = True := ilt_t (by omega)
    have e2 := Is4_bl (D := 29) (by omega) ok (hs hm3).sm
    by_cases h0 : l.rts.length = 0
    · simp (config := {contextual := true, maxSteps := 2000000}) [ok.s.scal, ok.p.scal, ok.g.scal, ok.r.scal, hm, hj3, e2, rl, h0, dw_regg, dr_consg, dg_tt, dg_ff, dg_tf, dg_ft, dg_u, dg_d, dg_n, dg_o, dg_a, rg_tt, rg_ff, rg_tf, rg_ft, rg_u, rg_d, rg_n, undT, dw_seq, dw_block, dw_cond, dw_skip, dw_ret, dw_exit, dw_reg0, dw_reg, rs_some, dw_drw, dr_cons, dq_some, dr_nil, bk_nil, bk_norm_thn, bk_ret_thn, bk_exit_thn, bk_norm_blk, bk_ret_blk, bk_exit_blk, cd_t, cd_f, cd_d, cd_p, dg_p, rg_p, dec_true, dec_false, dec_iff, dec_fi, cd_n, cd_a, cd_o, fe_some, fin_ret, fin_norm, fnEnd, argsT, PT.get_put, keep, opRun, ev, evs, evO, give, giveI, binOf, isNilK, np_nilp, np_ptr, np_lref, np_cref, ns_nils, ns_lst, ns_sl, nf_nilf, nf_fnc, ni_nili, ni_iface, PM.flip, putT, putL, putH, un_not, un_neg, bi_add, bi_sub, bi_mul, bd_eql, bd_neq, bd_lss, bd_leq, bd_gtr, bd_geq, ilt_self, ilt_n0, bs_eql, bs_neq, callM_bl, callM_ro, callM_eff, pures_nil, pures_cons, pure_imm, pure_agg, loadOf, storeOf, cut, over, ofCells, asNat, natOr, calm, clashes, Acc.clash, ressOf, resOf, frz, frz.frzs, DV.flat, DV.flat.flats, imms, out_imm, out_ptr, out_sl, out_agg, out_tup, out_fnc, outs_nil, outs_cons, cells_imm, cells_ptr, cells_sl, cells_agg, len_nils, len_lst, len_sl, scal_int, scal_bool, scal_str, scal_nils, scal_nilp, scal_lst, scal_ptr, scal_sl, scal_fnc, dq_idx, dq_mv, dq_pick, dq_nilck, dq_bin, dq_un, dq_cvI, dq_cvBS, dq_cvSB, dq_cvBB, dq_mkI, dq_asrt, dq_mkF, dq_fld, dq_idxA, dq_ld, dq_st, dq_part, dq_idxV, dq_idxS, dq_boxL, dq_boxH, dq_alL, dq_alH, dq_build, dq_bsl, dq_mks, dq_slc, dq_slS, dq_len, dq_lenS, dq_lenA, dq_cap, dq_mn, dq_mx, dq_app, dq_appZ, dq_rng, dq_nxt, dq_ext]
    · obtain ⟨n, hn⟩ : ∃ n, l.rts.length = n + 1 := ⟨l.rts.length - 1, by omega⟩
      have h0' : ¬ ((l.rts.length : Int) = 0) := by omega
      have hwn : IntKind.i64.wrap ((l.rts.length : Int) - 1) = (n : Int) := by rw [wr_id (by omega) (by omega)]; omega
      have tk := fun {h : Nat → Option HB} {m : Nat} => slc_to (h := h) (n := m) ok.r (i := n) (by omega)
      have okm := less_ok ok n
      have e3 : ISL l → bl (K DG 29) 13 [(l.less n).dv] = some (.imm (.bool true)) := fun is => by
        rw [Is_bl (D := 29) (by omega) okm, dec_t (less_is (by omega) is)]
      simp only [Lo.dv, Lo.less] at e3
      have ms := okm.r.scal
      simp only [Lo.less] at ms
      generalize hQ : Fin _ _ = Q
      simp (config := {contextual := true, maxSteps := 2000000}) [ok.s.scal, ok.p.scal, ok.g.scal, ok.r.scal, ms, hm, hj3, e2, e3, rl, h0, h0', hwn, tk, evParts, lay, dw_regg, dr_consg, dg_tt, dg_ff, dg_tf, dg_ft, dg_u, dg_d, dg_n, dg_o, dg_a, rg_tt, rg_ff, rg_tf, rg_ft, rg_u, rg_d, rg_n, undT, dw_seq, dw_block, dw_cond, dw_skip, dw_ret, dw_exit, dw_reg0, dw_reg, rs_some, dw_drw, dr_cons, dq_some, dr_nil, bk_nil, bk_norm_thn, bk_ret_thn, bk_exit_thn, bk_norm_blk, bk_ret_blk, bk_exit_blk, cd_t, cd_f, cd_d, cd_p, dg_p, rg_p, dec_true, dec_false, dec_iff, dec_fi, cd_n, cd_a, cd_o, fe_some, fin_ret, fin_norm, fnEnd, argsT, PT.get_put, keep, opRun, ev, evs, evO, give, giveI, binOf, isNilK, np_nilp, np_ptr, np_lref, np_cref, ns_nils, ns_lst, ns_sl, nf_nilf, nf_fnc, ni_nili, ni_iface, PM.flip, putT, putL, putH, un_not, un_neg, bi_add, bi_sub, bi_mul, bd_eql, bd_neq, bd_lss, bd_leq, bd_gtr, bd_geq, ilt_self, ilt_n0, bs_eql, bs_neq, callM_bl, callM_ro, callM_eff, pures_nil, pures_cons, pure_imm, pure_agg, loadOf, storeOf, cut, over, ofCells, asNat, natOr, calm, clashes, Acc.clash, ressOf, resOf, frz, frz.frzs, DV.flat, DV.flat.flats, imms, out_imm, out_ptr, out_sl, out_agg, out_tup, out_fnc, outs_nil, outs_cons, cells_imm, cells_ptr, cells_sl, cells_agg, len_nils, len_lst, len_sl, scal_int, scal_bool, scal_str, scal_nils, scal_nilp, scal_lst, scal_ptr, scal_sl, scal_fnc, dq_idx, dq_mv, dq_pick, dq_nilck, dq_bin, dq_un, dq_cvI, dq_cvBS, dq_cvSB, dq_cvBB, dq_mkI, dq_asrt, dq_mkF, dq_fld, dq_idxA, dq_ld, dq_st, dq_part, dq_idxV, dq_idxS, dq_boxL, dq_boxH, dq_alL, dq_alH, dq_build, dq_bsl, dq_mks, dq_slc, dq_slS, dq_len, dq_lenS, dq_lenA, dq_cap, dq_mn, dq_mx, dq_app, dq_appZ, dq_rng, dq_nxt, dq_ext]
      subst hQ
      refine ⟨fun is => ?_, fun _ => by simp [dw_regg, dr_consg, dg_tt, dg_ff, dg_tf, dg_ft, dg_u, dg_d, dg_n, dg_o, dg_a, rg_tt, rg_ff, rg_tf, rg_ft, rg_u, rg_d, rg_n, undT, dw_seq, dw_block, dw_cond, dw_skip, dw_ret, dw_exit, dw_reg0, dw_reg, rs_some, dw_drw, dr_cons, dq_some, dr_nil, bk_nil, bk_norm_thn, bk_ret_thn, bk_exit_thn, bk_norm_blk, bk_ret_blk, bk_exit_blk, cd_t, cd_f, cd_d, cd_p, dg_p, rg_p, dec_true, dec_false, dec_iff, dec_fi, cd_n, cd_a, cd_o, fe_some, fin_ret, fin_norm, fnEnd, argsT, PT.get_put, keep, opRun, ev, evs, evO, give, giveI, binOf, isNilK, np_nilp, np_ptr, np_lref, np_cref, ns_nils, ns_lst, ns_sl, nf_nilf, nf_fnc, ni_nili, ni_iface, PM.flip, putT, putL, putH, un_not, un_neg, bi_add, bi_sub, bi_mul, bd_eql, bd_neq, bd_lss, bd_leq, bd_gtr, bd_geq, ilt_self, ilt_n0, bs_eql, bs_neq, callM_bl, callM_ro, callM_eff, pures_nil, pures_cons, pure_imm, pure_agg, loadOf, storeOf, cut, over, ofCells, asNat, natOr, calm, clashes, Acc.clash, ressOf, resOf, frz, frz.frzs, DV.flat, DV.flat.flats, imms, out_imm, out_ptr, out_sl, out_agg, out_tup, out_fnc, outs_nil, outs_cons, cells_imm, cells_ptr, cells_sl, cells_agg, len_nils, len_lst, len_sl, scal_int, scal_bool, scal_str, scal_nils, scal_nilp, scal_lst, scal_ptr, scal_sl, scal_fnc, dq_idx, dq_mv, dq_pick, dq_nilck, dq_bin, dq_un, dq_cvI, dq_cvBS, dq_cvSB, dq_cvBB, dq_mkI, dq_asrt, dq_mkF, dq_fld, dq_idxA, dq_ld, dq_st, dq_part, dq_idxV, dq_idxS, dq_boxL, dq_boxH, dq_alL, dq_alH, dq_build, dq_bsl, dq_mks, dq_slc, dq_slS, dq_len, dq_lenS, dq_lenA, dq_cap, dq_mn, dq_mx, dq_app, dq_appZ, dq_rng, dq_nxt, dq_ext]⟩
      refine loopL0 (l := l) (n := n) ok is (by omega) ⟨⟨⟨0, by simp [PT.get_put], by simp [PT.get_put, imms]⟩, by simp [PT.get_put], ⟨1, by simp [PT.get_put], by simp [PT.get_put, imms, Lo.less]⟩⟩, by simp [PT.get_put]⟩ ?_
      intro st'
      simp [hkn, dw_regg, dr_consg, dg_tt, dg_ff, dg_tf, dg_ft, dg_u, dg_d, dg_n, dg_o, dg_a, rg_tt, rg_ff, rg_tf, rg_ft, rg_u, rg_d, rg_n, undT, dw_seq, dw_block, dw_cond, dw_skip, dw_ret, dw_exit, dw_reg0, dw_reg, rs_some, dw_drw, dr_cons, dq_some, dr_nil, bk_nil, bk_norm_thn, bk_ret_thn, bk_exit_thn, bk_norm_blk, bk_ret_blk, bk_exit_blk, cd_t, cd_f, cd_d, cd_p, dg_p, rg_p, dec_true, dec_false, dec_iff, dec_fi, cd_n, cd_a, cd_o, fe_some, fin_ret, fin_norm, fnEnd, argsT, PT.get_put, keep, opRun, ev, evs, evO, give, giveI, binOf, isNilK, np_nilp, np_ptr, np_lref, np_cref, ns_nils, ns_lst, ns_sl, nf_nilf, nf_fnc, ni_nili, ni_iface, PM.flip, putT, putL, putH, un_not, un_neg, bi_add, bi_sub, bi_mul, bd_eql, bd_neq, bd_lss, bd_leq, bd_gtr, bd_geq, ilt_self, ilt_n0, bs_eql, bs_neq, callM_bl, callM_ro, callM_eff, pures_nil, pures_cons, pure_imm, pure_agg, loadOf, storeOf, cut, over, ofCells, asNat, natOr, calm, clashes, Acc.clash, ressOf, resOf, frz, frz.frzs, DV.flat, DV.flat.flats, imms, out_imm, out_ptr, out_sl, out_agg, out_tup, out_fnc, outs_nil, outs_cons, cells_imm, cells_ptr, cells_sl, cells_agg, len_nils, len_lst, len_sl, scal_int, scal_bool, scal_str, scal_nils, scal_nilp, scal_lst, scal_ptr, scal_sl, scal_fnc, dq_idx, dq_mv, dq_pick, dq_nilck, dq_bin, dq_un, dq_cvI, dq_cvBS, dq_cvSB, dq_cvBB, dq_mkI, dq_asrt, dq_mkF, dq_fld, dq_idxA, dq_ld, dq_st, dq_part, dq_idxV, dq_idxS, dq_boxL, dq_boxH, dq_alL, dq_alH, dq_build, dq_bsl, dq_mks, dq_slc, dq_slS, dq_len, dq_lenS, dq_lenA, dq_cap, dq_mn, dq_mx, dq_app, dq_appZ, dq_rng, dq_nxt, dq_ext]
  · have hj3 : ILt (m : Int) 3000 = False := ilt_f (by omega)
    simp (config := {contextual := true, maxSteps := 2000000}) [ok.s.scal, ok.p.scal, ok.g.scal, ok.r.scal, hm, hj3, dw_regg, dr_consg, dg_tt, dg_ff, dg_tf, dg_ft, dg_u, dg_d, dg_n, dg_o, dg_a, rg_tt, rg_ff, rg_tf, rg_ft, rg_u, rg_d, rg_n, undT, dw_seq, dw_block, dw_cond, dw_skip, dw_ret, dw_exit, dw_reg0, dw_reg, rs_some, dw_drw, dr_cons, dq_some, dr_nil, bk_nil, bk_norm_thn, bk_ret_thn, bk_exit_thn, bk_norm_blk, bk_ret_blk, bk_exit_blk, cd_t, cd_f, cd_d, cd_p, dg_p, rg_p, dec_true, dec_false, dec_iff, dec_fi, cd_n, cd_a, cd_o, fe_some, fin_ret, fin_norm, fnEnd, argsT, PT.get_put, keep, opRun, ev, evs, evO, give, giveI, binOf, isNilK, np_nilp, np_ptr, np_lref, np_cref, ns_nils, ns_lst, ns_sl, nf_nilf, nf_fnc, ni_nili, ni_iface, PM.flip, putT, putL, putH, un_not, un_neg, bi_add, bi_sub, bi_mul, bd_eql, bd_neq, bd_lss, bd_leq, bd_gtr, bd_geq, ilt_self, ilt_n0, bs_eql, bs_neq, callM_bl, callM_ro, callM_eff, pures_nil, pures_cons, pure_imm, pure_agg, loadOf, storeOf, cut, over, ofCells, asNat, natOr, calm, clashes, Acc.clash, ressOf, resOf, frz, frz.frzs, DV.flat, DV.flat.flats, imms, out_imm, out_ptr, out_sl, out_agg, out_tup, out_fnc, outs_nil, outs_cons, cells_imm, cells_ptr, cells_sl, cells_agg, len_nils, len_lst, len_sl, scal_int, scal_bool, scal_str, scal_nils, scal_nilp, scal_lst, scal_ptr, scal_sl, scal_fnc, dq_idx, dq_mv, dq_pick, dq_nilck, dq_bin, dq_un, dq_cvI, dq_cvBS, dq_cvSB, dq_cvBB, dq_mkI, dq_asrt, dq_mkF, dq_fld, dq_idxA, dq_ld, dq_st, dq_part, dq_idxV, dq_idxS, dq_boxL, dq_boxH, dq_alL, dq_alH, dq_build, dq_bsl, dq_mks, dq_slc, dq_slS, dq_len, dq_lenS, dq_lenA, dq_cap, dq_mn, dq_mx, dq_app, dq_appZ, dq_rng, dq_nxt, dq_ext]
theorem pure_TableLess : ∀ cs, ArgsFit ss_TableLess cs → ∃ H' n', K (doorG 0 1) 30 8 cs .lf 0 0 = some (.imm (.bool true), H', n') := fun cs h => by
  obtain ⟨d, ds, rfl, h1, h2⟩ := fit_cons h
  obtain ⟨l, rfl, ok⟩ := lay_of h1
  cases fit0 (r := []) h2
  obtain ⟨v, H, n, e, rfl⟩ := run_TableLess ok
  exact ⟨H, n, e⟩
end Go.Proofs.YtbhmihigfncfgaaDoor.D
