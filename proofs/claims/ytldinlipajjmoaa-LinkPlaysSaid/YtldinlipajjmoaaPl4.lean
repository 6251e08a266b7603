/-
  LinkPlays over D.
-/
import Derived.Test.YtldinlipajjmoaaPl3
import Derived.Test.YtldinlipajjmoaaLong
set_option linter.unusedVariables false
set_option linter.unusedSimpArgs false
set_option maxHeartbeats 16000000
namespace Go.Proofs.Ytldinlipajjmoaa.D
open Go Go.PM

theorem Wd.succ {H : PT HB} {n : Nat} (h : Wd H n) : Wd H (n + 1) := by
  obtain ⟨ow, b0, b1, b2, b3, h2, ho, hx, hy⟩ := h
  have f : ∀ {p k}, Fr H n ow H (n + 1) ow p k := ⟨by omega, fun _ _ => rfl, fun _ _ _ => rfl, fun _ _ _ _ => ⟨rfl, rfl⟩⟩
  exact ⟨ow, b0, b1, b2, b3, by omega, ho, hx.mono (q := 1) (l := 5) f (by omega) (by omega) (by omega), hy.mono (q := 0) (l := 1) f (by omega) (by omega) (by omega)⟩

def IP (iv : IV) (i : Nat) (s : St) : Prop :=
  s.T.get 0 = some (.imm iv) ∧ s.T.get 3 = some (.ptr 0 0 0) ∧ s.T.get 4 = some (.ptr 1 0 0) ∧ s.T.get 5 = some (.imm (.int .i64 i)) ∧ Wd s.H s.n

theorem roundP {as : List Ac} (has : ∀ a ∈ as, Arg (.imm a.b) a.bs ∧ a.bs.length ≤ reachBytes) (hsm : small as) {i : Nat} {s : St} (h : IP (.lst false 5 (as.map rowA)) i s) (hi : i < as.length) (h60 : i < 60) :
    ∃ s', D.l3_0b.run noG (K noG 11) 0 ⟨keep s.T [0, 3, 4, 5], keep s.L [], s.H, s.n⟩ = some (.norm, s') ∧ IP (.lst false 5 (as.map rowA)) (i + 1) s' := by
  obtain ⟨h0, h3, h4, h5, hW0⟩ := h
  have hW := hW0.succ
  have hi' : (i : Int) < as.length := by omega
  have hi60 : (i : Int) < 60 := by omega
  have ha : as[i]? = some as[i] := List.getElem?_eq_getElem hi
  have haa := has as[i] (List.getElem_mem hi)
  have hl := hsm i as[i] ha h60
  generalize hae : as[i] = a at ha haa hl
  have w3 : IntKind.i64.wrap ((i : Int) + 1) = (i : Int) + 1 := wr_id (by omega) (by omega)
  have o := (haa.1.src .lf).out
  have sc := (haa.1.src .lf).scal
  have cl := (haa.1.src .lf).cells
  by_cases k1 : a.kind = 1
  · obtain ⟨H1, n1, H2, n2, e1, e2, hW'⟩ := wd_send 9 hW a.unit haa.1 hl
    simp only [D.l3_0b, keep, run_seq, run_cond, run_block, run_reg, run_reg0, run_drw, run_skip, run_ret, run_exit, then_norm, then_ret, then_exit, cd_true, cd_false, block_norm, block_ret, block_exit, reg_nil, reg_cons, ops_nil, ops_cons, opsThen_nil, opsThen_cons, calm_some, res_norm, res_ret, fnEnd, argsT, opRun, PT.get_put, dstep, ev, evs, evO, give, giveI, binOf, isNilK, np_nilp, np_ptr, np_lref, np_cref, ns_nils, ns_lst, ns_sl, nf_nilf, nf_fnc, ni_nili, ni_iface, PM.flip, putT, putL, putH, binInt, callM, loadOf, storeOf, cut, over, ofCells, asNat, natOr, calm, clashes, Acc.clash, ressOf, resOf, out_agg, out_tup, out_fnc, outs_nil, outs_cons, len_nils, len_lst, len_sl, scal_fnc, frz, frz.frzs, snap, snap.snaps, DV.pure, DV.pure.pures, DV.flat, DV.flat.flats, unOf, binStr, ansT, out_imm, out_ptr, out_sl, cells_imm, cells_ptr, cells_sl, cells_agg, scal_int, scal_bool, scal_str, scal_nils, scal_nilp, scal_lst, scal_ptr, scal_sl, Option.map, List.length_cons, List.length_nil, reduceIte, Nat.reduceEqDiff, Nat.reduceAdd]
    simp [h0, h3, h4, h5, hi', hi, hi60, h60, ha, hae, rowA, imms, k1, o, sc, cl, e1, e2, w3, run_seq, run_cond, run_block, run_reg, run_reg0, run_drw, run_skip, run_ret, run_exit, then_norm, then_ret, then_exit, cd_true, cd_false, block_norm, block_ret, block_exit, reg_nil, reg_cons, ops_nil, ops_cons, opsThen_nil, opsThen_cons, calm_some, res_norm, res_ret, fnEnd, argsT, opRun, PT.get_put, dstep, ev, evs, evO, give, giveI, binOf, isNilK, np_nilp, np_ptr, np_lref, np_cref, ns_nils, ns_lst, ns_sl, nf_nilf, nf_fnc, ni_nili, ni_iface, PM.flip, putT, putL, putH, binInt, callM, loadOf, storeOf, cut, over, ofCells, asNat, natOr, calm, clashes, Acc.clash, ressOf, resOf, out_agg, out_tup, out_fnc, outs_nil, outs_cons, len_nils, len_lst, len_sl, scal_fnc, frz, frz.frzs, snap, snap.snaps, DV.pure, DV.pure.pures, DV.flat, DV.flat.flats, unOf, binStr, ansT, out_imm, out_ptr, out_sl, cells_imm, cells_ptr, cells_sl, cells_agg, scal_int, scal_bool, scal_str, scal_nils, scal_nilp, scal_lst, scal_ptr, scal_sl, Option.map, List.length_cons, List.length_nil, reduceIte, Nat.reduceEqDiff, Nat.reduceAdd]
    exact ⟨by simp [PT.get_put, h0, rowA], by simp [PT.get_put, h3], by simp [PT.get_put, h4], by simp [PT.get_put], hW'⟩
  have kb1 : (a.kind == 1) = false := beq_eq_false_iff_ne.2 k1
  by_cases k2 : a.kind = 2
  · obtain ⟨H1, H2, e1, e2, hW'⟩ := wd_turn 10 hW a.lose a.spoil
    simp only [D.l3_0b, keep, run_seq, run_cond, run_block, run_reg, run_reg0, run_drw, run_skip, run_ret, run_exit, then_norm, then_ret, then_exit, cd_true, cd_false, block_norm, block_ret, block_exit, reg_nil, reg_cons, ops_nil, ops_cons, opsThen_nil, opsThen_cons, calm_some, res_norm, res_ret, fnEnd, argsT, opRun, PT.get_put, dstep, ev, evs, evO, give, giveI, binOf, isNilK, np_nilp, np_ptr, np_lref, np_cref, ns_nils, ns_lst, ns_sl, nf_nilf, nf_fnc, ni_nili, ni_iface, PM.flip, putT, putL, putH, binInt, callM, loadOf, storeOf, cut, over, ofCells, asNat, natOr, calm, clashes, Acc.clash, ressOf, resOf, out_agg, out_tup, out_fnc, outs_nil, outs_cons, len_nils, len_lst, len_sl, scal_fnc, frz, frz.frzs, snap, snap.snaps, DV.pure, DV.pure.pures, DV.flat, DV.flat.flats, unOf, binStr, ansT, out_imm, out_ptr, out_sl, cells_imm, cells_ptr, cells_sl, cells_agg, scal_int, scal_bool, scal_str, scal_nils, scal_nilp, scal_lst, scal_ptr, scal_sl, Option.map, List.length_cons, List.length_nil, reduceIte, Nat.reduceEqDiff, Nat.reduceAdd]
    simp [h0, h3, h4, h5, hi', hi, hi60, h60, ha, hae, rowA, imms, k1, kb1, k2, o, sc, cl, e1, e2, w3, run_seq, run_cond, run_block, run_reg, run_reg0, run_drw, run_skip, run_ret, run_exit, then_norm, then_ret, then_exit, cd_true, cd_false, block_norm, block_ret, block_exit, reg_nil, reg_cons, ops_nil, ops_cons, opsThen_nil, opsThen_cons, calm_some, res_norm, res_ret, fnEnd, argsT, opRun, PT.get_put, dstep, ev, evs, evO, give, giveI, binOf, isNilK, np_nilp, np_ptr, np_lref, np_cref, ns_nils, ns_lst, ns_sl, nf_nilf, nf_fnc, ni_nili, ni_iface, PM.flip, putT, putL, putH, binInt, callM, loadOf, storeOf, cut, over, ofCells, asNat, natOr, calm, clashes, Acc.clash, ressOf, resOf, out_agg, out_tup, out_fnc, outs_nil, outs_cons, len_nils, len_lst, len_sl, scal_fnc, frz, frz.frzs, snap, snap.snaps, DV.pure, DV.pure.pures, DV.flat, DV.flat.flats, unOf, binStr, ansT, out_imm, out_ptr, out_sl, cells_imm, cells_ptr, cells_sl, cells_agg, scal_int, scal_bool, scal_str, scal_nils, scal_nilp, scal_lst, scal_ptr, scal_sl, Option.map, List.length_cons, List.length_nil, reduceIte, Nat.reduceEqDiff, Nat.reduceAdd]
    exact ⟨by simp [PT.get_put, h0, rowA], by simp [PT.get_put, h3], by simp [PT.get_put, h4], by simp [PT.get_put], hW'⟩
  · have kb2 : (a.kind == 2) = false := beq_eq_false_iff_ne.2 k2
    obtain ⟨v1, H1, v2, H2, bs, e1, b1, ⟨o1, c1, s1, z1, r1, y1, p1⟩, e2, b2, ⟨o2, c2, s2, z2, r2, y2, p2⟩, hW'⟩ := wd_take 9 hW a.unit
    rcases p1 with rfl | ⟨j1, rfl, g1⟩ <;> rcases p2 with rfl | ⟨j2, rfl, g2⟩
    all_goals
      try have n1 : ¬ j1 = 1 := by omega
      try have n2 : ¬ j2 = 0 := by omega
      try have n3 : ¬ j2 = 1 := by omega
      try have n4 : ¬ j1 = 0 := by omega
      simp only [D.l3_0b, keep, run_seq, run_cond, run_block, run_reg, run_reg0, run_drw, run_skip, run_ret, run_exit, then_norm, then_ret, then_exit, cd_true, cd_false, block_norm, block_ret, block_exit, reg_nil, reg_cons, ops_nil, ops_cons, opsThen_nil, opsThen_cons, calm_some, res_norm, res_ret, fnEnd, argsT, opRun, PT.get_put, dstep, ev, evs, evO, give, giveI, binOf, isNilK, np_nilp, np_ptr, np_lref, np_cref, ns_nils, ns_lst, ns_sl, nf_nilf, nf_fnc, ni_nili, ni_iface, PM.flip, putT, putL, putH, binInt, callM, loadOf, storeOf, cut, over, ofCells, asNat, natOr, calm, clashes, Acc.clash, ressOf, resOf, out_agg, out_tup, out_fnc, outs_nil, outs_cons, len_nils, len_lst, len_sl, scal_fnc, frz, frz.frzs, snap, snap.snaps, DV.pure, DV.pure.pures, DV.flat, DV.flat.flats, unOf, binStr, ansT, out_imm, out_ptr, out_sl, cells_imm, cells_ptr, cells_sl, cells_agg, scal_int, scal_bool, scal_str, scal_nils, scal_nilp, scal_lst, scal_ptr, scal_sl, Option.map, List.length_cons, List.length_nil, reduceIte, Nat.reduceEqDiff, Nat.reduceAdd]
      simp [h0, h3, h4, h5, hi', hi, hi60, h60, ha, hae, rowA, imms, k1, k2, kb1, kb2, o, sc, cl, e1, e2, w3, b1, b2, o1, c1, o2, c2, r1, r2, y1, y2, mapO_rows, bytesOf_rows, racc_none, racc_some, *, run_seq, run_cond, run_block, run_reg, run_reg0, run_drw, run_skip, run_ret, run_exit, then_norm, then_ret, then_exit, cd_true, cd_false, block_norm, block_ret, block_exit, reg_nil, reg_cons, ops_nil, ops_cons, opsThen_nil, opsThen_cons, calm_some, res_norm, res_ret, fnEnd, argsT, opRun, PT.get_put, dstep, ev, evs, evO, give, giveI, binOf, isNilK, np_nilp, np_ptr, np_lref, np_cref, ns_nils, ns_lst, ns_sl, nf_nilf, nf_fnc, ni_nili, ni_iface, PM.flip, putT, putL, putH, binInt, callM, loadOf, storeOf, cut, over, ofCells, asNat, natOr, calm, clashes, Acc.clash, ressOf, resOf, out_agg, out_tup, out_fnc, outs_nil, outs_cons, len_nils, len_lst, len_sl, scal_fnc, frz, frz.frzs, snap, snap.snaps, DV.pure, DV.pure.pures, DV.flat, DV.flat.flats, unOf, binStr, ansT, out_imm, out_ptr, out_sl, cells_imm, cells_ptr, cells_sl, cells_agg, scal_int, scal_bool, scal_str, scal_nils, scal_nilp, scal_lst, scal_ptr, scal_sl, Option.map, List.length_cons, List.length_nil, reduceIte, Nat.reduceEqDiff, Nat.reduceAdd]
      exact ⟨by simp [PT.get_put, h0, rowA], by simp [PT.get_put, h3], by simp [PT.get_put, h4], by simp [PT.get_put], hW'⟩

theorem lastP {iv : IV} {as : List Ac} (hlen : lenOf (.imm iv) = some as.length) {i : Nat} {s : St} (h : IP iv i s) (hi : ¬ (i < as.length ∧ i < 60)) :
    ∃ s', D.l3_0b.run noG (K noG 11) 0 ⟨keep s.T [0, 3, 4, 5], keep s.L [], s.H, s.n⟩ = some (.exit 0, s') ∧ IP iv i s' := by
  obtain ⟨h0, h3, h4, h5, hW⟩ := h
  by_cases h1 : i < as.length
  · have hi' : (i : Int) < as.length := by omega
    have h60 : ¬ i < 60 := fun h => hi ⟨h1, h⟩
    have hi60 : ¬ (i : Int) < 60 := by omega
    simp only [D.l3_0b, keep, run_seq, run_cond, run_block, run_reg, run_reg0, run_drw, run_skip, run_ret, run_exit, then_norm, then_ret, then_exit, cd_true, cd_false, block_norm, block_ret, block_exit, reg_nil, reg_cons, ops_nil, ops_cons, opsThen_nil, opsThen_cons, calm_some, res_norm, res_ret, fnEnd, argsT, opRun, PT.get_put, dstep, ev, evs, evO, give, giveI, binOf, isNilK, np_nilp, np_ptr, np_lref, np_cref, ns_nils, ns_lst, ns_sl, nf_nilf, nf_fnc, ni_nili, ni_iface, PM.flip, putT, putL, putH, binInt, callM, loadOf, storeOf, cut, over, ofCells, asNat, natOr, calm, clashes, Acc.clash, ressOf, resOf, out_agg, out_tup, out_fnc, outs_nil, outs_cons, len_nils, len_lst, len_sl, scal_fnc, frz, frz.frzs, snap, snap.snaps, DV.pure, DV.pure.pures, DV.flat, DV.flat.flats, unOf, binStr, ansT, out_imm, out_ptr, out_sl, cells_imm, cells_ptr, cells_sl, cells_agg, scal_int, scal_bool, scal_str, scal_nils, scal_nilp, scal_lst, scal_ptr, scal_sl, Option.map, List.length_cons, List.length_nil, reduceIte, Nat.reduceEqDiff, Nat.reduceAdd]
    simp [h0, h3, h4, h5, hlen, h1, hi', h60, hi60, run_seq, run_cond, run_block, run_reg, run_reg0, run_drw, run_skip, run_ret, run_exit, then_norm, then_ret, then_exit, cd_true, cd_false, block_norm, block_ret, block_exit, reg_nil, reg_cons, ops_nil, ops_cons, opsThen_nil, opsThen_cons, calm_some, res_norm, res_ret, fnEnd, argsT, opRun, PT.get_put, dstep, ev, evs, evO, give, giveI, binOf, isNilK, np_nilp, np_ptr, np_lref, np_cref, ns_nils, ns_lst, ns_sl, nf_nilf, nf_fnc, ni_nili, ni_iface, PM.flip, putT, putL, putH, binInt, callM, loadOf, storeOf, cut, over, ofCells, asNat, natOr, calm, clashes, Acc.clash, ressOf, resOf, out_agg, out_tup, out_fnc, outs_nil, outs_cons, len_nils, len_lst, len_sl, scal_fnc, frz, frz.frzs, snap, snap.snaps, DV.pure, DV.pure.pures, DV.flat, DV.flat.flats, unOf, binStr, ansT, out_imm, out_ptr, out_sl, cells_imm, cells_ptr, cells_sl, cells_agg, scal_int, scal_bool, scal_str, scal_nils, scal_nilp, scal_lst, scal_ptr, scal_sl, Option.map, List.length_cons, List.length_nil, reduceIte, Nat.reduceEqDiff, Nat.reduceAdd]
    exact ⟨by simp [PT.get_put, h0], by simp [PT.get_put, h3], by simp [PT.get_put, h4], by simp [PT.get_put, h5], hW⟩
  · have hi' : ¬ (i : Int) < as.length := by omega
    simp only [D.l3_0b, keep, run_seq, run_cond, run_block, run_reg, run_reg0, run_drw, run_skip, run_ret, run_exit, then_norm, then_ret, then_exit, cd_true, cd_false, block_norm, block_ret, block_exit, reg_nil, reg_cons, ops_nil, ops_cons, opsThen_nil, opsThen_cons, calm_some, res_norm, res_ret, fnEnd, argsT, opRun, PT.get_put, dstep, ev, evs, evO, give, giveI, binOf, isNilK, np_nilp, np_ptr, np_lref, np_cref, ns_nils, ns_lst, ns_sl, nf_nilf, nf_fnc, ni_nili, ni_iface, PM.flip, putT, putL, putH, binInt, callM, loadOf, storeOf, cut, over, ofCells, asNat, natOr, calm, clashes, Acc.clash, ressOf, resOf, out_agg, out_tup, out_fnc, outs_nil, outs_cons, len_nils, len_lst, len_sl, scal_fnc, frz, frz.frzs, snap, snap.snaps, DV.pure, DV.pure.pures, DV.flat, DV.flat.flats, unOf, binStr, ansT, out_imm, out_ptr, out_sl, cells_imm, cells_ptr, cells_sl, cells_agg, scal_int, scal_bool, scal_str, scal_nils, scal_nilp, scal_lst, scal_ptr, scal_sl, Option.map, List.length_cons, List.length_nil, reduceIte, Nat.reduceEqDiff, Nat.reduceAdd]
    simp [h0, h3, h4, h5, hlen, h1, hi', run_seq, run_cond, run_block, run_reg, run_reg0, run_drw, run_skip, run_ret, run_exit, then_norm, then_ret, then_exit, cd_true, cd_false, block_norm, block_ret, block_exit, reg_nil, reg_cons, ops_nil, ops_cons, opsThen_nil, opsThen_cons, calm_some, res_norm, res_ret, fnEnd, argsT, opRun, PT.get_put, dstep, ev, evs, evO, give, giveI, binOf, isNilK, np_nilp, np_ptr, np_lref, np_cref, ns_nils, ns_lst, ns_sl, nf_nilf, nf_fnc, ni_nili, ni_iface, PM.flip, putT, putL, putH, binInt, callM, loadOf, storeOf, cut, over, ofCells, asNat, natOr, calm, clashes, Acc.clash, ressOf, resOf, out_agg, out_tup, out_fnc, outs_nil, outs_cons, len_nils, len_lst, len_sl, scal_fnc, frz, frz.frzs, snap, snap.snaps, DV.pure, DV.pure.pures, DV.flat, DV.flat.flats, unOf, binStr, ansT, out_imm, out_ptr, out_sl, cells_imm, cells_ptr, cells_sl, cells_agg, scal_int, scal_bool, scal_str, scal_nils, scal_nilp, scal_lst, scal_ptr, scal_sl, Option.map, List.length_cons, List.length_nil, reduceIte, Nat.reduceEqDiff, Nat.reduceAdd]
    exact ⟨by simp [PT.get_put, h0], by simp [PT.get_put, h3], by simp [PT.get_put, h4], by simp [PT.get_put, h5], hW⟩

theorem loopP {iv : IV} {as : List Ac} (hv : (iv = .nils ∧ as = []) ∨ (iv = .lst false 5 (as.map rowA) ∧ (∀ a ∈ as, Arg (.imm a.b) a.bs ∧ a.bs.length ≤ reachBytes) ∧ as.length ≤ reachBytes)) (hsm : small as) (s : St) (h : IP iv 0 s) :
    ∃ s' i, D.l3_0.run noG (K noG 11) 0 s = some (.exit 0, s') ∧ IP iv i s' := by
  have hlen : lenOf (.imm iv) = some as.length := by
    rcases hv with ⟨rfl, rfl⟩ | ⟨rfl, _⟩
    · rfl
    · simp [lenOf]
  obtain ⟨e, s', q1, q2, q3, i, q4⟩ := iter_ind (f := loopRun noG (K noG 11) 0 [0, 3, 4, 5] [] D.l3_0b) (fun m s => ∃ i : Nat, IP iv i s ∧ m = as.length - i) (fun e s' => e = .exit 0 ∧ ∃ i, IP iv i s')
    (fun m s ⟨i, hI, hm⟩ => by
      by_cases hi : i < as.length ∧ i < 60
      · rcases hv with ⟨rfl, rfl⟩ | ⟨rfl, has, hl⟩
        · simp at hi
        · obtain ⟨s', e1, e2⟩ := roundP has hsm hI hi.1 hi.2
          exact .inl ⟨s', _, e1, by omega, i + 1, e2, rfl⟩
      · obtain ⟨s', e1, e2⟩ := lastP hlen hI hi
        exact .inr ⟨.exit 0, s', e1, by simp, rfl, i, e2⟩) as.length LOOP s ⟨0, h, by omega⟩ (by
      rcases hv with ⟨rfl, rfl⟩ | ⟨rfl, _, hl⟩
      · unfold LOOP; simp
      · exact hLOOP hl)
  exact ⟨s', i, by rw [q3] at q1; exact q1, q4⟩

theorem plays {iv : IV} (hf : FitK (.sl [.i .i64, .i .i64, .sl [.i .u8], .b, .i .i64]) iv) : ∃ H' n', K noG 12 3 [.imm iv] .lf 0 0 = some (.imm (.bool true), H', n') := by
  obtain ⟨as, hv⟩ : ∃ as : List Ac, (iv = .nils ∧ as = []) ∨ (iv = .lst false 5 (as.map rowA) ∧ (∀ a ∈ as, Arg (.imm a.b) a.bs ∧ a.bs.length ≤ reachBytes) ∧ as.length ≤ reachBytes) := by
    rcases acts_fit hf with h | ⟨as, h⟩
    · exact ⟨[], .inl ⟨h, rfl⟩⟩
    · exact ⟨as, .inr h⟩
  obtain ⟨Hk, nk, ek⟩ := known_at 6
  have hnew := new_eq 10 .lf 0 0
  obtain ⟨b, H1, n1, e1, hb⟩ := long_eq hv
  rw [D.k3]
  cases b with
  | true =>
    simp only [D.f3, fn_run, run_seq, run_cond, run_block, run_reg, run_reg0, run_drw, run_skip, run_ret, run_exit, then_norm, then_ret, then_exit, cd_true, cd_false, block_norm, block_ret, block_exit, reg_nil, reg_cons, ops_nil, ops_cons, opsThen_nil, opsThen_cons, calm_some, res_norm, res_ret, fnEnd, argsT, opRun, PT.get_put, dstep, ev, evs, evO, give, giveI, binOf, isNilK, np_nilp, np_ptr, np_lref, np_cref, ns_nils, ns_lst, ns_sl, nf_nilf, nf_fnc, ni_nili, ni_iface, PM.flip, putT, putL, putH, binInt, callM, loadOf, storeOf, cut, over, ofCells, asNat, natOr, calm, clashes, Acc.clash, ressOf, resOf, out_agg, out_tup, out_fnc, outs_nil, outs_cons, len_nils, len_lst, len_sl, scal_fnc, frz, frz.frzs, snap, snap.snaps, DV.pure, DV.pure.pures, DV.flat, DV.flat.flats, unOf, binStr, ansT, out_imm, out_ptr, out_sl, cells_imm, cells_ptr, cells_sl, cells_agg, scal_int, scal_bool, scal_str, scal_nils, scal_nilp, scal_lst, scal_ptr, scal_sl, Option.map, List.length_cons, List.length_nil, reduceIte, Nat.reduceEqDiff, Nat.reduceAdd]
    simp [e1, run_seq, run_cond, run_block, run_reg, run_reg0, run_drw, run_skip, run_ret, run_exit, then_norm, then_ret, then_exit, cd_true, cd_false, block_norm, block_ret, block_exit, reg_nil, reg_cons, ops_nil, ops_cons, opsThen_nil, opsThen_cons, calm_some, res_norm, res_ret, fnEnd, argsT, opRun, PT.get_put, dstep, ev, evs, evO, give, giveI, binOf, isNilK, np_nilp, np_ptr, np_lref, np_cref, ns_nils, ns_lst, ns_sl, nf_nilf, nf_fnc, ni_nili, ni_iface, PM.flip, putT, putL, putH, binInt, callM, loadOf, storeOf, cut, over, ofCells, asNat, natOr, calm, clashes, Acc.clash, ressOf, resOf, out_agg, out_tup, out_fnc, outs_nil, outs_cons, len_nils, len_lst, len_sl, scal_fnc, frz, frz.frzs, snap, snap.snaps, DV.pure, DV.pure.pures, DV.flat, DV.flat.flats, unOf, binStr, ansT, out_imm, out_ptr, out_sl, cells_imm, cells_ptr, cells_sl, cells_agg, scal_int, scal_bool, scal_str, scal_nils, scal_nilp, scal_lst, scal_ptr, scal_sl, Option.map, List.length_cons, List.length_nil, reduceIte, Nat.reduceEqDiff, Nat.reduceAdd]
  | false =>
    have hsm := hb rfl
    simp only [D.f3, fn_run, run_seq, run_cond, run_block, run_reg, run_reg0, run_drw, run_skip, run_ret, run_exit, then_norm, then_ret, then_exit, cd_true, cd_false, block_norm, block_ret, block_exit, reg_nil, reg_cons, ops_nil, ops_cons, opsThen_nil, opsThen_cons, calm_some, res_norm, res_ret, fnEnd, argsT, opRun, PT.get_put, dstep, ev, evs, evO, give, giveI, binOf, isNilK, np_nilp, np_ptr, np_lref, np_cref, ns_nils, ns_lst, ns_sl, nf_nilf, nf_fnc, ni_nili, ni_iface, PM.flip, putT, putL, putH, binInt, callM, loadOf, storeOf, cut, over, ofCells, asNat, natOr, calm, clashes, Acc.clash, ressOf, resOf, out_agg, out_tup, out_fnc, outs_nil, outs_cons, len_nils, len_lst, len_sl, scal_fnc, frz, frz.frzs, snap, snap.snaps, DV.pure, DV.pure.pures, DV.flat, DV.flat.flats, unOf, binStr, ansT, out_imm, out_ptr, out_sl, cells_imm, cells_ptr, cells_sl, cells_agg, scal_int, scal_bool, scal_str, scal_nils, scal_nilp, scal_lst, scal_ptr, scal_sl, Option.map, List.length_cons, List.length_nil, reduceIte, Nat.reduceEqDiff, Nat.reduceAdd]
    simp [e1, hnew, evParts, lay, imms, run_seq, run_cond, run_block, run_reg, run_reg0, run_drw, run_skip, run_ret, run_exit, then_norm, then_ret, then_exit, cd_true, cd_false, block_norm, block_ret, block_exit, reg_nil, reg_cons, ops_nil, ops_cons, opsThen_nil, opsThen_cons, calm_some, res_norm, res_ret, fnEnd, argsT, opRun, PT.get_put, dstep, ev, evs, evO, give, giveI, binOf, isNilK, np_nilp, np_ptr, np_lref, np_cref, ns_nils, ns_lst, ns_sl, nf_nilf, nf_fnc, ni_nili, ni_iface, PM.flip, putT, putL, putH, binInt, callM, loadOf, storeOf, cut, over, ofCells, asNat, natOr, calm, clashes, Acc.clash, ressOf, resOf, out_agg, out_tup, out_fnc, outs_nil, outs_cons, len_nils, len_lst, len_sl, scal_fnc, frz, frz.frzs, snap, snap.snaps, DV.pure, DV.pure.pures, DV.flat, DV.flat.flats, unOf, binStr, ansT, out_imm, out_ptr, out_sl, cells_imm, cells_ptr, cells_sl, cells_agg, scal_int, scal_bool, scal_str, scal_nils, scal_nilp, scal_lst, scal_ptr, scal_sl, Option.map, List.length_cons, List.length_nil, reduceIte, Nat.reduceEqDiff, Nat.reduceAdd]
    generalize hrun : D.l3_0.run noG (K noG 11) 0 _ = r
    obtain ⟨s', i, rfl, h0, h3, h4, h5, hW⟩ : ∃ s' i, r = some (.exit 0, s') ∧ IP iv i s' := by
      rw [← hrun]
      refine loopP hv hsm _ ⟨?_, ?_, ?_, ?_, fun _ => 0, [], [], [], [], ?_, fun _ _ => rfl, ⟨_, _, _, _, ?_, .nils, .nils, .nils, .nils⟩, ⟨_, _, _, _, ?_, .nils, .nils, .nils, .nils⟩⟩ <;> simp [PT.get_put] <;> rfl
    clear hrun
    obtain ⟨v1, H1, v2, H2, bs, e1, b1, ⟨o1, c1, s1, z1, r1, y1, p1⟩, e2, b2, ⟨o2, c2, s2, z2, r2, y2, p2⟩, hW1⟩ := wd_take 9 hW 0
    obtain ⟨v3, H3, v4, H4, cs, e3, b3, ⟨o3, c3, s3, z3, r3, y3, p3⟩, e4, b4, ⟨o4, c4, s4, z4, r4, y4, p4⟩, hW2⟩ := wd_take 9 hW1 1
    clear hW hW1 hW2 hsm hv hf hb
    rcases p1 with rfl | ⟨j1, rfl, g1⟩ <;> rcases p2 with rfl | ⟨j2, rfl, g2⟩ <;> rcases p3 with rfl | ⟨j3, rfl, g3⟩ <;> rcases p4 with rfl | ⟨j4, rfl, g4⟩
    all_goals
      try have n1 : ¬ j1 = 1 := by omega
      try have n2 : ¬ j1 = 0 := by omega
      try have n3 : ¬ j2 = 1 := by omega
      try have n4 : ¬ j2 = 0 := by omega
      try have n5 : ¬ j3 = 1 := by omega
      try have n6 : ¬ j3 = 0 := by omega
      try have n7 : ¬ j4 = 1 := by omega
      try have n8 : ¬ j4 = 0 := by omega
      simp [h3, h4, e1, e2, e3, e4, ek, b1, b2, b3, b4, o1, o2, o3, o4, c1, c2, c3, c4, r1, r2, r3, r4, y1, y2, y3, y4, mapO_rows, bytesOf_rows, racc_none, racc_some, *, run_seq, run_cond, run_block, run_reg, run_reg0, run_drw, run_skip, run_ret, run_exit, then_norm, then_ret, then_exit, cd_true, cd_false, block_norm, block_ret, block_exit, reg_nil, reg_cons, ops_nil, ops_cons, opsThen_nil, opsThen_cons, calm_some, res_norm, res_ret, fnEnd, argsT, opRun, PT.get_put, dstep, ev, evs, evO, give, giveI, binOf, isNilK, np_nilp, np_ptr, np_lref, np_cref, ns_nils, ns_lst, ns_sl, nf_nilf, nf_fnc, ni_nili, ni_iface, PM.flip, putT, putL, putH, binInt, callM, loadOf, storeOf, cut, over, ofCells, asNat, natOr, calm, clashes, Acc.clash, ressOf, resOf, out_agg, out_tup, out_fnc, outs_nil, outs_cons, len_nils, len_lst, len_sl, scal_fnc, frz, frz.frzs, snap, snap.snaps, DV.pure, DV.pure.pures, DV.flat, DV.flat.flats, unOf, binStr, ansT, out_imm, out_ptr, out_sl, cells_imm, cells_ptr, cells_sl, cells_agg, scal_int, scal_bool, scal_str, scal_nils, scal_nilp, scal_lst, scal_ptr, scal_sl, Option.map, List.length_cons, List.length_nil, reduceIte, Nat.reduceEqDiff, Nat.reduceAdd]

def ss_LinkPlays : List (Bool × List Kd) := [(false, [.sl [.i .i64, .i .i64, .sl [.i .u8], .b, .i .i64]])]
theorem pure_LinkPlays : ∀ cs, ArgsFit ss_LinkPlays cs → ∃ H' n', K noG 12 3 cs .lf 0 0 = some (.imm (.bool true), H', n') := fun cs h0 => by
  obtain ⟨d0, r0, rfl, g0, h1⟩ := fit_cons h0
  cases fit0 (r := []) h1
  obtain ⟨a, rfl, ha⟩ := fit_s g0
  exact plays ha
end Go.Proofs.Ytldinlipajjmoaa.D
