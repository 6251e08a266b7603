/-
  Laws of package link over D: what both send crosses; what was sent is sent once; the last counts; nothing handed in is kept.
-/
import Derived.Test.YtldinlipajjmoaaLnk
set_option linter.unusedVariables false
set_option linter.unusedSimpArgs false
set_option maxHeartbeats 8000000
namespace Go.Proofs.Ytldinlipajjmoaa.D
open Go Go.PM


/-- Sending by the first unit, whatever the bytes: what is there then. -/
theorem snd0 (d : Nat) {p : Nat} {b : DV} {bs b0 : List UInt8} {v0 v1 v2 v3 : DV} {H : PT HB} {n : Nat} (hp : H.get p = some ⟨4, [[v0, v1, v2, v3]]⟩) (hpn : p < n) (hb : Src H b bs) (hl : bs.length ≤ 5000) (h0 : Vb H p n v0 b0) :
    ∃ H' n' v', K noG (d + 2) 11 [.ptr p 0 0, .imm (.int .i64 0), b] H n 0 = some (.tup [], H', n') ∧ H'.get p = some ⟨4, [[v', v1, v2, v3]]⟩ ∧
      Vb H' p n' v' (if bs = [] then b0 else bs) ∧ n ≤ n' ∧ ∀ id, id < n → id ≠ p → H'.get id = H.get id := by
  by_cases hz : bs = []
  · exact ⟨H, n, v0, send_none d hb (.inl hz), hp, by rw [if_pos hz]; exact h0, Nat.le_refl _, fun _ _ _ => rfl⟩
  · refine ⟨_, _, .sl n 0 bs.length bs.length, send0 d hp hpn hb hz hl, gps, ?_, by omega, fun id h1 h2 => ?_⟩
    · rw [if_neg hz]
      exact .inr ⟨n, rfl, by rw [PT.get_put, if_neg (by omega), PT.get_put, if_pos rfl], by omega, by omega, hz⟩
    · rw [PT.get_put, if_neg h2, PT.get_put, if_neg (by omega)]
theorem snd1 (d : Nat) {p : Nat} {b : DV} {bs b1 : List UInt8} {v0 v1 v2 v3 : DV} {H : PT HB} {n : Nat} (hp : H.get p = some ⟨4, [[v0, v1, v2, v3]]⟩) (hpn : p < n) (hb : Src H b bs) (hl : bs.length ≤ 5000) (h1 : Vb H p n v1 b1) :
    ∃ H' n' v', K noG (d + 2) 11 [.ptr p 0 0, .imm (.int .i64 1), b] H n 0 = some (.tup [], H', n') ∧ H'.get p = some ⟨4, [[v0, v', v2, v3]]⟩ ∧
      Vb H' p n' v' (if bs = [] then b1 else bs) ∧ n ≤ n' ∧ ∀ id, id < n → id ≠ p → H'.get id = H.get id := by
  by_cases hz : bs = []
  · exact ⟨H, n, v1, send_none d hb (.inl hz), hp, by rw [if_pos hz]; exact h1, Nat.le_refl _, fun _ _ _ => rfl⟩
  · refine ⟨_, _, .sl n 0 bs.length bs.length, send1 d hp hpn hb hz hl, gps, ?_, by omega, fun id h1 h2 => ?_⟩
    · rw [if_neg hz]
      exact .inr ⟨n, rfl, by rw [PT.get_put, if_neg (by omega), PT.get_put, if_pos rfl], by omega, by omega, hz⟩
    · rw [PT.get_put, if_neg h2, PT.get_put, if_neg (by omega)]

theorem Arg.rows {a : DV} {as : List UInt8} (h : Arg a as) : ∃ sb, (sb = 1 ∨ as = []) ∧ ∀ h, rowsOf h a = some (none, sb, as.map rowB) := by
  cases h with
  | nil => exact ⟨0, .inr rfl, fun h => rfl⟩
  | lst => exact ⟨1, .inl rfl, fun h => by simp only [rowsOf, imms_rows]⟩
theorem racc_none : raccOf none = [] := rfl
theorem racc_some {k : Nat} : raccOf (some k) = [.rX k] := rfl
theorem if_nil (bs : List UInt8) : (if bs = [] then [] else bs) = bs := by
  split <;> simp_all

/-- What both send comes to the other one. -/
theorem crosses {a b : DV} {as bs : List UInt8} (ha : Arg a as) (hb : Arg b bs) (late : Bool) : ∃ H' n', K noG 12 4 [a, b, .imm (.bool late)] .lf 0 0 = some (.imm (.bool true), H', n') := by
  have la := (ha.src .lf).len
  have lb := (hb.src .lf).len
  rw [D.k4]
  by_cases hA : 500 < as.length
  · have hA' : (500 : Int) < as.length := by omega
    simp only [D.f4, fn_run, run_seq, run_cond, run_block, run_reg, run_reg0, run_drw, run_skip, run_ret, run_exit, then_norm, then_ret, then_exit, cd_true, cd_false, block_norm, block_ret, block_exit, reg_nil, reg_cons, ops_nil, ops_cons, opsThen_nil, opsThen_cons, calm_some, res_norm, res_ret, fnEnd, argsT, opRun, PT.get_put, dstep, ev, evs, evO, give, giveI, binOf, isNilK, np_nilp, np_ptr, np_lref, np_cref, ns_nils, ns_lst, ns_sl, nf_nilf, nf_fnc, ni_nili, ni_iface, PM.flip, putT, putL, putH, binInt, callM, loadOf, storeOf, cut, over, ofCells, asNat, natOr, calm, clashes, Acc.clash, ressOf, resOf, out_agg, out_tup, out_fnc, outs_nil, outs_cons, len_nils, len_lst, len_sl, scal_fnc, frz, frz.frzs, snap, snap.snaps, DV.pure, DV.pure.pures, DV.flat, DV.flat.flats, unOf, binStr, ansT, out_imm, out_ptr, out_sl, cells_imm, cells_ptr, cells_sl, cells_agg, scal_int, scal_bool, scal_str, scal_nils, scal_nilp, scal_lst, scal_ptr, scal_sl, Option.map, List.length_cons, List.length_nil, reduceIte, Nat.reduceEqDiff, Nat.reduceAdd]
    simp [la, hA', hA, run_seq, run_cond, run_block, run_reg, run_reg0, run_drw, run_skip, run_ret, run_exit, then_norm, then_ret, then_exit, cd_true, cd_false, block_norm, block_ret, block_exit, reg_nil, reg_cons, ops_nil, ops_cons, opsThen_nil, opsThen_cons, calm_some, res_norm, res_ret, fnEnd, argsT, opRun, PT.get_put, dstep, ev, evs, evO, give, giveI, binOf, isNilK, np_nilp, np_ptr, np_lref, np_cref, ns_nils, ns_lst, ns_sl, nf_nilf, nf_fnc, ni_nili, ni_iface, PM.flip, putT, putL, putH, binInt, callM, loadOf, storeOf, cut, over, ofCells, asNat, natOr, calm, clashes, Acc.clash, ressOf, resOf, out_agg, out_tup, out_fnc, outs_nil, outs_cons, len_nils, len_lst, len_sl, scal_fnc, frz, frz.frzs, snap, snap.snaps, DV.pure, DV.pure.pures, DV.flat, DV.flat.flats, unOf, binStr, ansT, out_imm, out_ptr, out_sl, cells_imm, cells_ptr, cells_sl, cells_agg, scal_int, scal_bool, scal_str, scal_nils, scal_nilp, scal_lst, scal_ptr, scal_sl, Option.map, List.length_cons, List.length_nil, reduceIte, Nat.reduceEqDiff, Nat.reduceAdd]
  by_cases hB : 500 < bs.length
  · have hB' : (500 : Int) < bs.length := by omega
    have hA' : ¬ (500 : Int) < as.length := by omega
    simp only [D.f4, fn_run, run_seq, run_cond, run_block, run_reg, run_reg0, run_drw, run_skip, run_ret, run_exit, then_norm, then_ret, then_exit, cd_true, cd_false, block_norm, block_ret, block_exit, reg_nil, reg_cons, ops_nil, ops_cons, opsThen_nil, opsThen_cons, calm_some, res_norm, res_ret, fnEnd, argsT, opRun, PT.get_put, dstep, ev, evs, evO, give, giveI, binOf, isNilK, np_nilp, np_ptr, np_lref, np_cref, ns_nils, ns_lst, ns_sl, nf_nilf, nf_fnc, ni_nili, ni_iface, PM.flip, putT, putL, putH, binInt, callM, loadOf, storeOf, cut, over, ofCells, asNat, natOr, calm, clashes, Acc.clash, ressOf, resOf, out_agg, out_tup, out_fnc, outs_nil, outs_cons, len_nils, len_lst, len_sl, scal_fnc, frz, frz.frzs, snap, snap.snaps, DV.pure, DV.pure.pures, DV.flat, DV.flat.flats, unOf, binStr, ansT, out_imm, out_ptr, out_sl, cells_imm, cells_ptr, cells_sl, cells_agg, scal_int, scal_bool, scal_str, scal_nils, scal_nilp, scal_lst, scal_ptr, scal_sl, Option.map, List.length_cons, List.length_nil, reduceIte, Nat.reduceEqDiff, Nat.reduceAdd]
    simp [la, lb, hA', hA, hB', hB, run_seq, run_cond, run_block, run_reg, run_reg0, run_drw, run_skip, run_ret, run_exit, then_norm, then_ret, then_exit, cd_true, cd_false, block_norm, block_ret, block_exit, reg_nil, reg_cons, ops_nil, ops_cons, opsThen_nil, opsThen_cons, calm_some, res_norm, res_ret, fnEnd, argsT, opRun, PT.get_put, dstep, ev, evs, evO, give, giveI, binOf, isNilK, np_nilp, np_ptr, np_lref, np_cref, ns_nils, ns_lst, ns_sl, nf_nilf, nf_fnc, ni_nili, ni_iface, PM.flip, putT, putL, putH, binInt, callM, loadOf, storeOf, cut, over, ofCells, asNat, natOr, calm, clashes, Acc.clash, ressOf, resOf, out_agg, out_tup, out_fnc, outs_nil, outs_cons, len_nils, len_lst, len_sl, scal_fnc, frz, frz.frzs, snap, snap.snaps, DV.pure, DV.pure.pures, DV.flat, DV.flat.flats, unOf, binStr, ansT, out_imm, out_ptr, out_sl, cells_imm, cells_ptr, cells_sl, cells_agg, scal_int, scal_bool, scal_str, scal_nils, scal_nilp, scal_lst, scal_ptr, scal_sl, Option.map, List.length_cons, List.length_nil, reduceIte, Nat.reduceEqDiff, Nat.reduceAdd]
  have hA' : ¬ (500 : Int) < as.length := by omega
  have hB' : ¬ (500 : Int) < bs.length := by omega
  have hnew := new_eq 10 .lf 0 0
  obtain ⟨H1, n1, v0, e1, g1, q0, m1, _⟩ := snd0 9 (p := 0) (H := PT.lf.put 0 (some ⟨4, [[.imm .nils, .imm .nils, .imm .nils, .imm .nils]]⟩)) (n := 1) gps (by omega) (ha.src _) (by omega) .nils
  rw [if_nil] at q0
  obtain ⟨H2, n2, v1, e2, g2, q1, m2, f2⟩ := snd1 9 (p := 0) (n := n1) g1 (by omega) (hb.src H1) (by omega) .nils
  rw [if_nil] at q1
  have q0 := q0.mono f2 m2
  obtain ⟨H3, e3, g3, f3⟩ := turn_plain 10 (n := n2) (s := -1) g2 q0.src q1.src (by omega)
  have q0 := q0.mono (fun id _ h => f3 id h) (Nat.le_refl _)
  have q1 := q1.mono (fun id _ h => f3 id h) (Nat.le_refl _)
  obtain ⟨Hk, nk, ek⟩ := known_at 6
  have oa := (ha.src .lf).out
  have ob := (hb.src .lf).out
  cases late with
  | true =>
    obtain ⟨H4, e4, g4, f4⟩ := turn_plain 10 (n := n2) (s := -1) g3 (src_nils H3) (src_nils H3) (by omega)
    have e5 := take0 9 (n := n2) g4 rfl
    have e6 := take1 9 (n := n2) (H := H4.put 0 (some ⟨4, [[.imm .nils, .imm .nils, .imm .nils, .imm .nils]]⟩)) gps rfl
    simp only [D.f4, fn_run, run_seq, run_cond, run_block, run_reg, run_reg0, run_drw, run_skip, run_ret, run_exit, then_norm, then_ret, then_exit, cd_true, cd_false, block_norm, block_ret, block_exit, reg_nil, reg_cons, ops_nil, ops_cons, opsThen_nil, opsThen_cons, calm_some, res_norm, res_ret, fnEnd, argsT, opRun, PT.get_put, dstep, ev, evs, evO, give, giveI, binOf, isNilK, np_nilp, np_ptr, np_lref, np_cref, ns_nils, ns_lst, ns_sl, nf_nilf, nf_fnc, ni_nili, ni_iface, PM.flip, putT, putL, putH, binInt, callM, loadOf, storeOf, cut, over, ofCells, asNat, natOr, calm, clashes, Acc.clash, ressOf, resOf, out_agg, out_tup, out_fnc, outs_nil, outs_cons, len_nils, len_lst, len_sl, scal_fnc, frz, frz.frzs, snap, snap.snaps, DV.pure, DV.pure.pures, DV.flat, DV.flat.flats, unOf, binStr, ansT, out_imm, out_ptr, out_sl, cells_imm, cells_ptr, cells_sl, cells_agg, scal_int, scal_bool, scal_str, scal_nils, scal_nilp, scal_lst, scal_ptr, scal_sl, Option.map, List.length_cons, List.length_nil, reduceIte, Nat.reduceEqDiff, Nat.reduceAdd]
    simp [la, lb, hA', hA, hB', hB, hnew, e1, e2, e3, e4, e5, e6, ek, oa, ob, w0, run_seq, run_cond, run_block, run_reg, run_reg0, run_drw, run_skip, run_ret, run_exit, then_norm, then_ret, then_exit, cd_true, cd_false, block_norm, block_ret, block_exit, reg_nil, reg_cons, ops_nil, ops_cons, opsThen_nil, opsThen_cons, calm_some, res_norm, res_ret, fnEnd, argsT, opRun, PT.get_put, dstep, ev, evs, evO, give, giveI, binOf, isNilK, np_nilp, np_ptr, np_lref, np_cref, ns_nils, ns_lst, ns_sl, nf_nilf, nf_fnc, ni_nili, ni_iface, PM.flip, putT, putL, putH, binInt, callM, loadOf, storeOf, cut, over, ofCells, asNat, natOr, calm, clashes, Acc.clash, ressOf, resOf, out_agg, out_tup, out_fnc, outs_nil, outs_cons, len_nils, len_lst, len_sl, scal_fnc, frz, frz.frzs, snap, snap.snaps, DV.pure, DV.pure.pures, DV.flat, DV.flat.flats, unOf, binStr, ansT, out_imm, out_ptr, out_sl, cells_imm, cells_ptr, cells_sl, cells_agg, scal_int, scal_bool, scal_str, scal_nils, scal_nilp, scal_lst, scal_ptr, scal_sl, Option.map, List.length_cons, List.length_nil, reduceIte, Nat.reduceEqDiff, Nat.reduceAdd]
  | false =>
    have s0 := q0.src
    have s1 := q1.src
    have e5 := take1 9 (n := n2) g3 s0.out
    have e6 := take0 9 (n := n2) (H := H3.put 0 (some ⟨4, [[.imm .nils, .imm .nils, v1, .imm .nils]]⟩)) gps s1.out
    have q0' : Vb (H3.put 0 (some ⟨4, [[.imm .nils, .imm .nils, v1, .imm .nils]]⟩)) 0 n2 v0 as := q0.mono (fun id _ h => by rw [PT.get_put, if_neg h]) (Nat.le_refl _)
    have q1' : Vb ((H3.put 0 (some ⟨4, [[.imm .nils, .imm .nils, v1, .imm .nils]]⟩)).put 0 (some ⟨4, [[.imm .nils, .imm .nils, .imm .nils, .imm .nils]]⟩)) 0 n2 v1 bs := q1.mono (fun id _ h => by rw [PT.get_put, if_neg h, PT.get_put, if_neg h]) (Nat.le_refl _)
    obtain ⟨sa, ka, _, ra, ca⟩ := q0'.src.src
    obtain ⟨sb, kb, _, rb, cb⟩ := q1'.src.src
    obtain ⟨ka', ca', ra'⟩ := ha.rows
    obtain ⟨kb', cb', rb'⟩ := hb.rows
    simp only [D.f4, fn_run, run_seq, run_cond, run_block, run_reg, run_reg0, run_drw, run_skip, run_ret, run_exit, then_norm, then_ret, then_exit, cd_true, cd_false, block_norm, block_ret, block_exit, reg_nil, reg_cons, ops_nil, ops_cons, opsThen_nil, opsThen_cons, calm_some, res_norm, res_ret, fnEnd, argsT, opRun, PT.get_put, dstep, ev, evs, evO, give, giveI, binOf, isNilK, np_nilp, np_ptr, np_lref, np_cref, ns_nils, ns_lst, ns_sl, nf_nilf, nf_fnc, ni_nili, ni_iface, PM.flip, putT, putL, putH, binInt, callM, loadOf, storeOf, cut, over, ofCells, asNat, natOr, calm, clashes, Acc.clash, ressOf, resOf, out_agg, out_tup, out_fnc, outs_nil, outs_cons, len_nils, len_lst, len_sl, scal_fnc, frz, frz.frzs, snap, snap.snaps, DV.pure, DV.pure.pures, DV.flat, DV.flat.flats, unOf, binStr, ansT, out_imm, out_ptr, out_sl, cells_imm, cells_ptr, cells_sl, cells_agg, scal_int, scal_bool, scal_str, scal_nils, scal_nilp, scal_lst, scal_ptr, scal_sl, Option.map, List.length_cons, List.length_nil, reduceIte, Nat.reduceEqDiff, Nat.reduceAdd]
    simp [la, lb, hA', hA, hB', hB, hnew, e1, e2, e3, e5, e6, ek, oa, ob, w0, ra, ca, rb, cb, ra', ca', rb', cb', racc_none, mapO_rows, bytesOf_rows, run_seq, run_cond, run_block, run_reg, run_reg0, run_drw, run_skip, run_ret, run_exit, then_norm, then_ret, then_exit, cd_true, cd_false, block_norm, block_ret, block_exit, reg_nil, reg_cons, ops_nil, ops_cons, opsThen_nil, opsThen_cons, calm_some, res_norm, res_ret, fnEnd, argsT, opRun, PT.get_put, dstep, ev, evs, evO, give, giveI, binOf, isNilK, np_nilp, np_ptr, np_lref, np_cref, ns_nils, ns_lst, ns_sl, nf_nilf, nf_fnc, ni_nili, ni_iface, PM.flip, putT, putL, putH, binInt, callM, loadOf, storeOf, cut, over, ofCells, asNat, natOr, calm, clashes, Acc.clash, ressOf, resOf, out_agg, out_tup, out_fnc, outs_nil, outs_cons, len_nils, len_lst, len_sl, scal_fnc, frz, frz.frzs, snap, snap.snaps, DV.pure, DV.pure.pures, DV.flat, DV.flat.flats, unOf, binStr, ansT, out_imm, out_ptr, out_sl, cells_imm, cells_ptr, cells_sl, cells_agg, scal_int, scal_bool, scal_str, scal_nils, scal_nilp, scal_lst, scal_ptr, scal_sl, Option.map, List.length_cons, List.length_nil, reduceIte, Nat.reduceEqDiff, Nat.reduceAdd]

def nil4 : Option HB := some ⟨4, [[.imm .nils, .imm .nils, .imm .nils, .imm .nils]]⟩
def I8 (a : DV) (nn : Int) (gs : List UInt8) (i : Nat) (s : St) : Prop :=
  s.T.get 0 = some a ∧ s.T.get 1 = some (.imm (.int .i64 nn)) ∧ s.T.get 5 = some (.ptr 0 0 0) ∧ s.T.get 6 = some (.imm (.str gs)) ∧ s.T.get 7 = some (.imm (.int .i64 i)) ∧ s.H.get 0 = nil4

theorem round8 (a : DV) (nn : Int) (gs : List UInt8) (i : Nat) (s : St) (h : I8 a nn gs i s) (hi : (i : Int) < nn) (h10 : nn ≤ 10) :
    ∃ s', l8_0b.run noG (K noG 11) 0 ⟨keep s.T [0, 1, 5, 6, 7], keep s.L [], s.H, s.n⟩ = some (.norm, s') ∧ I8 a nn gs (i + 1) s' := by
  obtain ⟨h0, h1, h5, h6, h7, hp⟩ := h
  obtain ⟨H4, e4, g4, fr4⟩ := turn_plain 10 (n := s.n) (s := -1) hp (src_nils s.H) (src_nils s.H) (by omega)
  have e5 := take1 9 (n := s.n) g4 rfl
  have e6 := take0 9 (n := s.n) (H := H4.put 0 nil4) gps rfl
  have hw : IntKind.i64.wrap ((i : Int) + 1) = (i : Int) + 1 := wr_id (by omega) (by omega)
  simp only [l8_0b, keep, run_seq, run_cond, run_block, run_reg, run_reg0, run_drw, run_skip, run_ret, run_exit, then_norm, then_ret, then_exit, cd_true, cd_false, block_norm, block_ret, block_exit, reg_nil, reg_cons, ops_nil, ops_cons, opsThen_nil, opsThen_cons, calm_some, res_norm, res_ret, fnEnd, argsT, opRun, PT.get_put, dstep, ev, evs, evO, give, giveI, binOf, isNilK, np_nilp, np_ptr, np_lref, np_cref, ns_nils, ns_lst, ns_sl, nf_nilf, nf_fnc, ni_nili, ni_iface, PM.flip, putT, putL, putH, binInt, callM, loadOf, storeOf, cut, over, ofCells, asNat, natOr, calm, clashes, Acc.clash, ressOf, resOf, out_agg, out_tup, out_fnc, outs_nil, outs_cons, len_nils, len_lst, len_sl, scal_fnc, frz, frz.frzs, snap, snap.snaps, DV.pure, DV.pure.pures, DV.flat, DV.flat.flats, unOf, binStr, ansT, out_imm, out_ptr, out_sl, cells_imm, cells_ptr, cells_sl, cells_agg, scal_int, scal_bool, scal_str, scal_nils, scal_nilp, scal_lst, scal_ptr, scal_sl, Option.map, List.length_cons, List.length_nil, reduceIte, Nat.reduceEqDiff, Nat.reduceAdd]
  simp [h0, h1, h5, h6, h7, hp, e4, e5, e6, hi, w0, hw, nil4, I8, run_seq, run_cond, run_block, run_reg, run_reg0, run_drw, run_skip, run_ret, run_exit, then_norm, then_ret, then_exit, cd_true, cd_false, block_norm, block_ret, block_exit, reg_nil, reg_cons, ops_nil, ops_cons, opsThen_nil, opsThen_cons, calm_some, res_norm, res_ret, fnEnd, argsT, opRun, PT.get_put, dstep, ev, evs, evO, give, giveI, binOf, isNilK, np_nilp, np_ptr, np_lref, np_cref, ns_nils, ns_lst, ns_sl, nf_nilf, nf_fnc, ni_nili, ni_iface, PM.flip, putT, putL, putH, binInt, callM, loadOf, storeOf, cut, over, ofCells, asNat, natOr, calm, clashes, Acc.clash, ressOf, resOf, out_agg, out_tup, out_fnc, outs_nil, outs_cons, len_nils, len_lst, len_sl, scal_fnc, frz, frz.frzs, snap, snap.snaps, DV.pure, DV.pure.pures, DV.flat, DV.flat.flats, unOf, binStr, ansT, out_imm, out_ptr, out_sl, cells_imm, cells_ptr, cells_sl, cells_agg, scal_int, scal_bool, scal_str, scal_nils, scal_nilp, scal_lst, scal_ptr, scal_sl, Option.map, List.length_cons, List.length_nil, reduceIte, Nat.reduceEqDiff, Nat.reduceAdd]
  simp [nil4] at e6
  simp [e6, w0, hw, nil4, I8, run_seq, run_cond, run_block, run_reg, run_reg0, run_drw, run_skip, run_ret, run_exit, then_norm, then_ret, then_exit, cd_true, cd_false, block_norm, block_ret, block_exit, reg_nil, reg_cons, ops_nil, ops_cons, opsThen_nil, opsThen_cons, calm_some, res_norm, res_ret, fnEnd, argsT, opRun, PT.get_put, dstep, ev, evs, evO, give, giveI, binOf, isNilK, np_nilp, np_ptr, np_lref, np_cref, ns_nils, ns_lst, ns_sl, nf_nilf, nf_fnc, ni_nili, ni_iface, PM.flip, putT, putL, putH, binInt, callM, loadOf, storeOf, cut, over, ofCells, asNat, natOr, calm, clashes, Acc.clash, ressOf, resOf, out_agg, out_tup, out_fnc, outs_nil, outs_cons, len_nils, len_lst, len_sl, scal_fnc, frz, frz.frzs, snap, snap.snaps, DV.pure, DV.pure.pures, DV.flat, DV.flat.flats, unOf, binStr, ansT, out_imm, out_ptr, out_sl, cells_imm, cells_ptr, cells_sl, cells_agg, scal_int, scal_bool, scal_str, scal_nils, scal_nilp, scal_lst, scal_ptr, scal_sl, Option.map, List.length_cons, List.length_nil, reduceIte, Nat.reduceEqDiff, Nat.reduceAdd]

theorem last8 (a : DV) (nn : Int) (gs : List UInt8) (i : Nat) (s : St) (h : I8 a nn gs i s) (hi : ¬ (i : Int) < nn) :
    ∃ s', l8_0b.run noG (K noG 11) 0 ⟨keep s.T [0, 1, 5, 6, 7], keep s.L [], s.H, s.n⟩ = some (.exit 0, s') ∧ s'.T.get 0 = some a ∧ s'.T.get 6 = some (.imm (.str gs)) := by
  obtain ⟨h0, h1, h5, h6, h7, hp⟩ := h
  simp only [l8_0b, keep, run_seq, run_cond, run_block, run_reg, run_reg0, run_drw, run_skip, run_ret, run_exit, then_norm, then_ret, then_exit, cd_true, cd_false, block_norm, block_ret, block_exit, reg_nil, reg_cons, ops_nil, ops_cons, opsThen_nil, opsThen_cons, calm_some, res_norm, res_ret, fnEnd, argsT, opRun, PT.get_put, dstep, ev, evs, evO, give, giveI, binOf, isNilK, np_nilp, np_ptr, np_lref, np_cref, ns_nils, ns_lst, ns_sl, nf_nilf, nf_fnc, ni_nili, ni_iface, PM.flip, putT, putL, putH, binInt, callM, loadOf, storeOf, cut, over, ofCells, asNat, natOr, calm, clashes, Acc.clash, ressOf, resOf, out_agg, out_tup, out_fnc, outs_nil, outs_cons, len_nils, len_lst, len_sl, scal_fnc, frz, frz.frzs, snap, snap.snaps, DV.pure, DV.pure.pures, DV.flat, DV.flat.flats, unOf, binStr, ansT, out_imm, out_ptr, out_sl, cells_imm, cells_ptr, cells_sl, cells_agg, scal_int, scal_bool, scal_str, scal_nils, scal_nilp, scal_lst, scal_ptr, scal_sl, Option.map, List.length_cons, List.length_nil, reduceIte, Nat.reduceEqDiff, Nat.reduceAdd]
  simp [h0, h1, h5, h6, h7, hi, run_seq, run_cond, run_block, run_reg, run_reg0, run_drw, run_skip, run_ret, run_exit, then_norm, then_ret, then_exit, cd_true, cd_false, block_norm, block_ret, block_exit, reg_nil, reg_cons, ops_nil, ops_cons, opsThen_nil, opsThen_cons, calm_some, res_norm, res_ret, fnEnd, argsT, opRun, PT.get_put, dstep, ev, evs, evO, give, giveI, binOf, isNilK, np_nilp, np_ptr, np_lref, np_cref, ns_nils, ns_lst, ns_sl, nf_nilf, nf_fnc, ni_nili, ni_iface, PM.flip, putT, putL, putH, binInt, callM, loadOf, storeOf, cut, over, ofCells, asNat, natOr, calm, clashes, Acc.clash, ressOf, resOf, out_agg, out_tup, out_fnc, outs_nil, outs_cons, len_nils, len_lst, len_sl, scal_fnc, frz, frz.frzs, snap, snap.snaps, DV.pure, DV.pure.pures, DV.flat, DV.flat.flats, unOf, binStr, ansT, out_imm, out_ptr, out_sl, cells_imm, cells_ptr, cells_sl, cells_agg, scal_int, scal_bool, scal_str, scal_nils, scal_nilp, scal_lst, scal_ptr, scal_sl, Option.map, List.length_cons, List.length_nil, reduceIte, Nat.reduceEqDiff, Nat.reduceAdd]

theorem loop8 (a : DV) (nn : Int) (gs : List UInt8) (h1 : 1 ≤ nn) (h10 : nn ≤ 10) : ∀ s, I8 a nn gs 0 s →
    ∃ s', l8_0.run noG (K noG 11) 0 s = some (.exit 0, s') ∧ (s'.T.get 0 = some a ∧ s'.T.get 6 = some (.imm (.str gs))) := by
  intro s hs
  obtain ⟨e, s', h1, h2, h3⟩ := iter_ind (f := loopRun noG (K noG 11) 0 [0, 1, 5, 6, 7] [] l8_0b) (fun m s => ∃ i : Nat, I8 a nn gs i s ∧ m = (nn - i).toNat) (fun e s' => e = .exit 0 ∧ s'.T.get 0 = some a ∧ s'.T.get 6 = some (.imm (.str gs)))
    (fun m s ⟨i, hI, hm⟩ => by
      by_cases hi : (i : Int) < nn
      · obtain ⟨s', e1, e2⟩ := round8 a nn gs i s hI hi h10
        exact .inl ⟨s', _, e1, by omega, i + 1, e2, rfl⟩
      · obtain ⟨s', e1, e2, e3⟩ := last8 a nn gs i s hI hi
        exact .inr ⟨.exit 0, s', e1, by simp, rfl, e2, e3⟩) nn.toNat LOOP s ⟨0, hs, by simp⟩ (by unfold LOOP; omega)
  obtain ⟨rfl, h4, h5⟩ := h3
  exact ⟨s', h1, h4, h5⟩

/-- What was sent is sent once. -/
theorem turns {a : DV} {as : List UInt8} (ha : Arg a as) (nn : Int) : ∃ H' n', K noG 12 8 [a, .imm (.int .i64 nn)] .lf 0 0 = some (.imm (.bool true), H', n') := by
  have la := (ha.src .lf).len
  rw [D.k8]
  by_cases hA : as.length < 1
  · have hA' : (as.length : Int) < 1 := by omega
    simp only [D.f8, fn_run, run_seq, run_cond, run_block, run_reg, run_reg0, run_drw, run_skip, run_ret, run_exit, then_norm, then_ret, then_exit, cd_true, cd_false, block_norm, block_ret, block_exit, reg_nil, reg_cons, ops_nil, ops_cons, opsThen_nil, opsThen_cons, calm_some, res_norm, res_ret, fnEnd, argsT, opRun, PT.get_put, dstep, ev, evs, evO, give, giveI, binOf, isNilK, np_nilp, np_ptr, np_lref, np_cref, ns_nils, ns_lst, ns_sl, nf_nilf, nf_fnc, ni_nili, ni_iface, PM.flip, putT, putL, putH, binInt, callM, loadOf, storeOf, cut, over, ofCells, asNat, natOr, calm, clashes, Acc.clash, ressOf, resOf, out_agg, out_tup, out_fnc, outs_nil, outs_cons, len_nils, len_lst, len_sl, scal_fnc, frz, frz.frzs, snap, snap.snaps, DV.pure, DV.pure.pures, DV.flat, DV.flat.flats, unOf, binStr, ansT, out_imm, out_ptr, out_sl, cells_imm, cells_ptr, cells_sl, cells_agg, scal_int, scal_bool, scal_str, scal_nils, scal_nilp, scal_lst, scal_ptr, scal_sl, Option.map, List.length_cons, List.length_nil, reduceIte, Nat.reduceEqDiff, Nat.reduceAdd]
    simp [la, hA', hA, run_seq, run_cond, run_block, run_reg, run_reg0, run_drw, run_skip, run_ret, run_exit, then_norm, then_ret, then_exit, cd_true, cd_false, block_norm, block_ret, block_exit, reg_nil, reg_cons, ops_nil, ops_cons, opsThen_nil, opsThen_cons, calm_some, res_norm, res_ret, fnEnd, argsT, opRun, PT.get_put, dstep, ev, evs, evO, give, giveI, binOf, isNilK, np_nilp, np_ptr, np_lref, np_cref, ns_nils, ns_lst, ns_sl, nf_nilf, nf_fnc, ni_nili, ni_iface, PM.flip, putT, putL, putH, binInt, callM, loadOf, storeOf, cut, over, ofCells, asNat, natOr, calm, clashes, Acc.clash, ressOf, resOf, out_agg, out_tup, out_fnc, outs_nil, outs_cons, len_nils, len_lst, len_sl, scal_fnc, frz, frz.frzs, snap, snap.snaps, DV.pure, DV.pure.pures, DV.flat, DV.flat.flats, unOf, binStr, ansT, out_imm, out_ptr, out_sl, cells_imm, cells_ptr, cells_sl, cells_agg, scal_int, scal_bool, scal_str, scal_nils, scal_nilp, scal_lst, scal_ptr, scal_sl, Option.map, List.length_cons, List.length_nil, reduceIte, Nat.reduceEqDiff, Nat.reduceAdd]
  have hA' : ¬ (as.length : Int) < 1 := by omega
  by_cases hB : 200 < as.length
  · have hB' : (200 : Int) < as.length := by omega
    simp only [D.f8, fn_run, run_seq, run_cond, run_block, run_reg, run_reg0, run_drw, run_skip, run_ret, run_exit, then_norm, then_ret, then_exit, cd_true, cd_false, block_norm, block_ret, block_exit, reg_nil, reg_cons, ops_nil, ops_cons, opsThen_nil, opsThen_cons, calm_some, res_norm, res_ret, fnEnd, argsT, opRun, PT.get_put, dstep, ev, evs, evO, give, giveI, binOf, isNilK, np_nilp, np_ptr, np_lref, np_cref, ns_nils, ns_lst, ns_sl, nf_nilf, nf_fnc, ni_nili, ni_iface, PM.flip, putT, putL, putH, binInt, callM, loadOf, storeOf, cut, over, ofCells, asNat, natOr, calm, clashes, Acc.clash, ressOf, resOf, out_agg, out_tup, out_fnc, outs_nil, outs_cons, len_nils, len_lst, len_sl, scal_fnc, frz, frz.frzs, snap, snap.snaps, DV.pure, DV.pure.pures, DV.flat, DV.flat.flats, unOf, binStr, ansT, out_imm, out_ptr, out_sl, cells_imm, cells_ptr, cells_sl, cells_agg, scal_int, scal_bool, scal_str, scal_nils, scal_nilp, scal_lst, scal_ptr, scal_sl, Option.map, List.length_cons, List.length_nil, reduceIte, Nat.reduceEqDiff, Nat.reduceAdd]
    simp [la, hA', hA, hB, hB', run_seq, run_cond, run_block, run_reg, run_reg0, run_drw, run_skip, run_ret, run_exit, then_norm, then_ret, then_exit, cd_true, cd_false, block_norm, block_ret, block_exit, reg_nil, reg_cons, ops_nil, ops_cons, opsThen_nil, opsThen_cons, calm_some, res_norm, res_ret, fnEnd, argsT, opRun, PT.get_put, dstep, ev, evs, evO, give, giveI, binOf, isNilK, np_nilp, np_ptr, np_lref, np_cref, ns_nils, ns_lst, ns_sl, nf_nilf, nf_fnc, ni_nili, ni_iface, PM.flip, putT, putL, putH, binInt, callM, loadOf, storeOf, cut, over, ofCells, asNat, natOr, calm, clashes, Acc.clash, ressOf, resOf, out_agg, out_tup, out_fnc, outs_nil, outs_cons, len_nils, len_lst, len_sl, scal_fnc, frz, frz.frzs, snap, snap.snaps, DV.pure, DV.pure.pures, DV.flat, DV.flat.flats, unOf, binStr, ansT, out_imm, out_ptr, out_sl, cells_imm, cells_ptr, cells_sl, cells_agg, scal_int, scal_bool, scal_str, scal_nils, scal_nilp, scal_lst, scal_ptr, scal_sl, Option.map, List.length_cons, List.length_nil, reduceIte, Nat.reduceEqDiff, Nat.reduceAdd]
  have hB' : ¬ (200 : Int) < as.length := by omega
  by_cases hC : nn < 1
  · simp only [D.f8, fn_run, run_seq, run_cond, run_block, run_reg, run_reg0, run_drw, run_skip, run_ret, run_exit, then_norm, then_ret, then_exit, cd_true, cd_false, block_norm, block_ret, block_exit, reg_nil, reg_cons, ops_nil, ops_cons, opsThen_nil, opsThen_cons, calm_some, res_norm, res_ret, fnEnd, argsT, opRun, PT.get_put, dstep, ev, evs, evO, give, giveI, binOf, isNilK, np_nilp, np_ptr, np_lref, np_cref, ns_nils, ns_lst, ns_sl, nf_nilf, nf_fnc, ni_nili, ni_iface, PM.flip, putT, putL, putH, binInt, callM, loadOf, storeOf, cut, over, ofCells, asNat, natOr, calm, clashes, Acc.clash, ressOf, resOf, out_agg, out_tup, out_fnc, outs_nil, outs_cons, len_nils, len_lst, len_sl, scal_fnc, frz, frz.frzs, snap, snap.snaps, DV.pure, DV.pure.pures, DV.flat, DV.flat.flats, unOf, binStr, ansT, out_imm, out_ptr, out_sl, cells_imm, cells_ptr, cells_sl, cells_agg, scal_int, scal_bool, scal_str, scal_nils, scal_nilp, scal_lst, scal_ptr, scal_sl, Option.map, List.length_cons, List.length_nil, reduceIte, Nat.reduceEqDiff, Nat.reduceAdd]
    simp [la, hA', hA, hB, hB', hC, run_seq, run_cond, run_block, run_reg, run_reg0, run_drw, run_skip, run_ret, run_exit, then_norm, then_ret, then_exit, cd_true, cd_false, block_norm, block_ret, block_exit, reg_nil, reg_cons, ops_nil, ops_cons, opsThen_nil, opsThen_cons, calm_some, res_norm, res_ret, fnEnd, argsT, opRun, PT.get_put, dstep, ev, evs, evO, give, giveI, binOf, isNilK, np_nilp, np_ptr, np_lref, np_cref, ns_nils, ns_lst, ns_sl, nf_nilf, nf_fnc, ni_nili, ni_iface, PM.flip, putT, putL, putH, binInt, callM, loadOf, storeOf, cut, over, ofCells, asNat, natOr, calm, clashes, Acc.clash, ressOf, resOf, out_agg, out_tup, out_fnc, outs_nil, outs_cons, len_nils, len_lst, len_sl, scal_fnc, frz, frz.frzs, snap, snap.snaps, DV.pure, DV.pure.pures, DV.flat, DV.flat.flats, unOf, binStr, ansT, out_imm, out_ptr, out_sl, cells_imm, cells_ptr, cells_sl, cells_agg, scal_int, scal_bool, scal_str, scal_nils, scal_nilp, scal_lst, scal_ptr, scal_sl, Option.map, List.length_cons, List.length_nil, reduceIte, Nat.reduceEqDiff, Nat.reduceAdd]
  by_cases hD : 10 < nn
  · simp only [D.f8, fn_run, run_seq, run_cond, run_block, run_reg, run_reg0, run_drw, run_skip, run_ret, run_exit, then_norm, then_ret, then_exit, cd_true, cd_false, block_norm, block_ret, block_exit, reg_nil, reg_cons, ops_nil, ops_cons, opsThen_nil, opsThen_cons, calm_some, res_norm, res_ret, fnEnd, argsT, opRun, PT.get_put, dstep, ev, evs, evO, give, giveI, binOf, isNilK, np_nilp, np_ptr, np_lref, np_cref, ns_nils, ns_lst, ns_sl, nf_nilf, nf_fnc, ni_nili, ni_iface, PM.flip, putT, putL, putH, binInt, callM, loadOf, storeOf, cut, over, ofCells, asNat, natOr, calm, clashes, Acc.clash, ressOf, resOf, out_agg, out_tup, out_fnc, outs_nil, outs_cons, len_nils, len_lst, len_sl, scal_fnc, frz, frz.frzs, snap, snap.snaps, DV.pure, DV.pure.pures, DV.flat, DV.flat.flats, unOf, binStr, ansT, out_imm, out_ptr, out_sl, cells_imm, cells_ptr, cells_sl, cells_agg, scal_int, scal_bool, scal_str, scal_nils, scal_nilp, scal_lst, scal_ptr, scal_sl, Option.map, List.length_cons, List.length_nil, reduceIte, Nat.reduceEqDiff, Nat.reduceAdd]
    simp [la, hA', hA, hB, hB', hC, hD, run_seq, run_cond, run_block, run_reg, run_reg0, run_drw, run_skip, run_ret, run_exit, then_norm, then_ret, then_exit, cd_true, cd_false, block_norm, block_ret, block_exit, reg_nil, reg_cons, ops_nil, ops_cons, opsThen_nil, opsThen_cons, calm_some, res_norm, res_ret, fnEnd, argsT, opRun, PT.get_put, dstep, ev, evs, evO, give, giveI, binOf, isNilK, np_nilp, np_ptr, np_lref, np_cref, ns_nils, ns_lst, ns_sl, nf_nilf, nf_fnc, ni_nili, ni_iface, PM.flip, putT, putL, putH, binInt, callM, loadOf, storeOf, cut, over, ofCells, asNat, natOr, calm, clashes, Acc.clash, ressOf, resOf, out_agg, out_tup, out_fnc, outs_nil, outs_cons, len_nils, len_lst, len_sl, scal_fnc, frz, frz.frzs, snap, snap.snaps, DV.pure, DV.pure.pures, DV.flat, DV.flat.flats, unOf, binStr, ansT, out_imm, out_ptr, out_sl, cells_imm, cells_ptr, cells_sl, cells_agg, scal_int, scal_bool, scal_str, scal_nils, scal_nilp, scal_lst, scal_ptr, scal_sl, Option.map, List.length_cons, List.length_nil, reduceIte, Nat.reduceEqDiff, Nat.reduceAdd]
  have hnew := new_eq 10 .lf 0 0
  obtain ⟨H1, n1, v0, e1, g1, q0, m1, _⟩ := snd0 9 (p := 0) (H := PT.lf.put 0 (some ⟨4, [[.imm .nils, .imm .nils, .imm .nils, .imm .nils]]⟩)) (n := 1) gps (by omega) (ha.src _) (by omega) .nils
  rw [if_nil] at q0
  obtain ⟨H3, e3, g3, fr3⟩ := turn_plain 10 (n := n1) (s := -1) g1 q0.src (src_nils H1) (by omega)
  have q0 := q0.mono (fun id _ h => fr3 id h) (Nat.le_refl _)
  have s0 := q0.src
  have e5 := take1 9 (n := n1) g3 s0.out
  have q0' : Vb (H3.put 0 (some ⟨4, [[.imm .nils, .imm .nils, .imm .nils, .imm .nils]]⟩)) 0 n1 v0 as := q0.mono (fun id _ h => by rw [PT.get_put, if_neg h]) (Nat.le_refl _)
  obtain ⟨sa, ka, _, ra, ca⟩ := q0'.src.src
  obtain ⟨ka', ca', ra'⟩ := ha.rows
  obtain ⟨Hk, nk, ek⟩ := known_at 6
  obtain ⟨fin, hf⟩ := skolem_run (loop8 a nn as (by omega) (by omega))
  have l1 := fun s hs => (hf s hs).1
  have l2 := fun s hs => (hf s hs).2.1
  have l3 := fun s hs => (hf s hs).2.2
  simp only [I8, nil4] at l1 l2 l3
  have oa := (ha.src .lf).out
  simp only [D.f8, fn_run, run_seq, run_cond, run_block, run_reg, run_reg0, run_drw, run_skip, run_ret, run_exit, then_norm, then_ret, then_exit, cd_true, cd_false, block_norm, block_ret, block_exit, reg_nil, reg_cons, ops_nil, ops_cons, opsThen_nil, opsThen_cons, calm_some, res_norm, res_ret, fnEnd, argsT, opRun, PT.get_put, dstep, ev, evs, evO, give, giveI, binOf, isNilK, np_nilp, np_ptr, np_lref, np_cref, ns_nils, ns_lst, ns_sl, nf_nilf, nf_fnc, ni_nili, ni_iface, PM.flip, putT, putL, putH, binInt, callM, loadOf, storeOf, cut, over, ofCells, asNat, natOr, calm, clashes, Acc.clash, ressOf, resOf, out_agg, out_tup, out_fnc, outs_nil, outs_cons, len_nils, len_lst, len_sl, scal_fnc, frz, frz.frzs, snap, snap.snaps, DV.pure, DV.pure.pures, DV.flat, DV.flat.flats, unOf, binStr, ansT, out_imm, out_ptr, out_sl, cells_imm, cells_ptr, cells_sl, cells_agg, scal_int, scal_bool, scal_str, scal_nils, scal_nilp, scal_lst, scal_ptr, scal_sl, Option.map, List.length_cons, List.length_nil, reduceIte, Nat.reduceEqDiff, Nat.reduceAdd]
  simp [la, hA', hA, hB', hB, hC, hD, hnew, e1, e3, e5, ek, oa, ra, ca, ra', ca', racc_none, mapO_rows, bytesOf_rows, l1, l2, l3, run_seq, run_cond, run_block, run_reg, run_reg0, run_drw, run_skip, run_ret, run_exit, then_norm, then_ret, then_exit, cd_true, cd_false, block_norm, block_ret, block_exit, reg_nil, reg_cons, ops_nil, ops_cons, opsThen_nil, opsThen_cons, calm_some, res_norm, res_ret, fnEnd, argsT, opRun, PT.get_put, dstep, ev, evs, evO, give, giveI, binOf, isNilK, np_nilp, np_ptr, np_lref, np_cref, ns_nils, ns_lst, ns_sl, nf_nilf, nf_fnc, ni_nili, ni_iface, PM.flip, putT, putL, putH, binInt, callM, loadOf, storeOf, cut, over, ofCells, asNat, natOr, calm, clashes, Acc.clash, ressOf, resOf, out_agg, out_tup, out_fnc, outs_nil, outs_cons, len_nils, len_lst, len_sl, scal_fnc, frz, frz.frzs, snap, snap.snaps, DV.pure, DV.pure.pures, DV.flat, DV.flat.flats, unOf, binStr, ansT, out_imm, out_ptr, out_sl, cells_imm, cells_ptr, cells_sl, cells_agg, scal_int, scal_bool, scal_str, scal_nils, scal_nilp, scal_lst, scal_ptr, scal_sl, Option.map, List.length_cons, List.length_nil, reduceIte, Nat.reduceEqDiff, Nat.reduceAdd]

/-! ### The last counts -/
/-- The rows of a slice of slices of bytes. -/
def rowsL (es : List (List IV)) (bss : List (List UInt8)) : Prop := es.length = bss.length ∧ ∀ (i : Nat) e bs, es[i]? = some e → bss[i]? = some bs → ∃ iv, e = [iv] ∧ Arg (.imm iv) bs
theorem rowsL_of_fit {iv : IV} (h : FitK (.sl [.sl [.i .u8]]) iv) : (iv = .nils) ∨ ∃ es bss, iv = .lst false 1 es ∧ rowsL es bss := by
  cases h with
  | nil => exact .inl rfl
  | sl hm hl hk =>
    rename_i es
    right
    have : ∀ e : List IV, ∃ bs : List UInt8, e ∈ es → ∃ iv, e = [iv] ∧ Arg (.imm iv) bs := fun e => by
      by_cases he : e ∈ es
      · obtain ⟨i, hi⟩ := List.getElem?_of_mem he
        have h1 := hl e he
        match e, h1 with
        | [x], _ =>
          obtain ⟨bs, hb⟩ := arg_of_fit (hk i 0 [x] _ x hi rfl rfl)
          exact ⟨bs, fun _ => ⟨x, rfl, hb⟩⟩
      · exact ⟨[], fun h => absurd h he⟩
    obtain ⟨f, hf⟩ := Classical.axiomOfChoice this
    refine ⟨es, es.map f, rfl, by simp, fun i e bs he hb => ?_⟩
    simp [he] at hb
    subst hb
    exact hf e (List.mem_of_getElem? he)

def I7 (es : List (List IV)) (ws : List UInt8) (i : Nat) (s : St) : Prop :=
  s.T.get 0 = some (.imm (.lst false 1 es)) ∧ s.T.get 3 = some (.ptr 0 0 0) ∧ s.T.get 4 = some (.imm (.str ws)) ∧ s.T.get 5 = some (.imm (.int .i64 i)) ∧ 0 < s.n ∧
  ∃ v1, s.H.get 0 = some ⟨4, [[.imm .nils, v1, .imm .nils, .imm .nils]]⟩ ∧ Vb s.H 0 s.n v1 ws

theorem round7 {es : List (List IV)} {bss : List (List UInt8)} (hr : rowsL es bss) (hlen : es.length ≤ 30) (ws : List UInt8) (i : Nat) (s : St) (h : I7 es ws i s) (hi : i < es.length) :
    (∃ s', l7_0b.run noG (K noG 11) 0 ⟨keep s.T [0, 3, 4, 5], keep s.L [], s.H, s.n⟩ = some (.ret, s') ∧ s'.T.get 2 = some (.imm (.bool true))) ∨
    ∃ s' ws', l7_0b.run noG (K noG 11) 0 ⟨keep s.T [0, 3, 4, 5], keep s.L [], s.H, s.n⟩ = some (.norm, s') ∧ I7 es ws' (i + 1) s' := by
  obtain ⟨h0, h3, h4, h5, hn, v1, hp, hv⟩ := h
  have he : es[i]? = some es[i] := List.getElem?_eq_getElem hi
  have hb : bss[i]? = some (bss[i]'(by rw [← hr.1]; exact hi)) := List.getElem?_eq_getElem _
  obtain ⟨iv, e1, ha⟩ := hr.2 i _ _ he hb
  rw [e1] at he
  generalize bss[i]'(by rw [← hr.1]; exact hi) = bs at ha
  have la := (ha.src .lf).len
  have oa := (ha.src .lf).out
  obtain ⟨ka', ca', ra'⟩ := ha.rows
  have hi' : (i : Int) < es.length := by omega
  by_cases hB : 200 < bs.length
  · have hB' : (200 : Int) < bs.length := by omega
    left
    simp only [l7_0b, keep, run_seq, run_cond, run_block, run_reg, run_reg0, run_drw, run_skip, run_ret, run_exit, then_norm, then_ret, then_exit, cd_true, cd_false, block_norm, block_ret, block_exit, reg_nil, reg_cons, ops_nil, ops_cons, opsThen_nil, opsThen_cons, calm_some, res_norm, res_ret, fnEnd, argsT, opRun, PT.get_put, dstep, ev, evs, evO, give, giveI, binOf, isNilK, np_nilp, np_ptr, np_lref, np_cref, ns_nils, ns_lst, ns_sl, nf_nilf, nf_fnc, ni_nili, ni_iface, PM.flip, putT, putL, putH, binInt, callM, loadOf, storeOf, cut, over, ofCells, asNat, natOr, calm, clashes, Acc.clash, ressOf, resOf, out_agg, out_tup, out_fnc, outs_nil, outs_cons, len_nils, len_lst, len_sl, scal_fnc, frz, frz.frzs, snap, snap.snaps, DV.pure, DV.pure.pures, DV.flat, DV.flat.flats, unOf, binStr, ansT, out_imm, out_ptr, out_sl, cells_imm, cells_ptr, cells_sl, cells_agg, scal_int, scal_bool, scal_str, scal_nils, scal_nilp, scal_lst, scal_ptr, scal_sl, Option.map, List.length_cons, List.length_nil, reduceIte, Nat.reduceEqDiff, Nat.reduceAdd]
    simp [h0, h3, h4, h5, hi', hi, he, e1, la, hB, hB', imms, run_seq, run_cond, run_block, run_reg, run_reg0, run_drw, run_skip, run_ret, run_exit, then_norm, then_ret, then_exit, cd_true, cd_false, block_norm, block_ret, block_exit, reg_nil, reg_cons, ops_nil, ops_cons, opsThen_nil, opsThen_cons, calm_some, res_norm, res_ret, fnEnd, argsT, opRun, PT.get_put, dstep, ev, evs, evO, give, giveI, binOf, isNilK, np_nilp, np_ptr, np_lref, np_cref, ns_nils, ns_lst, ns_sl, nf_nilf, nf_fnc, ni_nili, ni_iface, PM.flip, putT, putL, putH, binInt, callM, loadOf, storeOf, cut, over, ofCells, asNat, natOr, calm, clashes, Acc.clash, ressOf, resOf, out_agg, out_tup, out_fnc, outs_nil, outs_cons, len_nils, len_lst, len_sl, scal_fnc, frz, frz.frzs, snap, snap.snaps, DV.pure, DV.pure.pures, DV.flat, DV.flat.flats, unOf, binStr, ansT, out_imm, out_ptr, out_sl, cells_imm, cells_ptr, cells_sl, cells_agg, scal_int, scal_bool, scal_str, scal_nils, scal_nilp, scal_lst, scal_ptr, scal_sl, Option.map, List.length_cons, List.length_nil, reduceIte, Nat.reduceEqDiff, Nat.reduceAdd]
  · have hB' : ¬ (200 : Int) < bs.length := by omega
    right
    obtain ⟨H', n', v', e2, g2, q2, m2, fr2⟩ := snd1 9 (p := 0) (n := s.n) hp hn (ha.src _) (by omega) hv
    have hw : IntKind.i64.wrap ((i : Int) + 1) = (i : Int) + 1 := wr_id (by omega) (by omega)
    by_cases hz : bs = []
    · have hz0 : ¬ (0 : Int) < bs.length := by simp [hz]
      have hz1 : ¬ 0 < bs.length := by simp [hz]
      rw [if_pos hz] at q2
      simp only [l7_0b, keep, run_seq, run_cond, run_block, run_reg, run_reg0, run_drw, run_skip, run_ret, run_exit, then_norm, then_ret, then_exit, cd_true, cd_false, block_norm, block_ret, block_exit, reg_nil, reg_cons, ops_nil, ops_cons, opsThen_nil, opsThen_cons, calm_some, res_norm, res_ret, fnEnd, argsT, opRun, PT.get_put, dstep, ev, evs, evO, give, giveI, binOf, isNilK, np_nilp, np_ptr, np_lref, np_cref, ns_nils, ns_lst, ns_sl, nf_nilf, nf_fnc, ni_nili, ni_iface, PM.flip, putT, putL, putH, binInt, callM, loadOf, storeOf, cut, over, ofCells, asNat, natOr, calm, clashes, Acc.clash, ressOf, resOf, out_agg, out_tup, out_fnc, outs_nil, outs_cons, len_nils, len_lst, len_sl, scal_fnc, frz, frz.frzs, snap, snap.snaps, DV.pure, DV.pure.pures, DV.flat, DV.flat.flats, unOf, binStr, ansT, out_imm, out_ptr, out_sl, cells_imm, cells_ptr, cells_sl, cells_agg, scal_int, scal_bool, scal_str, scal_nils, scal_nilp, scal_lst, scal_ptr, scal_sl, Option.map, List.length_cons, List.length_nil, reduceIte, Nat.reduceEqDiff, Nat.reduceAdd]
      simp [h0, h3, h4, h5, hi', hi, he, e1, la, hB, hB', imms, oa, e2, hz0, hz1, hw, run_seq, run_cond, run_block, run_reg, run_reg0, run_drw, run_skip, run_ret, run_exit, then_norm, then_ret, then_exit, cd_true, cd_false, block_norm, block_ret, block_exit, reg_nil, reg_cons, ops_nil, ops_cons, opsThen_nil, opsThen_cons, calm_some, res_norm, res_ret, fnEnd, argsT, opRun, PT.get_put, dstep, ev, evs, evO, give, giveI, binOf, isNilK, np_nilp, np_ptr, np_lref, np_cref, ns_nils, ns_lst, ns_sl, nf_nilf, nf_fnc, ni_nili, ni_iface, PM.flip, putT, putL, putH, binInt, callM, loadOf, storeOf, cut, over, ofCells, asNat, natOr, calm, clashes, Acc.clash, ressOf, resOf, out_agg, out_tup, out_fnc, outs_nil, outs_cons, len_nils, len_lst, len_sl, scal_fnc, frz, frz.frzs, snap, snap.snaps, DV.pure, DV.pure.pures, DV.flat, DV.flat.flats, unOf, binStr, ansT, out_imm, out_ptr, out_sl, cells_imm, cells_ptr, cells_sl, cells_agg, scal_int, scal_bool, scal_str, scal_nils, scal_nilp, scal_lst, scal_ptr, scal_sl, Option.map, List.length_cons, List.length_nil, reduceIte, Nat.reduceEqDiff, Nat.reduceAdd]
      refine ⟨ws, ?_⟩
      simp only [I7, PT.get_put]
      simp [h0, h3, h4, h5, hw]
      exact ⟨by omega, v', g2, q2⟩
    · have hz1 : 0 < bs.length := List.length_pos_iff.2 hz
      have hz0 : (0 : Int) < bs.length := by omega
      rw [if_neg hz] at q2
      simp only [l7_0b, keep, run_seq, run_cond, run_block, run_reg, run_reg0, run_drw, run_skip, run_ret, run_exit, then_norm, then_ret, then_exit, cd_true, cd_false, block_norm, block_ret, block_exit, reg_nil, reg_cons, ops_nil, ops_cons, opsThen_nil, opsThen_cons, calm_some, res_norm, res_ret, fnEnd, argsT, opRun, PT.get_put, dstep, ev, evs, evO, give, giveI, binOf, isNilK, np_nilp, np_ptr, np_lref, np_cref, ns_nils, ns_lst, ns_sl, nf_nilf, nf_fnc, ni_nili, ni_iface, PM.flip, putT, putL, putH, binInt, callM, loadOf, storeOf, cut, over, ofCells, asNat, natOr, calm, clashes, Acc.clash, ressOf, resOf, out_agg, out_tup, out_fnc, outs_nil, outs_cons, len_nils, len_lst, len_sl, scal_fnc, frz, frz.frzs, snap, snap.snaps, DV.pure, DV.pure.pures, DV.flat, DV.flat.flats, unOf, binStr, ansT, out_imm, out_ptr, out_sl, cells_imm, cells_ptr, cells_sl, cells_agg, scal_int, scal_bool, scal_str, scal_nils, scal_nilp, scal_lst, scal_ptr, scal_sl, Option.map, List.length_cons, List.length_nil, reduceIte, Nat.reduceEqDiff, Nat.reduceAdd]
      simp [h0, h3, h4, h5, hi', hi, he, e1, la, hB, hB', imms, oa, e2, hz0, hz1, hw, ra', ca', mapO_rows, bytesOf_rows, racc_none, run_seq, run_cond, run_block, run_reg, run_reg0, run_drw, run_skip, run_ret, run_exit, then_norm, then_ret, then_exit, cd_true, cd_false, block_norm, block_ret, block_exit, reg_nil, reg_cons, ops_nil, ops_cons, opsThen_nil, opsThen_cons, calm_some, res_norm, res_ret, fnEnd, argsT, opRun, PT.get_put, dstep, ev, evs, evO, give, giveI, binOf, isNilK, np_nilp, np_ptr, np_lref, np_cref, ns_nils, ns_lst, ns_sl, nf_nilf, nf_fnc, ni_nili, ni_iface, PM.flip, putT, putL, putH, binInt, callM, loadOf, storeOf, cut, over, ofCells, asNat, natOr, calm, clashes, Acc.clash, ressOf, resOf, out_agg, out_tup, out_fnc, outs_nil, outs_cons, len_nils, len_lst, len_sl, scal_fnc, frz, frz.frzs, snap, snap.snaps, DV.pure, DV.pure.pures, DV.flat, DV.flat.flats, unOf, binStr, ansT, out_imm, out_ptr, out_sl, cells_imm, cells_ptr, cells_sl, cells_agg, scal_int, scal_bool, scal_str, scal_nils, scal_nilp, scal_lst, scal_ptr, scal_sl, Option.map, List.length_cons, List.length_nil, reduceIte, Nat.reduceEqDiff, Nat.reduceAdd]
      refine ⟨bs, ?_⟩
      simp only [I7, PT.get_put]
      simp [h0, h3, h4, h5, hw]
      exact ⟨by omega, v', g2, q2⟩

theorem last7 {es : List (List IV)} (ws : List UInt8) (i : Nat) (s : St) (h : I7 es ws i s) (hi : ¬ i < es.length) :
    ∃ s', l7_0b.run noG (K noG 11) 0 ⟨keep s.T [0, 3, 4, 5], keep s.L [], s.H, s.n⟩ = some (.exit 0, s') ∧ I7 es ws i s' := by
  obtain ⟨h0, h3, h4, h5, hn, v1, hp, hv⟩ := h
  have hi' : ¬ (i : Int) < es.length := by omega
  simp only [l7_0b, keep, run_seq, run_cond, run_block, run_reg, run_reg0, run_drw, run_skip, run_ret, run_exit, then_norm, then_ret, then_exit, cd_true, cd_false, block_norm, block_ret, block_exit, reg_nil, reg_cons, ops_nil, ops_cons, opsThen_nil, opsThen_cons, calm_some, res_norm, res_ret, fnEnd, argsT, opRun, PT.get_put, dstep, ev, evs, evO, give, giveI, binOf, isNilK, np_nilp, np_ptr, np_lref, np_cref, ns_nils, ns_lst, ns_sl, nf_nilf, nf_fnc, ni_nili, ni_iface, PM.flip, putT, putL, putH, binInt, callM, loadOf, storeOf, cut, over, ofCells, asNat, natOr, calm, clashes, Acc.clash, ressOf, resOf, out_agg, out_tup, out_fnc, outs_nil, outs_cons, len_nils, len_lst, len_sl, scal_fnc, frz, frz.frzs, snap, snap.snaps, DV.pure, DV.pure.pures, DV.flat, DV.flat.flats, unOf, binStr, ansT, out_imm, out_ptr, out_sl, cells_imm, cells_ptr, cells_sl, cells_agg, scal_int, scal_bool, scal_str, scal_nils, scal_nilp, scal_lst, scal_ptr, scal_sl, Option.map, List.length_cons, List.length_nil, reduceIte, Nat.reduceEqDiff, Nat.reduceAdd]
  simp [h0, h3, h4, h5, hi', hi, run_seq, run_cond, run_block, run_reg, run_reg0, run_drw, run_skip, run_ret, run_exit, then_norm, then_ret, then_exit, cd_true, cd_false, block_norm, block_ret, block_exit, reg_nil, reg_cons, ops_nil, ops_cons, opsThen_nil, opsThen_cons, calm_some, res_norm, res_ret, fnEnd, argsT, opRun, PT.get_put, dstep, ev, evs, evO, give, giveI, binOf, isNilK, np_nilp, np_ptr, np_lref, np_cref, ns_nils, ns_lst, ns_sl, nf_nilf, nf_fnc, ni_nili, ni_iface, PM.flip, putT, putL, putH, binInt, callM, loadOf, storeOf, cut, over, ofCells, asNat, natOr, calm, clashes, Acc.clash, ressOf, resOf, out_agg, out_tup, out_fnc, outs_nil, outs_cons, len_nils, len_lst, len_sl, scal_fnc, frz, frz.frzs, snap, snap.snaps, DV.pure, DV.pure.pures, DV.flat, DV.flat.flats, unOf, binStr, ansT, out_imm, out_ptr, out_sl, cells_imm, cells_ptr, cells_sl, cells_agg, scal_int, scal_bool, scal_str, scal_nils, scal_nilp, scal_lst, scal_ptr, scal_sl, Option.map, List.length_cons, List.length_nil, reduceIte, Nat.reduceEqDiff, Nat.reduceAdd]
  simp only [I7, PT.get_put]
  simp [h0, h3, h4, h5]
  exact ⟨by omega, v1, hp, hv⟩

theorem loop7 {es : List (List IV)} {bss : List (List UInt8)} (hr : rowsL es bss) (hlen : es.length ≤ 30) : ∀ s, I7 es [] 0 s →
    ∃ e s', l7_0.run noG (K noG 11) 0 s = some (e, s') ∧ ((e = .ret ∧ s'.T.get 2 = some (.imm (.bool true))) ∨ (e = .exit 0 ∧ ∃ ws i, I7 es ws i s')) := by
  intro s hs
  obtain ⟨e, s', h1, h2, h3⟩ := iter_ind (f := loopRun noG (K noG 11) 0 [0, 3, 4, 5] [] l7_0b) (fun m s => ∃ (i : Nat) (ws : List UInt8), I7 es ws i s ∧ m = es.length - i) (fun e s' => (e = .ret ∧ s'.T.get 2 = some (.imm (.bool true))) ∨ (e = .exit 0 ∧ ∃ ws i, I7 es ws i s'))
    (fun m s ⟨i, ws, hI, hm⟩ => by
      by_cases hi : i < es.length
      · rcases round7 hr hlen ws i s hI hi with ⟨s', e1, e2⟩ | ⟨s', ws', e1, e2⟩
        · exact .inr ⟨.ret, s', e1, by simp, .inl ⟨rfl, e2⟩⟩
        · exact .inl ⟨s', _, e1, by omega, i + 1, ws', e2, rfl⟩
      · obtain ⟨s', e1, e2⟩ := last7 ws i s hI hi
        exact .inr ⟨.exit 0, s', e1, by simp, .inr ⟨rfl, ws, i, e2⟩⟩) es.length LOOP s ⟨0, [], hs, by simp⟩ (by unfold LOOP; omega)
  exact ⟨e, s', h1, h3⟩

/-- Of what is sent in one cycle the last counts. -/
theorem lasts {iv : IV} (hv : FitK (.sl [.sl [.i .u8]]) iv) : ∃ H' n', K noG 12 7 [.imm iv] .lf 0 0 = some (.imm (.bool true), H', n') := by
  obtain ⟨Hk, nk, ek⟩ := known_at 6
  have hnew := new_eq 10 .lf 0 0
  rw [D.k7]
  rcases rowsL_of_fit hv with rfl | ⟨es, bss, rfl, hr⟩
  · have hx : ∃ s', l7_0b.run noG (K noG 11) 0 = s' := ⟨_, rfl⟩
    obtain ⟨k, hL⟩ : ∃ k, LOOP = k + 1 := ⟨2 ^ 62 - 1, rfl⟩
    have e3 := turn_plain 10 (p := 0) (H := PT.lf.put 0 (some ⟨4, [[.imm .nils, .imm .nils, .imm .nils, .imm .nils]]⟩)) (n := 1) (s := -1) gps (src_nils _) (src_nils _) (by omega)
    obtain ⟨H3, e3, g3, fr3⟩ := e3
    have e5 := take0 9 (n := 1) g3 rfl
    have e6 := take1 9 (n := 1) (H := H3.put 0 (some ⟨4, [[.imm .nils, .imm .nils, .imm .nils, .imm .nils]]⟩)) gps rfl
    simp only [D.f7, l7_0, l7_0b, fn_run, run_loop, hL, run_seq, run_cond, run_block, run_reg, run_reg0, run_drw, run_skip, run_ret, run_exit, then_norm, then_ret, then_exit, cd_true, cd_false, block_norm, block_ret, block_exit, reg_nil, reg_cons, ops_nil, ops_cons, opsThen_nil, opsThen_cons, calm_some, res_norm, res_ret, fnEnd, argsT, opRun, PT.get_put, dstep, ev, evs, evO, give, giveI, binOf, isNilK, np_nilp, np_ptr, np_lref, np_cref, ns_nils, ns_lst, ns_sl, nf_nilf, nf_fnc, ni_nili, ni_iface, PM.flip, putT, putL, putH, binInt, callM, loadOf, storeOf, cut, over, ofCells, asNat, natOr, calm, clashes, Acc.clash, ressOf, resOf, out_agg, out_tup, out_fnc, outs_nil, outs_cons, len_nils, len_lst, len_sl, scal_fnc, frz, frz.frzs, snap, snap.snaps, DV.pure, DV.pure.pures, DV.flat, DV.flat.flats, unOf, binStr, ansT, out_imm, out_ptr, out_sl, cells_imm, cells_ptr, cells_sl, cells_agg, scal_int, scal_bool, scal_str, scal_nils, scal_nilp, scal_lst, scal_ptr, scal_sl, Option.map, List.length_cons, List.length_nil, reduceIte, Nat.reduceEqDiff, Nat.reduceAdd]
    simp [hnew, e3, e5, e6, ek, l7_0, l7_0b, run_loop, hL, iter, loopRun_eq, keep, rowsOf, mapO, bytesOf, racc_none, run_seq, run_cond, run_block, run_reg, run_reg0, run_drw, run_skip, run_ret, run_exit, then_norm, then_ret, then_exit, cd_true, cd_false, block_norm, block_ret, block_exit, reg_nil, reg_cons, ops_nil, ops_cons, opsThen_nil, opsThen_cons, calm_some, res_norm, res_ret, fnEnd, argsT, opRun, PT.get_put, dstep, ev, evs, evO, give, giveI, binOf, isNilK, np_nilp, np_ptr, np_lref, np_cref, ns_nils, ns_lst, ns_sl, nf_nilf, nf_fnc, ni_nili, ni_iface, PM.flip, putT, putL, putH, binInt, callM, loadOf, storeOf, cut, over, ofCells, asNat, natOr, calm, clashes, Acc.clash, ressOf, resOf, out_agg, out_tup, out_fnc, outs_nil, outs_cons, len_nils, len_lst, len_sl, scal_fnc, frz, frz.frzs, snap, snap.snaps, DV.pure, DV.pure.pures, DV.flat, DV.flat.flats, unOf, binStr, ansT, out_imm, out_ptr, out_sl, cells_imm, cells_ptr, cells_sl, cells_agg, scal_int, scal_bool, scal_str, scal_nils, scal_nilp, scal_lst, scal_ptr, scal_sl, Option.map, List.length_cons, List.length_nil, reduceIte, Nat.reduceEqDiff, Nat.reduceAdd]
  · by_cases hA : 30 < es.length
    · have hA' : (30 : Int) < es.length := by omega
      simp only [D.f7, fn_run, run_seq, run_cond, run_block, run_reg, run_reg0, run_drw, run_skip, run_ret, run_exit, then_norm, then_ret, then_exit, cd_true, cd_false, block_norm, block_ret, block_exit, reg_nil, reg_cons, ops_nil, ops_cons, opsThen_nil, opsThen_cons, calm_some, res_norm, res_ret, fnEnd, argsT, opRun, PT.get_put, dstep, ev, evs, evO, give, giveI, binOf, isNilK, np_nilp, np_ptr, np_lref, np_cref, ns_nils, ns_lst, ns_sl, nf_nilf, nf_fnc, ni_nili, ni_iface, PM.flip, putT, putL, putH, binInt, callM, loadOf, storeOf, cut, over, ofCells, asNat, natOr, calm, clashes, Acc.clash, ressOf, resOf, out_agg, out_tup, out_fnc, outs_nil, outs_cons, len_nils, len_lst, len_sl, scal_fnc, frz, frz.frzs, snap, snap.snaps, DV.pure, DV.pure.pures, DV.flat, DV.flat.flats, unOf, binStr, ansT, out_imm, out_ptr, out_sl, cells_imm, cells_ptr, cells_sl, cells_agg, scal_int, scal_bool, scal_str, scal_nils, scal_nilp, scal_lst, scal_ptr, scal_sl, Option.map, List.length_cons, List.length_nil, reduceIte, Nat.reduceEqDiff, Nat.reduceAdd]
      simp [hA', hA, run_seq, run_cond, run_block, run_reg, run_reg0, run_drw, run_skip, run_ret, run_exit, then_norm, then_ret, then_exit, cd_true, cd_false, block_norm, block_ret, block_exit, reg_nil, reg_cons, ops_nil, ops_cons, opsThen_nil, opsThen_cons, calm_some, res_norm, res_ret, fnEnd, argsT, opRun, PT.get_put, dstep, ev, evs, evO, give, giveI, binOf, isNilK, np_nilp, np_ptr, np_lref, np_cref, ns_nils, ns_lst, ns_sl, nf_nilf, nf_fnc, ni_nili, ni_iface, PM.flip, putT, putL, putH, binInt, callM, loadOf, storeOf, cut, over, ofCells, asNat, natOr, calm, clashes, Acc.clash, ressOf, resOf, out_agg, out_tup, out_fnc, outs_nil, outs_cons, len_nils, len_lst, len_sl, scal_fnc, frz, frz.frzs, snap, snap.snaps, DV.pure, DV.pure.pures, DV.flat, DV.flat.flats, unOf, binStr, ansT, out_imm, out_ptr, out_sl, cells_imm, cells_ptr, cells_sl, cells_agg, scal_int, scal_bool, scal_str, scal_nils, scal_nilp, scal_lst, scal_ptr, scal_sl, Option.map, List.length_cons, List.length_nil, reduceIte, Nat.reduceEqDiff, Nat.reduceAdd]
    have hA' : ¬ (30 : Int) < es.length := by omega
    simp only [D.f7, fn_run, run_seq, run_cond, run_block, run_reg, run_reg0, run_drw, run_skip, run_ret, run_exit, then_norm, then_ret, then_exit, cd_true, cd_false, block_norm, block_ret, block_exit, reg_nil, reg_cons, ops_nil, ops_cons, opsThen_nil, opsThen_cons, calm_some, res_norm, res_ret, fnEnd, argsT, opRun, PT.get_put, dstep, ev, evs, evO, give, giveI, binOf, isNilK, np_nilp, np_ptr, np_lref, np_cref, ns_nils, ns_lst, ns_sl, nf_nilf, nf_fnc, ni_nili, ni_iface, PM.flip, putT, putL, putH, binInt, callM, loadOf, storeOf, cut, over, ofCells, asNat, natOr, calm, clashes, Acc.clash, ressOf, resOf, out_agg, out_tup, out_fnc, outs_nil, outs_cons, len_nils, len_lst, len_sl, scal_fnc, frz, frz.frzs, snap, snap.snaps, DV.pure, DV.pure.pures, DV.flat, DV.flat.flats, unOf, binStr, ansT, out_imm, out_ptr, out_sl, cells_imm, cells_ptr, cells_sl, cells_agg, scal_int, scal_bool, scal_str, scal_nils, scal_nilp, scal_lst, scal_ptr, scal_sl, Option.map, List.length_cons, List.length_nil, reduceIte, Nat.reduceEqDiff, Nat.reduceAdd]
    simp [hA', hA, hnew, run_seq, run_cond, run_block, run_reg, run_reg0, run_drw, run_skip, run_ret, run_exit, then_norm, then_ret, then_exit, cd_true, cd_false, block_norm, block_ret, block_exit, reg_nil, reg_cons, ops_nil, ops_cons, opsThen_nil, opsThen_cons, calm_some, res_norm, res_ret, fnEnd, argsT, opRun, PT.get_put, dstep, ev, evs, evO, give, giveI, binOf, isNilK, np_nilp, np_ptr, np_lref, np_cref, ns_nils, ns_lst, ns_sl, nf_nilf, nf_fnc, ni_nili, ni_iface, PM.flip, putT, putL, putH, binInt, callM, loadOf, storeOf, cut, over, ofCells, asNat, natOr, calm, clashes, Acc.clash, ressOf, resOf, out_agg, out_tup, out_fnc, outs_nil, outs_cons, len_nils, len_lst, len_sl, scal_fnc, frz, frz.frzs, snap, snap.snaps, DV.pure, DV.pure.pures, DV.flat, DV.flat.flats, unOf, binStr, ansT, out_imm, out_ptr, out_sl, cells_imm, cells_ptr, cells_sl, cells_agg, scal_int, scal_bool, scal_str, scal_nils, scal_nilp, scal_lst, scal_ptr, scal_sl, Option.map, List.length_cons, List.length_nil, reduceIte, Nat.reduceEqDiff, Nat.reduceAdd]
    generalize hrun : l7_0.run noG (K noG 11) 0 _ = r
    obtain ⟨e, s', rfl, h2⟩ : ∃ e s', r = some (e, s') ∧ ((e = .ret ∧ s'.T.get 2 = some (.imm (.bool true))) ∨ (e = .exit 0 ∧ ∃ ws i, I7 es ws i s')) := by
      rw [← hrun]
      refine loop7 hr (by omega) _ ⟨?_, ?_, ?_, ?_, ?_, .imm .nils, ?_, .nils⟩ <;> simp [PT.get_put]
    clear hrun
    rcases h2 with ⟨rfl, h2⟩ | ⟨rfl, ws, i, h0, h3, h4, h5, hn, v1, hp, hv1⟩
    · simp [h2, run_seq, run_cond, run_block, run_reg, run_reg0, run_drw, run_skip, run_ret, run_exit, then_norm, then_ret, then_exit, cd_true, cd_false, block_norm, block_ret, block_exit, reg_nil, reg_cons, ops_nil, ops_cons, opsThen_nil, opsThen_cons, calm_some, res_norm, res_ret, fnEnd, argsT, opRun, PT.get_put, dstep, ev, evs, evO, give, giveI, binOf, isNilK, np_nilp, np_ptr, np_lref, np_cref, ns_nils, ns_lst, ns_sl, nf_nilf, nf_fnc, ni_nili, ni_iface, PM.flip, putT, putL, putH, binInt, callM, loadOf, storeOf, cut, over, ofCells, asNat, natOr, calm, clashes, Acc.clash, ressOf, resOf, out_agg, out_tup, out_fnc, outs_nil, outs_cons, len_nils, len_lst, len_sl, scal_fnc, frz, frz.frzs, snap, snap.snaps, DV.pure, DV.pure.pures, DV.flat, DV.flat.flats, unOf, binStr, ansT, out_imm, out_ptr, out_sl, cells_imm, cells_ptr, cells_sl, cells_agg, scal_int, scal_bool, scal_str, scal_nils, scal_nilp, scal_lst, scal_ptr, scal_sl, Option.map, List.length_cons, List.length_nil, reduceIte, Nat.reduceEqDiff, Nat.reduceAdd]
    · obtain ⟨H3, e3, g3, fr3⟩ := turn_plain 10 (n := s'.n) (s := -1) hp (src_nils _) hv1.src (by omega)
      have q1 := hv1.mono (fun id _ h => fr3 id h) (Nat.le_refl _)
      have e5 := take0 9 (n := s'.n) g3 q1.src.out
      have q1' : Vb (H3.put 0 (some ⟨4, [[.imm .nils, .imm .nils, .imm .nils, .imm .nils]]⟩)) 0 s'.n v1 ws := q1.mono (fun id _ h => by rw [PT.get_put, if_neg h]) (Nat.le_refl _)
      have e6 := take1 9 (n := s'.n) (H := H3.put 0 (some ⟨4, [[.imm .nils, .imm .nils, .imm .nils, .imm .nils]]⟩)) gps rfl
      obtain ⟨sa, ka, _, ra, ca⟩ := q1'.src.src
      simp [h3, h4, e3, e5, e6, ek, ra, ca, mapO_rows, bytesOf_rows, w0, run_seq, run_cond, run_block, run_reg, run_reg0, run_drw, run_skip, run_ret, run_exit, then_norm, then_ret, then_exit, cd_true, cd_false, block_norm, block_ret, block_exit, reg_nil, reg_cons, ops_nil, ops_cons, opsThen_nil, opsThen_cons, calm_some, res_norm, res_ret, fnEnd, argsT, opRun, PT.get_put, dstep, ev, evs, evO, give, giveI, binOf, isNilK, np_nilp, np_ptr, np_lref, np_cref, ns_nils, ns_lst, ns_sl, nf_nilf, nf_fnc, ni_nili, ni_iface, PM.flip, putT, putL, putH, binInt, callM, loadOf, storeOf, cut, over, ofCells, asNat, natOr, calm, clashes, Acc.clash, ressOf, resOf, out_agg, out_tup, out_fnc, outs_nil, outs_cons, len_nils, len_lst, len_sl, scal_fnc, frz, frz.frzs, snap, snap.snaps, DV.pure, DV.pure.pures, DV.flat, DV.flat.flats, unOf, binStr, ansT, out_imm, out_ptr, out_sl, cells_imm, cells_ptr, cells_sl, cells_agg, scal_int, scal_bool, scal_str, scal_nils, scal_nilp, scal_lst, scal_ptr, scal_sl, Option.map, List.length_cons, List.length_nil, reduceIte, Nat.reduceEqDiff, Nat.reduceAdd]

/-- What is handed in is neither kept nor changed. -/
theorem owns {a : DV} {as : List UInt8} (ha : Arg a as) (u : Int) : ∃ H' n', K noG 12 6 [a, .imm (.int .i64 u)] .lf 0 0 = some (.imm (.bool true), H', n') := by
  have la := (ha.src .lf).len
  have oa := (ha.src .lf).out
  rw [D.k6]
  by_cases hA : as.length < 1
  · have hA' : (as.length : Int) < 1 := by omega
    simp only [D.f6, fn_run, run_seq, run_cond, run_block, run_reg, run_reg0, run_drw, run_skip, run_ret, run_exit, then_norm, then_ret, then_exit, cd_true, cd_false, block_norm, block_ret, block_exit, reg_nil, reg_cons, ops_nil, ops_cons, opsThen_nil, opsThen_cons, calm_some, res_norm, res_ret, fnEnd, argsT, opRun, PT.get_put, dstep, ev, evs, evO, give, giveI, binOf, isNilK, np_nilp, np_ptr, np_lref, np_cref, ns_nils, ns_lst, ns_sl, nf_nilf, nf_fnc, ni_nili, ni_iface, PM.flip, putT, putL, putH, binInt, callM, loadOf, storeOf, cut, over, ofCells, asNat, natOr, calm, clashes, Acc.clash, ressOf, resOf, out_agg, out_tup, out_fnc, outs_nil, outs_cons, len_nils, len_lst, len_sl, scal_fnc, frz, frz.frzs, snap, snap.snaps, DV.pure, DV.pure.pures, DV.flat, DV.flat.flats, unOf, binStr, ansT, out_imm, out_ptr, out_sl, cells_imm, cells_ptr, cells_sl, cells_agg, scal_int, scal_bool, scal_str, scal_nils, scal_nilp, scal_lst, scal_ptr, scal_sl, Option.map, List.length_cons, List.length_nil, reduceIte, Nat.reduceEqDiff, Nat.reduceAdd]
    simp [la, hA', hA, run_seq, run_cond, run_block, run_reg, run_reg0, run_drw, run_skip, run_ret, run_exit, then_norm, then_ret, then_exit, cd_true, cd_false, block_norm, block_ret, block_exit, reg_nil, reg_cons, ops_nil, ops_cons, opsThen_nil, opsThen_cons, calm_some, res_norm, res_ret, fnEnd, argsT, opRun, PT.get_put, dstep, ev, evs, evO, give, giveI, binOf, isNilK, np_nilp, np_ptr, np_lref, np_cref, ns_nils, ns_lst, ns_sl, nf_nilf, nf_fnc, ni_nili, ni_iface, PM.flip, putT, putL, putH, binInt, callM, loadOf, storeOf, cut, over, ofCells, asNat, natOr, calm, clashes, Acc.clash, ressOf, resOf, out_agg, out_tup, out_fnc, outs_nil, outs_cons, len_nils, len_lst, len_sl, scal_fnc, frz, frz.frzs, snap, snap.snaps, DV.pure, DV.pure.pures, DV.flat, DV.flat.flats, unOf, binStr, ansT, out_imm, out_ptr, out_sl, cells_imm, cells_ptr, cells_sl, cells_agg, scal_int, scal_bool, scal_str, scal_nils, scal_nilp, scal_lst, scal_ptr, scal_sl, Option.map, List.length_cons, List.length_nil, reduceIte, Nat.reduceEqDiff, Nat.reduceAdd]
  have hA' : ¬ (as.length : Int) < 1 := by omega
  by_cases hB : 300 < as.length
  · have hB' : (300 : Int) < as.length := by omega
    simp only [D.f6, fn_run, run_seq, run_cond, run_block, run_reg, run_reg0, run_drw, run_skip, run_ret, run_exit, then_norm, then_ret, then_exit, cd_true, cd_false, block_norm, block_ret, block_exit, reg_nil, reg_cons, ops_nil, ops_cons, opsThen_nil, opsThen_cons, calm_some, res_norm, res_ret, fnEnd, argsT, opRun, PT.get_put, dstep, ev, evs, evO, give, giveI, binOf, isNilK, np_nilp, np_ptr, np_lref, np_cref, ns_nils, ns_lst, ns_sl, nf_nilf, nf_fnc, ni_nili, ni_iface, PM.flip, putT, putL, putH, binInt, callM, loadOf, storeOf, cut, over, ofCells, asNat, natOr, calm, clashes, Acc.clash, ressOf, resOf, out_agg, out_tup, out_fnc, outs_nil, outs_cons, len_nils, len_lst, len_sl, scal_fnc, frz, frz.frzs, snap, snap.snaps, DV.pure, DV.pure.pures, DV.flat, DV.flat.flats, unOf, binStr, ansT, out_imm, out_ptr, out_sl, cells_imm, cells_ptr, cells_sl, cells_agg, scal_int, scal_bool, scal_str, scal_nils, scal_nilp, scal_lst, scal_ptr, scal_sl, Option.map, List.length_cons, List.length_nil, reduceIte, Nat.reduceEqDiff, Nat.reduceAdd]
    simp [la, hA', hA, hB, hB', run_seq, run_cond, run_block, run_reg, run_reg0, run_drw, run_skip, run_ret, run_exit, then_norm, then_ret, then_exit, cd_true, cd_false, block_norm, block_ret, block_exit, reg_nil, reg_cons, ops_nil, ops_cons, opsThen_nil, opsThen_cons, calm_some, res_norm, res_ret, fnEnd, argsT, opRun, PT.get_put, dstep, ev, evs, evO, give, giveI, binOf, isNilK, np_nilp, np_ptr, np_lref, np_cref, ns_nils, ns_lst, ns_sl, nf_nilf, nf_fnc, ni_nili, ni_iface, PM.flip, putT, putL, putH, binInt, callM, loadOf, storeOf, cut, over, ofCells, asNat, natOr, calm, clashes, Acc.clash, ressOf, resOf, out_agg, out_tup, out_fnc, outs_nil, outs_cons, len_nils, len_lst, len_sl, scal_fnc, frz, frz.frzs, snap, snap.snaps, DV.pure, DV.pure.pures, DV.flat, DV.flat.flats, unOf, binStr, ansT, out_imm, out_ptr, out_sl, cells_imm, cells_ptr, cells_sl, cells_agg, scal_int, scal_bool, scal_str, scal_nils, scal_nilp, scal_lst, scal_ptr, scal_sl, Option.map, List.length_cons, List.length_nil, reduceIte, Nat.reduceEqDiff, Nat.reduceAdd]
  have hB' : ¬ (300 : Int) < as.length := by omega
  have hz : as ≠ [] := fun h => hA (by simp [h])
  obtain ⟨c, cs, rfl⟩ : ∃ c cs, as = c :: cs := by
    cases as with
    | nil => exact absurd rfl hz
    | cons c cs => exact ⟨c, cs, rfl⟩
  have hnew := new_eq 10 .lf 0 0
  obtain ⟨ka', ca', ra'⟩ := ha.rows
  have hsrc : ∀ h, srcOf h a = some (none, ka', (c :: cs).map rowB) := fun h => by
    cases ha with
    | lst => exact ra' h
  obtain rfl : ka' = 1 := ca'.resolve_right hz
  have hm : (c :: cs).length ≤ appMax := by unfold appMax; omega
  have hin : Src ((PT.lf.put 0 (some ⟨4, [[.imm .nils, .imm .nils, .imm .nils, .imm .nils]]⟩)).put 1 (some ⟨1, (c :: cs).map rowB⟩)) (.sl 1 0 (c :: cs).length (c :: cs).length) (c :: cs) := src_sl gps
  have e1 := send0 9 (p := 0) (H := (PT.lf.put 0 (some ⟨4, [[.imm .nils, .imm .nils, .imm .nils, .imm .nils]]⟩)).put 1 (some ⟨1, (c :: cs).map rowB⟩)) (n := 2) (v0 := .imm .nils) (v1 := .imm .nils) (v2 := .imm .nils) (v3 := .imm .nils)
    (by simp [PT.get_put]) (by omega) hin hz (by omega)
  generalize hH1 : ((((PT.lf.put 0 (some ⟨4, [[.imm .nils, .imm .nils, .imm .nils, .imm .nils]]⟩)).put 1 (some ⟨1, (c :: cs).map rowB⟩)).put 2 (some ⟨1, (c :: cs).map rowB⟩)).put 0 (some ⟨4, [[.sl 2 0 (c :: cs).length (c :: cs).length, .imm .nils, .imm .nils, .imm .nils]]⟩) : PT HB) = H1 at e1
  have g1 : H1.get 1 = some ⟨1, (c :: cs).map rowB⟩ := by subst hH1; simp [PT.get_put]
  have g0 : H1.get 0 = some ⟨4, [[.sl 2 0 (c :: cs).length (c :: cs).length, .imm .nils, .imm .nils, .imm .nils]]⟩ := by subst hH1; simp [PT.get_put]
  have g2 : H1.get 2 = some ⟨1, (c :: cs).map rowB⟩ := by subst hH1; simp [PT.get_put]
  have key : ∀ (x : DV), ∃ H3, K noG (10 + 1) 13 [.ptr 0 0 0, .imm (.bool false), .imm (.int .i64 (-1))] (H1.put 1 (some ⟨1, [x] :: cs.map rowB⟩)) 3 0 = some (.tup [], H3, 3) ∧
      H3.get 0 = some ⟨4, [[.imm .nils, .imm .nils, .imm .nils, .sl 2 0 (c :: cs).length (c :: cs).length]]⟩ ∧ H3.get 2 = some ⟨1, (c :: cs).map rowB⟩ := fun x => by
    obtain ⟨H3, e3, g3, fr3⟩ := turn_plain 10 (p := 0) (H := H1.put 1 (some ⟨1, [x] :: cs.map rowB⟩)) (n := 3) (s := -1) (b0 := c :: cs) (by rw [PT.get_put, if_neg (by omega)]; exact g0) (src_sl (by rw [PT.get_put, if_neg (by omega)]; exact g2)) (src_nils _) (by omega)
    exact ⟨H3, e3, g3, by rw [fr3 2 (by omega), PT.get_put, if_neg (by omega)]; exact g2⟩
  obtain ⟨f3, hf3⟩ := Classical.axiomOfChoice key
  have e3 := fun x => (hf3 x).1
  have g3 := fun x => (hf3 x).2.1
  have g32 := fun x => (hf3 x).2.2
  have e4 := fun (H : PT HB) => send_nil 9 (u := u) (b := a) (H := H) (n := 3)
  have e5 := fun (H : PT HB) => turn_nil 10 (a := .bool false) (b := .int .i64 0) (H := H) (n := 3)
  have e6 := fun x => take1 9 (n := 3) (g3 x) rfl
  have e7 := fun (H : PT HB) => take_nil 9 (u := u) (H := H) (n := 3)
  have e8 := fun (H : PT HB) => take_none 9 (p := 0) (u := 2) (H := H) (n := 3) (by omega)
  have e9 := fun (H : PT HB) => take_none 9 (p := 0) (u := -1) (H := H) (n := 3) (by omega)
  obtain ⟨Hk, nk, ek⟩ := known_at 6
  have ht : ((c :: cs).map rowB).take (c :: cs).length = (c :: cs).map rowB := List.take_of_length_le (by simp)
  have hmr := mapO_rows (c :: cs)
  have hbr := bytesOf_rows (c :: cs)
  simp only [List.length_cons, List.map_cons] at e1 g0 g1 g2 g3 g32 e6 hm ht ra' hsrc hmr hbr
  simp only [D.f6, fn_run, run_seq, run_cond, run_block, run_reg, run_reg0, run_drw, run_skip, run_ret, run_exit, then_norm, then_ret, then_exit, cd_true, cd_false, block_norm, block_ret, block_exit, reg_nil, reg_cons, ops_nil, ops_cons, opsThen_nil, opsThen_cons, calm_some, res_norm, res_ret, fnEnd, argsT, opRun, PT.get_put, dstep, ev, evs, evO, give, giveI, binOf, isNilK, np_nilp, np_ptr, np_lref, np_cref, ns_nils, ns_lst, ns_sl, nf_nilf, nf_fnc, ni_nili, ni_iface, PM.flip, putT, putL, putH, binInt, callM, loadOf, storeOf, cut, over, ofCells, asNat, natOr, calm, clashes, Acc.clash, ressOf, resOf, out_agg, out_tup, out_fnc, outs_nil, outs_cons, len_nils, len_lst, len_sl, scal_fnc, frz, frz.frzs, snap, snap.snaps, DV.pure, DV.pure.pures, DV.flat, DV.flat.flats, unOf, binStr, ansT, out_imm, out_ptr, out_sl, cells_imm, cells_ptr, cells_sl, cells_agg, scal_int, scal_bool, scal_str, scal_nils, scal_nilp, scal_lst, scal_ptr, scal_sl, Option.map, List.length_cons, List.length_nil, reduceIte, Nat.reduceEqDiff, Nat.reduceAdd]
  have hA2 : ¬ ((cs.length : Int) + 1 < 1) := by omega
  have hB2 : ¬ ((300 : Int) < (cs.length : Int) + 1) := by simp at hB; omega
  have hB3 : ¬ (300 < cs.length + 1) := by simpa using hB
  simp [la, oa, hA2, hB2, hB3, hnew, hm, hsrc, evParts2, lay, rowsN, unImms, mapO, appOf, racc_none, run_seq, run_cond, run_block, run_reg, run_reg0, run_drw, run_skip, run_ret, run_exit, then_norm, then_ret, then_exit, cd_true, cd_false, block_norm, block_ret, block_exit, reg_nil, reg_cons, ops_nil, ops_cons, opsThen_nil, opsThen_cons, calm_some, res_norm, res_ret, fnEnd, argsT, opRun, PT.get_put, dstep, ev, evs, evO, give, giveI, binOf, isNilK, np_nilp, np_ptr, np_lref, np_cref, ns_nils, ns_lst, ns_sl, nf_nilf, nf_fnc, ni_nili, ni_iface, PM.flip, putT, putL, putH, binInt, callM, loadOf, storeOf, cut, over, ofCells, asNat, natOr, calm, clashes, Acc.clash, ressOf, resOf, out_agg, out_tup, out_fnc, outs_nil, outs_cons, len_nils, len_lst, len_sl, scal_fnc, frz, frz.frzs, snap, snap.snaps, DV.pure, DV.pure.pures, DV.flat, DV.flat.flats, unOf, binStr, ansT, out_imm, out_ptr, out_sl, cells_imm, cells_ptr, cells_sl, cells_agg, scal_int, scal_bool, scal_str, scal_nils, scal_nilp, scal_lst, scal_ptr, scal_sl, Option.map, List.length_cons, List.length_nil, reduceIte, Nat.reduceEqDiff, Nat.reduceAdd]
  have hc : rowB c = [.imm (.int .u8 c.toNat)] := rfl
  simp only [hc] at e1 g1 g2 g3 g32 ra' ht hmr
  simp only [hc]
  simp [e1, g1, e3, e4, e5, oa, run_seq, run_cond, run_block, run_reg, run_reg0, run_drw, run_skip, run_ret, run_exit, then_norm, then_ret, then_exit, cd_true, cd_false, block_norm, block_ret, block_exit, reg_nil, reg_cons, ops_nil, ops_cons, opsThen_nil, opsThen_cons, calm_some, res_norm, res_ret, fnEnd, argsT, opRun, PT.get_put, dstep, ev, evs, evO, give, giveI, binOf, isNilK, np_nilp, np_ptr, np_lref, np_cref, ns_nils, ns_lst, ns_sl, nf_nilf, nf_fnc, ni_nili, ni_iface, PM.flip, putT, putL, putH, binInt, callM, loadOf, storeOf, cut, over, ofCells, asNat, natOr, calm, clashes, Acc.clash, ressOf, resOf, out_agg, out_tup, out_fnc, outs_nil, outs_cons, len_nils, len_lst, len_sl, scal_fnc, frz, frz.frzs, snap, snap.snaps, DV.pure, DV.pure.pures, DV.flat, DV.flat.flats, unOf, binStr, ansT, out_imm, out_ptr, out_sl, cells_imm, cells_ptr, cells_sl, cells_agg, scal_int, scal_bool, scal_str, scal_nils, scal_nilp, scal_lst, scal_ptr, scal_sl, Option.map, List.length_cons, List.length_nil, reduceIte, Nat.reduceEqDiff, Nat.reduceAdd]
  generalize (DV.imm (IV.int IntKind.u8 (IntKind.u8.wrap _))) = x
  have ra2 : rowsOf ((f3 x).put 0 (some ⟨4, [[.imm .nils, .imm .nils, .imm .nils, .imm .nils]]⟩)).get (.sl 2 0 (cs.length + 1) (cs.length + 1)) = some (some 2, 1, [.imm (.int .u8 c.toNat)] :: cs.map rowB) := by
    have h2 : cs.length = (cs.map rowB).length := by simp
    simp only [rowsOf]
    rw [PT.get_put, if_neg (by omega), g32 x]
    simp
    rw [List.take_of_length_le (by simp)]
  simp [e6, e7, e8, e9, racc_none, racc_some, ra2, ra', hmr, hbr, ek, oa, w0, run_seq, run_cond, run_block, run_reg, run_reg0, run_drw, run_skip, run_ret, run_exit, then_norm, then_ret, then_exit, cd_true, cd_false, block_norm, block_ret, block_exit, reg_nil, reg_cons, ops_nil, ops_cons, opsThen_nil, opsThen_cons, calm_some, res_norm, res_ret, fnEnd, argsT, opRun, PT.get_put, dstep, ev, evs, evO, give, giveI, binOf, isNilK, np_nilp, np_ptr, np_lref, np_cref, ns_nils, ns_lst, ns_sl, nf_nilf, nf_fnc, ni_nili, ni_iface, PM.flip, putT, putL, putH, binInt, callM, loadOf, storeOf, cut, over, ofCells, asNat, natOr, calm, clashes, Acc.clash, ressOf, resOf, out_agg, out_tup, out_fnc, outs_nil, outs_cons, len_nils, len_lst, len_sl, scal_fnc, frz, frz.frzs, snap, snap.snaps, DV.pure, DV.pure.pures, DV.flat, DV.flat.flats, unOf, binStr, ansT, out_imm, out_ptr, out_sl, cells_imm, cells_ptr, cells_sl, cells_agg, scal_int, scal_bool, scal_str, scal_nils, scal_nilp, scal_lst, scal_ptr, scal_sl, Option.map, List.length_cons, List.length_nil, reduceIte, Nat.reduceEqDiff, Nat.reduceAdd]
end Go.Proofs.Ytldinlipajjmoaa.D
