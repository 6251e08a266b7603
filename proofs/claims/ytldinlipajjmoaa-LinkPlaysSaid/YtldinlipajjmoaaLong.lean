/-
  LinkPlays over D: acts, whether they are more than is looked at.
-/
import Derived.Test.YtldinlipajjmoaaSpoil
set_option linter.unusedVariables false
set_option linter.unusedSimpArgs false
set_option maxHeartbeats 16000000
namespace Go.Proofs.Ytldinlipajjmoaa.D
open Go Go.PM

/-! ### Acts -/
structure Ac where
  kind : Int
  unit : Int
  b : IV
  bs : List UInt8
  lose : Bool
  spoil : Int
def rowA (a : Ac) : List IV := [.int .i64 a.kind, .int .i64 a.unit, a.b, .bool a.lose, .int .i64 a.spoil]
theorem acts_fit {iv : IV} (h : FitK (.sl [.i .i64, .i .i64, .sl [.i .u8], .b, .i .i64]) iv) : iv = .nils ∨ ∃ as : List Ac, iv = .lst false 5 (as.map rowA) ∧ (∀ a ∈ as, Arg (.imm a.b) a.bs ∧ a.bs.length ≤ reachBytes) ∧ as.length ≤ reachBytes := by
  cases h with
  | nil => exact .inl rfl
  | sl hm hl hk =>
    rename_i es
    right
    have : ∀ e : List IV, ∃ a : Ac, e ∈ es → e = rowA a ∧ Arg (.imm a.b) a.bs ∧ a.bs.length ≤ reachBytes := fun e => by
      by_cases he : e ∈ es
      · obtain ⟨i, hi⟩ := List.getElem?_of_mem he
        have h1 := hl e he
        match e, h1 with
        | [x, y, z, w, v], _ =>
          have a := hk i 0 _ _ x hi rfl rfl
          have b := hk i 1 _ _ y hi rfl rfl
          have c := hk i 2 _ _ z hi rfl rfl
          have d := hk i 3 _ _ w hi rfl rfl
          have f := hk i 4 _ _ v hi rfl rfl
          cases a; cases b; cases d; cases f
          rcases bytes_fit c with rfl | ⟨bs, rfl, hb⟩
          · exact ⟨⟨_, _, .nils, [], _, _⟩, fun _ => ⟨rfl, .nil, by simp⟩⟩
          · exact ⟨⟨_, _, .lst false 1 (bs.map rowOfByte), bs, _, _⟩, fun _ => ⟨rfl, .lst bs, hb⟩⟩
      · exact ⟨⟨0, 0, .nils, [], false, 0⟩, fun h => absurd h he⟩
    obtain ⟨f, hf⟩ := Classical.axiomOfChoice this
    refine ⟨es.map f, ?_, fun a ha => ?_, by simpa using hm⟩
    · congr 1
      rw [List.map_map]
      exact ((List.map_congr_left (fun e he => (hf e he).1.symm)).trans (List.map_id es)).symm
    · obtain ⟨e, he, rfl⟩ := List.mem_map.1 ha
      exact (hf e he).2

def small (as : List Ac) : Prop := ∀ (i : Nat) a, as[i]? = some a → i < 60 → a.bs.length ≤ 5000

def IL (as : List Ac) (i : Nat) (s : St) : Prop :=
  s.T.get 0 = some (.imm (.lst false 5 (as.map rowA))) ∧ s.T.get 4 = some (.imm (.int .i64 i)) ∧ (∃ m : Nat, s.T.get 3 = some (.imm (.int .i64 m)) ∧ m ≤ 5000) ∧ ∀ (j : Nat) a, as[j]? = some a → j < i → a.bs.length ≤ 5000

theorem roundL {as : List Ac} (has : ∀ a ∈ as, Arg (.imm a.b) a.bs ∧ a.bs.length ≤ reachBytes) (hl : as.length ≤ reachBytes) {i : Nat} {s : St} (h : IL as i s) (hi : i < as.length) (h60 : i < 60) :
    (∃ s', D.l9_0b.run noG (K noG 10) 0 ⟨keep s.T [0, 3, 4], keep s.L [], s.H, s.n⟩ = some (.ret, s') ∧ s'.T.get 2 = some (.imm (.bool true))) ∨
    ∃ s', D.l9_0b.run noG (K noG 10) 0 ⟨keep s.T [0, 3, 4], keep s.L [], s.H, s.n⟩ = some (.norm, s') ∧ IL as (i + 1) s' := by
  obtain ⟨h0, h4, ⟨m, h3, hm⟩, hj⟩ := h
  have hi' : (i : Int) < as.length := by omega
  have hi60 : (i : Int) < 60 := by omega
  have ha : as[i]? = some as[i] := List.getElem?_eq_getElem hi
  have haa := has as[i] (List.getElem_mem hi)
  generalize hae : as[i] = a at ha haa
  have ln := (haa.1.src .lf).len
  have hbm := haa.2
  have hmx : reachBytes ≤ 2 ^ 50 := by decide
  have w1 : IntKind.i64.wrap ((m : Int) + 1) = (m : Int) + 1 := wr_id (by omega) (by omega)
  have w2 : IntKind.i64.wrap ((m : Int) + 1 + a.bs.length) = (m : Int) + 1 + a.bs.length := wr_id (by omega) (by omega)
  have w3 : IntKind.i64.wrap ((i : Int) + 1) = (i : Int) + 1 := wr_id (by omega) (by omega)
  by_cases hb : (5000 : Int) < (m : Int) + 1 + a.bs.length
  · left
    simp only [D.l9_0b, keep, run_seq, run_cond, run_block, run_reg, run_reg0, run_drw, run_skip, run_ret, run_exit, then_norm, then_ret, then_exit, cd_true, cd_false, block_norm, block_ret, block_exit, reg_nil, reg_cons, ops_nil, ops_cons, opsThen_nil, opsThen_cons, calm_some, res_norm, res_ret, fnEnd, argsT, opRun, PT.get_put, dstep, ev, evs, evO, give, giveI, binOf, isNilK, np_nilp, np_ptr, np_lref, np_cref, ns_nils, ns_lst, ns_sl, nf_nilf, nf_fnc, ni_nili, ni_iface, PM.flip, putT, putL, putH, binInt, callM, loadOf, storeOf, cut, over, ofCells, asNat, natOr, calm, clashes, Acc.clash, ressOf, resOf, out_agg, out_tup, out_fnc, outs_nil, outs_cons, len_nils, len_lst, len_sl, scal_fnc, frz, frz.frzs, snap, snap.snaps, DV.pure, DV.pure.pures, DV.flat, DV.flat.flats, unOf, binStr, ansT, out_imm, out_ptr, out_sl, cells_imm, cells_ptr, cells_sl, cells_agg, scal_int, scal_bool, scal_str, scal_nils, scal_nilp, scal_lst, scal_ptr, scal_sl, Option.map, List.length_cons, List.length_nil, reduceIte, Nat.reduceEqDiff, Nat.reduceAdd]
    simp [h0, h3, h4, hi', hi, hi60, h60, ha, hae, rowA, imms, ln, w1, w2, hb, run_seq, run_cond, run_block, run_reg, run_reg0, run_drw, run_skip, run_ret, run_exit, then_norm, then_ret, then_exit, cd_true, cd_false, block_norm, block_ret, block_exit, reg_nil, reg_cons, ops_nil, ops_cons, opsThen_nil, opsThen_cons, calm_some, res_norm, res_ret, fnEnd, argsT, opRun, PT.get_put, dstep, ev, evs, evO, give, giveI, binOf, isNilK, np_nilp, np_ptr, np_lref, np_cref, ns_nils, ns_lst, ns_sl, nf_nilf, nf_fnc, ni_nili, ni_iface, PM.flip, putT, putL, putH, binInt, callM, loadOf, storeOf, cut, over, ofCells, asNat, natOr, calm, clashes, Acc.clash, ressOf, resOf, out_agg, out_tup, out_fnc, outs_nil, outs_cons, len_nils, len_lst, len_sl, scal_fnc, frz, frz.frzs, snap, snap.snaps, DV.pure, DV.pure.pures, DV.flat, DV.flat.flats, unOf, binStr, ansT, out_imm, out_ptr, out_sl, cells_imm, cells_ptr, cells_sl, cells_agg, scal_int, scal_bool, scal_str, scal_nils, scal_nilp, scal_lst, scal_ptr, scal_sl, Option.map, List.length_cons, List.length_nil, reduceIte, Nat.reduceEqDiff, Nat.reduceAdd]
  · right
    simp only [D.l9_0b, keep, run_seq, run_cond, run_block, run_reg, run_reg0, run_drw, run_skip, run_ret, run_exit, then_norm, then_ret, then_exit, cd_true, cd_false, block_norm, block_ret, block_exit, reg_nil, reg_cons, ops_nil, ops_cons, opsThen_nil, opsThen_cons, calm_some, res_norm, res_ret, fnEnd, argsT, opRun, PT.get_put, dstep, ev, evs, evO, give, giveI, binOf, isNilK, np_nilp, np_ptr, np_lref, np_cref, ns_nils, ns_lst, ns_sl, nf_nilf, nf_fnc, ni_nili, ni_iface, PM.flip, putT, putL, putH, binInt, callM, loadOf, storeOf, cut, over, ofCells, asNat, natOr, calm, clashes, Acc.clash, ressOf, resOf, out_agg, out_tup, out_fnc, outs_nil, outs_cons, len_nils, len_lst, len_sl, scal_fnc, frz, frz.frzs, snap, snap.snaps, DV.pure, DV.pure.pures, DV.flat, DV.flat.flats, unOf, binStr, ansT, out_imm, out_ptr, out_sl, cells_imm, cells_ptr, cells_sl, cells_agg, scal_int, scal_bool, scal_str, scal_nils, scal_nilp, scal_lst, scal_ptr, scal_sl, Option.map, List.length_cons, List.length_nil, reduceIte, Nat.reduceEqDiff, Nat.reduceAdd]
    simp [h0, h3, h4, hi', hi, hi60, h60, ha, hae, rowA, imms, ln, w1, w2, w3, hb, run_seq, run_cond, run_block, run_reg, run_reg0, run_drw, run_skip, run_ret, run_exit, then_norm, then_ret, then_exit, cd_true, cd_false, block_norm, block_ret, block_exit, reg_nil, reg_cons, ops_nil, ops_cons, opsThen_nil, opsThen_cons, calm_some, res_norm, res_ret, fnEnd, argsT, opRun, PT.get_put, dstep, ev, evs, evO, give, giveI, binOf, isNilK, np_nilp, np_ptr, np_lref, np_cref, ns_nils, ns_lst, ns_sl, nf_nilf, nf_fnc, ni_nili, ni_iface, PM.flip, putT, putL, putH, binInt, callM, loadOf, storeOf, cut, over, ofCells, asNat, natOr, calm, clashes, Acc.clash, ressOf, resOf, out_agg, out_tup, out_fnc, outs_nil, outs_cons, len_nils, len_lst, len_sl, scal_fnc, frz, frz.frzs, snap, snap.snaps, DV.pure, DV.pure.pures, DV.flat, DV.flat.flats, unOf, binStr, ansT, out_imm, out_ptr, out_sl, cells_imm, cells_ptr, cells_sl, cells_agg, scal_int, scal_bool, scal_str, scal_nils, scal_nilp, scal_lst, scal_ptr, scal_sl, Option.map, List.length_cons, List.length_nil, reduceIte, Nat.reduceEqDiff, Nat.reduceAdd]
    refine ⟨?_, ?_, ⟨m + 1 + a.bs.length, ?_, by omega⟩, fun j b hjb hji => ?_⟩
    · simp [PT.get_put, h0, rowA]
    · simp [PT.get_put]
    · simp [PT.get_put]
    · by_cases e : j = i
      · subst e
        rw [ha] at hjb; cases hjb; omega
      · exact hj j b hjb (by omega)

theorem hLOOP {n : Nat} (h : n ≤ reachBytes) : n < LOOP := by
  have : reachBytes ≤ 2 ^ 50 := by decide
  unfold LOOP
  omega

theorem long_eq {iv : IV} {as : List Ac} (hv : (iv = .nils ∧ as = []) ∨ (iv = .lst false 5 (as.map rowA) ∧ (∀ a ∈ as, Arg (.imm a.b) a.bs ∧ a.bs.length ≤ reachBytes) ∧ as.length ≤ reachBytes)) :
    ∃ b H' n', K noG 11 9 [.imm iv] .lf 0 0 = some (.imm (.bool b), H', n') ∧ (b = false → small as) := by
  rw [D.k9]
  rcases hv with ⟨rfl, rfl⟩ | ⟨rfl, has, hl⟩
  · obtain ⟨j, hL⟩ : ∃ j, LOOP = j + 1 := ⟨2 ^ 62 - 1, rfl⟩
    refine ⟨false, ?_⟩
    simp only [D.f9, D.l9_0, fn_run, run_loop, hL, run_seq, run_cond, run_block, run_reg, run_reg0, run_drw, run_skip, run_ret, run_exit, then_norm, then_ret, then_exit, cd_true, cd_false, block_norm, block_ret, block_exit, reg_nil, reg_cons, ops_nil, ops_cons, opsThen_nil, opsThen_cons, calm_some, res_norm, res_ret, fnEnd, argsT, opRun, PT.get_put, dstep, ev, evs, evO, give, giveI, binOf, isNilK, np_nilp, np_ptr, np_lref, np_cref, ns_nils, ns_lst, ns_sl, nf_nilf, nf_fnc, ni_nili, ni_iface, PM.flip, putT, putL, putH, binInt, callM, loadOf, storeOf, cut, over, ofCells, asNat, natOr, calm, clashes, Acc.clash, ressOf, resOf, out_agg, out_tup, out_fnc, outs_nil, outs_cons, len_nils, len_lst, len_sl, scal_fnc, frz, frz.frzs, snap, snap.snaps, DV.pure, DV.pure.pures, DV.flat, DV.flat.flats, unOf, binStr, ansT, out_imm, out_ptr, out_sl, cells_imm, cells_ptr, cells_sl, cells_agg, scal_int, scal_bool, scal_str, scal_nils, scal_nilp, scal_lst, scal_ptr, scal_sl, Option.map, List.length_cons, List.length_nil, reduceIte, Nat.reduceEqDiff, Nat.reduceAdd]
    simp [D.l9_0, D.l9_0b, run_loop, hL, iter, loopRun_eq, keep, small, run_seq, run_cond, run_block, run_reg, run_reg0, run_drw, run_skip, run_ret, run_exit, then_norm, then_ret, then_exit, cd_true, cd_false, block_norm, block_ret, block_exit, reg_nil, reg_cons, ops_nil, ops_cons, opsThen_nil, opsThen_cons, calm_some, res_norm, res_ret, fnEnd, argsT, opRun, PT.get_put, dstep, ev, evs, evO, give, giveI, binOf, isNilK, np_nilp, np_ptr, np_lref, np_cref, ns_nils, ns_lst, ns_sl, nf_nilf, nf_fnc, ni_nili, ni_iface, PM.flip, putT, putL, putH, binInt, callM, loadOf, storeOf, cut, over, ofCells, asNat, natOr, calm, clashes, Acc.clash, ressOf, resOf, out_agg, out_tup, out_fnc, outs_nil, outs_cons, len_nils, len_lst, len_sl, scal_fnc, frz, frz.frzs, snap, snap.snaps, DV.pure, DV.pure.pures, DV.flat, DV.flat.flats, unOf, binStr, ansT, out_imm, out_ptr, out_sl, cells_imm, cells_ptr, cells_sl, cells_agg, scal_int, scal_bool, scal_str, scal_nils, scal_nilp, scal_lst, scal_ptr, scal_sl, Option.map, List.length_cons, List.length_nil, reduceIte, Nat.reduceEqDiff, Nat.reduceAdd]
  · have loop : ∀ s, IL as 0 s → ∃ e s', D.l9_0.run noG (K noG 10) 0 s = some (e, s') ∧ ((e = .ret ∧ s'.T.get 2 = some (.imm (.bool true))) ∨ (e = .exit 0 ∧ small as)) := fun s hs => by
      obtain ⟨e, s', q1, q2, q3⟩ := iter_ind (f := loopRun noG (K noG 10) 0 [0, 3, 4] [] D.l9_0b) (fun m s => ∃ i : Nat, IL as i s ∧ m = as.length - i) (fun e s' => (e = .ret ∧ s'.T.get 2 = some (.imm (.bool true))) ∨ (e = .exit 0 ∧ small as))
        (fun m s ⟨i, hI, hm⟩ => by
          by_cases hi : i < as.length
          · by_cases h60 : i < 60
            · rcases roundL has hl hI hi h60 with ⟨s', e1, e2⟩ | ⟨s', e1, e2⟩
              · exact .inr ⟨.ret, s', e1, by simp, .inl ⟨rfl, e2⟩⟩
              · exact .inl ⟨s', _, e1, by omega, i + 1, e2, rfl⟩
            · obtain ⟨h0, h4, ⟨m, h3, hm⟩, hj⟩ := hI
              have hi' : (i : Int) < as.length := by omega
              have hi60 : ¬ (i : Int) < 60 := by omega
              refine .inr ⟨.exit 0, ?_⟩
              simp only [loopRun_eq, D.l9_0b, keep, run_seq, run_cond, run_block, run_reg, run_reg0, run_drw, run_skip, run_ret, run_exit, then_norm, then_ret, then_exit, cd_true, cd_false, block_norm, block_ret, block_exit, reg_nil, reg_cons, ops_nil, ops_cons, opsThen_nil, opsThen_cons, calm_some, res_norm, res_ret, fnEnd, argsT, opRun, PT.get_put, dstep, ev, evs, evO, give, giveI, binOf, isNilK, np_nilp, np_ptr, np_lref, np_cref, ns_nils, ns_lst, ns_sl, nf_nilf, nf_fnc, ni_nili, ni_iface, PM.flip, putT, putL, putH, binInt, callM, loadOf, storeOf, cut, over, ofCells, asNat, natOr, calm, clashes, Acc.clash, ressOf, resOf, out_agg, out_tup, out_fnc, outs_nil, outs_cons, len_nils, len_lst, len_sl, scal_fnc, frz, frz.frzs, snap, snap.snaps, DV.pure, DV.pure.pures, DV.flat, DV.flat.flats, unOf, binStr, ansT, out_imm, out_ptr, out_sl, cells_imm, cells_ptr, cells_sl, cells_agg, scal_int, scal_bool, scal_str, scal_nils, scal_nilp, scal_lst, scal_ptr, scal_sl, Option.map, List.length_cons, List.length_nil, reduceIte, Nat.reduceEqDiff, Nat.reduceAdd]
              simp [h0, h3, h4, hi', hi, hi60, h60, run_seq, run_cond, run_block, run_reg, run_reg0, run_drw, run_skip, run_ret, run_exit, then_norm, then_ret, then_exit, cd_true, cd_false, block_norm, block_ret, block_exit, reg_nil, reg_cons, ops_nil, ops_cons, opsThen_nil, opsThen_cons, calm_some, res_norm, res_ret, fnEnd, argsT, opRun, PT.get_put, dstep, ev, evs, evO, give, giveI, binOf, isNilK, np_nilp, np_ptr, np_lref, np_cref, ns_nils, ns_lst, ns_sl, nf_nilf, nf_fnc, ni_nili, ni_iface, PM.flip, putT, putL, putH, binInt, callM, loadOf, storeOf, cut, over, ofCells, asNat, natOr, calm, clashes, Acc.clash, ressOf, resOf, out_agg, out_tup, out_fnc, outs_nil, outs_cons, len_nils, len_lst, len_sl, scal_fnc, frz, frz.frzs, snap, snap.snaps, DV.pure, DV.pure.pures, DV.flat, DV.flat.flats, unOf, binStr, ansT, out_imm, out_ptr, out_sl, cells_imm, cells_ptr, cells_sl, cells_agg, scal_int, scal_bool, scal_str, scal_nils, scal_nilp, scal_lst, scal_ptr, scal_sl, Option.map, List.length_cons, List.length_nil, reduceIte, Nat.reduceEqDiff, Nat.reduceAdd]
              exact fun j a hja hj60 => hj j a hja (by omega)
          · obtain ⟨h0, h4, ⟨m, h3, hm⟩, hj⟩ := hI
            have hi' : ¬ (i : Int) < as.length := by omega
            refine .inr ⟨.exit 0, ?_⟩
            simp only [loopRun_eq, D.l9_0b, keep, run_seq, run_cond, run_block, run_reg, run_reg0, run_drw, run_skip, run_ret, run_exit, then_norm, then_ret, then_exit, cd_true, cd_false, block_norm, block_ret, block_exit, reg_nil, reg_cons, ops_nil, ops_cons, opsThen_nil, opsThen_cons, calm_some, res_norm, res_ret, fnEnd, argsT, opRun, PT.get_put, dstep, ev, evs, evO, give, giveI, binOf, isNilK, np_nilp, np_ptr, np_lref, np_cref, ns_nils, ns_lst, ns_sl, nf_nilf, nf_fnc, ni_nili, ni_iface, PM.flip, putT, putL, putH, binInt, callM, loadOf, storeOf, cut, over, ofCells, asNat, natOr, calm, clashes, Acc.clash, ressOf, resOf, out_agg, out_tup, out_fnc, outs_nil, outs_cons, len_nils, len_lst, len_sl, scal_fnc, frz, frz.frzs, snap, snap.snaps, DV.pure, DV.pure.pures, DV.flat, DV.flat.flats, unOf, binStr, ansT, out_imm, out_ptr, out_sl, cells_imm, cells_ptr, cells_sl, cells_agg, scal_int, scal_bool, scal_str, scal_nils, scal_nilp, scal_lst, scal_ptr, scal_sl, Option.map, List.length_cons, List.length_nil, reduceIte, Nat.reduceEqDiff, Nat.reduceAdd]
            simp [h0, h3, h4, hi', hi, run_seq, run_cond, run_block, run_reg, run_reg0, run_drw, run_skip, run_ret, run_exit, then_norm, then_ret, then_exit, cd_true, cd_false, block_norm, block_ret, block_exit, reg_nil, reg_cons, ops_nil, ops_cons, opsThen_nil, opsThen_cons, calm_some, res_norm, res_ret, fnEnd, argsT, opRun, PT.get_put, dstep, ev, evs, evO, give, giveI, binOf, isNilK, np_nilp, np_ptr, np_lref, np_cref, ns_nils, ns_lst, ns_sl, nf_nilf, nf_fnc, ni_nili, ni_iface, PM.flip, putT, putL, putH, binInt, callM, loadOf, storeOf, cut, over, ofCells, asNat, natOr, calm, clashes, Acc.clash, ressOf, resOf, out_agg, out_tup, out_fnc, outs_nil, outs_cons, len_nils, len_lst, len_sl, scal_fnc, frz, frz.frzs, snap, snap.snaps, DV.pure, DV.pure.pures, DV.flat, DV.flat.flats, unOf, binStr, ansT, out_imm, out_ptr, out_sl, cells_imm, cells_ptr, cells_sl, cells_agg, scal_int, scal_bool, scal_str, scal_nils, scal_nilp, scal_lst, scal_ptr, scal_sl, Option.map, List.length_cons, List.length_nil, reduceIte, Nat.reduceEqDiff, Nat.reduceAdd]
            exact fun j a hja hj60 => hj j a hja (by have := (List.getElem?_eq_some_iff.1 hja).1; omega)) as.length LOOP s ⟨0, hs, by omega⟩ (hLOOP hl)
      exact ⟨e, s', q1, q3⟩
    simp only [D.f9, fn_run, run_seq, run_cond, run_block, run_reg, run_reg0, run_drw, run_skip, run_ret, run_exit, then_norm, then_ret, then_exit, cd_true, cd_false, block_norm, block_ret, block_exit, reg_nil, reg_cons, ops_nil, ops_cons, opsThen_nil, opsThen_cons, calm_some, res_norm, res_ret, fnEnd, argsT, opRun, PT.get_put, dstep, ev, evs, evO, give, giveI, binOf, isNilK, np_nilp, np_ptr, np_lref, np_cref, ns_nils, ns_lst, ns_sl, nf_nilf, nf_fnc, ni_nili, ni_iface, PM.flip, putT, putL, putH, binInt, callM, loadOf, storeOf, cut, over, ofCells, asNat, natOr, calm, clashes, Acc.clash, ressOf, resOf, out_agg, out_tup, out_fnc, outs_nil, outs_cons, len_nils, len_lst, len_sl, scal_fnc, frz, frz.frzs, snap, snap.snaps, DV.pure, DV.pure.pures, DV.flat, DV.flat.flats, unOf, binStr, ansT, out_imm, out_ptr, out_sl, cells_imm, cells_ptr, cells_sl, cells_agg, scal_int, scal_bool, scal_str, scal_nils, scal_nilp, scal_lst, scal_ptr, scal_sl, Option.map, List.length_cons, List.length_nil, reduceIte, Nat.reduceEqDiff, Nat.reduceAdd]
    simp [run_seq, run_cond, run_block, run_reg, run_reg0, run_drw, run_skip, run_ret, run_exit, then_norm, then_ret, then_exit, cd_true, cd_false, block_norm, block_ret, block_exit, reg_nil, reg_cons, ops_nil, ops_cons, opsThen_nil, opsThen_cons, calm_some, res_norm, res_ret, fnEnd, argsT, opRun, PT.get_put, dstep, ev, evs, evO, give, giveI, binOf, isNilK, np_nilp, np_ptr, np_lref, np_cref, ns_nils, ns_lst, ns_sl, nf_nilf, nf_fnc, ni_nili, ni_iface, PM.flip, putT, putL, putH, binInt, callM, loadOf, storeOf, cut, over, ofCells, asNat, natOr, calm, clashes, Acc.clash, ressOf, resOf, out_agg, out_tup, out_fnc, outs_nil, outs_cons, len_nils, len_lst, len_sl, scal_fnc, frz, frz.frzs, snap, snap.snaps, DV.pure, DV.pure.pures, DV.flat, DV.flat.flats, unOf, binStr, ansT, out_imm, out_ptr, out_sl, cells_imm, cells_ptr, cells_sl, cells_agg, scal_int, scal_bool, scal_str, scal_nils, scal_nilp, scal_lst, scal_ptr, scal_sl, Option.map, List.length_cons, List.length_nil, reduceIte, Nat.reduceEqDiff, Nat.reduceAdd]
    generalize hrun : D.l9_0.run noG (K noG 10) 0 _ = r
    obtain ⟨e, s', rfl, h2⟩ : ∃ e s', r = some (e, s') ∧ ((e = .ret ∧ s'.T.get 2 = some (.imm (.bool true))) ∨ (e = .exit 0 ∧ small as)) := by
      rw [← hrun]
      refine loop _ ?_
      refine ⟨?_, ?_, ⟨0, ?_, by omega⟩, fun j a _ hj => by omega⟩ <;> simp [PT.get_put]
    clear hrun
    rcases h2 with ⟨rfl, h2⟩ | ⟨rfl, hs⟩
    · exact .inr (by simp [h2, run_seq, run_cond, run_block, run_reg, run_reg0, run_drw, run_skip, run_ret, run_exit, then_norm, then_ret, then_exit, cd_true, cd_false, block_norm, block_ret, block_exit, reg_nil, reg_cons, ops_nil, ops_cons, opsThen_nil, opsThen_cons, calm_some, res_norm, res_ret, fnEnd, argsT, opRun, PT.get_put, dstep, ev, evs, evO, give, giveI, binOf, isNilK, np_nilp, np_ptr, np_lref, np_cref, ns_nils, ns_lst, ns_sl, nf_nilf, nf_fnc, ni_nili, ni_iface, PM.flip, putT, putL, putH, binInt, callM, loadOf, storeOf, cut, over, ofCells, asNat, natOr, calm, clashes, Acc.clash, ressOf, resOf, out_agg, out_tup, out_fnc, outs_nil, outs_cons, len_nils, len_lst, len_sl, scal_fnc, frz, frz.frzs, snap, snap.snaps, DV.pure, DV.pure.pures, DV.flat, DV.flat.flats, unOf, binStr, ansT, out_imm, out_ptr, out_sl, cells_imm, cells_ptr, cells_sl, cells_agg, scal_int, scal_bool, scal_str, scal_nils, scal_nilp, scal_lst, scal_ptr, scal_sl, Option.map, List.length_cons, List.length_nil, reduceIte, Nat.reduceEqDiff, Nat.reduceAdd])
    · exact .inl ⟨by simp [run_seq, run_cond, run_block, run_reg, run_reg0, run_drw, run_skip, run_ret, run_exit, then_norm, then_ret, then_exit, cd_true, cd_false, block_norm, block_ret, block_exit, reg_nil, reg_cons, ops_nil, ops_cons, opsThen_nil, opsThen_cons, calm_some, res_norm, res_ret, fnEnd, argsT, opRun, PT.get_put, dstep, ev, evs, evO, give, giveI, binOf, isNilK, np_nilp, np_ptr, np_lref, np_cref, ns_nils, ns_lst, ns_sl, nf_nilf, nf_fnc, ni_nili, ni_iface, PM.flip, putT, putL, putH, binInt, callM, loadOf, storeOf, cut, over, ofCells, asNat, natOr, calm, clashes, Acc.clash, ressOf, resOf, out_agg, out_tup, out_fnc, outs_nil, outs_cons, len_nils, len_lst, len_sl, scal_fnc, frz, frz.frzs, snap, snap.snaps, DV.pure, DV.pure.pures, DV.flat, DV.flat.flats, unOf, binStr, ansT, out_imm, out_ptr, out_sl, cells_imm, cells_ptr, cells_sl, cells_agg, scal_int, scal_bool, scal_str, scal_nils, scal_nilp, scal_lst, scal_ptr, scal_sl, Option.map, List.length_cons, List.length_nil, reduceIte, Nat.reduceEqDiff, Nat.reduceAdd], hs⟩
end Go.Proofs.Ytldinlipajjmoaa.D
