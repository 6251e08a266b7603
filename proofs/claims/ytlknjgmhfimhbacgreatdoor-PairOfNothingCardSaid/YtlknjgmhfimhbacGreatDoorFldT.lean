/-
  What the functions of package field do, over D.
-/
import Derived.Test.YtlknjgmhfimhbacGreatDoorFn
import Derived.Test.YtlknjgmhfimhbacGreatDoorT2
import Derived.KernelRfl
set_option linter.unusedVariables false
set_option linter.unusedSimpArgs false
set_option maxHeartbeats 8000000
namespace Go.Proofs.YtlknjgmhfimhbacGreatDoor.D
open Go Go.PM

structure FPt where
  l : Int
  t : Int
  s : Int
def rowI (d : Int) : List DV := [.imm (.int .i64 d)]
def rowBo (b : Bool) : List DV := [.imm (.bool b)]
def rowP (p : FPt) : List DV := [.imm (.int .i64 p.l), .imm (.int .i64 p.t), .imm (.int .i64 p.s)]
def drivenP (p : FPt) (d : Int) : FPt :=
  if d = 0 ∨ d = p.l then ⟨p.l, 0, 0⟩ else
  if 3 ≤ IntKind.i64.wrap ((if d = p.t then p.s else 0) + 1) then ⟨d, 0, 0⟩ else ⟨0, d, IntKind.i64.wrap ((if d = p.t then p.s else 0) + 1)⟩

theorem bf {a b : Int} (h : ¬ a = b) : (a == b) = false := by simpa using h
theorem bn {a b : Int} (h : ¬ a = b) : (a != b) = true := by simpa using h
theorem driven_eq (G : Nat → Option (List IV)) (d : Nat) (p : FPt) (x : Int) : ∃ n', K G (d + 1) 126 [.agg (rowP p), .imm (.int .i64 x)] .lf 0 0 = some (.agg (rowP (drivenP p x)), .lf, n') := by
  rw [D.k126]
  by_cases h0 : x = 0
  · have e : drivenP p x = ⟨p.l, 0, 0⟩ := by unfold drivenP; rw [if_pos (.inl h0)]
    rw [e]
    simp only [D.f126, rowP, fn_run, run_seq, run_cond, run_block, run_reg, run_reg0, run_drw, run_skip, run_ret, run_exit, then_norm, then_ret, then_exit, cd_true, cd_false, block_norm, block_ret, block_exit, reg_nil, reg_cons, ops_nil, ops_cons, opsThen_nil, opsThen_cons, calm_some, res_norm, res_ret, fnEnd, argsT, opRun, PT.get_put, dstep, ev, evs, evO, give, giveI, binOf, isNilK, np_nilp, np_ptr, np_lref, np_cref, ns_nils, ns_lst, ns_sl, nf_nilf, nf_fnc, ni_nili, ni_iface, PM.flip, putT, putL, putH, binInt, callM, loadOf, storeOf, cut, over, ofCells, asNat, natOr, calm, clashes, Acc.clash, ressOf, resOf, out_agg, out_tup, out_fnc, outs_nil, outs_cons, len_nils, len_lst, len_sl, scal_fnc, frz, frz.frzs, snap, snap.snaps, DV.pure, DV.pure.pures, DV.flat, DV.flat.flats, unOf, binStr, ansT, out_imm, out_ptr, out_sl, cells_imm, cells_ptr, cells_sl, cells_agg, scal_int, scal_bool, scal_str, scal_nils, scal_nilp, scal_lst, scal_ptr, scal_sl, Option.map, List.length_cons, List.length_nil, reduceIte, Nat.reduceEqDiff, Nat.reduceAdd]
    simp [h0, evParts, lay, imms, run_seq, run_cond, run_block, run_reg, run_reg0, run_drw, run_skip, run_ret, run_exit, then_norm, then_ret, then_exit, cd_true, cd_false, block_norm, block_ret, block_exit, reg_nil, reg_cons, ops_nil, ops_cons, opsThen_nil, opsThen_cons, calm_some, res_norm, res_ret, fnEnd, argsT, opRun, PT.get_put, dstep, ev, evs, evO, give, giveI, binOf, isNilK, np_nilp, np_ptr, np_lref, np_cref, ns_nils, ns_lst, ns_sl, nf_nilf, nf_fnc, ni_nili, ni_iface, PM.flip, putT, putL, putH, binInt, callM, loadOf, storeOf, cut, over, ofCells, asNat, natOr, calm, clashes, Acc.clash, ressOf, resOf, out_agg, out_tup, out_fnc, outs_nil, outs_cons, len_nils, len_lst, len_sl, scal_fnc, frz, frz.frzs, snap, snap.snaps, DV.pure, DV.pure.pures, DV.flat, DV.flat.flats, unOf, binStr, ansT, out_imm, out_ptr, out_sl, cells_imm, cells_ptr, cells_sl, cells_agg, scal_int, scal_bool, scal_str, scal_nils, scal_nilp, scal_lst, scal_ptr, scal_sl, Option.map, List.length_cons, List.length_nil, reduceIte, Nat.reduceEqDiff, Nat.reduceAdd]
  by_cases h1 : x = p.l
  · have e : drivenP p x = ⟨p.l, 0, 0⟩ := by unfold drivenP; rw [if_pos (.inr h1)]
    rw [e]
    have h0' : ¬ p.l = 0 := h1 ▸ h0
    simp only [D.f126, rowP, fn_run, run_seq, run_cond, run_block, run_reg, run_reg0, run_drw, run_skip, run_ret, run_exit, then_norm, then_ret, then_exit, cd_true, cd_false, block_norm, block_ret, block_exit, reg_nil, reg_cons, ops_nil, ops_cons, opsThen_nil, opsThen_cons, calm_some, res_norm, res_ret, fnEnd, argsT, opRun, PT.get_put, dstep, ev, evs, evO, give, giveI, binOf, isNilK, np_nilp, np_ptr, np_lref, np_cref, ns_nils, ns_lst, ns_sl, nf_nilf, nf_fnc, ni_nili, ni_iface, PM.flip, putT, putL, putH, binInt, callM, loadOf, storeOf, cut, over, ofCells, asNat, natOr, calm, clashes, Acc.clash, ressOf, resOf, out_agg, out_tup, out_fnc, outs_nil, outs_cons, len_nils, len_lst, len_sl, scal_fnc, frz, frz.frzs, snap, snap.snaps, DV.pure, DV.pure.pures, DV.flat, DV.flat.flats, unOf, binStr, ansT, out_imm, out_ptr, out_sl, cells_imm, cells_ptr, cells_sl, cells_agg, scal_int, scal_bool, scal_str, scal_nils, scal_nilp, scal_lst, scal_ptr, scal_sl, Option.map, List.length_cons, List.length_nil, reduceIte, Nat.reduceEqDiff, Nat.reduceAdd]
    simp [bf h0', h1, evParts, lay, imms, run_seq, run_cond, run_block, run_reg, run_reg0, run_drw, run_skip, run_ret, run_exit, then_norm, then_ret, then_exit, cd_true, cd_false, block_norm, block_ret, block_exit, reg_nil, reg_cons, ops_nil, ops_cons, opsThen_nil, opsThen_cons, calm_some, res_norm, res_ret, fnEnd, argsT, opRun, PT.get_put, dstep, ev, evs, evO, give, giveI, binOf, isNilK, np_nilp, np_ptr, np_lref, np_cref, ns_nils, ns_lst, ns_sl, nf_nilf, nf_fnc, ni_nili, ni_iface, PM.flip, putT, putL, putH, binInt, callM, loadOf, storeOf, cut, over, ofCells, asNat, natOr, calm, clashes, Acc.clash, ressOf, resOf, out_agg, out_tup, out_fnc, outs_nil, outs_cons, len_nils, len_lst, len_sl, scal_fnc, frz, frz.frzs, snap, snap.snaps, DV.pure, DV.pure.pures, DV.flat, DV.flat.flats, unOf, binStr, ansT, out_imm, out_ptr, out_sl, cells_imm, cells_ptr, cells_sl, cells_agg, scal_int, scal_bool, scal_str, scal_nils, scal_nilp, scal_lst, scal_ptr, scal_sl, Option.map, List.length_cons, List.length_nil, reduceIte, Nat.reduceEqDiff, Nat.reduceAdd]
  have hn : ¬ (x = 0 ∨ x = p.l) := fun h => h.elim h0 h1
  by_cases h2 : x = p.t
  · by_cases h3 : 3 ≤ IntKind.i64.wrap (p.s + 1)
    · have e : drivenP p x = ⟨x, 0, 0⟩ := by unfold drivenP; rw [if_neg hn, if_pos h2, if_pos h3]
      rw [e]
      simp only [D.f126, rowP, fn_run, run_seq, run_cond, run_block, run_reg, run_reg0, run_drw, run_skip, run_ret, run_exit, then_norm, then_ret, then_exit, cd_true, cd_false, block_norm, block_ret, block_exit, reg_nil, reg_cons, ops_nil, ops_cons, opsThen_nil, opsThen_cons, calm_some, res_norm, res_ret, fnEnd, argsT, opRun, PT.get_put, dstep, ev, evs, evO, give, giveI, binOf, isNilK, np_nilp, np_ptr, np_lref, np_cref, ns_nils, ns_lst, ns_sl, nf_nilf, nf_fnc, ni_nili, ni_iface, PM.flip, putT, putL, putH, binInt, callM, loadOf, storeOf, cut, over, ofCells, asNat, natOr, calm, clashes, Acc.clash, ressOf, resOf, out_agg, out_tup, out_fnc, outs_nil, outs_cons, len_nils, len_lst, len_sl, scal_fnc, frz, frz.frzs, snap, snap.snaps, DV.pure, DV.pure.pures, DV.flat, DV.flat.flats, unOf, binStr, ansT, out_imm, out_ptr, out_sl, cells_imm, cells_ptr, cells_sl, cells_agg, scal_int, scal_bool, scal_str, scal_nils, scal_nilp, scal_lst, scal_ptr, scal_sl, Option.map, List.length_cons, List.length_nil, reduceIte, Nat.reduceEqDiff, Nat.reduceAdd]
      subst h2
      simp [bf h0, bf h1, h3, evParts, lay, imms, run_seq, run_cond, run_block, run_reg, run_reg0, run_drw, run_skip, run_ret, run_exit, then_norm, then_ret, then_exit, cd_true, cd_false, block_norm, block_ret, block_exit, reg_nil, reg_cons, ops_nil, ops_cons, opsThen_nil, opsThen_cons, calm_some, res_norm, res_ret, fnEnd, argsT, opRun, PT.get_put, dstep, ev, evs, evO, give, giveI, binOf, isNilK, np_nilp, np_ptr, np_lref, np_cref, ns_nils, ns_lst, ns_sl, nf_nilf, nf_fnc, ni_nili, ni_iface, PM.flip, putT, putL, putH, binInt, callM, loadOf, storeOf, cut, over, ofCells, asNat, natOr, calm, clashes, Acc.clash, ressOf, resOf, out_agg, out_tup, out_fnc, outs_nil, outs_cons, len_nils, len_lst, len_sl, scal_fnc, frz, frz.frzs, snap, snap.snaps, DV.pure, DV.pure.pures, DV.flat, DV.flat.flats, unOf, binStr, ansT, out_imm, out_ptr, out_sl, cells_imm, cells_ptr, cells_sl, cells_agg, scal_int, scal_bool, scal_str, scal_nils, scal_nilp, scal_lst, scal_ptr, scal_sl, Option.map, List.length_cons, List.length_nil, reduceIte, Nat.reduceEqDiff, Nat.reduceAdd]
    · have e : drivenP p x = ⟨0, x, IntKind.i64.wrap (p.s + 1)⟩ := by unfold drivenP; rw [if_neg hn, if_pos h2, if_neg h3]
      rw [e]
      simp only [D.f126, rowP, fn_run, run_seq, run_cond, run_block, run_reg, run_reg0, run_drw, run_skip, run_ret, run_exit, then_norm, then_ret, then_exit, cd_true, cd_false, block_norm, block_ret, block_exit, reg_nil, reg_cons, ops_nil, ops_cons, opsThen_nil, opsThen_cons, calm_some, res_norm, res_ret, fnEnd, argsT, opRun, PT.get_put, dstep, ev, evs, evO, give, giveI, binOf, isNilK, np_nilp, np_ptr, np_lref, np_cref, ns_nils, ns_lst, ns_sl, nf_nilf, nf_fnc, ni_nili, ni_iface, PM.flip, putT, putL, putH, binInt, callM, loadOf, storeOf, cut, over, ofCells, asNat, natOr, calm, clashes, Acc.clash, ressOf, resOf, out_agg, out_tup, out_fnc, outs_nil, outs_cons, len_nils, len_lst, len_sl, scal_fnc, frz, frz.frzs, snap, snap.snaps, DV.pure, DV.pure.pures, DV.flat, DV.flat.flats, unOf, binStr, ansT, out_imm, out_ptr, out_sl, cells_imm, cells_ptr, cells_sl, cells_agg, scal_int, scal_bool, scal_str, scal_nils, scal_nilp, scal_lst, scal_ptr, scal_sl, Option.map, List.length_cons, List.length_nil, reduceIte, Nat.reduceEqDiff, Nat.reduceAdd]
      subst h2
      simp [bf h0, bf h1, h3, evParts, lay, imms, run_seq, run_cond, run_block, run_reg, run_reg0, run_drw, run_skip, run_ret, run_exit, then_norm, then_ret, then_exit, cd_true, cd_false, block_norm, block_ret, block_exit, reg_nil, reg_cons, ops_nil, ops_cons, opsThen_nil, opsThen_cons, calm_some, res_norm, res_ret, fnEnd, argsT, opRun, PT.get_put, dstep, ev, evs, evO, give, giveI, binOf, isNilK, np_nilp, np_ptr, np_lref, np_cref, ns_nils, ns_lst, ns_sl, nf_nilf, nf_fnc, ni_nili, ni_iface, PM.flip, putT, putL, putH, binInt, callM, loadOf, storeOf, cut, over, ofCells, asNat, natOr, calm, clashes, Acc.clash, ressOf, resOf, out_agg, out_tup, out_fnc, outs_nil, outs_cons, len_nils, len_lst, len_sl, scal_fnc, frz, frz.frzs, snap, snap.snaps, DV.pure, DV.pure.pures, DV.flat, DV.flat.flats, unOf, binStr, ansT, out_imm, out_ptr, out_sl, cells_imm, cells_ptr, cells_sl, cells_agg, scal_int, scal_bool, scal_str, scal_nils, scal_nilp, scal_lst, scal_ptr, scal_sl, Option.map, List.length_cons, List.length_nil, reduceIte, Nat.reduceEqDiff, Nat.reduceAdd]
  · have w1 : IntKind.i64.wrap (0 + 1) = 1 := by decide
    have w1' : IntKind.i64.wrap 1 = 1 := by decide
    have e : drivenP p x = ⟨0, x, 1⟩ := by unfold drivenP; rw [if_neg hn, if_neg h2, w1, if_neg (by decide)]
    rw [e]
    simp only [D.f126, rowP, fn_run, run_seq, run_cond, run_block, run_reg, run_reg0, run_drw, run_skip, run_ret, run_exit, then_norm, then_ret, then_exit, cd_true, cd_false, block_norm, block_ret, block_exit, reg_nil, reg_cons, ops_nil, ops_cons, opsThen_nil, opsThen_cons, calm_some, res_norm, res_ret, fnEnd, argsT, opRun, PT.get_put, dstep, ev, evs, evO, give, giveI, binOf, isNilK, np_nilp, np_ptr, np_lref, np_cref, ns_nils, ns_lst, ns_sl, nf_nilf, nf_fnc, ni_nili, ni_iface, PM.flip, putT, putL, putH, binInt, callM, loadOf, storeOf, cut, over, ofCells, asNat, natOr, calm, clashes, Acc.clash, ressOf, resOf, out_agg, out_tup, out_fnc, outs_nil, outs_cons, len_nils, len_lst, len_sl, scal_fnc, frz, frz.frzs, snap, snap.snaps, DV.pure, DV.pure.pures, DV.flat, DV.flat.flats, unOf, binStr, ansT, out_imm, out_ptr, out_sl, cells_imm, cells_ptr, cells_sl, cells_agg, scal_int, scal_bool, scal_str, scal_nils, scal_nilp, scal_lst, scal_ptr, scal_sl, Option.map, List.length_cons, List.length_nil, reduceIte, Nat.reduceEqDiff, Nat.reduceAdd]
    simp [bf h0, bf h1, bn h2, w1, w1', evParts, lay, imms, run_seq, run_cond, run_block, run_reg, run_reg0, run_drw, run_skip, run_ret, run_exit, then_norm, then_ret, then_exit, cd_true, cd_false, block_norm, block_ret, block_exit, reg_nil, reg_cons, ops_nil, ops_cons, opsThen_nil, opsThen_cons, calm_some, res_norm, res_ret, fnEnd, argsT, opRun, PT.get_put, dstep, ev, evs, evO, give, giveI, binOf, isNilK, np_nilp, np_ptr, np_lref, np_cref, ns_nils, ns_lst, ns_sl, nf_nilf, nf_fnc, ni_nili, ni_iface, PM.flip, putT, putL, putH, binInt, callM, loadOf, storeOf, cut, over, ofCells, asNat, natOr, calm, clashes, Acc.clash, ressOf, resOf, out_agg, out_tup, out_fnc, outs_nil, outs_cons, len_nils, len_lst, len_sl, scal_fnc, frz, frz.frzs, snap, snap.snaps, DV.pure, DV.pure.pures, DV.flat, DV.flat.flats, unOf, binStr, ansT, out_imm, out_ptr, out_sl, cells_imm, cells_ptr, cells_sl, cells_agg, scal_int, scal_bool, scal_str, scal_nils, scal_nilp, scal_lst, scal_ptr, scal_sl, Option.map, List.length_cons, List.length_nil, reduceIte, Nat.reduceEqDiff, Nat.reduceAdd]

/-- A slice's rows: none, or a block of its own. -/
inductive SlV (H : PT HB) (sz : Nat) : DV → List (List DV) → List Nat → Prop
  | nil : SlV H sz (.imm .nils) [] []
  | sl {id : Nat} {rows : List (List DV)} (h : H.get id = some ⟨sz, rows⟩) (h0 : rows ≠ []) : SlV H sz (.sl id 0 rows.length rows.length) rows [id]
theorem SlV.mono {H H' : PT HB} {sz : Nat} {v : DV} {rows : List (List DV)} {ids : List Nat} (h : SlV H sz v rows ids) (hf : ∀ i ∈ ids, H'.get i = H.get i) : SlV H' sz v rows ids := by
  cases h with
  | nil => exact .nil
  | sl h h0 => exact .sl (by rw [hf _ (by simp)]; exact h) h0
theorem SlV.len {H : PT HB} {sz : Nat} {v : DV} {rows : List (List DV)} {ids : List Nat} (h : SlV H sz v rows ids) : lenOf v = some rows.length := by cases h <;> rfl

/-- A field: its sections, its points. -/
def Fd (H : PT HB) (f : Nat) (own : List Nat) (occ : List Bool) (pts : List FPt) : Prop :=
  ∃ vo vp io ip, H.get f = some ⟨2, [[vo, vp]]⟩ ∧ SlV H 1 vo (occ.map rowBo) io ∧ SlV H 3 vp (pts.map rowP) ip ∧ own = io ++ ip ∧ (f :: own).Nodup
theorem Fd.mono {H H' : PT HB} {f : Nat} {own : List Nat} {occ : List Bool} {pts : List FPt} (h : Fd H f own occ pts) (hf : ∀ i ∈ f :: own, H'.get i = H.get i) : Fd H' f own occ pts := by
  obtain ⟨vo, vp, io, ip, h1, h2, h3, rfl, h5⟩ := h
  exact ⟨vo, vp, io, ip, by rw [hf f (by simp)]; exact h1, h2.mono (fun i hi => hf i (by simp [hi])), h3.mono (fun i hi => hf i (by simp [hi])), rfl, h5⟩

/-- Positions that are driven. -/
def stp (pts : List FPt) (ds : List Int) (i : Nat) : List FPt := pts.mapIdx fun j p => if j < i then (match ds[j]? with | some d => drivenP p d | none => p) else p
theorem stp_zero (pts : List FPt) (ds : List Int) : stp pts ds 0 = pts := by
  apply List.ext_getElem?
  intro j
  simp [stp, List.getElem?_mapIdx]
theorem stp_len (pts : List FPt) (ds : List Int) (i : Nat) : (stp pts ds i).length = pts.length := by simp [stp]
theorem stp_at (pts : List FPt) (ds : List Int) (i : Nat) : (stp pts ds i)[i]? = pts[i]? := by simp [stp, List.getElem?_mapIdx]
theorem stp_set (pts : List FPt) (ds : List Int) (i : Nat) (p : FPt) (x : Int) (hp : pts[i]? = some p) (hx : ds[i]? = some x) : (stp pts ds i).set i (drivenP p x) = stp pts ds (i + 1) := by
  apply List.ext_getElem?
  intro j
  have hi : i < pts.length := (List.getElem?_eq_some_iff.1 hp).1
  rw [List.getElem?_set]
  by_cases h : i = j
  · subst h
    have hq : pts[i] = p := by rw [List.getElem?_eq_getElem hi] at hp; exact Option.some.inj hp
    simp [stp, List.getElem?_mapIdx, hq, hx, hi]
  · rw [if_neg h]
    have : (j < i) ↔ (j < i + 1) := by omega
    simp [stp, List.getElem?_mapIdx, this]
theorem stp_skip (pts : List FPt) (ds : List Int) (i : Nat) (hx : ds[i]? = none) : stp pts ds i = stp pts ds (i + 1) := by
  apply List.ext_getElem?
  intro j
  by_cases h : i = j
  · subst h
    simp [stp, List.getElem?_mapIdx, hx]
  · have : (j < i) ↔ (j < i + 1) := by omega
    simp [stp, List.getElem?_mapIdx, this]

/-- What points are driven: a value, or a block. -/
inductive Drv (H : PT HB) : DV → List Int → List Nat → Prop
  | lst (full : Bool) (ds : List Int) : Drv H (.imm (.lst full 1 (ds.map fun d => [.int .i64 d]))) ds []
  | nil : Drv H (.imm .nils) [] []
  | sl {id : Nat} {ds : List Int} (h : H.get id = some ⟨1, ds.map rowI⟩) : Drv H (.sl id 0 ds.length ds.length) ds [id]
theorem Drv.len {H : PT HB} {v : DV} {ds : List Int} {ids : List Nat} (h : Drv H v ds ids) : lenOf v = some ds.length := by cases h <;> simp [lenOf]
theorem Drv.mono {H H' : PT HB} {v : DV} {ds : List Int} {ids : List Nat} (h : Drv H v ds ids) (hf : ∀ i ∈ ids, H'.get i = H.get i) : Drv H' v ds ids := by
  cases h with
  | lst full => exact .lst full _
  | nil => exact .nil
  | sl h => exact .sl (by rw [hf _ (by simp)]; exact h)

/-- The state of Step's loop. -/
def ISp (n0 : Nat) (H0 : PT HB) (f : Nat) (dv : DV) (ds : List Int) (ids : List Nat) (vo : DV) (ip : Nat) (pts : List FPt) (i : Nat) (s : St) : Prop :=
  s.T.get 0 = some (.ptr f 0 0) ∧ s.T.get 1 = some dv ∧ s.T.get 11 = some (.sl ip 0 pts.length pts.length) ∧ s.T.get 12 = some (.imm (.int .i64 pts.length)) ∧ s.T.get 13 = some (.imm (.int .i64 i)) ∧
  s.H.get f = some ⟨2, [[vo, .sl ip 0 pts.length pts.length]]⟩ ∧ s.H.get ip = some ⟨3, (stp pts ds i).map rowP⟩ ∧ (∀ j, j ≠ ip → s.H.get j = H0.get j) ∧ n0 ≤ s.n

theorem roundS (G : Nat → Option (List IV)) (d : Nat) {n0 : Nat} {H0 : PT HB} {f : Nat} {dv : DV} {ds : List Int} {ids : List Nat} (hd : Drv H0 dv ds ids) {vo : DV} {ip : Nat} {pts : List FPt} (hn : ip ∉ f :: ids) (hl : pts.length ≤ 1000) {i : Nat} {s : St}
    (h : ISp n0 H0 f dv ds ids vo ip pts i s) (hi : i < pts.length) :
    ∃ s', D.l55_0b.run G (K G (d + 1)) 0 ⟨keep s.T [0, 1, 11, 12, 13], keep s.L [], s.H, s.n⟩ = some (.norm, s') ∧ ISp n0 H0 f dv ds ids vo ip pts (i + 1) s' := by
  obtain ⟨h0, h1, h11, h12, h13, hf, hp, hj, hnn⟩ := h
  have hi' : (i : Int) < pts.length := by omega
  have hw : IntKind.i64.wrap ((i : Int) + 1) = (i : Int) + 1 := wr_id (by omega) (by omega)
  have hpi : pts[i]? = some pts[i] := List.getElem?_eq_getElem hi
  generalize pts[i] = p at hpi
  have hsi : (stp pts ds i)[i]? = some p := by rw [stp_at]; exact hpi
  have hri : ((stp pts ds i).map rowP)[i]? = some (rowP p) := by rw [List.getElem?_map, hsi]; rfl
  have hlen := hd.len
  have hfn : ¬ f = ip := fun e => hn (by simp [e])
  have hfn' : ¬ ip = f := fun e => hn (by simp [e])
  by_cases hx : i < ds.length
  · have hx' : (i : Int) < ds.length := by omega
    have hxi : ds[i]? = some ds[i] := List.getElem?_eq_getElem hx
    have hset := stp_set pts ds i p ds[i] hpi hxi
    generalize hxe : ds[i] = x at hxi hset
    obtain ⟨nd, hdr⟩ := driven_eq G d p x
    have hmap : ((stp pts ds i).map rowP).set i (rowP (drivenP p x)) = (stp pts ds (i + 1)).map rowP := by rw [← List.map_set, hset]
    simp only [rowP] at hdr
    have hmap' : ((stp pts ds i).map rowP).set i [.imm (.int .i64 (drivenP p x).l), .imm (.int .i64 (drivenP p x).t), .imm (.int .i64 (drivenP p x).s)] = (stp pts ds (i + 1)).map rowP := hmap
    cases hd with
    | lst full =>
      have hrow : (ds.map fun d => [IV.int IntKind.i64 d])[i]? = some [.int .i64 x] := by rw [List.getElem?_map, hxi]; rfl
      simp only [D.l55_0b, keep, run_seq, run_cond, run_block, run_reg, run_reg0, run_drw, run_skip, run_ret, run_exit, then_norm, then_ret, then_exit, cd_true, cd_false, block_norm, block_ret, block_exit, reg_nil, reg_cons, ops_nil, ops_cons, opsThen_nil, opsThen_cons, calm_some, res_norm, res_ret, fnEnd, argsT, opRun, PT.get_put, dstep, ev, evs, evO, give, giveI, binOf, isNilK, np_nilp, np_ptr, np_lref, np_cref, ns_nils, ns_lst, ns_sl, nf_nilf, nf_fnc, ni_nili, ni_iface, PM.flip, putT, putL, putH, binInt, callM, loadOf, storeOf, cut, over, ofCells, asNat, natOr, calm, clashes, Acc.clash, ressOf, resOf, out_agg, out_tup, out_fnc, outs_nil, outs_cons, len_nils, len_lst, len_sl, scal_fnc, frz, frz.frzs, snap, snap.snaps, DV.pure, DV.pure.pures, DV.flat, DV.flat.flats, unOf, binStr, ansT, out_imm, out_ptr, out_sl, cells_imm, cells_ptr, cells_sl, cells_agg, scal_int, scal_bool, scal_str, scal_nils, scal_nilp, scal_lst, scal_ptr, scal_sl, Option.map, List.length_cons, List.length_nil, reduceIte, Nat.reduceEqDiff, Nat.reduceAdd]
      simp [h0, h1, h11, h12, h13, hf, hp, hi', hi, hx', hx, hxi, hxe, hw, hlen, hsi, hdr, rowP, imms, run_seq, run_cond, run_block, run_reg, run_reg0, run_drw, run_skip, run_ret, run_exit, then_norm, then_ret, then_exit, cd_true, cd_false, block_norm, block_ret, block_exit, reg_nil, reg_cons, ops_nil, ops_cons, opsThen_nil, opsThen_cons, calm_some, res_norm, res_ret, fnEnd, argsT, opRun, PT.get_put, dstep, ev, evs, evO, give, giveI, binOf, isNilK, np_nilp, np_ptr, np_lref, np_cref, ns_nils, ns_lst, ns_sl, nf_nilf, nf_fnc, ni_nili, ni_iface, PM.flip, putT, putL, putH, binInt, callM, loadOf, storeOf, cut, over, ofCells, asNat, natOr, calm, clashes, Acc.clash, ressOf, resOf, out_agg, out_tup, out_fnc, outs_nil, outs_cons, len_nils, len_lst, len_sl, scal_fnc, frz, frz.frzs, snap, snap.snaps, DV.pure, DV.pure.pures, DV.flat, DV.flat.flats, unOf, binStr, ansT, out_imm, out_ptr, out_sl, cells_imm, cells_ptr, cells_sl, cells_agg, scal_int, scal_bool, scal_str, scal_nils, scal_nilp, scal_lst, scal_ptr, scal_sl, Option.map, List.length_cons, List.length_nil, reduceIte, Nat.reduceEqDiff, Nat.reduceAdd]
      simp only [ISp, PT.get_put]
      simp [h0, h1, h11, h12, hf, hp, hfn, hfn']
      exact ⟨hmap', fun j hj1 => by rw [if_neg hj1]; exact hj j hj1, by omega⟩
    | nil => simp at hx
    | sl h =>
      rename_i id
      have hid : ¬ id = ip := fun e => hn (by simp [e])
      have hid' : ¬ ip = id := fun e => hn (by simp [e])
      have hh : s.H.get id = some ⟨1, ds.map rowI⟩ := by rw [hj id hid]; exact h
      simp only [D.l55_0b, keep, run_seq, run_cond, run_block, run_reg, run_reg0, run_drw, run_skip, run_ret, run_exit, then_norm, then_ret, then_exit, cd_true, cd_false, block_norm, block_ret, block_exit, reg_nil, reg_cons, ops_nil, ops_cons, opsThen_nil, opsThen_cons, calm_some, res_norm, res_ret, fnEnd, argsT, opRun, PT.get_put, dstep, ev, evs, evO, give, giveI, binOf, isNilK, np_nilp, np_ptr, np_lref, np_cref, ns_nils, ns_lst, ns_sl, nf_nilf, nf_fnc, ni_nili, ni_iface, PM.flip, putT, putL, putH, binInt, callM, loadOf, storeOf, cut, over, ofCells, asNat, natOr, calm, clashes, Acc.clash, ressOf, resOf, out_agg, out_tup, out_fnc, outs_nil, outs_cons, len_nils, len_lst, len_sl, scal_fnc, frz, frz.frzs, snap, snap.snaps, DV.pure, DV.pure.pures, DV.flat, DV.flat.flats, unOf, binStr, ansT, out_imm, out_ptr, out_sl, cells_imm, cells_ptr, cells_sl, cells_agg, scal_int, scal_bool, scal_str, scal_nils, scal_nilp, scal_lst, scal_ptr, scal_sl, Option.map, List.length_cons, List.length_nil, reduceIte, Nat.reduceEqDiff, Nat.reduceAdd]
      simp [h0, h1, h11, h12, h13, hf, hp, hh, hi', hi, hx', hx, hxi, hxe, hw, hlen, hsi, hdr, rowP, rowI, imms, run_seq, run_cond, run_block, run_reg, run_reg0, run_drw, run_skip, run_ret, run_exit, then_norm, then_ret, then_exit, cd_true, cd_false, block_norm, block_ret, block_exit, reg_nil, reg_cons, ops_nil, ops_cons, opsThen_nil, opsThen_cons, calm_some, res_norm, res_ret, fnEnd, argsT, opRun, PT.get_put, dstep, ev, evs, evO, give, giveI, binOf, isNilK, np_nilp, np_ptr, np_lref, np_cref, ns_nils, ns_lst, ns_sl, nf_nilf, nf_fnc, ni_nili, ni_iface, PM.flip, putT, putL, putH, binInt, callM, loadOf, storeOf, cut, over, ofCells, asNat, natOr, calm, clashes, Acc.clash, ressOf, resOf, out_agg, out_tup, out_fnc, outs_nil, outs_cons, len_nils, len_lst, len_sl, scal_fnc, frz, frz.frzs, snap, snap.snaps, DV.pure, DV.pure.pures, DV.flat, DV.flat.flats, unOf, binStr, ansT, out_imm, out_ptr, out_sl, cells_imm, cells_ptr, cells_sl, cells_agg, scal_int, scal_bool, scal_str, scal_nils, scal_nilp, scal_lst, scal_ptr, scal_sl, Option.map, List.length_cons, List.length_nil, reduceIte, Nat.reduceEqDiff, Nat.reduceAdd]
      simp only [ISp, PT.get_put]
      simp [h0, h1, h11, h12, hf, hp, hfn, hfn']
      exact ⟨hmap', fun j hj1 => by rw [if_neg hj1]; exact hj j hj1, by omega⟩
  · have hx' : ¬ (i : Int) < ds.length := by omega
    have hsk := stp_skip pts ds i (List.getElem?_eq_none (by omega))
    simp only [D.l55_0b, keep, run_seq, run_cond, run_block, run_reg, run_reg0, run_drw, run_skip, run_ret, run_exit, then_norm, then_ret, then_exit, cd_true, cd_false, block_norm, block_ret, block_exit, reg_nil, reg_cons, ops_nil, ops_cons, opsThen_nil, opsThen_cons, calm_some, res_norm, res_ret, fnEnd, argsT, opRun, PT.get_put, dstep, ev, evs, evO, give, giveI, binOf, isNilK, np_nilp, np_ptr, np_lref, np_cref, ns_nils, ns_lst, ns_sl, nf_nilf, nf_fnc, ni_nili, ni_iface, PM.flip, putT, putL, putH, binInt, callM, loadOf, storeOf, cut, over, ofCells, asNat, natOr, calm, clashes, Acc.clash, ressOf, resOf, out_agg, out_tup, out_fnc, outs_nil, outs_cons, len_nils, len_lst, len_sl, scal_fnc, frz, frz.frzs, snap, snap.snaps, DV.pure, DV.pure.pures, DV.flat, DV.flat.flats, unOf, binStr, ansT, out_imm, out_ptr, out_sl, cells_imm, cells_ptr, cells_sl, cells_agg, scal_int, scal_bool, scal_str, scal_nils, scal_nilp, scal_lst, scal_ptr, scal_sl, Option.map, List.length_cons, List.length_nil, reduceIte, Nat.reduceEqDiff, Nat.reduceAdd]
    simp [h0, h1, h11, h12, h13, hf, hp, hi', hi, hx', hx, hw, hlen, hsi, rowP, imms, run_seq, run_cond, run_block, run_reg, run_reg0, run_drw, run_skip, run_ret, run_exit, then_norm, then_ret, then_exit, cd_true, cd_false, block_norm, block_ret, block_exit, reg_nil, reg_cons, ops_nil, ops_cons, opsThen_nil, opsThen_cons, calm_some, res_norm, res_ret, fnEnd, argsT, opRun, PT.get_put, dstep, ev, evs, evO, give, giveI, binOf, isNilK, np_nilp, np_ptr, np_lref, np_cref, ns_nils, ns_lst, ns_sl, nf_nilf, nf_fnc, ni_nili, ni_iface, PM.flip, putT, putL, putH, binInt, callM, loadOf, storeOf, cut, over, ofCells, asNat, natOr, calm, clashes, Acc.clash, ressOf, resOf, out_agg, out_tup, out_fnc, outs_nil, outs_cons, len_nils, len_lst, len_sl, scal_fnc, frz, frz.frzs, snap, snap.snaps, DV.pure, DV.pure.pures, DV.flat, DV.flat.flats, unOf, binStr, ansT, out_imm, out_ptr, out_sl, cells_imm, cells_ptr, cells_sl, cells_agg, scal_int, scal_bool, scal_str, scal_nils, scal_nilp, scal_lst, scal_ptr, scal_sl, Option.map, List.length_cons, List.length_nil, reduceIte, Nat.reduceEqDiff, Nat.reduceAdd]
    simp only [ISp, PT.get_put]
    simp [h0, h1, h11, h12, hf, hp, ← hsk]
    exact ⟨hj, by omega⟩

/-! ### In -/
theorem frz_agg {h : Nat → Option HB} {lo : Nat} {cs : List DV} : frz h lo (.agg cs) = (frz.frzs h lo cs).map .agg := rfl
theorem mapO_frzS {h : Nat → Option HB} {lo d : Nat} : ∀ l : List IV, mapO (frzI h lo (d + 1)) (imms l) = some l
  | [] => rfl
  | x :: l => by
    have := mapO_frzS (h := h) (lo := lo) (d := d) l
    simp only [imms, List.map_cons, mapO, frzI] at this ⊢
    rw [this]
theorem mapO_frzT {h : Nat → Option HB} {lo d : Nat} : ∀ l : List (List IV), mapO (mapO (frzI h lo (d + 1))) (l.map imms) = some l
  | [] => rfl
  | x :: l => by simp only [List.map_cons, mapO, mapO_frzS, mapO_frzT l]
theorem frz_sl {h : Nat → Option HB} {lo id sz : Nat} {xs : List (List IV)} (hb : h id = some ⟨sz, xs.map imms⟩) (hlo : lo ≤ id) : frz h lo (.sl id 0 xs.length xs.length) = some (.imm (.lst false sz xs)) := by
  have ht : (xs.map imms).take xs.length = xs.map imms := List.take_of_length_le (by simp)
  have h1 : ¬ id < lo := by omega
  simp only [frz, if_neg h1, frzDepth, frzI, if_pos hlo, hb]
  simp [ht, mapO_frzT]
def ivB (b : Bool) : List IV := [.bool b]
theorem rowBo_eq (l : List Bool) : l.map rowBo = (l.map ivB).map imms := by simp [rowBo, ivB, imms, Function.comp_def]
theorem rowI_eq (l : List Int) : l.map rowI = (l.map ivI).map imms := by simp [rowI, ivI, imms, Function.comp_def]

theorem cloneB (G : Nat → Option (List IV)) (d : Nat) {id : Nat} {rows : List (List DV)} {H : PT HB} (hb : H.get id = some ⟨1, rows⟩) (h0 : rows ≠ []) (hl : rows.length ≤ 1000) (n lo : Nat) :
    K G (d + 1) 146 [.sl id 0 rows.length rows.length] H n lo = some (.sl n 0 rows.length rows.length, H.put n (some ⟨1, rows⟩), n + 1) := by
  have hm : rows.length ≤ appMax := by unfold appMax; omega
  have ht : rows.take rows.length = rows := List.take_of_length_le (Nat.le_refl _)
  rw [D.k146]
  simp only [D.f146, fn_run, run_seq, run_cond, run_block, run_reg, run_reg0, run_drw, run_skip, run_ret, run_exit, then_norm, then_ret, then_exit, cd_true, cd_false, block_norm, block_ret, block_exit, reg_nil, reg_cons, ops_nil, ops_cons, opsThen_nil, opsThen_cons, calm_some, res_norm, res_ret, fnEnd, argsT, opRun, PT.get_put, dstep, ev, evs, evO, give, giveI, binOf, isNilK, np_nilp, np_ptr, np_lref, np_cref, ns_nils, ns_lst, ns_sl, nf_nilf, nf_fnc, ni_nili, ni_iface, PM.flip, putT, putL, putH, binInt, callM, loadOf, storeOf, cut, over, ofCells, asNat, natOr, calm, clashes, Acc.clash, ressOf, resOf, out_agg, out_tup, out_fnc, outs_nil, outs_cons, len_nils, len_lst, len_sl, scal_fnc, frz, frz.frzs, snap, snap.snaps, DV.pure, DV.pure.pures, DV.flat, DV.flat.flats, unOf, binStr, ansT, out_imm, out_ptr, out_sl, cells_imm, cells_ptr, cells_sl, cells_agg, scal_int, scal_bool, scal_str, scal_nils, scal_nilp, scal_lst, scal_ptr, scal_sl, Option.map, List.length_cons, List.length_nil, reduceIte, Nat.reduceEqDiff, Nat.reduceAdd]
  simp [hb, h0, hm, ht, evParts2, appOf, srcOf, rowsOf, lay, rowsN, unImms, mapO, run_seq, run_cond, run_block, run_reg, run_reg0, run_drw, run_skip, run_ret, run_exit, then_norm, then_ret, then_exit, cd_true, cd_false, block_norm, block_ret, block_exit, reg_nil, reg_cons, ops_nil, ops_cons, opsThen_nil, opsThen_cons, calm_some, res_norm, res_ret, fnEnd, argsT, opRun, PT.get_put, dstep, ev, evs, evO, give, giveI, binOf, isNilK, np_nilp, np_ptr, np_lref, np_cref, ns_nils, ns_lst, ns_sl, nf_nilf, nf_fnc, ni_nili, ni_iface, PM.flip, putT, putL, putH, binInt, callM, loadOf, storeOf, cut, over, ofCells, asNat, natOr, calm, clashes, Acc.clash, ressOf, resOf, out_agg, out_tup, out_fnc, outs_nil, outs_cons, len_nils, len_lst, len_sl, scal_fnc, frz, frz.frzs, snap, snap.snaps, DV.pure, DV.pure.pures, DV.flat, DV.flat.flats, unOf, binStr, ansT, out_imm, out_ptr, out_sl, cells_imm, cells_ptr, cells_sl, cells_agg, scal_int, scal_bool, scal_str, scal_nils, scal_nilp, scal_lst, scal_ptr, scal_sl, Option.map, List.length_cons, List.length_nil, reduceIte, Nat.reduceEqDiff, Nat.reduceAdd]

/-- The state of In's loop. -/
def II (H0 : PT HB) (n0 o : Nat) (occ : List Bool) (vp : DV) (pts : List FPt) (i : Nat) (s : St) : Prop :=
  ∃ q2 q3 vl, s.T.get 2 = some (.lref 2 q2 0) ∧ s.T.get 3 = some (.lref 3 q3 0) ∧ s.T.get 18 = some vp ∧ s.T.get 19 = some (.imm (.int .i64 pts.length)) ∧ s.T.get 20 = some (.imm (.int .i64 i)) ∧
  s.L.get 2 = some (.box q2 [.imm .nils, .imm .nils]) ∧ s.L.get 3 = some (.box q3 [.sl o 0 occ.length occ.length, vl]) ∧ o < s.n ∧ s.H.get o = some ⟨1, occ.map rowBo⟩ ∧ (∀ j, j < n0 → s.H.get j = H0.get j) ∧
  ((i = 0 ∧ vl = .imm .nils) ∨ (0 < i ∧ ∃ b, vl = .sl b 0 i i ∧ s.H.get b = some ⟨1, ((pts.take i).map (·.l)).map rowI⟩ ∧ o < b ∧ b < s.n))

theorem roundI (G : Nat → Option (List IV)) (d : Nat) {H0 : PT HB} {n0 o : Nat} {occ : List Bool} {ip : Nat} {pts : List FPt} (ho0 : n0 ≤ o) (hip : ip < n0) (hp : H0.get ip = some ⟨3, pts.map rowP⟩) (hl : pts.length ≤ 1000) {i : Nat} {s : St}
    (h : II H0 n0 o occ (.sl ip 0 pts.length pts.length) pts i s) (hi : i < pts.length) :
    ∃ s', D.l79_0b.run G (K G (d + 1)) n0 ⟨keep s.T [2, 3, 18, 19, 20], keep s.L [2, 3], s.H, s.n⟩ = some (.norm, s') ∧ II H0 n0 o occ (.sl ip 0 pts.length pts.length) pts (i + 1) s' := by
  obtain ⟨q2, q3, vl, h2, h3, h18, h19, h20, l2, l3, hn, ho, hj, hv⟩ := h
  have hi' : (i : Int) < pts.length := by omega
  have hw : IntKind.i64.wrap ((i : Int) + 1) = (i : Int) + 1 := wr_id (by omega) (by omega)
  have hpi : pts[i]? = some pts[i] := List.getElem?_eq_getElem hi
  have htk : (pts.take i).map (·.l) ++ [pts[i].l] = (pts.take (i + 1)).map (·.l) := by
    rw [List.take_add_one, hpi, List.map_append]; rfl
  generalize hpe : pts[i] = p at hpi htk
  have hri : (pts.map rowP)[i]? = some (rowP p) := by rw [List.getElem?_map, hpi]; rfl
  have hp' := hj ip hip
  rw [hp] at hp'
  have hm1 : 1 ≤ appMax := by unfold appMax; omega
  have hm2 : i + 1 ≤ appMax := by unfold appMax; omega
  have hm3 : (i + 1) * 8 ≤ appMax := by unfold appMax; omega
  rcases hv with ⟨hi0, rfl⟩ | ⟨hi0, b, rfl, hb, hb1, hb2⟩
  · have hm8 : 8 ≤ appMax := by unfold appMax; omega
    simp only [D.l79_0b, keep, run_seq, run_cond, run_block, run_reg, run_reg0, run_drw, run_skip, run_ret, run_exit, then_norm, then_ret, then_exit, cd_true, cd_false, block_norm, block_ret, block_exit, reg_nil, reg_cons, ops_nil, ops_cons, opsThen_nil, opsThen_cons, calm_some, res_norm, res_ret, fnEnd, argsT, opRun, PT.get_put, dstep, ev, evs, evO, give, giveI, binOf, isNilK, np_nilp, np_ptr, np_lref, np_cref, ns_nils, ns_lst, ns_sl, nf_nilf, nf_fnc, ni_nili, ni_iface, PM.flip, putT, putL, putH, binInt, callM, loadOf, storeOf, cut, over, ofCells, asNat, natOr, calm, clashes, Acc.clash, ressOf, resOf, out_agg, out_tup, out_fnc, outs_nil, outs_cons, len_nils, len_lst, len_sl, scal_fnc, frz, frz.frzs, snap, snap.snaps, DV.pure, DV.pure.pures, DV.flat, DV.flat.flats, unOf, binStr, ansT, out_imm, out_ptr, out_sl, cells_imm, cells_ptr, cells_sl, cells_agg, scal_int, scal_bool, scal_str, scal_nils, scal_nilp, scal_lst, scal_ptr, scal_sl, Option.map, List.length_cons, List.length_nil, reduceIte, Nat.reduceEqDiff, Nat.reduceAdd]
    simp [h2, h3, h18, h19, h20, l2, l3, hp', hi', hi, hw, hm1, hm8, hpe, rowP, evParts2, appOf, srcOf, rowsOf, lay, rowsN, unImms, unImm, mapO, imms, run_seq, run_cond, run_block, run_reg, run_reg0, run_drw, run_skip, run_ret, run_exit, then_norm, then_ret, then_exit, cd_true, cd_false, block_norm, block_ret, block_exit, reg_nil, reg_cons, ops_nil, ops_cons, opsThen_nil, opsThen_cons, calm_some, res_norm, res_ret, fnEnd, argsT, opRun, PT.get_put, dstep, ev, evs, evO, give, giveI, binOf, isNilK, np_nilp, np_ptr, np_lref, np_cref, ns_nils, ns_lst, ns_sl, nf_nilf, nf_fnc, ni_nili, ni_iface, PM.flip, putT, putL, putH, binInt, callM, loadOf, storeOf, cut, over, ofCells, asNat, natOr, calm, clashes, Acc.clash, ressOf, resOf, out_agg, out_tup, out_fnc, outs_nil, outs_cons, len_nils, len_lst, len_sl, scal_fnc, frz, frz.frzs, snap, snap.snaps, DV.pure, DV.pure.pures, DV.flat, DV.flat.flats, unOf, binStr, ansT, out_imm, out_ptr, out_sl, cells_imm, cells_ptr, cells_sl, cells_agg, scal_int, scal_bool, scal_str, scal_nils, scal_nilp, scal_lst, scal_ptr, scal_sl, Option.map, List.length_cons, List.length_nil, reduceIte, Nat.reduceEqDiff, Nat.reduceAdd]
    have hfin : ((pts.take (i + 1)).map (·.l)).map rowI = [[.imm (.int .i64 p.l)]] := by rw [← htk, hi0]; rfl
    have e1 : ¬ o = s.n + 1 := by omega
    refine ⟨q2, q3, .sl (s.n + 1) 0 (i + 1) (i + 1), ?_, ?_, ?_, ?_, ?_, ?_, ?_, ?_, ?_, ?_, .inr ⟨by omega, s.n + 1, rfl, ?_, by omega, ?_⟩⟩
    · simp [PT.get_put]
    · simp [PT.get_put]
    · simp [PT.get_put]
    · simp [PT.get_put]
    · simp [PT.get_put]
    · simp [PT.get_put]
    · simp [PT.get_put, hi0]
    · simp; omega
    · simp [PT.get_put, e1, ho]
    · intro j hj1
      simp only [PT.get_put]
      rw [if_neg (by omega)]; exact hj j hj1
    · rw [hfin]; simp [PT.get_put]
    · simp
  · have e1 : ¬ o = s.n + 1 := by omega
    have e2 : ¬ o = b := by omega
    have e3 : ¬ b < n0 := by omega
    have e4 : n0 ≤ b := by omega
    have e5 : ¬ i + 1 ≤ i := by omega
    have hfin : ((pts.take (i + 1)).map (·.l)).map rowI = ((pts.take i).map (·.l)).map rowI ++ [[.imm (.int .i64 p.l)]] := by rw [← htk, List.map_append]; rfl
    have hrl : (((pts.take i).map (·.l)).map rowI).length = i := by simp; omega
    generalize ((pts.take i).map (·.l)).map rowI = rws at hb hfin hrl
    simp only [D.l79_0b, keep, run_seq, run_cond, run_block, run_reg, run_reg0, run_drw, run_skip, run_ret, run_exit, then_norm, then_ret, then_exit, cd_true, cd_false, block_norm, block_ret, block_exit, reg_nil, reg_cons, ops_nil, ops_cons, opsThen_nil, opsThen_cons, calm_some, res_norm, res_ret, fnEnd, argsT, opRun, PT.get_put, dstep, ev, evs, evO, give, giveI, binOf, isNilK, np_nilp, np_ptr, np_lref, np_cref, ns_nils, ns_lst, ns_sl, nf_nilf, nf_fnc, ni_nili, ni_iface, PM.flip, putT, putL, putH, binInt, callM, loadOf, storeOf, cut, over, ofCells, asNat, natOr, calm, clashes, Acc.clash, ressOf, resOf, out_agg, out_tup, out_fnc, outs_nil, outs_cons, len_nils, len_lst, len_sl, scal_fnc, frz, frz.frzs, snap, snap.snaps, DV.pure, DV.pure.pures, DV.flat, DV.flat.flats, unOf, binStr, ansT, out_imm, out_ptr, out_sl, cells_imm, cells_ptr, cells_sl, cells_agg, scal_int, scal_bool, scal_str, scal_nils, scal_nilp, scal_lst, scal_ptr, scal_sl, Option.map, List.length_cons, List.length_nil, reduceIte, Nat.reduceEqDiff, Nat.reduceAdd]
    simp [h2, h3, h18, h19, h20, l2, l3, hp', hi', hi, hw, hm2, hm3, hb, hpe, hrl, e4, e5, rowP, evParts2, appOf, srcOf, rowsOf, lay, rowsN, unImms, unImm, mapO, imms, run_seq, run_cond, run_block, run_reg, run_reg0, run_drw, run_skip, run_ret, run_exit, then_norm, then_ret, then_exit, cd_true, cd_false, block_norm, block_ret, block_exit, reg_nil, reg_cons, ops_nil, ops_cons, opsThen_nil, opsThen_cons, calm_some, res_norm, res_ret, fnEnd, argsT, opRun, PT.get_put, dstep, ev, evs, evO, give, giveI, binOf, isNilK, np_nilp, np_ptr, np_lref, np_cref, ns_nils, ns_lst, ns_sl, nf_nilf, nf_fnc, ni_nili, ni_iface, PM.flip, putT, putL, putH, binInt, callM, loadOf, storeOf, cut, over, ofCells, asNat, natOr, calm, clashes, Acc.clash, ressOf, resOf, out_agg, out_tup, out_fnc, outs_nil, outs_cons, len_nils, len_lst, len_sl, scal_fnc, frz, frz.frzs, snap, snap.snaps, DV.pure, DV.pure.pures, DV.flat, DV.flat.flats, unOf, binStr, ansT, out_imm, out_ptr, out_sl, cells_imm, cells_ptr, cells_sl, cells_agg, scal_int, scal_bool, scal_str, scal_nils, scal_nilp, scal_lst, scal_ptr, scal_sl, Option.map, List.length_cons, List.length_nil, reduceIte, Nat.reduceEqDiff, Nat.reduceAdd]
    refine ⟨q2, q3, .sl (s.n + 1) 0 (i + 1) (i + 1), ?_, ?_, ?_, ?_, ?_, ?_, ?_, ?_, ?_, ?_, .inr ⟨by omega, s.n + 1, rfl, ?_, by omega, ?_⟩⟩
    · simp [PT.get_put]
    · simp [PT.get_put]
    · simp [PT.get_put]
    · simp [PT.get_put]
    · simp [PT.get_put]
    · simp [PT.get_put]
    · simp [PT.get_put]
    · simp; omega
    · simp [PT.get_put, e1, e2, ho]
    · intro j hj1
      simp only [PT.get_put]
      rw [if_neg (by omega), if_neg (by omega)]; exact hj j hj1
    · rw [hfin]; simp [PT.get_put]
    · simp

/-! ### The loops -/
theorem loopS (G : Nat → Option (List IV)) (d : Nat) {n0 : Nat} {H0 : PT HB} {f : Nat} {dv : DV} {ds : List Int} {ids : List Nat} (hd : Drv H0 dv ds ids) {vo : DV} {ip : Nat} {pts : List FPt} (hn : ip ∉ f :: ids) (hl : pts.length ≤ 1000) (s : St)
    (h : ISp n0 H0 f dv ds ids vo ip pts 0 s) : ∃ s', D.l55_0.run G (K G (d + 1)) 0 s = some (.exit 0, s') ∧ ISp n0 H0 f dv ds ids vo ip pts pts.length s' := by
  obtain ⟨e, s', q1, q2, rfl, q3⟩ := iter_ind (f := loopRun G (K G (d + 1)) 0 [0, 1, 11, 12, 13] [] D.l55_0b) (fun m s => ∃ i : Nat, ISp n0 H0 f dv ds ids vo ip pts i s ∧ i ≤ pts.length ∧ m = pts.length - i)
    (fun e s' => e = .exit 0 ∧ ISp n0 H0 f dv ds ids vo ip pts pts.length s')
    (fun m s ⟨i, hI, hle, hm⟩ => by
      by_cases hi : i < pts.length
      · obtain ⟨s', e1, e2⟩ := roundS G d hd hn hl hI hi
        exact .inl ⟨s', _, e1, by omega, i + 1, e2, by omega, rfl⟩
      · obtain rfl : i = pts.length := by omega
        obtain ⟨h0, h1, h11, h12, h13, hf, hp, hj, hnn⟩ := hI
        refine .inr ⟨.exit 0, ?_⟩
        simp only [loopRun_eq, D.l55_0b, keep, run_seq, run_cond, run_block, run_reg, run_reg0, run_drw, run_skip, run_ret, run_exit, then_norm, then_ret, then_exit, cd_true, cd_false, block_norm, block_ret, block_exit, reg_nil, reg_cons, ops_nil, ops_cons, opsThen_nil, opsThen_cons, calm_some, res_norm, res_ret, fnEnd, argsT, opRun, PT.get_put, dstep, ev, evs, evO, give, giveI, binOf, isNilK, np_nilp, np_ptr, np_lref, np_cref, ns_nils, ns_lst, ns_sl, nf_nilf, nf_fnc, ni_nili, ni_iface, PM.flip, putT, putL, putH, binInt, callM, loadOf, storeOf, cut, over, ofCells, asNat, natOr, calm, clashes, Acc.clash, ressOf, resOf, out_agg, out_tup, out_fnc, outs_nil, outs_cons, len_nils, len_lst, len_sl, scal_fnc, frz, frz.frzs, snap, snap.snaps, DV.pure, DV.pure.pures, DV.flat, DV.flat.flats, unOf, binStr, ansT, out_imm, out_ptr, out_sl, cells_imm, cells_ptr, cells_sl, cells_agg, scal_int, scal_bool, scal_str, scal_nils, scal_nilp, scal_lst, scal_ptr, scal_sl, Option.map, List.length_cons, List.length_nil, reduceIte, Nat.reduceEqDiff, Nat.reduceAdd]
        simp [h0, h1, h11, h12, h13, run_seq, run_cond, run_block, run_reg, run_reg0, run_drw, run_skip, run_ret, run_exit, then_norm, then_ret, then_exit, cd_true, cd_false, block_norm, block_ret, block_exit, reg_nil, reg_cons, ops_nil, ops_cons, opsThen_nil, opsThen_cons, calm_some, res_norm, res_ret, fnEnd, argsT, opRun, PT.get_put, dstep, ev, evs, evO, give, giveI, binOf, isNilK, np_nilp, np_ptr, np_lref, np_cref, ns_nils, ns_lst, ns_sl, nf_nilf, nf_fnc, ni_nili, ni_iface, PM.flip, putT, putL, putH, binInt, callM, loadOf, storeOf, cut, over, ofCells, asNat, natOr, calm, clashes, Acc.clash, ressOf, resOf, out_agg, out_tup, out_fnc, outs_nil, outs_cons, len_nils, len_lst, len_sl, scal_fnc, frz, frz.frzs, snap, snap.snaps, DV.pure, DV.pure.pures, DV.flat, DV.flat.flats, unOf, binStr, ansT, out_imm, out_ptr, out_sl, cells_imm, cells_ptr, cells_sl, cells_agg, scal_int, scal_bool, scal_str, scal_nils, scal_nilp, scal_lst, scal_ptr, scal_sl, Option.map, List.length_cons, List.length_nil, reduceIte, Nat.reduceEqDiff, Nat.reduceAdd]
        simp only [ISp, PT.get_put]
        simp [h0, h1, h11, h12, h13, hf, hp]
        exact ⟨hj, hnn⟩) pts.length LOOP s ⟨0, h, by omega, by omega⟩ (by unfold LOOP; omega)
  exact ⟨s', q1, q3⟩

theorem loopI (G : Nat → Option (List IV)) (d : Nat) {H0 : PT HB} {n0 o : Nat} {occ : List Bool} {ip : Nat} {pts : List FPt} (ho0 : n0 ≤ o) (hip : ip < n0) (hp : H0.get ip = some ⟨3, pts.map rowP⟩) (hl : pts.length ≤ 1000) (s : St)
    (h : II H0 n0 o occ (.sl ip 0 pts.length pts.length) pts 0 s) : ∃ s', D.l79_0.run G (K G (d + 1)) n0 s = some (.exit 0, s') ∧ II H0 n0 o occ (.sl ip 0 pts.length pts.length) pts pts.length s' := by
  obtain ⟨e, s', q1, q2, rfl, q3⟩ := iter_ind (f := loopRun G (K G (d + 1)) n0 [2, 3, 18, 19, 20] [2, 3] D.l79_0b) (fun m s => ∃ i : Nat, II H0 n0 o occ (.sl ip 0 pts.length pts.length) pts i s ∧ i ≤ pts.length ∧ m = pts.length - i)
    (fun e s' => e = .exit 0 ∧ II H0 n0 o occ (.sl ip 0 pts.length pts.length) pts pts.length s')
    (fun m s ⟨i, hI, hle, hm⟩ => by
      by_cases hi : i < pts.length
      · obtain ⟨s', e1, e2⟩ := roundI G d ho0 hip hp hl hI hi
        exact .inl ⟨s', _, e1, by omega, i + 1, e2, by omega, rfl⟩
      · obtain rfl : i = pts.length := by omega
        obtain ⟨q2, q3, vl, h2, h3, h18, h19, h20, l2, l3, hn, ho, hj, hv⟩ := hI
        refine .inr ⟨.exit 0, ?_⟩
        simp only [loopRun_eq, D.l79_0b, keep, run_seq, run_cond, run_block, run_reg, run_reg0, run_drw, run_skip, run_ret, run_exit, then_norm, then_ret, then_exit, cd_true, cd_false, block_norm, block_ret, block_exit, reg_nil, reg_cons, ops_nil, ops_cons, opsThen_nil, opsThen_cons, calm_some, res_norm, res_ret, fnEnd, argsT, opRun, PT.get_put, dstep, ev, evs, evO, give, giveI, binOf, isNilK, np_nilp, np_ptr, np_lref, np_cref, ns_nils, ns_lst, ns_sl, nf_nilf, nf_fnc, ni_nili, ni_iface, PM.flip, putT, putL, putH, binInt, callM, loadOf, storeOf, cut, over, ofCells, asNat, natOr, calm, clashes, Acc.clash, ressOf, resOf, out_agg, out_tup, out_fnc, outs_nil, outs_cons, len_nils, len_lst, len_sl, scal_fnc, frz, frz.frzs, snap, snap.snaps, DV.pure, DV.pure.pures, DV.flat, DV.flat.flats, unOf, binStr, ansT, out_imm, out_ptr, out_sl, cells_imm, cells_ptr, cells_sl, cells_agg, scal_int, scal_bool, scal_str, scal_nils, scal_nilp, scal_lst, scal_ptr, scal_sl, Option.map, List.length_cons, List.length_nil, reduceIte, Nat.reduceEqDiff, Nat.reduceAdd]
        simp [h2, h3, h18, h19, h20, l2, l3, run_seq, run_cond, run_block, run_reg, run_reg0, run_drw, run_skip, run_ret, run_exit, then_norm, then_ret, then_exit, cd_true, cd_false, block_norm, block_ret, block_exit, reg_nil, reg_cons, ops_nil, ops_cons, opsThen_nil, opsThen_cons, calm_some, res_norm, res_ret, fnEnd, argsT, opRun, PT.get_put, dstep, ev, evs, evO, give, giveI, binOf, isNilK, np_nilp, np_ptr, np_lref, np_cref, ns_nils, ns_lst, ns_sl, nf_nilf, nf_fnc, ni_nili, ni_iface, PM.flip, putT, putL, putH, binInt, callM, loadOf, storeOf, cut, over, ofCells, asNat, natOr, calm, clashes, Acc.clash, ressOf, resOf, out_agg, out_tup, out_fnc, outs_nil, outs_cons, len_nils, len_lst, len_sl, scal_fnc, frz, frz.frzs, snap, snap.snaps, DV.pure, DV.pure.pures, DV.flat, DV.flat.flats, unOf, binStr, ansT, out_imm, out_ptr, out_sl, cells_imm, cells_ptr, cells_sl, cells_agg, scal_int, scal_bool, scal_str, scal_nils, scal_nilp, scal_lst, scal_ptr, scal_sl, Option.map, List.length_cons, List.length_nil, reduceIte, Nat.reduceEqDiff, Nat.reduceAdd]
        refine ⟨q2, q3, vl, ?_, ?_, ?_, ?_, ?_, ?_, ?_, hn, ho, hj, hv⟩ <;> simp [PT.get_put, h2, h3, h18, h19, h20, l2, l3]) pts.length LOOP s ⟨0, h, by omega, by omega⟩ (by unfold LOOP; omega)
  exact ⟨s', q1, q3⟩

/-! ### The calls -/
theorem step_eq (G : Nat → Option (List IV)) (d : Nat) {H : PT HB} {f : Nat} {own : List Nat} {occ : List Bool} {pts : List FPt} (hf : Fd H f own occ pts) {dv : DV} {ds : List Int} {ids : List Nat} (hd : Drv H dv ds ids) (hdis : ∀ i ∈ ids, i ∉ f :: own) (hl : pts.length ≤ 1000) (n : Nat) :
    ∃ H' n', K G (d + 2) 55 [.ptr f 0 0, dv] H n 0 = some (.tup [], H', n') ∧ Fd H' f own occ (stp pts ds pts.length) ∧ n ≤ n' ∧ ∀ j, j ∉ own → H'.get j = H.get j := by
  obtain ⟨vo, vp, io, ip, h1, h2, h3, rfl, h5⟩ := hf
  rw [D.k55]
  generalize hrows : pts.map rowP = rows at h3
  cases h3 with
  | nil =>
    obtain rfl : pts = [] := by simpa using hrows
    obtain ⟨k, hL⟩ : ∃ k, LOOP = k + 1 := ⟨2 ^ 62 - 1, rfl⟩
    simp only [D.f55, D.l55_0, fn_run, run_seq, run_cond, run_block, run_reg, run_reg0, run_drw, run_skip, run_ret, run_exit, then_norm, then_ret, then_exit, cd_true, cd_false, block_norm, block_ret, block_exit, reg_nil, reg_cons, ops_nil, ops_cons, opsThen_nil, opsThen_cons, calm_some, res_norm, res_ret, fnEnd, argsT, opRun, PT.get_put, dstep, ev, evs, evO, give, giveI, binOf, isNilK, np_nilp, np_ptr, np_lref, np_cref, ns_nils, ns_lst, ns_sl, nf_nilf, nf_fnc, ni_nili, ni_iface, PM.flip, putT, putL, putH, binInt, callM, loadOf, storeOf, cut, over, ofCells, asNat, natOr, calm, clashes, Acc.clash, ressOf, resOf, out_agg, out_tup, out_fnc, outs_nil, outs_cons, len_nils, len_lst, len_sl, scal_fnc, frz, frz.frzs, snap, snap.snaps, DV.pure, DV.pure.pures, DV.flat, DV.flat.flats, unOf, binStr, ansT, out_imm, out_ptr, out_sl, cells_imm, cells_ptr, cells_sl, cells_agg, scal_int, scal_bool, scal_str, scal_nils, scal_nilp, scal_lst, scal_ptr, scal_sl, Option.map, List.length_cons, List.length_nil, reduceIte, Nat.reduceEqDiff, Nat.reduceAdd]
    simp [h1, run_loop, hL, iter, loopRun_eq, keep, D.l55_0b, run_seq, run_cond, run_block, run_reg, run_reg0, run_drw, run_skip, run_ret, run_exit, then_norm, then_ret, then_exit, cd_true, cd_false, block_norm, block_ret, block_exit, reg_nil, reg_cons, ops_nil, ops_cons, opsThen_nil, opsThen_cons, calm_some, res_norm, res_ret, fnEnd, argsT, opRun, PT.get_put, dstep, ev, evs, evO, give, giveI, binOf, isNilK, np_nilp, np_ptr, np_lref, np_cref, ns_nils, ns_lst, ns_sl, nf_nilf, nf_fnc, ni_nili, ni_iface, PM.flip, putT, putL, putH, binInt, callM, loadOf, storeOf, cut, over, ofCells, asNat, natOr, calm, clashes, Acc.clash, ressOf, resOf, out_agg, out_tup, out_fnc, outs_nil, outs_cons, len_nils, len_lst, len_sl, scal_fnc, frz, frz.frzs, snap, snap.snaps, DV.pure, DV.pure.pures, DV.flat, DV.flat.flats, unOf, binStr, ansT, out_imm, out_ptr, out_sl, cells_imm, cells_ptr, cells_sl, cells_agg, scal_int, scal_bool, scal_str, scal_nils, scal_nilp, scal_lst, scal_ptr, scal_sl, Option.map, List.length_cons, List.length_nil, reduceIte, Nat.reduceEqDiff, Nat.reduceAdd]
    exact ⟨_, _, ⟨rfl, rfl⟩, ⟨vo, _, io, [], h1, h2, .nil, by simp, by simpa using h5⟩, Nat.le_refl _, fun _ _ => rfl⟩
  | sl hp hr0 =>
    rename_i ip
    have hlen : rows.length = pts.length := by rw [← hrows]; simp
    have hip : ip ∉ f :: ids := by
      intro hm
      rcases List.mem_cons.1 hm with e | hm
      · subst e; simp at h5
      · exact hdis ip hm (by simp)
    have hvo : ∀ j ∈ io, j ≠ ip := fun j hj e => by
      subst e
      simp [List.nodup_append] at h5
      exact h5.2.2 j hj rfl
    rw [hlen] at h1
    simp only [D.f55, fn_run, run_seq, run_cond, run_block, run_reg, run_reg0, run_drw, run_skip, run_ret, run_exit, then_norm, then_ret, then_exit, cd_true, cd_false, block_norm, block_ret, block_exit, reg_nil, reg_cons, ops_nil, ops_cons, opsThen_nil, opsThen_cons, calm_some, res_norm, res_ret, fnEnd, argsT, opRun, PT.get_put, dstep, ev, evs, evO, give, giveI, binOf, isNilK, np_nilp, np_ptr, np_lref, np_cref, ns_nils, ns_lst, ns_sl, nf_nilf, nf_fnc, ni_nili, ni_iface, PM.flip, putT, putL, putH, binInt, callM, loadOf, storeOf, cut, over, ofCells, asNat, natOr, calm, clashes, Acc.clash, ressOf, resOf, out_agg, out_tup, out_fnc, outs_nil, outs_cons, len_nils, len_lst, len_sl, scal_fnc, frz, frz.frzs, snap, snap.snaps, DV.pure, DV.pure.pures, DV.flat, DV.flat.flats, unOf, binStr, ansT, out_imm, out_ptr, out_sl, cells_imm, cells_ptr, cells_sl, cells_agg, scal_int, scal_bool, scal_str, scal_nils, scal_nilp, scal_lst, scal_ptr, scal_sl, Option.map, List.length_cons, List.length_nil, reduceIte, Nat.reduceEqDiff, Nat.reduceAdd]
    simp [h1, run_seq, run_cond, run_block, run_reg, run_reg0, run_drw, run_skip, run_ret, run_exit, then_norm, then_ret, then_exit, cd_true, cd_false, block_norm, block_ret, block_exit, reg_nil, reg_cons, ops_nil, ops_cons, opsThen_nil, opsThen_cons, calm_some, res_norm, res_ret, fnEnd, argsT, opRun, PT.get_put, dstep, ev, evs, evO, give, giveI, binOf, isNilK, np_nilp, np_ptr, np_lref, np_cref, ns_nils, ns_lst, ns_sl, nf_nilf, nf_fnc, ni_nili, ni_iface, PM.flip, putT, putL, putH, binInt, callM, loadOf, storeOf, cut, over, ofCells, asNat, natOr, calm, clashes, Acc.clash, ressOf, resOf, out_agg, out_tup, out_fnc, outs_nil, outs_cons, len_nils, len_lst, len_sl, scal_fnc, frz, frz.frzs, snap, snap.snaps, DV.pure, DV.pure.pures, DV.flat, DV.flat.flats, unOf, binStr, ansT, out_imm, out_ptr, out_sl, cells_imm, cells_ptr, cells_sl, cells_agg, scal_int, scal_bool, scal_str, scal_nils, scal_nilp, scal_lst, scal_ptr, scal_sl, Option.map, List.length_cons, List.length_nil, reduceIte, Nat.reduceEqDiff, Nat.reduceAdd]
    generalize hrun : D.l55_0.run G (K G (d + 1)) 0 _ = r
    obtain ⟨s', rfl, hs'⟩ : ∃ s', r = some (.exit 0, s') ∧ ISp n H f dv ds ids vo ip pts pts.length s' := by
      rw [← hrun]
      refine loopS G d hd hip hl _ ?_
      simp only [ISp, PT.get_put, stp_zero]
      simp [h1, hp, hrows, hlen]
    clear hrun
    obtain ⟨g0, g1, g11, g12, g13, gf, gp, gj, gn⟩ := hs'
    simp [run_seq, run_cond, run_block, run_reg, run_reg0, run_drw, run_skip, run_ret, run_exit, then_norm, then_ret, then_exit, cd_true, cd_false, block_norm, block_ret, block_exit, reg_nil, reg_cons, ops_nil, ops_cons, opsThen_nil, opsThen_cons, calm_some, res_norm, res_ret, fnEnd, argsT, opRun, PT.get_put, dstep, ev, evs, evO, give, giveI, binOf, isNilK, np_nilp, np_ptr, np_lref, np_cref, ns_nils, ns_lst, ns_sl, nf_nilf, nf_fnc, ni_nili, ni_iface, PM.flip, putT, putL, putH, binInt, callM, loadOf, storeOf, cut, over, ofCells, asNat, natOr, calm, clashes, Acc.clash, ressOf, resOf, out_agg, out_tup, out_fnc, outs_nil, outs_cons, len_nils, len_lst, len_sl, scal_fnc, frz, frz.frzs, snap, snap.snaps, DV.pure, DV.pure.pures, DV.flat, DV.flat.flats, unOf, binStr, ansT, out_imm, out_ptr, out_sl, cells_imm, cells_ptr, cells_sl, cells_agg, scal_int, scal_bool, scal_str, scal_nils, scal_nilp, scal_lst, scal_ptr, scal_sl, Option.map, List.length_cons, List.length_nil, reduceIte, Nat.reduceEqDiff, Nat.reduceAdd]
    refine ⟨_, _, ⟨rfl, rfl⟩, ⟨vo, _, io, [ip], gf, h2.mono (fun j hj => gj j (hvo j hj)), ?_, rfl, h5⟩, gn, fun j hj1 hj2 => gj j hj2⟩
    have := SlV.sl (H := s'.H) gp (fun e => hr0 (by
      have := congrArg List.length e
      simp [stp_len] at this
      subst this
      simpa using hrows.symm))
    simpa [stp_len] using this

def liesV (pts : List FPt) : IV := if pts = [] then .nils else .lst false 1 ((pts.map (·.l)).map ivI)
theorem in_eq (G : Nat → Option (List IV)) (d : Nat) {H : PT HB} {f : Nat} {own : List Nat} {occ : List Bool} {pts : List FPt} (hf : Fd H f own occ pts) (h0 : occ ≠ []) (hol : occ.length ≤ 1000) (hl : pts.length ≤ 1000) {n : Nat} (hn : ∀ i ∈ f :: own, i < n) (lo : Nat) :
    ∃ n', callM (K G (d + 2)) .ro 79 [.ptr f 0 0] H n lo = some ⟨.agg [.imm (.lst false 1 (occ.map ivB)), .imm (liesV pts)], H, n', [.rA]⟩ ∧ n ≤ n' := by
  obtain ⟨vo, vp, io, ip, h1, h2, h3, rfl, h5⟩ := hf
  generalize hro : occ.map rowBo = ros at h2
  have hro0 : ros ≠ [] := fun e => by rw [e] at hro; simp at hro; exact h0 hro
  have hrol : ros.length = occ.length := by rw [← hro]; simp
  cases h2 with
  | nil => exact absurd rfl hro0
  | sl ho hro1 =>
  rename_i io
  have hclone := fun (H : PT HB) (n lo : Nat) hb => cloneB G d (id := io) (rows := ros) (H := H) hb hro0 (by omega) n lo
  have hc := hclone H (n + 1) n ho
  have hfn : ¬ f = n + 1 := by have := hn f (by simp); omega
  rw [hrol] at h1 hc
  have key : ∃ (vl : DV) (s' : St), K G (d + 2) 79 [.ptr f 0 0] H n n = some (.agg [.sl (n + 1) 0 occ.length occ.length, vl], s'.H, s'.n) ∧ s'.H.get (n + 1) = some ⟨1, occ.map rowBo⟩ ∧ n ≤ s'.n ∧
      ((pts = [] ∧ vl = .imm .nils) ∨ (pts ≠ [] ∧ ∃ b, vl = .sl b 0 pts.length pts.length ∧ n ≤ b ∧ s'.H.get b = some ⟨1, (pts.map (·.l)).map rowI⟩)) := by
    rw [D.k79]
    generalize hrows : pts.map rowP = rows at h3
    cases h3 with
    | nil =>
      obtain rfl : pts = [] := by simpa using hrows
      obtain ⟨k, hL⟩ : ∃ k, LOOP = k + 1 := ⟨2 ^ 62 - 1, rfl⟩
      simp only [D.f79, D.l79_0, fn_run, run_seq, run_cond, run_block, run_reg, run_reg0, run_drw, run_skip, run_ret, run_exit, then_norm, then_ret, then_exit, cd_true, cd_false, block_norm, block_ret, block_exit, reg_nil, reg_cons, ops_nil, ops_cons, opsThen_nil, opsThen_cons, calm_some, res_norm, res_ret, fnEnd, argsT, opRun, PT.get_put, dstep, ev, evs, evO, give, giveI, binOf, isNilK, np_nilp, np_ptr, np_lref, np_cref, ns_nils, ns_lst, ns_sl, nf_nilf, nf_fnc, ni_nili, ni_iface, PM.flip, putT, putL, putH, binInt, callM, loadOf, storeOf, cut, over, ofCells, asNat, natOr, calm, clashes, Acc.clash, ressOf, resOf, out_agg, out_tup, out_fnc, outs_nil, outs_cons, len_nils, len_lst, len_sl, scal_fnc, frz, frz.frzs, snap, snap.snaps, DV.pure, DV.pure.pures, DV.flat, DV.flat.flats, unOf, binStr, ansT, out_imm, out_ptr, out_sl, cells_imm, cells_ptr, cells_sl, cells_agg, scal_int, scal_bool, scal_str, scal_nils, scal_nilp, scal_lst, scal_ptr, scal_sl, Option.map, List.length_cons, List.length_nil, reduceIte, Nat.reduceEqDiff, Nat.reduceAdd]
      simp [h1, hc, hfn, run_loop, hL, iter, loopRun_eq, keep, evParts, lay, imms, D.l79_0b, run_seq, run_cond, run_block, run_reg, run_reg0, run_drw, run_skip, run_ret, run_exit, then_norm, then_ret, then_exit, cd_true, cd_false, block_norm, block_ret, block_exit, reg_nil, reg_cons, ops_nil, ops_cons, opsThen_nil, opsThen_cons, calm_some, res_norm, res_ret, fnEnd, argsT, opRun, PT.get_put, dstep, ev, evs, evO, give, giveI, binOf, isNilK, np_nilp, np_ptr, np_lref, np_cref, ns_nils, ns_lst, ns_sl, nf_nilf, nf_fnc, ni_nili, ni_iface, PM.flip, putT, putL, putH, binInt, callM, loadOf, storeOf, cut, over, ofCells, asNat, natOr, calm, clashes, Acc.clash, ressOf, resOf, out_agg, out_tup, out_fnc, outs_nil, outs_cons, len_nils, len_lst, len_sl, scal_fnc, frz, frz.frzs, snap, snap.snaps, DV.pure, DV.pure.pures, DV.flat, DV.flat.flats, unOf, binStr, ansT, out_imm, out_ptr, out_sl, cells_imm, cells_ptr, cells_sl, cells_agg, scal_int, scal_bool, scal_str, scal_nils, scal_nilp, scal_lst, scal_ptr, scal_sl, Option.map, List.length_cons, List.length_nil, reduceIte, Nat.reduceEqDiff, Nat.reduceAdd]
      exact ⟨_, ⟨.lf, .lf, H.put (n + 1) (some ⟨1, ros⟩), n + 1 + 1 + 1⟩, ⟨rfl, rfl, rfl⟩, by rw [hro]; show (H.put (n + 1) (some ⟨1, ros⟩)).get (n + 1) = _; exact gps, by simp; omega, rfl⟩
    | sl hp hr0 =>
      rename_i ip
      have hlen : rows.length = pts.length := by rw [← hrows]; simp
      rw [hlen] at h1
      simp only [D.f79, fn_run, run_seq, run_cond, run_block, run_reg, run_reg0, run_drw, run_skip, run_ret, run_exit, then_norm, then_ret, then_exit, cd_true, cd_false, block_norm, block_ret, block_exit, reg_nil, reg_cons, ops_nil, ops_cons, opsThen_nil, opsThen_cons, calm_some, res_norm, res_ret, fnEnd, argsT, opRun, PT.get_put, dstep, ev, evs, evO, give, giveI, binOf, isNilK, np_nilp, np_ptr, np_lref, np_cref, ns_nils, ns_lst, ns_sl, nf_nilf, nf_fnc, ni_nili, ni_iface, PM.flip, putT, putL, putH, binInt, callM, loadOf, storeOf, cut, over, ofCells, asNat, natOr, calm, clashes, Acc.clash, ressOf, resOf, out_agg, out_tup, out_fnc, outs_nil, outs_cons, len_nils, len_lst, len_sl, scal_fnc, frz, frz.frzs, snap, snap.snaps, DV.pure, DV.pure.pures, DV.flat, DV.flat.flats, unOf, binStr, ansT, out_imm, out_ptr, out_sl, cells_imm, cells_ptr, cells_sl, cells_agg, scal_int, scal_bool, scal_str, scal_nils, scal_nilp, scal_lst, scal_ptr, scal_sl, Option.map, List.length_cons, List.length_nil, reduceIte, Nat.reduceEqDiff, Nat.reduceAdd]
      simp [h1, hc, hfn, evParts, lay, imms, run_seq, run_cond, run_block, run_reg, run_reg0, run_drw, run_skip, run_ret, run_exit, then_norm, then_ret, then_exit, cd_true, cd_false, block_norm, block_ret, block_exit, reg_nil, reg_cons, ops_nil, ops_cons, opsThen_nil, opsThen_cons, calm_some, res_norm, res_ret, fnEnd, argsT, opRun, PT.get_put, dstep, ev, evs, evO, give, giveI, binOf, isNilK, np_nilp, np_ptr, np_lref, np_cref, ns_nils, ns_lst, ns_sl, nf_nilf, nf_fnc, ni_nili, ni_iface, PM.flip, putT, putL, putH, binInt, callM, loadOf, storeOf, cut, over, ofCells, asNat, natOr, calm, clashes, Acc.clash, ressOf, resOf, out_agg, out_tup, out_fnc, outs_nil, outs_cons, len_nils, len_lst, len_sl, scal_fnc, frz, frz.frzs, snap, snap.snaps, DV.pure, DV.pure.pures, DV.flat, DV.flat.flats, unOf, binStr, ansT, out_imm, out_ptr, out_sl, cells_imm, cells_ptr, cells_sl, cells_agg, scal_int, scal_bool, scal_str, scal_nils, scal_nilp, scal_lst, scal_ptr, scal_sl, Option.map, List.length_cons, List.length_nil, reduceIte, Nat.reduceEqDiff, Nat.reduceAdd]
      generalize hrun : D.l79_0.run G (K G (d + 1)) n _ = r
      obtain ⟨s', rfl, q2, q3, vl, g2, g3, g18, g19, g20, l2, l3, gn, go, gj, gv⟩ : ∃ s', r = some (.exit 0, s') ∧ II H n (n + 1) occ (.sl ip 0 pts.length pts.length) pts pts.length s' := by
        rw [← hrun]
        refine loopI G d (H0 := H) (by omega) (hn ip (by simp)) (by rw [hp, hrows]) hl _ ?_
        refine ⟨n, n + 1 + 1, .imm .nils, ?_, ?_, ?_, ?_, ?_, ?_, ?_, ?_, ?_, ?_, .inl ⟨rfl, rfl⟩⟩
        · simp [PT.get_put]
        · simp [PT.get_put]
        · simp [PT.get_put]
        · simp [PT.get_put]
        · simp [PT.get_put]
        · simp [PT.get_put]
        · simp [PT.get_put, hrol]
        · simp
        · simp [PT.get_put, hro]
        · intro j hj
          simp only [PT.get_put]
          rw [if_neg (by omega)]
      clear hrun
      have hp0 : pts ≠ [] := fun e => by
        subst e
        exact hr0 (by simpa using hrows.symm)
      have hvs : vl.scal = true := by rcases gv with ⟨_, rfl⟩ | ⟨_, b, rfl, _⟩ <;> rfl
      have hvo : vl.out = true := by rcases gv with ⟨_, rfl⟩ | ⟨_, b, rfl, _⟩ <;> rfl
      simp [g2, g3, l2, l3, hvs, hvo, run_seq, run_cond, run_block, run_reg, run_reg0, run_drw, run_skip, run_ret, run_exit, then_norm, then_ret, then_exit, cd_true, cd_false, block_norm, block_ret, block_exit, reg_nil, reg_cons, ops_nil, ops_cons, opsThen_nil, opsThen_cons, calm_some, res_norm, res_ret, fnEnd, argsT, opRun, PT.get_put, dstep, ev, evs, evO, give, giveI, binOf, isNilK, np_nilp, np_ptr, np_lref, np_cref, ns_nils, ns_lst, ns_sl, nf_nilf, nf_fnc, ni_nili, ni_iface, PM.flip, putT, putL, putH, binInt, callM, loadOf, storeOf, cut, over, ofCells, asNat, natOr, calm, clashes, Acc.clash, ressOf, resOf, out_agg, out_tup, out_fnc, outs_nil, outs_cons, len_nils, len_lst, len_sl, scal_fnc, frz, frz.frzs, snap, snap.snaps, DV.pure, DV.pure.pures, DV.flat, DV.flat.flats, unOf, binStr, ansT, out_imm, out_ptr, out_sl, cells_imm, cells_ptr, cells_sl, cells_agg, scal_int, scal_bool, scal_str, scal_nils, scal_nilp, scal_lst, scal_ptr, scal_sl, Option.map, List.length_cons, List.length_nil, reduceIte, Nat.reduceEqDiff, Nat.reduceAdd]
      refine ⟨vl, s', ⟨rfl, rfl, rfl⟩, go, by omega, ?_⟩
      rcases gv with ⟨h, rfl⟩ | ⟨h, b, rfl, h1, h2, h3⟩
      · exact absurd (List.eq_nil_of_length_eq_zero h) hp0
      · refine .inr ⟨hp0, b, rfl, by omega, ?_⟩
        rw [List.take_of_length_le (Nat.le_refl _)] at h1
        simpa using h1
  obtain ⟨vl, s', k1, k2, k3, k4⟩ := key
  refine ⟨s'.n, ?_, k3⟩
  have f1 : frz s'.H.get n (.sl (n + 1) 0 occ.length occ.length) = some (.imm (.lst false 1 (occ.map ivB))) := by
    have := frz_sl (h := s'.H.get) (lo := n) (id := n + 1) (sz := 1) (xs := occ.map ivB) (by rw [k2, rowBo_eq]) (by omega)
    simpa using this
  have f2 : frz s'.H.get n vl = some (.imm (liesV pts)) := by
    unfold liesV
    rcases k4 with ⟨h, rfl⟩ | ⟨h, b, rfl, h1, h2⟩
    · rw [if_pos h]; rfl
    · rw [if_neg h]
      have := frz_sl (h := s'.H.get) (lo := n) (id := b) (sz := 1) (xs := (pts.map (·.l)).map ivI) (by rw [h2, rowI_eq]) h1
      simpa using this
  simp only [callM, k1]
  simp [outs_cons, outs_nil, out_ptr, frz_agg, frz.frzs, f1, f2]
end Go.Proofs.YtlknjgmhfimhbacGreatDoor.D
