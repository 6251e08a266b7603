/-
  FieldApart over D: each point for itself.
-/
import Derived.Test.YtbhmihigfncfgabDoorFld2
set_option linter.unusedVariables false
set_option linter.unusedSimpArgs false
set_option maxHeartbeats 16000000
namespace Go.Proofs.YtbhmihigfncfgabDoor.D
open Go Go.PM

def ptsK (k : Nat) (p : Pt) : List Pt := (List.replicate 4 (⟨1, 0, 0⟩ : Pt)).set k p
def dsK (k : Nat) (x : Int) : List Int := (List.replicate 4 (0 : Int)).set k x
theorem stpK {k : Nat} (hk : k < 4) (p : Pt) (x : Int) : stp (ptsK k p) (dsK k x) 4 = ptsK k (drivenP p x) := by
  have a : drivenP ⟨1, 0, 0⟩ 0 = ⟨1, 0, 0⟩ := rfl
  obtain rfl | rfl | rfl | rfl : k = 0 ∨ k = 1 ∨ k = 2 ∨ k = 3 := by omega
  all_goals simp [stp, ptsK, dsK, List.replicate, a]
theorem ptsK_len (k : Nat) (p : Pt) : (ptsK k p).length = 4 := by simp [ptsK]

/-- A point sticks. -/
theorem stick_eq (G : Nat → Option (List IV)) (d : Nat) {H : PT HB} {f : Nat} {own : List Nat} {occ : List Bool} {pts : List Pt} (hf : Fd H f own occ pts) {k : Nat} (hk : k < pts.length) (n : Nat) :
    ∃ H', K G (d + 1) 27 [.ptr f 0 0, .imm (.int .i64 k)] H n 0 = some (.imm (.int .i64 0), H', n) ∧ Fd H' f own occ (pts.set k ⟨0, 0, 0⟩) := by
  obtain ⟨vo, vp, io, ip, h1, h2, h3, rfl, h5⟩ := hf
  generalize hrows : pts.map rowP = rows at h3
  cases h3 with
  | nil =>
    obtain rfl : pts = [] := by simpa using hrows
    simp at hk
  | sl hp hr0 =>
    rename_i ip
    have hlen : rows.length = pts.length := by rw [← hrows]; simp
    have hk' : (k : Int) < pts.length := by omega
    have hk2 : ¬ (pts.length : Int) ≤ k := by omega
    have hk3 : ¬ pts.length ≤ k := by omega
    have hk0 : ¬ (k : Int) < 0 := by omega
    have hfi : ¬ f = ip := fun e => by subst e; simp at h5
    have hri : rows[k]? = some (rowP (pts[k]'hk)) := by rw [← hrows, List.getElem?_map, List.getElem?_eq_getElem hk]; rfl
    have hri2 : rows[k]'(by omega) = rowP (pts[k]'hk) := by
      have := hri
      rw [List.getElem?_eq_getElem (by omega)] at this
      exact Option.some.inj this
    have hkr : k < rows.length := by omega
    have hvo : ∀ j ∈ io, j ≠ ip := fun j hj e => by
      subst e
      simp [List.nodup_append] at h5
      exact h5.2.2 j hj rfl
    have hm : ∀ X, SlV (H.put ip X) 1 vo (occ.map rowBo) io := fun X => h2.mono (fun j hj => by rw [PT.get_put, if_neg (hvo j hj)])
    rw [hlen] at h1
    rw [D.k27]
    simp only [D.f27, fn_run, run_seq, run_cond, run_block, run_reg, run_reg0, run_drw, run_skip, run_ret, run_exit, then_norm, then_ret, then_exit, cd_true, cd_false, block_norm, block_ret, block_exit, reg_nil, reg_cons, ops_nil, ops_cons, opsThen_nil, opsThen_cons, calm_some, res_norm, res_ret, fnEnd, argsT, opRun, PT.get_put, dstep, ev, evs, evO, give, giveI, binOf, isNilK, np_nilp, np_ptr, np_lref, np_cref, ns_nils, ns_lst, ns_sl, nf_nilf, nf_fnc, ni_nili, ni_iface, PM.flip, putT, putL, putH, binInt, callM_eff, loadOf, storeOf, cut, over, ofCells, asNat, natOr, calm, clashes, Acc.clash, ressOf, resOf, out_agg, out_tup, out_fnc, outs_nil, outs_cons, len_nils, len_lst, len_sl, scal_fnc, frz, frz.frzs, snap, snap.snaps, DV.pure, DV.pure.pures, DV.flat, DV.flat.flats, unOf, binStr, ansT, out_imm, out_ptr, out_sl, cells_imm, cells_ptr, cells_sl, cells_agg, scal_int, scal_bool, scal_str, scal_nils, scal_nilp, scal_lst, scal_ptr, scal_sl, Option.map, List.length_cons, List.length_nil, reduceIte, Nat.reduceEqDiff, Nat.reduceAdd]
    simp [h1, hp, hk0, hk', hk2, hk3, hk, hkr, hri, hri2, rowP, evParts, lay, imms, run_seq, run_cond, run_block, run_reg, run_reg0, run_drw, run_skip, run_ret, run_exit, then_norm, then_ret, then_exit, cd_true, cd_false, block_norm, block_ret, block_exit, reg_nil, reg_cons, ops_nil, ops_cons, opsThen_nil, opsThen_cons, calm_some, res_norm, res_ret, fnEnd, argsT, opRun, PT.get_put, dstep, ev, evs, evO, give, giveI, binOf, isNilK, np_nilp, np_ptr, np_lref, np_cref, ns_nils, ns_lst, ns_sl, nf_nilf, nf_fnc, ni_nili, ni_iface, PM.flip, putT, putL, putH, binInt, callM_eff, loadOf, storeOf, cut, over, ofCells, asNat, natOr, calm, clashes, Acc.clash, ressOf, resOf, out_agg, out_tup, out_fnc, outs_nil, outs_cons, len_nils, len_lst, len_sl, scal_fnc, frz, frz.frzs, snap, snap.snaps, DV.pure, DV.pure.pures, DV.flat, DV.flat.flats, unOf, binStr, ansT, out_imm, out_ptr, out_sl, cells_imm, cells_ptr, cells_sl, cells_agg, scal_int, scal_bool, scal_str, scal_nils, scal_nilp, scal_lst, scal_ptr, scal_sl, Option.map, List.length_cons, List.length_nil, reduceIte, Nat.reduceEqDiff, Nat.reduceAdd]
    refine ⟨vo, .sl ip 0 pts.length pts.length, io, [ip], ?_, hm _, ?_, rfl, h5⟩
    · rw [PT.get_put, if_neg hfi]; exact h1
    · have := SlV.sl (H := H.put ip (some ⟨3, (pts.set k ⟨0, 0, 0⟩).map rowP⟩)) (sz := 3) (id := ip) (rows := (pts.set k ⟨0, 0, 0⟩).map rowP) gps (fun e => by
        have h : pts.length = 0 := by
          have := congrArg List.length e
          rw [List.length_map, List.length_set] at this
          exact this
        omega)
      rw [List.map_set, hrows] at this
      simpa [hlen, rowP, List.map_set, hrows] using this

theorem acts_of_fit {iv : IV} (h : FitK (.sl [.i .i64, .i .i64, .i .i64]) iv) : iv = .nils ∨ ∃ zs : List (Int × Int × Int), iv = .lst false 3 (zs.map fun z => [.int .i64 z.1, .int .i64 z.2.1, .int .i64 z.2.2]) := by
  cases h with
  | nil => exact .inl rfl
  | sl hm hl hk =>
    rename_i es
    right
    have : ∀ e : List IV, ∃ z : Int × Int × Int, e ∈ es → e = [.int .i64 z.1, .int .i64 z.2.1, .int .i64 z.2.2] := fun e => by
      by_cases he : e ∈ es
      · obtain ⟨i, hi⟩ := List.getElem?_of_mem he
        have h1 := hl e he
        match e, h1 with
        | [x, y, w], _ =>
          have a := hk i 0 _ _ x hi rfl rfl
          have b := hk i 1 _ _ y hi rfl rfl
          have c := hk i 2 _ _ w hi rfl rfl
          cases a; cases b; cases c
          exact ⟨(_, _, _), fun _ => rfl⟩
      · exact ⟨(0, 0, 0), fun h => absurd h he⟩
    obtain ⟨f, hf⟩ := Classical.axiomOfChoice this
    refine ⟨es.map f, ?_⟩
    congr 1
    rw [List.map_map]
    exact ((List.map_congr_left (fun e he => (hf e he).symm)).trans (List.map_id es)).symm

def IA (es : List (List IV)) (k : Nat) (i : Nat) (s : St) : Prop :=
  s.T.get 0 = some (.imm (.int .i64 k)) ∧ s.T.get 1 = some (.imm (.lst false 3 es)) ∧ s.T.get 5 = some (.ptr 2 0 0) ∧ s.T.get 7 = some (.imm (.int .i64 i)) ∧ 11 ≤ s.n ∧ ∃ p, Fd s.H 2 [1, 10] [false] (ptsK k p)

/-- The inner loop: all other points lie as they lay. -/
theorem inner {k : Nat} (hk : k < 4) (p : Pt) (s : St) (q : Nat) {es : IV} {i : Int} (h0 : s.T.get 0 = some (.imm (.int .i64 k))) (h1 : s.T.get 1 = some (.imm es)) (h5 : s.T.get 5 = some (.ptr 2 0 0)) (h7 : s.T.get 7 = some (.imm (.int .i64 i))) (h9 : s.T.get 9 = some (.lref 9 q 0)) (h10 : s.T.get 10 = some (.imm (.int .i64 0)))
    (l9 : s.L.get 9 = some (.box q [.imm (.lst false 1 [[.bool false]]), .imm (.lst false 1 ((ptsK k p).map fun p => ivI p.l))])) :
    ∃ s', D.l6_1.run GG (K GG 29) 0 s = some (.exit 2, s') ∧ s'.T.get 0 = some (.imm (.int .i64 k)) ∧ s'.T.get 1 = some (.imm es) ∧ s'.T.get 5 = some (.ptr 2 0 0) ∧ s'.T.get 7 = some (.imm (.int .i64 i)) ∧ s'.H = s.H ∧ s'.n = s.n := by
  obtain ⟨j, hL⟩ : ∃ j, LOOP = j + 1 + 1 + 1 + 1 + 1 := ⟨2 ^ 62 - 5, rfl⟩
  have w1 : IntKind.i64.wrap 1 = 1 := by decide
  have w2 : IntKind.i64.wrap 2 = 2 := by decide
  have w3 : IntKind.i64.wrap 3 = 3 := by decide
  have w4 : IntKind.i64.wrap 4 = 4 := by decide
  obtain rfl | rfl | rfl | rfl : k = 0 ∨ k = 1 ∨ k = 2 ∨ k = 3 := by omega
  all_goals
    simp [ptsK, List.replicate, ivI] at l9
    simp [D.l6_1, D.l6_1b, run_loop, hL, iter, loopRun_eq, keep, h0, h1, h5, h7, h9, h10, l9, w1, w2, w3, w4, imms, run_seq, run_cond, run_block, run_reg, run_reg0, run_drw, run_skip, run_ret, run_exit, then_norm, then_ret, then_exit, cd_true, cd_false, block_norm, block_ret, block_exit, reg_nil, reg_cons, ops_nil, ops_cons, opsThen_nil, opsThen_cons, calm_some, res_norm, res_ret, fnEnd, argsT, opRun, PT.get_put, dstep, ev, evs, evO, give, giveI, binOf, isNilK, np_nilp, np_ptr, np_lref, np_cref, ns_nils, ns_lst, ns_sl, nf_nilf, nf_fnc, ni_nili, ni_iface, PM.flip, putT, putL, putH, binInt, callM_eff, loadOf, storeOf, cut, over, ofCells, asNat, natOr, calm, clashes, Acc.clash, ressOf, resOf, out_agg, out_tup, out_fnc, outs_nil, outs_cons, len_nils, len_lst, len_sl, scal_fnc, frz, frz.frzs, snap, snap.snaps, DV.pure, DV.pure.pures, DV.flat, DV.flat.flats, unOf, binStr, ansT, out_imm, out_ptr, out_sl, cells_imm, cells_ptr, cells_sl, cells_agg, scal_int, scal_bool, scal_str, scal_nils, scal_nilp, scal_lst, scal_ptr, scal_sl, Option.map, List.length_cons, List.length_nil, reduceIte, Nat.reduceEqDiff, Nat.reduceAdd]

theorem stickK (k : Nat) (p : Pt) : (ptsK k p).set k ⟨0, 0, 0⟩ = ptsK k ⟨0, 0, 0⟩ := by simp [ptsK, List.set_set]
theorem liesK (k : Nat) (p : Pt) : liesV (ptsK k p) = .lst false 1 ((ptsK k p).map fun p => ivI p.l) := by
  unfold liesV
  rw [if_neg (fun e => by have := congrArg List.length e; rw [ptsK_len] at this; cases this), List.map_map]
  rfl

theorem roundA {k : Nat} (hk : k < 4) (zs : List (Int × Int × Int)) (i : Nat) (s : St) (h : IA (zs.map fun z => [.int .i64 z.1, .int .i64 z.2.1, .int .i64 z.2.2]) k i s) (hi : i < zs.length) (h60 : i < 60) :
    ∃ s', D.l6_0b.run GG (K GG 29) 0 ⟨keep s.T [0, 1, 5, 7], keep s.L [], s.H, s.n⟩ = some (.norm, s') ∧ IA (zs.map fun z => [.int .i64 z.1, .int .i64 z.2.1, .int .i64 z.2.2]) k (i + 1) s' := by
  obtain ⟨h0, h1, h5, h7, hn, p, hf⟩ := h
  have hi' : (i : Int) < zs.length := by omega
  have hi60 : (i : Int) < 60 := by omega
  have hz : zs[i]? = some zs[i] := List.getElem?_eq_getElem hi
  generalize hze : zs[i] = z at hz
  have hw : IntKind.i64.wrap ((i : Int) + 1) = (i : Int) + 1 := wr_id (by omega) (by omega)
  have hk4 : (k : Int) < 4 := by omega
  have hrep : ([[DV.imm (.int .i64 0)], [.imm (.int .i64 0)], [.imm (.int .i64 0)], [.imm (.int .i64 0)]] : List (List DV))[k]? = some [.imm (.int .i64 0)] := by
    obtain rfl | rfl | rfl | rfl : k = 0 ∨ k = 1 ∨ k = 2 ∨ k = 3 := by omega
    all_goals rfl
  have hrep2 : ∀ h, ([[DV.imm (.int .i64 0)], [.imm (.int .i64 0)], [.imm (.int .i64 0)], [.imm (.int .i64 0)]] : List (List DV))[k]'h = [.imm (.int .i64 0)] := fun h => by
    obtain rfl | rfl | rfl | rfl : k = 0 ∨ k = 1 ∨ k = 2 ∨ k = 3 := by omega
    all_goals rfl
  have hset : ∀ x : Int, ([[DV.imm (.int .i64 0)], [.imm (.int .i64 0)], [.imm (.int .i64 0)], [.imm (.int .i64 0)]] : List (List DV)).set k [.imm (.int .i64 x)] = (dsK k x).map rowI := fun x => by
    obtain rfl | rfl | rfl | rfl : k = 0 ∨ k = 1 ∨ k = 2 ∨ k = 3 := by omega
    all_goals rfl
  simp only [D.l6_0b, keep, run_seq, run_cond, run_block, run_reg, run_reg0, run_drw, run_skip, run_ret, run_exit, then_norm, then_ret, then_exit, cd_true, cd_false, block_norm, block_ret, block_exit, reg_nil, reg_cons, ops_nil, ops_cons, opsThen_nil, opsThen_cons, calm_some, res_norm, res_ret, fnEnd, argsT, opRun, PT.get_put, dstep, ev, evs, evO, give, giveI, binOf, isNilK, np_nilp, np_ptr, np_lref, np_cref, ns_nils, ns_lst, ns_sl, nf_nilf, nf_fnc, ni_nili, ni_iface, PM.flip, putT, putL, putH, binInt, callM_eff, loadOf, storeOf, cut, over, ofCells, asNat, natOr, calm, clashes, Acc.clash, ressOf, resOf, out_agg, out_tup, out_fnc, outs_nil, outs_cons, len_nils, len_lst, len_sl, scal_fnc, frz, frz.frzs, snap, snap.snaps, DV.pure, DV.pure.pures, DV.flat, DV.flat.flats, unOf, binStr, ansT, out_imm, out_ptr, out_sl, cells_imm, cells_ptr, cells_sl, cells_agg, scal_int, scal_bool, scal_str, scal_nils, scal_nilp, scal_lst, scal_ptr, scal_sl, Option.map, List.length_cons, List.length_nil, reduceIte, Nat.reduceEqDiff, Nat.reduceAdd]
  simp [h0, h1, h5, h7, hi', hi, hi60, h60, hz, hze, hk, hk4, hrep, hrep2, hset, imms, evParts2, lay, rowsN, unImms, unImm, mapO, run_seq, run_cond, run_block, run_reg, run_reg0, run_drw, run_skip, run_ret, run_exit, then_norm, then_ret, then_exit, cd_true, cd_false, block_norm, block_ret, block_exit, reg_nil, reg_cons, ops_nil, ops_cons, opsThen_nil, opsThen_cons, calm_some, res_norm, res_ret, fnEnd, argsT, opRun, PT.get_put, dstep, ev, evs, evO, give, giveI, binOf, isNilK, np_nilp, np_ptr, np_lref, np_cref, ns_nils, ns_lst, ns_sl, nf_nilf, nf_fnc, ni_nili, ni_iface, PM.flip, putT, putL, putH, binInt, callM_eff, loadOf, storeOf, cut, over, ofCells, asNat, natOr, calm, clashes, Acc.clash, ressOf, resOf, out_agg, out_tup, out_fnc, outs_nil, outs_cons, len_nils, len_lst, len_sl, scal_fnc, frz, frz.frzs, snap, snap.snaps, DV.pure, DV.pure.pures, DV.flat, DV.flat.flats, unOf, binStr, ansT, out_imm, out_ptr, out_sl, cells_imm, cells_ptr, cells_sl, cells_agg, scal_int, scal_bool, scal_str, scal_nils, scal_nilp, scal_lst, scal_ptr, scal_sl, Option.map, List.length_cons, List.length_nil, reduceIte, Nat.reduceEqDiff, Nat.reduceAdd]
  generalize Int.tmod _ 3 = x
  have hf1 : Fd ((s.H.put s.n (some ⟨1, [[DV.imm (.int .i64 0)], [.imm (.int .i64 0)], [.imm (.int .i64 0)], [.imm (.int .i64 0)]]⟩)).put s.n (some ⟨1, (dsK k x).map rowI⟩)) 2 [1, 10] [false] (ptsK k p) := hf.mono fun j hj => by
    have hj' : j ≠ s.n := by simp at hj; omega
    rw [PT.get_put, if_neg hj', PT.get_put, if_neg hj']
  have key : ∃ H' n' p', (if z.1 = 2 then K GG 29 27 [.ptr 2 0 0, .imm (.int .i64 k)] ((s.H.put s.n (some ⟨1, [[DV.imm (.int .i64 0)], [.imm (.int .i64 0)], [.imm (.int .i64 0)], [.imm (.int .i64 0)]]⟩)).put s.n (some ⟨1, (dsK k x).map rowI⟩)) (s.n + 1) 0 = some (.imm (.int .i64 0), H', n')
      else K GG 29 13 [.ptr 2 0 0, .sl s.n 0 4 4] ((s.H.put s.n (some ⟨1, [[DV.imm (.int .i64 0)], [.imm (.int .i64 0)], [.imm (.int .i64 0)], [.imm (.int .i64 0)]]⟩)).put s.n (some ⟨1, (dsK k x).map rowI⟩)) (s.n + 1) 0 = some (.tup [], H', n')) ∧ Fd H' 2 [1, 10] [false] (ptsK k p') ∧ 11 ≤ n' := by
    by_cases c : z.1 = 2
    · obtain ⟨H', e1, e2⟩ := stick_eq GG 28 hf1 (k := k) (by rw [ptsK_len]; exact hk) (s.n + 1)
      rw [stickK] at e2
      exact ⟨H', _, _, by rw [if_pos c]; exact e1, e2, by omega⟩
    · have hd : Dr ((s.H.put s.n (some ⟨1, [[DV.imm (.int .i64 0)], [.imm (.int .i64 0)], [.imm (.int .i64 0)], [.imm (.int .i64 0)]]⟩)).put s.n (some ⟨1, (dsK k x).map rowI⟩)) (.sl s.n 0 4 4) (dsK k x) [s.n] := by
        have := Dr.sl (H := (s.H.put s.n (some ⟨1, [[DV.imm (.int .i64 0)], [.imm (.int .i64 0)], [.imm (.int .i64 0)], [.imm (.int .i64 0)]]⟩)).put s.n (some ⟨1, (dsK k x).map rowI⟩)) (id := s.n) (ds := dsK k x) gps
        simpa [dsK] using this
      obtain ⟨H', n', e1, e2, e3, _⟩ := step_eq GG 27 hf1 hd (by simp; omega) (by rw [ptsK_len]; omega) (s.n + 1)
      rw [ptsK_len, stpK hk] at e2
      exact ⟨H', n', _, by rw [if_neg c]; exact e1, e2, by omega⟩
  obtain ⟨H', n', p', e1, e2, e3⟩ := key
  obtain ⟨n2, q1, q2⟩ := in_eq GG 27 e2 (by simp) (by simp) (by rw [ptsK_len]; omega) (n := n') (by simp; omega) 0
  rw [liesK] at q1
  have fin : ∀ s1 : St, s1.T.get 0 = some (.imm (.int .i64 k)) → s1.T.get 1 = some (.imm (.lst false 3 (zs.map fun z => [.int .i64 z.1, .int .i64 z.2.1, .int .i64 z.2.2]))) → s1.T.get 5 = some (.ptr 2 0 0) → s1.T.get 7 = some (.imm (.int .i64 i)) → s1.T.get 9 = some (.lref 9 n2 0) → s1.T.get 10 = some (.imm (.int .i64 0)) →
      s1.L.get 9 = some (.box n2 [.imm (.lst false 1 [[.bool false]]), .imm (.lst false 1 ((ptsK k p').map fun p => ivI p.l))]) → s1.H = H' → 11 ≤ s1.n →
      ∃ s', D.l6_1.run GG (K GG 29) 0 s1 = some (.exit 2, s') ∧ s'.T.get 0 = some (.imm (.int .i64 k)) ∧ s'.T.get 1 = some (.imm (.lst false 3 (zs.map fun z => [.int .i64 z.1, .int .i64 z.2.1, .int .i64 z.2.2]))) ∧ s'.T.get 5 = some (.ptr 2 0 0) ∧ s'.T.get 7 = some (.imm (.int .i64 i)) ∧ s'.H = H' ∧ 11 ≤ s'.n := fun s1 a0 a1 a5 a7 a9 a10 b9 aH an => by
    obtain ⟨s', r1, r2, r3, r4, r5, r6, r7⟩ := inner hk p' s1 n2 a0 a1 a5 a7 a9 a10 b9
    exact ⟨s', r1, r2, r3, r4, r5, by rw [r6, aH], by omega⟩
  have hl4 : ((ptsK k p').map fun p => ivI p.l).length = 4 := by rw [List.length_map, ptsK_len]
  by_cases c : z.1 = 2
  · rw [if_pos c] at e1
    simp [c, e1, q1, hl4, ptsK_len, imms, run_seq, run_cond, run_block, run_reg, run_reg0, run_drw, run_skip, run_ret, run_exit, then_norm, then_ret, then_exit, cd_true, cd_false, block_norm, block_ret, block_exit, reg_nil, reg_cons, ops_nil, ops_cons, opsThen_nil, opsThen_cons, calm_some, res_norm, res_ret, fnEnd, argsT, opRun, PT.get_put, dstep, ev, evs, evO, give, giveI, binOf, isNilK, np_nilp, np_ptr, np_lref, np_cref, ns_nils, ns_lst, ns_sl, nf_nilf, nf_fnc, ni_nili, ni_iface, PM.flip, putT, putL, putH, binInt, callM_eff, loadOf, storeOf, cut, over, ofCells, asNat, natOr, calm, clashes, Acc.clash, ressOf, resOf, out_agg, out_tup, out_fnc, outs_nil, outs_cons, len_nils, len_lst, len_sl, scal_fnc, frz, frz.frzs, snap, snap.snaps, DV.pure, DV.pure.pures, DV.flat, DV.flat.flats, unOf, binStr, ansT, out_imm, out_ptr, out_sl, cells_imm, cells_ptr, cells_sl, cells_agg, scal_int, scal_bool, scal_str, scal_nils, scal_nilp, scal_lst, scal_ptr, scal_sl, Option.map, List.length_cons, List.length_nil, reduceIte, Nat.reduceEqDiff, Nat.reduceAdd]
    generalize hrun : D.l6_1.run GG (K GG 29) 0 _ = r
    obtain ⟨s', rfl, r0, r1, r5, r7, rH, rn⟩ : ∃ s', r = some (.exit 2, s') ∧ s'.T.get 0 = some (.imm (.int .i64 k)) ∧ s'.T.get 1 = some (.imm (.lst false 3 (zs.map fun z => [.int .i64 z.1, .int .i64 z.2.1, .int .i64 z.2.2]))) ∧ s'.T.get 5 = some (.ptr 2 0 0) ∧ s'.T.get 7 = some (.imm (.int .i64 i)) ∧ s'.H = H' ∧ 11 ≤ s'.n := by
      rw [← hrun]
      refine fin _ ?_ ?_ ?_ ?_ ?_ ?_ ?_ ?_ ?_ <;> simp [PT.get_put, ivB]
      omega
    clear hrun
    simp [r7, hw, run_seq, run_cond, run_block, run_reg, run_reg0, run_drw, run_skip, run_ret, run_exit, then_norm, then_ret, then_exit, cd_true, cd_false, block_norm, block_ret, block_exit, reg_nil, reg_cons, ops_nil, ops_cons, opsThen_nil, opsThen_cons, calm_some, res_norm, res_ret, fnEnd, argsT, opRun, PT.get_put, dstep, ev, evs, evO, give, giveI, binOf, isNilK, np_nilp, np_ptr, np_lref, np_cref, ns_nils, ns_lst, ns_sl, nf_nilf, nf_fnc, ni_nili, ni_iface, PM.flip, putT, putL, putH, binInt, callM_eff, loadOf, storeOf, cut, over, ofCells, asNat, natOr, calm, clashes, Acc.clash, ressOf, resOf, out_agg, out_tup, out_fnc, outs_nil, outs_cons, len_nils, len_lst, len_sl, scal_fnc, frz, frz.frzs, snap, snap.snaps, DV.pure, DV.pure.pures, DV.flat, DV.flat.flats, unOf, binStr, ansT, out_imm, out_ptr, out_sl, cells_imm, cells_ptr, cells_sl, cells_agg, scal_int, scal_bool, scal_str, scal_nils, scal_nilp, scal_lst, scal_ptr, scal_sl, Option.map, List.length_cons, List.length_nil, reduceIte, Nat.reduceEqDiff, Nat.reduceAdd]
    exact ⟨by simp [PT.get_put, r0], by simp [PT.get_put, r1], by simp [PT.get_put, r5], by simp [PT.get_put], by simpa using rn, p', by rw [← rH] at e2; exact e2⟩
  · rw [if_neg c] at e1
    simp [bf c, e1, q1, hl4, ptsK_len, imms, run_seq, run_cond, run_block, run_reg, run_reg0, run_drw, run_skip, run_ret, run_exit, then_norm, then_ret, then_exit, cd_true, cd_false, block_norm, block_ret, block_exit, reg_nil, reg_cons, ops_nil, ops_cons, opsThen_nil, opsThen_cons, calm_some, res_norm, res_ret, fnEnd, argsT, opRun, PT.get_put, dstep, ev, evs, evO, give, giveI, binOf, isNilK, np_nilp, np_ptr, np_lref, np_cref, ns_nils, ns_lst, ns_sl, nf_nilf, nf_fnc, ni_nili, ni_iface, PM.flip, putT, putL, putH, binInt, callM_eff, loadOf, storeOf, cut, over, ofCells, asNat, natOr, calm, clashes, Acc.clash, ressOf, resOf, out_agg, out_tup, out_fnc, outs_nil, outs_cons, len_nils, len_lst, len_sl, scal_fnc, frz, frz.frzs, snap, snap.snaps, DV.pure, DV.pure.pures, DV.flat, DV.flat.flats, unOf, binStr, ansT, out_imm, out_ptr, out_sl, cells_imm, cells_ptr, cells_sl, cells_agg, scal_int, scal_bool, scal_str, scal_nils, scal_nilp, scal_lst, scal_ptr, scal_sl, Option.map, List.length_cons, List.length_nil, reduceIte, Nat.reduceEqDiff, Nat.reduceAdd]
    generalize hrun : D.l6_1.run GG (K GG 29) 0 _ = r
    obtain ⟨s', rfl, r0, r1, r5, r7, rH, rn⟩ : ∃ s', r = some (.exit 2, s') ∧ s'.T.get 0 = some (.imm (.int .i64 k)) ∧ s'.T.get 1 = some (.imm (.lst false 3 (zs.map fun z => [.int .i64 z.1, .int .i64 z.2.1, .int .i64 z.2.2]))) ∧ s'.T.get 5 = some (.ptr 2 0 0) ∧ s'.T.get 7 = some (.imm (.int .i64 i)) ∧ s'.H = H' ∧ 11 ≤ s'.n := by
      rw [← hrun]
      refine fin _ ?_ ?_ ?_ ?_ ?_ ?_ ?_ ?_ ?_ <;> simp [PT.get_put, ivB]
      omega
    clear hrun
    simp [r7, hw, run_seq, run_cond, run_block, run_reg, run_reg0, run_drw, run_skip, run_ret, run_exit, then_norm, then_ret, then_exit, cd_true, cd_false, block_norm, block_ret, block_exit, reg_nil, reg_cons, ops_nil, ops_cons, opsThen_nil, opsThen_cons, calm_some, res_norm, res_ret, fnEnd, argsT, opRun, PT.get_put, dstep, ev, evs, evO, give, giveI, binOf, isNilK, np_nilp, np_ptr, np_lref, np_cref, ns_nils, ns_lst, ns_sl, nf_nilf, nf_fnc, ni_nili, ni_iface, PM.flip, putT, putL, putH, binInt, callM_eff, loadOf, storeOf, cut, over, ofCells, asNat, natOr, calm, clashes, Acc.clash, ressOf, resOf, out_agg, out_tup, out_fnc, outs_nil, outs_cons, len_nils, len_lst, len_sl, scal_fnc, frz, frz.frzs, snap, snap.snaps, DV.pure, DV.pure.pures, DV.flat, DV.flat.flats, unOf, binStr, ansT, out_imm, out_ptr, out_sl, cells_imm, cells_ptr, cells_sl, cells_agg, scal_int, scal_bool, scal_str, scal_nils, scal_nilp, scal_lst, scal_ptr, scal_sl, Option.map, List.length_cons, List.length_nil, reduceIte, Nat.reduceEqDiff, Nat.reduceAdd]
    exact ⟨by simp [PT.get_put, r0], by simp [PT.get_put, r1], by simp [PT.get_put, r5], by simp [PT.get_put], by simpa using rn, p', by rw [← rH] at e2; exact e2⟩

def actR (z : Int × Int × Int) : List IV := [.int .i64 z.1, .int .i64 z.2.1, .int .i64 z.2.2]
theorem loopA {k : Nat} (hk : k < 4) (zs : List (Int × Int × Int)) (hlen : zs.length ≤ 10000) (s : St) (h : IA (zs.map fun z => [.int .i64 z.1, .int .i64 z.2.1, .int .i64 z.2.2]) k 0 s) : ∃ s', D.l6_0.run GG (K GG 29) 0 s = some (.exit 0, s') := by
  obtain ⟨e, s', q1, q2, rfl⟩ := iter_ind (f := loopRun GG (K GG 29) 0 [0, 1, 5, 7] [] D.l6_0b) (fun m s => ∃ i : Nat, IA (zs.map fun z => [.int .i64 z.1, .int .i64 z.2.1, .int .i64 z.2.2]) k i s ∧ m = zs.length - i) (fun e s' => e = .exit 0)
    (fun m s ⟨i, hI, hm⟩ => by
      by_cases hi : i < zs.length
      · by_cases h60 : i < 60
        · obtain ⟨s', e1, e2⟩ := roundA hk zs i s hI hi h60
          exact .inl ⟨s', _, e1, by omega, i + 1, e2, rfl⟩
        · obtain ⟨h0, h1, h5, h7, hn, p, hf⟩ := hI
          have hi' : (i : Int) < zs.length := by omega
          have hi60 : ¬ (i : Int) < 60 := by omega
          refine .inr ⟨.exit 0, ?_⟩
          simp only [loopRun_eq, D.l6_0b, keep, run_seq, run_cond, run_block, run_reg, run_reg0, run_drw, run_skip, run_ret, run_exit, then_norm, then_ret, then_exit, cd_true, cd_false, block_norm, block_ret, block_exit, reg_nil, reg_cons, ops_nil, ops_cons, opsThen_nil, opsThen_cons, calm_some, res_norm, res_ret, fnEnd, argsT, opRun, PT.get_put, dstep, ev, evs, evO, give, giveI, binOf, isNilK, np_nilp, np_ptr, np_lref, np_cref, ns_nils, ns_lst, ns_sl, nf_nilf, nf_fnc, ni_nili, ni_iface, PM.flip, putT, putL, putH, binInt, callM_eff, loadOf, storeOf, cut, over, ofCells, asNat, natOr, calm, clashes, Acc.clash, ressOf, resOf, out_agg, out_tup, out_fnc, outs_nil, outs_cons, len_nils, len_lst, len_sl, scal_fnc, frz, frz.frzs, snap, snap.snaps, DV.pure, DV.pure.pures, DV.flat, DV.flat.flats, unOf, binStr, ansT, out_imm, out_ptr, out_sl, cells_imm, cells_ptr, cells_sl, cells_agg, scal_int, scal_bool, scal_str, scal_nils, scal_nilp, scal_lst, scal_ptr, scal_sl, Option.map, List.length_cons, List.length_nil, reduceIte, Nat.reduceEqDiff, Nat.reduceAdd]
          simp [h0, h1, h5, h7, hi', hi, hi60, h60, run_seq, run_cond, run_block, run_reg, run_reg0, run_drw, run_skip, run_ret, run_exit, then_norm, then_ret, then_exit, cd_true, cd_false, block_norm, block_ret, block_exit, reg_nil, reg_cons, ops_nil, ops_cons, opsThen_nil, opsThen_cons, calm_some, res_norm, res_ret, fnEnd, argsT, opRun, PT.get_put, dstep, ev, evs, evO, give, giveI, binOf, isNilK, np_nilp, np_ptr, np_lref, np_cref, ns_nils, ns_lst, ns_sl, nf_nilf, nf_fnc, ni_nili, ni_iface, PM.flip, putT, putL, putH, binInt, callM_eff, loadOf, storeOf, cut, over, ofCells, asNat, natOr, calm, clashes, Acc.clash, ressOf, resOf, out_agg, out_tup, out_fnc, outs_nil, outs_cons, len_nils, len_lst, len_sl, scal_fnc, frz, frz.frzs, snap, snap.snaps, DV.pure, DV.pure.pures, DV.flat, DV.flat.flats, unOf, binStr, ansT, out_imm, out_ptr, out_sl, cells_imm, cells_ptr, cells_sl, cells_agg, scal_int, scal_bool, scal_str, scal_nils, scal_nilp, scal_lst, scal_ptr, scal_sl, Option.map, List.length_cons, List.length_nil, reduceIte, Nat.reduceEqDiff, Nat.reduceAdd]
      · obtain ⟨h0, h1, h5, h7, hn, p, hf⟩ := hI
        have hi' : ¬ (i : Int) < zs.length := by omega
        refine .inr ⟨.exit 0, ?_⟩
        simp only [loopRun_eq, D.l6_0b, keep, run_seq, run_cond, run_block, run_reg, run_reg0, run_drw, run_skip, run_ret, run_exit, then_norm, then_ret, then_exit, cd_true, cd_false, block_norm, block_ret, block_exit, reg_nil, reg_cons, ops_nil, ops_cons, opsThen_nil, opsThen_cons, calm_some, res_norm, res_ret, fnEnd, argsT, opRun, PT.get_put, dstep, ev, evs, evO, give, giveI, binOf, isNilK, np_nilp, np_ptr, np_lref, np_cref, ns_nils, ns_lst, ns_sl, nf_nilf, nf_fnc, ni_nili, ni_iface, PM.flip, putT, putL, putH, binInt, callM_eff, loadOf, storeOf, cut, over, ofCells, asNat, natOr, calm, clashes, Acc.clash, ressOf, resOf, out_agg, out_tup, out_fnc, outs_nil, outs_cons, len_nils, len_lst, len_sl, scal_fnc, frz, frz.frzs, snap, snap.snaps, DV.pure, DV.pure.pures, DV.flat, DV.flat.flats, unOf, binStr, ansT, out_imm, out_ptr, out_sl, cells_imm, cells_ptr, cells_sl, cells_agg, scal_int, scal_bool, scal_str, scal_nils, scal_nilp, scal_lst, scal_ptr, scal_sl, Option.map, List.length_cons, List.length_nil, reduceIte, Nat.reduceEqDiff, Nat.reduceAdd]
        simp [h0, h1, h5, h7, hi', hi, run_seq, run_cond, run_block, run_reg, run_reg0, run_drw, run_skip, run_ret, run_exit, then_norm, then_ret, then_exit, cd_true, cd_false, block_norm, block_ret, block_exit, reg_nil, reg_cons, ops_nil, ops_cons, opsThen_nil, opsThen_cons, calm_some, res_norm, res_ret, fnEnd, argsT, opRun, PT.get_put, dstep, ev, evs, evO, give, giveI, binOf, isNilK, np_nilp, np_ptr, np_lref, np_cref, ns_nils, ns_lst, ns_sl, nf_nilf, nf_fnc, ni_nili, ni_iface, PM.flip, putT, putL, putH, binInt, callM_eff, loadOf, storeOf, cut, over, ofCells, asNat, natOr, calm, clashes, Acc.clash, ressOf, resOf, out_agg, out_tup, out_fnc, outs_nil, outs_cons, len_nils, len_lst, len_sl, scal_fnc, frz, frz.frzs, snap, snap.snaps, DV.pure, DV.pure.pures, DV.flat, DV.flat.flats, unOf, binStr, ansT, out_imm, out_ptr, out_sl, cells_imm, cells_ptr, cells_sl, cells_agg, scal_int, scal_bool, scal_str, scal_nils, scal_nilp, scal_lst, scal_ptr, scal_sl, Option.map, List.length_cons, List.length_nil, reduceIte, Nat.reduceEqDiff, Nat.reduceAdd]) zs.length LOOP s ⟨0, h, by omega⟩ (by unfold LOOP; omega)
  exact ⟨s', q1⟩

def ss_FieldApart : List (Bool × List Kd) := [(false, [.i .i64]), (false, [.sl [.i .i64, .i .i64, .i .i64]])]
theorem pure_FieldApart : ∀ cs, ArgsFit ss_FieldApart cs → ∃ H' n', K GG 30 6 cs .lf 0 0 = some (.imm (.bool true), H', n') := fun cs h0 => by
  obtain ⟨d0, r0, rfl, g0, h1⟩ := fit_cons h0
  obtain ⟨d1, r1, rfl, g1, h2⟩ := fit_cons h1
  cases fit0 (r := []) h2
  obtain ⟨n, rfl, _⟩ := fit_i g0
  obtain ⟨a, rfl, ha⟩ := fit_s g1
  obtain ⟨v, H0, hv, e1, e2, hf⟩ := new_four
  have ek := known6
  rw [D.k6]
  by_cases c0 : n < 0
  · simp only [D.f6, fn_run, run_seq, run_cond, run_block, run_reg, run_reg0, run_drw, run_skip, run_ret, run_exit, then_norm, then_ret, then_exit, cd_true, cd_false, block_norm, block_ret, block_exit, reg_nil, reg_cons, ops_nil, ops_cons, opsThen_nil, opsThen_cons, calm_some, res_norm, res_ret, fnEnd, argsT, opRun, PT.get_put, dstep, ev, evs, evO, give, giveI, binOf, isNilK, np_nilp, np_ptr, np_lref, np_cref, ns_nils, ns_lst, ns_sl, nf_nilf, nf_fnc, ni_nili, ni_iface, PM.flip, putT, putL, putH, binInt, callM_eff, loadOf, storeOf, cut, over, ofCells, asNat, natOr, calm, clashes, Acc.clash, ressOf, resOf, out_agg, out_tup, out_fnc, outs_nil, outs_cons, len_nils, len_lst, len_sl, scal_fnc, frz, frz.frzs, snap, snap.snaps, DV.pure, DV.pure.pures, DV.flat, DV.flat.flats, unOf, binStr, ansT, out_imm, out_ptr, out_sl, cells_imm, cells_ptr, cells_sl, cells_agg, scal_int, scal_bool, scal_str, scal_nils, scal_nilp, scal_lst, scal_ptr, scal_sl, Option.map, List.length_cons, List.length_nil, reduceIte, Nat.reduceEqDiff, Nat.reduceAdd]
    simp [c0, run_seq, run_cond, run_block, run_reg, run_reg0, run_drw, run_skip, run_ret, run_exit, then_norm, then_ret, then_exit, cd_true, cd_false, block_norm, block_ret, block_exit, reg_nil, reg_cons, ops_nil, ops_cons, opsThen_nil, opsThen_cons, calm_some, res_norm, res_ret, fnEnd, argsT, opRun, PT.get_put, dstep, ev, evs, evO, give, giveI, binOf, isNilK, np_nilp, np_ptr, np_lref, np_cref, ns_nils, ns_lst, ns_sl, nf_nilf, nf_fnc, ni_nili, ni_iface, PM.flip, putT, putL, putH, binInt, callM_eff, loadOf, storeOf, cut, over, ofCells, asNat, natOr, calm, clashes, Acc.clash, ressOf, resOf, out_agg, out_tup, out_fnc, outs_nil, outs_cons, len_nils, len_lst, len_sl, scal_fnc, frz, frz.frzs, snap, snap.snaps, DV.pure, DV.pure.pures, DV.flat, DV.flat.flats, unOf, binStr, ansT, out_imm, out_ptr, out_sl, cells_imm, cells_ptr, cells_sl, cells_agg, scal_int, scal_bool, scal_str, scal_nils, scal_nilp, scal_lst, scal_ptr, scal_sl, Option.map, List.length_cons, List.length_nil, reduceIte, Nat.reduceEqDiff, Nat.reduceAdd]
  by_cases c1 : 3 < n
  · simp only [D.f6, fn_run, run_seq, run_cond, run_block, run_reg, run_reg0, run_drw, run_skip, run_ret, run_exit, then_norm, then_ret, then_exit, cd_true, cd_false, block_norm, block_ret, block_exit, reg_nil, reg_cons, ops_nil, ops_cons, opsThen_nil, opsThen_cons, calm_some, res_norm, res_ret, fnEnd, argsT, opRun, PT.get_put, dstep, ev, evs, evO, give, giveI, binOf, isNilK, np_nilp, np_ptr, np_lref, np_cref, ns_nils, ns_lst, ns_sl, nf_nilf, nf_fnc, ni_nili, ni_iface, PM.flip, putT, putL, putH, binInt, callM_eff, loadOf, storeOf, cut, over, ofCells, asNat, natOr, calm, clashes, Acc.clash, ressOf, resOf, out_agg, out_tup, out_fnc, outs_nil, outs_cons, len_nils, len_lst, len_sl, scal_fnc, frz, frz.frzs, snap, snap.snaps, DV.pure, DV.pure.pures, DV.flat, DV.flat.flats, unOf, binStr, ansT, out_imm, out_ptr, out_sl, cells_imm, cells_ptr, cells_sl, cells_agg, scal_int, scal_bool, scal_str, scal_nils, scal_nilp, scal_lst, scal_ptr, scal_sl, Option.map, List.length_cons, List.length_nil, reduceIte, Nat.reduceEqDiff, Nat.reduceAdd]
    simp [c0, c1, run_seq, run_cond, run_block, run_reg, run_reg0, run_drw, run_skip, run_ret, run_exit, then_norm, then_ret, then_exit, cd_true, cd_false, block_norm, block_ret, block_exit, reg_nil, reg_cons, ops_nil, ops_cons, opsThen_nil, opsThen_cons, calm_some, res_norm, res_ret, fnEnd, argsT, opRun, PT.get_put, dstep, ev, evs, evO, give, giveI, binOf, isNilK, np_nilp, np_ptr, np_lref, np_cref, ns_nils, ns_lst, ns_sl, nf_nilf, nf_fnc, ni_nili, ni_iface, PM.flip, putT, putL, putH, binInt, callM_eff, loadOf, storeOf, cut, over, ofCells, asNat, natOr, calm, clashes, Acc.clash, ressOf, resOf, out_agg, out_tup, out_fnc, outs_nil, outs_cons, len_nils, len_lst, len_sl, scal_fnc, frz, frz.frzs, snap, snap.snaps, DV.pure, DV.pure.pures, DV.flat, DV.flat.flats, unOf, binStr, ansT, out_imm, out_ptr, out_sl, cells_imm, cells_ptr, cells_sl, cells_agg, scal_int, scal_bool, scal_str, scal_nils, scal_nilp, scal_lst, scal_ptr, scal_sl, Option.map, List.length_cons, List.length_nil, reduceIte, Nat.reduceEqDiff, Nat.reduceAdd]
  obtain ⟨k, rfl⟩ : ∃ k : Nat, n = k := ⟨n.toNat, by omega⟩
  have hk : k < 4 := by omega
  have c1' : ¬ 3 < k := by omega
  rcases acts_of_fit ha with rfl | ⟨zs, rfl⟩
  · obtain ⟨j, hL⟩ : ∃ j, LOOP = j + 1 := ⟨2 ^ 62 - 1, rfl⟩
    simp only [D.f6, D.l6_0, fn_run, run_loop, hL, run_seq, run_cond, run_block, run_reg, run_reg0, run_drw, run_skip, run_ret, run_exit, then_norm, then_ret, then_exit, cd_true, cd_false, block_norm, block_ret, block_exit, reg_nil, reg_cons, ops_nil, ops_cons, opsThen_nil, opsThen_cons, calm_some, res_norm, res_ret, fnEnd, argsT, opRun, PT.get_put, dstep, ev, evs, evO, give, giveI, binOf, isNilK, np_nilp, np_ptr, np_lref, np_cref, ns_nils, ns_lst, ns_sl, nf_nilf, nf_fnc, ni_nili, ni_iface, PM.flip, putT, putL, putH, binInt, callM_eff, loadOf, storeOf, cut, over, ofCells, asNat, natOr, calm, clashes, Acc.clash, ressOf, resOf, out_agg, out_tup, out_fnc, outs_nil, outs_cons, len_nils, len_lst, len_sl, scal_fnc, frz, frz.frzs, snap, snap.snaps, DV.pure, DV.pure.pures, DV.flat, DV.flat.flats, unOf, binStr, ansT, out_imm, out_ptr, out_sl, cells_imm, cells_ptr, cells_sl, cells_agg, scal_int, scal_bool, scal_str, scal_nils, scal_nilp, scal_lst, scal_ptr, scal_sl, Option.map, List.length_cons, List.length_nil, reduceIte, Nat.reduceEqDiff, Nat.reduceAdd]
    simp [c0, c1, c1', e1, e2, ek, hv, D.l6_0, D.l6_0b, run_loop, hL, iter, loopRun_eq, keep, run_seq, run_cond, run_block, run_reg, run_reg0, run_drw, run_skip, run_ret, run_exit, then_norm, then_ret, then_exit, cd_true, cd_false, block_norm, block_ret, block_exit, reg_nil, reg_cons, ops_nil, ops_cons, opsThen_nil, opsThen_cons, calm_some, res_norm, res_ret, fnEnd, argsT, opRun, PT.get_put, dstep, ev, evs, evO, give, giveI, binOf, isNilK, np_nilp, np_ptr, np_lref, np_cref, ns_nils, ns_lst, ns_sl, nf_nilf, nf_fnc, ni_nili, ni_iface, PM.flip, putT, putL, putH, binInt, callM_eff, loadOf, storeOf, cut, over, ofCells, asNat, natOr, calm, clashes, Acc.clash, ressOf, resOf, out_agg, out_tup, out_fnc, outs_nil, outs_cons, len_nils, len_lst, len_sl, scal_fnc, frz, frz.frzs, snap, snap.snaps, DV.pure, DV.pure.pures, DV.flat, DV.flat.flats, unOf, binStr, ansT, out_imm, out_ptr, out_sl, cells_imm, cells_ptr, cells_sl, cells_agg, scal_int, scal_bool, scal_str, scal_nils, scal_nilp, scal_lst, scal_ptr, scal_sl, Option.map, List.length_cons, List.length_nil, reduceIte, Nat.reduceEqDiff, Nat.reduceAdd]
  · by_cases hA : 10000 < zs.length
    · have hA' : (10000 : Int) < zs.length := by omega
      simp only [D.f6, fn_run, run_seq, run_cond, run_block, run_reg, run_reg0, run_drw, run_skip, run_ret, run_exit, then_norm, then_ret, then_exit, cd_true, cd_false, block_norm, block_ret, block_exit, reg_nil, reg_cons, ops_nil, ops_cons, opsThen_nil, opsThen_cons, calm_some, res_norm, res_ret, fnEnd, argsT, opRun, PT.get_put, dstep, ev, evs, evO, give, giveI, binOf, isNilK, np_nilp, np_ptr, np_lref, np_cref, ns_nils, ns_lst, ns_sl, nf_nilf, nf_fnc, ni_nili, ni_iface, PM.flip, putT, putL, putH, binInt, callM_eff, loadOf, storeOf, cut, over, ofCells, asNat, natOr, calm, clashes, Acc.clash, ressOf, resOf, out_agg, out_tup, out_fnc, outs_nil, outs_cons, len_nils, len_lst, len_sl, scal_fnc, frz, frz.frzs, snap, snap.snaps, DV.pure, DV.pure.pures, DV.flat, DV.flat.flats, unOf, binStr, ansT, out_imm, out_ptr, out_sl, cells_imm, cells_ptr, cells_sl, cells_agg, scal_int, scal_bool, scal_str, scal_nils, scal_nilp, scal_lst, scal_ptr, scal_sl, Option.map, List.length_cons, List.length_nil, reduceIte, Nat.reduceEqDiff, Nat.reduceAdd]
      simp [c0, c1, c1', hA, hA', run_seq, run_cond, run_block, run_reg, run_reg0, run_drw, run_skip, run_ret, run_exit, then_norm, then_ret, then_exit, cd_true, cd_false, block_norm, block_ret, block_exit, reg_nil, reg_cons, ops_nil, ops_cons, opsThen_nil, opsThen_cons, calm_some, res_norm, res_ret, fnEnd, argsT, opRun, PT.get_put, dstep, ev, evs, evO, give, giveI, binOf, isNilK, np_nilp, np_ptr, np_lref, np_cref, ns_nils, ns_lst, ns_sl, nf_nilf, nf_fnc, ni_nili, ni_iface, PM.flip, putT, putL, putH, binInt, callM_eff, loadOf, storeOf, cut, over, ofCells, asNat, natOr, calm, clashes, Acc.clash, ressOf, resOf, out_agg, out_tup, out_fnc, outs_nil, outs_cons, len_nils, len_lst, len_sl, scal_fnc, frz, frz.frzs, snap, snap.snaps, DV.pure, DV.pure.pures, DV.flat, DV.flat.flats, unOf, binStr, ansT, out_imm, out_ptr, out_sl, cells_imm, cells_ptr, cells_sl, cells_agg, scal_int, scal_bool, scal_str, scal_nils, scal_nilp, scal_lst, scal_ptr, scal_sl, Option.map, List.length_cons, List.length_nil, reduceIte, Nat.reduceEqDiff, Nat.reduceAdd]
    have hA' : ¬ (10000 : Int) < zs.length := by omega
    simp only [D.f6, fn_run, run_seq, run_cond, run_block, run_reg, run_reg0, run_drw, run_skip, run_ret, run_exit, then_norm, then_ret, then_exit, cd_true, cd_false, block_norm, block_ret, block_exit, reg_nil, reg_cons, ops_nil, ops_cons, opsThen_nil, opsThen_cons, calm_some, res_norm, res_ret, fnEnd, argsT, opRun, PT.get_put, dstep, ev, evs, evO, give, giveI, binOf, isNilK, np_nilp, np_ptr, np_lref, np_cref, ns_nils, ns_lst, ns_sl, nf_nilf, nf_fnc, ni_nili, ni_iface, PM.flip, putT, putL, putH, binInt, callM_eff, loadOf, storeOf, cut, over, ofCells, asNat, natOr, calm, clashes, Acc.clash, ressOf, resOf, out_agg, out_tup, out_fnc, outs_nil, outs_cons, len_nils, len_lst, len_sl, scal_fnc, frz, frz.frzs, snap, snap.snaps, DV.pure, DV.pure.pures, DV.flat, DV.flat.flats, unOf, binStr, ansT, out_imm, out_ptr, out_sl, cells_imm, cells_ptr, cells_sl, cells_agg, scal_int, scal_bool, scal_str, scal_nils, scal_nilp, scal_lst, scal_ptr, scal_sl, Option.map, List.length_cons, List.length_nil, reduceIte, Nat.reduceEqDiff, Nat.reduceAdd]
    simp [c0, c1, c1', hA, hA', e1, e2, hv, run_seq, run_cond, run_block, run_reg, run_reg0, run_drw, run_skip, run_ret, run_exit, then_norm, then_ret, then_exit, cd_true, cd_false, block_norm, block_ret, block_exit, reg_nil, reg_cons, ops_nil, ops_cons, opsThen_nil, opsThen_cons, calm_some, res_norm, res_ret, fnEnd, argsT, opRun, PT.get_put, dstep, ev, evs, evO, give, giveI, binOf, isNilK, np_nilp, np_ptr, np_lref, np_cref, ns_nils, ns_lst, ns_sl, nf_nilf, nf_fnc, ni_nili, ni_iface, PM.flip, putT, putL, putH, binInt, callM_eff, loadOf, storeOf, cut, over, ofCells, asNat, natOr, calm, clashes, Acc.clash, ressOf, resOf, out_agg, out_tup, out_fnc, outs_nil, outs_cons, len_nils, len_lst, len_sl, scal_fnc, frz, frz.frzs, snap, snap.snaps, DV.pure, DV.pure.pures, DV.flat, DV.flat.flats, unOf, binStr, ansT, out_imm, out_ptr, out_sl, cells_imm, cells_ptr, cells_sl, cells_agg, scal_int, scal_bool, scal_str, scal_nils, scal_nilp, scal_lst, scal_ptr, scal_sl, Option.map, List.length_cons, List.length_nil, reduceIte, Nat.reduceEqDiff, Nat.reduceAdd]
    generalize hrun : D.l6_0.run GG (K GG 29) 0 _ = r
    obtain ⟨s', rfl⟩ : ∃ s', r = some (.exit 0, s') := by
      rw [← hrun]
      refine loopA hk zs (by omega) _ ?_
      have hf' : Fd H0 2 [1, 10] [false] (ptsK k ⟨1, 0, 0⟩) := by
        have : ptsK k ⟨1, 0, 0⟩ = [⟨1, 0, 0⟩, ⟨1, 0, 0⟩, ⟨1, 0, 0⟩, ⟨1, 0, 0⟩] := by
          obtain rfl | rfl | rfl | rfl : k = 0 ∨ k = 1 ∨ k = 2 ∨ k = 3 := by omega
          all_goals rfl
        rw [this]; exact hf
      refine ⟨?_, ?_, ?_, ?_, ?_, _, hf'⟩ <;> simp [PT.get_put]
    clear hrun
    simp [ek, run_seq, run_cond, run_block, run_reg, run_reg0, run_drw, run_skip, run_ret, run_exit, then_norm, then_ret, then_exit, cd_true, cd_false, block_norm, block_ret, block_exit, reg_nil, reg_cons, ops_nil, ops_cons, opsThen_nil, opsThen_cons, calm_some, res_norm, res_ret, fnEnd, argsT, opRun, PT.get_put, dstep, ev, evs, evO, give, giveI, binOf, isNilK, np_nilp, np_ptr, np_lref, np_cref, ns_nils, ns_lst, ns_sl, nf_nilf, nf_fnc, ni_nili, ni_iface, PM.flip, putT, putL, putH, binInt, callM_eff, loadOf, storeOf, cut, over, ofCells, asNat, natOr, calm, clashes, Acc.clash, ressOf, resOf, out_agg, out_tup, out_fnc, outs_nil, outs_cons, len_nils, len_lst, len_sl, scal_fnc, frz, frz.frzs, snap, snap.snaps, DV.pure, DV.pure.pures, DV.flat, DV.flat.flats, unOf, binStr, ansT, out_imm, out_ptr, out_sl, cells_imm, cells_ptr, cells_sl, cells_agg, scal_int, scal_bool, scal_str, scal_nils, scal_nilp, scal_lst, scal_ptr, scal_sl, Option.map, List.length_cons, List.length_nil, reduceIte, Nat.reduceEqDiff, Nat.reduceAdd]
end Go.Proofs.YtbhmihigfncfgabDoor.D
