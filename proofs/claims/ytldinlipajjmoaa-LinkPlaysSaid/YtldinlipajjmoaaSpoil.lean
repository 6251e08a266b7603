/-
  LinkSpoils over D: what is lost does not come; what is spoilt differs in one byte.
-/
import Derived.Test.YtldinlipajjmoaaLawL
set_option linter.unusedVariables false
set_option linter.unusedSimpArgs false
set_option maxHeartbeats 8000000
namespace Go.Proofs.Ytldinlipajjmoaa.D
open Go Go.PM

theorem byte_all {P : UInt8 → Prop} (h : ∀ n, n < 256 → P (UInt8.ofNat n)) (c : UInt8) : P c := by
  have := h c.toNat c.toNat_lt
  simpa using this
theorem xw (c : UInt8) : IntKind.u8.wrap ((c.toNat % 2 ^ IntKind.u8.bits ^^^ 1 % 2 ^ IntKind.u8.bits : Nat) : Int) = ((c ^^^ 1).toNat : Int) :=
  byte_all (P := fun c => IntKind.u8.wrap ((c.toNat % 2 ^ IntKind.u8.bits ^^^ 1 % 2 ^ IntKind.u8.bits : Nat) : Int) = ((c ^^^ 1).toNat : Int)) (by decide +kernel) c
theorem xw2 (c : UInt8) : IntKind.u8.wrap ((c.toNat % 2 ^ IntKind.u8.bits ^^^ (c ^^^ 1).toNat % 2 ^ IntKind.u8.bits : Nat) : Int) = 1 :=
  byte_all (P := fun c => IntKind.u8.wrap ((c.toNat % 2 ^ IntKind.u8.bits ^^^ (c ^^^ 1).toNat % 2 ^ IntKind.u8.bits : Nat) : Int) = 1) (by decide +kernel) c
theorem xne (c : UInt8) : ¬ c.toNat = (c ^^^ 1).toNat := byte_all (P := fun c => ¬ c.toNat = (c ^^^ 1).toNat) (by decide +kernel) c

theorem turn_lose (d : Nat) {p : Nat} {v0 v1 v2 v3 : DV} {H : PT HB} {n : Nat} {s : Int} (hp : H.get p = some ⟨4, [[v0, v1, v2, v3]]⟩) :
    ∃ H', K noG (d + 1) 13 [.ptr p 0 0, .imm (.bool true), .imm (.int .i64 s)] H n 0 = some (.tup [], H', n) ∧ H'.get p = some ⟨4, [[.imm .nils, .imm .nils, .imm .nils, .imm .nils]]⟩ := by
  rw [D.k13]
  obtain ⟨k, hL⟩ : ∃ k, LOOP = k + 1 + 1 + 1 := ⟨2 ^ 62 - 3, rfl⟩
  simp only [D.f13, D.l13_0, D.l13_0b, fn_run, run_loop, hL, run_seq, run_cond, run_block, run_reg, run_reg0, run_drw, run_skip, run_ret, run_exit, then_norm, then_ret, then_exit, cd_true, cd_false, block_norm, block_ret, block_exit, reg_nil, reg_cons, ops_nil, ops_cons, opsThen_nil, opsThen_cons, calm_some, res_norm, res_ret, fnEnd, argsT, opRun, PT.get_put, dstep, ev, evs, evO, give, giveI, binOf, isNilK, np_nilp, np_ptr, np_lref, np_cref, ns_nils, ns_lst, ns_sl, nf_nilf, nf_fnc, ni_nili, ni_iface, PM.flip, putT, putL, putH, binInt, callM, loadOf, storeOf, cut, over, ofCells, asNat, natOr, calm, clashes, Acc.clash, ressOf, resOf, out_agg, out_tup, out_fnc, outs_nil, outs_cons, len_nils, len_lst, len_sl, scal_fnc, frz, frz.frzs, snap, snap.snaps, DV.pure, DV.pure.pures, DV.flat, DV.flat.flats, unOf, binStr, ansT, out_imm, out_ptr, out_sl, cells_imm, cells_ptr, cells_sl, cells_agg, scal_int, scal_bool, scal_str, scal_nils, scal_nilp, scal_lst, scal_ptr, scal_sl, Option.map, List.length_cons, List.length_nil, reduceIte, Nat.reduceEqDiff, Nat.reduceAdd]
  simp [w0, w1, w2, D.l13_0, D.l13_0b, run_loop, hL, iter, loopRun_eq, keep, hp, run_seq, run_cond, run_block, run_reg, run_reg0, run_drw, run_skip, run_ret, run_exit, then_norm, then_ret, then_exit, cd_true, cd_false, block_norm, block_ret, block_exit, reg_nil, reg_cons, ops_nil, ops_cons, opsThen_nil, opsThen_cons, calm_some, res_norm, res_ret, fnEnd, argsT, opRun, PT.get_put, dstep, ev, evs, evO, give, giveI, binOf, isNilK, np_nilp, np_ptr, np_lref, np_cref, ns_nils, ns_lst, ns_sl, nf_nilf, nf_fnc, ni_nili, ni_iface, PM.flip, putT, putL, putH, binInt, callM, loadOf, storeOf, cut, over, ofCells, asNat, natOr, calm, clashes, Acc.clash, ressOf, resOf, out_agg, out_tup, out_fnc, outs_nil, outs_cons, len_nils, len_lst, len_sl, scal_fnc, frz, frz.frzs, snap, snap.snaps, DV.pure, DV.pure.pures, DV.flat, DV.flat.flats, unOf, binStr, ansT, out_imm, out_ptr, out_sl, cells_imm, cells_ptr, cells_sl, cells_agg, scal_int, scal_bool, scal_str, scal_nils, scal_nilp, scal_lst, scal_ptr, scal_sl, Option.map, List.length_cons, List.length_nil, reduceIte, Nat.reduceEqDiff, Nat.reduceAdd]

theorem turn_bad (d : Nat) {p id : Nat} {bs : List UInt8} {H : PT HB} {n : Nat} {s : Int} {k : Nat} {c : UInt8} (hp : H.get p = some ⟨4, [[.imm .nils, .sl id 0 bs.length bs.length, .imm .nils, .imm .nils]]⟩) (hid : H.get id = some ⟨1, bs.map rowB⟩)
    (hne : id ≠ p) (hs : 0 ≤ s) (hk : s.tmod bs.length = k) (hkl : k < bs.length) (hc : bs[k] = c) :
    ∃ H', K noG (d + 1) 13 [.ptr p 0 0, .imm (.bool false), .imm (.int .i64 s)] H n 0 = some (.tup [], H', n) ∧ H'.get p = some ⟨4, [[.imm .nils, .imm .nils, .sl id 0 bs.length bs.length, .imm .nils]]⟩ ∧
      H'.get id = some ⟨1, (bs.set k (c ^^^ 1)).map rowB⟩ := by
  rw [D.k13]
  obtain ⟨j, hL⟩ : ∃ j, LOOP = j + 1 + 1 + 1 := ⟨2 ^ 62 - 3, rfl⟩
  have hl : 0 < bs.length := by omega
  have hl' : (0 : Int) < bs.length := by omega
  have hz : ¬ (bs.length : Int) = 0 := by omega
  have hz' : ¬ bs = [] := fun h => by simp [h] at hl
  have hne' : ¬ p = id := fun h => hne h.symm
  have hset : (bs.map rowB).set k [.imm (.int .u8 ((c ^^^ 1).toNat : Int))] = (bs.set k (c ^^^ 1)).map rowB := by rw [List.map_set]; rfl
  have hc2 : bs[k]? = some c := by rw [List.getElem?_eq_getElem hkl, hc]
  simp only [D.f13, D.l13_0, D.l13_0b, fn_run, run_loop, hL, run_seq, run_cond, run_block, run_reg, run_reg0, run_drw, run_skip, run_ret, run_exit, then_norm, then_ret, then_exit, cd_true, cd_false, block_norm, block_ret, block_exit, reg_nil, reg_cons, ops_nil, ops_cons, opsThen_nil, opsThen_cons, calm_some, res_norm, res_ret, fnEnd, argsT, opRun, PT.get_put, dstep, ev, evs, evO, give, giveI, binOf, isNilK, np_nilp, np_ptr, np_lref, np_cref, ns_nils, ns_lst, ns_sl, nf_nilf, nf_fnc, ni_nili, ni_iface, PM.flip, putT, putL, putH, binInt, callM, loadOf, storeOf, cut, over, ofCells, asNat, natOr, calm, clashes, Acc.clash, ressOf, resOf, out_agg, out_tup, out_fnc, outs_nil, outs_cons, len_nils, len_lst, len_sl, scal_fnc, frz, frz.frzs, snap, snap.snaps, DV.pure, DV.pure.pures, DV.flat, DV.flat.flats, unOf, binStr, ansT, out_imm, out_ptr, out_sl, cells_imm, cells_ptr, cells_sl, cells_agg, scal_int, scal_bool, scal_str, scal_nils, scal_nilp, scal_lst, scal_ptr, scal_sl, Option.map, List.length_cons, List.length_nil, reduceIte, Nat.reduceEqDiff, Nat.reduceAdd]
  simp [w0, w1, w2, hs, hk, hl, hl', hz, hz', hne, hne', hkl, hc, hc2, rowB, hid, xw, D.l13_0, D.l13_0b, run_loop, hL, iter, loopRun_eq, keep, hp, run_seq, run_cond, run_block, run_reg, run_reg0, run_drw, run_skip, run_ret, run_exit, then_norm, then_ret, then_exit, cd_true, cd_false, block_norm, block_ret, block_exit, reg_nil, reg_cons, ops_nil, ops_cons, opsThen_nil, opsThen_cons, calm_some, res_norm, res_ret, fnEnd, argsT, opRun, PT.get_put, dstep, ev, evs, evO, give, giveI, binOf, isNilK, np_nilp, np_ptr, np_lref, np_cref, ns_nils, ns_lst, ns_sl, nf_nilf, nf_fnc, ni_nili, ni_iface, PM.flip, putT, putL, putH, binInt, callM, loadOf, storeOf, cut, over, ofCells, asNat, natOr, calm, clashes, Acc.clash, ressOf, resOf, out_agg, out_tup, out_fnc, outs_nil, outs_cons, len_nils, len_lst, len_sl, scal_fnc, frz, frz.frzs, snap, snap.snaps, DV.pure, DV.pure.pures, DV.flat, DV.flat.flats, unOf, binStr, ansT, out_imm, out_ptr, out_sl, cells_imm, cells_ptr, cells_sl, cells_agg, scal_int, scal_bool, scal_str, scal_nils, scal_nilp, scal_lst, scal_ptr, scal_sl, Option.map, List.length_cons, List.length_nil, reduceIte, Nat.reduceEqDiff, Nat.reduceAdd]

/-- The bytes that come, against those that were sent: in one place at most another one. -/
def Bad (as bs : List UInt8) (s : Int) : Prop :=
  bs.length = as.length ∧ ((s < 0 ∧ bs = as) ∨ (0 ≤ s ∧ ∃ k : Nat, s.tmod as.length = k ∧ k < as.length ∧ ∃ c, as[k]? = some c ∧ bs = as.set k (c ^^^ 1)))
def cnt (as : List UInt8) (s : Int) (i : Nat) : Int := if 0 ≤ s ∧ s.tmod as.length < i then 1 else 0
def I5 (as bs : List UInt8) (s : Int) (b : DV) (i : Nat) (t : St) : Prop :=
  t.T.get 0 = some (.imm (.lst false 1 (as.map rowOfByte))) ∧ t.T.get 2 = some (.imm (.int .i64 s)) ∧ t.T.get 8 = some b ∧ t.T.get 9 = some (.imm (.int .i64 (cnt as s i))) ∧ t.T.get 10 = some (.imm (.int .i64 i)) ∧
  ∃ id, b = .sl id 0 bs.length bs.length ∧ t.H.get id = some ⟨1, bs.map rowB⟩

theorem round5 {as bs : List UInt8} {s : Int} (hl : as.length ≤ 500) (hb : Bad as bs s) (b : DV) (i : Nat) (t : St) (h : I5 as bs s b i t) (hi : i < as.length) :
    ∃ t', l5_0b.run noG (K noG 11) 0 ⟨keep t.T [0, 2, 8, 9, 10], keep t.L [], t.H, t.n⟩ = some (.norm, t') ∧ I5 as bs s b (i + 1) t' := by
  obtain ⟨h0, h2, h8, h9, h10, id, rfl, hid⟩ := h
  have hi' : (i : Int) < as.length := by omega
  have hw : IntKind.i64.wrap ((i : Int) + 1) = (i : Int) + 1 := wr_id (by omega) (by omega)
  obtain ⟨hlen, hb⟩ := hb
  have hib : i < bs.length := by omega
  have hlz : ¬ (as.length : Int) = 0 := by omega
  have hlz' : ¬ as = [] := fun h => by simp [h] at hi
  rcases hb with ⟨hs, rfl⟩ | ⟨hs, k, hk, hkl, c, hc, rfl⟩
  · have hs' : ¬ 0 ≤ s := by omega
    have hcn : ∀ i, cnt bs s i = 0 := fun i => if_neg fun h => hs' h.1
    rw [hcn] at h9
    simp only [l5_0b, keep, run_seq, run_cond, run_block, run_reg, run_reg0, run_drw, run_skip, run_ret, run_exit, then_norm, then_ret, then_exit, cd_true, cd_false, block_norm, block_ret, block_exit, reg_nil, reg_cons, ops_nil, ops_cons, opsThen_nil, opsThen_cons, calm_some, res_norm, res_ret, fnEnd, argsT, opRun, PT.get_put, dstep, ev, evs, evO, give, giveI, binOf, isNilK, np_nilp, np_ptr, np_lref, np_cref, ns_nils, ns_lst, ns_sl, nf_nilf, nf_fnc, ni_nili, ni_iface, PM.flip, putT, putL, putH, binInt, callM, loadOf, storeOf, cut, over, ofCells, asNat, natOr, calm, clashes, Acc.clash, ressOf, resOf, out_agg, out_tup, out_fnc, outs_nil, outs_cons, len_nils, len_lst, len_sl, scal_fnc, frz, frz.frzs, snap, snap.snaps, DV.pure, DV.pure.pures, DV.flat, DV.flat.flats, unOf, binStr, ansT, out_imm, out_ptr, out_sl, cells_imm, cells_ptr, cells_sl, cells_agg, scal_int, scal_bool, scal_str, scal_nils, scal_nilp, scal_lst, scal_ptr, scal_sl, Option.map, List.length_cons, List.length_nil, reduceIte, Nat.reduceEqDiff, Nat.reduceAdd]
    simp [h0, h2, h8, h9, h10, hid, hi', hi, hw, rowOfByte, rowB, imms, racc_none, racc_some, run_seq, run_cond, run_block, run_reg, run_reg0, run_drw, run_skip, run_ret, run_exit, then_norm, then_ret, then_exit, cd_true, cd_false, block_norm, block_ret, block_exit, reg_nil, reg_cons, ops_nil, ops_cons, opsThen_nil, opsThen_cons, calm_some, res_norm, res_ret, fnEnd, argsT, opRun, PT.get_put, dstep, ev, evs, evO, give, giveI, binOf, isNilK, np_nilp, np_ptr, np_lref, np_cref, ns_nils, ns_lst, ns_sl, nf_nilf, nf_fnc, ni_nili, ni_iface, PM.flip, putT, putL, putH, binInt, callM, loadOf, storeOf, cut, over, ofCells, asNat, natOr, calm, clashes, Acc.clash, ressOf, resOf, out_agg, out_tup, out_fnc, outs_nil, outs_cons, len_nils, len_lst, len_sl, scal_fnc, frz, frz.frzs, snap, snap.snaps, DV.pure, DV.pure.pures, DV.flat, DV.flat.flats, unOf, binStr, ansT, out_imm, out_ptr, out_sl, cells_imm, cells_ptr, cells_sl, cells_agg, scal_int, scal_bool, scal_str, scal_nils, scal_nilp, scal_lst, scal_ptr, scal_sl, Option.map, List.length_cons, List.length_nil, reduceIte, Nat.reduceEqDiff, Nat.reduceAdd]
    simp only [I5, PT.get_put, hcn]
    simp [h0, h2, h8, h9, h10, hid, hw, rowOfByte, Function.comp_def]
  · by_cases hik : i = k
    · subst hik
      have hci : cnt as s i = 0 := if_neg fun h => by rw [hk] at h; omega
      have hci' : cnt as s (i + 1) = 1 := if_pos ⟨hs, by rw [hk]; omega⟩
      have hasc : as[i] = c := by rw [List.getElem?_eq_getElem hi] at hc; cases hc; rfl
      have w1 : IntKind.i64.wrap 1 = 1 := by decide
      have x1 := xne c
      have x2 := xw2 c
      have hset : (as.set i (c ^^^ 1))[i]? = some (c ^^^ 1) := by rw [List.getElem?_set_self hi]
      generalize c ^^^ 1 = c' at *
      have x3 : ((c.toNat : Int) != (c'.toNat : Int)) = true := by
        rw [bne_iff_ne]; omega
      have x4 : ¬ (c.toNat : Int) = (c'.toNat : Int) := by omega
      rw [hci] at h9
      simp only [l5_0b, keep, run_seq, run_cond, run_block, run_reg, run_reg0, run_drw, run_skip, run_ret, run_exit, then_norm, then_ret, then_exit, cd_true, cd_false, block_norm, block_ret, block_exit, reg_nil, reg_cons, ops_nil, ops_cons, opsThen_nil, opsThen_cons, calm_some, res_norm, res_ret, fnEnd, argsT, opRun, PT.get_put, dstep, ev, evs, evO, give, giveI, binOf, isNilK, np_nilp, np_ptr, np_lref, np_cref, ns_nils, ns_lst, ns_sl, nf_nilf, nf_fnc, ni_nili, ni_iface, PM.flip, putT, putL, putH, binInt, callM, loadOf, storeOf, cut, over, ofCells, asNat, natOr, calm, clashes, Acc.clash, ressOf, resOf, out_agg, out_tup, out_fnc, outs_nil, outs_cons, len_nils, len_lst, len_sl, scal_fnc, frz, frz.frzs, snap, snap.snaps, DV.pure, DV.pure.pures, DV.flat, DV.flat.flats, unOf, binStr, ansT, out_imm, out_ptr, out_sl, cells_imm, cells_ptr, cells_sl, cells_agg, scal_int, scal_bool, scal_str, scal_nils, scal_nilp, scal_lst, scal_ptr, scal_sl, Option.map, List.length_cons, List.length_nil, reduceIte, Nat.reduceEqDiff, Nat.reduceAdd]
      simp [h0, h2, h8, h9, h10, hid, hi', hi, hw, hk, hlz, hlz', hc, hasc, x1, x2, x3, x4, w1, rowOfByte, rowB, imms, racc_none, racc_some, run_seq, run_cond, run_block, run_reg, run_reg0, run_drw, run_skip, run_ret, run_exit, then_norm, then_ret, then_exit, cd_true, cd_false, block_norm, block_ret, block_exit, reg_nil, reg_cons, ops_nil, ops_cons, opsThen_nil, opsThen_cons, calm_some, res_norm, res_ret, fnEnd, argsT, opRun, PT.get_put, dstep, ev, evs, evO, give, giveI, binOf, isNilK, np_nilp, np_ptr, np_lref, np_cref, ns_nils, ns_lst, ns_sl, nf_nilf, nf_fnc, ni_nili, ni_iface, PM.flip, putT, putL, putH, binInt, callM, loadOf, storeOf, cut, over, ofCells, asNat, natOr, calm, clashes, Acc.clash, ressOf, resOf, out_agg, out_tup, out_fnc, outs_nil, outs_cons, len_nils, len_lst, len_sl, scal_fnc, frz, frz.frzs, snap, snap.snaps, DV.pure, DV.pure.pures, DV.flat, DV.flat.flats, unOf, binStr, ansT, out_imm, out_ptr, out_sl, cells_imm, cells_ptr, cells_sl, cells_agg, scal_int, scal_bool, scal_str, scal_nils, scal_nilp, scal_lst, scal_ptr, scal_sl, Option.map, List.length_cons, List.length_nil, reduceIte, Nat.reduceEqDiff, Nat.reduceAdd]
      simp only [I5, PT.get_put, hci']
      simp [h0, h2, h8, h9, h10, hid, hw, rowOfByte, Function.comp_def]
    · have hci : cnt as s (i + 1) = cnt as s i := by
        unfold cnt
        rw [hk]
        by_cases hki : (k : Int) < i
        · rw [if_pos ⟨hs, by omega⟩, if_pos ⟨hs, by omega⟩]
        · rw [if_neg (fun h => by have := h.2; omega), if_neg (fun h => by have := h.2; omega)]
      have hki : ¬ k = i := fun h => hik h.symm
      simp only [l5_0b, keep, run_seq, run_cond, run_block, run_reg, run_reg0, run_drw, run_skip, run_ret, run_exit, then_norm, then_ret, then_exit, cd_true, cd_false, block_norm, block_ret, block_exit, reg_nil, reg_cons, ops_nil, ops_cons, opsThen_nil, opsThen_cons, calm_some, res_norm, res_ret, fnEnd, argsT, opRun, PT.get_put, dstep, ev, evs, evO, give, giveI, binOf, isNilK, np_nilp, np_ptr, np_lref, np_cref, ns_nils, ns_lst, ns_sl, nf_nilf, nf_fnc, ni_nili, ni_iface, PM.flip, putT, putL, putH, binInt, callM, loadOf, storeOf, cut, over, ofCells, asNat, natOr, calm, clashes, Acc.clash, ressOf, resOf, out_agg, out_tup, out_fnc, outs_nil, outs_cons, len_nils, len_lst, len_sl, scal_fnc, frz, frz.frzs, snap, snap.snaps, DV.pure, DV.pure.pures, DV.flat, DV.flat.flats, unOf, binStr, ansT, out_imm, out_ptr, out_sl, cells_imm, cells_ptr, cells_sl, cells_agg, scal_int, scal_bool, scal_str, scal_nils, scal_nilp, scal_lst, scal_ptr, scal_sl, Option.map, List.length_cons, List.length_nil, reduceIte, Nat.reduceEqDiff, Nat.reduceAdd]
      simp [h0, h2, h8, h9, h10, hid, hi', hi, hw, hki, rowOfByte, rowB, imms, racc_none, racc_some, run_seq, run_cond, run_block, run_reg, run_reg0, run_drw, run_skip, run_ret, run_exit, then_norm, then_ret, then_exit, cd_true, cd_false, block_norm, block_ret, block_exit, reg_nil, reg_cons, ops_nil, ops_cons, opsThen_nil, opsThen_cons, calm_some, res_norm, res_ret, fnEnd, argsT, opRun, PT.get_put, dstep, ev, evs, evO, give, giveI, binOf, isNilK, np_nilp, np_ptr, np_lref, np_cref, ns_nils, ns_lst, ns_sl, nf_nilf, nf_fnc, ni_nili, ni_iface, PM.flip, putT, putL, putH, binInt, callM, loadOf, storeOf, cut, over, ofCells, asNat, natOr, calm, clashes, Acc.clash, ressOf, resOf, out_agg, out_tup, out_fnc, outs_nil, outs_cons, len_nils, len_lst, len_sl, scal_fnc, frz, frz.frzs, snap, snap.snaps, DV.pure, DV.pure.pures, DV.flat, DV.flat.flats, unOf, binStr, ansT, out_imm, out_ptr, out_sl, cells_imm, cells_ptr, cells_sl, cells_agg, scal_int, scal_bool, scal_str, scal_nils, scal_nilp, scal_lst, scal_ptr, scal_sl, Option.map, List.length_cons, List.length_nil, reduceIte, Nat.reduceEqDiff, Nat.reduceAdd]
      simp only [I5, PT.get_put, hci]
      simp [h0, h2, h8, h9, h10, hid, hw, rowOfByte, Function.comp_def]

theorem last5 {as bs : List UInt8} {s : Int} (b : DV) (i : Nat) (t : St) (h : I5 as bs s b i t) (hi : ¬ i < as.length) :
    ∃ t', l5_0b.run noG (K noG 11) 0 ⟨keep t.T [0, 2, 8, 9, 10], keep t.L [], t.H, t.n⟩ = some (.exit 0, t') ∧ (t'.T.get 2 = some (.imm (.int .i64 s)) ∧ t'.T.get 9 = some (.imm (.int .i64 (cnt as s i)))) := by
  obtain ⟨h0, h2, h8, h9, h10, id, rfl, hid⟩ := h
  have hi' : ¬ (i : Int) < as.length := by omega
  simp only [l5_0b, keep, run_seq, run_cond, run_block, run_reg, run_reg0, run_drw, run_skip, run_ret, run_exit, then_norm, then_ret, then_exit, cd_true, cd_false, block_norm, block_ret, block_exit, reg_nil, reg_cons, ops_nil, ops_cons, opsThen_nil, opsThen_cons, calm_some, res_norm, res_ret, fnEnd, argsT, opRun, PT.get_put, dstep, ev, evs, evO, give, giveI, binOf, isNilK, np_nilp, np_ptr, np_lref, np_cref, ns_nils, ns_lst, ns_sl, nf_nilf, nf_fnc, ni_nili, ni_iface, PM.flip, putT, putL, putH, binInt, callM, loadOf, storeOf, cut, over, ofCells, asNat, natOr, calm, clashes, Acc.clash, ressOf, resOf, out_agg, out_tup, out_fnc, outs_nil, outs_cons, len_nils, len_lst, len_sl, scal_fnc, frz, frz.frzs, snap, snap.snaps, DV.pure, DV.pure.pures, DV.flat, DV.flat.flats, unOf, binStr, ansT, out_imm, out_ptr, out_sl, cells_imm, cells_ptr, cells_sl, cells_agg, scal_int, scal_bool, scal_str, scal_nils, scal_nilp, scal_lst, scal_ptr, scal_sl, Option.map, List.length_cons, List.length_nil, reduceIte, Nat.reduceEqDiff, Nat.reduceAdd]
  simp [h0, h2, h8, h9, h10, hid, hi', hi, run_seq, run_cond, run_block, run_reg, run_reg0, run_drw, run_skip, run_ret, run_exit, then_norm, then_ret, then_exit, cd_true, cd_false, block_norm, block_ret, block_exit, reg_nil, reg_cons, ops_nil, ops_cons, opsThen_nil, opsThen_cons, calm_some, res_norm, res_ret, fnEnd, argsT, opRun, PT.get_put, dstep, ev, evs, evO, give, giveI, binOf, isNilK, np_nilp, np_ptr, np_lref, np_cref, ns_nils, ns_lst, ns_sl, nf_nilf, nf_fnc, ni_nili, ni_iface, PM.flip, putT, putL, putH, binInt, callM, loadOf, storeOf, cut, over, ofCells, asNat, natOr, calm, clashes, Acc.clash, ressOf, resOf, out_agg, out_tup, out_fnc, outs_nil, outs_cons, len_nils, len_lst, len_sl, scal_fnc, frz, frz.frzs, snap, snap.snaps, DV.pure, DV.pure.pures, DV.flat, DV.flat.flats, unOf, binStr, ansT, out_imm, out_ptr, out_sl, cells_imm, cells_ptr, cells_sl, cells_agg, scal_int, scal_bool, scal_str, scal_nils, scal_nilp, scal_lst, scal_ptr, scal_sl, Option.map, List.length_cons, List.length_nil, reduceIte, Nat.reduceEqDiff, Nat.reduceAdd]

theorem loop5 {as bs : List UInt8} {s : Int} (h0 : as ≠ []) (hl : as.length ≤ 500) (hb : Bad as bs s) (b : DV) : ∀ t, I5 as bs s b 0 t →
    ∃ t', l5_0.run noG (K noG 11) 0 t = some (.exit 0, t') ∧ (t'.T.get 2 = some (.imm (.int .i64 s)) ∧ t'.T.get 9 = some (.imm (.int .i64 (if 0 ≤ s then 1 else 0)))) := by
  intro t ht
  have hpos : 0 < as.length := List.length_pos_iff.2 h0
  have hend : cnt as s as.length = if 0 ≤ s then 1 else 0 := by
    unfold cnt
    by_cases hs : 0 ≤ s
    · rw [if_pos hs, if_pos ⟨hs, Int.tmod_lt_of_pos s (by omega)⟩]
    · rw [if_neg hs, if_neg (fun h => hs h.1)]
  obtain ⟨e, t', h1, h2, h3⟩ := iter_ind (f := loopRun noG (K noG 11) 0 [0, 2, 8, 9, 10] [] l5_0b) (fun m t => ∃ i : Nat, I5 as bs s b i t ∧ i ≤ as.length ∧ m = as.length - i)
    (fun e t' => e = .exit 0 ∧ (t'.T.get 2 = some (.imm (.int .i64 s)) ∧ t'.T.get 9 = some (.imm (.int .i64 (if 0 ≤ s then 1 else 0)))))
    (fun m t ⟨i, hI, hle, hm⟩ => by
      by_cases hi : i < as.length
      · obtain ⟨t', e1, e2⟩ := round5 hl hb b i t hI hi
        exact .inl ⟨t', _, e1, by omega, i + 1, e2, by omega, rfl⟩
      · obtain ⟨t', e1, e2, e3⟩ := last5 b i t hI hi
        obtain rfl : i = as.length := by omega
        rw [hend] at e3
        exact .inr ⟨.exit 0, t', e1, by simp, rfl, e2, e3⟩) as.length LOOP t ⟨0, ht, by omega, by omega⟩ (by unfold LOOP; omega)
  obtain ⟨rfl, h4⟩ := h3
  exact ⟨t', h1, h4⟩

theorem spoils {a : DV} {as : List UInt8} (ha : Arg a as) (lose : Bool) (s : Int) : ∃ H' n', K noG 12 5 [a, .imm (.bool lose), .imm (.int .i64 s)] .lf 0 0 = some (.imm (.bool true), H', n') := by
  have la := (ha.src .lf).len
  have oa := (ha.src .lf).out
  rw [D.k5]
  by_cases hA : as.length < 1
  · have hA' : (as.length : Int) < 1 := by omega
    simp only [D.f5, fn_run, run_seq, run_cond, run_block, run_reg, run_reg0, run_drw, run_skip, run_ret, run_exit, then_norm, then_ret, then_exit, cd_true, cd_false, block_norm, block_ret, block_exit, reg_nil, reg_cons, ops_nil, ops_cons, opsThen_nil, opsThen_cons, calm_some, res_norm, res_ret, fnEnd, argsT, opRun, PT.get_put, dstep, ev, evs, evO, give, giveI, binOf, isNilK, np_nilp, np_ptr, np_lref, np_cref, ns_nils, ns_lst, ns_sl, nf_nilf, nf_fnc, ni_nili, ni_iface, PM.flip, putT, putL, putH, binInt, callM, loadOf, storeOf, cut, over, ofCells, asNat, natOr, calm, clashes, Acc.clash, ressOf, resOf, out_agg, out_tup, out_fnc, outs_nil, outs_cons, len_nils, len_lst, len_sl, scal_fnc, frz, frz.frzs, snap, snap.snaps, DV.pure, DV.pure.pures, DV.flat, DV.flat.flats, unOf, binStr, ansT, out_imm, out_ptr, out_sl, cells_imm, cells_ptr, cells_sl, cells_agg, scal_int, scal_bool, scal_str, scal_nils, scal_nilp, scal_lst, scal_ptr, scal_sl, Option.map, List.length_cons, List.length_nil, reduceIte, Nat.reduceEqDiff, Nat.reduceAdd]
    simp [la, hA', hA, run_seq, run_cond, run_block, run_reg, run_reg0, run_drw, run_skip, run_ret, run_exit, then_norm, then_ret, then_exit, cd_true, cd_false, block_norm, block_ret, block_exit, reg_nil, reg_cons, ops_nil, ops_cons, opsThen_nil, opsThen_cons, calm_some, res_norm, res_ret, fnEnd, argsT, opRun, PT.get_put, dstep, ev, evs, evO, give, giveI, binOf, isNilK, np_nilp, np_ptr, np_lref, np_cref, ns_nils, ns_lst, ns_sl, nf_nilf, nf_fnc, ni_nili, ni_iface, PM.flip, putT, putL, putH, binInt, callM, loadOf, storeOf, cut, over, ofCells, asNat, natOr, calm, clashes, Acc.clash, ressOf, resOf, out_agg, out_tup, out_fnc, outs_nil, outs_cons, len_nils, len_lst, len_sl, scal_fnc, frz, frz.frzs, snap, snap.snaps, DV.pure, DV.pure.pures, DV.flat, DV.flat.flats, unOf, binStr, ansT, out_imm, out_ptr, out_sl, cells_imm, cells_ptr, cells_sl, cells_agg, scal_int, scal_bool, scal_str, scal_nils, scal_nilp, scal_lst, scal_ptr, scal_sl, Option.map, List.length_cons, List.length_nil, reduceIte, Nat.reduceEqDiff, Nat.reduceAdd]
  have hA' : ¬ (as.length : Int) < 1 := by omega
  by_cases hB : 500 < as.length
  · have hB' : (500 : Int) < as.length := by omega
    simp only [D.f5, fn_run, run_seq, run_cond, run_block, run_reg, run_reg0, run_drw, run_skip, run_ret, run_exit, then_norm, then_ret, then_exit, cd_true, cd_false, block_norm, block_ret, block_exit, reg_nil, reg_cons, ops_nil, ops_cons, opsThen_nil, opsThen_cons, calm_some, res_norm, res_ret, fnEnd, argsT, opRun, PT.get_put, dstep, ev, evs, evO, give, giveI, binOf, isNilK, np_nilp, np_ptr, np_lref, np_cref, ns_nils, ns_lst, ns_sl, nf_nilf, nf_fnc, ni_nili, ni_iface, PM.flip, putT, putL, putH, binInt, callM, loadOf, storeOf, cut, over, ofCells, asNat, natOr, calm, clashes, Acc.clash, ressOf, resOf, out_agg, out_tup, out_fnc, outs_nil, outs_cons, len_nils, len_lst, len_sl, scal_fnc, frz, frz.frzs, snap, snap.snaps, DV.pure, DV.pure.pures, DV.flat, DV.flat.flats, unOf, binStr, ansT, out_imm, out_ptr, out_sl, cells_imm, cells_ptr, cells_sl, cells_agg, scal_int, scal_bool, scal_str, scal_nils, scal_nilp, scal_lst, scal_ptr, scal_sl, Option.map, List.length_cons, List.length_nil, reduceIte, Nat.reduceEqDiff, Nat.reduceAdd]
    simp [la, hA', hA, hB, hB', run_seq, run_cond, run_block, run_reg, run_reg0, run_drw, run_skip, run_ret, run_exit, then_norm, then_ret, then_exit, cd_true, cd_false, block_norm, block_ret, block_exit, reg_nil, reg_cons, ops_nil, ops_cons, opsThen_nil, opsThen_cons, calm_some, res_norm, res_ret, fnEnd, argsT, opRun, PT.get_put, dstep, ev, evs, evO, give, giveI, binOf, isNilK, np_nilp, np_ptr, np_lref, np_cref, ns_nils, ns_lst, ns_sl, nf_nilf, nf_fnc, ni_nili, ni_iface, PM.flip, putT, putL, putH, binInt, callM, loadOf, storeOf, cut, over, ofCells, asNat, natOr, calm, clashes, Acc.clash, ressOf, resOf, out_agg, out_tup, out_fnc, outs_nil, outs_cons, len_nils, len_lst, len_sl, scal_fnc, frz, frz.frzs, snap, snap.snaps, DV.pure, DV.pure.pures, DV.flat, DV.flat.flats, unOf, binStr, ansT, out_imm, out_ptr, out_sl, cells_imm, cells_ptr, cells_sl, cells_agg, scal_int, scal_bool, scal_str, scal_nils, scal_nilp, scal_lst, scal_ptr, scal_sl, Option.map, List.length_cons, List.length_nil, reduceIte, Nat.reduceEqDiff, Nat.reduceAdd]
  have hB' : ¬ (500 : Int) < as.length := by omega
  have hz : as ≠ [] := fun h => hA (by simp [h])
  have hnew := new_eq 10 .lf 0 0
  have e1 := send1 9 (p := 0) (H := PT.lf.put 0 (some ⟨4, [[.imm .nils, .imm .nils, .imm .nils, .imm .nils]]⟩)) (n := 1) gps (by omega) (ha.src _) hz (by omega)
  generalize hH1 : (((PT.lf.put 0 (some ⟨4, [[.imm .nils, .imm .nils, .imm .nils, .imm .nils]]⟩)).put 1 (some ⟨1, as.map rowB⟩)).put 0 (some ⟨4, [[.imm .nils, .sl 1 0 as.length as.length, .imm .nils, .imm .nils]]⟩) : PT HB) = H1 at e1
  have g0 : H1.get 0 = some ⟨4, [[.imm .nils, .sl 1 0 as.length as.length, .imm .nils, .imm .nils]]⟩ := by subst hH1; exact gps
  have g1 : H1.get 1 = some ⟨1, as.map rowB⟩ := by subst hH1; rw [PT.get_put, if_neg (by omega)]; exact gps
  obtain ⟨Hk, nk, ek⟩ := known_at 6
  cases lose with
  | true =>
    obtain ⟨H3, e3, g3⟩ := turn_lose 10 (n := 2) (s := s) g0
    have e5 := take0 9 (n := 2) g3 rfl
    simp only [D.f5, fn_run, run_seq, run_cond, run_block, run_reg, run_reg0, run_drw, run_skip, run_ret, run_exit, then_norm, then_ret, then_exit, cd_true, cd_false, block_norm, block_ret, block_exit, reg_nil, reg_cons, ops_nil, ops_cons, opsThen_nil, opsThen_cons, calm_some, res_norm, res_ret, fnEnd, argsT, opRun, PT.get_put, dstep, ev, evs, evO, give, giveI, binOf, isNilK, np_nilp, np_ptr, np_lref, np_cref, ns_nils, ns_lst, ns_sl, nf_nilf, nf_fnc, ni_nili, ni_iface, PM.flip, putT, putL, putH, binInt, callM, loadOf, storeOf, cut, over, ofCells, asNat, natOr, calm, clashes, Acc.clash, ressOf, resOf, out_agg, out_tup, out_fnc, outs_nil, outs_cons, len_nils, len_lst, len_sl, scal_fnc, frz, frz.frzs, snap, snap.snaps, DV.pure, DV.pure.pures, DV.flat, DV.flat.flats, unOf, binStr, ansT, out_imm, out_ptr, out_sl, cells_imm, cells_ptr, cells_sl, cells_agg, scal_int, scal_bool, scal_str, scal_nils, scal_nilp, scal_lst, scal_ptr, scal_sl, Option.map, List.length_cons, List.length_nil, reduceIte, Nat.reduceEqDiff, Nat.reduceAdd]
    simp [la, oa, hA', hA, hB', hB, hnew, e1, e3, e5, ek, run_seq, run_cond, run_block, run_reg, run_reg0, run_drw, run_skip, run_ret, run_exit, then_norm, then_ret, then_exit, cd_true, cd_false, block_norm, block_ret, block_exit, reg_nil, reg_cons, ops_nil, ops_cons, opsThen_nil, opsThen_cons, calm_some, res_norm, res_ret, fnEnd, argsT, opRun, PT.get_put, dstep, ev, evs, evO, give, giveI, binOf, isNilK, np_nilp, np_ptr, np_lref, np_cref, ns_nils, ns_lst, ns_sl, nf_nilf, nf_fnc, ni_nili, ni_iface, PM.flip, putT, putL, putH, binInt, callM, loadOf, storeOf, cut, over, ofCells, asNat, natOr, calm, clashes, Acc.clash, ressOf, resOf, out_agg, out_tup, out_fnc, outs_nil, outs_cons, len_nils, len_lst, len_sl, scal_fnc, frz, frz.frzs, snap, snap.snaps, DV.pure, DV.pure.pures, DV.flat, DV.flat.flats, unOf, binStr, ansT, out_imm, out_ptr, out_sl, cells_imm, cells_ptr, cells_sl, cells_agg, scal_int, scal_bool, scal_str, scal_nils, scal_nilp, scal_lst, scal_ptr, scal_sl, Option.map, List.length_cons, List.length_nil, reduceIte, Nat.reduceEqDiff, Nat.reduceAdd]
  | false =>
    have hx : ∃ H3 bs, K noG (10 + 1) 13 [.ptr 0 0 0, .imm (.bool false), .imm (.int .i64 s)] H1 2 0 = some (.tup [], H3, 2) ∧
        H3.get 0 = some ⟨4, [[.imm .nils, .imm .nils, .sl 1 0 as.length as.length, .imm .nils]]⟩ ∧ H3.get 1 = some ⟨1, bs.map rowB⟩ ∧ Bad as bs s := by
      by_cases hs : s < 0
      · obtain ⟨H3, e3, g3, fr3⟩ := turn_plain 10 (n := 2) (s := s) g0 (src_nils _) (src_sl g1) hs
        exact ⟨H3, as, e3, g3, by rw [fr3 1 (by omega)]; exact g1, rfl, .inl ⟨hs, rfl⟩⟩
      · have h1 : 0 ≤ s.tmod as.length := Int.tmod_nonneg _ (by omega)
        have h2 : s.tmod as.length < as.length := Int.tmod_lt_of_pos s (by omega)
        obtain ⟨k, hk⟩ : ∃ k : Nat, s.tmod as.length = k := ⟨(s.tmod as.length).toNat, by omega⟩
        have hkl : k < as.length := by omega
        obtain ⟨H3, e3, g3, g31⟩ := turn_bad 10 (n := 2) g0 g1 (by omega) (by omega) hk hkl rfl
        exact ⟨H3, _, e3, g3, g31, by simp, .inr ⟨by omega, k, hk, hkl, _, List.getElem?_eq_getElem hkl, rfl⟩⟩
    obtain ⟨H3, bs, e3, g3, g31, hbad⟩ := hx
    have e5 := take0 9 (n := 2) g3 rfl
    cases ha with
    | nil => exact absurd rfl hz
    | lst =>
      simp only [D.f5, fn_run, run_seq, run_cond, run_block, run_reg, run_reg0, run_drw, run_skip, run_ret, run_exit, then_norm, then_ret, then_exit, cd_true, cd_false, block_norm, block_ret, block_exit, reg_nil, reg_cons, ops_nil, ops_cons, opsThen_nil, opsThen_cons, calm_some, res_norm, res_ret, fnEnd, argsT, opRun, PT.get_put, dstep, ev, evs, evO, give, giveI, binOf, isNilK, np_nilp, np_ptr, np_lref, np_cref, ns_nils, ns_lst, ns_sl, nf_nilf, nf_fnc, ni_nili, ni_iface, PM.flip, putT, putL, putH, binInt, callM, loadOf, storeOf, cut, over, ofCells, asNat, natOr, calm, clashes, Acc.clash, ressOf, resOf, out_agg, out_tup, out_fnc, outs_nil, outs_cons, len_nils, len_lst, len_sl, scal_fnc, frz, frz.frzs, snap, snap.snaps, DV.pure, DV.pure.pures, DV.flat, DV.flat.flats, unOf, binStr, ansT, out_imm, out_ptr, out_sl, cells_imm, cells_ptr, cells_sl, cells_agg, scal_int, scal_bool, scal_str, scal_nils, scal_nilp, scal_lst, scal_ptr, scal_sl, Option.map, List.length_cons, List.length_nil, reduceIte, Nat.reduceEqDiff, Nat.reduceAdd]
      simp [la, oa, hA', hA, hB', hB, hnew, e1, e3, e5, ek, run_seq, run_cond, run_block, run_reg, run_reg0, run_drw, run_skip, run_ret, run_exit, then_norm, then_ret, then_exit, cd_true, cd_false, block_norm, block_ret, block_exit, reg_nil, reg_cons, ops_nil, ops_cons, opsThen_nil, opsThen_cons, calm_some, res_norm, res_ret, fnEnd, argsT, opRun, PT.get_put, dstep, ev, evs, evO, give, giveI, binOf, isNilK, np_nilp, np_ptr, np_lref, np_cref, ns_nils, ns_lst, ns_sl, nf_nilf, nf_fnc, ni_nili, ni_iface, PM.flip, putT, putL, putH, binInt, callM, loadOf, storeOf, cut, over, ofCells, asNat, natOr, calm, clashes, Acc.clash, ressOf, resOf, out_agg, out_tup, out_fnc, outs_nil, outs_cons, len_nils, len_lst, len_sl, scal_fnc, frz, frz.frzs, snap, snap.snaps, DV.pure, DV.pure.pures, DV.flat, DV.flat.flats, unOf, binStr, ansT, out_imm, out_ptr, out_sl, cells_imm, cells_ptr, cells_sl, cells_agg, scal_int, scal_bool, scal_str, scal_nils, scal_nilp, scal_lst, scal_ptr, scal_sl, Option.map, List.length_cons, List.length_nil, reduceIte, Nat.reduceEqDiff, Nat.reduceAdd]
      generalize hrun : l5_0.run noG (K noG 11) 0 _ = r
      obtain ⟨t', rfl, h2, h9⟩ : ∃ t', r = some (.exit 0, t') ∧ (t'.T.get 2 = some (.imm (.int .i64 s)) ∧ t'.T.get 9 = some (.imm (.int .i64 (if 0 ≤ s then 1 else 0)))) := by
        rw [← hrun]
        refine loop5 hz (by omega) hbad (.sl 1 0 as.length as.length) _ ⟨?_, ?_, ?_, ?_, ?_, 1, ?_, ?_⟩
        · simp [PT.get_put]
        · simp [PT.get_put]
        · simp [PT.get_put]
        · have : cnt as s 0 = 0 := if_neg fun h => by
            have := Int.tmod_nonneg (a := s) (as.length : Int) h.1
            have := h.2
            omega
          simp [PT.get_put, this]
        · simp [PT.get_put]
        · rw [hbad.1]
        · simp only [PT.get_put]
          simpa using g31
      clear hrun
      by_cases hs : 0 ≤ s
      · simp [h2, h9, hs, ek, run_seq, run_cond, run_block, run_reg, run_reg0, run_drw, run_skip, run_ret, run_exit, then_norm, then_ret, then_exit, cd_true, cd_false, block_norm, block_ret, block_exit, reg_nil, reg_cons, ops_nil, ops_cons, opsThen_nil, opsThen_cons, calm_some, res_norm, res_ret, fnEnd, argsT, opRun, PT.get_put, dstep, ev, evs, evO, give, giveI, binOf, isNilK, np_nilp, np_ptr, np_lref, np_cref, ns_nils, ns_lst, ns_sl, nf_nilf, nf_fnc, ni_nili, ni_iface, PM.flip, putT, putL, putH, binInt, callM, loadOf, storeOf, cut, over, ofCells, asNat, natOr, calm, clashes, Acc.clash, ressOf, resOf, out_agg, out_tup, out_fnc, outs_nil, outs_cons, len_nils, len_lst, len_sl, scal_fnc, frz, frz.frzs, snap, snap.snaps, DV.pure, DV.pure.pures, DV.flat, DV.flat.flats, unOf, binStr, ansT, out_imm, out_ptr, out_sl, cells_imm, cells_ptr, cells_sl, cells_agg, scal_int, scal_bool, scal_str, scal_nils, scal_nilp, scal_lst, scal_ptr, scal_sl, Option.map, List.length_cons, List.length_nil, reduceIte, Nat.reduceEqDiff, Nat.reduceAdd]
      · simp [h2, h9, hs, ek, run_seq, run_cond, run_block, run_reg, run_reg0, run_drw, run_skip, run_ret, run_exit, then_norm, then_ret, then_exit, cd_true, cd_false, block_norm, block_ret, block_exit, reg_nil, reg_cons, ops_nil, ops_cons, opsThen_nil, opsThen_cons, calm_some, res_norm, res_ret, fnEnd, argsT, opRun, PT.get_put, dstep, ev, evs, evO, give, giveI, binOf, isNilK, np_nilp, np_ptr, np_lref, np_cref, ns_nils, ns_lst, ns_sl, nf_nilf, nf_fnc, ni_nili, ni_iface, PM.flip, putT, putL, putH, binInt, callM, loadOf, storeOf, cut, over, ofCells, asNat, natOr, calm, clashes, Acc.clash, ressOf, resOf, out_agg, out_tup, out_fnc, outs_nil, outs_cons, len_nils, len_lst, len_sl, scal_fnc, frz, frz.frzs, snap, snap.snaps, DV.pure, DV.pure.pures, DV.flat, DV.flat.flats, unOf, binStr, ansT, out_imm, out_ptr, out_sl, cells_imm, cells_ptr, cells_sl, cells_agg, scal_int, scal_bool, scal_str, scal_nils, scal_nilp, scal_lst, scal_ptr, scal_sl, Option.map, List.length_cons, List.length_nil, reduceIte, Nat.reduceEqDiff, Nat.reduceAdd]

def ss_LinkSpoils : List (Bool × List Kd) := [(false, [.sl [.i .u8]]), (false, [.b]), (false, [.i .i64])]
theorem pure_LinkSpoils : ∀ cs, ArgsFit ss_LinkSpoils cs → ∃ H' n', K noG 12 5 cs .lf 0 0 = some (.imm (.bool true), H', n') := fun cs h0 => by
  obtain ⟨d0, r0, rfl, g0, h1⟩ := fit_cons h0
  obtain ⟨d1, r1, rfl, g1, h2⟩ := fit_cons h1
  obtain ⟨d2, r2, rfl, g2, h3⟩ := fit_cons h2
  cases fit0 (r := []) h3
  obtain ⟨a, rfl, ha⟩ := fit_s g0
  obtain ⟨x, rfl⟩ := fit_b g1
  obtain ⟨y, rfl, _⟩ := fit_i g2
  obtain ⟨as, ha⟩ := arg_of_fit ha
  exact spoils ha x y
end Go.Proofs.Ytldinlipajjmoaa.D
