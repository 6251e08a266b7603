/-
  Rows that grow; names, numbers and texts in rows; a layout among the arguments.
-/
import Derived.Test.YtlknjgmhfimhbacGreatDoorT1
-- TabF
set_option linter.unusedVariables false
set_option linter.unusedSimpArgs false
set_option maxHeartbeats 16000000
namespace Go.Proofs.YtlknjgmhfimhbacGreatDoor.D
open Go Go.PM Go.Lib

/-! ### Rows that grow -/
def AtS (sz : Nat) (x : DV) (H : PT HB) (n : Nat) (rows : List (List IV)) : Prop := (x = .imm .nils ∧ rows = []) ∨ ∃ id, id < n ∧ x = .sl id 0 rows.length rows.length ∧ H.get id = some ⟨sz, rows.map imms⟩
theorem app_row {sz bytes : Nat} {x : DV} {H : PT HB} {n : Nat} {rows : List (List IV)} (h : AtS sz x H n rows) (hs : 0 < sz) (hl : rows.length ≤ 2 ^ 30) (hb : bytes ≤ 100) (e : List IV) :
    ∃ x' hw acc, appOf H.get n 0 sz bytes x (.imm (.lst true sz [e])) = some { v := x', hw := hw, n' := n + 1, acc := acc } ∧ AtS sz x' (putH H hw) (n + 1) (rows ++ [e]) := by
  rcases h with ⟨rfl, rfl⟩ | ⟨id, h2, rfl, h3⟩
  · have a2 : bytes ≤ appMax := by unfold appMax; omega
    have a0 : 1 ≤ appMax := by unfold appMax; omega
    refine ⟨.sl n 0 1 1, [(n, some ⟨sz, [imms e]⟩)], [.wX n], by simp [appOf, srcOf, rowsOf, raccOf, a0, a2, hs], .inr ⟨n, by omega, rfl, ?_⟩⟩
    simp [putH, PT.get_put]
  · have a1 : ¬ rows.length + 1 ≤ rows.length := by omega
    have a2 : rows.length + 1 ≤ appMax := by unfold appMax; omega
    have a3 : (rows.length + 1) * bytes ≤ appMax := by
      have := Nat.mul_le_mul (show rows.length + 1 ≤ 2 ^ 30 + 1 by omega) hb
      unfold appMax; omega
    refine ⟨.sl n 0 (rows.length + 1) (rows.length + 1), [(id, none), (n, some ⟨sz, rows.map imms ++ [imms e]⟩)], _, by simp [appOf, srcOf, rowsOf, raccOf, h3, a1, a2, a3, hs]; rfl, .inr ⟨n, by omega, by simp, ?_⟩⟩
    simp [putH, PT.get_put]
theorem mapO_frz {h : Nat → Option HB} {lo d : Nat} : ∀ es : List IV, mapO (frzI h lo d) (imms es) = some es
  | [] => rfl
  | e :: es => by
    have := mapO_frz (h := h) (lo := lo) (d := d) es
    cases d <;> simp [imms, mapO, frzI] at this ⊢ <;> rw [this]
theorem mapO_frz2 {h : Nat → Option HB} {lo d : Nat} : ∀ rows : List (List IV), mapO (mapO (frzI h lo d)) (rows.map imms) = some rows
  | [] => rfl
  | e :: es => by
    simp only [List.map_cons, mapO, mapO_frz, mapO_frz2 es]
theorem frz_row {sz : Nat} {x : DV} {H : PT HB} {n : Nat} {rows : List (List IV)} (h : AtS sz x H n rows) : ∃ v, frz H.get 0 x = some (.imm v) ∧ Sl sz v rows := by
  rcases h with ⟨rfl, rfl⟩ | ⟨id, h2, rfl, h3⟩
  · exact ⟨_, rfl, .inl ⟨rfl, rfl⟩⟩
  · refine ⟨.lst false sz rows, ?_, .inr ⟨_, rfl⟩⟩
    have hf : frzI H.get 0 frzDepth (.sl id 0 rows.length rows.length) = some (.lst false sz rows) := by
      show (if 0 ≤ id then _ else _) = _
      rw [if_pos (Nat.zero_le _)]
      simp only [h3]
      rw [if_pos (by simp)]
      simp only [List.drop_zero]
      rw [List.take_of_length_le (by simp), mapO_frz2]
      rfl
    have hz : frz H.get 0 (.sl id 0 rows.length rows.length) = if id < 0 then some (.sl id 0 rows.length rows.length) else (frzI H.get 0 frzDepth (.sl id 0 rows.length rows.length)).map .imm := rfl
    rw [hz, if_neg (Nat.not_lt_zero _), hf]
    rfl

/-! ### Runes -/
def rowR (p : Nat × Nat) : List IV := [.int .i32 p.1, .int .i64 p.2, .bool (decide (p.1 = 65533 ∧ p.2 = 1))]
def IR (s : List UInt8) (i : Nat) (st : St) : Prop := ∃ pos x, pos ≤ s.length ∧ RS (s.drop pos) = (RS s).drop i ∧ st.T.get 0 = some (.imm (.str s)) ∧ st.T.get 3 = some x ∧ st.T.get 4 = some (.imm (.int .i64 pos)) ∧
  AtS 3 x st.H st.n (((RS s).take i).map rowR)
theorem loopR {d : Nat} (hd : 2 ≤ d) {s : List UInt8} (hl : s.length ≤ 100000) {st : St} (h : IR s 0 st) :
    ∃ e st', D.l209_0.run DG (K DG d) 0 st = some (e, st') ∧ e = .exit 0 ∧ ∃ x, st'.T.get 3 = some x ∧ AtS 3 x st'.H st'.n ((RS s).map rowR) := by
  have hrl := RS_len s
  refine rng_loop (N := (RS s).length) (by unfold LOOP; omega) (IR s) _ (fun i st hI hle => ?_) st h
  obtain ⟨pos, x, hp1, hp3, hP0, hP3, hP4, hat⟩ := hI
  by_cases hi : i < (RS s).length
  · left
    refine ⟨hi, ?_⟩
    have hne : s.drop pos ≠ [] := fun h0 => by
      rw [h0, RS_nil] at hp3
      have := congrArg List.length hp3
      simp at this
      omega
    have hpos : pos < s.length := by
      have := List.length_pos_iff.2 hne
      rw [List.length_drop] at this
      omega
    have hpos' : (pos : Int) < s.length := by omega
    have hlen := decD_len hne
    have hcons := RS_cons hne
    have hdec := dec_bl (D := d) hd (s.drop pos)
    obtain ⟨r, m, hrm⟩ : ∃ r m, decD (s.drop pos) = (r, m) := ⟨_, _, rfl⟩
    rw [hrm] at hlen hcons hdec
    simp only at hlen hcons hdec
    rw [List.length_drop] at hlen
    rw [List.drop_drop] at hcons
    have hget : (RS s)[i]? = some (r, m) := by
      have := congrArg (·[0]?) (hp3.symm.trans hcons)
      simpa using this
    have hrest : RS (s.drop (pos + m)) = (RS s).drop (i + 1) := by
      have := congrArg (List.drop 1) (hp3.symm.trans hcons)
      simpa [Nat.add_comm] using this.symm
    have hple : pos ≤ s.length := hp1
    have hwp : IntKind.i64.wrap ((pos : Int) + m) = ((pos + m : Nat) : Int) := by rw [wr_id (by omega) (by omega)]; omega
    have hll : (((RS s).take i).map rowR).length ≤ 2 ^ 30 := by simp; omega
    obtain ⟨x', hw, acc, p1, p2⟩ := app_row (bytes := 24) hat (by omega) hll (by omega) (rowR (r, m))
    have et : ((RS s).take i).map rowR ++ [rowR (r, m)] = ((RS s).take (i + 1)).map rowR := by
      rw [List.take_add_one, hget, List.map_append]; rfl
    rw [et] at p2
    obtain ⟨y, hy⟩ : ∃ y : Nat, y = pos + m := ⟨_, rfl⟩
    rw [← hy] at hwp hrest
    by_cases h1 : r = 65533
    · subst h1
      by_cases h2 : m = 1
      · subst h2
        have p1' : appOf st.H.get st.n 0 3 24 x (.imm (.lst true 3 [[.int .i32 65533, .int .i64 1, .bool true]])) = _ := p1
        have hwp' : IntKind.i64.wrap ((pos : Int) + 1) = (y : Int) := hwp
        simp only [D.l209_0b, keep, B5, fnEnd, argsT, opRun, PT.get_put, dstep, ev, evs, evO, give, giveI, binOf, isNilK, PM.flip, putT, putL, putH, loadOf, storeOf, cut, over, ofCells, asNat, natOr, calm, clashes, Acc.clash, ressOf, resOf, frz, frz.frzs, DV.flat, DV.flat.flats, binStr, ansT, Option.map, List.length_cons, List.length_nil, reduceIte, Nat.reduceEqDiff, Nat.reduceAdd]
        simp [hP0, hP3, hP4, hpos, hpos', hple, hdec, hwp, hwp', p1', sliceStr, evParts, evParts2, lay, unImms, unImm, mapO, rowsN, imms, B5, fnEnd, argsT, opRun, PT.get_put, dstep, ev, evs, evO, give, giveI, binOf, isNilK, PM.flip, putT, putL, putH, loadOf, storeOf, cut, over, ofCells, asNat, natOr, calm, clashes, Acc.clash, ressOf, resOf, frz, frz.frzs, DV.flat, DV.flat.flats, binStr, ansT, Option.map, List.length_cons, List.length_nil, reduceIte, Nat.reduceEqDiff, Nat.reduceAdd]
        exact ⟨y, x', by omega, hrest, by simp [PT.get_put], by simp [PT.get_put], by simp [PT.get_put], p2⟩
      · have h2' : ((m : Int) == 1) = false := beqF (by omega)
        have p1' : appOf st.H.get st.n 0 3 24 x (.imm (.lst true 3 [[.int .i32 65533, .int .i64 m, .bool false]])) = some { v := x', hw := hw, n' := st.n + 1, acc := acc } := by rw [← p1]; simp [rowR, h2]
        simp only [D.l209_0b, keep, B5, fnEnd, argsT, opRun, PT.get_put, dstep, ev, evs, evO, give, giveI, binOf, isNilK, PM.flip, putT, putL, putH, loadOf, storeOf, cut, over, ofCells, asNat, natOr, calm, clashes, Acc.clash, ressOf, resOf, frz, frz.frzs, DV.flat, DV.flat.flats, binStr, ansT, Option.map, List.length_cons, List.length_nil, reduceIte, Nat.reduceEqDiff, Nat.reduceAdd]
        simp [hP0, hP3, hP4, hpos, hpos', hple, hdec, hwp, h2, h2', p1', sliceStr, evParts, evParts2, lay, unImms, unImm, mapO, rowsN, imms, B5, fnEnd, argsT, opRun, PT.get_put, dstep, ev, evs, evO, give, giveI, binOf, isNilK, PM.flip, putT, putL, putH, loadOf, storeOf, cut, over, ofCells, asNat, natOr, calm, clashes, Acc.clash, ressOf, resOf, frz, frz.frzs, DV.flat, DV.flat.flats, binStr, ansT, Option.map, List.length_cons, List.length_nil, reduceIte, Nat.reduceEqDiff, Nat.reduceAdd]
        exact ⟨y, x', by omega, hrest, by simp [PT.get_put], by simp [PT.get_put], by simp [PT.get_put], p2⟩
    · have h1' : ((r : Int) == 65533) = false := beqF (by omega)
      have p1' : appOf st.H.get st.n 0 3 24 x (.imm (.lst true 3 [[.int .i32 r, .int .i64 m, .bool false]])) = some { v := x', hw := hw, n' := st.n + 1, acc := acc } := by rw [← p1]; simp [rowR, h1]
      simp only [D.l209_0b, keep, B5, fnEnd, argsT, opRun, PT.get_put, dstep, ev, evs, evO, give, giveI, binOf, isNilK, PM.flip, putT, putL, putH, loadOf, storeOf, cut, over, ofCells, asNat, natOr, calm, clashes, Acc.clash, ressOf, resOf, frz, frz.frzs, DV.flat, DV.flat.flats, binStr, ansT, Option.map, List.length_cons, List.length_nil, reduceIte, Nat.reduceEqDiff, Nat.reduceAdd]
      simp [hP0, hP3, hP4, hpos, hpos', hple, hdec, hwp, h1, h1', p1', sliceStr, evParts, evParts2, lay, unImms, unImm, mapO, rowsN, imms, B5, fnEnd, argsT, opRun, PT.get_put, dstep, ev, evs, evO, give, giveI, binOf, isNilK, PM.flip, putT, putL, putH, loadOf, storeOf, cut, over, ofCells, asNat, natOr, calm, clashes, Acc.clash, ressOf, resOf, frz, frz.frzs, DV.flat, DV.flat.flats, binStr, ansT, Option.map, List.length_cons, List.length_nil, reduceIte, Nat.reduceEqDiff, Nat.reduceAdd]
      exact ⟨y, x', by omega, hrest, by simp [PT.get_put], by simp [PT.get_put], by simp [PT.get_put], p2⟩
  · obtain rfl : i = (RS s).length := by omega
    right
    refine ⟨.exit 0, ?_⟩
    have hnil : RS (s.drop pos) = [] := by rw [hp3, List.drop_length]
    have hpos : ¬ pos < s.length := fun h => by
      have hne : s.drop pos ≠ [] := fun h0 => by have := congrArg List.length h0; simp at this; omega
      rw [RS_cons hne] at hnil
      cases hnil
    have hpos' : ¬ (pos : Int) < s.length := by omega
    rw [List.take_length] at hat
    simp only [D.l209_0b, keep, B5, fnEnd, argsT, opRun, PT.get_put, dstep, ev, evs, evO, give, giveI, binOf, isNilK, PM.flip, putT, putL, putH, loadOf, storeOf, cut, over, ofCells, asNat, natOr, calm, clashes, Acc.clash, ressOf, resOf, frz, frz.frzs, DV.flat, DV.flat.flats, binStr, ansT, Option.map, List.length_cons, List.length_nil, reduceIte, Nat.reduceEqDiff, Nat.reduceAdd]
    simp [hP0, hP3, hP4, hpos, hpos', B5, fnEnd, argsT, opRun, PT.get_put, dstep, ev, evs, evO, give, giveI, binOf, isNilK, PM.flip, putT, putL, putH, loadOf, storeOf, cut, over, ofCells, asNat, natOr, calm, clashes, Acc.clash, ressOf, resOf, frz, frz.frzs, DV.flat, DV.flat.flats, binStr, ansT, Option.map, List.length_cons, List.length_nil, reduceIte, Nat.reduceEqDiff, Nat.reduceAdd]
    exact hat
theorem runes_bl {D : Nat} (hD : 3 ≤ D) {s : List UInt8} (hl : s.length ≤ 100000) : ∃ v, bl (K DG D) 209 [.imm (.str s)] = some (.imm v) ∧ Sl 3 v ((RS s).map rowR) := by
  obtain ⟨d, rfl⟩ : ∃ d, D = d + 1 := ⟨D - 1, by omega⟩
  have key : ∃ x H' n', K DG (d + 1) 209 [.imm (.str s)] .lf 0 0 = some (x, H', n') ∧ AtS 3 x H' n' ((RS s).map rowR) := by
    rw [D.k209]
    simp only [D.f209, fn_run, B5, fnEnd, argsT, opRun, PT.get_put, dstep, ev, evs, evO, give, giveI, binOf, isNilK, PM.flip, putT, putL, putH, loadOf, storeOf, cut, over, ofCells, asNat, natOr, calm, clashes, Acc.clash, ressOf, resOf, frz, frz.frzs, DV.flat, DV.flat.flats, binStr, ansT, Option.map, List.length_cons, List.length_nil, reduceIte, Nat.reduceEqDiff, Nat.reduceAdd]
    generalize hrun : D.l209_0.run DG (K DG d) 0 _ = r
    obtain ⟨e, st', rfl, rfl, x, q1, q2⟩ : ∃ e st', r = some (e, st') ∧ e = .exit 0 ∧ ∃ x, st'.T.get 3 = some x ∧ AtS 3 x st'.H st'.n ((RS s).map rowR) := by
      rw [← hrun]
      refine loopR (by omega) hl ⟨0, .imm .nils, by omega, by simp, by simp [PT.get_put], by simp [PT.get_put], by simp [PT.get_put], .inl ⟨rfl, by simp⟩⟩
    clear hrun
    have ho : x.out = true := by
      rcases q2 with ⟨rfl, _⟩ | ⟨id, _, rfl, _⟩ <;> rfl
    refine ⟨x, st'.H, st'.n, ?_, q2⟩
    simp [q1, ho, B5, fnEnd, argsT, opRun, PT.get_put, dstep, ev, evs, evO, give, giveI, binOf, isNilK, PM.flip, putT, putL, putH, loadOf, storeOf, cut, over, ofCells, asNat, natOr, calm, clashes, Acc.clash, ressOf, resOf, frz, frz.frzs, DV.flat, DV.flat.flats, binStr, ansT, Option.map, List.length_cons, List.length_nil, reduceIte, Nat.reduceEqDiff, Nat.reduceAdd]
  obtain ⟨x, H', n', e, h⟩ := key
  obtain ⟨v, f1, f2⟩ := frz_row h
  exact ⟨v, bl_of e f1, f2⟩
end Go.Proofs.YtlknjgmhfimhbacGreatDoor.D

-- TabG
set_option linter.unusedVariables false
set_option linter.unusedSimpArgs false
set_option maxHeartbeats 16000000
namespace Go.Proofs.YtlknjgmhfimhbacGreatDoor.D
open Go Go.PM Go.Lib
def IX (v : IV) (l : List (Nat × Nat)) (i : Nat) (st : St) : Prop := st.T.get 3 = some (.imm v) ∧ st.T.get 4 = some (.imm (.int .i64 i)) ∧ st.H = .lf ∧ ∀ j p, j < i → l[j]? = some p → okR p j = true
theorem loopX {d : Nat} (hd : 1 ≤ d) {f : Bool} {l : List (Nat × Nat)} (hl : l.length ≤ reachBytes) {st : St} (h : IX (.lst f 3 (l.map rowR)) l 0 st) :
    ∃ e st', D.l156_0.run DG (K DG d) 0 st = some (e, st') ∧ ((e = .ret ∧ st'.T.get 2 = some (.imm (.bool false)) ∧ st'.H = .lf ∧ allR l = false) ∨
      (e = .exit 0 ∧ st'.T.get 3 = some (.imm (.lst f 3 (l.map rowR))) ∧ st'.H = .lf ∧ allR l = true)) := by
  generalize hv0 : (IV.lst f 3 (l.map rowR)) = v at *
  have hv := hv0.symm
  refine rng_loop (N := l.length) (small hl) (IX v l) _ (fun i st hI hle => ?_) st h
  obtain ⟨h3, h4, hH, hall⟩ := hI
  by_cases hi : i < l.length
  · have hi' : (i : Int) < l.length := by omega
    obtain ⟨r, m, hrm⟩ : ∃ r m, l[i] = (r, m) := ⟨_, _, rfl⟩
    have hget : l[i]? = some (r, m) := by rw [List.getElem?_eq_getElem hi, hrm]
    have hes : l[i] = (r, m) := hrm
    have hlet := letter1_bl DG (D := d) hd (r : Int)
    have hw8 : IntKind.i64.wrap ((i : Int) + 1) = (i : Int) + 1 := wr_succ hi hl
    generalize hWe : decide (r = 65533 ∧ m = 1) = W
    have e1 : (r = 65533 ∧ m = 1) ↔ W = true := by rw [← hWe]; simp
    have e1' : decide (r = 65533 ∧ m = 1) = W := hWe
    generalize hLe : isL (r : Int) = Lt at hlet
    have e2 : isL (r : Int) = Lt := hLe
    cases W
    · cases Lt
      · by_cases d3 : 0 < i
        · have d3' : ((i : Int) == 0) = false := beqF (by omega)
          by_cases d1 : 48 ≤ r
          · have d1' : ¬ (r : Int) < 48 := by omega
            by_cases d2 : r ≤ 57
            · have d2' : ¬ (57 : Int) < r := by omega
              have hok : okR (r, m) i = true := by simp [okR, e1, e2, d1, d2, d3]
              left
              refine ⟨hi, ?_⟩
              simp only [D.l156_0b, keep, B5, fnEnd, argsT, opRun, PT.get_put, dstep, ev, evs, evO, give, giveI, binOf, isNilK, PM.flip, putT, putL, putH, loadOf, storeOf, cut, over, ofCells, asNat, natOr, calm, clashes, Acc.clash, ressOf, resOf, frz, frz.frzs, DV.flat, DV.flat.flats, binStr, ansT, Option.map, List.length_cons, List.length_nil, reduceIte, Nat.reduceEqDiff, Nat.reduceAdd]
              simp [hv, h3, h4, hi, hi', hes, hlet, hH, rowR, imms, d1, d1', d2, d2', d3, d3', e1', hw8, B5, fnEnd, argsT, opRun, PT.get_put, dstep, ev, evs, evO, give, giveI, binOf, isNilK, PM.flip, putT, putL, putH, loadOf, storeOf, cut, over, ofCells, asNat, natOr, calm, clashes, Acc.clash, ressOf, resOf, frz, frz.frzs, DV.flat, DV.flat.flats, binStr, ansT, Option.map, List.length_cons, List.length_nil, reduceIte, Nat.reduceEqDiff, Nat.reduceAdd]
              exact ⟨by simp [PT.get_put, h3], by simp [PT.get_put], rfl, fun j p hj hp => by
                rcases Nat.lt_or_eq_of_le (Nat.le_of_lt_succ hj) with hj | rfl
                · exact hall j p hj hp
                · rw [hget] at hp; cases hp; exact hok⟩
            · have d2' : (57 : Int) < r := by omega
              have hok : okR (r, m) i = false := by simp [okR, e1, e2, d1, d2, d3]
              right
              refine ⟨.ret, ?_⟩
              simp only [D.l156_0b, keep, B5, fnEnd, argsT, opRun, PT.get_put, dstep, ev, evs, evO, give, giveI, binOf, isNilK, PM.flip, putT, putL, putH, loadOf, storeOf, cut, over, ofCells, asNat, natOr, calm, clashes, Acc.clash, ressOf, resOf, frz, frz.frzs, DV.flat, DV.flat.flats, binStr, ansT, Option.map, List.length_cons, List.length_nil, reduceIte, Nat.reduceEqDiff, Nat.reduceAdd]
              simp [hv, h3, h4, hi, hi', hes, hlet, hH, rowR, imms, d1, d1', d2, d2', d3, d3', e1', B5, fnEnd, argsT, opRun, PT.get_put, dstep, ev, evs, evO, give, giveI, binOf, isNilK, PM.flip, putT, putL, putH, loadOf, storeOf, cut, over, ofCells, asNat, natOr, calm, clashes, Acc.clash, ressOf, resOf, frz, frz.frzs, DV.flat, DV.flat.flats, binStr, ansT, Option.map, List.length_cons, List.length_nil, reduceIte, Nat.reduceEqDiff, Nat.reduceAdd]
              exact allR_false hget hok
          · have d1' : (r : Int) < 48 := by omega
            have hok : okR (r, m) i = false := by simp [okR, e1, e2, d1, d3]
            right
            refine ⟨.ret, ?_⟩
            simp only [D.l156_0b, keep, B5, fnEnd, argsT, opRun, PT.get_put, dstep, ev, evs, evO, give, giveI, binOf, isNilK, PM.flip, putT, putL, putH, loadOf, storeOf, cut, over, ofCells, asNat, natOr, calm, clashes, Acc.clash, ressOf, resOf, frz, frz.frzs, DV.flat, DV.flat.flats, binStr, ansT, Option.map, List.length_cons, List.length_nil, reduceIte, Nat.reduceEqDiff, Nat.reduceAdd]
            simp [hv, h3, h4, hi, hi', hes, hlet, hH, rowR, imms, d1, d1', d3, d3', e1', B5, fnEnd, argsT, opRun, PT.get_put, dstep, ev, evs, evO, give, giveI, binOf, isNilK, PM.flip, putT, putL, putH, loadOf, storeOf, cut, over, ofCells, asNat, natOr, calm, clashes, Acc.clash, ressOf, resOf, frz, frz.frzs, DV.flat, DV.flat.flats, binStr, ansT, Option.map, List.length_cons, List.length_nil, reduceIte, Nat.reduceEqDiff, Nat.reduceAdd]
            exact allR_false hget hok
        · have i0 : i = 0 := by omega
          have d3' : ((i : Int) == 0) = true := by simp [i0]
          have hok : okR (r, m) i = false := by simp [okR, e1, e2, d3]
          right
          refine ⟨.ret, ?_⟩
          simp only [D.l156_0b, keep, B5, fnEnd, argsT, opRun, PT.get_put, dstep, ev, evs, evO, give, giveI, binOf, isNilK, PM.flip, putT, putL, putH, loadOf, storeOf, cut, over, ofCells, asNat, natOr, calm, clashes, Acc.clash, ressOf, resOf, frz, frz.frzs, DV.flat, DV.flat.flats, binStr, ansT, Option.map, List.length_cons, List.length_nil, reduceIte, Nat.reduceEqDiff, Nat.reduceAdd]
          simp [hv, h3, h4, hi, hi', hes, hlet, hH, rowR, imms, d3, d3', e1', B5, fnEnd, argsT, opRun, PT.get_put, dstep, ev, evs, evO, give, giveI, binOf, isNilK, PM.flip, putT, putL, putH, loadOf, storeOf, cut, over, ofCells, asNat, natOr, calm, clashes, Acc.clash, ressOf, resOf, frz, frz.frzs, DV.flat, DV.flat.flats, binStr, ansT, Option.map, List.length_cons, List.length_nil, reduceIte, Nat.reduceEqDiff, Nat.reduceAdd]
          exact allR_false hget hok
      · skip
        have hok : okR (r, m) i = true := by simp [okR, e1, e2]
        left
        refine ⟨hi, ?_⟩
        simp only [D.l156_0b, keep, B5, fnEnd, argsT, opRun, PT.get_put, dstep, ev, evs, evO, give, giveI, binOf, isNilK, PM.flip, putT, putL, putH, loadOf, storeOf, cut, over, ofCells, asNat, natOr, calm, clashes, Acc.clash, ressOf, resOf, frz, frz.frzs, DV.flat, DV.flat.flats, binStr, ansT, Option.map, List.length_cons, List.length_nil, reduceIte, Nat.reduceEqDiff, Nat.reduceAdd]
        simp [hv, h3, h4, hi, hi', hes, hlet, hH, rowR, imms, e1', hw8, B5, fnEnd, argsT, opRun, PT.get_put, dstep, ev, evs, evO, give, giveI, binOf, isNilK, PM.flip, putT, putL, putH, loadOf, storeOf, cut, over, ofCells, asNat, natOr, calm, clashes, Acc.clash, ressOf, resOf, frz, frz.frzs, DV.flat, DV.flat.flats, binStr, ansT, Option.map, List.length_cons, List.length_nil, reduceIte, Nat.reduceEqDiff, Nat.reduceAdd]
        exact ⟨by simp [PT.get_put, h3], by simp [PT.get_put], rfl, fun j p hj hp => by
          rcases Nat.lt_or_eq_of_le (Nat.le_of_lt_succ hj) with hj | rfl
          · exact hall j p hj hp
          · rw [hget] at hp; cases hp; exact hok⟩
    · skip
      have hok : okR (r, m) i = false := by simp [okR, e1, e2]
      right
      refine ⟨.ret, ?_⟩
      simp only [D.l156_0b, keep, B5, fnEnd, argsT, opRun, PT.get_put, dstep, ev, evs, evO, give, giveI, binOf, isNilK, PM.flip, putT, putL, putH, loadOf, storeOf, cut, over, ofCells, asNat, natOr, calm, clashes, Acc.clash, ressOf, resOf, frz, frz.frzs, DV.flat, DV.flat.flats, binStr, ansT, Option.map, List.length_cons, List.length_nil, reduceIte, Nat.reduceEqDiff, Nat.reduceAdd]
      simp [hv, h3, h4, hi, hi', hes, hlet, hH, rowR, imms, e1', B5, fnEnd, argsT, opRun, PT.get_put, dstep, ev, evs, evO, give, giveI, binOf, isNilK, PM.flip, putT, putL, putH, loadOf, storeOf, cut, over, ofCells, asNat, natOr, calm, clashes, Acc.clash, ressOf, resOf, frz, frz.frzs, DV.flat, DV.flat.flats, binStr, ansT, Option.map, List.length_cons, List.length_nil, reduceIte, Nat.reduceEqDiff, Nat.reduceAdd]
      exact allR_false hget hok
  · obtain rfl : i = l.length := by omega
    right
    refine ⟨.exit 0, ?_⟩
    simp only [D.l156_0b, keep, B5, fnEnd, argsT, opRun, PT.get_put, dstep, ev, evs, evO, give, giveI, binOf, isNilK, PM.flip, putT, putL, putH, loadOf, storeOf, cut, over, ofCells, asNat, natOr, calm, clashes, Acc.clash, ressOf, resOf, frz, frz.frzs, DV.flat, DV.flat.flats, binStr, ansT, Option.map, List.length_cons, List.length_nil, reduceIte, Nat.reduceEqDiff, Nat.reduceAdd]
    simp [h3, h4, hv, hH, B5, fnEnd, argsT, opRun, PT.get_put, dstep, ev, evs, evO, give, giveI, binOf, isNilK, PM.flip, putT, putL, putH, loadOf, storeOf, cut, over, ofCells, asNat, natOr, calm, clashes, Acc.clash, ressOf, resOf, frz, frz.frzs, DV.flat, DV.flat.flats, binStr, ansT, Option.map, List.length_cons, List.length_nil, reduceIte, Nat.reduceEqDiff, Nat.reduceAdd]
    exact allR_true fun j p hj => hall j p (List.getElem?_eq_some_iff.1 hj).1 hj
theorem isName1_bl {D : Nat} (hD : 4 ≤ D) {s : List UInt8} (hl : s.length ≤ 100000) : bl (K DG D) 156 [.imm (.str s)] = some (.imm (.bool (isNm s))) := by
  obtain ⟨d, rfl⟩ : ∃ d, D = d + 1 := ⟨D - 1, by omega⟩
  obtain ⟨v, eR, hv⟩ := runes_bl (D := d) (by omega) hl
  have hrl := RS_len s
  have key : ∃ n', K DG (d + 1) 156 [.imm (.str s)] .lf 0 0 = some (.imm (.bool (isNm s)), .lf, n') := by
    rw [D.k156]
    rcases hv with ⟨rfl, hn⟩ | ⟨f, rfl⟩
    · have hn0 : RS s = [] := by simpa using hn
      obtain ⟨k, hL⟩ : ∃ k, LOOP = k + 1 := ⟨2 ^ 62 - 1, rfl⟩
      simp only [D.f156, D.l156_0, fn_run, B5, fnEnd, argsT, opRun, PT.get_put, dstep, ev, evs, evO, give, giveI, binOf, isNilK, PM.flip, putT, putL, putH, loadOf, storeOf, cut, over, ofCells, asNat, natOr, calm, clashes, Acc.clash, ressOf, resOf, frz, frz.frzs, DV.flat, DV.flat.flats, binStr, ansT, Option.map, List.length_cons, List.length_nil, reduceIte, Nat.reduceEqDiff, Nat.reduceAdd]
      simp [eR, run_loop, hL, iter, loopRun_eq, keep, D.l156_0b, isNm, hn0, B5, fnEnd, argsT, opRun, PT.get_put, dstep, ev, evs, evO, give, giveI, binOf, isNilK, PM.flip, putT, putL, putH, loadOf, storeOf, cut, over, ofCells, asNat, natOr, calm, clashes, Acc.clash, ressOf, resOf, frz, frz.frzs, DV.flat, DV.flat.flats, binStr, ansT, Option.map, List.length_cons, List.length_nil, reduceIte, Nat.reduceEqDiff, Nat.reduceAdd]
    · simp only [D.f156, fn_run, B5, fnEnd, argsT, opRun, PT.get_put, dstep, ev, evs, evO, give, giveI, binOf, isNilK, PM.flip, putT, putL, putH, loadOf, storeOf, cut, over, ofCells, asNat, natOr, calm, clashes, Acc.clash, ressOf, resOf, frz, frz.frzs, DV.flat, DV.flat.flats, binStr, ansT, Option.map, List.length_cons, List.length_nil, reduceIte, Nat.reduceEqDiff, Nat.reduceAdd]
      simp [eR, B5, fnEnd, argsT, opRun, PT.get_put, dstep, ev, evs, evO, give, giveI, binOf, isNilK, PM.flip, putT, putL, putH, loadOf, storeOf, cut, over, ofCells, asNat, natOr, calm, clashes, Acc.clash, ressOf, resOf, frz, frz.frzs, DV.flat, DV.flat.flats, binStr, ansT, Option.map, List.length_cons, List.length_nil, reduceIte, Nat.reduceEqDiff, Nat.reduceAdd]
      generalize hrun : D.l156_0.run DG (K DG d) 0 _ = r
      obtain ⟨e, st', rfl, hq⟩ : ∃ e st', r = some (e, st') ∧ ((e = .ret ∧ st'.T.get 2 = some (.imm (.bool false)) ∧ st'.H = .lf ∧ allR (RS s) = false) ∨
          (e = .exit 0 ∧ st'.T.get 3 = some (.imm (.lst f 3 ((RS s).map rowR))) ∧ st'.H = .lf ∧ allR (RS s) = true)) := by
        rw [← hrun]
        refine loopX (by omega) (by have : (100000 : Nat) ≤ reachBytes := by decide
                                    omega) ⟨by simp [PT.get_put], by simp [PT.get_put], rfl, fun j p hj => absurd hj (by omega)⟩
      clear hrun
      rcases hq with ⟨rfl, q1, q2, q3⟩ | ⟨rfl, q1, q2, q3⟩
      · simp [q1, q2, isNm, q3, B5, fnEnd, argsT, opRun, PT.get_put, dstep, ev, evs, evO, give, giveI, binOf, isNilK, PM.flip, putT, putL, putH, loadOf, storeOf, cut, over, ofCells, asNat, natOr, calm, clashes, Acc.clash, ressOf, resOf, frz, frz.frzs, DV.flat, DV.flat.flats, binStr, ansT, Option.map, List.length_cons, List.length_nil, reduceIte, Nat.reduceEqDiff, Nat.reduceAdd]
      · by_cases h1 : 1 ≤ (RS s).length
        · have h1' : (1 : Int) ≤ (RS s).length := by omega
          by_cases h2 : (RS s).length ≤ 8
          · have h2' : ((RS s).length : Int) ≤ 8 := by omega
            simp [q1, q2, isNm, q3, h1, h1', h2, h2', B5, fnEnd, argsT, opRun, PT.get_put, dstep, ev, evs, evO, give, giveI, binOf, isNilK, PM.flip, putT, putL, putH, loadOf, storeOf, cut, over, ofCells, asNat, natOr, calm, clashes, Acc.clash, ressOf, resOf, frz, frz.frzs, DV.flat, DV.flat.flats, binStr, ansT, Option.map, List.length_cons, List.length_nil, reduceIte, Nat.reduceEqDiff, Nat.reduceAdd]
          · have h2' : ¬ ((RS s).length : Int) ≤ 8 := by omega
            simp [q1, q2, isNm, q3, h1, h1', h2, h2', B5, fnEnd, argsT, opRun, PT.get_put, dstep, ev, evs, evO, give, giveI, binOf, isNilK, PM.flip, putT, putL, putH, loadOf, storeOf, cut, over, ofCells, asNat, natOr, calm, clashes, Acc.clash, ressOf, resOf, frz, frz.frzs, DV.flat, DV.flat.flats, binStr, ansT, Option.map, List.length_cons, List.length_nil, reduceIte, Nat.reduceEqDiff, Nat.reduceAdd]
        · have h1' : ¬ (1 : Int) ≤ (RS s).length := by omega
          simp [q1, q2, isNm, q3, h1, h1', B5, fnEnd, argsT, opRun, PT.get_put, dstep, ev, evs, evO, give, giveI, binOf, isNilK, PM.flip, putT, putL, putH, loadOf, storeOf, cut, over, ofCells, asNat, natOr, calm, clashes, Acc.clash, ressOf, resOf, frz, frz.frzs, DV.flat, DV.flat.flats, binStr, ansT, Option.map, List.length_cons, List.length_nil, reduceIte, Nat.reduceEqDiff, Nat.reduceAdd]
  obtain ⟨n', e⟩ := key
  exact bl_imm e
end Go.Proofs.YtlknjgmhfimhbacGreatDoor.D

-- TabH
set_option linter.unusedVariables false
set_option linter.unusedSimpArgs false
set_option maxHeartbeats 16000000
namespace Go.Proofs.YtlknjgmhfimhbacGreatDoor.D
open Go Go.PM Go.Lib
/-! ### Texts -/
theorem index_strs (G : Nat → Option (List IV)) {D : Nat} (hD : 1 ≤ D) {v : IV} {zs : List (List UInt8)} (hv : Sl 1 v (zs.map ivS)) (hl : zs.length ≤ reachBytes) (z : List UInt8) :
    ∃ r : Int, bl (K G D) 235 [.imm v, .imm (.str z)] = some (.imm (.int .i64 r)) ∧ (0 ≤ r ↔ z ∈ zs) := by
  obtain ⟨d, rfl⟩ : ∃ d, D = d + 1 := ⟨D - 1, by omega⟩
  rcases hv with ⟨rfl, hz⟩ | ⟨f, rfl⟩
  · obtain rfl : zs = [] := by simpa using hz
    refine ⟨-1, bl_imm (H' := .lf) (n' := 0) ?_, by simp⟩
    rw [D.k235]
    obtain ⟨k, hL⟩ : ∃ k, LOOP = k + 1 := ⟨2 ^ 62 - 1, rfl⟩
    simp only [D.f235, D.l235_0, fn_run, B4, fnEnd, argsT, opRun, PT.get_put, dstep, ev, evs, evO, give, giveI, binOf, isNilK, PM.flip, putT, putL, putH, callM, loadOf, storeOf, cut, over, ofCells, asNat, natOr, calm, clashes, Acc.clash, ressOf, resOf, frz, frz.frzs, snap, snap.snaps, DV.pure, DV.pure.pures, DV.flat, DV.flat.flats, binStr, ansT, Option.map, List.length_cons, List.length_nil, reduceIte, Nat.reduceEqDiff, Nat.reduceAdd]
    simp [run_loop, hL, iter, loopRun_eq, keep, D.l235_0b, B4, fnEnd, argsT, opRun, PT.get_put, dstep, ev, evs, evO, give, giveI, binOf, isNilK, PM.flip, putT, putL, putH, callM, loadOf, storeOf, cut, over, ofCells, asNat, natOr, calm, clashes, Acc.clash, ressOf, resOf, frz, frz.frzs, snap, snap.snaps, DV.pure, DV.pure.pures, DV.flat, DV.flat.flats, binStr, ansT, Option.map, List.length_cons, List.length_nil, reduceIte, Nat.reduceEqDiff, Nat.reduceAdd]
  · have loop : ∀ s : St, (s.T.get 0 = some (.imm (.lst f 1 (zs.map ivS))) ∧ s.T.get 1 = some (.imm (.str z)) ∧ s.T.get 7 = some (.imm (.int .i64 zs.length)) ∧ s.T.get 8 = some (.imm (.int .i64 (0 : Nat))) ∧ s.H = .lf ∧ s.n = 0) →
        ∃ e s', D.l235_0.run G (K G d) 0 s = some (e, s') ∧ ((e = .ret ∧ s'.H = .lf ∧ s'.n = 0 ∧ z ∈ zs ∧ ∃ r : Nat, s'.T.get 4 = some (.imm (.int .i64 r))) ∨ (e = .exit 0 ∧ s'.H = .lf ∧ s'.n = 0 ∧ z ∉ zs)) := fun s hs => by
      refine rng_loop (N := zs.length) (small hl) (fun i s => s.T.get 0 = some (.imm (.lst f 1 (zs.map ivS))) ∧ s.T.get 1 = some (.imm (.str z)) ∧ s.T.get 7 = some (.imm (.int .i64 zs.length)) ∧ s.T.get 8 = some (.imm (.int .i64 i)) ∧ s.H = .lf ∧ s.n = 0 ∧
        ∀ j, j < i → zs[j]? ≠ some z) _ (fun i s ⟨h0, h1, h7, h8, hH, hn, hj⟩ hle => ?_) s ⟨hs.1, hs.2.1, hs.2.2.1, hs.2.2.2.1, hs.2.2.2.2.1, hs.2.2.2.2.2, fun j hj => by omega⟩
      by_cases hi : i < zs.length
      · have hi' : (i : Int) < zs.length := by omega
        have hw := wr_succ hi hl
        have hx : zs[i]? = some zs[i] := List.getElem?_eq_getElem hi
        generalize hxe : zs[i] = x at hx
        by_cases hzx : z = x
        · right
          subst hzx
          refine ⟨.ret, ?_⟩
          simp only [D.l235_0b, keep, B4, fnEnd, argsT, opRun, PT.get_put, dstep, ev, evs, evO, give, giveI, binOf, isNilK, PM.flip, putT, putL, putH, callM, loadOf, storeOf, cut, over, ofCells, asNat, natOr, calm, clashes, Acc.clash, ressOf, resOf, frz, frz.frzs, snap, snap.snaps, DV.pure, DV.pure.pures, DV.flat, DV.flat.flats, binStr, ansT, Option.map, List.length_cons, List.length_nil, reduceIte, Nat.reduceEqDiff, Nat.reduceAdd]
          simp [h0, h1, h7, h8, hi', hi, hx, hxe, hH, hn, ivS, imms, binStr, B4, fnEnd, argsT, opRun, PT.get_put, dstep, ev, evs, evO, give, giveI, binOf, isNilK, PM.flip, putT, putL, putH, callM, loadOf, storeOf, cut, over, ofCells, asNat, natOr, calm, clashes, Acc.clash, ressOf, resOf, frz, frz.frzs, snap, snap.snaps, DV.pure, DV.pure.pures, DV.flat, DV.flat.flats, binStr, ansT, Option.map, List.length_cons, List.length_nil, reduceIte, Nat.reduceEqDiff, Nat.reduceAdd]
          exact ⟨List.mem_of_getElem? hx, i, by simp [PT.get_put]⟩
        · left
          refine ⟨hi, ?_⟩
          have hb : (z == x) = false := by simpa using hzx
          simp only [D.l235_0b, keep, B4, fnEnd, argsT, opRun, PT.get_put, dstep, ev, evs, evO, give, giveI, binOf, isNilK, PM.flip, putT, putL, putH, callM, loadOf, storeOf, cut, over, ofCells, asNat, natOr, calm, clashes, Acc.clash, ressOf, resOf, frz, frz.frzs, snap, snap.snaps, DV.pure, DV.pure.pures, DV.flat, DV.flat.flats, binStr, ansT, Option.map, List.length_cons, List.length_nil, reduceIte, Nat.reduceEqDiff, Nat.reduceAdd]
          simp [h0, h1, h7, h8, hi', hi, hx, hxe, hw, hb, hH, hn, ivS, imms, binStr, B4, fnEnd, argsT, opRun, PT.get_put, dstep, ev, evs, evO, give, giveI, binOf, isNilK, PM.flip, putT, putL, putH, callM, loadOf, storeOf, cut, over, ofCells, asNat, natOr, calm, clashes, Acc.clash, ressOf, resOf, frz, frz.frzs, snap, snap.snaps, DV.pure, DV.pure.pures, DV.flat, DV.flat.flats, binStr, ansT, Option.map, List.length_cons, List.length_nil, reduceIte, Nat.reduceEqDiff, Nat.reduceAdd]
          intro j hj1
          by_cases e : j = i
          · subst e; rw [hx]; exact fun e => hzx (Option.some.inj e).symm
          · exact hj j (by omega)
      · obtain rfl : i = zs.length := by omega
        right
        refine ⟨.exit 0, ?_⟩
        simp only [D.l235_0b, keep, B4, fnEnd, argsT, opRun, PT.get_put, dstep, ev, evs, evO, give, giveI, binOf, isNilK, PM.flip, putT, putL, putH, callM, loadOf, storeOf, cut, over, ofCells, asNat, natOr, calm, clashes, Acc.clash, ressOf, resOf, frz, frz.frzs, snap, snap.snaps, DV.pure, DV.pure.pures, DV.flat, DV.flat.flats, binStr, ansT, Option.map, List.length_cons, List.length_nil, reduceIte, Nat.reduceEqDiff, Nat.reduceAdd]
        simp [h0, h1, h7, h8, hH, hn, B4, fnEnd, argsT, opRun, PT.get_put, dstep, ev, evs, evO, give, giveI, binOf, isNilK, PM.flip, putT, putL, putH, callM, loadOf, storeOf, cut, over, ofCells, asNat, natOr, calm, clashes, Acc.clash, ressOf, resOf, frz, frz.frzs, snap, snap.snaps, DV.pure, DV.pure.pures, DV.flat, DV.flat.flats, binStr, ansT, Option.map, List.length_cons, List.length_nil, reduceIte, Nat.reduceEqDiff, Nat.reduceAdd]
        intro hm
        obtain ⟨j, hjj⟩ := List.getElem?_of_mem hm
        exact hj j (List.getElem?_eq_some_iff.1 hjj).1 hjj
    rw [show (∃ r : Int, bl (K G (d + 1)) 235 [.imm (.lst f 1 (zs.map ivS)), .imm (.str z)] = some (.imm (.int .i64 r)) ∧ (0 ≤ r ↔ z ∈ zs)) ↔ _ from Iff.rfl]
    have key : ∃ r : Int, K G (d + 1) 235 [.imm (.lst f 1 (zs.map ivS)), .imm (.str z)] .lf 0 0 = some (.imm (.int .i64 r), .lf, 0) ∧ (0 ≤ r ↔ z ∈ zs) := by
      rw [D.k235]
      simp only [D.f235, fn_run, B4, fnEnd, argsT, opRun, PT.get_put, dstep, ev, evs, evO, give, giveI, binOf, isNilK, PM.flip, putT, putL, putH, callM, loadOf, storeOf, cut, over, ofCells, asNat, natOr, calm, clashes, Acc.clash, ressOf, resOf, frz, frz.frzs, snap, snap.snaps, DV.pure, DV.pure.pures, DV.flat, DV.flat.flats, binStr, ansT, Option.map, List.length_cons, List.length_nil, reduceIte, Nat.reduceEqDiff, Nat.reduceAdd]
      simp [B4, fnEnd, argsT, opRun, PT.get_put, dstep, ev, evs, evO, give, giveI, binOf, isNilK, PM.flip, putT, putL, putH, callM, loadOf, storeOf, cut, over, ofCells, asNat, natOr, calm, clashes, Acc.clash, ressOf, resOf, frz, frz.frzs, snap, snap.snaps, DV.pure, DV.pure.pures, DV.flat, DV.flat.flats, binStr, ansT, Option.map, List.length_cons, List.length_nil, reduceIte, Nat.reduceEqDiff, Nat.reduceAdd]
      generalize hrun : D.l235_0.run G (K G d) 0 _ = r
      obtain ⟨e, s', rfl, hq⟩ : ∃ e s', r = some (e, s') ∧ ((e = .ret ∧ s'.H = .lf ∧ s'.n = 0 ∧ z ∈ zs ∧ ∃ r : Nat, s'.T.get 4 = some (.imm (.int .i64 r))) ∨ (e = .exit 0 ∧ s'.H = .lf ∧ s'.n = 0 ∧ z ∉ zs)) := by
        rw [← hrun]
        refine loop _ ⟨?_, ?_, ?_, ?_, rfl, rfl⟩ <;> simp [PT.get_put]
      clear hrun
      rcases hq with ⟨rfl, q1, q2, q3, r, q4⟩ | ⟨rfl, q1, q2, q3⟩
      · refine ⟨r, ?_⟩
        simp [q1, q2, q3, q4, B4, fnEnd, argsT, opRun, PT.get_put, dstep, ev, evs, evO, give, giveI, binOf, isNilK, PM.flip, putT, putL, putH, callM, loadOf, storeOf, cut, over, ofCells, asNat, natOr, calm, clashes, Acc.clash, ressOf, resOf, frz, frz.frzs, snap, snap.snaps, DV.pure, DV.pure.pures, DV.flat, DV.flat.flats, binStr, ansT, Option.map, List.length_cons, List.length_nil, reduceIte, Nat.reduceEqDiff, Nat.reduceAdd]
      · refine ⟨-1, ?_⟩
        simp [q1, q2, q3, B4, fnEnd, argsT, opRun, PT.get_put, dstep, ev, evs, evO, give, giveI, binOf, isNilK, PM.flip, putT, putL, putH, callM, loadOf, storeOf, cut, over, ofCells, asNat, natOr, calm, clashes, Acc.clash, ressOf, resOf, frz, frz.frzs, snap, snap.snaps, DV.pure, DV.pure.pures, DV.flat, DV.flat.flats, binStr, ansT, Option.map, List.length_cons, List.length_nil, reduceIte, Nat.reduceEqDiff, Nat.reduceAdd]
    obtain ⟨r, e1, e2⟩ := key
    exact ⟨r, bl_imm e1, e2⟩
theorem contains_strs (G : Nat → Option (List IV)) {D : Nat} (hD : 2 ≤ D) {v : IV} {zs : List (List UInt8)} (hv : Sl 1 v (zs.map ivS)) (hl : zs.length ≤ reachBytes) (z : List UInt8) :
    bl (K G D) 214 [.imm v, .imm (.str z)] = some (.imm (.bool (decide (z ∈ zs)))) := by
  obtain ⟨d, rfl⟩ : ∃ d, D = d + 1 := ⟨D - 1, by omega⟩
  obtain ⟨r, e1, e2⟩ := index_strs G (D := d) (by omega) hv hl z
  refine bl_imm (H' := .lf) (n' := 0) ?_
  rw [D.k214]
  simp only [D.f214, fn_run, B5, fnEnd, argsT, opRun, PT.get_put, dstep, ev, evs, evO, give, giveI, binOf, isNilK, PM.flip, putT, putL, putH, loadOf, storeOf, cut, over, ofCells, asNat, natOr, calm, clashes, Acc.clash, ressOf, resOf, frz, frz.frzs, DV.flat, DV.flat.flats, binStr, ansT, Option.map, List.length_cons, List.length_nil, reduceIte, Nat.reduceEqDiff, Nat.reduceAdd]
  simp [e1, e2, B5, fnEnd, argsT, opRun, PT.get_put, dstep, ev, evs, evO, give, giveI, binOf, isNilK, PM.flip, putT, putL, putH, loadOf, storeOf, cut, over, ofCells, asNat, natOr, calm, clashes, Acc.clash, ressOf, resOf, frz, frz.frzs, DV.flat, DV.flat.flats, binStr, ansT, Option.map, List.length_cons, List.length_nil, reduceIte, Nat.reduceEqDiff, Nat.reduceAdd]

/-! ### Names -/
def nm3 (s : List UInt8) : Bool := isNm s && (!(s == [115, 101, 116]) && !(s == [102, 108, 97, 110, 107]))
theorem name3_bl {D : Nat} (hD : 5 ≤ D) {s : List UInt8} (hl : s.length ≤ 100000) : bl (K DG D) 97 [.imm (.str s)] = some (.imm (.bool (nm3 s))) := by
  obtain ⟨d, rfl⟩ : ∃ d, D = d + 1 := ⟨D - 1, by omega⟩
  refine bl_imm (H' := .lf) (n' := 0) ?_
  have e := isName1_bl (D := d) (by omega) hl
  rw [D.k97]
  generalize hN : isNm s = N at e
  generalize h1 : (s == [115, 101, 116]) = b1
  generalize h2 : (s == [102, 108, 97, 110, 107]) = b2
  have en : nm3 s = (N && (!b1 && !b2)) := by simp only [nm3, hN, h1, h2]
  rw [en]
  cases N
  · simp only [D.f97, fn_run, B5, fnEnd, argsT, opRun, PT.get_put, dstep, ev, evs, evO, give, giveI, binOf, isNilK, PM.flip, putT, putL, putH, loadOf, storeOf, cut, over, ofCells, asNat, natOr, calm, clashes, Acc.clash, ressOf, resOf, frz, frz.frzs, DV.flat, DV.flat.flats, binStr, ansT, Option.map, List.length_cons, List.length_nil, reduceIte, Nat.reduceEqDiff, Nat.reduceAdd]
    simp [e, h1, h2, binStr, B5, fnEnd, argsT, opRun, PT.get_put, dstep, ev, evs, evO, give, giveI, binOf, isNilK, PM.flip, putT, putL, putH, loadOf, storeOf, cut, over, ofCells, asNat, natOr, calm, clashes, Acc.clash, ressOf, resOf, frz, frz.frzs, DV.flat, DV.flat.flats, binStr, ansT, Option.map, List.length_cons, List.length_nil, reduceIte, Nat.reduceEqDiff, Nat.reduceAdd]
  · cases b1
    · cases b2
      · simp only [D.f97, fn_run, B5, fnEnd, argsT, opRun, PT.get_put, dstep, ev, evs, evO, give, giveI, binOf, isNilK, PM.flip, putT, putL, putH, loadOf, storeOf, cut, over, ofCells, asNat, natOr, calm, clashes, Acc.clash, ressOf, resOf, frz, frz.frzs, DV.flat, DV.flat.flats, binStr, ansT, Option.map, List.length_cons, List.length_nil, reduceIte, Nat.reduceEqDiff, Nat.reduceAdd]
        simp [e, h1, h2, binStr, B5, fnEnd, argsT, opRun, PT.get_put, dstep, ev, evs, evO, give, giveI, binOf, isNilK, PM.flip, putT, putL, putH, loadOf, storeOf, cut, over, ofCells, asNat, natOr, calm, clashes, Acc.clash, ressOf, resOf, frz, frz.frzs, DV.flat, DV.flat.flats, binStr, ansT, Option.map, List.length_cons, List.length_nil, reduceIte, Nat.reduceEqDiff, Nat.reduceAdd]
      · simp only [D.f97, fn_run, B5, fnEnd, argsT, opRun, PT.get_put, dstep, ev, evs, evO, give, giveI, binOf, isNilK, PM.flip, putT, putL, putH, loadOf, storeOf, cut, over, ofCells, asNat, natOr, calm, clashes, Acc.clash, ressOf, resOf, frz, frz.frzs, DV.flat, DV.flat.flats, binStr, ansT, Option.map, List.length_cons, List.length_nil, reduceIte, Nat.reduceEqDiff, Nat.reduceAdd]
        simp [e, h1, h2, binStr, B5, fnEnd, argsT, opRun, PT.get_put, dstep, ev, evs, evO, give, giveI, binOf, isNilK, PM.flip, putT, putL, putH, loadOf, storeOf, cut, over, ofCells, asNat, natOr, calm, clashes, Acc.clash, ressOf, resOf, frz, frz.frzs, DV.flat, DV.flat.flats, binStr, ansT, Option.map, List.length_cons, List.length_nil, reduceIte, Nat.reduceEqDiff, Nat.reduceAdd]
    · simp only [D.f97, fn_run, B5, fnEnd, argsT, opRun, PT.get_put, dstep, ev, evs, evO, give, giveI, binOf, isNilK, PM.flip, putT, putL, putH, loadOf, storeOf, cut, over, ofCells, asNat, natOr, calm, clashes, Acc.clash, ressOf, resOf, frz, frz.frzs, DV.flat, DV.flat.flats, binStr, ansT, Option.map, List.length_cons, List.length_nil, reduceIte, Nat.reduceEqDiff, Nat.reduceAdd]
      simp [e, h1, h2, binStr, B5, fnEnd, argsT, opRun, PT.get_put, dstep, ev, evs, evO, give, giveI, binOf, isNilK, PM.flip, putT, putL, putH, loadOf, storeOf, cut, over, ofCells, asNat, natOr, calm, clashes, Acc.clash, ressOf, resOf, frz, frz.frzs, DV.flat, DV.flat.flats, binStr, ansT, Option.map, List.length_cons, List.length_nil, reduceIte, Nat.reduceEqDiff, Nat.reduceAdd]
end Go.Proofs.YtlknjgmhfimhbacGreatDoor.D

-- TabI
set_option linter.unusedVariables false
set_option linter.unusedSimpArgs false
set_option maxHeartbeats 16000000
namespace Go.Proofs.YtlknjgmhfimhbacGreatDoor.D
open Go Go.PM Go.Lib
def NM (ss : List (List UInt8)) : Prop := ∀ i s, ss[i]? = some s → nm3 s = true ∧ s ∉ ss.take i
def IA (f : Bool) (ss : List (List UInt8)) (i : Nat) (st : St) : Prop := st.T.get 0 = some (.imm (.lst f 1 (ss.map ivS))) ∧ st.T.get 5 = some (.imm (.lst f 1 (ss.map ivS))) ∧ st.T.get 6 = some (.imm (.int .i64 ss.length)) ∧
  st.T.get 7 = some (.imm (.int .i64 i)) ∧ st.H = .lf ∧ ∀ j s, j < i → ss[j]? = some s → nm3 s = true ∧ s ∉ ss.take j
theorem loopA {d : Nat} (hd : 4 ≤ d) {f : Bool} {ss : List (List UInt8)} (hl : ss.length ≤ reachBytes) (hs : ∀ s ∈ ss, s.length ≤ reachBytes) {st : St} (h : IA f ss 0 st) :
    ∃ e st', D.l159_0.run DG (K DG d) 0 st = some (e, st') ∧ ((e = .ret ∧ st'.T.get 2 = some (.imm (.bool false)) ∧ st'.H = .lf ∧ ¬ NM ss) ∨ (e = .exit 0 ∧ st'.H = .lf ∧ NM ss)) := by
  refine rng_loop (N := ss.length) (small hl) (IA f ss) _ (fun i st hI hle => ?_) st h
  obtain ⟨h0, h5, h6, h7, hH, hall⟩ := hI
  by_cases hi : i < ss.length
  · have hi' : (i : Int) < ss.length := by omega
    obtain ⟨x, hx⟩ : ∃ x, ss[i] = x := ⟨_, rfl⟩
    have hget : ss[i]? = some x := by rw [List.getElem?_eq_getElem hi, hx]
    have hxl : x.length ≤ reachBytes := hs x (List.mem_of_getElem? hget)
    have hn := isName_bl (D := d) (by omega) hxl
    have hle' : i ≤ ss.length := by omega
    have hc := contains_strs DG (D := d) (by omega) (v := .lst (f && decide (i = ss.length)) 1 ((ss.take i).map ivS)) (.inr ⟨_, rfl⟩) (by simp; omega) x
    have hne : ¬ i = ss.length := by omega
    have hw8 : IntKind.i64.wrap ((i : Int) + 1) = (i : Int) + 1 := wr_succ hi hl
    generalize hN : isNm x = b0 at hn
    generalize h1 : (x == [115, 101, 116]) = b1
    generalize h2 : (x == [102, 108, 97, 110, 107]) = b2
    generalize h3 : decide (x ∈ ss.take i) = b3 at hc
    have en : nm3 x = (b0 && (!b1 && !b2)) := by simp only [nm3, hN, h1, h2]
    have em : x ∈ ss.take i ↔ b3 = true := by rw [← h3]; simp
    rw [List.map_take] at hc
    simp [hne] at hc
    cases b0
    · right
      refine ⟨.ret, ?_⟩
      simp only [D.l159_0b, keep, B5, fnEnd, argsT, opRun, PT.get_put, dstep, ev, evs, evO, give, giveI, binOf, isNilK, PM.flip, putT, putL, putH, loadOf, storeOf, cut, over, ofCells, asNat, natOr, calm, clashes, Acc.clash, ressOf, resOf, frz, frz.frzs, DV.flat, DV.flat.flats, binStr, ansT, Option.map, List.length_cons, List.length_nil, reduceIte, Nat.reduceEqDiff, Nat.reduceAdd]
      simp [h0, h5, h6, h7, hi, hi', hx, hn, hH, ivS, imms, B5, fnEnd, argsT, opRun, PT.get_put, dstep, ev, evs, evO, give, giveI, binOf, isNilK, PM.flip, putT, putL, putH, loadOf, storeOf, cut, over, ofCells, asNat, natOr, calm, clashes, Acc.clash, ressOf, resOf, frz, frz.frzs, DV.flat, DV.flat.flats, binStr, ansT, Option.map, List.length_cons, List.length_nil, reduceIte, Nat.reduceEqDiff, Nat.reduceAdd]
      exact fun hm => by have := (hm i x hget).1; rw [en] at this; simp at this
    · cases b1
      · cases b2
        · cases b3
          · left
            refine ⟨hi, ?_⟩
            simp only [D.l159_0b, keep, B5, fnEnd, argsT, opRun, PT.get_put, dstep, ev, evs, evO, give, giveI, binOf, isNilK, PM.flip, putT, putL, putH, loadOf, storeOf, cut, over, ofCells, asNat, natOr, calm, clashes, Acc.clash, ressOf, resOf, frz, frz.frzs, DV.flat, DV.flat.flats, binStr, ansT, Option.map, List.length_cons, List.length_nil, reduceIte, Nat.reduceEqDiff, Nat.reduceAdd]
            simp [h0, h5, h6, h7, hi, hi', hx, hn, hH, h1, h2, hc, hle', hne, hw8, sliceOf, binStr, ivS, imms, B5, fnEnd, argsT, opRun, PT.get_put, dstep, ev, evs, evO, give, giveI, binOf, isNilK, PM.flip, putT, putL, putH, loadOf, storeOf, cut, over, ofCells, asNat, natOr, calm, clashes, Acc.clash, ressOf, resOf, frz, frz.frzs, DV.flat, DV.flat.flats, binStr, ansT, Option.map, List.length_cons, List.length_nil, reduceIte, Nat.reduceEqDiff, Nat.reduceAdd]
            refine ⟨by simp [PT.get_put, ivS], by simp [PT.get_put, ivS], by simp [PT.get_put], by simp [PT.get_put], rfl, fun j s hj hp => ?_⟩
            rcases Nat.lt_or_eq_of_le (Nat.le_of_lt_succ hj) with hj | rfl
            · exact hall j s hj hp
            · rw [hget] at hp
              cases hp
              exact ⟨by rw [en]; rfl, fun h => by have := em.1 h; cases this⟩
          · right
            refine ⟨.ret, ?_⟩
            simp only [D.l159_0b, keep, B5, fnEnd, argsT, opRun, PT.get_put, dstep, ev, evs, evO, give, giveI, binOf, isNilK, PM.flip, putT, putL, putH, loadOf, storeOf, cut, over, ofCells, asNat, natOr, calm, clashes, Acc.clash, ressOf, resOf, frz, frz.frzs, DV.flat, DV.flat.flats, binStr, ansT, Option.map, List.length_cons, List.length_nil, reduceIte, Nat.reduceEqDiff, Nat.reduceAdd]
            simp [h0, h5, h6, h7, hi, hi', hx, hn, hH, h1, h2, hc, hle', hne, sliceOf, binStr, ivS, imms, B5, fnEnd, argsT, opRun, PT.get_put, dstep, ev, evs, evO, give, giveI, binOf, isNilK, PM.flip, putT, putL, putH, loadOf, storeOf, cut, over, ofCells, asNat, natOr, calm, clashes, Acc.clash, ressOf, resOf, frz, frz.frzs, DV.flat, DV.flat.flats, binStr, ansT, Option.map, List.length_cons, List.length_nil, reduceIte, Nat.reduceEqDiff, Nat.reduceAdd]
            exact fun hm => (hm i x hget).2 (em.2 rfl)
        · right
          refine ⟨.ret, ?_⟩
          simp only [D.l159_0b, keep, B5, fnEnd, argsT, opRun, PT.get_put, dstep, ev, evs, evO, give, giveI, binOf, isNilK, PM.flip, putT, putL, putH, loadOf, storeOf, cut, over, ofCells, asNat, natOr, calm, clashes, Acc.clash, ressOf, resOf, frz, frz.frzs, DV.flat, DV.flat.flats, binStr, ansT, Option.map, List.length_cons, List.length_nil, reduceIte, Nat.reduceEqDiff, Nat.reduceAdd]
          simp [h0, h5, h6, h7, hi, hi', hx, hn, hH, h1, h2, binStr, ivS, imms, B5, fnEnd, argsT, opRun, PT.get_put, dstep, ev, evs, evO, give, giveI, binOf, isNilK, PM.flip, putT, putL, putH, loadOf, storeOf, cut, over, ofCells, asNat, natOr, calm, clashes, Acc.clash, ressOf, resOf, frz, frz.frzs, DV.flat, DV.flat.flats, binStr, ansT, Option.map, List.length_cons, List.length_nil, reduceIte, Nat.reduceEqDiff, Nat.reduceAdd]
          exact fun hm => by have := (hm i x hget).1; rw [en] at this; simp at this
      · right
        refine ⟨.ret, ?_⟩
        simp only [D.l159_0b, keep, B5, fnEnd, argsT, opRun, PT.get_put, dstep, ev, evs, evO, give, giveI, binOf, isNilK, PM.flip, putT, putL, putH, loadOf, storeOf, cut, over, ofCells, asNat, natOr, calm, clashes, Acc.clash, ressOf, resOf, frz, frz.frzs, DV.flat, DV.flat.flats, binStr, ansT, Option.map, List.length_cons, List.length_nil, reduceIte, Nat.reduceEqDiff, Nat.reduceAdd]
        simp [h0, h5, h6, h7, hi, hi', hx, hn, hH, h1, binStr, ivS, imms, B5, fnEnd, argsT, opRun, PT.get_put, dstep, ev, evs, evO, give, giveI, binOf, isNilK, PM.flip, putT, putL, putH, loadOf, storeOf, cut, over, ofCells, asNat, natOr, calm, clashes, Acc.clash, ressOf, resOf, frz, frz.frzs, DV.flat, DV.flat.flats, binStr, ansT, Option.map, List.length_cons, List.length_nil, reduceIte, Nat.reduceEqDiff, Nat.reduceAdd]
        exact fun hm => by have := (hm i x hget).1; rw [en] at this; simp at this
  · obtain rfl : i = ss.length := by omega
    right
    refine ⟨.exit 0, ?_⟩
    simp only [D.l159_0b, keep, B5, fnEnd, argsT, opRun, PT.get_put, dstep, ev, evs, evO, give, giveI, binOf, isNilK, PM.flip, putT, putL, putH, loadOf, storeOf, cut, over, ofCells, asNat, natOr, calm, clashes, Acc.clash, ressOf, resOf, frz, frz.frzs, DV.flat, DV.flat.flats, binStr, ansT, Option.map, List.length_cons, List.length_nil, reduceIte, Nat.reduceEqDiff, Nat.reduceAdd]
    simp [h0, h5, h6, h7, hH, B5, fnEnd, argsT, opRun, PT.get_put, dstep, ev, evs, evO, give, giveI, binOf, isNilK, PM.flip, putT, putL, putH, loadOf, storeOf, cut, over, ofCells, asNat, natOr, calm, clashes, Acc.clash, ressOf, resOf, frz, frz.frzs, DV.flat, DV.flat.flats, binStr, ansT, Option.map, List.length_cons, List.length_nil, reduceIte, Nat.reduceEqDiff, Nat.reduceAdd]
    exact fun j s hj => hall j s (List.getElem?_eq_some_iff.1 hj).1 hj
theorem NM_nil : NM [] := fun i s h => by simp at h
/-- table.areNames tells whether all are names, none twice. -/
theorem areNames_bl {D : Nat} (hD : 5 ≤ D) {v : IV} {ss : List (List UInt8)} (hv : Sl 1 v (ss.map ivS)) (hl : ss.length ≤ reachBytes) (hs : ∀ s ∈ ss, s.length ≤ reachBytes) :
    ∃ b : Bool, bl (K DG D) 159 [.imm v] = some (.imm (.bool b)) ∧ (b = true ↔ NM ss) := by
  obtain ⟨d, rfl⟩ : ∃ d, D = d + 1 := ⟨D - 1, by omega⟩
  have key : ∃ b n', K DG (d + 1) 159 [.imm v] .lf 0 0 = some (.imm (.bool b), .lf, n') ∧ (b = true ↔ NM ss) := by
    rw [D.k159]
    rcases hv with ⟨rfl, hn⟩ | ⟨f, rfl⟩
    · have hn0 : ss = [] := by simpa using hn
      subst hn0
      obtain ⟨k, hL⟩ : ∃ k, LOOP = k + 1 := ⟨2 ^ 62 - 1, rfl⟩
      refine ⟨true, 0, ?_, by simp [NM_nil]⟩
      simp only [D.f159, D.l159_0, fn_run, B5, fnEnd, argsT, opRun, PT.get_put, dstep, ev, evs, evO, give, giveI, binOf, isNilK, PM.flip, putT, putL, putH, loadOf, storeOf, cut, over, ofCells, asNat, natOr, calm, clashes, Acc.clash, ressOf, resOf, frz, frz.frzs, DV.flat, DV.flat.flats, binStr, ansT, Option.map, List.length_cons, List.length_nil, reduceIte, Nat.reduceEqDiff, Nat.reduceAdd]
      simp [run_loop, hL, iter, loopRun_eq, keep, D.l159_0b, B5, fnEnd, argsT, opRun, PT.get_put, dstep, ev, evs, evO, give, giveI, binOf, isNilK, PM.flip, putT, putL, putH, loadOf, storeOf, cut, over, ofCells, asNat, natOr, calm, clashes, Acc.clash, ressOf, resOf, frz, frz.frzs, DV.flat, DV.flat.flats, binStr, ansT, Option.map, List.length_cons, List.length_nil, reduceIte, Nat.reduceEqDiff, Nat.reduceAdd]
    · simp only [D.f159, fn_run, B5, fnEnd, argsT, opRun, PT.get_put, dstep, ev, evs, evO, give, giveI, binOf, isNilK, PM.flip, putT, putL, putH, loadOf, storeOf, cut, over, ofCells, asNat, natOr, calm, clashes, Acc.clash, ressOf, resOf, frz, frz.frzs, DV.flat, DV.flat.flats, binStr, ansT, Option.map, List.length_cons, List.length_nil, reduceIte, Nat.reduceEqDiff, Nat.reduceAdd]
      simp [B5, fnEnd, argsT, opRun, PT.get_put, dstep, ev, evs, evO, give, giveI, binOf, isNilK, PM.flip, putT, putL, putH, loadOf, storeOf, cut, over, ofCells, asNat, natOr, calm, clashes, Acc.clash, ressOf, resOf, frz, frz.frzs, DV.flat, DV.flat.flats, binStr, ansT, Option.map, List.length_cons, List.length_nil, reduceIte, Nat.reduceEqDiff, Nat.reduceAdd]
      generalize hrun : D.l159_0.run DG (K DG d) 0 _ = r
      obtain ⟨e, st', rfl, hq⟩ : ∃ e st', r = some (e, st') ∧ ((e = .ret ∧ st'.T.get 2 = some (.imm (.bool false)) ∧ st'.H = .lf ∧ ¬ NM ss) ∨ (e = .exit 0 ∧ st'.H = .lf ∧ NM ss)) := by
        rw [← hrun]
        refine loopA (f := f) (by omega) hl hs ⟨by simp [PT.get_put], by simp [PT.get_put], by simp [PT.get_put], by simp [PT.get_put], rfl, fun j s hj => absurd hj (by omega)⟩
      clear hrun
      rcases hq with ⟨rfl, q1, q2, q3⟩ | ⟨rfl, q2, q3⟩
      · simp [q1, q2, q3, B5, fnEnd, argsT, opRun, PT.get_put, dstep, ev, evs, evO, give, giveI, binOf, isNilK, PM.flip, putT, putL, putH, loadOf, storeOf, cut, over, ofCells, asNat, natOr, calm, clashes, Acc.clash, ressOf, resOf, frz, frz.frzs, DV.flat, DV.flat.flats, binStr, ansT, Option.map, List.length_cons, List.length_nil, reduceIte, Nat.reduceEqDiff, Nat.reduceAdd]
      · simp [q2, q3, B5, fnEnd, argsT, opRun, PT.get_put, dstep, ev, evs, evO, give, giveI, binOf, isNilK, PM.flip, putT, putL, putH, loadOf, storeOf, cut, over, ofCells, asNat, natOr, calm, clashes, Acc.clash, ressOf, resOf, frz, frz.frzs, DV.flat, DV.flat.flats, binStr, ansT, Option.map, List.length_cons, List.length_nil, reduceIte, Nat.reduceEqDiff, Nat.reduceAdd]
  obtain ⟨b, n', e, h⟩ := key
  exact ⟨b, bl_imm e, h⟩
end Go.Proofs.YtlknjgmhfimhbacGreatDoor.D

-- TabJ
set_option linter.unusedVariables false
set_option linter.unusedSimpArgs false
set_option maxHeartbeats 16000000
namespace Go.Proofs.YtlknjgmhfimhbacGreatDoor.D
open Go Go.PM Go.Lib
def IJ (f : Bool) (ss : List (List UInt8)) (i k : Nat) (st : St) : Prop := st.T.get 0 = some (.imm (.lst f 1 (ss.map ivS))) ∧ st.T.get 3 = some (.imm (.int .i64 i)) ∧ st.T.get 4 = some (.imm (.int .i64 k)) ∧ st.H = .lf ∧ ∀ j s, j < k → ss[j]? = some s → ss[i]? ≠ some s
theorem loopJ {d : Nat} {f : Bool} {ss : List (List UInt8)} (hl : ss.length ≤ reachBytes) {i : Nat} (hi : i < ss.length) {st : St} (h : IJ f ss i 0 st) :
    ∃ e st', D.l39_1.run DG (K DG d) 0 st = some (e, st') ∧ ((e = .ret ∧ st'.T.get 2 = some (.imm (.bool false)) ∧ st'.H = .lf ∧ ¬ NM ss) ∨ (e = .exit 2 ∧ IJ f ss i i st')) := by
  refine rng_loop (N := i) (small (by omega)) (IJ f ss i) _ (fun k st hI hle => ?_) st h
  obtain ⟨h0, h3, h4, hH, hall⟩ := hI
  by_cases hk : k < i
  · have hk' : (k : Int) < i := by omega
    have hkl : k < ss.length := by omega
    have hw8 : IntKind.i64.wrap ((k : Int) + 1) = (k : Int) + 1 := wr_succ hk (by omega)
    obtain ⟨x, hx⟩ : ∃ x, ss[i] = x := ⟨_, rfl⟩
    obtain ⟨y, hy⟩ : ∃ y, ss[k] = y := ⟨_, rfl⟩
    have gx : ss[i]? = some x := by rw [List.getElem?_eq_getElem hi, hx]
    have gy : ss[k]? = some y := by rw [List.getElem?_eq_getElem hkl, hy]
    by_cases he : y = x
    · right
      refine ⟨.ret, ?_⟩
      simp only [D.l39_1b, keep, B5, fnEnd, argsT, opRun, PT.get_put, dstep, ev, evs, evO, give, giveI, binOf, isNilK, PM.flip, putT, putL, putH, loadOf, storeOf, cut, over, ofCells, asNat, natOr, calm, clashes, Acc.clash, ressOf, resOf, frz, frz.frzs, DV.flat, DV.flat.flats, binStr, ansT, Option.map, List.length_cons, List.length_nil, reduceIte, Nat.reduceEqDiff, Nat.reduceAdd]
      simp [h0, h3, h4, hk, hk', hi, hkl, hx, hy, he, hH, binStr, ivS, imms, B5, fnEnd, argsT, opRun, PT.get_put, dstep, ev, evs, evO, give, giveI, binOf, isNilK, PM.flip, putT, putL, putH, loadOf, storeOf, cut, over, ofCells, asNat, natOr, calm, clashes, Acc.clash, ressOf, resOf, frz, frz.frzs, DV.flat, DV.flat.flats, binStr, ansT, Option.map, List.length_cons, List.length_nil, reduceIte, Nat.reduceEqDiff, Nat.reduceAdd]
      intro hm
      have := (hm i x gx).2
      exact this (List.mem_iff_getElem?.2 ⟨k, by rw [List.getElem?_take, if_pos hk, gy, he]⟩)
    · left
      refine ⟨hk, ?_⟩
      have he' : (y == x) = false := by simpa using he
      simp only [D.l39_1b, keep, B5, fnEnd, argsT, opRun, PT.get_put, dstep, ev, evs, evO, give, giveI, binOf, isNilK, PM.flip, putT, putL, putH, loadOf, storeOf, cut, over, ofCells, asNat, natOr, calm, clashes, Acc.clash, ressOf, resOf, frz, frz.frzs, DV.flat, DV.flat.flats, binStr, ansT, Option.map, List.length_cons, List.length_nil, reduceIte, Nat.reduceEqDiff, Nat.reduceAdd]
      simp [h0, h3, h4, hk, hk', hi, hkl, hx, hy, he, he', hw8, hH, binStr, ivS, imms, B5, fnEnd, argsT, opRun, PT.get_put, dstep, ev, evs, evO, give, giveI, binOf, isNilK, PM.flip, putT, putL, putH, loadOf, storeOf, cut, over, ofCells, asNat, natOr, calm, clashes, Acc.clash, ressOf, resOf, frz, frz.frzs, DV.flat, DV.flat.flats, binStr, ansT, Option.map, List.length_cons, List.length_nil, reduceIte, Nat.reduceEqDiff, Nat.reduceAdd]
      refine ⟨by simp [PT.get_put, ivS], by simp [PT.get_put], by simp [PT.get_put], rfl, fun j s hj hp => ?_⟩
      rcases Nat.lt_or_eq_of_le (Nat.le_of_lt_succ hj) with hj | rfl
      · exact hall j s hj hp
      · rw [gy] at hp
        cases hp
        rw [gx]
        exact fun h => he (Option.some.inj h).symm
  · obtain rfl : k = i := by omega
    right
    refine ⟨.exit 2, ?_⟩
    simp only [D.l39_1b, keep, B5, fnEnd, argsT, opRun, PT.get_put, dstep, ev, evs, evO, give, giveI, binOf, isNilK, PM.flip, putT, putL, putH, loadOf, storeOf, cut, over, ofCells, asNat, natOr, calm, clashes, Acc.clash, ressOf, resOf, frz, frz.frzs, DV.flat, DV.flat.flats, binStr, ansT, Option.map, List.length_cons, List.length_nil, reduceIte, Nat.reduceEqDiff, Nat.reduceAdd]
    simp [h0, h3, h4, hH, B5, fnEnd, argsT, opRun, PT.get_put, dstep, ev, evs, evO, give, giveI, binOf, isNilK, PM.flip, putT, putL, putH, loadOf, storeOf, cut, over, ofCells, asNat, natOr, calm, clashes, Acc.clash, ressOf, resOf, frz, frz.frzs, DV.flat, DV.flat.flats, binStr, ansT, Option.map, List.length_cons, List.length_nil, reduceIte, Nat.reduceEqDiff, Nat.reduceAdd]
    exact ⟨by simp [PT.get_put], by simp [PT.get_put], by simp [PT.get_put], rfl, hall⟩
def IO' (f : Bool) (ss : List (List UInt8)) (i : Nat) (st : St) : Prop := st.T.get 0 = some (.imm (.lst f 1 (ss.map ivS))) ∧ st.T.get 3 = some (.imm (.int .i64 i)) ∧ st.H = .lf ∧ ∀ j s, j < i → ss[j]? = some s → nm3 s = true ∧ s ∉ ss.take j
theorem loopO {d : Nat} (hd : 5 ≤ d) {f : Bool} {ss : List (List UInt8)} (hl : ss.length ≤ reachBytes) (hs : ∀ s ∈ ss, s.length ≤ 100000) {st : St} (h : IO' f ss 0 st) :
    ∃ e st', D.l39_0.run DG (K DG d) 0 st = some (e, st') ∧ ((e = .ret ∧ st'.T.get 2 = some (.imm (.bool false)) ∧ st'.H = .lf ∧ ¬ NM ss) ∨ (e = .exit 0 ∧ st'.H = .lf ∧ NM ss)) := by
  refine rng_loop (N := ss.length) (small hl) (IO' f ss) _ (fun i st hI hle => ?_) st h
  obtain ⟨h0, h3, hH, hall⟩ := hI
  by_cases hi : i < ss.length
  · have hi' : (i : Int) < ss.length := by omega
    have hw8 : IntKind.i64.wrap ((i : Int) + 1) = (i : Int) + 1 := wr_succ hi hl
    obtain ⟨x, hx⟩ : ∃ x, ss[i] = x := ⟨_, rfl⟩
    have gx : ss[i]? = some x := by rw [List.getElem?_eq_getElem hi, hx]
    have hn := name3_bl (D := d) hd (hs x (List.mem_of_getElem? gx))
    cases hN : nm3 x
    · rw [hN] at hn
      right
      refine ⟨.ret, ?_⟩
      simp only [D.l39_0b, keep, B5, fnEnd, argsT, opRun, PT.get_put, dstep, ev, evs, evO, give, giveI, binOf, isNilK, PM.flip, putT, putL, putH, loadOf, storeOf, cut, over, ofCells, asNat, natOr, calm, clashes, Acc.clash, ressOf, resOf, frz, frz.frzs, DV.flat, DV.flat.flats, binStr, ansT, Option.map, List.length_cons, List.length_nil, reduceIte, Nat.reduceEqDiff, Nat.reduceAdd]
      simp [h0, h3, hi, hi', hx, hn, hH, ivS, imms, B5, fnEnd, argsT, opRun, PT.get_put, dstep, ev, evs, evO, give, giveI, binOf, isNilK, PM.flip, putT, putL, putH, loadOf, storeOf, cut, over, ofCells, asNat, natOr, calm, clashes, Acc.clash, ressOf, resOf, frz, frz.frzs, DV.flat, DV.flat.flats, binStr, ansT, Option.map, List.length_cons, List.length_nil, reduceIte, Nat.reduceEqDiff, Nat.reduceAdd]
      exact fun hm => by have := (hm i x gx).1; rw [hN] at this; cases this
    · rw [hN] at hn
      have key : ∃ r, D.l39_0b.run DG (K DG d) 0 ⟨keep st.T [0, 3], keep st.L [], st.H, st.n⟩ = r := ⟨_, rfl⟩
      obtain ⟨r, hr⟩ := key
      have hr0 := hr
      simp only [D.l39_0b, keep, B5, fnEnd, argsT, opRun, PT.get_put, dstep, ev, evs, evO, give, giveI, binOf, isNilK, PM.flip, putT, putL, putH, loadOf, storeOf, cut, over, ofCells, asNat, natOr, calm, clashes, Acc.clash, ressOf, resOf, frz, frz.frzs, DV.flat, DV.flat.flats, binStr, ansT, Option.map, List.length_cons, List.length_nil, reduceIte, Nat.reduceEqDiff, Nat.reduceAdd] at hr
      simp [h0, h3, hi, hi', hx, hn, hH, ivS, imms, B5, fnEnd, argsT, opRun, PT.get_put, dstep, ev, evs, evO, give, giveI, binOf, isNilK, PM.flip, putT, putL, putH, loadOf, storeOf, cut, over, ofCells, asNat, natOr, calm, clashes, Acc.clash, ressOf, resOf, frz, frz.frzs, DV.flat, DV.flat.flats, binStr, ansT, Option.map, List.length_cons, List.length_nil, reduceIte, Nat.reduceEqDiff, Nat.reduceAdd] at hr
      generalize hrun : D.l39_1.run DG (K DG d) 0 _ = q at hr
      obtain ⟨e, st', rfl, hq⟩ : ∃ e st', q = some (e, st') ∧ ((e = .ret ∧ st'.T.get 2 = some (.imm (.bool false)) ∧ st'.H = .lf ∧ ¬ NM ss) ∨ (e = .exit 2 ∧ IJ f ss i i st')) := by
        rw [← hrun]
        refine loopJ hl hi ⟨by simp [PT.get_put, ivS], by simp [PT.get_put], by simp [PT.get_put], rfl, fun j s hj => absurd hj (by omega)⟩
      clear hrun
      rcases hq with ⟨rfl, q1, q2, q3⟩ | ⟨rfl, j0, j3, j4, jH, jall⟩
      · right
        simp [B5, fnEnd, argsT, opRun, PT.get_put, dstep, ev, evs, evO, give, giveI, binOf, isNilK, PM.flip, putT, putL, putH, loadOf, storeOf, cut, over, ofCells, asNat, natOr, calm, clashes, Acc.clash, ressOf, resOf, frz, frz.frzs, DV.flat, DV.flat.flats, binStr, ansT, Option.map, List.length_cons, List.length_nil, reduceIte, Nat.reduceEqDiff, Nat.reduceAdd] at hr
        rw [← hr] at hr0
        exact ⟨.ret, st', hr0, by simp, .inl ⟨rfl, q1, q2, q3⟩⟩
      · left
        simp [j3, hw8, B5, fnEnd, argsT, opRun, PT.get_put, dstep, ev, evs, evO, give, giveI, binOf, isNilK, PM.flip, putT, putL, putH, loadOf, storeOf, cut, over, ofCells, asNat, natOr, calm, clashes, Acc.clash, ressOf, resOf, frz, frz.frzs, DV.flat, DV.flat.flats, binStr, ansT, Option.map, List.length_cons, List.length_nil, reduceIte, Nat.reduceEqDiff, Nat.reduceAdd] at hr
        rw [← hr] at hr0
        refine ⟨hi, _, hr0, by simp [PT.get_put, j0], by simp [PT.get_put], jH, fun j s hj hp => ?_⟩
        rcases Nat.lt_or_eq_of_le (Nat.le_of_lt_succ hj) with hj | rfl
        · exact hall j s hj hp
        · rw [gx] at hp
          cases hp
          refine ⟨hN, fun hm => ?_⟩
          obtain ⟨k, hk⟩ := List.mem_iff_getElem?.1 hm
          rw [List.getElem?_take] at hk
          split at hk
          · rename_i hk1
            exact jall k _ hk1 hk gx
          · cases hk
  · obtain rfl : i = ss.length := by omega
    right
    refine ⟨.exit 0, ?_⟩
    simp only [D.l39_0b, keep, B5, fnEnd, argsT, opRun, PT.get_put, dstep, ev, evs, evO, give, giveI, binOf, isNilK, PM.flip, putT, putL, putH, loadOf, storeOf, cut, over, ofCells, asNat, natOr, calm, clashes, Acc.clash, ressOf, resOf, frz, frz.frzs, DV.flat, DV.flat.flats, binStr, ansT, Option.map, List.length_cons, List.length_nil, reduceIte, Nat.reduceEqDiff, Nat.reduceAdd]
    simp [h0, h3, hH, B5, fnEnd, argsT, opRun, PT.get_put, dstep, ev, evs, evO, give, giveI, binOf, isNilK, PM.flip, putT, putL, putH, loadOf, storeOf, cut, over, ofCells, asNat, natOr, calm, clashes, Acc.clash, ressOf, resOf, frz, frz.frzs, DV.flat, DV.flat.flats, binStr, ansT, Option.map, List.length_cons, List.length_nil, reduceIte, Nat.reduceEqDiff, Nat.reduceAdd]
    exact fun j s hj => hall j s (List.getElem?_eq_some_iff.1 hj).1 hj
/-- pointsmanref4.names tells the same as table.areNames. -/
theorem names_bl {D : Nat} (hD : 6 ≤ D) {v : IV} {ss : List (List UInt8)} (hv : Sl 1 v (ss.map ivS)) (hl : ss.length ≤ reachBytes) (hs : ∀ s ∈ ss, s.length ≤ 100000) :
    ∃ b : Bool, bl (K DG D) 39 [.imm v] = some (.imm (.bool b)) ∧ (b = true ↔ NM ss) := by
  obtain ⟨d, rfl⟩ : ∃ d, D = d + 1 := ⟨D - 1, by omega⟩
  have key : ∃ b n', K DG (d + 1) 39 [.imm v] .lf 0 0 = some (.imm (.bool b), .lf, n') ∧ (b = true ↔ NM ss) := by
    rw [D.k39]
    rcases hv with ⟨rfl, hn⟩ | ⟨f, rfl⟩
    · have hn0 : ss = [] := by simpa using hn
      subst hn0
      obtain ⟨k, hL⟩ : ∃ k, LOOP = k + 1 := ⟨2 ^ 62 - 1, rfl⟩
      refine ⟨true, 0, ?_, by simp [NM_nil]⟩
      simp only [D.f39, D.l39_0, fn_run, B5, fnEnd, argsT, opRun, PT.get_put, dstep, ev, evs, evO, give, giveI, binOf, isNilK, PM.flip, putT, putL, putH, loadOf, storeOf, cut, over, ofCells, asNat, natOr, calm, clashes, Acc.clash, ressOf, resOf, frz, frz.frzs, DV.flat, DV.flat.flats, binStr, ansT, Option.map, List.length_cons, List.length_nil, reduceIte, Nat.reduceEqDiff, Nat.reduceAdd]
      simp [run_loop, hL, iter, loopRun_eq, keep, D.l39_0b, B5, fnEnd, argsT, opRun, PT.get_put, dstep, ev, evs, evO, give, giveI, binOf, isNilK, PM.flip, putT, putL, putH, loadOf, storeOf, cut, over, ofCells, asNat, natOr, calm, clashes, Acc.clash, ressOf, resOf, frz, frz.frzs, DV.flat, DV.flat.flats, binStr, ansT, Option.map, List.length_cons, List.length_nil, reduceIte, Nat.reduceEqDiff, Nat.reduceAdd]
    · simp only [D.f39, fn_run, B5, fnEnd, argsT, opRun, PT.get_put, dstep, ev, evs, evO, give, giveI, binOf, isNilK, PM.flip, putT, putL, putH, loadOf, storeOf, cut, over, ofCells, asNat, natOr, calm, clashes, Acc.clash, ressOf, resOf, frz, frz.frzs, DV.flat, DV.flat.flats, binStr, ansT, Option.map, List.length_cons, List.length_nil, reduceIte, Nat.reduceEqDiff, Nat.reduceAdd]
      generalize hrun : D.l39_0.run DG (K DG d) 0 _ = r
      obtain ⟨e, st', rfl, hq⟩ : ∃ e st', r = some (e, st') ∧ ((e = .ret ∧ st'.T.get 2 = some (.imm (.bool false)) ∧ st'.H = .lf ∧ ¬ NM ss) ∨ (e = .exit 0 ∧ st'.H = .lf ∧ NM ss)) := by
        rw [← hrun]
        refine loopO (f := f) (by omega) hl hs ⟨by simp [PT.get_put], by simp [PT.get_put], rfl, fun j s hj => absurd hj (by omega)⟩
      clear hrun
      rcases hq with ⟨rfl, q1, q2, q3⟩ | ⟨rfl, q2, q3⟩
      · simp [q1, q2, q3, B5, fnEnd, argsT, opRun, PT.get_put, dstep, ev, evs, evO, give, giveI, binOf, isNilK, PM.flip, putT, putL, putH, loadOf, storeOf, cut, over, ofCells, asNat, natOr, calm, clashes, Acc.clash, ressOf, resOf, frz, frz.frzs, DV.flat, DV.flat.flats, binStr, ansT, Option.map, List.length_cons, List.length_nil, reduceIte, Nat.reduceEqDiff, Nat.reduceAdd]
      · simp [q2, q3, B5, fnEnd, argsT, opRun, PT.get_put, dstep, ev, evs, evO, give, giveI, binOf, isNilK, PM.flip, putT, putL, putH, loadOf, storeOf, cut, over, ofCells, asNat, natOr, calm, clashes, Acc.clash, ressOf, resOf, frz, frz.frzs, DV.flat, DV.flat.flats, binStr, ansT, Option.map, List.length_cons, List.length_nil, reduceIte, Nat.reduceEqDiff, Nat.reduceAdd]
  obtain ⟨b, n', e, h⟩ := key
  exact ⟨b, bl_imm e, h⟩
end Go.Proofs.YtlknjgmhfimhbacGreatDoor.D

-- TabK
set_option linter.unusedVariables false
set_option linter.unusedSimpArgs false
set_option maxHeartbeats 16000000
namespace Go.Proofs.YtlknjgmhfimhbacGreatDoor.D
open Go Go.PM Go.Lib
def IK4 (f : Bool) (zs : List Int) (z : Int) (i : Nat) (st : St) : Prop := st.T.get 0 = some (.imm (.lst f 1 (zs.map ivI))) ∧ st.T.get 1 = some (.imm (.int .i64 z)) ∧ st.T.get 5 = some (.imm (.int .i64 i)) ∧ st.H = .lf ∧ ∀ j, j < i → zs[j]? ≠ some z
theorem loopIn {d : Nat} {f : Bool} {zs : List Int} {z : Int} (hl : zs.length ≤ reachBytes) {st : St} (h : IK4 f zs z 0 st) :
    ∃ e st', D.l98_0.run DG (K DG d) 0 st = some (e, st') ∧ ((e = .ret ∧ st'.T.get 4 = some (.imm (.bool true)) ∧ st'.H = .lf ∧ z ∈ zs) ∨ (e = .exit 0 ∧ st'.H = .lf ∧ z ∉ zs)) := by
  refine rng_loop (N := zs.length) (small hl) (IK4 f zs z) _ (fun i st hI hle => ?_) st h
  obtain ⟨h0, h1, h5, hH, hall⟩ := hI
  by_cases hi : i < zs.length
  · have hi' : (i : Int) < zs.length := by omega
    have hw8 : IntKind.i64.wrap ((i : Int) + 1) = (i : Int) + 1 := wr_succ hi hl
    obtain ⟨x, hx⟩ : ∃ x, zs[i] = x := ⟨_, rfl⟩
    have gx : zs[i]? = some x := by rw [List.getElem?_eq_getElem hi, hx]
    by_cases he : x = z
    · right
      refine ⟨.ret, ?_⟩
      simp only [D.l98_0b, keep, B5, fnEnd, argsT, opRun, PT.get_put, dstep, ev, evs, evO, give, giveI, binOf, isNilK, PM.flip, putT, putL, putH, loadOf, storeOf, cut, over, ofCells, asNat, natOr, calm, clashes, Acc.clash, ressOf, resOf, frz, frz.frzs, DV.flat, DV.flat.flats, binStr, ansT, Option.map, List.length_cons, List.length_nil, reduceIte, Nat.reduceEqDiff, Nat.reduceAdd]
      simp [h0, h1, h5, hi, hi', hx, he, hH, ivI, imms, B5, fnEnd, argsT, opRun, PT.get_put, dstep, ev, evs, evO, give, giveI, binOf, isNilK, PM.flip, putT, putL, putH, loadOf, storeOf, cut, over, ofCells, asNat, natOr, calm, clashes, Acc.clash, ressOf, resOf, frz, frz.frzs, DV.flat, DV.flat.flats, binStr, ansT, Option.map, List.length_cons, List.length_nil, reduceIte, Nat.reduceEqDiff, Nat.reduceAdd]
      exact List.mem_of_getElem? (he ▸ gx)
    · left
      refine ⟨hi, ?_⟩
      have he' : (x == z) = false := beqF he
      simp only [D.l98_0b, keep, B5, fnEnd, argsT, opRun, PT.get_put, dstep, ev, evs, evO, give, giveI, binOf, isNilK, PM.flip, putT, putL, putH, loadOf, storeOf, cut, over, ofCells, asNat, natOr, calm, clashes, Acc.clash, ressOf, resOf, frz, frz.frzs, DV.flat, DV.flat.flats, binStr, ansT, Option.map, List.length_cons, List.length_nil, reduceIte, Nat.reduceEqDiff, Nat.reduceAdd]
      simp [h0, h1, h5, hi, hi', hx, he, he', hw8, hH, ivI, imms, B5, fnEnd, argsT, opRun, PT.get_put, dstep, ev, evs, evO, give, giveI, binOf, isNilK, PM.flip, putT, putL, putH, loadOf, storeOf, cut, over, ofCells, asNat, natOr, calm, clashes, Acc.clash, ressOf, resOf, frz, frz.frzs, DV.flat, DV.flat.flats, binStr, ansT, Option.map, List.length_cons, List.length_nil, reduceIte, Nat.reduceEqDiff, Nat.reduceAdd]
      refine ⟨by simp [PT.get_put, ivI], by simp [PT.get_put], by simp [PT.get_put], rfl, fun j hj => ?_⟩
      rcases Nat.lt_or_eq_of_le (Nat.le_of_lt_succ hj) with hj | rfl
      · exact hall j hj
      · rw [gx]
        exact fun h => he (Option.some.inj h)
  · obtain rfl : i = zs.length := by omega
    right
    refine ⟨.exit 0, ?_⟩
    simp only [D.l98_0b, keep, B5, fnEnd, argsT, opRun, PT.get_put, dstep, ev, evs, evO, give, giveI, binOf, isNilK, PM.flip, putT, putL, putH, loadOf, storeOf, cut, over, ofCells, asNat, natOr, calm, clashes, Acc.clash, ressOf, resOf, frz, frz.frzs, DV.flat, DV.flat.flats, binStr, ansT, Option.map, List.length_cons, List.length_nil, reduceIte, Nat.reduceEqDiff, Nat.reduceAdd]
    simp [h0, h1, h5, hH, B5, fnEnd, argsT, opRun, PT.get_put, dstep, ev, evs, evO, give, giveI, binOf, isNilK, PM.flip, putT, putL, putH, loadOf, storeOf, cut, over, ofCells, asNat, natOr, calm, clashes, Acc.clash, ressOf, resOf, frz, frz.frzs, DV.flat, DV.flat.flats, binStr, ansT, Option.map, List.length_cons, List.length_nil, reduceIte, Nat.reduceEqDiff, Nat.reduceAdd]
    intro hm
    obtain ⟨j, hj⟩ := List.mem_iff_getElem?.1 hm
    exact hall j (List.getElem?_eq_some_iff.1 hj).1 hj
theorem in_bl {D : Nat} (hD : 1 ≤ D) {v : IV} {zs : List Int} (hv : Sl 1 v (zs.map ivI)) (hl : zs.length ≤ reachBytes) (z : Int) :
    bl (K DG D) 98 [.imm v, .imm (.int .i64 z)] = some (.imm (.bool (decide (z ∈ zs)))) := by
  obtain ⟨d, rfl⟩ : ∃ d, D = d + 1 := ⟨D - 1, by omega⟩
  have key : ∃ n', K DG (d + 1) 98 [.imm v, .imm (.int .i64 z)] .lf 0 0 = some (.imm (.bool (decide (z ∈ zs))), .lf, n') := by
    rw [D.k98]
    rcases hv with ⟨rfl, hn⟩ | ⟨f, rfl⟩
    · have hn0 : zs = [] := by simpa using hn
      subst hn0
      obtain ⟨k, hL⟩ : ∃ k, LOOP = k + 1 := ⟨2 ^ 62 - 1, rfl⟩
      simp only [D.f98, D.l98_0, fn_run, B5, fnEnd, argsT, opRun, PT.get_put, dstep, ev, evs, evO, give, giveI, binOf, isNilK, PM.flip, putT, putL, putH, loadOf, storeOf, cut, over, ofCells, asNat, natOr, calm, clashes, Acc.clash, ressOf, resOf, frz, frz.frzs, DV.flat, DV.flat.flats, binStr, ansT, Option.map, List.length_cons, List.length_nil, reduceIte, Nat.reduceEqDiff, Nat.reduceAdd]
      simp [run_loop, hL, iter, loopRun_eq, keep, D.l98_0b, B5, fnEnd, argsT, opRun, PT.get_put, dstep, ev, evs, evO, give, giveI, binOf, isNilK, PM.flip, putT, putL, putH, loadOf, storeOf, cut, over, ofCells, asNat, natOr, calm, clashes, Acc.clash, ressOf, resOf, frz, frz.frzs, DV.flat, DV.flat.flats, binStr, ansT, Option.map, List.length_cons, List.length_nil, reduceIte, Nat.reduceEqDiff, Nat.reduceAdd]
    · simp only [D.f98, fn_run, B5, fnEnd, argsT, opRun, PT.get_put, dstep, ev, evs, evO, give, giveI, binOf, isNilK, PM.flip, putT, putL, putH, loadOf, storeOf, cut, over, ofCells, asNat, natOr, calm, clashes, Acc.clash, ressOf, resOf, frz, frz.frzs, DV.flat, DV.flat.flats, binStr, ansT, Option.map, List.length_cons, List.length_nil, reduceIte, Nat.reduceEqDiff, Nat.reduceAdd]
      generalize hrun : D.l98_0.run DG (K DG d) 0 _ = r
      obtain ⟨e, st', rfl, hq⟩ : ∃ e st', r = some (e, st') ∧ ((e = .ret ∧ st'.T.get 4 = some (.imm (.bool true)) ∧ st'.H = .lf ∧ z ∈ zs) ∨ (e = .exit 0 ∧ st'.H = .lf ∧ z ∉ zs)) := by
        rw [← hrun]
        refine loopIn (f := f) hl ⟨by simp [PT.get_put], by simp [PT.get_put], by simp [PT.get_put], rfl, fun j hj => absurd hj (by omega)⟩
      clear hrun
      rcases hq with ⟨rfl, q1, q2, q3⟩ | ⟨rfl, q2, q3⟩
      · simp [q1, q2, q3, B5, fnEnd, argsT, opRun, PT.get_put, dstep, ev, evs, evO, give, giveI, binOf, isNilK, PM.flip, putT, putL, putH, loadOf, storeOf, cut, over, ofCells, asNat, natOr, calm, clashes, Acc.clash, ressOf, resOf, frz, frz.frzs, DV.flat, DV.flat.flats, binStr, ansT, Option.map, List.length_cons, List.length_nil, reduceIte, Nat.reduceEqDiff, Nat.reduceAdd]
      · simp [q2, q3, B5, fnEnd, argsT, opRun, PT.get_put, dstep, ev, evs, evO, give, giveI, binOf, isNilK, PM.flip, putT, putL, putH, loadOf, storeOf, cut, over, ofCells, asNat, natOr, calm, clashes, Acc.clash, ressOf, resOf, frz, frz.frzs, DV.flat, DV.flat.flats, binStr, ansT, Option.map, List.length_cons, List.length_nil, reduceIte, Nat.reduceEqDiff, Nat.reduceAdd]
  obtain ⟨n', e⟩ := key
  exact bl_imm e
end Go.Proofs.YtlknjgmhfimhbacGreatDoor.D

-- TabL
set_option linter.unusedVariables false
set_option linter.unusedSimpArgs false
set_option maxHeartbeats 16000000
namespace Go.Proofs.YtlknjgmhfimhbacGreatDoor.D
open Go Go.PM Go.Lib
def PA (secs : Nat) (zs : List Int) : Prop := ∀ (i : Nat) (z : Int), zs[i]? = some z → (0 ≤ z ∧ z < secs) ∧ z ∉ zs.take i
def IP (f : Bool) (w0 w1 w2 w3 : IV) (secs : Nat) (zs : List Int) (i : Nat) (st : St) : Prop := st.T.get 1 = some (.imm (.lst f 1 (zs.map ivI))) ∧ st.T.get 7 = some (.imm (.lst f 1 (zs.map ivI))) ∧ st.T.get 8 = some (.imm (.int .i64 zs.length)) ∧ st.T.get 9 = some (.imm (.int .i64 i)) ∧
  (∃ id, st.T.get 2 = some (.lref 2 id 0) ∧ st.L.get 2 = some (.box id [.imm w0, .imm w1, .imm w2, .imm w3])) ∧ st.H = .lf ∧ ∀ (j : Nat) (z : Int), j < i → zs[j]? = some z → (0 ≤ z ∧ z < secs) ∧ z ∉ zs.take j
theorem loopP {d : Nat} (hd : 2 ≤ d) {f : Bool} {w0 w1 w2 w3 : IV} {secs : Nat} {zs : List Int} (hw : lenOf (.imm w0) = some secs) (hsec : secs ≤ reachBytes) (hl : zs.length ≤ reachBytes) {st : St} (h : IP f w0 w1 w2 w3 secs zs 0 st) :
    ∃ e st', D.l211_0.run DG (K DG d) 0 st = some (e, st') ∧ ((e = .ret ∧ st'.T.get 4 = some (.imm (.bool false)) ∧ st'.H = .lf ∧ ¬ PA secs zs) ∨ (e = .exit 0 ∧ st'.T.get 1 = some (.imm (.lst f 1 (zs.map ivI))) ∧ st'.H = .lf ∧ PA secs zs)) := by
  have hrb : reachBytes ≤ 2 ^ 50 := by decide
  refine rng_loop (N := zs.length) (small hl) (IP f w0 w1 w2 w3 secs zs) _ (fun i st hI hle => ?_) st h
  obtain ⟨h1, h7, h8, h9, ⟨id, h2, hL⟩, hH, hall⟩ := hI
  by_cases hi : i < zs.length
  · have hi' : (i : Int) < zs.length := by omega
    have hw8 : IntKind.i64.wrap ((i : Int) + 1) = (i : Int) + 1 := wr_succ hi hl
    obtain ⟨x, hx⟩ : ∃ x, zs[i] = x := ⟨_, rfl⟩
    have gx : zs[i]? = some x := by rw [List.getElem?_eq_getElem hi, hx]
    have hws : IntKind.i64.wrap ((secs : Int) - 1) = (secs : Int) - 1 := wr_id (by omega) (by omega)
    have hin := isIn_eq DG (D := d) (by omega) x 0 ((secs : Int) - 1)
    have hle' : i ≤ zs.length := by omega
    have hne : ¬ i = zs.length := by omega
    have hc := contains_ints DG (D := d) (by omega) (v := .lst (f && decide (i = zs.length)) 1 ((zs.take i).map ivI)) (.inr ⟨_, rfl⟩) (by simp; omega) x
    rw [List.map_take] at hc
    simp [hne] at hc
    by_cases c1 : 0 ≤ x ∧ x ≤ (secs : Int) - 1
    · rw [decide_eq_true c1] at hin
      by_cases c2 : x ∈ zs.take i
      · simp [c2] at hc
        right
        refine ⟨.ret, ?_⟩
        simp only [D.l211_0b, keep, B5, fnEnd, argsT, opRun, PT.get_put, dstep, ev, evs, evO, give, giveI, binOf, isNilK, PM.flip, putT, putL, putH, loadOf, storeOf, cut, over, ofCells, asNat, natOr, calm, clashes, Acc.clash, ressOf, resOf, frz, frz.frzs, DV.flat, DV.flat.flats, binStr, ansT, Option.map, List.length_cons, List.length_nil, reduceIte, Nat.reduceEqDiff, Nat.reduceAdd]
        simp [h1, h2, h7, h8, h9, hL, hi, hi', hx, hw, hws, hin, hc, hle', hne, hH, sliceOf, ivI, imms, B5, fnEnd, argsT, opRun, PT.get_put, dstep, ev, evs, evO, give, giveI, binOf, isNilK, PM.flip, putT, putL, putH, loadOf, storeOf, cut, over, ofCells, asNat, natOr, calm, clashes, Acc.clash, ressOf, resOf, frz, frz.frzs, DV.flat, DV.flat.flats, binStr, ansT, Option.map, List.length_cons, List.length_nil, reduceIte, Nat.reduceEqDiff, Nat.reduceAdd]
        exact fun hm => (hm i x gx).2 c2
      · simp [c2] at hc
        left
        refine ⟨hi, ?_⟩
        simp only [D.l211_0b, keep, B5, fnEnd, argsT, opRun, PT.get_put, dstep, ev, evs, evO, give, giveI, binOf, isNilK, PM.flip, putT, putL, putH, loadOf, storeOf, cut, over, ofCells, asNat, natOr, calm, clashes, Acc.clash, ressOf, resOf, frz, frz.frzs, DV.flat, DV.flat.flats, binStr, ansT, Option.map, List.length_cons, List.length_nil, reduceIte, Nat.reduceEqDiff, Nat.reduceAdd]
        simp [h1, h2, h7, h8, h9, hL, hi, hi', hx, hw, hws, hin, hc, hle', hne, hw8, hH, sliceOf, ivI, imms, B5, fnEnd, argsT, opRun, PT.get_put, dstep, ev, evs, evO, give, giveI, binOf, isNilK, PM.flip, putT, putL, putH, loadOf, storeOf, cut, over, ofCells, asNat, natOr, calm, clashes, Acc.clash, ressOf, resOf, frz, frz.frzs, DV.flat, DV.flat.flats, binStr, ansT, Option.map, List.length_cons, List.length_nil, reduceIte, Nat.reduceEqDiff, Nat.reduceAdd]
        refine ⟨by simp [PT.get_put, ivI], by simp [PT.get_put, ivI], by simp [PT.get_put], by simp [PT.get_put], ⟨id, by simp [PT.get_put], by simp [PT.get_put, hL]⟩, rfl, fun j z hj hp => ?_⟩
        rcases Nat.lt_or_eq_of_le (Nat.le_of_lt_succ hj) with hj | rfl
        · exact hall j z hj hp
        · rw [gx] at hp
          cases hp
          exact ⟨by omega, c2⟩
    · rw [decide_eq_false c1] at hin
      right
      refine ⟨.ret, ?_⟩
      simp only [D.l211_0b, keep, B5, fnEnd, argsT, opRun, PT.get_put, dstep, ev, evs, evO, give, giveI, binOf, isNilK, PM.flip, putT, putL, putH, loadOf, storeOf, cut, over, ofCells, asNat, natOr, calm, clashes, Acc.clash, ressOf, resOf, frz, frz.frzs, DV.flat, DV.flat.flats, binStr, ansT, Option.map, List.length_cons, List.length_nil, reduceIte, Nat.reduceEqDiff, Nat.reduceAdd]
      simp [h1, h2, h7, h8, h9, hL, hi, hi', hx, hw, hws, hin, hH, ivI, imms, B5, fnEnd, argsT, opRun, PT.get_put, dstep, ev, evs, evO, give, giveI, binOf, isNilK, PM.flip, putT, putL, putH, loadOf, storeOf, cut, over, ofCells, asNat, natOr, calm, clashes, Acc.clash, ressOf, resOf, frz, frz.frzs, DV.flat, DV.flat.flats, binStr, ansT, Option.map, List.length_cons, List.length_nil, reduceIte, Nat.reduceEqDiff, Nat.reduceAdd]
      exact fun hm => c1 (by have := (hm i x gx).1; omega)
  · obtain rfl : i = zs.length := by omega
    right
    refine ⟨.exit 0, ?_⟩
    simp only [D.l211_0b, keep, B5, fnEnd, argsT, opRun, PT.get_put, dstep, ev, evs, evO, give, giveI, binOf, isNilK, PM.flip, putT, putL, putH, loadOf, storeOf, cut, over, ofCells, asNat, natOr, calm, clashes, Acc.clash, ressOf, resOf, frz, frz.frzs, DV.flat, DV.flat.flats, binStr, ansT, Option.map, List.length_cons, List.length_nil, reduceIte, Nat.reduceEqDiff, Nat.reduceAdd]
    simp [h1, h2, h7, h8, h9, hL, hH, B5, fnEnd, argsT, opRun, PT.get_put, dstep, ev, evs, evO, give, giveI, binOf, isNilK, PM.flip, putT, putL, putH, loadOf, storeOf, cut, over, ofCells, asNat, natOr, calm, clashes, Acc.clash, ressOf, resOf, frz, frz.frzs, DV.flat, DV.flat.flats, binStr, ansT, Option.map, List.length_cons, List.length_nil, reduceIte, Nat.reduceEqDiff, Nat.reduceAdd]
    exact fun j z hj => hall j z (List.getElem?_eq_some_iff.1 hj).1 hj
theorem isPath_bl {D : Nat} (hD : 3 ≤ D) {w0 w1 w2 w3 v : IV} {secs : Nat} {zs : List Int} (hw : lenOf (.imm w0) = some secs) (hsc : (DV.imm w0).scal = true ∧ (DV.imm w1).scal = true ∧ (DV.imm w2).scal = true ∧ (DV.imm w3).scal = true)
    (hsec : secs ≤ reachBytes) (hl : zs.length ≤ reachBytes) (hv : Sl 1 v (zs.map ivI)) :
    ∃ b : Bool, bl (K DG D) 211 [.agg [.imm w0, .imm w1, .imm w2, .imm w3], .imm v] = some (.imm (.bool b)) ∧ (b = true ↔ PA secs zs ∧ 1 ≤ zs.length ∧ zs.length ≤ 5) := by
  obtain ⟨d, rfl⟩ : ∃ d, D = d + 1 := ⟨D - 1, by omega⟩
  obtain ⟨s0, s1, s2, s3⟩ := hsc
  have hin := isIn_eq DG (D := d) (by omega) (zs.length : Int) 1 5
  have key : ∃ b n', K DG (d + 1) 211 [.agg [.imm w0, .imm w1, .imm w2, .imm w3], .imm v] .lf 0 0 = some (.imm (.bool b), .lf, n') ∧ (b = true ↔ PA secs zs ∧ 1 ≤ zs.length ∧ zs.length ≤ 5) := by
    rw [D.k211]
    rcases hv with ⟨rfl, hn⟩ | ⟨f, rfl⟩
    · have hn0 : zs = [] := by simpa using hn
      subst hn0
      obtain ⟨k, hL⟩ : ∃ k, LOOP = k + 1 := ⟨2 ^ 62 - 1, rfl⟩
      refine ⟨false, 1, ?_, by simp⟩
      simp at hin
      simp only [D.f211, D.l211_0, fn_run, B5, fnEnd, argsT, opRun, PT.get_put, dstep, ev, evs, evO, give, giveI, binOf, isNilK, PM.flip, putT, putL, putH, loadOf, storeOf, cut, over, ofCells, asNat, natOr, calm, clashes, Acc.clash, ressOf, resOf, frz, frz.frzs, DV.flat, DV.flat.flats, binStr, ansT, Option.map, List.length_cons, List.length_nil, reduceIte, Nat.reduceEqDiff, Nat.reduceAdd]
      simp [run_loop, hL, iter, loopRun_eq, keep, D.l211_0b, hin, s0, s1, s2, s3, B5, fnEnd, argsT, opRun, PT.get_put, dstep, ev, evs, evO, give, giveI, binOf, isNilK, PM.flip, putT, putL, putH, loadOf, storeOf, cut, over, ofCells, asNat, natOr, calm, clashes, Acc.clash, ressOf, resOf, frz, frz.frzs, DV.flat, DV.flat.flats, binStr, ansT, Option.map, List.length_cons, List.length_nil, reduceIte, Nat.reduceEqDiff, Nat.reduceAdd]
    · simp only [D.f211, fn_run, B5, fnEnd, argsT, opRun, PT.get_put, dstep, ev, evs, evO, give, giveI, binOf, isNilK, PM.flip, putT, putL, putH, loadOf, storeOf, cut, over, ofCells, asNat, natOr, calm, clashes, Acc.clash, ressOf, resOf, frz, frz.frzs, DV.flat, DV.flat.flats, binStr, ansT, Option.map, List.length_cons, List.length_nil, reduceIte, Nat.reduceEqDiff, Nat.reduceAdd]
      simp [s0, s1, s2, s3, B5, fnEnd, argsT, opRun, PT.get_put, dstep, ev, evs, evO, give, giveI, binOf, isNilK, PM.flip, putT, putL, putH, loadOf, storeOf, cut, over, ofCells, asNat, natOr, calm, clashes, Acc.clash, ressOf, resOf, frz, frz.frzs, DV.flat, DV.flat.flats, binStr, ansT, Option.map, List.length_cons, List.length_nil, reduceIte, Nat.reduceEqDiff, Nat.reduceAdd]
      generalize hrun : D.l211_0.run DG (K DG d) 0 _ = r
      obtain ⟨e, st', rfl, hq⟩ : ∃ e st', r = some (e, st') ∧ ((e = .ret ∧ st'.T.get 4 = some (.imm (.bool false)) ∧ st'.H = .lf ∧ ¬ PA secs zs) ∨ (e = .exit 0 ∧ st'.T.get 1 = some (.imm (.lst f 1 (zs.map ivI))) ∧ st'.H = .lf ∧ PA secs zs)) := by
        rw [← hrun]
        refine loopP (f := f) (w0 := w0) (w1 := w1) (w2 := w2) (w3 := w3) (by omega) hw hsec hl ⟨by simp [PT.get_put], by simp [PT.get_put], by simp [PT.get_put], by simp [PT.get_put], ⟨0, by simp [PT.get_put], by simp [PT.get_put]⟩, rfl, fun j z hj => absurd hj (by omega)⟩
      clear hrun
      rcases hq with ⟨rfl, q1, q2, q3⟩ | ⟨rfl, q1, q2, q3⟩
      · simp [q1, q2, q3, B5, fnEnd, argsT, opRun, PT.get_put, dstep, ev, evs, evO, give, giveI, binOf, isNilK, PM.flip, putT, putL, putH, loadOf, storeOf, cut, over, ofCells, asNat, natOr, calm, clashes, Acc.clash, ressOf, resOf, frz, frz.frzs, DV.flat, DV.flat.flats, binStr, ansT, Option.map, List.length_cons, List.length_nil, reduceIte, Nat.reduceEqDiff, Nat.reduceAdd]
      · simp [q1, q2, q3, hin, B5, fnEnd, argsT, opRun, PT.get_put, dstep, ev, evs, evO, give, giveI, binOf, isNilK, PM.flip, putT, putL, putH, loadOf, storeOf, cut, over, ofCells, asNat, natOr, calm, clashes, Acc.clash, ressOf, resOf, frz, frz.frzs, DV.flat, DV.flat.flats, binStr, ansT, Option.map, List.length_cons, List.length_nil, reduceIte, Nat.reduceEqDiff, Nat.reduceAdd]
        omega
  obtain ⟨b, n', e, h⟩ := key
  exact ⟨b, bl_imm e, h⟩
end Go.Proofs.YtlknjgmhfimhbacGreatDoor.D

-- TabM
set_option linter.unusedVariables false
set_option linter.unusedSimpArgs false
set_option maxHeartbeats 4000000
namespace Go.Proofs.YtlknjgmhfimhbacGreatDoor.D
open Go Go.PM
structure Pt where
  name : List UInt8
  sec : Int
  deriving Inhabited
def ivP (x : Pt) : List IV := [.str x.name, .int .i64 x.sec]
structure Rt where
  name : List UInt8
  fr : Int
  to : Int
  pv : IV
  qv : IV
  fv : IV
  path : List Int
  pts : List Need
  flk : List Need
  deriving Inhabited
def ivRt (r : Rt) : List IV := [.str r.name, .int .i64 r.fr, .int .i64 r.to, r.pv, r.qv, r.fv]
structure RtOk (r : Rt) : Prop where
  p : Sl 1 r.pv (r.path.map ivI)
  q : Sl 2 r.qv (r.pts.map ivN)
  f : Sl 2 r.fv (r.flk.map ivN)
  ln : r.name.length ≤ reachBytes
  lp : r.path.length ≤ reachBytes
  lq : r.pts.length ≤ reachBytes
  lf : r.flk.length ≤ reachBytes
structure Lo where
  sv : IV
  pv : IV
  gv : IV
  rv : IV
  secs : List (List UInt8)
  pts : List Pt
  sigs : List (List UInt8)
  rts : List Rt
  deriving Inhabited
abbrev Lo.dv (l : Lo) : DV := .agg [.imm l.sv, .imm l.pv, .imm l.gv, .imm l.rv]
structure LoOk (l : Lo) : Prop where
  s : Sl 1 l.sv (l.secs.map ivS)
  p : Sl 2 l.pv (l.pts.map ivP)
  g : Sl 1 l.gv (l.sigs.map ivS)
  r : Sl 6 l.rv (l.rts.map ivRt)
  ls : l.secs.length ≤ reachBytes
  lp : l.pts.length ≤ reachBytes
  lg : l.sigs.length ≤ reachBytes
  lr : l.rts.length ≤ reachBytes
  os : ∀ x ∈ l.secs, x.length ≤ reachBytes
  op : ∀ x ∈ l.pts, x.name.length ≤ reachBytes
  og : ∀ x ∈ l.sigs, x.length ≤ reachBytes
  or : ∀ x ∈ l.rts, RtOk x
theorem rows_of {α : Type} {ks : List Kd} {iv : IV} (h : FitK (.sl ks) iv) (f : α → List IV) (OK : α → Prop)
    (hrow : ∀ e : List IV, e.length = ks.length → (∀ (j : Nat) (k : Kd) (c : IV), ks[j]? = some k → e[j]? = some c → FitK k c) → ∃ a, e = f a ∧ OK a) :
    ∃ xs : List α, Sl ks.length iv (xs.map f) ∧ xs.length ≤ reachBytes ∧ ∀ x ∈ xs, OK x := by
  cases h with
  | nil => exact ⟨[], Or.inl ⟨rfl, rfl⟩, by simp, fun x h => by cases h⟩
  | sl hm hl hk =>
    rename_i es
    have each : ∀ e ∈ es, ∃ a, e = f a ∧ OK a := fun e he => by
      obtain ⟨i, hi⟩ := List.getElem?_of_mem he
      exact hrow e (hl e he) fun j k c h1 h2 => hk i j e k c hi h1 h2
    have key : ∀ l : List (List IV), (∀ e ∈ l, ∃ a, e = f a ∧ OK a) → ∃ xs : List α, l = xs.map f ∧ ∀ x ∈ xs, OK x := by
      intro l
      induction l with
      | nil => exact fun _ => ⟨[], rfl, fun x h => by cases h⟩
      | cons e l ih =>
        intro hh
        obtain ⟨a, rfl, ha⟩ := hh e (List.mem_cons_self ..)
        obtain ⟨xs, rfl, hx⟩ := ih fun e he => hh e (List.mem_cons_of_mem _ he)
        refine ⟨a :: xs, rfl, fun x hx' => ?_⟩
        rcases List.mem_cons.1 hx' with rfl | hx'
        · exact ha
        · exact hx x hx'
    obtain ⟨xs, rfl, hx⟩ := key es each
    exact ⟨xs, .inr ⟨_, rfl⟩, by simpa using hm, hx⟩
theorem ints_of {iv : IV} (h : FitK (.sl [.i .i64]) iv) : ∃ zs : List Int, Sl 1 iv (zs.map ivI) ∧ zs.length ≤ reachBytes ∧ ∀ z ∈ zs, -2 ^ 63 ≤ z ∧ z < 2 ^ 63 :=
  rows_of h ivI _ fun e hl hk => by
    match e, hl with
    | [c], _ =>
      have f0 := hk 0 _ _ rfl rfl
      cases f0 with
      | i h => exact ⟨_, rfl, wf_i64 h⟩
theorem bools_of {iv : IV} (h : FitK (.sl [.b]) iv) : ∃ bs : List Bool, Sl 1 iv (bs.map fun b => [.bool b]) ∧ bs.length ≤ reachBytes ∧ ∀ b ∈ bs, True :=
  rows_of h (fun b : Bool => [.bool b]) _ fun e hl hk => by
    match e, hl with
    | [c], _ =>
      have f0 := hk 0 _ _ rfl rfl
      cases f0 with
      | b => exact ⟨_, rfl, trivial⟩
theorem strs_of {iv : IV} (h : FitK (.sl [.s]) iv) : ∃ ss : List (List UInt8), Sl 1 iv (ss.map ivS) ∧ ss.length ≤ reachBytes ∧ ∀ s ∈ ss, s.length ≤ reachBytes :=
  rows_of h ivS _ fun e hl hk => by
    match e, hl with
    | [c], _ =>
      have f0 := hk 0 _ _ rfl rfl
      cases f0 with
      | s h => exact ⟨_, rfl, h⟩
theorem needs_of {iv : IV} (h : FitK (.sl [.i .i64, .b]) iv) : ∃ xs : List Need, Sl 2 iv (xs.map ivN) ∧ xs.length ≤ reachBytes ∧ ∀ x ∈ xs, -2 ^ 63 ≤ x.pt ∧ x.pt < 2 ^ 63 :=
  rows_of h ivN _ fun e hl hk => by
    match e, hl with
    | [c, d], _ =>
      have f0 := hk 0 _ _ rfl rfl
      have f1 := hk 1 _ _ rfl rfl
      cases f0 with
      | i h => cases f1 with
        | b => exact ⟨⟨_, _⟩, rfl, wf_i64 h⟩
theorem pts_of {iv : IV} (h : FitK (.sl [.s, .i .i64]) iv) : ∃ xs : List Pt, Sl 2 iv (xs.map ivP) ∧ xs.length ≤ reachBytes ∧ ∀ x ∈ xs, x.name.length ≤ reachBytes :=
  rows_of h ivP _ fun e hl hk => by
    match e, hl with
    | [c, d], _ =>
      have f0 := hk 0 _ _ rfl rfl
      have f1 := hk 1 _ _ rfl rfl
      cases f0 with
      | s h => cases f1 with
        | i h' => exact ⟨⟨_, _⟩, rfl, h⟩
abbrev kdR : List Kd := [.s, .i .i64, .i .i64, .sl [.i .i64], .sl [.i .i64, .b], .sl [.i .i64, .b]]
theorem rts_of {iv : IV} (h : FitK (.sl kdR) iv) : ∃ xs : List Rt, Sl 6 iv (xs.map ivRt) ∧ xs.length ≤ reachBytes ∧ ∀ x ∈ xs, RtOk x :=
  rows_of h ivRt _ fun e hl hk => by
    match e, hl with
    | [c0, c1, c2, c3, c4, c5], _ =>
      have f0 := hk 0 _ _ rfl rfl
      have f1 := hk 1 _ _ rfl rfl
      have f2 := hk 2 _ _ rfl rfl
      have f3 := hk 3 _ _ rfl rfl
      have f4 := hk 4 _ _ rfl rfl
      have f5 := hk 5 _ _ rfl rfl
      obtain ⟨ps, p1, p2, _⟩ := ints_of f3
      obtain ⟨qs, q1, q2, _⟩ := needs_of f4
      obtain ⟨fs, r1, r2, _⟩ := needs_of f5
      cases f0 with
      | s h => cases f1 with
        | i h1 => cases f2 with
          | i h2 => exact ⟨⟨_, _, _, c3, c4, c5, ps, qs, fs⟩, rfl, ⟨p1, q1, r1, h, p2, q2, r2⟩⟩
abbrev kdL : List Kd := [.sl [.s], .sl [.s, .i .i64], .sl [.s], .sl kdR]
theorem lay_of {d : DV} (h : ArgFit true kdL d) : ∃ l : Lo, d = l.dv ∧ LoOk l := by
  obtain ⟨ivs, rfl, hl, hfit⟩ := h
  match ivs, hl with
  | [a, b, c, e], _ =>
    obtain ⟨ss, s1, s2, s3⟩ := strs_of (hfit 0 _ _ rfl rfl)
    obtain ⟨ps, p1, p2, p3⟩ := pts_of (hfit 1 _ _ rfl rfl)
    obtain ⟨gs, g1, g2, g3⟩ := strs_of (hfit 2 _ _ rfl rfl)
    obtain ⟨rs, r1, r2, r3⟩ := rts_of (hfit 3 _ _ rfl rfl)
    exact ⟨⟨a, b, c, e, ss, ps, gs, rs⟩, rfl, ⟨s1, p1, g1, r1, s2, p2, g2, r2, s3, p3, g3, r3⟩⟩
end Go.Proofs.YtlknjgmhfimhbacGreatDoor.D
