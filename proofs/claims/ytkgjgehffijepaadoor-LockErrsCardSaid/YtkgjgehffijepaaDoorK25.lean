/-
  pointsmanref5's Lock: New, Holder, Clear, Right, Safe, step, call, Command. Over D.
-/
import Derived.Test.YtkgjgehffijepaaDoorK21
set_option linter.unusedVariables false
set_option linter.unusedSimpArgs false
set_option maxHeartbeats 16000000
namespace Go.Proofs.YtkgjgehffijepaaDoor.D
open Go Go.PM Go.Lib
theorem New5_run {d : Nat} {l : Lo} (ok : LoOk l) (is : ISL l) (e4 : bl (K DG d) 12 [l.dv] = some (.imm (.bool true))) (H : PT HB) (n : Nat) :
    Fe (K DG (d + 1) 23 [l.dv] H n 0) (fun v H' n' => ∃ p own, v = .tup [.ptr p 0 0, .imm (.int .i64 0)] ∧ LkAt H' p own l (List.replicate l.rts.length rs0) ∧ (∀ i ∈ p :: own, n ≤ i ∧ i < n') ∧ ∀ j, j < n → H'.get j = H.get j) := by
  have rl := ok.r.len
  simp only [List.length_map] at rl
  have r6 := is.r2
  have a1 : l.rts.length ≤ appMax := by unfold appMax; omega
  have a2 : l.rts.length * 32 ≤ appMax := by unfold appMax; omega
  rw [D.k23]
  refine fn_dw rfl ?_
  have b1 : ¬ n + 2 = n + 1 := by omega
  have b2 : ¬ n + 1 = n + 2 := by omega
  simp [ok.s.scal, ok.p.scal, ok.g.scal, ok.r.scal, e4, rl, a1, a2, evParts, lay, B6, undT, fnEnd, argsT, PT.get_put, keep, opRun, ev, evs, evO, give, giveI, binOf, isNilK, PM.flip, putT, putL, putH, loadOf, storeOf, cut, over, ofCells, asNat, natOr, calm, clashes, Acc.clash, ressOf, resOf, frz, frz.frzs, DV.flat, DV.flat.flats, imms]
  refine ⟨[n + 1], ⟨.sl (n + 1) 0 l.rts.length l.rts.length, by simp [PT.get_put], .inr ⟨n + 1, rfl, by simp, ?_⟩, by simp, by simp⟩, ?_, fun j hj => ?_⟩
  · simp [PT.get_put, imms]
  · simp
    omega
  · have c1 : ¬ j = n + 1 := by omega
    have c2 : ¬ j = n + 2 := by omega
    have c3 : ¬ j = n + 1 + 1 := by omega
    simp [PT.get_put, c1, c2, c3]
theorem Holder5_run {d : Nat} (hd : 2 ≤ d) {H : PT HB} {p : Nat} {own : List Nat} {l : Lo} {rs : List Rst} (ok : LoOk l) (is : ISL l) (lk : LkAt H p own l rs) (go : GoneOk l rs) (z : Int) {n lo : Nat} :
    ∃ n', K DG (d + 1) 52 [.ptr p 0 0, .imm (.int .i64 z)] H n lo = some (.imm (.int .i64 (hol l rs z)), H, n') ∧ n ≤ n' := by
  obtain ⟨x, h1, h2, h3, h4⟩ := lk
  have xl := h2.len
  rw [h4] at xl
  have lr := ok.lr
  have key : Fe (K DG (d + 1) 52 [.ptr p 0 0, .imm (.int .i64 z)] H n lo) (fun v H' n' => v = .imm (.int .i64 (hol l rs z)) ∧ H' = H ∧ n ≤ n') := by
    rw [D.k52]
    refine fn_dw rfl ?_
    simp [B6, undT, fnEnd, argsT, PT.get_put, keep, opRun, ev, evs, evO, give, giveI, binOf, isNilK, PM.flip, putT, putL, putH, loadOf, storeOf, cut, over, ofCells, asNat, natOr, calm, clashes, Acc.clash, ressOf, resOf, frz, frz.frzs, DV.flat, DV.flat.flats, imms]
    refine dw_loop (N := l.rts.length) (small lr) (fun i st => st.T.get 0 = some (.ptr p 0 0) ∧ st.T.get 1 = some (.imm (.int .i64 z)) ∧ st.T.get 5 = some (.imm (.int .i64 i)) ∧ st.H = H ∧ n ≤ st.n ∧ ∀ j, j < i → z ∉ hld l rs j) (fun e st' => st'.H = H ∧ n ≤ st'.n ∧ ((e = .ret ∧ st'.T.get 4 = some (.imm (.int .i64 (hol l rs z)))) ∨ (e = .exit 0 ∧ hol l rs z = -1))) (fun i st hle hI => ?_) ⟨by simp [PT.get_put], by simp [PT.get_put], by simp [PT.get_put], rfl, by simp, fun j hj => by omega⟩ ?_
    · obtain ⟨g0, g1, g5, hH, hn, hall⟩ := hI
      by_cases hi : i < l.rts.length
      · have hi1 : (i : Int) < l.rts.length := by omega
        have hi' := ilt_t hi1
        have hw8 : IntKind.i64.wrap ((i : Int) + 1) = (i : Int) + 1 := wr_succ hi lr
        obtain ⟨id, rfl, rfl, hrs⟩ := h2.sl (by omega)
        have iy := fun {n : Nat} => idx_hp (h := H.get) (n := n) (id := id) (row := 0) (len := rs.length) (cap := rs.length) hrs rfl (k := .i64) (z := (i : Int)) (by omega) (by omega)
        have hrow : (rs.map rowRS)[i]? = some (rowRS (nth rs i)) := by rw [List.getElem?_map, nth_get (by omega)]; rfl
        have hb := Holds_bl (D := d) (by omega) ok is go hi z
        generalize hrr : rs.map rowRS = rows at hrs hrow
        simp only [Int.toNat_natCast, Nat.zero_add, h4] at iy
        simp only [h4] at h1
        generalize hQ : (fun (e : Ex) (s' : St) => _) = Q'
        simp only [D.l52_0b]
        by_cases hm : z ∈ hld l rs i
        · have hs := hol_some hi hm hall
          simp [hm] at hb
          simp [g0, g1, g5, hH, hi', h1, hrs, iy, hrow, hb, ok.s.scal, ok.p.scal, ok.g.scal, ok.r.scal, rowRS, evParts, lay, B6, undT, fnEnd, argsT, PT.get_put, keep, opRun, ev, evs, evO, give, giveI, binOf, isNilK, PM.flip, putT, putL, putH, loadOf, storeOf, cut, over, ofCells, asNat, natOr, calm, clashes, Acc.clash, ressOf, resOf, frz, frz.frzs, DV.flat, DV.flat.flats, imms]
          subst hQ
          exact .inr ⟨nofun, rfl, by simp; omega, .inl ⟨rfl, by simp [PT.get_put, hs]⟩⟩
        · simp [hm] at hb
          simp [g0, g1, g5, hH, hi', hw8, h1, hrs, iy, hrow, hb, ok.s.scal, ok.p.scal, ok.g.scal, ok.r.scal, rowRS, evParts, lay, B6, undT, fnEnd, argsT, PT.get_put, keep, opRun, ev, evs, evO, give, giveI, binOf, isNilK, PM.flip, putT, putL, putH, loadOf, storeOf, cut, over, ofCells, asNat, natOr, calm, clashes, Acc.clash, ressOf, resOf, frz, frz.frzs, DV.flat, DV.flat.flats, imms]
          subst hQ
          refine .inl ⟨rfl, hi, by simp [PT.get_put], by simp [PT.get_put], by simp [PT.get_put], rfl, by simp; omega, fun j hj => ?_⟩
          rcases Nat.lt_or_eq_of_le (Nat.le_of_lt_succ hj) with hj | rfl
          · exact hall j hj
          · exact hm
      · obtain rfl : i = l.rts.length := by omega
        generalize hQ : (fun (e : Ex) (s' : St) => _) = Q'
        simp only [D.l52_0b]
        simp [g0, g1, g5, hH, h1, xl, B6, undT, fnEnd, argsT, PT.get_put, keep, opRun, ev, evs, evO, give, giveI, binOf, isNilK, PM.flip, putT, putL, putH, loadOf, storeOf, cut, over, ofCells, asNat, natOr, calm, clashes, Acc.clash, ressOf, resOf, frz, frz.frzs, DV.flat, DV.flat.flats, imms]
        subst hQ
        exact .inr ⟨nofun, rfl, hn, .inr ⟨rfl, hol_none hall⟩⟩
    · rintro e st' ⟨hH, hn, ⟨rfl, g4⟩ | ⟨rfl, he⟩⟩
      · simp [g4, hH, hn, B6, undT, fnEnd, argsT, PT.get_put, keep, opRun, ev, evs, evO, give, giveI, binOf, isNilK, PM.flip, putT, putL, putH, loadOf, storeOf, cut, over, ofCells, asNat, natOr, calm, clashes, Acc.clash, ressOf, resOf, frz, frz.frzs, DV.flat, DV.flat.flats, imms]
      · simp [he, hH, hn, B6, undT, fnEnd, argsT, PT.get_put, keep, opRun, ev, evs, evO, give, giveI, binOf, isNilK, PM.flip, putT, putL, putH, loadOf, storeOf, cut, over, ofCells, asNat, natOr, calm, clashes, Acc.clash, ressOf, resOf, frz, frz.frzs, DV.flat, DV.flat.flats, imms]
  obtain ⟨v, H', n', e, rfl, rfl, hn⟩ := key
  exact ⟨n', e, hn⟩
theorem Side_bl {D : Nat} (hD : 1 ≤ D) (a : Int) (b : Bool) : bl (K DG D) 53 [.agg [.imm (.int .i64 a), .imm (.bool b)]] = some (.imm (.int .i64 (pos ⟨a, b⟩))) := by
  obtain ⟨d, rfl⟩ : ∃ d, D = d + 1 := ⟨D - 1, by omega⟩
  have key : Fe (K DG (d + 1) 53 [.agg [.imm (.int .i64 a), .imm (.bool b)]] .lf 0 0) (fun v _ _ => v = .imm (.int .i64 (pos ⟨a, b⟩))) := by
    rw [D.k53]
    refine fn_dw rfl ?_
    cases b <;> simp [pos, B6, undT, fnEnd, argsT, PT.get_put, keep, opRun, ev, evs, evO, give, giveI, binOf, isNilK, PM.flip, putT, putL, putH, loadOf, storeOf, cut, over, ofCells, asNat, natOr, calm, clashes, Acc.clash, ressOf, resOf, frz, frz.frzs, DV.flat, DV.flat.flats, imms]
  obtain ⟨v, H, n, e, rfl⟩ := key
  exact bl_of e rfl
theorem Clear_dec {D : Nat} (hD : 1 ≤ D) {l : Lo} (ok : LoOk l) (is : ISL l) {ov lv : IV} {os : List Bool} {ls : List Int} (io : InOk ov lv os ls) (mi : MI l os ls) {r : Nat} (hr : r < l.rts.length) :
    bl (K DG D) 45 [l.dv, .imm (.int .i64 r), inD ov lv] = some (.imm (.bool (dec (¬ ∃ z ∈ (nth l.rts r).path, nth os z.toNat = true)))) := by
  obtain ⟨d, rfl⟩ : ∃ d, D = d + 1 := ⟨D - 1, by omega⟩
  have hrb := rb3
  have p5 := is.p5 r hr
  have rk := ok.or _ (nth_mem hr)
  have pl := rk.p.len
  simp only [List.length_map] at pl
  have ixr := fun {h : Nat → Option HB} {n : Nat} => idx_sl (h := h) (n := n) ok.r (by omega) (k := .i64) (z := (r : Int)) (by omega) (show (r : Int) < l.rts.length by omega)
  simp only [Int.toNat_natCast] at ixr
  obtain ⟨P, hP⟩ : ∃ P : Prop, P ↔ ¬ ∃ z ∈ (nth l.rts r).path, nth os z.toNat = true := ⟨_, Iff.rfl⟩
  rw [← dec_congr hP]
  refine bl_fe ?_
  rw [D.k45]
  refine fn_dw rfl ?_
  simp [ok.s.scal, ok.p.scal, ok.g.scal, ok.r.scal, io.o.scal, io.l.scal, B6, undT, fnEnd, argsT, PT.get_put, keep, opRun, ev, evs, evO, give, giveI, binOf, isNilK, PM.flip, putT, putL, putH, loadOf, storeOf, cut, over, ofCells, asNat, natOr, calm, clashes, Acc.clash, ressOf, resOf, frz, frz.frzs, DV.flat, DV.flat.flats, imms]
  refine dw_loop (N := (nth l.rts r).path.length) (small (by omega)) (fun i st => st.T.get 1 = some (.imm (.int .i64 r)) ∧ Box st 3 l.ivs ∧ Box st 5 [ov, lv] ∧ st.T.get 7 = some (.imm (.int .i64 i)) ∧ ∀ j, j < i → nth os (nth (nth l.rts r).path j).toNat = false)
    (fun e st' => (e = .ret ∧ st'.T.get 6 = some (.imm (.bool false)) ∧ ∃ z ∈ (nth l.rts r).path, nth os z.toNat = true) ∨ (e = .exit 0 ∧ ¬ ∃ z ∈ (nth l.rts r).path, nth os z.toNat = true)) (fun i st hle hI => ?_) ⟨by simp [PT.get_put], ⟨0, by simp [PT.get_put], by simp [PT.get_put, imms]⟩, ⟨1, by simp [PT.get_put], by simp [PT.get_put, imms]⟩, by simp [PT.get_put], fun j hj => by omega⟩ ?_
  · obtain ⟨h1, ⟨i3, h3, L3⟩, ⟨i5, h5, L5⟩, h7, hall⟩ := hI
    by_cases hi : i < (nth l.rts r).path.length
    · have hi1 : (i : Int) < (nth l.rts r).path.length := by omega
      have hi' := ilt_t hi1
      have hw8 : IntKind.i64.wrap ((i : Int) + 1) = (i : Int) + 1 := wr_succ hi (by omega)
      have ip := fun {h : Nat → Option HB} {n : Nat} => idx_sl (h := h) (n := n) rk.p (by omega) (k := .i64) (z := (i : Int)) (by omega) hi1
      have hz := nth_mem hi
      have io' := fun {h : Nat → Option HB} {n : Nat} => idx_in (h := h) (n := n) io.o (by omega) (k := .i64) (z := nth (nth l.rts r).path i) (by rw [mi.1]; exact path_in is hr hz)
      simp only [Int.toNat_natCast] at ip
      generalize hQ : (fun (e : Ex) (s' : St) => _) = Q'
      simp only [D.l45_0b]
      cases ho : nth os (nth (nth l.rts r).path i).toNat with
      | false =>
        simp [h1, h3, L3, h5, L5, h7, hi', hw8, ixr, ip, io', ho, pl, ivRt, ivI, ivB1, imms, B6, undT, fnEnd, argsT, PT.get_put, keep, opRun, ev, evs, evO, give, giveI, binOf, isNilK, PM.flip, putT, putL, putH, loadOf, storeOf, cut, over, ofCells, asNat, natOr, calm, clashes, Acc.clash, ressOf, resOf, frz, frz.frzs, DV.flat, DV.flat.flats, imms]
        subst hQ
        refine .inl ⟨rfl, hi, by simp [PT.get_put], ⟨i3, by simp [PT.get_put], by simp [PT.get_put, imms]⟩, ⟨i5, by simp [PT.get_put], by simp [PT.get_put, imms]⟩, by simp [PT.get_put], fun j hj => ?_⟩
        rcases Nat.lt_or_eq_of_le (Nat.le_of_lt_succ hj) with hj | rfl
        · exact hall j hj
        · exact ho
      | true =>
        simp [h1, h3, L3, h5, L5, h7, hi', hw8, ixr, ip, io', ho, pl, ivRt, ivI, ivB1, imms, B6, undT, fnEnd, argsT, PT.get_put, keep, opRun, ev, evs, evO, give, giveI, binOf, isNilK, PM.flip, putT, putL, putH, loadOf, storeOf, cut, over, ofCells, asNat, natOr, calm, clashes, Acc.clash, ressOf, resOf, frz, frz.frzs, DV.flat, DV.flat.flats, imms]
        subst hQ
        exact .inr ⟨nofun, .inl ⟨rfl, by simp [PT.get_put], _, hz, ho⟩⟩
    · obtain rfl : i = (nth l.rts r).path.length := by omega
      generalize hQ : (fun (e : Ex) (s' : St) => _) = Q'
      simp only [D.l45_0b]
      simp [h1, h3, L3, h5, L5, h7, ixr, pl, ivRt, ivI, imms, B6, undT, fnEnd, argsT, PT.get_put, keep, opRun, ev, evs, evO, give, giveI, binOf, isNilK, PM.flip, putT, putL, putH, loadOf, storeOf, cut, over, ofCells, asNat, natOr, calm, clashes, Acc.clash, ressOf, resOf, frz, frz.frzs, DV.flat, DV.flat.flats, imms]
      subst hQ
      refine .inr ⟨nofun, .inr ⟨rfl, fun ⟨z, hz, ht⟩ => ?_⟩⟩
      obtain ⟨j, hj, rfl⟩ := mem_nth hz
      rw [hall j hj] at ht; cases ht
  · rintro e st' (⟨rfl, h6, hx⟩ | ⟨rfl, hx⟩)
    · rw [dec_f fun h => hP.1 h hx]
      simp [h6, B6, undT, fnEnd, argsT, PT.get_put, keep, opRun, ev, evs, evO, give, giveI, binOf, isNilK, PM.flip, putT, putL, putH, loadOf, storeOf, cut, over, ofCells, asNat, natOr, calm, clashes, Acc.clash, ressOf, resOf, frz, frz.frzs, DV.flat, DV.flat.flats, imms]
    · rw [dec_t (hP.2 hx)]
      simp [B6, undT, fnEnd, argsT, PT.get_put, keep, opRun, ev, evs, evO, give, giveI, binOf, isNilK, PM.flip, putT, putL, putH, loadOf, storeOf, cut, over, ofCells, asNat, natOr, calm, clashes, Acc.clash, ressOf, resOf, frz, frz.frzs, DV.flat, DV.flat.flats, imms]
theorem Right_dec {D : Nat} (hD : 3 ≤ D) {l : Lo} (ok : LoOk l) (is : ISL l) {ov lv : IV} {os : List Bool} {ls : List Int} (io : InOk ov lv os ls) (mi : MI l os ls) {r : Nat} (hr : r < l.rts.length) :
    bl (K DG D) 46 [l.dv, .imm (.int .i64 r), inD ov lv] = some (.imm (.bool (dec (Lie l ls r)))) := by
  obtain ⟨d, rfl⟩ : ∃ d, D = d + 1 := ⟨D - 1, by omega⟩
  have hrb := rb3
  obtain ⟨w, en, hv⟩ := Needs4_bl (D := d) (by omega) ok hr (is.few r hr).1 (is.few r hr).2
  have hnl : (nd (nth l.rts r)).length ≤ reachBytes := by have := is.few r hr; simp [nd]; omega
  have vl := hv.len
  simp only [List.length_map] at vl
  refine bl_fe ?_
  rw [D.k46]
  refine fn_dw rfl ?_
  simp [ok.s.scal, ok.p.scal, ok.g.scal, ok.r.scal, io.o.scal, io.l.scal, en, B6, undT, fnEnd, argsT, PT.get_put, keep, opRun, ev, evs, evO, give, giveI, binOf, isNilK, PM.flip, putT, putL, putH, loadOf, storeOf, cut, over, ofCells, asNat, natOr, calm, clashes, Acc.clash, ressOf, resOf, frz, frz.frzs, DV.flat, DV.flat.flats, imms]
  refine dw_loop (N := (nd (nth l.rts r)).length) (small hnl) (fun i st => Box st 5 [ov, lv] ∧ st.T.get 7 = some (.imm w) ∧ st.T.get 8 = some (.imm (.int .i64 i)) ∧ ∀ j, j < i → nth ls (nth (nd (nth l.rts r)) j).pt.toNat = pos (nth (nd (nth l.rts r)) j))
    (fun e st' => (e = .ret ∧ st'.T.get 6 = some (.imm (.bool false)) ∧ ¬ Lie l ls r) ∨ (e = .exit 0 ∧ Lie l ls r)) (fun i st hle hI => ?_) ⟨⟨1, by simp [PT.get_put], by simp [PT.get_put, imms]⟩, by simp [PT.get_put], by simp [PT.get_put], fun j hj => by omega⟩ ?_
  · obtain ⟨⟨i5, h5, L5⟩, h7, h8, hall⟩ := hI
    by_cases hi : i < (nd (nth l.rts r)).length
    · have hi1 : (i : Int) < (nd (nth l.rts r)).length := by omega
      have hi' := ilt_t hi1
      have hw8 : IntKind.i64.wrap ((i : Int) + 1) = (i : Int) + 1 := wr_succ hi hnl
      have ix := fun {h : Nat → Option HB} {n : Nat} => idx_sl (h := h) (n := n) hv (by omega) (k := .i64) (z := (i : Int)) (by omega) hi1
      have hmem := nth_mem hi
      simp only [Int.toNat_natCast] at ix
      generalize hgx : nth (nd (nth l.rts r)) i = y at *
      have hpt := nd_in is hr hmem
      have il := fun {h : Nat → Option HB} {n : Nat} => idx_in (h := h) (n := n) io.l (by omega) (k := .i64) (z := y.pt) (by rw [mi.2.1]; exact hpt)
      have hs := Side_bl (D := d) (by omega) y.pt y.rev
      generalize hQ : (fun (e : Ex) (s' : St) => _) = Q'
      simp only [D.l46_0b]
      by_cases hp : nth ls y.pt.toNat = pos y
      · simp [h5, L5, h7, h8, hi', hw8, vl, ix, il, hs, hp, ivN, ivI, imms, B6, undT, fnEnd, argsT, PT.get_put, keep, opRun, ev, evs, evO, give, giveI, binOf, isNilK, PM.flip, putT, putL, putH, loadOf, storeOf, cut, over, ofCells, asNat, natOr, calm, clashes, Acc.clash, ressOf, resOf, frz, frz.frzs, DV.flat, DV.flat.flats, imms]
        subst hQ
        refine .inl ⟨rfl, hi, ⟨i5, by simp [PT.get_put], by simp [PT.get_put, imms]⟩, by simp [PT.get_put], by simp [PT.get_put], fun j hj => ?_⟩
        rcases Nat.lt_or_eq_of_le (Nat.le_of_lt_succ hj) with hj | rfl
        · exact hall j hj
        · rw [hgx]; exact hp
      · simp [h5, L5, h7, h8, hi', hw8, vl, ix, il, hs, hp, ivN, ivI, imms, B6, undT, fnEnd, argsT, PT.get_put, keep, opRun, ev, evs, evO, give, giveI, binOf, isNilK, PM.flip, putT, putL, putH, loadOf, storeOf, cut, over, ofCells, asNat, natOr, calm, clashes, Acc.clash, ressOf, resOf, frz, frz.frzs, DV.flat, DV.flat.flats, imms]
        subst hQ
        exact .inr ⟨nofun, .inl ⟨rfl, by simp [PT.get_put], fun h => hp (h y hmem)⟩⟩
    · obtain rfl : i = (nd (nth l.rts r)).length := by omega
      generalize hQ : (fun (e : Ex) (s' : St) => _) = Q'
      simp only [D.l46_0b]
      simp [h5, L5, h7, h8, vl, imms, B6, undT, fnEnd, argsT, PT.get_put, keep, opRun, ev, evs, evO, give, giveI, binOf, isNilK, PM.flip, putT, putL, putH, loadOf, storeOf, cut, over, ofCells, asNat, natOr, calm, clashes, Acc.clash, ressOf, resOf, frz, frz.frzs, DV.flat, DV.flat.flats, imms]
      subst hQ
      refine .inr ⟨nofun, .inr ⟨rfl, fun x hx => ?_⟩⟩
      obtain ⟨j, hj, rfl⟩ := mem_nth hx
      exact hall j hj
  · rintro e st' (⟨rfl, h6, hx⟩ | ⟨rfl, hx⟩)
    · rw [dec_f hx]
      simp [h6, B6, undT, fnEnd, argsT, PT.get_put, keep, opRun, ev, evs, evO, give, giveI, binOf, isNilK, PM.flip, putT, putL, putH, loadOf, storeOf, cut, over, ofCells, asNat, natOr, calm, clashes, Acc.clash, ressOf, resOf, frz, frz.frzs, DV.flat, DV.flat.flats, imms]
    · rw [dec_t hx]
      simp [B6, undT, fnEnd, argsT, PT.get_put, keep, opRun, ev, evs, evO, give, giveI, binOf, isNilK, PM.flip, putT, putL, putH, loadOf, storeOf, cut, over, ofCells, asNat, natOr, calm, clashes, Acc.clash, ressOf, resOf, frz, frz.frzs, DV.flat, DV.flat.flats, imms]
theorem Safe5_run {d : Nat} {H : PT HB} {p : Nat} {own : List Nat} {l : Lo} {rs : List Rst} (ok : LoOk l) (p5 : l.pts.length ≤ 5) (g6 : l.sigs.length ≤ 6) (lk : LkAt H p own l rs) {n lo : Nat} (hpn : p < n) :
    Fe (K DG (d + 1) 49 [.ptr p 0 0] H n lo) (fun v H' n' => v = .agg [.sl (n + 1) 0 l.pts.length l.pts.length, .sl (n + 2) 0 l.sigs.length l.sigs.length] ∧ n' = n + 3 ∧
      H' = (H.put (n + 1) (some ⟨1, List.replicate l.pts.length (imms [.int .i64 0])⟩)).put (n + 2) (some ⟨1, List.replicate l.sigs.length (imms [.bool false])⟩)) := by
  obtain ⟨x, h1, h2, h3, h4⟩ := lk
  have pl := ok.p.len
  have gl := ok.g.len
  simp only [List.length_map] at pl gl
  have a1 : l.pts.length ≤ appMax := by unfold appMax; omega
  have a2 : l.pts.length * 8 ≤ appMax := by unfold appMax; omega
  have a3 : l.sigs.length ≤ appMax := by unfold appMax; omega
  rw [D.k49]
  refine fn_dw rfl ?_
  have b1 : ¬ p = n + 1 := by omega
  have b2 : ¬ n + 1 = p := by omega
  have b3 : ¬ p = n + 1 + 1 := by omega
  simp [h1, pl, gl, a1, a2, a3, b1, b2, b3, evParts, lay, B6, undT, fnEnd, argsT, PT.get_put, keep, opRun, ev, evs, evO, give, giveI, binOf, isNilK, PM.flip, putT, putL, putH, loadOf, storeOf, cut, over, ofCells, asNat, natOr, calm, clashes, Acc.clash, ressOf, resOf, frz, frz.frzs, DV.flat, DV.flat.flats, imms]
end Go.Proofs.YtkgjgehffijepaaDoor.D
