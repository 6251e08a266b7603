/-
  pointsmanref4.Conflict, both Entry, pointsmanref3.Ints. Over D.
-/
import Derived.Test.YtkgjgehffijepaaDoorT6
set_option linter.unusedVariables false
set_option linter.unusedSimpArgs false
set_option maxHeartbeats 16000000
namespace Go.Proofs.YtkgjgehffijepaaDoor.D
open Go Go.PM Go.Lib
/-! ### pointsmanref4.Needs -/
theorem Needs4_bl {D : Nat} (hD : 1 ≤ D) {l : Lo} (ok : LoOk l) {r : Nat} (hr : r < l.rts.length) (hq : (nth l.rts r).pts.length ≤ 100) (hf : (nth l.rts r).flk.length ≤ 100) :
    ∃ v, bl (K DG D) 51 [l.dv, .imm (.int .i64 r)] = some (.imm v) ∧ Sl 2 v ((nd (nth l.rts r)).map ivN) := by
  obtain ⟨d, rfl⟩ : ∃ d, D = d + 1 := ⟨D - 1, by omega⟩
  have rk := ok.or _ (nth_mem hr)
  have hr' : (r : Int) < l.rts.length := by omega
  have ix := fun {h : Nat → Option HB} {n : Nat} => idx_sl (h := h) (n := n) ok.r (by omega) (k := .i64) (z := (r : Int)) (by omega) hr'
  have key : Fe (K DG (d + 1) 51 [l.dv, .imm (.int .i64 r)] .lf 0 0) (fun x H n => (x = .imm (.lst true 2 []) ∧ (nd (nth l.rts r)).map ivN = []) ∨ AtS 2 x H n ((nd (nth l.rts r)).map ivN)) := by
    rw [D.k51]
    refine fn_dw rfl ?_
    have hQ := rk.q
    have hF := rk.f
    simp only [nd, List.map_append]
    generalize hxs : (nth l.rts r).pts.map ivN = xs at hQ ⊢
    generalize hys : (nth l.rts r).flk.map ivN = ys at hF ⊢
    have lx : xs.length ≤ 100 := by rw [← hxs]; simpa using hq
    have ly : ys.length ≤ 100 := by rw [← hys]; simpa using hf
    by_cases hx : xs = []
    · subst hx
      have p1 := fun {h : Nat → Option HB} {n : Nat} {x : DV} hx => app_none (bytes := 16) (h := h) (n := n) (x := x) hx hQ
      by_cases hy : ys = []
      · subst hy
        have p2 := fun {h : Nat → Option HB} {n : Nat} {x : DV} hx => app_none (bytes := 16) (h := h) (n := n) (x := x) hx hF
        simp [ok.s.scal, ok.p.scal, ok.g.scal, ok.r.scal, ix, ivRt, p1, p2, evParts2, lay, unImms, unImm, mapO, rowsN, B6, undT, fnEnd, argsT, PT.get_put, keep, opRun, ev, evs, evO, give, giveI, binOf, isNilK, PM.flip, putT, putL, putH, loadOf, storeOf, cut, over, ofCells, asNat, natOr, calm, clashes, Acc.clash, ressOf, resOf, frz, frz.frzs, DV.flat, DV.flat.flats, imms]
      · have p2 := fun {h : Nat → Option HB} {n : Nat} => app_new (bytes := 16) (h := h) (n := n) hF hy (by omega) (by omega) (by omega)
        simp [ok.s.scal, ok.p.scal, ok.g.scal, ok.r.scal, ix, ivRt, p1, p2, evParts2, lay, unImms, unImm, mapO, rowsN, B6, undT, fnEnd, argsT, PT.get_put, keep, opRun, ev, evs, evO, give, giveI, binOf, isNilK, PM.flip, putT, putL, putH, loadOf, storeOf, cut, over, ofCells, asNat, natOr, calm, clashes, Acc.clash, ressOf, resOf, frz, frz.frzs, DV.flat, DV.flat.flats, imms]
        exact .inr ⟨1, by omega, by simp, by simp [PT.get_put]⟩
    · have p1 := fun {h : Nat → Option HB} {n : Nat} => app_new (bytes := 16) (h := h) (n := n) hQ hx (by omega) (by omega) (by omega)
      by_cases hy : ys = []
      · subst hy
        have p2 := fun {h : Nat → Option HB} {n : Nat} {x : DV} hx => app_none (bytes := 16) (h := h) (n := n) (x := x) hx hF
        simp [ok.s.scal, ok.p.scal, ok.g.scal, ok.r.scal, ix, ivRt, p1, p2, evParts2, lay, unImms, unImm, mapO, rowsN, B6, undT, fnEnd, argsT, PT.get_put, keep, opRun, ev, evs, evO, give, giveI, binOf, isNilK, PM.flip, putT, putL, putH, loadOf, storeOf, cut, over, ofCells, asNat, natOr, calm, clashes, Acc.clash, ressOf, resOf, frz, frz.frzs, DV.flat, DV.flat.flats, imms]
        exact .inr ⟨1, by omega, by simp, by simp [PT.get_put]⟩
      · have p2 := fun {h : Nat → Option HB} {n : Nat} {id : Nat} hh => app_grow (bytes := 16) (h := h) (n := n) (id := id) (rows := xs) hF hy (by omega) (by omega) (by omega) hh
        simp [ok.s.scal, ok.p.scal, ok.g.scal, ok.r.scal, ix, ivRt, p1, p2, evParts2, lay, unImms, unImm, mapO, rowsN, B6, undT, fnEnd, argsT, PT.get_put, keep, opRun, ev, evs, evO, give, giveI, binOf, isNilK, PM.flip, putT, putL, putH, loadOf, storeOf, cut, over, ofCells, asNat, natOr, calm, clashes, Acc.clash, ressOf, resOf, frz, frz.frzs, DV.flat, DV.flat.flats, imms]
        exact .inr ⟨2, by omega, by simp, by simp [PT.get_put]⟩
  obtain ⟨x, H, n, e, hx⟩ := key
  rcases hx with ⟨rfl, h0⟩ | hat
  · rw [h0]
    exact ⟨_, bl_imm e, .inr ⟨_, rfl⟩⟩
  · obtain ⟨v, e2, hv⟩ := frz_row hat
    exact ⟨v, bl_of e e2, hv⟩
/-! ### Rows of numbers that are one -/
def IC0 (l : Lo) (r s : Nat) (i : Nat) (st : St) : Prop := st.T.get 1 = some (.imm (.int .i64 r)) ∧ st.T.get 2 = some (.imm (.int .i64 s)) ∧ Box st 3 l.ivs ∧ Box st 7 (ivRt (nth l.rts r)) ∧ Box st 8 (ivRt (nth l.rts s)) ∧ st.T.get 9 = some (.imm (.int .i64 i)) ∧
  st.H = .lf ∧ ∀ j, j < i → nth (nth l.rts r).path j ∉ (nth l.rts s).path
theorem loopC0 {d : Nat} (hd : 1 ≤ d) {l : Lo} (ok : LoOk l) {r s : Nat} (hr : r < l.rts.length) (hs : s < l.rts.length) {ks : List Kf} {st : St} {Q : Ex → St → Prop} (h : IC0 l r s 0 st)
    (hk : ∀ e st', (e = .ret ∧ st'.T.get 6 = some (.imm (.bool true)) ∧ (∃ z ∈ (nth l.rts r).path, z ∈ (nth l.rts s).path)) ∨ (e = .exit 0 ∧ IC0 l r s (nth l.rts r).path.length st') → Bk DG (K DG d) 0 e ks st' Q) :
    Wp DG (K DG d) 0 D.l30_0 ks st Q := by
  have rk := ok.or _ (nth_mem hr)
  have sk := ok.or _ (nth_mem hs)
  refine dw_loop (N := (nth l.rts r).path.length) (small rk.lp) (IC0 l r s) (fun e st' => (e = .ret ∧ st'.T.get 6 = some (.imm (.bool true)) ∧ (∃ z ∈ (nth l.rts r).path, z ∈ (nth l.rts s).path)) ∨ (e = .exit 0 ∧ IC0 l r s (nth l.rts r).path.length st'))
    (fun i st hle hI => ?_) h (fun e s' h => hk e s' h)
  obtain ⟨h1, h2, ⟨i3, h3, L3⟩, ⟨i7, h7, L7⟩, ⟨i8, h8, L8⟩, h9, hH, hall⟩ := hI
  have pl := rk.p.len
  simp only [List.length_map] at pl
  by_cases hi : i < (nth l.rts r).path.length
  · have hi' : (i : Int) < (nth l.rts r).path.length := by omega
    have hj' := ilt_t hi'
    have hw8 : IntKind.i64.wrap ((i : Int) + 1) = (i : Int) + 1 := wr_succ hi rk.lp
    have ix := fun {h : Nat → Option HB} {n : Nat} => idx_sl (h := h) (n := n) rk.p (by omega) (k := .i64) (z := (i : Int)) (by omega) hi'
    have hc := fun z => in_bl (D := d) (by omega) sk.p sk.lp z
    have no : nth (nth l.rts r).path i ∉ (nth l.rts s).path → ∀ j, j < i + 1 → nth (nth l.rts r).path j ∉ (nth l.rts s).path := fun h j hj => by
      rcases Nat.lt_or_eq_of_le (Nat.le_of_lt_succ hj) with hj | rfl
      · exact hall j hj
      · exact h
    generalize hQ : (fun (e : Ex) (s' : St) => _) = Q'
    simp only [D.l30_0b]
    simp (config := {contextual := true, maxSteps := 2000000}) [h1, h2, h3, h7, h8, h9, L3, L7, L8, hH, hj', hw8, ix, hc, pl, ivI, ivRt, B6, undT, fnEnd, argsT, PT.get_put, keep, opRun, ev, evs, evO, give, giveI, binOf, isNilK, PM.flip, putT, putL, putH, loadOf, storeOf, cut, over, ofCells, asNat, natOr, calm, clashes, Acc.clash, ressOf, resOf, frz, frz.frzs, DV.flat, DV.flat.flats, imms]
    subst hQ
    refine ⟨fun a => .inr ⟨nofun, .inl ⟨rfl, by simp [PT.get_put], _, nth_mem hi, a⟩⟩, fun a => .inl ⟨rfl, hi, by simp [PT.get_put], by simp [PT.get_put], ⟨i3, by simp [PT.get_put], by simp [PT.get_put, imms]⟩, ⟨i7, by simp [PT.get_put], by simp [PT.get_put, imms, ivRt]⟩, ⟨i8, by simp [PT.get_put], by simp [PT.get_put, imms, ivRt]⟩, by simp [PT.get_put], rfl, no a⟩⟩
  · obtain rfl : i = (nth l.rts r).path.length := by omega
    generalize hQ : (fun (e : Ex) (s' : St) => _) = Q'
    simp only [D.l30_0b]
    simp [h1, h2, h3, h7, h8, h9, L3, L7, L8, hH, pl, ivRt, B6, undT, fnEnd, argsT, PT.get_put, keep, opRun, ev, evs, evO, give, giveI, binOf, isNilK, PM.flip, putT, putL, putH, loadOf, storeOf, cut, over, ofCells, asNat, natOr, calm, clashes, Acc.clash, ressOf, resOf, frz, frz.frzs, DV.flat, DV.flat.flats, imms]
    subst hQ
    exact .inr ⟨nofun, .inr ⟨rfl, by simp [PT.get_put], by simp [PT.get_put], ⟨i3, by simp [PT.get_put, h3], by simp [PT.get_put, L3, imms]⟩, ⟨i7, by simp [PT.get_put, h7], by simp [PT.get_put, L7, imms, ivRt]⟩, ⟨i8, by simp [PT.get_put, h8], by simp [PT.get_put, L8, imms, ivRt]⟩, by simp [PT.get_put], rfl, hall⟩⟩
def ICV (v w : IV) (i : Nat) (st : St) : Prop := st.T.get 10 = some (.imm v) ∧ st.T.get 11 = some (.imm w) ∧ st.T.get 12 = some (.imm (.int .i64 i))
def IC2 (v w : IV) (i : Nat) (x : Need) (ys : List Need) (k : Nat) (st : St) : Prop := ICV v w i st ∧ st.T.get 13 = some (.imm (.int .i64 k)) ∧ ∀ j, j < k → (⟨x.pt, !x.rev⟩ : Need) ≠ nth ys j
theorem loopC2 {d : Nat} {v w : IV} {xs ys : List Need} {i : Nat} (hi : i < xs.length) (hv : Sl 2 v (xs.map ivN)) (hw : Sl 2 w (ys.map ivN)) (hl : ys.length ≤ reachBytes) {ks : List Kf} {st : St} {Q : Ex → St → Prop} (h : IC2 v w i (nth xs i) ys 0 st)
    (hk : ∀ e st', (e = .ret ∧ st'.T.get 6 = some (.imm (.bool true)) ∧ (⟨(nth xs i).pt, !(nth xs i).rev⟩ : Need) ∈ ys) ∨ (e = .exit 4 ∧ ICV v w i st' ∧ (⟨(nth xs i).pt, !(nth xs i).rev⟩ : Need) ∉ ys) → Bk DG (K DG d) 0 e ks st' Q) :
    Wp DG (K DG d) 0 D.l30_2 ks st Q := by
  refine dw_loop (N := ys.length) (small hl) (IC2 v w i (nth xs i) ys) (fun e st' => (e = .ret ∧ st'.T.get 6 = some (.imm (.bool true)) ∧ (⟨(nth xs i).pt, !(nth xs i).rev⟩ : Need) ∈ ys) ∨ (e = .exit 4 ∧ ICV v w i st' ∧ (⟨(nth xs i).pt, !(nth xs i).rev⟩ : Need) ∉ ys))
    (fun k st hle hI => ?_) h (fun e s' h => hk e s' h)
  obtain ⟨⟨h10, h11, h12⟩, h13, hall⟩ := hI
  have wl := hw.len
  simp only [List.length_map] at wl
  by_cases hk' : k < ys.length
  · have hkk : (k : Int) < ys.length := by omega
    have hii : (i : Int) < xs.length := by omega
    have hj' := ilt_t hkk
    have hw8 : IntKind.i64.wrap ((k : Int) + 1) = (k : Int) + 1 := wr_succ hk' hl
    have ix := fun {h : Nat → Option HB} {n : Nat} => idx_sl (h := h) (n := n) hv (by omega) (k := .i64) (z := (i : Int)) (by omega) hii
    have iy := fun {h : Nat → Option HB} {n : Nat} => idx_sl (h := h) (n := n) hw (by omega) (k := .i64) (z := (k : Int)) (by omega) hkk
    have hm := nth_mem hk'
    have no : (⟨(nth xs i).pt, !(nth xs i).rev⟩ : Need) ≠ nth ys k → ∀ j, j < k + 1 → (⟨(nth xs i).pt, !(nth xs i).rev⟩ : Need) ≠ nth ys j := fun h j hj => by
      rcases Nat.lt_or_eq_of_le (Nat.le_of_lt_succ hj) with hj | rfl
      · exact hall j hj
      · exact h
    generalize hgx : nth xs i = x at *
    generalize hgy : nth ys k = y at *
    obtain ⟨a, b⟩ := x
    obtain ⟨a', b'⟩ := y
    by_cases ha : a = a'
    · subst ha
      cases b <;> cases b'
      · generalize hQ : (fun (e : Ex) (s' : St) => _) = Q'
        simp only [D.l30_2b]
        simp [h10, h11, h12, h13, wl, hj', hw8, ix, iy, hgx, hgy, ivN, B6, undT, fnEnd, argsT, PT.get_put, keep, opRun, ev, evs, evO, give, giveI, binOf, isNilK, PM.flip, putT, putL, putH, loadOf, storeOf, cut, over, ofCells, asNat, natOr, calm, clashes, Acc.clash, ressOf, resOf, frz, frz.frzs, DV.flat, DV.flat.flats, imms]
        subst hQ
        exact .inl ⟨rfl, hk', ⟨by simp [PT.get_put], by simp [PT.get_put], by simp [PT.get_put]⟩, by simp [PT.get_put], no (by simp)⟩
      · generalize hQ : (fun (e : Ex) (s' : St) => _) = Q'
        simp only [D.l30_2b]
        simp [h10, h11, h12, h13, wl, hj', hw8, ix, iy, hgx, hgy, ivN, B6, undT, fnEnd, argsT, PT.get_put, keep, opRun, ev, evs, evO, give, giveI, binOf, isNilK, PM.flip, putT, putL, putH, loadOf, storeOf, cut, over, ofCells, asNat, natOr, calm, clashes, Acc.clash, ressOf, resOf, frz, frz.frzs, DV.flat, DV.flat.flats, imms]
        subst hQ
        exact .inr ⟨nofun, .inl ⟨rfl, by simp [PT.get_put], hm⟩⟩
      · generalize hQ : (fun (e : Ex) (s' : St) => _) = Q'
        simp only [D.l30_2b]
        simp [h10, h11, h12, h13, wl, hj', hw8, ix, iy, hgx, hgy, ivN, B6, undT, fnEnd, argsT, PT.get_put, keep, opRun, ev, evs, evO, give, giveI, binOf, isNilK, PM.flip, putT, putL, putH, loadOf, storeOf, cut, over, ofCells, asNat, natOr, calm, clashes, Acc.clash, ressOf, resOf, frz, frz.frzs, DV.flat, DV.flat.flats, imms]
        subst hQ
        exact .inr ⟨nofun, .inl ⟨rfl, by simp [PT.get_put], hm⟩⟩
      · generalize hQ : (fun (e : Ex) (s' : St) => _) = Q'
        simp only [D.l30_2b]
        simp [h10, h11, h12, h13, wl, hj', hw8, ix, iy, hgx, hgy, ivN, B6, undT, fnEnd, argsT, PT.get_put, keep, opRun, ev, evs, evO, give, giveI, binOf, isNilK, PM.flip, putT, putL, putH, loadOf, storeOf, cut, over, ofCells, asNat, natOr, calm, clashes, Acc.clash, ressOf, resOf, frz, frz.frzs, DV.flat, DV.flat.flats, imms]
        subst hQ
        exact .inl ⟨rfl, hk', ⟨by simp [PT.get_put], by simp [PT.get_put], by simp [PT.get_put]⟩, by simp [PT.get_put], no (by simp)⟩
    · generalize hQ : (fun (e : Ex) (s' : St) => _) = Q'
      simp only [D.l30_2b]
      simp [h10, h11, h12, h13, wl, hj', hw8, ix, iy, hgx, hgy, ha, ivN, B6, undT, fnEnd, argsT, PT.get_put, keep, opRun, ev, evs, evO, give, giveI, binOf, isNilK, PM.flip, putT, putL, putH, loadOf, storeOf, cut, over, ofCells, asNat, natOr, calm, clashes, Acc.clash, ressOf, resOf, frz, frz.frzs, DV.flat, DV.flat.flats, imms]
      subst hQ
      exact .inl ⟨rfl, hk', ⟨by simp [PT.get_put], by simp [PT.get_put], by simp [PT.get_put]⟩, by simp [PT.get_put], no (by simp [ha])⟩
  · obtain rfl : k = ys.length := by omega
    generalize hQ : (fun (e : Ex) (s' : St) => _) = Q'
    simp only [D.l30_2b]
    simp [h10, h11, h12, h13, wl, B6, undT, fnEnd, argsT, PT.get_put, keep, opRun, ev, evs, evO, give, giveI, binOf, isNilK, PM.flip, putT, putL, putH, loadOf, storeOf, cut, over, ofCells, asNat, natOr, calm, clashes, Acc.clash, ressOf, resOf, frz, frz.frzs, DV.flat, DV.flat.flats, imms]
    subst hQ
    refine .inr ⟨nofun, .inr ⟨rfl, ⟨by simp [PT.get_put], by simp [PT.get_put], by simp [PT.get_put]⟩, fun hm => ?_⟩⟩
    obtain ⟨j, hj, e⟩ := mem_nth hm
    exact hall j hj e.symm
def IC1 (v w : IV) (xs ys : List Need) (i : Nat) (st : St) : Prop := ICV v w i st ∧ ∀ j, j < i → (⟨(nth xs j).pt, !(nth xs j).rev⟩ : Need) ∉ ys
theorem loopC1 {d : Nat} {v w : IV} {xs ys : List Need} (hv : Sl 2 v (xs.map ivN)) (hw : Sl 2 w (ys.map ivN)) (hlx : xs.length ≤ reachBytes) (hl : ys.length ≤ reachBytes) {ks : List Kf} {st : St} {Q : Ex → St → Prop} (h : IC1 v w xs ys 0 st)
    (hk : ∀ e st', (e = .ret ∧ st'.T.get 6 = some (.imm (.bool true)) ∧ (∃ x ∈ xs, (⟨x.pt, !x.rev⟩ : Need) ∈ ys)) ∨ (e = .exit 2 ∧ ¬ ∃ x ∈ xs, (⟨x.pt, !x.rev⟩ : Need) ∈ ys) → Bk DG (K DG d) 0 e ks st' Q) :
    Wp DG (K DG d) 0 D.l30_1 ks st Q := by
  refine dw_loop (N := xs.length) (small hlx) (IC1 v w xs ys) (fun e st' => (e = .ret ∧ st'.T.get 6 = some (.imm (.bool true)) ∧ (∃ x ∈ xs, (⟨x.pt, !x.rev⟩ : Need) ∈ ys)) ∨ (e = .exit 2 ∧ ¬ ∃ x ∈ xs, (⟨x.pt, !x.rev⟩ : Need) ∈ ys))
    (fun i st hle hI => ?_) h (fun e s' h => hk e s' h)
  obtain ⟨⟨h10, h11, h12⟩, hall⟩ := hI
  have vl := hv.len
  simp only [List.length_map] at vl
  by_cases hi : i < xs.length
  · have hii : (i : Int) < xs.length := by omega
    have hj' := ilt_t hii
    have hw8 : IntKind.i64.wrap ((i : Int) + 1) = (i : Int) + 1 := wr_succ hi hlx
    generalize hQ : (fun (e : Ex) (s' : St) => _) = Q'
    simp only [D.l30_1b]
    simp [h10, h11, h12, vl, hj', B6, undT, fnEnd, argsT, PT.get_put, keep, opRun, ev, evs, evO, give, giveI, binOf, isNilK, PM.flip, putT, putL, putH, loadOf, storeOf, cut, over, ofCells, asNat, natOr, calm, clashes, Acc.clash, ressOf, resOf, frz, frz.frzs, DV.flat, DV.flat.flats, imms]
    refine loopC2 (xs := xs) hi hv hw hl ⟨⟨by simp [PT.get_put], by simp [PT.get_put], by simp [PT.get_put]⟩, by simp [PT.get_put], fun j hj => by omega⟩ ?_
    rintro e st' (⟨rfl, g6, hm⟩ | ⟨rfl, ⟨g10, g11, g12⟩, hm⟩)
    · simp [B6, undT, fnEnd, argsT, PT.get_put, keep, opRun, ev, evs, evO, give, giveI, binOf, isNilK, PM.flip, putT, putL, putH, loadOf, storeOf, cut, over, ofCells, asNat, natOr, calm, clashes, Acc.clash, ressOf, resOf, frz, frz.frzs, DV.flat, DV.flat.flats, imms]
      subst hQ
      exact .inr ⟨nofun, .inl ⟨rfl, g6, _, nth_mem hi, hm⟩⟩
    · simp [g10, g11, g12, hw8, B6, undT, fnEnd, argsT, PT.get_put, keep, opRun, ev, evs, evO, give, giveI, binOf, isNilK, PM.flip, putT, putL, putH, loadOf, storeOf, cut, over, ofCells, asNat, natOr, calm, clashes, Acc.clash, ressOf, resOf, frz, frz.frzs, DV.flat, DV.flat.flats, imms]
      subst hQ
      refine .inl ⟨rfl, hi, ⟨by simp [PT.get_put, g10], by simp [PT.get_put, g11], by simp [PT.get_put]⟩, fun j hj => ?_⟩
      rcases Nat.lt_or_eq_of_le (Nat.le_of_lt_succ hj) with hj | rfl
      · exact hall j hj
      · exact hm
  · obtain rfl : i = xs.length := by omega
    generalize hQ : (fun (e : Ex) (s' : St) => _) = Q'
    simp only [D.l30_1b]
    simp [h10, h11, h12, vl, B6, undT, fnEnd, argsT, PT.get_put, keep, opRun, ev, evs, evO, give, giveI, binOf, isNilK, PM.flip, putT, putL, putH, loadOf, storeOf, cut, over, ofCells, asNat, natOr, calm, clashes, Acc.clash, ressOf, resOf, frz, frz.frzs, DV.flat, DV.flat.flats, imms]
    subst hQ
    refine .inr ⟨nofun, .inr ⟨rfl, fun ⟨x, hx, hm⟩ => ?_⟩⟩
    obtain ⟨j, hj, e⟩ := mem_nth hx
    exact hall j hj (e ▸ hm)
theorem Conflict4_bl {D : Nat} (hD : 3 ≤ D) {l : Lo} (ok : LoOk l) (fw : Few l) {r s : Nat} (hr : r < l.rts.length) (hs : s < l.rts.length) :
    bl (K DG D) 30 [l.dv, .imm (.int .i64 r), .imm (.int .i64 s)] = some (.imm (.bool (dec (CF l r s)))) := by
  obtain ⟨d, rfl⟩ : ∃ d, D = d + 1 := ⟨D - 1, by omega⟩
  have hrb := rb3
  have rk := ok.or _ (nth_mem hr)
  have sk := ok.or _ (nth_mem hs)
  have hr' : (r : Int) < l.rts.length := by omega
  have hs' : (s : Int) < l.rts.length := by omega
  have ix := fun {h : Nat → Option HB} {n : Nat} => idx_sl (h := h) (n := n) ok.r (by omega) (k := .i64) (z := (r : Int)) (by omega) hr'
  have iy := fun {h : Nat → Option HB} {n : Nat} => idx_sl (h := h) (n := n) ok.r (by omega) (k := .i64) (z := (s : Int)) (by omega) hs'
  obtain ⟨vr, er, hvr⟩ := Needs4_bl (D := d) (by omega) ok hr (fw r hr).1 (fw r hr).2
  obtain ⟨vs, es, hvs⟩ := Needs4_bl (D := d) (by omega) ok hs (fw s hs).1 (fw s hs).2
  have hlr : (nd (nth l.rts r)).length ≤ reachBytes := by have := fw r hr; simp [nd]; omega
  have hls : (nd (nth l.rts s)).length ≤ reachBytes := by have := fw s hs; simp [nd]; omega
  have i0 : ((r : Int) = (s : Int)) = (r = s) := propext ⟨fun h => by omega, fun h => by omega⟩
  have y1 : r = s → CF l r s := .inl
  have y2 : (nth l.rts r).fr = (nth l.rts s).fr → CF l r s := fun h => .inr (.inl h)
  refine bl_fe ?_
  rw [D.k30]
  refine fn_dw rfl ?_
  generalize hQ : Fin _ _ = Q
  simp (config := {contextual := true, maxSteps := 2000000}) [ok.s.scal, ok.p.scal, ok.g.scal, ok.r.scal, rk.p.scal, rk.q.scal, rk.f.scal, sk.p.scal, sk.q.scal, sk.f.scal, ix, iy, i0, ivRt, B6, undT, fnEnd, argsT, PT.get_put, keep, opRun, ev, evs, evO, give, giveI, binOf, isNilK, PM.flip, putT, putL, putH, loadOf, storeOf, cut, over, ofCells, asNat, natOr, calm, clashes, Acc.clash, ressOf, resOf, frz, frz.frzs, DV.flat, DV.flat.flats, imms]
  subst hQ
  simp (config := {contextual := true}) [y1, y2, B6, undT, fnEnd, argsT, PT.get_put, keep, opRun, ev, evs, evO, give, giveI, binOf, isNilK, PM.flip, putT, putL, putH, loadOf, storeOf, cut, over, ofCells, asNat, natOr, calm, clashes, Acc.clash, ressOf, resOf, frz, frz.frzs, DV.flat, DV.flat.flats, imms]
  refine ⟨fun h => .inl rfl, fun n1 n2 => ?_⟩
  refine loopC0 (l := l) (r := r) (s := s) (by omega) ok hr hs ⟨by simp [PT.get_put], by simp [PT.get_put], ⟨0, by simp [PT.get_put], by simp [PT.get_put, imms]⟩, ⟨1, by simp [PT.get_put], by simp [PT.get_put, imms, ivRt]⟩, ⟨2, by simp [PT.get_put], by simp [PT.get_put, imms, ivRt]⟩, by simp [PT.get_put], rfl, fun j hj => by omega⟩ ?_
  rintro e st' (⟨rfl, g6, hm⟩ | ⟨rfl, g1, g2, ⟨i3, g3, L3⟩, ⟨i7, g7, L7⟩, ⟨i8, g8, L8⟩, g9, gH, hall⟩)
  · have : CF l r s := .inr (.inr (.inl hm))
    simp [g6, this, B6, undT, fnEnd, argsT, PT.get_put, keep, opRun, ev, evs, evO, give, giveI, binOf, isNilK, PM.flip, putT, putL, putH, loadOf, storeOf, cut, over, ofCells, asNat, natOr, calm, clashes, Acc.clash, ressOf, resOf, frz, frz.frzs, DV.flat, DV.flat.flats, imms]
  have n3 : ¬ ∃ z ∈ (nth l.rts r).path, z ∈ (nth l.rts s).path := fun ⟨z, hz, hm⟩ => by
    obtain ⟨j, hj, e⟩ := mem_nth hz
    exact hall j hj (e ▸ hm)
  simp [g1, g2, g3, L3, gH, er, es, B6, undT, fnEnd, argsT, PT.get_put, keep, opRun, ev, evs, evO, give, giveI, binOf, isNilK, PM.flip, putT, putL, putH, loadOf, storeOf, cut, over, ofCells, asNat, natOr, calm, clashes, Acc.clash, ressOf, resOf, frz, frz.frzs, DV.flat, DV.flat.flats, imms]
  refine loopC1 hvr hvs hlr hls ⟨⟨by simp [PT.get_put], by simp [PT.get_put], by simp [PT.get_put]⟩, fun j hj => by omega⟩ ?_
  rintro e st2 (⟨rfl, f6, hm⟩ | ⟨rfl, hm⟩)
  · have : CF l r s := .inr (.inr (.inr hm))
    simp [f6, this, B6, undT, fnEnd, argsT, PT.get_put, keep, opRun, ev, evs, evO, give, giveI, binOf, isNilK, PM.flip, putT, putL, putH, loadOf, storeOf, cut, over, ofCells, asNat, natOr, calm, clashes, Acc.clash, ressOf, resOf, frz, frz.frzs, DV.flat, DV.flat.flats, imms]
  · have : ¬ CF l r s := fun h => by
      rcases h with h | h | h | h
      · exact n1 h
      · exact n2 h
      · exact n3 h
      · exact hm h
    simp [this, B6, undT, fnEnd, argsT, PT.get_put, keep, opRun, ev, evs, evO, give, giveI, binOf, isNilK, PM.flip, putT, putL, putH, loadOf, storeOf, cut, over, ofCells, asNat, natOr, calm, clashes, Acc.clash, ressOf, resOf, frz, frz.frzs, DV.flat, DV.flat.flats, imms]
/-! ### Entry -/
end Go.Proofs.YtkgjgehffijepaaDoor.D
