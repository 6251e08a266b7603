/-
  Copies; lock.copied, lock.New of any layout. Over D.
  lock.copied, lock.New of any layout. Over D.
-/
import Derived.Test.YtlknjgmhfimhbacGreatDoorT6
-- K1
set_option linter.unusedVariables false
set_option linter.unusedSimpArgs false
set_option maxHeartbeats 16000000
namespace Go.Proofs.YtlknjgmhfimhbacGreatDoor.D
open Go Go.PM Go.Lib
/-! ### slices.Clone -/
/-- What a copy is: nothing, an empty row, a row of the heap. -/
def Cl (sz : Nat) (x : DV) (H : PT HB) (n : Nat) (es : List (List IV)) : Prop := (x = .imm .nils ∧ es = []) ∨ (x = .imm (.lst true sz []) ∧ es = []) ∨ AtS sz x H n es
theorem Cl.frz {sz : Nat} {x : DV} {H : PT HB} {n : Nat} {es : List (List IV)} (h : Cl sz x H n es) : ∃ v, PM.frz H.get 0 x = some (.imm v) ∧ Sl sz v es := by
  rcases h with ⟨rfl, rfl⟩ | ⟨rfl, rfl⟩ | h
  · exact ⟨_, rfl, .inl ⟨rfl, rfl⟩⟩
  · exact ⟨_, rfl, .inr ⟨_, rfl⟩⟩
  · exact frz_row h
theorem clone_s {D : Nat} (hD : 1 ≤ D) {v : IV} {es : List (List IV)} (hv : Sl 1 v es) (hl : es.length ≤ 2 ^ 25) : ∃ v', bl (K DG D) 160 [.imm v] = some (.imm v') ∧ Sl 1 v' es := by
  obtain ⟨d, rfl⟩ : ∃ d, D = d + 1 := ⟨D - 1, by omega⟩
  have hv0 := hv
  have key : Fe (K DG (d + 1) 160 [.imm v] .lf 0 0) (fun x H n => Cl 1 x H n es) := by
    rw [D.k160]
    refine fn_dw rfl ?_
    rcases hv with ⟨rfl, rfl⟩ | ⟨f, rfl⟩
    · simp [B6, undT, fnEnd, argsT, PT.get_put, keep, opRun, ev, evs, evO, give, giveI, binOf, isNilK, PM.flip, putT, putL, putH, loadOf, storeOf, cut, over, ofCells, asNat, natOr, calm, clashes, Acc.clash, ressOf, resOf, frz, frz.frzs, DV.flat, DV.flat.flats, imms]
      exact .inl ⟨rfl, rfl⟩
    · by_cases he : es = []
      · have p1 := fun {h : Nat → Option HB} {n : Nat} {x : DV} hx => app_none (bytes := 16) (h := h) (n := n) (x := x) hx (he ▸ hv0)
        subst he
        simp [p1, evParts2, lay, unImms, unImm, mapO, rowsN, B6, undT, fnEnd, argsT, PT.get_put, keep, opRun, ev, evs, evO, give, giveI, binOf, isNilK, PM.flip, putT, putL, putH, loadOf, storeOf, cut, over, ofCells, asNat, natOr, calm, clashes, Acc.clash, ressOf, resOf, frz, frz.frzs, DV.flat, DV.flat.flats, imms]
        exact .inr (.inl ⟨rfl, rfl⟩)
      · have p1 := fun {h : Nat → Option HB} {n : Nat} => app_new (bytes := 16) (h := h) (n := n) hv0 he (by omega) hl (by omega)
        simp [p1, evParts2, lay, unImms, unImm, mapO, rowsN, B6, undT, fnEnd, argsT, PT.get_put, keep, opRun, ev, evs, evO, give, giveI, binOf, isNilK, PM.flip, putT, putL, putH, loadOf, storeOf, cut, over, ofCells, asNat, natOr, calm, clashes, Acc.clash, ressOf, resOf, frz, frz.frzs, DV.flat, DV.flat.flats, imms]
        exact .inr (.inr (.inr ⟨_, by omega, rfl, by simp [PT.get_put]⟩))
  obtain ⟨x, H, n, e, hc⟩ := key
  obtain ⟨v', e2, h2⟩ := hc.frz
  exact ⟨v', bl_of e e2, h2⟩
theorem clone_p {D : Nat} (hD : 1 ≤ D) {v : IV} {es : List (List IV)} (hv : Sl 2 v es) (hl : es.length ≤ 2 ^ 25) : ∃ v', bl (K DG D) 161 [.imm v] = some (.imm v') ∧ Sl 2 v' es := by
  obtain ⟨d, rfl⟩ : ∃ d, D = d + 1 := ⟨D - 1, by omega⟩
  have hv0 := hv
  have key : Fe (K DG (d + 1) 161 [.imm v] .lf 0 0) (fun x H n => Cl 2 x H n es) := by
    rw [D.k161]
    refine fn_dw rfl ?_
    rcases hv with ⟨rfl, rfl⟩ | ⟨f, rfl⟩
    · simp [B6, undT, fnEnd, argsT, PT.get_put, keep, opRun, ev, evs, evO, give, giveI, binOf, isNilK, PM.flip, putT, putL, putH, loadOf, storeOf, cut, over, ofCells, asNat, natOr, calm, clashes, Acc.clash, ressOf, resOf, frz, frz.frzs, DV.flat, DV.flat.flats, imms]
      exact .inl ⟨rfl, rfl⟩
    · by_cases he : es = []
      · have p1 := fun {h : Nat → Option HB} {n : Nat} {x : DV} hx => app_none (bytes := 24) (h := h) (n := n) (x := x) hx (he ▸ hv0)
        subst he
        simp [p1, evParts2, lay, unImms, unImm, mapO, rowsN, B6, undT, fnEnd, argsT, PT.get_put, keep, opRun, ev, evs, evO, give, giveI, binOf, isNilK, PM.flip, putT, putL, putH, loadOf, storeOf, cut, over, ofCells, asNat, natOr, calm, clashes, Acc.clash, ressOf, resOf, frz, frz.frzs, DV.flat, DV.flat.flats, imms]
        exact .inr (.inl ⟨rfl, rfl⟩)
      · have p1 := fun {h : Nat → Option HB} {n : Nat} => app_new (bytes := 24) (h := h) (n := n) hv0 he (by omega) hl (by omega)
        simp [p1, evParts2, lay, unImms, unImm, mapO, rowsN, B6, undT, fnEnd, argsT, PT.get_put, keep, opRun, ev, evs, evO, give, giveI, binOf, isNilK, PM.flip, putT, putL, putH, loadOf, storeOf, cut, over, ofCells, asNat, natOr, calm, clashes, Acc.clash, ressOf, resOf, frz, frz.frzs, DV.flat, DV.flat.flats, imms]
        exact .inr (.inr (.inr ⟨_, by omega, rfl, by simp [PT.get_put]⟩))
  obtain ⟨x, H, n, e, hc⟩ := key
  obtain ⟨v', e2, h2⟩ := hc.frz
  exact ⟨v', bl_of e e2, h2⟩
theorem clone_i {D : Nat} (hD : 1 ≤ D) {v : IV} {es : List (List IV)} (hv : Sl 1 v es) (hl : es.length ≤ 2 ^ 25) : ∃ v', bl (K DG D) 163 [.imm v] = some (.imm v') ∧ Sl 1 v' es := by
  obtain ⟨d, rfl⟩ : ∃ d, D = d + 1 := ⟨D - 1, by omega⟩
  have hv0 := hv
  have key : Fe (K DG (d + 1) 163 [.imm v] .lf 0 0) (fun x H n => Cl 1 x H n es) := by
    rw [D.k163]
    refine fn_dw rfl ?_
    rcases hv with ⟨rfl, rfl⟩ | ⟨f, rfl⟩
    · simp [B6, undT, fnEnd, argsT, PT.get_put, keep, opRun, ev, evs, evO, give, giveI, binOf, isNilK, PM.flip, putT, putL, putH, loadOf, storeOf, cut, over, ofCells, asNat, natOr, calm, clashes, Acc.clash, ressOf, resOf, frz, frz.frzs, DV.flat, DV.flat.flats, imms]
      exact .inl ⟨rfl, rfl⟩
    · by_cases he : es = []
      · have p1 := fun {h : Nat → Option HB} {n : Nat} {x : DV} hx => app_none (bytes := 8) (h := h) (n := n) (x := x) hx (he ▸ hv0)
        subst he
        simp [p1, evParts2, lay, unImms, unImm, mapO, rowsN, B6, undT, fnEnd, argsT, PT.get_put, keep, opRun, ev, evs, evO, give, giveI, binOf, isNilK, PM.flip, putT, putL, putH, loadOf, storeOf, cut, over, ofCells, asNat, natOr, calm, clashes, Acc.clash, ressOf, resOf, frz, frz.frzs, DV.flat, DV.flat.flats, imms]
        exact .inr (.inl ⟨rfl, rfl⟩)
      · have p1 := fun {h : Nat → Option HB} {n : Nat} => app_new (bytes := 8) (h := h) (n := n) hv0 he (by omega) hl (by omega)
        simp [p1, evParts2, lay, unImms, unImm, mapO, rowsN, B6, undT, fnEnd, argsT, PT.get_put, keep, opRun, ev, evs, evO, give, giveI, binOf, isNilK, PM.flip, putT, putL, putH, loadOf, storeOf, cut, over, ofCells, asNat, natOr, calm, clashes, Acc.clash, ressOf, resOf, frz, frz.frzs, DV.flat, DV.flat.flats, imms]
        exact .inr (.inr (.inr ⟨_, by omega, rfl, by simp [PT.get_put]⟩))
  obtain ⟨x, H, n, e, hc⟩ := key
  obtain ⟨v', e2, h2⟩ := hc.frz
  exact ⟨v', bl_of e e2, h2⟩
theorem clone_n {D : Nat} (hD : 1 ≤ D) {v : IV} {es : List (List IV)} (hv : Sl 2 v es) (hl : es.length ≤ 2 ^ 25) : ∃ v', bl (K DG D) 164 [.imm v] = some (.imm v') ∧ Sl 2 v' es := by
  obtain ⟨d, rfl⟩ : ∃ d, D = d + 1 := ⟨D - 1, by omega⟩
  have hv0 := hv
  have key : Fe (K DG (d + 1) 164 [.imm v] .lf 0 0) (fun x H n => Cl 2 x H n es) := by
    rw [D.k164]
    refine fn_dw rfl ?_
    rcases hv with ⟨rfl, rfl⟩ | ⟨f, rfl⟩
    · simp [B6, undT, fnEnd, argsT, PT.get_put, keep, opRun, ev, evs, evO, give, giveI, binOf, isNilK, PM.flip, putT, putL, putH, loadOf, storeOf, cut, over, ofCells, asNat, natOr, calm, clashes, Acc.clash, ressOf, resOf, frz, frz.frzs, DV.flat, DV.flat.flats, imms]
      exact .inl ⟨rfl, rfl⟩
    · by_cases he : es = []
      · have p1 := fun {h : Nat → Option HB} {n : Nat} {x : DV} hx => app_none (bytes := 16) (h := h) (n := n) (x := x) hx (he ▸ hv0)
        subst he
        simp [p1, evParts2, lay, unImms, unImm, mapO, rowsN, B6, undT, fnEnd, argsT, PT.get_put, keep, opRun, ev, evs, evO, give, giveI, binOf, isNilK, PM.flip, putT, putL, putH, loadOf, storeOf, cut, over, ofCells, asNat, natOr, calm, clashes, Acc.clash, ressOf, resOf, frz, frz.frzs, DV.flat, DV.flat.flats, imms]
        exact .inr (.inl ⟨rfl, rfl⟩)
      · have p1 := fun {h : Nat → Option HB} {n : Nat} => app_new (bytes := 16) (h := h) (n := n) hv0 he (by omega) hl (by omega)
        simp [p1, evParts2, lay, unImms, unImm, mapO, rowsN, B6, undT, fnEnd, argsT, PT.get_put, keep, opRun, ev, evs, evO, give, giveI, binOf, isNilK, PM.flip, putT, putL, putH, loadOf, storeOf, cut, over, ofCells, asNat, natOr, calm, clashes, Acc.clash, ressOf, resOf, frz, frz.frzs, DV.flat, DV.flat.flats, imms]
        exact .inr (.inr (.inr ⟨_, by omega, rfl, by simp [PT.get_put]⟩))
  obtain ⟨x, H, n, e, hc⟩ := key
  obtain ⟨v', e2, h2⟩ := hc.frz
  exact ⟨v', bl_of e e2, h2⟩
theorem clone_r {d : Nat} {v : IV} {es : List (List IV)} (hv : Sl 6 v es) (hl : es.length ≤ 2 ^ 25) (H : PT HB) (n : Nat) :
    Fe (K DG (d + 1) 162 [.imm v] H n 0) (fun x H' n' => n ≤ n' ∧ ((es = [] ∧ H' = H ∧ ∃ u, x = .imm u ∧ Sl 6 u []) ∨ (es ≠ [] ∧ x = .sl n 0 es.length es.length ∧ H' = H.put n (some ⟨6, es.map imms⟩) ∧ n' = n + 1))) := by
  have hv0 := hv
  rw [D.k162]
  refine fn_dw rfl ?_
  rcases hv with ⟨rfl, rfl⟩ | ⟨f, rfl⟩
  · simp [B6, undT, fnEnd, argsT, PT.get_put, keep, opRun, ev, evs, evO, give, giveI, binOf, isNilK, PM.flip, putT, putL, putH, loadOf, storeOf, cut, over, ofCells, asNat, natOr, calm, clashes, Acc.clash, ressOf, resOf, frz, frz.frzs, DV.flat, DV.flat.flats, imms]
    exact .inl ⟨rfl, rfl⟩
  · by_cases he : es = []
    · have p1 := fun {h : Nat → Option HB} {n : Nat} {x : DV} hx => app_none (bytes := 104) (h := h) (n := n) (x := x) hx (he ▸ hv0)
      subst he
      simp [p1, evParts2, lay, unImms, unImm, mapO, rowsN, B6, undT, fnEnd, argsT, PT.get_put, keep, opRun, ev, evs, evO, give, giveI, binOf, isNilK, PM.flip, putT, putL, putH, loadOf, storeOf, cut, over, ofCells, asNat, natOr, calm, clashes, Acc.clash, ressOf, resOf, frz, frz.frzs, DV.flat, DV.flat.flats, imms]
      exact .inr ⟨_, rfl⟩
    · have p1 := fun {h : Nat → Option HB} {n : Nat} => app_new (bytes := 104) (h := h) (n := n) hv0 he (by omega) hl (by omega)
      simp [p1, he, evParts2, lay, unImms, unImm, mapO, rowsN, B6, undT, fnEnd, argsT, PT.get_put, keep, opRun, ev, evs, evO, give, giveI, binOf, isNilK, PM.flip, putT, putL, putH, loadOf, storeOf, cut, over, ofCells, asNat, natOr, calm, clashes, Acc.clash, ressOf, resOf, frz, frz.frzs, DV.flat, DV.flat.flats, imms]
end Go.Proofs.YtlknjgmhfimhbacGreatDoor.D

-- K2
set_option linter.unusedVariables false
set_option linter.unusedSimpArgs false
set_option maxHeartbeats 16000000
namespace Go.Proofs.YtlknjgmhfimhbacGreatDoor.D
open Go Go.PM Go.Lib
/-! ### Layouts that say the same -/
structure RtEq (r r' : Rt) : Prop where
  name : r'.name = r.name
  fr : r'.fr = r.fr
  to : r'.to = r.to
  path : r'.path = r.path
  pts : r'.pts = r.pts
  flk : r'.flk = r.flk
structure LoEq (l l' : Lo) : Prop where
  secs : l'.secs = l.secs
  pts : l'.pts = l.pts
  sigs : l'.sigs = l.sigs
  len : l'.rts.length = l.rts.length
  rts : ∀ i, i < l.rts.length → RtEq (nth l.rts i) (nth l'.rts i)
theorem RtEq.rt {l l' : Lo} (e : LoEq l l') {r r' : Rt} (h : RtEq r r') (hr : RT l r) : RT l' r' := by
  obtain ⟨h1, h2, h3, h4, h5, h6⟩ := h
  obtain ⟨e1, e2, e3, e4, _⟩ := e
  refine ⟨?_, ?_, ?_, ?_, ?_, ?_, ?_, ?_, ?_⟩
  · rw [h2, e3]; exact hr.fr
  · rw [h3, e3]; exact hr.to
  · rw [h2, h3]; exact hr.ne
  · rw [e1, h4]; exact hr.pa
  · rw [h4]; exact hr.p1
  · rw [h4]; exact hr.p5
  · rw [e2, h4, h5]; exact hr.np
  · rw [e2, h4, h6]; exact hr.nf
  · rw [e2, h4, h5]; exact hr.ct
theorem map_nth {α β : Type} [Inhabited α] {f : α → β} {xs ys : List α} (hl : ys.length = xs.length) (h : ∀ i, i < xs.length → f (nth ys i) = f (nth xs i)) : ys.map f = xs.map f := by
  apply List.ext_getElem?
  intro i
  rw [List.getElem?_map, List.getElem?_map]
  by_cases hi : i < xs.length
  · rw [nth_get hi, nth_get (hl ▸ hi)]
    simp [h i hi]
  · rw [List.getElem?_eq_none (by omega), List.getElem?_eq_none (by omega)]
theorem LoEq.is {l l' : Lo} (e : LoEq l l') (h : ISL l) : ISL l' := by
  have e0 := e
  obtain ⟨e1, e2, e3, e4, e5⟩ := e
  refine ⟨by rw [e1]; exact h.s1, by rw [e1]; exact h.s2, by rw [e3]; exact h.g1, by rw [e3]; exact h.g2, by rw [e2]; exact h.p2, by rw [e4]; exact h.r2, ?_, by rw [e1]; exact h.ns, by rw [e3]; exact h.ng, ?_, ?_, ?_⟩
  · rw [e2, e1]; exact h.ps
  · have : pn l' = pn l := by simp [pn, e2]
    rw [this]; exact h.np
  · have : rn l' = rn l := map_nth e4 fun i hi => (e5 i hi).name
    rw [this]; exact h.nr
  · rw [e4]
    exact fun i hi => (e5 i hi).rt e0 (h.rr i hi)
theorem LoEq.cf {l l' : Lo} (e : LoEq l l') {r s : Nat} (hr : r < l.rts.length) (hs : s < l.rts.length) : CF l' r s = CF l r s := by
  have a := e.rts r hr
  have b := e.rts s hs
  simp only [CF, nd, a.fr, b.fr, a.path, b.path, a.pts, b.pts, a.flk, b.flk]
/-! ### lock.copied -/
def BoxD (st : St) (k : Nat) (vs : List DV) : Prop := ∃ id, st.T.get k = some (.lref k id 0) ∧ st.L.get k = some (.box id vs)
structure ICo (sv pv gv : IV) (l : Lo) (id k : Nat) (i : Nat) (news : List Rt) (st : St) : Prop where
  b1 : BoxD st 1 [.imm sv, .imm pv, .imm gv, .sl id 0 k k]
  b2 : BoxD st 2 [.imm .nils, .imm .nils, .imm .nils, .imm .nils]
  h22 : st.T.get 22 = some (.sl id 0 k k)
  h23 : st.T.get 23 = some (.imm (.int .i64 k))
  h24 : st.T.get 24 = some (.imm (.int .i64 i))
  hh : st.H.get id = some ⟨6, ((news ++ l.rts.drop i).map ivRt).map imms⟩
  nl : news.length = i
  ok : ∀ j, j < i → RtEq (nth l.rts j) (nth news j) ∧ RtOk (nth news j)
theorem drop_nth {α : Type} [Inhabited α] {xs : List α} {i : Nat} (h : i < xs.length) : xs.drop i = nth xs i :: xs.drop (i + 1) := by
  rw [List.drop_eq_getElem_cons h]
  congr 1
  have := nth_get h
  rw [List.getElem?_eq_getElem h] at this
  exact Option.some.inj this
theorem nth_app {α : Type} [Inhabited α] {xs ys : List α} {i : Nat} (h : i < xs.length) : nth (xs ++ ys) i = nth xs i := by
  have h1 : i < (xs ++ ys).length := by simp; omega
  have a := nth_get h1
  rw [List.getElem?_append_left h, nth_get h] at a
  exact (Option.some.inj a).symm
theorem nth_end {α : Type} [Inhabited α] {xs : List α} {y : α} : nth (xs ++ [y]) xs.length = y := by simp [nth]
theorem loopCo {d : Nat} (hd : 1 ≤ d) {sv pv gv : IV} {l : Lo} (ok : LoOk l) (fw : Few l) (hp : ∀ r, r < l.rts.length → (nth l.rts r).path.length ≤ 100) {id k : Nat} (hk : k = l.rts.length) (k6 : k ≤ 1000) {ks : List Kf} {st : St} {Q : Ex → St → Prop} (h : ICo sv pv gv l id k 0 [] st)
    (hq : ∀ st' news, ICo sv pv gv l id k k news st' → Bk DG (K DG d) 0 (.exit 0) ks st' Q) : Wp DG (K DG d) 0 D.l101_0 ks st Q := by
  have hrb := rb3
  refine dw_loop (N := k) (small (by omega)) (fun i st => ∃ news, ICo sv pv gv l id k i news st) (fun e st' => e = .exit 0 ∧ ∃ news, ICo sv pv gv l id k k news st') (fun i st hle hI => ?_) ⟨[], h⟩ (fun e s' h => by obtain ⟨rfl, news, h⟩ := h; exact hq s' news h)
  obtain ⟨news, ⟨i1, h1, L1⟩, ⟨i2, h2, L2⟩, h22, h23, h24, hh, nl, hok⟩ := hI
  by_cases hi : i < k
  · have hi1 : (i : Int) < k := by omega
    have hi' := ilt_t hi1
    have hw8 : IntKind.i64.wrap ((i : Int) + 1) = (i : Int) + 1 := wr_succ hi (by omega)
    have hil : i < l.rts.length := by omega
    have rk := ok.or _ (nth_mem hil)
    obtain ⟨p', ep, sp⟩ := clone_i (D := d) hd rk.p (by have := hp i hil; simp; omega)
    obtain ⟨q', eq', sq⟩ := clone_n (D := d) hd rk.q (by have := fw i hil; simp; omega)
    obtain ⟨f', ef, sf⟩ := clone_n (D := d) hd rk.f (by have := fw i hil; simp; omega)
    have e0 : ((news ++ l.rts.drop i).map ivRt).map imms = (news.map ivRt).map imms ++ imms (ivRt (nth l.rts i)) :: ((l.rts.drop (i + 1)).map ivRt).map imms := by rw [drop_nth hil]; simp
    have hln : ((news.map ivRt).map imms).length = i := by simp [nl]
    generalize hr : ((news ++ l.rts.drop i).map ivRt).map imms = rows at hh e0
    have hrow : rows[i]? = some (imms (ivRt (nth l.rts i))) := by rw [e0, ← hln]; simp
    have iy := fun {n : Nat} => idx_hp (h := st.H.get) (n := n) (id := id) (row := 0) (len := k) (cap := k) hh rfl (k := .i64) (z := (i : Int)) (by omega) hi1
    have hlt : i < rows.length := by rw [e0]; simp [nl]
    have hset : rows.set i (imms (ivRt { nth l.rts i with pv := p', qv := q', fv := f' })) = ((news ++ [{ nth l.rts i with pv := p', qv := q', fv := f' }] ++ l.rts.drop (i + 1)).map ivRt).map imms := by
      rw [e0, ← hln]; simp
    simp only [ivRt, imms, List.map_cons, List.map_nil, Int.toNat_natCast, Nat.zero_add] at hrow hset iy
    generalize hQ : (fun (e : Ex) (s' : St) => _) = Q'
    simp only [D.l101_0b]
    simp [h1, h2, L1, L2, h22, h23, h24, hi', hw8, iy, hh, hrow, ep, eq', ef, rk.p.scal, rk.q.scal, rk.f.scal, sp.scal, sq.scal, sf.scal, B6, undT, fnEnd, argsT, PT.get_put, keep, opRun, ev, evs, evO, give, giveI, binOf, isNilK, PM.flip, putT, putL, putH, loadOf, storeOf, cut, over, ofCells, asNat, natOr, calm, clashes, Acc.clash, ressOf, resOf, frz, frz.frzs, DV.flat, DV.flat.flats, imms]
    subst hQ
    refine .inl ⟨rfl, hi, news ++ [{ nth l.rts i with pv := p', qv := q', fv := f' }], ⟨i1, by simp [PT.get_put], by simp [PT.get_put]⟩, ⟨i2, by simp [PT.get_put], by simp [PT.get_put]⟩, by simp [PT.get_put], by simp [PT.get_put], by simp [PT.get_put], ?_, by simp [nl], fun j hj => ?_⟩
    · simp only [PT.get_put, if_true]
      rw [hset]
    · rcases Nat.lt_or_eq_of_le (Nat.le_of_lt_succ hj) with hj | rfl
      · rw [nth_app (by omega)]; exact hok j hj
      · subst nl
        rw [nth_end]
        exact ⟨⟨rfl, rfl, rfl, rfl, rfl, rfl⟩, ⟨sp, sq, sf, rk.ln, rk.lp, rk.lq, rk.lf⟩⟩
  · obtain rfl : i = k := by omega
    generalize hQ : (fun (e : Ex) (s' : St) => _) = Q'
    simp only [D.l101_0b]
    simp [h1, h2, L1, L2, h22, h23, h24, B6, undT, fnEnd, argsT, PT.get_put, keep, opRun, ev, evs, evO, give, giveI, binOf, isNilK, PM.flip, putT, putL, putH, loadOf, storeOf, cut, over, ofCells, asNat, natOr, calm, clashes, Acc.clash, ressOf, resOf, frz, frz.frzs, DV.flat, DV.flat.flats, imms]
    subst hQ
    exact .inr ⟨nofun, rfl, news, ⟨i1, by simp [PT.get_put, h1], by simp [PT.get_put, L1]⟩, ⟨i2, by simp [PT.get_put, h2], by simp [PT.get_put, L2]⟩, by simp [PT.get_put], by simp [PT.get_put], by simp [PT.get_put], hh, nl, hok⟩
theorem copied_bl {D : Nat} (hD : 2 ≤ D) {l : Lo} (ok : LoOk l) (is : ISL l) : ∃ l', bl (K DG D) 101 [l.dv] = some l'.dv ∧ LoOk l' ∧ LoEq l l' := by
  obtain ⟨d, rfl⟩ : ∃ d, D = d + 2 := ⟨D - 2, by omega⟩
  have hrb := rb3
  have r6 := is.r2
  obtain ⟨sv, es, ss⟩ := clone_s (D := d + 1) (by omega) ok.s (by have := is.s2; simp; omega)
  obtain ⟨pv, ep, sp⟩ := clone_p (D := d + 1) (by omega) ok.p (by have := is.p2; simp; omega)
  obtain ⟨gv, eg, sg⟩ := clone_s (D := d + 1) (by omega) ok.g (by have := is.g2; simp; omega)
  obtain ⟨x, H1, n1, e1, hn1, hx⟩ := clone_r (d := d) ok.r (by simp; omega) .lf 2
  have key : Fe (K DG (d + 2) 101 [l.dv] .lf 0 0) (fun v H n => (∃ u, v = .agg [.imm sv, .imm pv, .imm gv, .imm u] ∧ Sl 6 u [] ∧ l.rts = []) ∨
      ∃ id news, v = .agg [.imm sv, .imm pv, .imm gv, .sl id 0 l.rts.length l.rts.length] ∧ H.get id = some ⟨6, (news.map ivRt).map imms⟩ ∧ news.length = l.rts.length ∧ ∀ j, j < l.rts.length → RtEq (nth l.rts j) (nth news j) ∧ RtOk (nth news j)) := by
    rw [D.k101]
    refine fn_dw rfl ?_
    rcases hx with ⟨h0, rfl, u, rfl, hu⟩ | ⟨h0, rfl, rfl, rfl⟩
    · have hr0 : l.rts = [] := by simpa using h0
      have ul := hu.len
      obtain ⟨k, hL⟩ : ∃ k, LOOP = k + 1 := ⟨2 ^ 62 - 1, rfl⟩
      have l0 : ILt 0 0 = False := ilt_f (by omega)
      simp [ok.s.scal, ok.p.scal, ok.g.scal, ok.r.scal, ss.scal, sp.scal, sg.scal, hu.scal, es, ep, eg, e1, ul, B6, undT, fnEnd, argsT, PT.get_put, keep, opRun, ev, evs, evO, give, giveI, binOf, isNilK, PM.flip, putT, putL, putH, loadOf, storeOf, cut, over, ofCells, asNat, natOr, calm, clashes, Acc.clash, ressOf, resOf, frz, frz.frzs, DV.flat, DV.flat.flats, imms]
      refine dw_loop (N := 0) (by unfold LOOP; omega) (fun i st => BoxD st 1 [.imm sv, .imm pv, .imm gv, .imm u] ∧ BoxD st 2 [.imm .nils, .imm .nils, .imm .nils, .imm .nils] ∧ st.T.get 23 = some (.imm (.int .i64 0)) ∧ st.T.get 24 = some (.imm (.int .i64 0))) (fun e st => e = .exit 0 ∧ BoxD st 1 [.imm sv, .imm pv, .imm gv, .imm u] ∧ BoxD st 2 [.imm .nils, .imm .nils, .imm .nils, .imm .nils]) (fun i st hle hI => ?_) ⟨⟨0, by simp [PT.get_put], by simp [PT.get_put]⟩, ⟨1, by simp [PT.get_put], by simp [PT.get_put, imms]⟩, by simp [PT.get_put], by simp [PT.get_put]⟩ ?_
      · obtain ⟨⟨i1, h1, L1⟩, ⟨i2, h2, L2⟩, h23, h24⟩ := hI
        generalize hQ : (fun (e : Ex) (s' : St) => _) = Q'
        simp only [D.l101_0b]
        simp [h1, h2, L1, L2, h23, h24, l0, B6, undT, fnEnd, argsT, PT.get_put, keep, opRun, ev, evs, evO, give, giveI, binOf, isNilK, PM.flip, putT, putL, putH, loadOf, storeOf, cut, over, ofCells, asNat, natOr, calm, clashes, Acc.clash, ressOf, resOf, frz, frz.frzs, DV.flat, DV.flat.flats, imms]
        subst hQ
        exact .inr ⟨nofun, rfl, ⟨i1, by simp [PT.get_put, h1], by simp [PT.get_put, L1]⟩, ⟨i2, by simp [PT.get_put, h2], by simp [PT.get_put, L2]⟩⟩
      · rintro e st' ⟨rfl, ⟨i1, h1, L1⟩, ⟨i2, h2, L2⟩⟩
        simp [h1, h2, L1, L2, ss.scal, sp.scal, sg.scal, hu.scal, B6, undT, fnEnd, argsT, PT.get_put, keep, opRun, ev, evs, evO, give, giveI, binOf, isNilK, PM.flip, putT, putL, putH, loadOf, storeOf, cut, over, ofCells, asNat, natOr, calm, clashes, Acc.clash, ressOf, resOf, frz, frz.frzs, DV.flat, DV.flat.flats, imms]
        exact ⟨hu, hr0⟩
    · have fw := is.few
      simp [ok.s.scal, ok.p.scal, ok.g.scal, ok.r.scal, ss.scal, sp.scal, sg.scal, es, ep, eg, e1, B6, undT, fnEnd, argsT, PT.get_put, keep, opRun, ev, evs, evO, give, giveI, binOf, isNilK, PM.flip, putT, putL, putH, loadOf, storeOf, cut, over, ofCells, asNat, natOr, calm, clashes, Acc.clash, ressOf, resOf, frz, frz.frzs, DV.flat, DV.flat.flats, imms]
      refine loopCo (sv := sv) (pv := pv) (gv := gv) (l := l) (id := 2) (k := l.rts.length) (by omega) ok fw (fun r hr => by have := (is.rr r hr).p5; omega) rfl (by omega) ⟨⟨0, by simp [PT.get_put], by simp [PT.get_put]⟩, ⟨1, by simp [PT.get_put], by simp [PT.get_put, imms]⟩, by simp [PT.get_put], by simp [PT.get_put], by simp [PT.get_put], by simp [PT.get_put], rfl, fun j hj => by omega⟩ ?_
      rintro st' news ⟨⟨i1, h1, L1⟩, ⟨i2, h2, L2⟩, h22, h23, h24, hh, nl, hok⟩
      simp [h1, h2, L1, L2, ss.scal, sp.scal, sg.scal, B6, undT, fnEnd, argsT, PT.get_put, keep, opRun, ev, evs, evO, give, giveI, binOf, isNilK, PM.flip, putT, putL, putH, loadOf, storeOf, cut, over, ofCells, asNat, natOr, calm, clashes, Acc.clash, ressOf, resOf, frz, frz.frzs, DV.flat, DV.flat.flats, imms]
      refine ⟨news, ?_, nl, hok⟩
      rw [hh]; simp
  obtain ⟨v, H, n, e, hv⟩ := key
  rcases hv with ⟨u, rfl, hu, h0⟩ | ⟨id, news, rfl, hh, nl, hok⟩
  · refine ⟨⟨sv, pv, gv, u, l.secs, l.pts, l.sigs, l.rts⟩, bl_of e rfl, ⟨ss, sp, sg, by rw [h0]; exact hu, ok.ls, ok.lp, ok.lg, ok.lr, ok.os, ok.op, ok.og, ok.or⟩, ⟨rfl, rfl, rfl, rfl, fun i hi => ⟨rfl, rfl, rfl, rfl, rfl, rfl⟩⟩⟩
  · refine ⟨⟨sv, pv, gv, .lst false 6 (news.map ivRt), l.secs, l.pts, l.sigs, news⟩, bl_of e ?_, ⟨ss, sp, sg, .inr ⟨_, rfl⟩, ok.ls, ok.lp, ok.lg, by rw [nl]; exact ok.lr, ok.os, ok.op, ok.og, fun x hx => ?_⟩, ⟨rfl, rfl, rfl, nl, fun i hi => (hok i hi).1⟩⟩
    · have hf : frzI H.get 0 frzDepth (.sl id 0 l.rts.length l.rts.length) = some (.lst false 6 (news.map ivRt)) := by
        show (if 0 ≤ id then _ else _) = _
        rw [if_pos (Nat.zero_le _)]
        simp only [hh]
        rw [if_pos (by simp [nl])]
        simp only [List.drop_zero]
        rw [List.take_of_length_le (by simp [nl]), mapO_frz2]
        rfl
      have hz : frz H.get 0 (.sl id 0 l.rts.length l.rts.length) = some (.imm (.lst false 6 (news.map ivRt))) := by
        have hz0 : frz H.get 0 (.sl id 0 l.rts.length l.rts.length) = if id < 0 then some (.sl id 0 l.rts.length l.rts.length) else (frzI H.get 0 frzDepth (.sl id 0 l.rts.length l.rts.length)).map .imm := rfl
        rw [hz0, if_neg (Nat.not_lt_zero _), hf]
        rfl
      show (frz.frzs H.get 0 _).map DV.agg = _
      simp only [frz.frzs, hz]
      rfl
    · obtain ⟨j, hj, rfl⟩ := mem_nth hx
      have hj' : j < news.length := hj
      exact (hok j (by omega)).2
end Go.Proofs.YtlknjgmhfimhbacGreatDoor.D

-- K3
set_option linter.unusedVariables false
set_option linter.unusedSimpArgs false
set_option maxHeartbeats 16000000
namespace Go.Proofs.YtlknjgmhfimhbacGreatDoor.D
open Go Go.PM Go.Lib
/-! ### How routes stand -/
structure Rst where
  mode : Int
  timer : Int
  gone : Int
  seen : Bool
  deriving Inhabited
abbrev rowRS (x : Rst) : List DV := [.imm (.int .i64 x.mode), .imm (.int .i64 x.timer), .imm (.int .i64 x.gone), .imm (.bool x.seen)]
def RsAt (H : PT HB) (x : DV) (own : List Nat) (rs : List Rst) : Prop := (rs = [] ∧ own = [] ∧ ∃ v, x = .imm v ∧ Sl 4 v []) ∨ ∃ id, own = [id] ∧ x = .sl id 0 rs.length rs.length ∧ H.get id = some ⟨4, rs.map rowRS⟩
def LkAt (H : PT HB) (p : Nat) (own : List Nat) (l : Lo) (rs : List Rst) : Prop := ∃ x, H.get p = some ⟨5, [[.imm l.sv, .imm l.pv, .imm l.gv, .imm l.rv, x]]⟩ ∧ RsAt H x own rs ∧ p ∉ own ∧ rs.length = l.rts.length
theorem RsAt.mono {H H' : PT HB} {x : DV} {own : List Nat} {rs : List Rst} (h : RsAt H x own rs) (hf : ∀ i ∈ own, H'.get i = H.get i) : RsAt H' x own rs := by
  rcases h with h | ⟨id, rfl, h1, h2⟩
  · exact .inl h
  · exact .inr ⟨id, rfl, h1, by rw [hf id (by simp)]; exact h2⟩
theorem LkAt.mono {H H' : PT HB} {p : Nat} {own : List Nat} {l : Lo} {rs : List Rst} (h : LkAt H p own l rs) (hf : ∀ i ∈ p :: own, H'.get i = H.get i) : LkAt H' p own l rs := by
  obtain ⟨x, h1, h2, h3, h4⟩ := h
  exact ⟨x, by rw [hf p (by simp)]; exact h1, h2.mono fun i hi => hf i (by simp [hi]), h3, h4⟩
abbrev rs0 : Rst := ⟨0, 0, 0, false⟩
theorem LockNew_run {d : Nat} (hd : 6 ≤ d) {l : Lo} (ok : LoOk l) (is : ISL l) (H : PT HB) (n : Nat) :
    Fe (K DG (d + 1) 41 [l.dv] H n 0) (fun v H' n' => ∃ p own l', v = .tup [.ptr p 0 0, .imm (.int .i64 0)] ∧ LoOk l' ∧ LoEq l l' ∧ LkAt H' p own l' (List.replicate l.rts.length rs0) ∧ (∀ i ∈ p :: own, n ≤ i ∧ i < n') ∧ ∀ j, j < n → H'.get j = H.get j) := by
  have e1 := Is_bl (D := d) (by omega) ok
  rw [dec_t is] at e1
  obtain ⟨l', e2, ok', eq⟩ := copied_bl (D := d) (by omega) ok is
  have rl := ok.r.len
  simp only [List.length_map] at rl
  have r6 := is.r2
  have a1 : l.rts.length ≤ appMax := by unfold appMax; omega
  have a2 : l.rts.length * 32 ≤ appMax := by unfold appMax; omega
  rw [D.k41]
  refine fn_dw rfl ?_
  have b1 : ¬ n + 2 = n + 1 := by omega
  have b2 : ¬ n + 1 = n + 2 := by omega
  simp [ok.s.scal, ok.p.scal, ok.g.scal, ok.r.scal, ok'.s.scal, ok'.p.scal, ok'.g.scal, ok'.r.scal, e1, e2, rl, a1, a2, evParts, lay, B6, undT, fnEnd, argsT, PT.get_put, keep, opRun, ev, evs, evO, give, giveI, binOf, isNilK, PM.flip, putT, putL, putH, loadOf, storeOf, cut, over, ofCells, asNat, natOr, calm, clashes, Acc.clash, ressOf, resOf, frz, frz.frzs, DV.flat, DV.flat.flats, imms]
  refine ⟨[n + 1], l', ok', eq, ⟨_, by simp [PT.get_put], .inr ⟨n + 1, rfl, rfl, ?_⟩, by simp, by simp [eq.len]⟩, ?_, fun j hj => ?_⟩
  · simp [PT.get_put, imms]
  · simp
    omega
  · have c1 : ¬ j = n + 1 := by omega
    have c2 : ¬ j = n + 2 := by omega
    have c3 : ¬ j = n + 1 + 1 := by omega
    simp [PT.get_put, c1, c2, c3]
end Go.Proofs.YtlknjgmhfimhbacGreatDoor.D
