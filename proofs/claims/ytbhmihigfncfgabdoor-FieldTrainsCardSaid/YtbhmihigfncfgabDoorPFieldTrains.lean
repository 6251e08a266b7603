/-
  FieldTrains over D.
-/
import Derived.Test.YtbhmihigfncfgabDoorT4
import Derived.Test.YtbhmihigfncfgabDoorF1
set_option linter.unusedVariables false
set_option linter.unusedSimpArgs false
set_option maxHeartbeats 16000000
namespace Go.Proofs.YtbhmihigfncfgabDoor.D
open Go Go.PM Go.Lib
def ss_FieldTrains : List (Bool × List Kd) := [(true, kdL), (false, [.sl [.i .i64]])]
/-- The law's state: a field, and what its sections should be, in a block of its own. -/
structure IFt (nv : IV) (f w k : Nat) (own : List Nat) (occ : List Bool) (pts : List FPt) (i : Nat) (st : St) : Prop where
  h1 : st.T.get 1 = some (.imm nv)
  h5 : st.T.get 5 = some (.ptr f 0 0)
  h7 : st.T.get 7 = some (.sl w 0 k k)
  h8 : st.T.get 8 = some (.imm (.int .i64 i))
  fd : Fd st.H f own occ pts
  hw : st.H.get w = some ⟨1, occ.map rowBo⟩
  nw : w ∉ f :: own
  lt : ∀ j ∈ w :: f :: own, j < st.n
  ol : occ.length = k
structure IFj (nv : IV) (f w k : Nat) (own : List Nat) (occ : List Bool) (pts : List FPt) (i j : Nat) (st : St) : Prop where
  ft : IFt nv f w k own occ pts i st
  b11 : Box st 11 [.lst false 1 (occ.map ivB), liesV pts]
  h12 : st.T.get 12 = some (.imm (.int .i64 j))
theorem lies_scal {pts : List FPt} : (DV.imm (liesV pts)).scal = true := by unfold liesV; split <;> rfl
theorem loopFj {d : Nat} {nv : IV} {f w k : Nat} {own : List Nat} {occ : List Bool} {pts : List FPt} {i : Nat} (hk : k ≤ 1000) {ks : List Kf} {st : St} {Q : Ex → St → Prop} (h : IFj nv f w k own occ pts i 0 st)
    (hq : ∀ st', IFt nv f w k own occ pts i st' → Bk DG (K DG d) 0 (.exit 2) ks st' Q) : Wp DG (K DG d) 0 D.l7_1 ks st Q := by
  have hrb := rb3
  refine dw_loop (N := k) (small (by omega)) (IFj nv f w k own occ pts i) (fun e st' => e = .exit 2 ∧ IFt nv f w k own occ pts i st') (fun j st hle hI => ?_) h (fun e s' h => by rw [h.1]; exact hq s' h.2)
  obtain ⟨⟨h1, h5, h7, h8, fd, hw, nw, lt, ol⟩, ⟨id, h11, hL⟩, h12⟩ := hI
  by_cases hj : j < k
  · have hj1 : (j : Int) < k := by omega
    have hj' := ilt_t hj1
    have hw8 : IntKind.i64.wrap ((j : Int) + 1) = (j : Int) + 1 := wr_succ hj (by omega)
    have ix := fun {h : Nat → Option HB} {n : Nat} => idx_sl (h := h) (n := n) (v := .lst false 1 (occ.map ivB)) (xs := occ) (f := ivB) (.inr ⟨_, rfl⟩) (by omega) (k := .i64) (z := (j : Int)) (by omega) (by omega)
    have iy := fun {n : Nat} => idx_hp (h := st.H.get) (n := n) (id := w) (row := 0) (len := k) (cap := k) hw rfl (k := .i64) (z := (j : Int)) (by omega) (by omega)
    have hrow : (occ.map rowBo)[j]? = some (rowBo (nth occ j)) := by rw [List.getElem?_map, nth_get (by omega)]; rfl
    simp only [rowBo, Int.toNat_natCast] at hrow iy
    have hw' : st.H.get w = some ⟨1, occ.map fun b => [.imm (.bool b)]⟩ := hw
    generalize hQ : (fun (e : Ex) (s' : St) => _) = Q'
    simp only [D.l7_1b]
    simp [h1, h5, h7, h8, h11, hL, h12, hj', hw8, ix, iy, hw', hrow, nth_get (show j < occ.length by omega), ivB, B6, undT, fnEnd, argsT, PT.get_put, keep, opRun, ev, evs, evO, give, giveI, binOf, isNilK, PM.flip, putT, putL, putH, loadOf, storeOf, cut, over, ofCells, asNat, natOr, calm, clashes, Acc.clash, ressOf, resOf, frz, frz.frzs, DV.flat, DV.flat.flats, imms]
    subst hQ
    exact .inl ⟨rfl, hj, ⟨by simp [PT.get_put], by simp [PT.get_put], by simp [PT.get_put], by simp [PT.get_put], fd, hw, nw, lt, ol⟩, ⟨id, by simp [PT.get_put], by simp [PT.get_put, imms, ivB]⟩, by simp [PT.get_put]⟩
  · obtain rfl : j = k := by omega
    generalize hQ : (fun (e : Ex) (s' : St) => _) = Q'
    simp only [D.l7_1b]
    simp [h1, h5, h7, h8, h11, hL, h12, B6, undT, fnEnd, argsT, PT.get_put, keep, opRun, ev, evs, evO, give, giveI, binOf, isNilK, PM.flip, putT, putL, putH, loadOf, storeOf, cut, over, ofCells, asNat, natOr, calm, clashes, Acc.clash, ressOf, resOf, frz, frz.frzs, DV.flat, DV.flat.flats, imms]
    subst hQ
    exact .inr ⟨nofun, rfl, by simp [PT.get_put], by simp [PT.get_put], by simp [PT.get_put], by simp [PT.get_put], fd, hw, nw, lt, ol⟩
theorem loopFt {d : Nat} (hd : 2 ≤ d) {nv : IV} {zs : List Int} (hv : Sl 1 nv (zs.map ivI)) (hz : zs.length ≤ 60) {f w k : Nat} {own : List Nat} {pts : List FPt} (hk0 : 0 < k) (hk : k ≤ 1000) (hp : pts.length ≤ 1000) {ks : List Kf} {st : St} {Q : Ex → St → Prop} (h : ∃ occ, IFt nv f w k own occ pts 0 st)
    (hq : ∀ st', Bk DG (K DG d) 0 (.exit 0) ks st' Q) : Wp DG (K DG d) 0 D.l7_0 ks st Q := by
  have hrb := rb3
  obtain ⟨d, rfl⟩ : ∃ d', d = d' + 2 := ⟨d - 2, by omega⟩
  refine dw_loop (N := zs.length) (small (by omega)) (fun i st => ∃ occ, IFt nv f w k own occ pts i st) (fun e st' => e = .exit 0) (fun i st hle hI => ?_) h (fun e s' h => by rw [h]; exact hq s')
  obtain ⟨occ, h1, h5, h7, h8, fd, hw, nw, lt, ol⟩ := hI
  have zl := hv.len
  simp only [List.length_map] at zl
  by_cases hi : i < zs.length
  · have hi1 : (i : Int) < zs.length := by omega
    have hi' := ilt_t hi1
    have hw8 : IntKind.i64.wrap ((i : Int) + 1) = (i : Int) + 1 := wr_succ hi (by omega)
    have iz := fun {h : Nat → Option HB} {n : Nat} => idx_sl (h := h) (n := n) hv (by omega) (k := .i64) (z := (i : Int)) (by omega) hi1
    have ho0 : occ ≠ [] := fun e => by subst e; simp at ol; omega
    obtain ⟨v1, H1, n1, e1, rfl, hfr, hcase⟩ := Train_run (d := d + 1) fd ho0 (nth zs i) st.n
    have hw1 : H1.get w = some ⟨1, occ.map rowBo⟩ := by rw [hfr w (fun h => nw (by simp [h]))]; exact hw
    rcases hcase with ⟨hin, rfl, fd1⟩ | ⟨hin, rfl, fd1⟩
    · have j0 : ILt (nth zs i) 0 = False := ilt_f hin.1
      have j1 : ILt (nth zs i) k = True := ilt_t (by have := hin.2; omega)
      have hzn : (nth zs i).toNat < occ.length := by have := hin.1; have := hin.2; omega
      have iy := fun {n : Nat} => idx_hp (h := H1.get) (n := n) (id := w) (row := 0) (len := k) (cap := k) hw1 rfl (k := .i64) (z := nth zs i) hin.1 (by have := hin.2; omega)
      have hrow : (occ.map rowBo)[(nth zs i).toNat]? = some (rowBo (nth occ (nth zs i).toNat)) := by rw [List.getElem?_map, nth_get hzn]; rfl
      have hset : (occ.map rowBo).set (nth zs i).toNat (rowBo (!nth occ (nth zs i).toNat)) = (flipAt occ (nth zs i)).map rowBo := by rw [flipAt, List.map_set]
      generalize hrs : occ.map rowBo = rs at hw1 hrow hset iy
      have rl : rs.length = k := by rw [← hrs]; simpa using ol
      simp only [rowBo] at hrow hset
      have ol' : (flipAt occ (nth zs i)).length = k := by simp [flipAt, ol]
      have fd2 : Fd (H1.put w (some ⟨1, (flipAt occ (nth zs i)).map rowBo⟩)) f own (flipAt occ (nth zs i)) pts := fd1.mono fun j hj => by
        have : ¬ j = w := fun e => nw (e ▸ hj)
        simp [PT.get_put, this]
      obtain ⟨n2, e2, hn2⟩ := in_eq DG d fd2 (fun e => by have := congrArg List.length e; rw [ol'] at this; simp at this; omega) (by omega) hp (n := st.n) (fun j hj => lt j (by simp [hj])) 0
      generalize hQ : (fun (e : Ex) (s' : St) => _) = Q'
      simp only [D.l7_0b]
      simp [h1, h5, h7, h8, zl, hi', iz, ivI, e1, j0, j1, hw1, iy, hrow, hset, e2, ol', rl, lies_scal, B6, undT, fnEnd, argsT, PT.get_put, keep, opRun, ev, evs, evO, give, giveI, binOf, isNilK, PM.flip, putT, putL, putH, loadOf, storeOf, cut, over, ofCells, asNat, natOr, calm, clashes, Acc.clash, ressOf, resOf, frz, frz.frzs, DV.flat, DV.flat.flats, imms]
      refine loopFj (occ := flipAt occ (nth zs i)) (own := own) (pts := pts) (nv := nv) (f := f) (w := w) (k := k) (i := i) (by omega) ⟨⟨by simp [PT.get_put, h1], by simp [PT.get_put, h5], by simp [PT.get_put, h7], by simp [PT.get_put, h8], fd2, by simp [PT.get_put], nw, fun j hj => ?_, ol'⟩, ⟨n2, by simp [PT.get_put], by simp [PT.get_put, imms]⟩, by simp [PT.get_put]⟩ ?_
      · have := lt j hj
        simp; omega
      rintro st' ⟨g1, g5, g7, g8, gd, gw, gn, gl, go⟩
      simp [g1, g5, g7, g8, hw8, B6, undT, fnEnd, argsT, PT.get_put, keep, opRun, ev, evs, evO, give, giveI, binOf, isNilK, PM.flip, putT, putL, putH, loadOf, storeOf, cut, over, ofCells, asNat, natOr, calm, clashes, Acc.clash, ressOf, resOf, frz, frz.frzs, DV.flat, DV.flat.flats, imms]
      subst hQ
      exact .inl ⟨rfl, hi, _, by simp [PT.get_put, g1], by simp [PT.get_put, g5], by simp [PT.get_put, g7], by simp [PT.get_put], gd, gw, gn, gl, go⟩
    · generalize hQ : (fun (e : Ex) (s' : St) => _) = Q'
      by_cases k0 : nth zs i < 0
      · have j0 : ILt (nth zs i) 0 = True := ilt_t k0
        simp only [D.l7_0b]
        simp [h1, h5, h7, h8, zl, hi', iz, ivI, e1, j0, hw8, B6, undT, fnEnd, argsT, PT.get_put, keep, opRun, ev, evs, evO, give, giveI, binOf, isNilK, PM.flip, putT, putL, putH, loadOf, storeOf, cut, over, ofCells, asNat, natOr, calm, clashes, Acc.clash, ressOf, resOf, frz, frz.frzs, DV.flat, DV.flat.flats, imms]
        subst hQ
        exact .inl ⟨rfl, hi, _, by simp [PT.get_put], by simp [PT.get_put], by simp [PT.get_put], by simp [PT.get_put], fd1, hw1, nw, lt, ol⟩
      · have j0 : ILt (nth zs i) 0 = False := ilt_f (by omega)
        have j1 : ILt (nth zs i) k = False := ilt_f (by unfold InR at hin; omega)
        simp only [D.l7_0b]
        simp [h1, h5, h7, h8, zl, hi', iz, ivI, e1, j0, j1, hw8, B6, undT, fnEnd, argsT, PT.get_put, keep, opRun, ev, evs, evO, give, giveI, binOf, isNilK, PM.flip, putT, putL, putH, loadOf, storeOf, cut, over, ofCells, asNat, natOr, calm, clashes, Acc.clash, ressOf, resOf, frz, frz.frzs, DV.flat, DV.flat.flats, imms]
        subst hQ
        exact .inl ⟨rfl, hi, _, by simp [PT.get_put], by simp [PT.get_put], by simp [PT.get_put], by simp [PT.get_put], fd1, hw1, nw, lt, ol⟩
  · obtain rfl : i = zs.length := by omega
    generalize hQ : (fun (e : Ex) (s' : St) => _) = Q'
    simp only [D.l7_0b]
    simp [h1, h5, h7, h8, zl, B6, undT, fnEnd, argsT, PT.get_put, keep, opRun, ev, evs, evO, give, giveI, binOf, isNilK, PM.flip, putT, putL, putH, loadOf, storeOf, cut, over, ofCells, asNat, natOr, calm, clashes, Acc.clash, ressOf, resOf, frz, frz.frzs, DV.flat, DV.flat.flats, imms]
    subst hQ
    simp
theorem run_FieldTrains {l : Lo} (ok : LoOk l) {nv : IV} {zs : List Int} (hv : Sl 1 nv (zs.map ivI)) : Fe (K DG 30 7 [l.dv, .imm nv] .lf 0 0) (fun v _ _ => v = .imm (.bool true)) := by
  have hrb := rb3
  obtain ⟨m, hm, hs⟩ := size_bl (D := 29) (by omega) ok
  have hkn := known_bl
  have zl := hv.len
  have sl := ok.s.len
  simp only [List.length_map] at zl sl
  rw [D.k7]
  refine fn_dw rfl ?_
  by_cases hm3 : m < 3000
  · have hj3 : ILt (m : Int) 3000 = True := ilt_t (by omega)
    have e2 := Is4_bl (D := 29) (by omega) ok (hs hm3).sm
    generalize hQ : Fin _ _ = Q
    simp (config := {contextual := true, maxSteps := 2000000}) [ok.s.scal, ok.p.scal, ok.g.scal, ok.r.scal, hm, hj3, e2, zl, B6, undT, fnEnd, argsT, PT.get_put, keep, opRun, ev, evs, evO, give, giveI, binOf, isNilK, PM.flip, putT, putL, putH, loadOf, storeOf, cut, over, ofCells, asNat, natOr, calm, clashes, Acc.clash, ressOf, resOf, frz, frz.frzs, DV.flat, DV.flat.flats, imms]
    subst hQ
    refine ⟨fun is => ⟨fun _ => by simp [B6, undT, fnEnd, argsT, PT.get_put, keep, opRun, ev, evs, evO, give, giveI, binOf, isNilK, PM.flip, putT, putL, putH, loadOf, storeOf, cut, over, ofCells, asNat, natOr, calm, clashes, Acc.clash, ressOf, resOf, frz, frz.frzs, DV.flat, DV.flat.flats, imms], fun hz => ?_⟩, fun _ => by simp [B6, undT, fnEnd, argsT, PT.get_put, keep, opRun, ev, evs, evO, give, giveI, binOf, isNilK, PM.flip, putT, putL, putH, loadOf, storeOf, cut, over, ofCells, asNat, natOr, calm, clashes, Acc.clash, ressOf, resOf, frz, frz.frzs, DV.flat, DV.flat.flats, imms]⟩
    obtain ⟨v1, H1, n1, e1, f, own, rfl, fd, hown, _⟩ := New_run (d := 28) (by omega) ok is .lf 1
    have s1 := is.s1
    have s2 := is.s2
    have p2 := is.p2
    have a1 : l.secs.length ≤ appMax := by unfold appMax; omega
    have hnw : n1 ∉ f :: own := fun h => by have := hown n1 h; omega
    simp [e1, sl, a1, B6, undT, fnEnd, argsT, PT.get_put, keep, opRun, ev, evs, evO, give, giveI, binOf, isNilK, PM.flip, putT, putL, putH, loadOf, storeOf, cut, over, ofCells, asNat, natOr, calm, clashes, Acc.clash, ressOf, resOf, frz, frz.frzs, DV.flat, DV.flat.flats, imms]
    refine loopFt (nv := nv) (f := f) (w := n1) (k := l.secs.length) (own := own) (pts := List.replicate l.pts.length ⟨1, 0, 0⟩) (by omega) hv (by unfold ILt at hz; omega) (by omega) (by omega) (by simp; omega) ⟨_, by simp [PT.get_put], by simp [PT.get_put], by simp [PT.get_put], by simp [PT.get_put], fd.mono fun j hj => ?_, ?_, hnw, fun j hj => ?_, by simp⟩ ?_
    · have : ¬ j = n1 := fun e => hnw (e ▸ hj)
      simp [PT.get_put, this]
    · simp [PT.get_put, rowBo]
    · rcases List.mem_cons.1 hj with rfl | hj
      · simp
      · have := hown j hj
        simp; omega
    · intro st'
      simp [hkn, B6, undT, fnEnd, argsT, PT.get_put, keep, opRun, ev, evs, evO, give, giveI, binOf, isNilK, PM.flip, putT, putL, putH, loadOf, storeOf, cut, over, ofCells, asNat, natOr, calm, clashes, Acc.clash, ressOf, resOf, frz, frz.frzs, DV.flat, DV.flat.flats, imms]
  · have hj3 : ILt (m : Int) 3000 = False := ilt_f (by omega)
    simp (config := {contextual := true, maxSteps := 2000000}) [ok.s.scal, ok.p.scal, ok.g.scal, ok.r.scal, hm, hj3, B6, undT, fnEnd, argsT, PT.get_put, keep, opRun, ev, evs, evO, give, giveI, binOf, isNilK, PM.flip, putT, putL, putH, loadOf, storeOf, cut, over, ofCells, asNat, natOr, calm, clashes, Acc.clash, ressOf, resOf, frz, frz.frzs, DV.flat, DV.flat.flats, imms]
theorem pure_FieldTrains : ∀ cs, ArgsFit ss_FieldTrains cs → ∃ H' n', K (doorG 0 1) 30 7 cs .lf 0 0 = some (.imm (.bool true), H', n') := fun cs h => by
  obtain ⟨d, ds, rfl, h1, h2⟩ := fit_cons h
  obtain ⟨l, rfl, ok⟩ := lay_of h1
  obtain ⟨d1, r1, rfl, g1, h3⟩ := fit_cons h2
  obtain ⟨nv, rfl, hf⟩ := fit_s g1
  cases fit0 (r := []) h3
  obtain ⟨zs, hv, _, _⟩ := ints_of hf
  obtain ⟨v, H, n, e, rfl⟩ := run_FieldTrains ok hv
  exact ⟨H, n, e⟩
end Go.Proofs.YtbhmihigfncfgabDoor.D
