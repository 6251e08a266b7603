/-
  The document's field: New. Over D.
-/
import Derived.Test.YtbhmihigfncfgabDoorFP3
set_option linter.unusedVariables false
set_option linter.unusedSimpArgs false
set_option maxHeartbeats 16000000
namespace Go.Proofs.YtbhmihigfncfgabDoor.D
open Go Go.PM Go.Lib
abbrev ln0 : List DV := [.imm (.int .i64 1)]
/-- The lies so far. -/
def LnAt (H : PT HB) (f : Nat) (vp : DV) (i : Nat) : Prop := (vp = .imm .nils ∧ i = 0) ∨ ∃ ip, 0 < i ∧ f < ip ∧ vp = .sl ip 0 i i ∧ H.get ip = some ⟨1, List.replicate i ln0⟩
structure IN6 (H0 : PT HB) (n0 : Nat) (l : Lo) (g y z io k N : Nat) (i : Nat) (st : St) : Prop where
  b1 : Box st 1 l.ivs
  h4 : st.T.get 4 = some (.ptr g 0 0)
  h5 : st.T.get 5 = some (.imm (.int .i64 i))
  h : ∃ vp, st.H.get g = some ⟨4, [[.sl io 0 k k, vp, .sl y 0 N N, .sl z 0 N N]]⟩ ∧ LnAt st.H io vp i ∧ ∀ ip r a c, vp = .sl ip r a c → ip < st.n
  hio : st.H.get io = some ⟨1, List.replicate k [.imm (.bool false)]⟩
  hy : st.H.get y = some ⟨1, List.replicate N [.imm (.int .i64 0)]⟩
  hz : st.H.get z = some ⟨1, List.replicate N [.imm (.int .i64 0)]⟩
  hn : io < st.n
  fr : ∀ j, j < n0 → st.H.get j = H0.get j
theorem loopN6 {d : Nat} {H0 : PT HB} {n0 : Nat} {l : Lo} (ok : LoOk l) {g y z io k : Nat} (h1 : n0 ≤ y) (h2 : y < z) (h3 : z < g) (h4 : g < io) (hN : l.pts.length ≤ 100) {ks : List Kf} {st : St} {Q : Ex → St → Prop} (h : IN6 H0 n0 l g y z io k l.pts.length 0 st)
    (hk : ∀ st', IN6 H0 n0 l g y z io k l.pts.length l.pts.length st' → Bk DG (K DG d) 0 (.exit 0) ks st' Q) : Wp DG (K DG d) 0 D.l30_0 ks st Q := by
  have hrb := rb3
  have pl := ok.p.len
  simp only [List.length_map] at pl
  refine dw_loop (N := l.pts.length) (small (by omega)) (IN6 H0 n0 l g y z io k l.pts.length) (fun e st' => e = .exit 0 ∧ IN6 H0 n0 l g y z io k l.pts.length l.pts.length st') (fun i st hle hI => ?_) h (fun e s' h => by rw [h.1]; exact hk s' h.2)
  obtain ⟨⟨i1, g1, L1⟩, g4, g5, ⟨vp, hg, hp, hlt⟩, hio, hy, hz, hn, hfr⟩ := hI
  by_cases hi : i < l.pts.length
  · have hi' : (i : Int) < l.pts.length := by omega
    have hj' := ilt_t hi'
    have hw8 : IntKind.i64.wrap ((i : Int) + 1) = (i : Int) + 1 := wr_succ hi (by omega)
    have e1 : ¬ g = st.n := by omega
    have e2 : ¬ io = st.n := by omega
    have e3 : ¬ g = st.n + 1 := by omega
    have e4 : ¬ io = st.n + 1 := by omega
    have e5 : ¬ io = g := by omega
    have y1 : ¬ y = st.n := by omega
    have y2 : ¬ y = st.n + 1 := by omega
    have y3 : ¬ y = g := by omega
    have z1 : ¬ z = st.n := by omega
    have z2 : ¬ z = st.n + 1 := by omega
    have z3 : ¬ z = g := by omega
    rcases hp with ⟨rfl, h0i⟩ | ⟨ip, hi0, hfi, rfl, hip⟩
    · have p1 := fun {h : Nat → Option HB} {n y : Nat} hy => app_h0 (s := 1) (bytes := 8) (h := h) (n := n) (y := y) (e := ln0) hy (by omega) (by omega)
      generalize hQ : (fun (e : Ex) (s' : St) => _) = Q'
      simp only [D.l30_0b]
      simp [g1, L1, g4, g5, hg, pl, hj', hw8, p1, e1, e3, imms, evParts, evParts2, lay, rowsN, B6, undT, fnEnd, argsT, PT.get_put, keep, opRun, ev, evs, evO, give, giveI, binOf, isNilK, PM.flip, putT, putL, putH, loadOf, storeOf, cut, over, ofCells, asNat, natOr, calm, clashes, Acc.clash, ressOf, resOf, frz, frz.frzs, DV.flat, DV.flat.flats, imms]
      subst hQ
      subst h0i
      refine .inl ⟨rfl, hi, ⟨⟨i1, by simp [PT.get_put], by simp [PT.get_put, imms]⟩, by simp [PT.get_put], by simp [PT.get_put], ⟨_, by simp [PT.get_put], .inr ⟨st.n + 1, by omega, by omega, rfl, ?_⟩, (fun ip r l c h => (by cases h; simp))⟩, by simp [PT.get_put, hio, e2, e4, e5], by simp [PT.get_put, hy, y1, y2, y3], by simp [PT.get_put, hz, z1, z2, z3], by simp; omega, fun j hlt => ?_⟩⟩
      · have : ¬ st.n + 1 = g := by omega
        simp [PT.get_put, this]
      · have a1 : ¬ j = g := by omega
        have a2 : ¬ j = st.n := by omega
        have a3 : ¬ j = st.n + 1 := by omega
        simp [PT.get_put, a1, a2, a3, hfr j hlt]
    · have hipn := hlt _ _ _ _ rfl
      have e6 : ¬ ip = st.n := by omega
      have e7 : ¬ st.n = ip := by omega
      have e8 : ¬ g = ip := by omega
      have e9 : ¬ io = ip := by omega
      have y4 : ¬ y = ip := by omega
      have z4 : ¬ z = ip := by omega
      have p1 := fun {h : Nat → Option HB} {n : Nat} hy hx => app_h1 (s := 1) (bytes := 8) (h := h) (n := n) (y := st.n) (id := ip) (e := ln0) (rows := List.replicate i ln0) hy hx e7 (by omega) (by omega) (by simp; omega)
      simp only [List.length_replicate] at p1
      generalize hQ : (fun (e : Ex) (s' : St) => _) = Q'
      simp only [D.l30_0b]
      simp [g1, L1, g4, g5, hg, hip, pl, hj', hw8, p1, e1, e3, e6, e8, imms, evParts, evParts2, lay, rowsN, B6, undT, fnEnd, argsT, PT.get_put, keep, opRun, ev, evs, evO, give, giveI, binOf, isNilK, PM.flip, putT, putL, putH, loadOf, storeOf, cut, over, ofCells, asNat, natOr, calm, clashes, Acc.clash, ressOf, resOf, frz, frz.frzs, DV.flat, DV.flat.flats, imms]
      subst hQ
      refine .inl ⟨rfl, hi, ⟨⟨i1, by simp [PT.get_put], by simp [PT.get_put, imms]⟩, by simp [PT.get_put], by simp [PT.get_put], ⟨_, by simp [PT.get_put], .inr ⟨st.n + 1, by omega, by omega, rfl, ?_⟩, (fun ip r l c h => (by cases h; simp))⟩, by simp [PT.get_put, hio, e2, e4, e5, e9], by simp [PT.get_put, hy, y1, y2, y3, y4], by simp [PT.get_put, hz, z1, z2, z3, z4], by simp; omega, fun j hlt => ?_⟩⟩
      · have : ¬ st.n + 1 = g := by omega
        simp [PT.get_put, this, List.replicate_succ']
      · have a1 : ¬ j = g := by omega
        have a2 : ¬ j = st.n := by omega
        have a3 : ¬ j = st.n + 1 := by omega
        have a4 : ¬ j = ip := by omega
        simp [PT.get_put, a1, a2, a3, a4, hfr j hlt]
  · obtain rfl : i = l.pts.length := by omega
    generalize hQ : (fun (e : Ex) (s' : St) => _) = Q'
    simp only [D.l30_0b]
    simp [g1, L1, g4, g5, pl, imms, B6, undT, fnEnd, argsT, PT.get_put, keep, opRun, ev, evs, evO, give, giveI, binOf, isNilK, PM.flip, putT, putL, putH, loadOf, storeOf, cut, over, ofCells, asNat, natOr, calm, clashes, Acc.clash, ressOf, resOf, frz, frz.frzs, DV.flat, DV.flat.flats, imms]
    subst hQ
    exact .inr ⟨nofun, rfl, ⟨⟨i1, by simp [PT.get_put, g1], by simp [PT.get_put, L1, imms]⟩, by simp [PT.get_put, g4], by simp [PT.get_put, g5], ⟨vp, hg, hp, hlt⟩, hio, hy, hz, hn, hfr⟩⟩
theorem New6_run {d : Nat} {l : Lo} (ok : LoOk l) (is : ISL l) (e4 : bl (K DG d) 17 [l.dv] = some (.imm (.bool true))) (H : PT HB) (n : Nat) :
    Fe (K DG (d + 1) 30 [l.dv] H n 0) (fun v H' n' => ∃ g o a b c, v = .tup [.ptr g 0 0, .imm (.int .i64 0)] ∧ X6 H' g o a b c (List.replicate l.secs.length false) (List.replicate l.pts.length ⟨1, 0, 0⟩) ∧
      (∀ i ∈ g :: (o ++ (a ++ (b ++ c))), n ≤ i ∧ i < n') ∧ ∀ j, j < n → H'.get j = H.get j) := by
  have sl := ok.s.len
  have pl := ok.p.len
  simp only [List.length_map] at sl pl
  have s1 := is.s1
  have s2 := is.s2
  have p2 := is.p2
  have a1 : l.secs.length ≤ appMax := by unfold appMax; omega
  have a2 : l.pts.length ≤ appMax := by unfold appMax; omega
  have a3 : l.pts.length * 8 ≤ appMax := by unfold appMax; omega
  rw [D.k30]
  refine fn_dw rfl ?_
  simp [ok.s.scal, ok.p.scal, ok.g.scal, ok.r.scal, e4, sl, pl, a1, a2, a3, evParts, lay, imms, B6, undT, fnEnd, argsT, PT.get_put, keep, opRun, ev, evs, evO, give, giveI, binOf, isNilK, PM.flip, putT, putL, putH, loadOf, storeOf, cut, over, ofCells, asNat, natOr, calm, clashes, Acc.clash, ressOf, resOf, frz, frz.frzs, DV.flat, DV.flat.flats, imms]
  refine loopN6 (H0 := H) (n0 := n) (g := n + 3) (y := n + 1) (z := n + 2) (io := n + 4) (k := l.secs.length) ok (by omega) (by omega) (by omega) (by omega) (by omega) ⟨⟨n, by simp [PT.get_put], by simp [PT.get_put, imms]⟩, by simp [PT.get_put], by simp [PT.get_put], ⟨_, by simp [PT.get_put], .inl ⟨rfl, rfl⟩, (fun _ _ _ _ h => (by cases h))⟩, by simp [PT.get_put], by simp [PT.get_put], by simp [PT.get_put], by simp, fun j hj => ?_⟩ ?_
  · have b1 : ¬ j = n + 1 := by omega
    have b2 : ¬ j = n + 2 := by omega
    have b3 : ¬ j = n + 3 := by omega
    have b4 : ¬ j = n + 4 := by omega
    simp [PT.get_put, b1, b2, b3, b4]
  rintro st' ⟨⟨i1, g1, L1⟩, g4, g5, ⟨vp, hg, hp, hlt⟩, hio, hy, hz, hn, hfr⟩
  simp [g4, B6, undT, fnEnd, argsT, PT.get_put, keep, opRun, ev, evs, evO, give, giveI, binOf, isNilK, PM.flip, putT, putL, putH, loadOf, storeOf, cut, over, ofCells, asNat, natOr, calm, clashes, Acc.clash, ressOf, resOf, frz, frz.frzs, DV.flat, DV.flat.flats, imms]
  have hso : SlV st'.H 1 (.sl (n + 4) 0 l.secs.length l.secs.length) ((List.replicate l.secs.length false).map rowBo) [n + 4] := by
    have h0 : (List.replicate l.secs.length false).map rowBo ≠ [] := fun e => by
      have := congrArg List.length e
      rw [List.length_map, List.length_replicate] at this
      exact absurd this (by show ¬ _ = 0; omega)
    have := SlV.sl (sz := 1) (H := st'.H) (id := n + 4) (rows := (List.replicate l.secs.length false).map rowBo) (by rw [hio]; simp [rowBo]) h0
    simpa using this
  have hry : Rw st'.H (.sl (n + 1) 0 l.pts.length l.pts.length) ((List.replicate l.pts.length (⟨1, 0, 0⟩ : FPt)).map rT) [n + 1] := .inr ⟨n + 1, rfl, by simp, by rw [hy]; simp [rT, rowI]⟩
  have hrz : Rw st'.H (.sl (n + 2) 0 l.pts.length l.pts.length) ((List.replicate l.pts.length (⟨1, 0, 0⟩ : FPt)).map rS) [n + 2] := .inr ⟨n + 2, rfl, by simp, by rw [hz]; simp [rS, rowI]⟩
  rcases hp with ⟨rfl, h0⟩ | ⟨ip, hi0, hfi, rfl, hip⟩
  · refine ⟨[n + 4], [], [n + 1], [n + 2], ⟨⟨_, _, _, _, hg, hso, ?_, hry, hrz⟩, by simp⟩, ?_, hfr⟩
    · rw [h0]; exact .nil
    · simp; omega
  · have hipn := hlt _ _ _ _ rfl
    refine ⟨[n + 4], [ip], [n + 1], [n + 2], ⟨⟨_, _, _, _, hg, hso, ?_, hry, hrz⟩, by simp; omega⟩, ?_, hfr⟩
    · have h0 : (List.replicate l.pts.length (⟨1, 0, 0⟩ : FPt)).map rL ≠ [] := fun e => by
        have := congrArg List.length e
        rw [List.length_map, List.length_replicate] at this
        exact absurd this (by show ¬ _ = 0; omega)
      have := SlV.sl (sz := 1) (H := st'.H) (id := ip) (rows := (List.replicate l.pts.length (⟨1, 0, 0⟩ : FPt)).map rL) (by rw [hip]; simp [rL, rowI]) h0
      simpa using this
    · simp; omega
end Go.Proofs.YtbhmihigfncfgabDoor.D
