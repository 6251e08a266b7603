/-
  TableTells over D.
-/
import Derived.Test.YtbhmihigfncfgabDoorT4
import Derived.Test.YtbhmihigfncfgabDoorT8
set_option linter.unusedVariables false
set_option linter.unusedSimpArgs false
set_option maxHeartbeats 4000000
namespace Go.Proofs.YtbhmihigfncfgabDoor.D
open Go Go.PM
def ss_TableTells : List (Bool × List Kd) := [(true, kdL), (false, [.i .i64])]
theorem CF.symm {l : Lo} {r s : Nat} (h : CF l r s) : CF l s r := by
  rcases h with h | h | ⟨z, h1, h2⟩ | ⟨x, h1, h2⟩
  · exact .inl h.symm
  · exact .inr (.inl h.symm)
  · exact .inr (.inr (.inl ⟨z, h2, h1⟩))
  · exact .inr (.inr (.inr ⟨_, h2, by simpa using h1⟩))
theorem CF_comm {l : Lo} {r s : Nat} : dec (CF l s r) = dec (CF l r s) := dec_congr ⟨CF.symm, CF.symm⟩
def ITe (l : Lo) (z : Int) (st : St) : Prop := st.T.get 1 = some (.imm (.int .i64 z)) ∧ Box st 2 l.ivs
def IT1 (l : Lo) (z : Int) (r s : Nat) (st : St) : Prop := ITe l z st ∧ st.T.get 5 = some (.imm (.int .i64 r)) ∧ st.T.get 6 = some (.imm (.int .i64 s))
theorem loopT1 {l : Lo} (ok : LoOk l) (is : ISL l) {z : Int} {r : Nat} (hr : r < l.rts.length) {ks : List Kf} {st : St} {Q : Ex → St → Prop} (h : IT1 l z r 0 st) (hk : ∀ st', IT1 l z r l.rts.length st' → Bk DG (K DG 29) 0 (.exit 2) ks st' Q) :
    Wp DG (K DG 29) 0 D.l4_1 ks st Q := by
  refine dw_loop (N := l.rts.length) (small ok.lr) (IT1 l z r) (fun e st' => e = .exit 2 ∧ IT1 l z r l.rts.length st') (fun i st hle hI => ?_) h (fun e s' h => by rw [h.1]; exact hk s' h.2)
  obtain ⟨⟨h1, ⟨id, h2, hL⟩⟩, h5, h6⟩ := hI
  have lr := ok.lr
  have rl := ok.r.len
  simp only [List.length_map] at rl
  by_cases hi : i < l.rts.length
  · have hi' : (i : Int) < l.rts.length := by omega
    have hj' := ilt_t hi'
    have hw8 : IntKind.i64.wrap ((i : Int) + 1) = (i : Int) + 1 := wr_succ hi lr
    have c1 := Conflict_bl (D := 29) (by omega) ok is.few hr hi
    have c2 := Conflict4_bl (D := 29) (by omega) ok is.few hr hi
    have c3 := Conflict_bl (D := 29) (by omega) ok is.few hi hr
    rw [CF_comm] at c3
    generalize hQ : (fun (e : Ex) (s' : St) => _) = Q'
    simp only [D.l4_1b]
    simp [h1, h2, h5, h6, hL, hj', hw8, rl, c1, c2, c3, B6, undT, fnEnd, argsT, PT.get_put, keep, opRun, ev, evs, evO, give, giveI, binOf, isNilK, PM.flip, putT, putL, putH, loadOf, storeOf, cut, over, ofCells, asNat, natOr, calm, clashes, Acc.clash, ressOf, resOf, frz, frz.frzs, DV.flat, DV.flat.flats, imms]
    subst hQ
    exact .inl ⟨rfl, hi, ⟨by simp [PT.get_put], ⟨id, by simp [PT.get_put], by simp [PT.get_put, imms]⟩⟩, by simp [PT.get_put], by simp [PT.get_put]⟩
  · obtain rfl : i = l.rts.length := by omega
    generalize hQ : (fun (e : Ex) (s' : St) => _) = Q'
    simp only [D.l4_1b]
    simp [h1, h2, h5, h6, hL, rl, B6, undT, fnEnd, argsT, PT.get_put, keep, opRun, ev, evs, evO, give, giveI, binOf, isNilK, PM.flip, putT, putL, putH, loadOf, storeOf, cut, over, ofCells, asNat, natOr, calm, clashes, Acc.clash, ressOf, resOf, frz, frz.frzs, DV.flat, DV.flat.flats, imms]
    subst hQ
    exact .inr ⟨nofun, rfl, ⟨by simp [PT.get_put], ⟨id, by simp [PT.get_put, h2], by simp [PT.get_put, hL, imms]⟩⟩, by simp [PT.get_put], by simp [PT.get_put]⟩
def IT0 (l : Lo) (z : Int) (r : Nat) (st : St) : Prop := ITe l z st ∧ st.T.get 5 = some (.imm (.int .i64 r))
theorem loopT0 {l : Lo} (ok : LoOk l) (is : ISL l) {z : Int} {ks : List Kf} {st : St} {Q : Ex → St → Prop} (h : IT0 l z 0 st) (hk : ∀ st', ITe l z st' → Bk DG (K DG 29) 0 (.exit 0) ks st' Q) :
    Wp DG (K DG 29) 0 D.l4_0 ks st Q := by
  refine dw_loop (N := l.rts.length) (small ok.lr) (IT0 l z) (fun e st' => e = .exit 0 ∧ ITe l z st') (fun i st hle hI => ?_) h (fun e s' h => by rw [h.1]; exact hk s' h.2)
  obtain ⟨⟨h1, ⟨id, h2, hL⟩⟩, h5⟩ := hI
  have hrb := rb3
  have lr := ok.lr
  have rl := ok.r.len
  simp only [List.length_map] at rl
  by_cases hi : i < l.rts.length
  · have hi' : (i : Int) < l.rts.length := by omega
    have hj' := ilt_t hi'
    have hw8 : IntKind.i64.wrap ((i : Int) + 1) = (i : Int) + 1 := wr_succ hi lr
    have fw := is.few i hi
    obtain ⟨v, e1, hv⟩ := Needs_bl (D := 29) (by omega) ok hi fw.1 fw.2
    obtain ⟨w, e2, hw⟩ := Needs4_bl (D := 29) (by omega) ok hi fw.1 fw.2
    have e3 := needs_same (D := 29) (by omega) hv hw (by simp [nd]; omega)
    generalize hQ : (fun (e : Ex) (s' : St) => _) = Q'
    simp only [D.l4_0b]
    simp [h1, h2, h5, hL, hj', hw8, rl, e1, e2, e3, B6, undT, fnEnd, argsT, PT.get_put, keep, opRun, ev, evs, evO, give, giveI, binOf, isNilK, PM.flip, putT, putL, putH, loadOf, storeOf, cut, over, ofCells, asNat, natOr, calm, clashes, Acc.clash, ressOf, resOf, frz, frz.frzs, DV.flat, DV.flat.flats, imms]
    refine loopT1 (l := l) (z := z) ok is hi ⟨⟨by simp [PT.get_put], ⟨id, by simp [PT.get_put], by simp [PT.get_put, imms]⟩⟩, by simp [PT.get_put], by simp [PT.get_put]⟩ ?_
    rintro st' ⟨⟨g1, ⟨i2, g2, gL⟩⟩, g5, g6⟩
    simp [g1, g2, g5, gL, hw8, B6, undT, fnEnd, argsT, PT.get_put, keep, opRun, ev, evs, evO, give, giveI, binOf, isNilK, PM.flip, putT, putL, putH, loadOf, storeOf, cut, over, ofCells, asNat, natOr, calm, clashes, Acc.clash, ressOf, resOf, frz, frz.frzs, DV.flat, DV.flat.flats, imms]
    subst hQ
    exact .inl ⟨rfl, hi, ⟨by simp [PT.get_put, g1], ⟨i2, by simp [PT.get_put, g2], by simp [PT.get_put, gL, imms]⟩⟩, by simp [PT.get_put]⟩
  · obtain rfl : i = l.rts.length := by omega
    generalize hQ : (fun (e : Ex) (s' : St) => _) = Q'
    simp only [D.l4_0b]
    simp [h1, h2, h5, hL, rl, B6, undT, fnEnd, argsT, PT.get_put, keep, opRun, ev, evs, evO, give, giveI, binOf, isNilK, PM.flip, putT, putL, putH, loadOf, storeOf, cut, over, ofCells, asNat, natOr, calm, clashes, Acc.clash, ressOf, resOf, frz, frz.frzs, DV.flat, DV.flat.flats, imms]
    subst hQ
    exact .inr ⟨nofun, rfl, by simp [PT.get_put], ⟨id, by simp [PT.get_put, h2], by simp [PT.get_put, hL, imms]⟩⟩
def IT2 (l : Lo) (z : Int) (s : Nat) (st : St) : Prop := ITe l z st ∧ st.T.get 7 = some (.imm (.int .i64 s))
theorem loopT2 {l : Lo} (ok : LoOk l) (is : ISL l) {z : Int} {ks : List Kf} {st : St} {Q : Ex → St → Prop} (h : IT2 l z 0 st) (hk : ∀ st', ITe l z st' → Bk DG (K DG 29) 0 (.exit 4) ks st' Q) :
    Wp DG (K DG 29) 0 D.l4_2 ks st Q := by
  refine dw_loop (N := l.sigs.length) (small ok.lg) (IT2 l z) (fun e st' => e = .exit 4 ∧ ITe l z st') (fun i st hle hI => ?_) h (fun e s' h => by rw [h.1]; exact hk s' h.2)
  obtain ⟨⟨h1, ⟨id, h2, hL⟩⟩, h7⟩ := hI
  have hrb := rb3
  have lg := ok.lg
  have gl := ok.g.len
  simp only [List.length_map] at gl
  have r6 := is.r2
  by_cases hi : i < l.sigs.length
  · have hi' : (i : Int) < l.sigs.length := by omega
    have hj' := ilt_t hi'
    have hw8 : IntKind.i64.wrap ((i : Int) + 1) = (i : Int) + 1 := wr_succ hi lg
    obtain ⟨v, e1, hv⟩ := Entry_bl (D := 29) (by omega) ok (by omega) (i : Int)
    obtain ⟨w, e2, hw⟩ := Entry4_bl (D := 29) (by omega) ok (by omega) (i : Int)
    have e3 := ints_same (D := 29) (by omega) hv hw (by have := @en_len l (i : Int) l.rts.length; omega)
    generalize hQ : (fun (e : Ex) (s' : St) => _) = Q'
    simp only [D.l4_2b]
    simp [h1, h2, h7, hL, hj', hw8, gl, e1, e2, e3, B6, undT, fnEnd, argsT, PT.get_put, keep, opRun, ev, evs, evO, give, giveI, binOf, isNilK, PM.flip, putT, putL, putH, loadOf, storeOf, cut, over, ofCells, asNat, natOr, calm, clashes, Acc.clash, ressOf, resOf, frz, frz.frzs, DV.flat, DV.flat.flats, imms]
    subst hQ
    exact .inl ⟨rfl, hi, ⟨by simp [PT.get_put], ⟨id, by simp [PT.get_put], by simp [PT.get_put, imms]⟩⟩, by simp [PT.get_put]⟩
  · obtain rfl : i = l.sigs.length := by omega
    generalize hQ : (fun (e : Ex) (s' : St) => _) = Q'
    simp only [D.l4_2b]
    simp [h1, h2, h7, hL, gl, B6, undT, fnEnd, argsT, PT.get_put, keep, opRun, ev, evs, evO, give, giveI, binOf, isNilK, PM.flip, putT, putL, putH, loadOf, storeOf, cut, over, ofCells, asNat, natOr, calm, clashes, Acc.clash, ressOf, resOf, frz, frz.frzs, DV.flat, DV.flat.flats, imms]
    subst hQ
    exact .inr ⟨nofun, rfl, by simp [PT.get_put], ⟨id, by simp [PT.get_put, h2], by simp [PT.get_put, hL, imms]⟩⟩
theorem en_none {l : Lo} (is : ISL l) : en l (l.sigs.length : Int) l.rts.length = [] := by
  simp only [en, List.map_eq_nil_iff, List.filter_eq_nil_iff]
  intro r hr
  have := (is.rr r (List.mem_range.1 hr)).fr.2
  simp
  omega
theorem run_TableTells {l : Lo} (ok : LoOk l) (z : Int) : Fe (K DG 30 4 [l.dv, .imm (.int .i64 z)] .lf 0 0) (fun v _ _ => v = .imm (.bool true)) := by
  have hrb := rb3
  obtain ⟨m, hm, hs⟩ := size_bl (D := 29) (by omega) ok
  have hkn := known_bl
  rw [D.k4]
  refine fn_dw rfl ?_
  by_cases hm3 : m < 3000
  · have hj3 : ILt (m : Int) 3000 = True := ilt_t (by omega)
    have e2 := Is4_bl (D := 29) (by omega) ok (hs hm3).sm
    generalize hQ : Fin _ _ = Q
    simp (config := {contextual := true, maxSteps := 2000000}) [ok.s.scal, ok.p.scal, ok.g.scal, ok.r.scal, hm, hj3, e2, B6, undT, fnEnd, argsT, PT.get_put, keep, opRun, ev, evs, evO, give, giveI, binOf, isNilK, PM.flip, putT, putL, putH, loadOf, storeOf, cut, over, ofCells, asNat, natOr, calm, clashes, Acc.clash, ressOf, resOf, frz, frz.frzs, DV.flat, DV.flat.flats, imms]
    subst hQ
    refine ⟨fun is => ?_, fun _ => by simp [B6, undT, fnEnd, argsT, PT.get_put, keep, opRun, ev, evs, evO, give, giveI, binOf, isNilK, PM.flip, putT, putL, putH, loadOf, storeOf, cut, over, ofCells, asNat, natOr, calm, clashes, Acc.clash, ressOf, resOf, frz, frz.frzs, DV.flat, DV.flat.flats, imms]⟩
    refine loopT0 (l := l) (z := z) ok is ⟨⟨by simp [PT.get_put], ⟨0, by simp [PT.get_put], by simp [PT.get_put, imms]⟩⟩, by simp [PT.get_put]⟩ ?_
    rintro st' ⟨h1, ⟨id, h2, hL⟩⟩
    simp [h1, h2, hL, B6, undT, fnEnd, argsT, PT.get_put, keep, opRun, ev, evs, evO, give, giveI, binOf, isNilK, PM.flip, putT, putL, putH, loadOf, storeOf, cut, over, ofCells, asNat, natOr, calm, clashes, Acc.clash, ressOf, resOf, frz, frz.frzs, DV.flat, DV.flat.flats, imms]
    refine loopT2 (l := l) (z := z) ok is ⟨⟨by simp [PT.get_put, h1], ⟨id, by simp [PT.get_put, h2], by simp [PT.get_put, hL, imms]⟩⟩, by simp [PT.get_put]⟩ ?_
    rintro st2 ⟨g1, ⟨i2, g2, gL⟩⟩
    have gl := ok.g.len
    simp only [List.length_map] at gl
    have r6 := is.r2
    obtain ⟨v0, e0, hv0⟩ := Entry_bl (D := 29) (by omega) ok (by omega) (l.sigs.length : Int)
    rw [en_none is] at hv0
    have l0 := hv0.len
    simp only [List.map_nil, List.length_nil] at l0
    obtain ⟨v, e3, hv⟩ := Entry_bl (D := 29) (by omega) ok (by omega) z
    obtain ⟨w, e4, hw⟩ := Entry4_bl (D := 29) (by omega) ok (by omega) z
    have e5 := ints_same (D := 29) (by omega) hv hw (by have := @en_len l z l.rts.length; omega)
    simp [g1, g2, gL, gl, e0, l0, e3, e4, e5, hkn, B6, undT, fnEnd, argsT, PT.get_put, keep, opRun, ev, evs, evO, give, giveI, binOf, isNilK, PM.flip, putT, putL, putH, loadOf, storeOf, cut, over, ofCells, asNat, natOr, calm, clashes, Acc.clash, ressOf, resOf, frz, frz.frzs, DV.flat, DV.flat.flats, imms]
  · have hj3 : ILt (m : Int) 3000 = False := ilt_f (by omega)
    simp (config := {contextual := true, maxSteps := 2000000}) [ok.s.scal, ok.p.scal, ok.g.scal, ok.r.scal, hm, hj3, B6, undT, fnEnd, argsT, PT.get_put, keep, opRun, ev, evs, evO, give, giveI, binOf, isNilK, PM.flip, putT, putL, putH, loadOf, storeOf, cut, over, ofCells, asNat, natOr, calm, clashes, Acc.clash, ressOf, resOf, frz, frz.frzs, DV.flat, DV.flat.flats, imms]
theorem pure_TableTells : ∀ cs, ArgsFit ss_TableTells cs → ∃ H' n', K (doorG 0 1) 30 4 cs .lf 0 0 = some (.imm (.bool true), H', n') := fun cs h => by
  obtain ⟨d, ds, rfl, h1, h2⟩ := fit_cons h
  obtain ⟨l, rfl, ok⟩ := lay_of h1
  obtain ⟨d1, r1, rfl, g1, h3⟩ := fit_cons h2
  obtain ⟨z, rfl, _⟩ := fit_i g1
  cases fit0 (r := []) h3
  obtain ⟨v, H, n, e, rfl⟩ := run_TableTells ok z
  exact ⟨H, n, e⟩
end Go.Proofs.YtbhmihigfncfgabDoor.D
