/-
  How large a layout is, over D.
-/
import Derived.Test.YtlknjgmhfimhbacGreatDoorT2
set_option linter.unusedVariables false
set_option linter.unusedSimpArgs false
set_option maxHeartbeats 16000000
namespace Go.Proofs.YtlknjgmhfimhbacGreatDoor.D
open Go Go.PM Go.Lib
def Grow (st : St) (M : Nat) (P : Prop) : Prop := ∃ m : Nat, st.T.get 3 = some (.imm (.int .i64 m)) ∧ m ≤ M ∧ (m < 3000 → P)
def IZ (l : Lo) (k M : Nat) (P : Prop) (C : Nat → Prop) (i : Nat) (st : St) : Prop := Box st 1 l.ivs ∧ st.T.get k = some (.imm (.int .i64 i)) ∧ Grow st M (P ∧ ∀ j, j < i → C j)
def ZE (l : Lo) (M : Nat) (P : Prop) (st : St) : Prop := Box st 1 l.ivs ∧ Grow st M P
section
variable {d : Nat} {l : Lo} {M : Nat} {P : Prop} {ks : List Kf} {st : St} {Q : Ex → St → Prop}
theorem loopZ0 (ok : LoOk l) (hM : 3000 + reachBytes ≤ M) (hM2 : M ≤ 2 ^ 60) (h : IZ l 4 M P (fun j => (nth l.secs j).length ≤ 3000) 0 st)
    (hk : ∀ st', ZE l M (P ∧ ∀ x ∈ l.secs, x.length ≤ 3000) st' → Bk DG (K DG d) 0 (.exit 0) ks st' Q) :
    Wp DG (K DG d) 0 D.l8_0 ks st Q := by
  have hrb := rb3
  refine dw_loop (N := l.secs.length) (small ok.ls) (IZ l 4 M P (fun j => (nth l.secs j).length ≤ 3000)) (fun e st' => e = .exit 0 ∧ ZE l M (P ∧ ∀ x ∈ l.secs, x.length ≤ 3000) st')
    (fun i st hle hI => ?_) h (fun e s' h => by rw [h.1]; exact hk s' h.2)
  obtain ⟨⟨id, h1, hL⟩, h4, m, h3, hm, hP⟩ := hI
  have ls := ok.ls
  have sl := ok.s.len
  simp only [List.length_map] at sl
  by_cases hi : i < l.secs.length
  · have hi' : (i : Int) < l.secs.length := by omega
    have hj' := ilt_t hi'
    by_cases hm3 : m < 3000
    · have hj3 : ILt (m : Int) 3000 = True := ilt_t (by omega)
      have hw8 : IntKind.i64.wrap ((i : Int) + 1) = (i : Int) + 1 := wr_succ hi ls
      have hlen := ok.os _ (nth_mem hi)
      have hwm : IntKind.i64.wrap ((m : Int) + ((nth l.secs i).length : Int)) = ((m + (nth l.secs i).length : Nat) : Int) := by rw [wr_id (by omega) (by omega)]; omega
      have ix := fun {h : Nat → Option HB} {n : Nat} => idx_sl (h := h) (n := n) ok.s (by omega) (k := .i64) (z := (i : Int)) (by omega) hi'
      have yes : m + (nth l.secs i).length < 3000 → P ∧ ∀ j, j < i + 1 → (nth l.secs j).length ≤ 3000 := fun h => ⟨(hP hm3).1, fun j hj => by
        rcases Nat.lt_or_eq_of_le (Nat.le_of_lt_succ hj) with hj | rfl
        · exact (hP hm3).2 j hj
        · omega⟩
      generalize hQ : (fun (e : Ex) (s' : St) => _) = Q'
      simp only [D.l8_0b]
      simp (config := {contextual := true, maxSteps := 2000000}) [h1, h3, h4, hL, hj', hj3, hw8, hwm, ix, sl, ivS, B6, undT, fnEnd, argsT, PT.get_put, keep, opRun, ev, evs, evO, give, giveI, binOf, isNilK, PM.flip, putT, putL, putH, loadOf, storeOf, cut, over, ofCells, asNat, natOr, calm, clashes, Acc.clash, ressOf, resOf, frz, frz.frzs, DV.flat, DV.flat.flats, imms]
      subst hQ
      simp
      exact ⟨hi, ⟨id, by simp [PT.get_put], by simp [PT.get_put, imms]⟩, by simp [PT.get_put], m + (nth l.secs i).length, by simp [PT.get_put], by omega, yes⟩
    · have hj3 : ILt (m : Int) 3000 = False := ilt_f (by omega)
      generalize hQ : (fun (e : Ex) (s' : St) => _) = Q'
      simp only [D.l8_0b]
      simp (config := {contextual := true, maxSteps := 2000000}) [h1, h3, h4, hL, hj', hj3, sl, B6, undT, fnEnd, argsT, PT.get_put, keep, opRun, ev, evs, evO, give, giveI, binOf, isNilK, PM.flip, putT, putL, putH, loadOf, storeOf, cut, over, ofCells, asNat, natOr, calm, clashes, Acc.clash, ressOf, resOf, frz, frz.frzs, DV.flat, DV.flat.flats, imms]
      subst hQ
      simp
      exact ⟨⟨id, by simp [PT.get_put, h1], by simp [PT.get_put, hL, imms]⟩, m, by simp [PT.get_put, h3], hm, fun h => absurd h hm3⟩
  · obtain rfl : i = l.secs.length := by omega
    generalize hQ : (fun (e : Ex) (s' : St) => _) = Q'
    simp only [D.l8_0b]
    simp [h1, h3, h4, hL, sl, B6, undT, fnEnd, argsT, PT.get_put, keep, opRun, ev, evs, evO, give, giveI, binOf, isNilK, PM.flip, putT, putL, putH, loadOf, storeOf, cut, over, ofCells, asNat, natOr, calm, clashes, Acc.clash, ressOf, resOf, frz, frz.frzs, DV.flat, DV.flat.flats, imms]
    subst hQ
    simp
    exact ⟨⟨id, by simp [PT.get_put, h1], by simp [PT.get_put, hL, imms]⟩, m, by simp [PT.get_put, h3], hm, fun h => ⟨(hP h).1, fun x hx => by
      obtain ⟨j, hj, rfl⟩ := mem_nth hx
      exact (hP h).2 j hj⟩⟩
theorem loopZ1 (ok : LoOk l) (hM : 3000 + reachBytes ≤ M) (hM2 : M ≤ 2 ^ 60) (h : IZ l 5 M P (fun j => (nth l.pts j).name.length ≤ 3000) 0 st)
    (hk : ∀ st', ZE l M (P ∧ ∀ x ∈ l.pts, x.name.length ≤ 3000) st' → Bk DG (K DG d) 0 (.exit 2) ks st' Q) :
    Wp DG (K DG d) 0 D.l8_1 ks st Q := by
  have hrb := rb3
  refine dw_loop (N := l.pts.length) (small ok.lp) (IZ l 5 M P (fun j => (nth l.pts j).name.length ≤ 3000)) (fun e st' => e = .exit 2 ∧ ZE l M (P ∧ ∀ x ∈ l.pts, x.name.length ≤ 3000) st')
    (fun i st hle hI => ?_) h (fun e s' h => by rw [h.1]; exact hk s' h.2)
  obtain ⟨⟨id, h1, hL⟩, h4, m, h3, hm, hP⟩ := hI
  have ls := ok.lp
  have sl := ok.p.len
  simp only [List.length_map] at sl
  by_cases hi : i < l.pts.length
  · have hi' : (i : Int) < l.pts.length := by omega
    have hj' := ilt_t hi'
    by_cases hm3 : m < 3000
    · have hj3 : ILt (m : Int) 3000 = True := ilt_t (by omega)
      have hw8 : IntKind.i64.wrap ((i : Int) + 1) = (i : Int) + 1 := wr_succ hi ls
      have hlen := ok.op _ (nth_mem hi)
      have hwm : IntKind.i64.wrap ((m : Int) + ((nth l.pts i).name.length : Int)) = ((m + (nth l.pts i).name.length : Nat) : Int) := by rw [wr_id (by omega) (by omega)]; omega
      have ix := fun {h : Nat → Option HB} {n : Nat} => idx_sl (h := h) (n := n) ok.p (by omega) (k := .i64) (z := (i : Int)) (by omega) hi'
      have yes : m + (nth l.pts i).name.length < 3000 → P ∧ ∀ j, j < i + 1 → (nth l.pts j).name.length ≤ 3000 := fun h => ⟨(hP hm3).1, fun j hj => by
        rcases Nat.lt_or_eq_of_le (Nat.le_of_lt_succ hj) with hj | rfl
        · exact (hP hm3).2 j hj
        · omega⟩
      generalize hQ : (fun (e : Ex) (s' : St) => _) = Q'
      simp only [D.l8_1b]
      simp (config := {contextual := true, maxSteps := 2000000}) [h1, h3, h4, hL, hj', hj3, hw8, hwm, ix, sl, ivP, B6, undT, fnEnd, argsT, PT.get_put, keep, opRun, ev, evs, evO, give, giveI, binOf, isNilK, PM.flip, putT, putL, putH, loadOf, storeOf, cut, over, ofCells, asNat, natOr, calm, clashes, Acc.clash, ressOf, resOf, frz, frz.frzs, DV.flat, DV.flat.flats, imms]
      subst hQ
      simp
      exact ⟨hi, ⟨id, by simp [PT.get_put], by simp [PT.get_put, imms]⟩, by simp [PT.get_put], m + (nth l.pts i).name.length, by simp [PT.get_put], by omega, yes⟩
    · have hj3 : ILt (m : Int) 3000 = False := ilt_f (by omega)
      generalize hQ : (fun (e : Ex) (s' : St) => _) = Q'
      simp only [D.l8_1b]
      simp (config := {contextual := true, maxSteps := 2000000}) [h1, h3, h4, hL, hj', hj3, sl, B6, undT, fnEnd, argsT, PT.get_put, keep, opRun, ev, evs, evO, give, giveI, binOf, isNilK, PM.flip, putT, putL, putH, loadOf, storeOf, cut, over, ofCells, asNat, natOr, calm, clashes, Acc.clash, ressOf, resOf, frz, frz.frzs, DV.flat, DV.flat.flats, imms]
      subst hQ
      simp
      exact ⟨⟨id, by simp [PT.get_put, h1], by simp [PT.get_put, hL, imms]⟩, m, by simp [PT.get_put, h3], hm, fun h => absurd h hm3⟩
  · obtain rfl : i = l.pts.length := by omega
    generalize hQ : (fun (e : Ex) (s' : St) => _) = Q'
    simp only [D.l8_1b]
    simp [h1, h3, h4, hL, sl, B6, undT, fnEnd, argsT, PT.get_put, keep, opRun, ev, evs, evO, give, giveI, binOf, isNilK, PM.flip, putT, putL, putH, loadOf, storeOf, cut, over, ofCells, asNat, natOr, calm, clashes, Acc.clash, ressOf, resOf, frz, frz.frzs, DV.flat, DV.flat.flats, imms]
    subst hQ
    simp
    exact ⟨⟨id, by simp [PT.get_put, h1], by simp [PT.get_put, hL, imms]⟩, m, by simp [PT.get_put, h3], hm, fun h => ⟨(hP h).1, fun x hx => by
      obtain ⟨j, hj, rfl⟩ := mem_nth hx
      exact (hP h).2 j hj⟩⟩
theorem loopZ2 (ok : LoOk l) (hM : 3000 + reachBytes ≤ M) (hM2 : M ≤ 2 ^ 60) (h : IZ l 6 M P (fun j => (nth l.sigs j).length ≤ 3000) 0 st)
    (hk : ∀ st', ZE l M (P ∧ ∀ x ∈ l.sigs, x.length ≤ 3000) st' → Bk DG (K DG d) 0 (.exit 4) ks st' Q) :
    Wp DG (K DG d) 0 D.l8_2 ks st Q := by
  have hrb := rb3
  refine dw_loop (N := l.sigs.length) (small ok.lg) (IZ l 6 M P (fun j => (nth l.sigs j).length ≤ 3000)) (fun e st' => e = .exit 4 ∧ ZE l M (P ∧ ∀ x ∈ l.sigs, x.length ≤ 3000) st')
    (fun i st hle hI => ?_) h (fun e s' h => by rw [h.1]; exact hk s' h.2)
  obtain ⟨⟨id, h1, hL⟩, h4, m, h3, hm, hP⟩ := hI
  have ls := ok.lg
  have sl := ok.g.len
  simp only [List.length_map] at sl
  by_cases hi : i < l.sigs.length
  · have hi' : (i : Int) < l.sigs.length := by omega
    have hj' := ilt_t hi'
    by_cases hm3 : m < 3000
    · have hj3 : ILt (m : Int) 3000 = True := ilt_t (by omega)
      have hw8 : IntKind.i64.wrap ((i : Int) + 1) = (i : Int) + 1 := wr_succ hi ls
      have hlen := ok.og _ (nth_mem hi)
      have hwm : IntKind.i64.wrap ((m : Int) + ((nth l.sigs i).length : Int)) = ((m + (nth l.sigs i).length : Nat) : Int) := by rw [wr_id (by omega) (by omega)]; omega
      have ix := fun {h : Nat → Option HB} {n : Nat} => idx_sl (h := h) (n := n) ok.g (by omega) (k := .i64) (z := (i : Int)) (by omega) hi'
      have yes : m + (nth l.sigs i).length < 3000 → P ∧ ∀ j, j < i + 1 → (nth l.sigs j).length ≤ 3000 := fun h => ⟨(hP hm3).1, fun j hj => by
        rcases Nat.lt_or_eq_of_le (Nat.le_of_lt_succ hj) with hj | rfl
        · exact (hP hm3).2 j hj
        · omega⟩
      generalize hQ : (fun (e : Ex) (s' : St) => _) = Q'
      simp only [D.l8_2b]
      simp (config := {contextual := true, maxSteps := 2000000}) [h1, h3, h4, hL, hj', hj3, hw8, hwm, ix, sl, ivS, B6, undT, fnEnd, argsT, PT.get_put, keep, opRun, ev, evs, evO, give, giveI, binOf, isNilK, PM.flip, putT, putL, putH, loadOf, storeOf, cut, over, ofCells, asNat, natOr, calm, clashes, Acc.clash, ressOf, resOf, frz, frz.frzs, DV.flat, DV.flat.flats, imms]
      subst hQ
      simp
      exact ⟨hi, ⟨id, by simp [PT.get_put], by simp [PT.get_put, imms]⟩, by simp [PT.get_put], m + (nth l.sigs i).length, by simp [PT.get_put], by omega, yes⟩
    · have hj3 : ILt (m : Int) 3000 = False := ilt_f (by omega)
      generalize hQ : (fun (e : Ex) (s' : St) => _) = Q'
      simp only [D.l8_2b]
      simp (config := {contextual := true, maxSteps := 2000000}) [h1, h3, h4, hL, hj', hj3, sl, B6, undT, fnEnd, argsT, PT.get_put, keep, opRun, ev, evs, evO, give, giveI, binOf, isNilK, PM.flip, putT, putL, putH, loadOf, storeOf, cut, over, ofCells, asNat, natOr, calm, clashes, Acc.clash, ressOf, resOf, frz, frz.frzs, DV.flat, DV.flat.flats, imms]
      subst hQ
      simp
      exact ⟨⟨id, by simp [PT.get_put, h1], by simp [PT.get_put, hL, imms]⟩, m, by simp [PT.get_put, h3], hm, fun h => absurd h hm3⟩
  · obtain rfl : i = l.sigs.length := by omega
    generalize hQ : (fun (e : Ex) (s' : St) => _) = Q'
    simp only [D.l8_2b]
    simp [h1, h3, h4, hL, sl, B6, undT, fnEnd, argsT, PT.get_put, keep, opRun, ev, evs, evO, give, giveI, binOf, isNilK, PM.flip, putT, putL, putH, loadOf, storeOf, cut, over, ofCells, asNat, natOr, calm, clashes, Acc.clash, ressOf, resOf, frz, frz.frzs, DV.flat, DV.flat.flats, imms]
    subst hQ
    simp
    exact ⟨⟨id, by simp [PT.get_put, h1], by simp [PT.get_put, hL, imms]⟩, m, by simp [PT.get_put, h3], hm, fun h => ⟨(hP h).1, fun x hx => by
      obtain ⟨j, hj, rfl⟩ := mem_nth hx
      exact (hP h).2 j hj⟩⟩
theorem loopZ3 (ok : LoOk l) (hM : 3000 + 4 * reachBytes ≤ M) (hM2 : M ≤ 2 ^ 60) (h : IZ l 7 M P (fun j => (nth l.rts j).name.length ≤ 3000) 0 st)
    (hk : ∀ st', ZE l M (P ∧ ∀ x ∈ l.rts, x.name.length ≤ 3000) st' → Bk DG (K DG d) 0 (.exit 6) ks st' Q) :
    Wp DG (K DG d) 0 D.l8_3 ks st Q := by
  have hrb := rb3
  refine dw_loop (N := l.rts.length) (small ok.lr) (IZ l 7 M P (fun j => (nth l.rts j).name.length ≤ 3000)) (fun e st' => e = .exit 6 ∧ ZE l M (P ∧ ∀ x ∈ l.rts, x.name.length ≤ 3000) st')
    (fun i st hle hI => ?_) h (fun e s' h => by rw [h.1]; exact hk s' h.2)
  obtain ⟨⟨id, h1, hL⟩, h4, m, h3, hm, hP⟩ := hI
  have ls := ok.lr
  have sl := ok.r.len
  simp only [List.length_map] at sl
  by_cases hi : i < l.rts.length
  · have hi' : (i : Int) < l.rts.length := by omega
    have hj' := ilt_t hi'
    by_cases hm3 : m < 3000
    · have hj3 : ILt (m : Int) 3000 = True := ilt_t (by omega)
      have hw8 : IntKind.i64.wrap ((i : Int) + 1) = (i : Int) + 1 := wr_succ hi ls
      have rk := ok.or _ (nth_mem hi)
      have r1 := rk.ln
      have r2 := rk.lp
      have r3 := rk.lq
      have r4 := rk.lf
      have v2 := rk.p.len
      have v3 := rk.q.len
      have v4 := rk.f.len
      simp only [List.length_map] at v2 v3 v4
      have hwm1 : IntKind.i64.wrap ((m : Int) + ((nth l.rts i).name.length : Int)) = ((m + (nth l.rts i).name.length : Nat) : Int) := by rw [wr_id (by omega) (by omega)]; omega
      have hwm2 : IntKind.i64.wrap (((m + (nth l.rts i).name.length : Nat) : Int) + ((nth l.rts i).path.length : Int)) = ((m + (nth l.rts i).name.length + (nth l.rts i).path.length : Nat) : Int) := by rw [wr_id (by omega) (by omega)]; omega
      have hwm3 : IntKind.i64.wrap (((m + (nth l.rts i).name.length + (nth l.rts i).path.length : Nat) : Int) + ((nth l.rts i).pts.length : Int)) = ((m + (nth l.rts i).name.length + (nth l.rts i).path.length + (nth l.rts i).pts.length : Nat) : Int) := by rw [wr_id (by omega) (by omega)]; omega
      have hwm4 : IntKind.i64.wrap (((m + (nth l.rts i).name.length + (nth l.rts i).path.length + (nth l.rts i).pts.length : Nat) : Int) + ((nth l.rts i).flk.length : Int)) = ((m + (nth l.rts i).name.length + (nth l.rts i).path.length + (nth l.rts i).pts.length + (nth l.rts i).flk.length : Nat) : Int) := by rw [wr_id (by omega) (by omega)]; omega
      have ix := fun {h : Nat → Option HB} {n : Nat} => idx_sl (h := h) (n := n) ok.r (by omega) (k := .i64) (z := (i : Int)) (by omega) hi'
      generalize hm2 : m + (nth l.rts i).name.length = m2 at hwm1 hwm2 hwm3 hwm4
      generalize hm3' : m2 + (nth l.rts i).path.length = m3 at hwm2 hwm3 hwm4
      generalize hm4 : m3 + (nth l.rts i).pts.length = m4 at hwm3 hwm4
      generalize hm5 : m4 + (nth l.rts i).flk.length = m5 at hwm4
      have yes : m5 < 3000 → P ∧ ∀ j, j < i + 1 → (nth l.rts j).name.length ≤ 3000 := fun h => ⟨(hP hm3).1, fun j hj => by
        rcases Nat.lt_or_eq_of_le (Nat.le_of_lt_succ hj) with hj | rfl
        · exact (hP hm3).2 j hj
        · omega⟩
      generalize hQ : (fun (e : Ex) (s' : St) => _) = Q'
      simp only [D.l8_3b]
      simp (config := {contextual := true, maxSteps := 2000000}) [h1, h3, h4, hL, hj', hj3, hw8, hwm1, hwm2, hwm3, hwm4, v2, v3, v4, rk.p.scal, rk.q.scal, rk.f.scal, ix, sl, ivRt, B6, undT, fnEnd, argsT, PT.get_put, keep, opRun, ev, evs, evO, give, giveI, binOf, isNilK, PM.flip, putT, putL, putH, loadOf, storeOf, cut, over, ofCells, asNat, natOr, calm, clashes, Acc.clash, ressOf, resOf, frz, frz.frzs, DV.flat, DV.flat.flats, imms]
      subst hQ
      simp
      exact ⟨hi, ⟨id, by simp [PT.get_put], by simp [PT.get_put, imms]⟩, by simp [PT.get_put], m5, by simp [PT.get_put], by omega, yes⟩
    · have hj3 : ILt (m : Int) 3000 = False := ilt_f (by omega)
      generalize hQ : (fun (e : Ex) (s' : St) => _) = Q'
      simp only [D.l8_3b]
      simp (config := {contextual := true, maxSteps := 2000000}) [h1, h3, h4, hL, hj', hj3, sl, B6, undT, fnEnd, argsT, PT.get_put, keep, opRun, ev, evs, evO, give, giveI, binOf, isNilK, PM.flip, putT, putL, putH, loadOf, storeOf, cut, over, ofCells, asNat, natOr, calm, clashes, Acc.clash, ressOf, resOf, frz, frz.frzs, DV.flat, DV.flat.flats, imms]
      subst hQ
      simp
      exact ⟨⟨id, by simp [PT.get_put, h1], by simp [PT.get_put, hL, imms]⟩, m, by simp [PT.get_put, h3], hm, fun h => absurd h hm3⟩
  · obtain rfl : i = l.rts.length := by omega
    generalize hQ : (fun (e : Ex) (s' : St) => _) = Q'
    simp only [D.l8_3b]
    simp [h1, h3, h4, hL, sl, B6, undT, fnEnd, argsT, PT.get_put, keep, opRun, ev, evs, evO, give, giveI, binOf, isNilK, PM.flip, putT, putL, putH, loadOf, storeOf, cut, over, ofCells, asNat, natOr, calm, clashes, Acc.clash, ressOf, resOf, frz, frz.frzs, DV.flat, DV.flat.flats, imms]
    subst hQ
    simp
    exact ⟨⟨id, by simp [PT.get_put, h1], by simp [PT.get_put, hL, imms]⟩, m, by simp [PT.get_put, h3], hm, fun h => ⟨(hP h).1, fun x hx => by
      obtain ⟨j, hj, rfl⟩ := mem_nth hx
      exact (hP h).2 j hj⟩⟩
end
/-- What has a size below the bound is small. -/
structure LoSz (l : Lo) : Prop where
  ls : l.secs.length < 3000
  lp : l.pts.length < 3000
  lg : l.sigs.length < 3000
  lr : l.rts.length < 3000
  s : ∀ x ∈ l.secs, x.length ≤ 3000
  p : ∀ x ∈ l.pts, x.name.length ≤ 3000
  g : ∀ x ∈ l.sigs, x.length ≤ 3000
  r : ∀ x ∈ l.rts, x.name.length ≤ 3000
theorem LoSz.sm {l : Lo} (h : LoSz l) : LoSm l := ⟨fun x hx => by have := h.s x hx; omega, fun x hx => by have := h.p x hx; omega, fun x hx => by have := h.g x hx; omega, fun x hx => by have := h.r x hx; omega⟩
theorem size_bl {D : Nat} (hD : 1 ≤ D) {l : Lo} (ok : LoOk l) :
    ∃ m : Nat, bl (K DG D) 8 [l.dv] = some (.imm (.int .i64 m)) ∧ (m < 3000 → LoSz l) := by
  have hrb := rb3
  obtain ⟨d, rfl⟩ : ∃ d, D = d + 1 := ⟨D - 1, by omega⟩
  have key : Fe (K DG (d + 1) 8 [l.dv] .lf 0 0) (fun v _ _ => ∃ m : Nat, v = .imm (.int .i64 m) ∧ (m < 3000 → LoSz l)) := by
    rw [D.k8]
    refine fn_dw rfl ?_
    have sl := ok.s.len
    have gl := ok.g.len
    have pl := ok.p.len
    have rl := ok.r.len
    simp only [List.length_map] at sl gl pl rl
    have ls := ok.ls
    have lp := ok.lp
    have lg := ok.lg
    have lr := ok.lr
    have w1 : IntKind.i64.wrap ((l.secs.length : Int) + (l.pts.length : Int)) = ((l.secs.length + l.pts.length : Nat) : Int) := by rw [wr_id (by omega) (by omega)]; omega
    have w2 : IntKind.i64.wrap (((l.secs.length + l.pts.length : Nat) : Int) + (l.sigs.length : Int)) = ((l.secs.length + l.pts.length + l.sigs.length : Nat) : Int) := by rw [wr_id (by omega) (by omega)]; omega
    have w3 : IntKind.i64.wrap (((l.secs.length + l.pts.length + l.sigs.length : Nat) : Int) + (l.rts.length : Int)) = ((l.secs.length + l.pts.length + l.sigs.length + l.rts.length : Nat) : Int) := by rw [wr_id (by omega) (by omega)]; omega
    generalize h2 : l.secs.length + l.pts.length = m2 at w1 w2 w3
    generalize h3 : m2 + l.sigs.length = m3 at w2 w3
    generalize h4 : m3 + l.rts.length = m4 at w3
    simp (config := {maxSteps := 2000000}) [ok.s.scal, ok.p.scal, ok.g.scal, ok.r.scal, sl, gl, pl, rl, w1, w2, w3, B6, undT, fnEnd, argsT, PT.get_put, keep, opRun, ev, evs, evO, give, giveI, binOf, isNilK, PM.flip, putT, putL, putH, loadOf, storeOf, cut, over, ofCells, asNat, natOr, calm, clashes, Acc.clash, ressOf, resOf, frz, frz.frzs, DV.flat, DV.flat.flats, imms]
    refine loopZ0 (l := l) (M := 8 * reachBytes) (P := l.secs.length < 3000 ∧ l.pts.length < 3000 ∧ l.sigs.length < 3000 ∧ l.rts.length < 3000) ok (by omega) (by omega) ⟨⟨0, by simp [PT.get_put], by simp [PT.get_put, imms]⟩, by simp [PT.get_put], m4, by simp [PT.get_put], by omega, fun h => ⟨by omega, fun j hj => by omega⟩⟩ ?_
    rintro st1 ⟨⟨i1, b1, b2⟩, m1, b3, b4, b5⟩
    simp [b1, b2, b3, B6, undT, fnEnd, argsT, PT.get_put, keep, opRun, ev, evs, evO, give, giveI, binOf, isNilK, PM.flip, putT, putL, putH, loadOf, storeOf, cut, over, ofCells, asNat, natOr, calm, clashes, Acc.clash, ressOf, resOf, frz, frz.frzs, DV.flat, DV.flat.flats, imms]
    refine loopZ1 (l := l) (M := 8 * reachBytes) ok (by omega) (by omega) ⟨⟨i1, by simp [PT.get_put, b1], by simp [PT.get_put, b2, imms]⟩, by simp [PT.get_put], m1, by simp [PT.get_put, b3], b4, fun h => ⟨b5 h, fun j hj => by omega⟩⟩ ?_
    rintro st2 ⟨⟨i2, c1, c2⟩, m5, c3, c4, c5⟩
    simp [c1, c2, c3, B6, undT, fnEnd, argsT, PT.get_put, keep, opRun, ev, evs, evO, give, giveI, binOf, isNilK, PM.flip, putT, putL, putH, loadOf, storeOf, cut, over, ofCells, asNat, natOr, calm, clashes, Acc.clash, ressOf, resOf, frz, frz.frzs, DV.flat, DV.flat.flats, imms]
    refine loopZ2 (l := l) (M := 8 * reachBytes) ok (by omega) (by omega) ⟨⟨i2, by simp [PT.get_put, c1], by simp [PT.get_put, c2, imms]⟩, by simp [PT.get_put], m5, by simp [PT.get_put, c3], c4, fun h => ⟨c5 h, fun j hj => by omega⟩⟩ ?_
    rintro st3 ⟨⟨i3, e1, e2⟩, m6, e3, e4, e5⟩
    simp [e1, e2, e3, B6, undT, fnEnd, argsT, PT.get_put, keep, opRun, ev, evs, evO, give, giveI, binOf, isNilK, PM.flip, putT, putL, putH, loadOf, storeOf, cut, over, ofCells, asNat, natOr, calm, clashes, Acc.clash, ressOf, resOf, frz, frz.frzs, DV.flat, DV.flat.flats, imms]
    refine loopZ3 (l := l) (M := 8 * reachBytes) ok (by omega) (by omega) ⟨⟨i3, by simp [PT.get_put, e1], by simp [PT.get_put, e2, imms]⟩, by simp [PT.get_put], m6, by simp [PT.get_put, e3], e4, fun h => ⟨e5 h, fun j hj => by omega⟩⟩ ?_
    rintro st4 ⟨⟨i4, f1, f2⟩, m7, f3, f4, f5⟩
    simp [f1, f2, f3, B6, undT, fnEnd, argsT, PT.get_put, keep, opRun, ev, evs, evO, give, giveI, binOf, isNilK, PM.flip, putT, putL, putH, loadOf, storeOf, cut, over, ofCells, asNat, natOr, calm, clashes, Acc.clash, ressOf, resOf, frz, frz.frzs, DV.flat, DV.flat.flats, imms]
    refine ⟨m7, rfl, fun h => ?_⟩
    obtain ⟨⟨⟨⟨g0, g1⟩, g2⟩, g3⟩, g4⟩ := f5 h
    exact ⟨g0.1, g0.2.1, g0.2.2.1, g0.2.2.2, g1, g2, g3, g4⟩
  obtain ⟨v, H, n, e, m, rfl, hm⟩ := key
  exact ⟨m, bl_imm e, hm⟩
end Go.Proofs.YtlknjgmhfimhbacGreatDoor.D
