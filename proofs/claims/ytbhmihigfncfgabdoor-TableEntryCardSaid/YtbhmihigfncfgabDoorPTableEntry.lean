/-
  TableEntry over D.
-/
import Derived.Test.YtbhmihigfncfgabDoorT4
import Derived.Test.YtbhmihigfncfgabDoorT8
set_option linter.unusedVariables false
set_option linter.unusedSimpArgs false
set_option maxHeartbeats 4000000
namespace Go.Proofs.YtbhmihigfncfgabDoor.D
open Go Go.PM
def ss_TableEntry : List (Bool × List Kd) := [(true, kdL)]
theorem en_at {l : Lo} {s : Int} {n i : Nat} (h : i < (en l s n).length) : ∃ r : Nat, nth (en l s n) i = (r : Int) ∧ r < n ∧ (nth l.rts r).fr = s := by
  have := nth_mem h
  simp only [en, List.mem_map, List.mem_filter, List.mem_range, decide_eq_true_eq] at this
  obtain ⟨r, ⟨h1, h2⟩, h3⟩ := this
  exact ⟨r, h3.symm, h1, h2⟩
theorem en_up {l : Lo} {s : Int} {n : Nat} : (en l s n).Pairwise (· < ·) := by
  simp only [en, List.pairwise_map]
  refine List.Pairwise.imp ?_ (List.Pairwise.filter _ List.pairwise_lt_range)
  intro a b h
  omega
theorem nth_eq {α : Type} [Inhabited α] {xs : List α} {i : Nat} (h : i < xs.length) : nth xs i = xs[i] := by
  have := nth_get h
  rw [List.getElem?_eq_getElem h] at this
  exact (Option.some.inj this).symm
theorem en_rise {l : Lo} {s : Int} {n i : Nat} (h : i < (en l s n).length) (h0 : 0 < i) : nth (en l s n) (i - 1) < nth (en l s n) i := by
  rw [nth_eq h, nth_eq (show i - 1 < _ by omega)]
  exact List.pairwise_iff_getElem.1 en_up (i - 1) i (by omega) h (by omega)
def tot (l : Lo) (n : Nat) : Nat → Nat
  | 0 => 0
  | s + 1 => tot l n s + (en l (s : Int) n).length
theorem filter_split {α : Type} (p q r : α → Bool) : ∀ xs : List α, (∀ x ∈ xs, (r x = true ↔ p x = true ∨ q x = true) ∧ ¬ (p x = true ∧ q x = true)) → (xs.filter r).length = (xs.filter p).length + (xs.filter q).length
  | [], _ => rfl
  | x :: xs, h => by
    have ih := filter_split p q r xs fun y hy => h y (List.mem_cons_of_mem _ hy)
    obtain ⟨h1, h2⟩ := h x (List.mem_cons_self ..)
    cases hp : p x <;> cases hq : q x <;> cases hr : r x <;> simp [hp, hq, hr] at h1 h2 ⊢ <;> omega
theorem tot_eq {l : Lo} {n : Nat} (h : ∀ r, r < n → 0 ≤ (nth l.rts r).fr) : ∀ s : Nat, tot l n s = ((List.range n).filter fun r => decide ((nth l.rts r).fr < s)).length
  | 0 => by
    simp only [tot]
    symm
    rw [List.length_eq_zero_iff, List.filter_eq_nil_iff]
    intro r hr
    have := h r (List.mem_range.1 hr)
    simp; omega
  | s + 1 => by
    simp only [tot, tot_eq h s]
    symm
    have := filter_split (fun r => decide ((nth l.rts r).fr < s)) (fun r => decide ((nth l.rts r).fr = s)) (fun r => decide ((nth l.rts r).fr < ((s + 1 : Nat) : Int))) (List.range n) (fun r hr => by
      simp only [decide_eq_true_eq]
      omega)
    rw [this]
    simp [en]
theorem tot_all {l : Lo} (is : ISL l) : tot l l.rts.length l.sigs.length = l.rts.length := by
  rw [tot_eq fun r hr => (is.rr r hr).fr.1]
  rw [List.filter_eq_self.2 fun r hr => by
    have := (is.rr r (List.mem_range.1 hr)).fr.2
    simpa using this]
  simp
theorem tot_le {l : Lo} {n : Nat} : ∀ s, tot l n s ≤ s * n
  | 0 => by simp [tot]
  | s + 1 => by
    have := @tot_le l n s
    have h2 := @en_len l (s : Int) n
    simp only [tot, Nat.add_mul]
    omega
def IEn (l : Lo) (s t : Nat) (st : St) : Prop := Box st 1 l.ivs ∧ st.T.get 3 = some (.imm (.int .i64 t)) ∧ st.T.get 4 = some (.imm (.int .i64 s))
def IEv (l : Lo) (s t : Nat) (v : IV) (i : Nat) (st : St) : Prop := IEn l s t st ∧ st.T.get 5 = some (.imm v) ∧ st.T.get 6 = some (.imm (.int .i64 i))
theorem loopEn2 {l : Lo} (ok : LoOk l) (is : ISL l) {s t : Nat} {v : IV} (hv : Sl 1 v ((en l (s : Int) l.rts.length).map ivI)) {i : Nat} (hi : i < (en l (s : Int) l.rts.length).length) {ks : List Kf} {st : St} {Q : Ex → St → Prop}
    (h : IEv l s t v i st ∧ st.T.get 7 = some (.imm (.int .i64 (0 : Nat)))) (hk : ∀ st', IEv l s t v i st' → Bk DG (K DG 29) 0 (.exit 4) ks st' Q) :
    Wp DG (K DG 29) 0 D.l5_2 ks st Q := by
  have hrb := rb3
  have hle0 := @en_len l (s : Int) l.rts.length
  have r6 := is.r2
  refine dw_loop (N := (en l (s : Int) l.rts.length).length) (small (by omega)) (fun k st => IEv l s t v i st ∧ st.T.get 7 = some (.imm (.int .i64 k))) (fun e st' => e = .exit 4 ∧ IEv l s t v i st') (fun k st hle hI => ?_) h (fun e s' h => by rw [h.1]; exact hk s' h.2)
  obtain ⟨⟨⟨⟨id, h1, hL⟩, h3, h4⟩, h5, h6⟩, h7⟩ := hI
  have vl := hv.len
  simp only [List.length_map] at vl
  obtain ⟨r1, er1, hr1, hf1⟩ := en_at hi
  by_cases hk' : k < (en l (s : Int) l.rts.length).length
  · have hii : (i : Int) < (en l (s : Int) l.rts.length).length := by omega
    have hkk : (k : Int) < (en l (s : Int) l.rts.length).length := by omega
    have hj' := ilt_t hkk
    have hw8 : IntKind.i64.wrap ((k : Int) + 1) = (k : Int) + 1 := wr_succ hk' (by omega)
    have ix := fun {h : Nat → Option HB} {n : Nat} => idx_sl (h := h) (n := n) hv (by omega) (k := .i64) (z := (i : Int)) (by omega) hii
    have iy := fun {h : Nat → Option HB} {n : Nat} => idx_sl (h := h) (n := n) hv (by omega) (k := .i64) (z := (k : Int)) (by omega) hkk
    obtain ⟨r2, er2, hr2, hf2⟩ := en_at hk'
    have c := Conflict_bl (D := 29) (by omega) ok is.few hr1 hr2
    rw [dec_t (.inr (.inl (hf1.trans hf2.symm)))] at c
    generalize hQ : (fun (e : Ex) (s' : St) => _) = Q'
    simp only [D.l5_2b]
    simp [h1, h3, h4, h5, h6, h7, hL, vl, hj', hw8, ix, iy, er1, er2, c, ivI, B6, undT, fnEnd, argsT, PT.get_put, keep, opRun, ev, evs, evO, give, giveI, binOf, isNilK, PM.flip, putT, putL, putH, loadOf, storeOf, cut, over, ofCells, asNat, natOr, calm, clashes, Acc.clash, ressOf, resOf, frz, frz.frzs, DV.flat, DV.flat.flats, imms]
    subst hQ
    exact .inl ⟨rfl, hk', ⟨⟨⟨id, by simp [PT.get_put], by simp [PT.get_put, imms]⟩, by simp [PT.get_put], by simp [PT.get_put]⟩, by simp [PT.get_put], by simp [PT.get_put]⟩, by simp [PT.get_put]⟩
  · obtain rfl : k = (en l (s : Int) l.rts.length).length := by omega
    generalize hQ : (fun (e : Ex) (s' : St) => _) = Q'
    simp only [D.l5_2b]
    simp [h1, h3, h4, h5, h6, h7, hL, vl, B6, undT, fnEnd, argsT, PT.get_put, keep, opRun, ev, evs, evO, give, giveI, binOf, isNilK, PM.flip, putT, putL, putH, loadOf, storeOf, cut, over, ofCells, asNat, natOr, calm, clashes, Acc.clash, ressOf, resOf, frz, frz.frzs, DV.flat, DV.flat.flats, imms]
    subst hQ
    exact .inr ⟨nofun, rfl, ⟨⟨⟨id, by simp [PT.get_put, h1], by simp [PT.get_put, hL, imms]⟩, by simp [PT.get_put], by simp [PT.get_put]⟩, by simp [PT.get_put], by simp [PT.get_put]⟩⟩
theorem loopEn1 {l : Lo} (ok : LoOk l) (is : ISL l) {s t : Nat} {v : IV} (hv : Sl 1 v ((en l (s : Int) l.rts.length).map ivI)) {ks : List Kf} {st : St} {Q : Ex → St → Prop}
    (h : IEv l s t v 0 st) (hk : ∀ st', IEv l s t v (en l (s : Int) l.rts.length).length st' → Bk DG (K DG 29) 0 (.exit 2) ks st' Q) :
    Wp DG (K DG 29) 0 D.l5_1 ks st Q := by
  have hrb := rb3
  have hle0 := @en_len l (s : Int) l.rts.length
  have r6 := is.r2
  refine dw_loop (N := (en l (s : Int) l.rts.length).length) (small (by omega)) (IEv l s t v) (fun e st' => e = .exit 2 ∧ IEv l s t v (en l (s : Int) l.rts.length).length st') (fun i st hle hI => ?_) h (fun e s' h => by rw [h.1]; exact hk s' h.2)
  obtain ⟨⟨⟨id, h1, hL⟩, h3, h4⟩, h5, h6⟩ := hI
  have vl := hv.len
  have rl := ok.r.len
  simp only [List.length_map] at vl rl
  by_cases hi : i < (en l (s : Int) l.rts.length).length
  · have hii : (i : Int) < (en l (s : Int) l.rts.length).length := by omega
    have hj' := ilt_t hii
    have hw8 : IntKind.i64.wrap ((i : Int) + 1) = (i : Int) + 1 := wr_succ hi (by omega)
    have hw9 : IntKind.i64.wrap ((i : Int) - 1) = (i : Int) - 1 := wr_id (by omega) (by omega)
    have ix := fun {h : Nat → Option HB} {n : Nat} => idx_sl (h := h) (n := n) hv (by omega) (k := .i64) (z := (i : Int)) (by omega) hii
    obtain ⟨r, er, hr, hf⟩ := en_at hi
    have hrr : (r : Int) < l.rts.length := by omega
    have hrj := ilt_t hrr
    have iy := fun {h : Nat → Option HB} {n : Nat} => idx_sl (h := h) (n := n) ok.r (by omega) (k := .i64) (z := (r : Int)) (by omega) hrr
    by_cases i0 : i = 0
    · have hj0 : ILt 0 i = False := ilt_f (by omega)
      generalize hQ : (fun (e : Ex) (s' : St) => _) = Q'
      simp only [D.l5_1b]
      simp [h1, h3, h4, h5, h6, hL, vl, rl, hj', hj0, hrj, ix, iy, er, hf, ivI, ivRt, B6, undT, fnEnd, argsT, PT.get_put, keep, opRun, ev, evs, evO, give, giveI, binOf, isNilK, PM.flip, putT, putL, putH, loadOf, storeOf, cut, over, ofCells, asNat, natOr, calm, clashes, Acc.clash, ressOf, resOf, frz, frz.frzs, DV.flat, DV.flat.flats, imms]
      refine loopEn2 (l := l) (s := s) (t := t) ok is hv hi ⟨⟨⟨⟨id, by simp [PT.get_put, h1], by simp [PT.get_put, hL, imms]⟩, by simp [PT.get_put], by simp [PT.get_put]⟩, by simp [PT.get_put], by simp [PT.get_put]⟩, by simp [PT.get_put]⟩ ?_
      rintro st' ⟨⟨⟨j1, g1, gL⟩, g3, g4⟩, g5, g6⟩
      simp [g1, g3, g4, g5, g6, gL, hw8, B6, undT, fnEnd, argsT, PT.get_put, keep, opRun, ev, evs, evO, give, giveI, binOf, isNilK, PM.flip, putT, putL, putH, loadOf, storeOf, cut, over, ofCells, asNat, natOr, calm, clashes, Acc.clash, ressOf, resOf, frz, frz.frzs, DV.flat, DV.flat.flats, imms]
      subst hQ
      exact .inl ⟨rfl, hi, ⟨⟨j1, by simp [PT.get_put, g1], by simp [PT.get_put, gL, imms]⟩, by simp [PT.get_put, g3], by simp [PT.get_put, g4]⟩, by simp [PT.get_put, g5], by simp [PT.get_put]⟩
    · have hj0 : ILt 0 i = True := ilt_t (by omega)
      have ix2 := fun {h : Nat → Option HB} {n : Nat} => idx_sl (h := h) (n := n) hv (by omega) (k := .i64) (z := (i : Int) - 1) (by omega) (by omega)
      have e1 : ((i : Int) - 1).toNat = i - 1 := by omega
      have up := ilt_t (en_rise hi (by omega))
      rw [er] at up
      generalize hQ : (fun (e : Ex) (s' : St) => _) = Q'
      simp only [D.l5_1b]
      simp [h1, h3, h4, h5, h6, hL, vl, rl, hj', hj0, hrj, hw9, ix, ix2, e1, iy, er, hf, up, ivI, ivRt, B6, undT, fnEnd, argsT, PT.get_put, keep, opRun, ev, evs, evO, give, giveI, binOf, isNilK, PM.flip, putT, putL, putH, loadOf, storeOf, cut, over, ofCells, asNat, natOr, calm, clashes, Acc.clash, ressOf, resOf, frz, frz.frzs, DV.flat, DV.flat.flats, imms]
      refine loopEn2 (l := l) (s := s) (t := t) ok is hv hi ⟨⟨⟨⟨id, by simp [PT.get_put, h1], by simp [PT.get_put, hL, imms]⟩, by simp [PT.get_put], by simp [PT.get_put]⟩, by simp [PT.get_put], by simp [PT.get_put]⟩, by simp [PT.get_put]⟩ ?_
      rintro st' ⟨⟨⟨j1, g1, gL⟩, g3, g4⟩, g5, g6⟩
      simp [g1, g3, g4, g5, g6, gL, hw8, B6, undT, fnEnd, argsT, PT.get_put, keep, opRun, ev, evs, evO, give, giveI, binOf, isNilK, PM.flip, putT, putL, putH, loadOf, storeOf, cut, over, ofCells, asNat, natOr, calm, clashes, Acc.clash, ressOf, resOf, frz, frz.frzs, DV.flat, DV.flat.flats, imms]
      subst hQ
      exact .inl ⟨rfl, hi, ⟨⟨j1, by simp [PT.get_put, g1], by simp [PT.get_put, gL, imms]⟩, by simp [PT.get_put, g3], by simp [PT.get_put, g4]⟩, by simp [PT.get_put, g5], by simp [PT.get_put]⟩
  · obtain rfl : i = (en l (s : Int) l.rts.length).length := by omega
    generalize hQ : (fun (e : Ex) (s' : St) => _) = Q'
    simp only [D.l5_1b]
    simp [h1, h3, h4, h5, h6, hL, vl, B6, undT, fnEnd, argsT, PT.get_put, keep, opRun, ev, evs, evO, give, giveI, binOf, isNilK, PM.flip, putT, putL, putH, loadOf, storeOf, cut, over, ofCells, asNat, natOr, calm, clashes, Acc.clash, ressOf, resOf, frz, frz.frzs, DV.flat, DV.flat.flats, imms]
    subst hQ
    exact .inr ⟨nofun, rfl, ⟨⟨id, by simp [PT.get_put, h1], by simp [PT.get_put, hL, imms]⟩, by simp [PT.get_put], by simp [PT.get_put]⟩, by simp [PT.get_put], by simp [PT.get_put]⟩
theorem loopEn0 {l : Lo} (ok : LoOk l) (is : ISL l) {ks : List Kf} {st : St} {Q : Ex → St → Prop}
    (h : IEn l 0 (tot l l.rts.length 0) st) (hk : ∀ st', IEn l l.sigs.length (tot l l.rts.length l.sigs.length) st' → Bk DG (K DG 29) 0 (.exit 0) ks st' Q) :
    Wp DG (K DG 29) 0 D.l5_0 ks st Q := by
  have hrb := rb3
  have r6 := is.r2
  have g6 := is.g2
  refine dw_loop (N := l.sigs.length) (small ok.lg) (fun s st => IEn l s (tot l l.rts.length s) st) (fun e st' => e = .exit 0 ∧ IEn l l.sigs.length (tot l l.rts.length l.sigs.length) st') (fun i st hle hI => ?_) h (fun e s' h => by rw [h.1]; exact hk s' h.2)
  obtain ⟨⟨id, h1, hL⟩, h3, h4⟩ := hI
  have gl := ok.g.len
  simp only [List.length_map] at gl
  by_cases hi : i < l.sigs.length
  · have hii : (i : Int) < l.sigs.length := by omega
    have hj' := ilt_t hii
    have hw8 : IntKind.i64.wrap ((i : Int) + 1) = (i : Int) + 1 := wr_succ hi ok.lg
    obtain ⟨v, e1, hv⟩ := Entry_bl (D := 29) (by omega) ok (by omega) (i : Int)
    have vl := hv.len
    simp only [List.length_map] at vl
    have hle1 := @en_len l (i : Int) l.rts.length
    have hle2 := @tot_le l l.rts.length i
    have hle3 : i * l.rts.length ≤ 6 * 6 := Nat.mul_le_mul (by omega) r6
    have hws : IntKind.i64.wrap ((tot l l.rts.length i : Int) + ((en l (i : Int) l.rts.length).length : Int)) = (tot l l.rts.length (i + 1) : Int) := by
      rw [wr_id (by omega) (by omega)]; simp [tot]
    generalize hQ : (fun (e : Ex) (s' : St) => _) = Q'
    simp only [D.l5_0b]
    simp [h1, h3, h4, hL, gl, hj', e1, B6, undT, fnEnd, argsT, PT.get_put, keep, opRun, ev, evs, evO, give, giveI, binOf, isNilK, PM.flip, putT, putL, putH, loadOf, storeOf, cut, over, ofCells, asNat, natOr, calm, clashes, Acc.clash, ressOf, resOf, frz, frz.frzs, DV.flat, DV.flat.flats, imms]
    refine loopEn1 (l := l) (s := i) (t := tot l l.rts.length i) ok is hv ⟨⟨⟨id, by simp [PT.get_put, h1], by simp [PT.get_put, hL, imms]⟩, by simp [PT.get_put], by simp [PT.get_put]⟩, by simp [PT.get_put], by simp [PT.get_put]⟩ ?_
    rintro st' ⟨⟨⟨j1, g1, gL⟩, g3, g4⟩, g5, g6⟩
    simp [g1, g3, g4, g5, gL, vl, hw8, hws, B6, undT, fnEnd, argsT, PT.get_put, keep, opRun, ev, evs, evO, give, giveI, binOf, isNilK, PM.flip, putT, putL, putH, loadOf, storeOf, cut, over, ofCells, asNat, natOr, calm, clashes, Acc.clash, ressOf, resOf, frz, frz.frzs, DV.flat, DV.flat.flats, imms]
    subst hQ
    exact .inl ⟨rfl, hi, ⟨j1, by simp [PT.get_put, g1], by simp [PT.get_put, gL, imms]⟩, by simp [PT.get_put], by simp [PT.get_put]⟩
  · obtain rfl : i = l.sigs.length := by omega
    generalize hQ : (fun (e : Ex) (s' : St) => _) = Q'
    simp only [D.l5_0b]
    simp [h1, h3, h4, hL, gl, B6, undT, fnEnd, argsT, PT.get_put, keep, opRun, ev, evs, evO, give, giveI, binOf, isNilK, PM.flip, putT, putL, putH, loadOf, storeOf, cut, over, ofCells, asNat, natOr, calm, clashes, Acc.clash, ressOf, resOf, frz, frz.frzs, DV.flat, DV.flat.flats, imms]
    subst hQ
    exact .inr ⟨nofun, rfl, ⟨id, by simp [PT.get_put, h1], by simp [PT.get_put, hL, imms]⟩, by simp [PT.get_put], by simp [PT.get_put]⟩
theorem run_TableEntry {l : Lo} (ok : LoOk l) : Fe (K DG 30 5 [l.dv] .lf 0 0) (fun v _ _ => v = .imm (.bool true)) := by
  have hrb := rb3
  obtain ⟨m, hm, hs⟩ := size_bl (D := 29) (by omega) ok
  have hkn := known_bl
  rw [D.k5]
  refine fn_dw rfl ?_
  by_cases hm3 : m < 3000
  · have hj3 : ILt (m : Int) 3000 = True := ilt_t (by omega)
    have e2 := Is4_bl (D := 29) (by omega) ok (hs hm3).sm
    generalize hQ : Fin _ _ = Q
    simp (config := {contextual := true, maxSteps := 2000000}) [ok.s.scal, ok.p.scal, ok.g.scal, ok.r.scal, hm, hj3, e2, B6, undT, fnEnd, argsT, PT.get_put, keep, opRun, ev, evs, evO, give, giveI, binOf, isNilK, PM.flip, putT, putL, putH, loadOf, storeOf, cut, over, ofCells, asNat, natOr, calm, clashes, Acc.clash, ressOf, resOf, frz, frz.frzs, DV.flat, DV.flat.flats, imms]
    subst hQ
    refine ⟨fun is => ?_, fun _ => by simp [B6, undT, fnEnd, argsT, PT.get_put, keep, opRun, ev, evs, evO, give, giveI, binOf, isNilK, PM.flip, putT, putL, putH, loadOf, storeOf, cut, over, ofCells, asNat, natOr, calm, clashes, Acc.clash, ressOf, resOf, frz, frz.frzs, DV.flat, DV.flat.flats, imms]⟩
    refine loopEn0 (l := l) ok is ⟨⟨0, by simp [PT.get_put], by simp [PT.get_put, imms]⟩, by simp [PT.get_put, tot], by simp [PT.get_put]⟩ ?_
    rintro st' ⟨⟨id, h1, hL⟩, h3, h4⟩
    rw [tot_all is] at h3
    have rl := ok.r.len
    simp only [List.length_map] at rl
    simp [h1, h3, hL, rl, hkn, B6, undT, fnEnd, argsT, PT.get_put, keep, opRun, ev, evs, evO, give, giveI, binOf, isNilK, PM.flip, putT, putL, putH, loadOf, storeOf, cut, over, ofCells, asNat, natOr, calm, clashes, Acc.clash, ressOf, resOf, frz, frz.frzs, DV.flat, DV.flat.flats, imms]
  · have hj3 : ILt (m : Int) 3000 = False := ilt_f (by omega)
    simp (config := {contextual := true, maxSteps := 2000000}) [ok.s.scal, ok.p.scal, ok.g.scal, ok.r.scal, hm, hj3, B6, undT, fnEnd, argsT, PT.get_put, keep, opRun, ev, evs, evO, give, giveI, binOf, isNilK, PM.flip, putT, putL, putH, loadOf, storeOf, cut, over, ofCells, asNat, natOr, calm, clashes, Acc.clash, ressOf, resOf, frz, frz.frzs, DV.flat, DV.flat.flats, imms]
theorem pure_TableEntry : ∀ cs, ArgsFit ss_TableEntry cs → ∃ H' n', K (doorG 0 1) 30 5 cs .lf 0 0 = some (.imm (.bool true), H', n') := fun cs h => by
  obtain ⟨d, ds, rfl, h1, h2⟩ := fit_cons h
  obtain ⟨l, rfl, ok⟩ := lay_of h1
  cases fit0 (r := []) h2
  obtain ⟨v, H, n, e, rfl⟩ := run_TableEntry ok
  exact ⟨H, n, e⟩
end Go.Proofs.YtbhmihigfncfgabDoor.D
