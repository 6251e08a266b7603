/-
  TableShares over D.
-/
import Derived.Test.YtbhmihigfncfgaaDoorT4
import Derived.Test.YtbhmihigfncfgaaDoorT9
set_option linter.unusedVariables false
set_option linter.unusedSimpArgs false
set_option maxHeartbeats 16000000
namespace Go.Proofs.YtbhmihigfncfgaaDoor.D
open Go Go.PM Go.Lib
def ss_TableShares : List (Bool × List Kd) := [(false, [.sl [.i .i64]]), (false, [.sl [.i .i64]])]
/-- The last two bits of numbers, each once. -/
structure Uni (az : List Int) (i : Nat) (p : List Int) : Prop where
  rg : ∀ z ∈ p, 0 ≤ z ∧ z < 4
  nd : p.Nodup
  le : p.length ≤ i
  mem : ∀ z, z ∈ p ↔ ∃ j, j < i ∧ a3 (nth az j) = z
theorem Uni.zero {az : List Int} : Uni az 0 [] := ⟨fun z h => (by cases h), List.nodup_nil, Nat.le_refl _, fun z => by simp⟩
theorem Uni.old {az : List Int} {i : Nat} {p : List Int} (h : Uni az i p) (hm : a3 (nth az i) ∈ p) : Uni az (i + 1) p :=
  ⟨h.rg, h.nd, Nat.le_succ_of_le h.le, fun z => ⟨fun hz => by obtain ⟨j, hj, e⟩ := (h.mem z).1 hz; exact ⟨j, by omega, e⟩, fun ⟨j, hj, e⟩ => by
    rcases Nat.lt_or_eq_of_le (Nat.le_of_lt_succ hj) with hj | rfl
    · exact (h.mem z).2 ⟨j, hj, e⟩
    · exact e ▸ hm⟩⟩
theorem Uni.new {az : List Int} {i : Nat} {p : List Int} (h : Uni az i p) (hm : a3 (nth az i) ∉ p) : Uni az (i + 1) (p ++ [a3 (nth az i)]) := by
  refine ⟨fun z hz => ?_, ?_, by simp; exact h.le, fun z => ⟨fun hz => ?_, fun ⟨j, hj, e⟩ => ?_⟩⟩
  · rcases List.mem_append.1 hz with hz | hz
    · exact h.rg z hz
    · rw [List.mem_singleton.1 hz]; exact a3_in _
  · rw [List.nodup_append]
    exact ⟨h.nd, by simp, fun a ha b hb e => hm (by rw [List.mem_singleton.1 hb] at e; exact e ▸ ha)⟩
  · rcases List.mem_append.1 hz with hz | hz
    · obtain ⟨j, hj, e⟩ := (h.mem z).1 hz
      exact ⟨j, by omega, e⟩
    · exact ⟨i, by omega, (List.mem_singleton.1 hz).symm⟩
  · rcases Nat.lt_or_eq_of_le (Nat.le_of_lt_succ hj) with hj | rfl
    · exact List.mem_append_left _ ((h.mem z).2 ⟨j, hj, e⟩)
    · exact List.mem_append_right _ (by simp [e])
theorem nth_ix {α : Type} [Inhabited α] {xs : List α} {i : Nat} (h : i < xs.length) : nth xs i = xs[i] := by
  have := nth_get h
  rw [List.getElem?_eq_getElem h] at this
  exact (Option.some.inj this).symm
theorem CF.symm {l : Lo} {r s : Nat} (h : CF l r s) : CF l s r := by
  rcases h with h | h | ⟨z, h1, h2⟩ | ⟨x, h1, h2⟩
  · exact .inl h.symm
  · exact .inr (.inl h.symm)
  · exact .inr (.inr (.inl ⟨z, h2, h1⟩))
  · exact .inr (.inr (.inr ⟨_, h2, by simpa using h1⟩))
theorem Uni.pa {az : List Int} {i : Nat} {p : List Int} (h : Uni az i p) : PA 4 p := PA_nth.2 fun k hk => by
  have := h.rg _ (nth_mem hk)
  refine ⟨⟨this.1, by have := this.2; omega⟩, fun hm => ?_⟩
  obtain ⟨j, hj, e⟩ := List.mem_iff_getElem.1 hm
  rw [List.length_take] at hj
  rw [List.getElem_take, nth_ix hk] at e
  have hj2 : j < k := by omega
  exact List.pairwise_iff_getElem.1 h.nd j k (by omega) hk hj2 e
structure ISa (av bv : IV) (az : List Int) (i : Nat) (x : DV) (p : List Int) (st : St) : Prop where
  h0 : st.T.get 0 = some (.imm av)
  h1 : st.T.get 1 = some (.imm bv)
  h5 : st.T.get 5 = some x
  h6 : st.T.get 6 = some (.imm .nils)
  h7 : st.T.get 7 = some (.imm (.int .i64 i))
  at5 : AtS 1 x st.H st.n (p.map ivI)
  un : Uni az i p
theorem loopSa {av bv : IV} {az : List Int} (ha : Sl 1 av (az.map ivI)) (hl : az.length ≤ 4) {ks : List Kf} {st : St} {Q : Ex → St → Prop} (h : ∃ x p, ISa av bv az 0 x p st) (hk : ∀ st' x p, ISa av bv az az.length x p st' → Bk DG (K DG 29) 0 (.exit 0) ks st' Q) :
    Wp DG (K DG 29) 0 D.l4_0 ks st Q := by
  have hrb := rb3
  refine dw_loop (N := az.length) (small (by omega)) (fun i st => ∃ x p, ISa av bv az i x p st) (fun e st' => e = .exit 0 ∧ ∃ x p, ISa av bv az az.length x p st') (fun i st hle hI => ?_) h (fun e s' h => by obtain ⟨rfl, x, p, h⟩ := h; exact hk s' x p h)
  obtain ⟨x, p, h0, h1, h5, h6, h7, hat, un⟩ := hI
  have al := ha.len
  simp only [List.length_map] at al
  by_cases hi : i < az.length
  · have hi1 : (i : Int) < az.length := by omega
    have hi' := ilt_t hi1
    have hw8 : IntKind.i64.wrap ((i : Int) + 1) = (i : Int) + 1 := wr_succ hi (by omega)
    have ix := fun {h : Nat → Option HB} {n : Nat} => idx_sl (h := h) (n := n) ha (by omega) (k := .i64) (z := (i : Int)) (by omega) hi1
    obtain ⟨v, acc, sv, c⟩ := call_row2 hat
    have pl := un.le
    have k := @c (K DG 29) 16 _ 0 st.n _ (in_bl (D := 29) (by omega) sv (by omega) (a3 (nth az i)))
    by_cases hm : a3 (nth az i) ∈ p
    · rw [decide_eq_true hm] at k
      generalize hQ : (fun (e : Ex) (s' : St) => _) = Q'
      simp only [D.l4_0b]
      simp [h0, h1, h5, h6, h7, al, hi', hw8, ix, ivI, bd_and3, k, B6, undT, fnEnd, argsT, PT.get_put, keep, opRun, ev, evs, evO, give, giveI, binOf, isNilK, PM.flip, putT, putL, putH, loadOf, storeOf, cut, over, ofCells, asNat, natOr, calm, clashes, Acc.clash, ressOf, resOf, frz, frz.frzs, DV.flat, DV.flat.flats, imms]
      subst hQ
      exact .inl ⟨rfl, hi, x, p, by simp [PT.get_put], by simp [PT.get_put], by simp [PT.get_put], by simp [PT.get_put], by simp [PT.get_put], hat, un.old hm⟩
    · rw [decide_eq_false hm] at k
      obtain ⟨x', hw, acc', p1, p2, _⟩ := app_row2 (bytes := 8) hat (by omega) (by simp; omega) (by omega) (ivI (a3 (nth az i)))
      simp only [ivI] at p1
      generalize hQ : (fun (e : Ex) (s' : St) => _) = Q'
      simp only [D.l4_0b]
      simp [h0, h1, h5, h6, h7, al, hi', hw8, ix, ivI, bd_and3, k, p1, evParts, evParts2, lay, unImms, unImm, mapO, rowsN, B6, undT, fnEnd, argsT, PT.get_put, keep, opRun, ev, evs, evO, give, giveI, binOf, isNilK, PM.flip, putT, putL, putH, loadOf, storeOf, cut, over, ofCells, asNat, natOr, calm, clashes, Acc.clash, ressOf, resOf, frz, frz.frzs, DV.flat, DV.flat.flats, imms]
      subst hQ
      exact .inl ⟨rfl, hi, x', _, by simp [PT.get_put], by simp [PT.get_put], by simp [PT.get_put], by simp [PT.get_put], by simp [PT.get_put], by simpa using p2, un.new hm⟩
  · obtain rfl : i = az.length := by omega
    generalize hQ : (fun (e : Ex) (s' : St) => _) = Q'
    simp only [D.l4_0b]
    simp [h0, h1, h5, h6, h7, al, B6, undT, fnEnd, argsT, PT.get_put, keep, opRun, ev, evs, evO, give, giveI, binOf, isNilK, PM.flip, putT, putL, putH, loadOf, storeOf, cut, over, ofCells, asNat, natOr, calm, clashes, Acc.clash, ressOf, resOf, frz, frz.frzs, DV.flat, DV.flat.flats, imms]
    subst hQ
    exact .inr ⟨nofun, rfl, x, p, by simp [PT.get_put], by simp [PT.get_put], by simp [PT.get_put], by simp [PT.get_put], by simp [PT.get_put], hat, un⟩
structure ISb (bv : IV) (bz : List Int) (i : Nat) (x : DV) (p : List Int) (y : DV) (q : List Int) (st : St) : Prop where
  h1 : st.T.get 1 = some (.imm bv)
  h5 : st.T.get 5 = some x
  h6 : st.T.get 6 = some y
  h8 : st.T.get 8 = some (.imm (.bool (dec (∃ j, j < i ∧ a3 (nth bz j) ∈ p))))
  h9 : st.T.get 9 = some (.imm (.int .i64 i))
  at5 : AtS 1 x st.H st.n (p.map ivI)
  at6 : AtS 1 y st.H st.n (q.map ivI)
  dj : DJ x y
  un : Uni bz i q
theorem ex_succ {P : Nat → Prop} {i : Nat} : (∃ j, j < i + 1 ∧ P j) ↔ (∃ j, j < i ∧ P j) ∨ P i :=
  ⟨fun ⟨j, hj, h⟩ => by
    rcases Nat.lt_or_eq_of_le (Nat.le_of_lt_succ hj) with hj | rfl
    · exact .inl ⟨j, hj, h⟩
    · exact .inr h, fun h => h.elim (fun ⟨j, hj, h⟩ => ⟨j, by omega, h⟩) fun h => ⟨i, by omega, h⟩⟩
theorem loopSb {bv : IV} {bz : List Int} (hb : Sl 1 bv (bz.map ivI)) (hl : bz.length ≤ 4) {x : DV} {p : List Int} (hpl : p.length ≤ 4) {ks : List Kf} {st : St} {Q : Ex → St → Prop} (h : ∃ y q, ISb bv bz 0 x p y q st) (hk : ∀ st' y q, ISb bv bz bz.length x p y q st' → Bk DG (K DG 29) 0 (.exit 2) ks st' Q) :
    Wp DG (K DG 29) 0 D.l4_1 ks st Q := by
  have hrb := rb3
  refine dw_loop (N := bz.length) (small (by omega)) (fun i st => ∃ y q, ISb bv bz i x p y q st) (fun e st' => e = .exit 2 ∧ ∃ y q, ISb bv bz bz.length x p y q st') (fun i st hle hI => ?_) h (fun e s' h => by obtain ⟨rfl, y, q, h⟩ := h; exact hk s' y q h)
  obtain ⟨y, q, h1, h5, h6, h8, h9, hat, haty, dj, un⟩ := hI
  have bl' := hb.len
  simp only [List.length_map] at bl'
  by_cases hi : i < bz.length
  · have hi1 : (i : Int) < bz.length := by omega
    have hi' := ilt_t hi1
    have hw8 : IntKind.i64.wrap ((i : Int) + 1) = (i : Int) + 1 := wr_succ hi (by omega)
    have ix := fun {h : Nat → Option HB} {n : Nat} => idx_sl (h := h) (n := n) hb (by omega) (k := .i64) (z := (i : Int)) (by omega) hi1
    obtain ⟨v, acc, sv, c⟩ := call_row2 haty
    have ql := un.le
    have k := @c (K DG 29) 16 _ 0 st.n _ (in_bl (D := 29) (by omega) sv (by omega) (a3 (nth bz i)))
    have es : dec (∃ j, j < i + 1 ∧ a3 (nth bz j) ∈ p) = (dec (∃ j, j < i ∧ a3 (nth bz j) ∈ p) || decide (a3 (nth bz i) ∈ p)) := by
      rw [dec_congr (ex_succ (P := fun j => a3 (nth bz j) ∈ p))]
      by_cases h1 : ∃ j, j < i ∧ a3 (nth bz j) ∈ p
      · rw [dec_t h1, dec_t (.inl h1)]; rfl
      · rw [dec_f h1]
        by_cases h2 : a3 (nth bz i) ∈ p
        · rw [dec_t (.inr h2)]; simp [h2]
        · rw [dec_f fun h => h.elim h1 h2]; simp [h2]
    generalize hE : dec (∃ j, j < i ∧ a3 (nth bz j) ∈ p) = E at h8 es
    by_cases hm : a3 (nth bz i) ∈ q
    · rw [decide_eq_true hm] at k
      obtain ⟨v5, acc5, sv5, c5⟩ := call_row2 hat
      have k5 := @c5 (K DG 29) 16 _ 0 st.n _ (in_bl (D := 29) (by omega) sv5 (by omega) (a3 (nth bz i)))
      generalize hQ : (fun (e : Ex) (s' : St) => _) = Q'
      simp only [D.l4_1b]
      cases E
      · simp [h1, h5, h6, h8, h9, bl', hi', hw8, ix, ivI, bd_and3, k, k5, B6, undT, fnEnd, argsT, PT.get_put, keep, opRun, ev, evs, evO, give, giveI, binOf, isNilK, PM.flip, putT, putL, putH, loadOf, storeOf, cut, over, ofCells, asNat, natOr, calm, clashes, Acc.clash, ressOf, resOf, frz, frz.frzs, DV.flat, DV.flat.flats, imms]
        subst hQ
        exact .inl ⟨rfl, hi, y, q, by simp [PT.get_put], by simp [PT.get_put], by simp [PT.get_put], by simp [PT.get_put, es], by simp [PT.get_put], hat, haty, dj, un.old hm⟩
      · simp [h1, h5, h6, h8, h9, bl', hi', hw8, ix, ivI, bd_and3, k, k5, B6, undT, fnEnd, argsT, PT.get_put, keep, opRun, ev, evs, evO, give, giveI, binOf, isNilK, PM.flip, putT, putL, putH, loadOf, storeOf, cut, over, ofCells, asNat, natOr, calm, clashes, Acc.clash, ressOf, resOf, frz, frz.frzs, DV.flat, DV.flat.flats, imms]
        subst hQ
        exact .inl ⟨rfl, hi, y, q, by simp [PT.get_put], by simp [PT.get_put], by simp [PT.get_put], by simp [PT.get_put, es], by simp [PT.get_put], hat, haty, dj, un.old hm⟩
    · rw [decide_eq_false hm] at k
      obtain ⟨y', hw, acc', p1, p2, p3⟩ := app_row2 (bytes := 8) haty (by omega) (by simp; omega) (by omega) (ivI (a3 (nth bz i)))
      obtain ⟨r1, r2⟩ := p3 _ _ _ hat dj
      simp only [ivI] at p1
      obtain ⟨v5, acc5, sv5, c5⟩ := call_row2 r1
      have k5 := @c5 (K DG 29) 16 _ 0 (st.n + 1) _ (in_bl (D := 29) (by omega) sv5 (by omega) (a3 (nth bz i)))
      generalize hQ : (fun (e : Ex) (s' : St) => _) = Q'
      simp only [D.l4_1b]
      cases E
      · simp [h1, h5, h6, h8, h9, bl', hi', hw8, ix, ivI, bd_and3, k, k5, p1, evParts, evParts2, lay, unImms, unImm, mapO, rowsN, B6, undT, fnEnd, argsT, PT.get_put, keep, opRun, ev, evs, evO, give, giveI, binOf, isNilK, PM.flip, putT, putL, putH, loadOf, storeOf, cut, over, ofCells, asNat, natOr, calm, clashes, Acc.clash, ressOf, resOf, frz, frz.frzs, DV.flat, DV.flat.flats, imms]
        subst hQ
        exact .inl ⟨rfl, hi, y', _, by simp [PT.get_put], by simp [PT.get_put], by simp [PT.get_put], by simp [PT.get_put, es], by simp [PT.get_put], r1, by simpa using p2, r2, un.new hm⟩
      · simp [h1, h5, h6, h8, h9, bl', hi', hw8, ix, ivI, bd_and3, k, k5, p1, evParts, evParts2, lay, unImms, unImm, mapO, rowsN, B6, undT, fnEnd, argsT, PT.get_put, keep, opRun, ev, evs, evO, give, giveI, binOf, isNilK, PM.flip, putT, putL, putH, loadOf, storeOf, cut, over, ofCells, asNat, natOr, calm, clashes, Acc.clash, ressOf, resOf, frz, frz.frzs, DV.flat, DV.flat.flats, imms]
        subst hQ
        exact .inl ⟨rfl, hi, y', _, by simp [PT.get_put], by simp [PT.get_put], by simp [PT.get_put], by simp [PT.get_put, es], by simp [PT.get_put], r1, by simpa using p2, r2, un.new hm⟩
  · obtain rfl : i = bz.length := by omega
    generalize hQ : (fun (e : Ex) (s' : St) => _) = Q'
    simp only [D.l4_1b]
    simp [h1, h5, h6, h8, h9, bl', B6, undT, fnEnd, argsT, PT.get_put, keep, opRun, ev, evs, evO, give, giveI, binOf, isNilK, PM.flip, putT, putL, putH, loadOf, storeOf, cut, over, ofCells, asNat, natOr, calm, clashes, Acc.clash, ressOf, resOf, frz, frz.frzs, DV.flat, DV.flat.flats, imms]
    subst hQ
    exact .inr ⟨nofun, rfl, y, q, by simp [PT.get_put], by simp [PT.get_put], by simp [PT.get_put], by simp [PT.get_put], by simp [PT.get_put], hat, haty, dj, un⟩
theorem run_TableShares {av bv : IV} {az bz : List Int} (ha : Sl 1 av (az.map ivI)) (hb : Sl 1 bv (bz.map ivI)) : Fe (K DG 30 4 [.imm av, .imm bv] .lf 0 0) (fun v _ _ => v = .imm (.bool true)) := by
  have hrb := rb3
  have hkn := known_bl
  have al := ha.len
  have bl' := hb.len
  simp only [List.length_map] at al bl'
  rw [D.k4]
  refine fn_dw rfl ?_
  generalize hQ : Fin _ _ = Q
  simp (config := {contextual := true, maxSteps := 2000000}) [al, bl', B6, undT, fnEnd, argsT, PT.get_put, keep, opRun, ev, evs, evO, give, giveI, binOf, isNilK, PM.flip, putT, putL, putH, loadOf, storeOf, cut, over, ofCells, asNat, natOr, calm, clashes, Acc.clash, ressOf, resOf, frz, frz.frzs, DV.flat, DV.flat.flats, imms]
  subst hQ
  simp (config := {contextual := true}) [B6, undT, fnEnd, argsT, PT.get_put, keep, opRun, ev, evs, evO, give, giveI, binOf, isNilK, PM.flip, putT, putL, putH, loadOf, storeOf, cut, over, ofCells, asNat, natOr, calm, clashes, Acc.clash, ressOf, resOf, frz, frz.frzs, DV.flat, DV.flat.flats, imms]
  intro c1 c2 c3 c4
  have a1 : 1 ≤ az.length := by unfold ILt at c1; omega
  have a4 : az.length ≤ 4 := by unfold ILt at c2; omega
  have b1 : 1 ≤ bz.length := by unfold ILt at c3; omega
  have b4 : bz.length ≤ 4 := by unfold ILt at c4; omega
  refine loopSa (bv := bv) ha a4 ⟨_, [], by simp [PT.get_put], by simp [PT.get_put], by simp [PT.get_put], by simp [PT.get_put], by simp [PT.get_put], .inl ⟨rfl, rfl⟩, Uni.zero⟩ ?_
  rintro st' x p ⟨h0, h1, h5, h6, h7, hat, un⟩
  simp [h1, h5, h6, B6, undT, fnEnd, argsT, PT.get_put, keep, opRun, ev, evs, evO, give, giveI, binOf, isNilK, PM.flip, putT, putL, putH, loadOf, storeOf, cut, over, ofCells, asNat, natOr, calm, clashes, Acc.clash, ressOf, resOf, frz, frz.frzs, DV.flat, DV.flat.flats, imms]
  have d0 : dec (∃ j, j < 0 ∧ a3 (nth bz j) ∈ p) = false := dec_f fun ⟨j, hj, _⟩ => by omega
  refine loopSb hb b4 (x := x) (p := p) (by have := un.le; omega) ⟨_, [], by simp [PT.get_put, h1], by simp [PT.get_put, h5], by simp [PT.get_put, h6], by simp [PT.get_put, dec_false], by simp [PT.get_put], hat, .inl ⟨rfl, rfl⟩, DJ.nil, Uni.zero⟩ ?_
  rintro st2 y q ⟨g1, g5, g6, g8, g9, gat, gaty, dj, vn⟩
  obtain ⟨v, H1, n1, e1, vo, vc, ⟨cs, rfl, sc⟩, px, py, hpx, hpy, pu, sn⟩ := two_run (d := 28) gat gaty
  have p1 : 1 ≤ p.length := List.length_pos_iff.2 fun e => by
    have := (un.mem (a3 (nth az 0))).2 ⟨0, by omega, rfl⟩
    rw [e] at this; cases this
  have q1 : 1 ≤ q.length := List.length_pos_iff.2 fun e => by
    have := (vn.mem (a3 (nth bz 0))).2 ⟨0, by omega, rfl⟩
    rw [e] at this; cases this
  have pl := un.le
  have ql := vn.le
  have ok := two_ok hpx hpy (by omega) (by omega)
  have is := two_is (px := px) (py := py) un.pa vn.pa p1 (by omega) q1 (by omega)
  have k1 := Is_bl (D := 29) (by omega) ok
  rw [dec_t is] at k1
  have hsh : CF (loTwo px py p q) 0 1 ↔ ∃ j, j < bz.length ∧ a3 (nth bz j) ∈ p := by
    rw [two_cf]
    exact ⟨fun ⟨z, h1, h2⟩ => by obtain ⟨j, hj, e⟩ := (vn.mem z).1 h2; exact ⟨j, hj, e ▸ h1⟩, fun ⟨j, hj, h⟩ => ⟨_, h, (vn.mem _).2 ⟨j, hj, rfl⟩⟩⟩
  have k2 := Conflict_bl (D := 29) (by omega) ok is.few (r := 0) (s := 1) (by simp [loTwo]) (by simp [loTwo])
  have k3 := Conflict_bl (D := 29) (by omega) ok is.few (r := 1) (s := 0) (by simp [loTwo]) (by simp [loTwo])
  have sym : dec (CF (loTwo px py p q) 1 0) = dec (CF (loTwo px py p q) 0 1) := dec_congr ⟨CF.symm, CF.symm⟩
  rw [sym] at k3
  rw [dec_congr hsh] at k2 k3
  generalize dec (∃ j, j < bz.length ∧ a3 (nth bz j) ∈ p) = E at k2 k3 g8
  have sn2 : ∀ w, snap.snaps H1.get [.agg cs, .imm (.int .i64 w), .imm (.int .i64 (1 - w))] = some [(loTwo px py p q).dv, .imm (.int .i64 w), .imm (.int .i64 (1 - w))] := fun w => by
    simp only [snap.snaps] at sn ⊢
    cases hs : snap H1.get (.agg cs) with
    | none => rw [hs] at sn; cases sn
    | some u =>
      rw [hs] at sn
      simp only [Option.some.injEq, List.cons.injEq, and_true] at sn
      subst sn
      rfl
  have pu2 : ∀ w, DV.pure.pures [.agg cs, .imm (.int .i64 w), .imm (.int .i64 (1 - w))] = false := fun w => by
    simp only [pures_cons, pures_nil, Bool.and_true] at pu ⊢
    rw [pu]; rfl
  have m1 := fun m => call_snap (m := m) (lo := 0) pu sn k1
  have m2 := fun m => call_snap (m := m) (lo := 0) (pu2 0) (sn2 0) k2
  have m3 := fun m => call_snap (m := m) (lo := 0) (pu2 1) (sn2 1) k3
  have w0 : (1 : Int) - 0 = 1 := by decide
  have w1 : (1 : Int) - 1 = 0 := by decide
  rw [w0] at m2
  rw [w1] at m3
  simp only [cells_agg] at vc
  have ho2 : DV.out.outs [x, y] = true := by simp [outs_cons, outs_nil, gat.out, gaty.out]
  simp [outs_cons, outs_nil] at ho2
  match cs, vc with
  | [c0, c1, c2, c3], _ =>
    simp at sc
    cases E
    · simp [g5, g6, g8, e1, m1, m2, m3, hkn, ho2, sc, B6, undT, fnEnd, argsT, PT.get_put, keep, opRun, ev, evs, evO, give, giveI, binOf, isNilK, PM.flip, putT, putL, putH, loadOf, storeOf, cut, over, ofCells, asNat, natOr, calm, clashes, Acc.clash, ressOf, resOf, frz, frz.frzs, DV.flat, DV.flat.flats, imms]
    · simp [g5, g6, g8, e1, m1, m2, m3, hkn, ho2, sc, B6, undT, fnEnd, argsT, PT.get_put, keep, opRun, ev, evs, evO, give, giveI, binOf, isNilK, PM.flip, putT, putL, putH, loadOf, storeOf, cut, over, ofCells, asNat, natOr, calm, clashes, Acc.clash, ressOf, resOf, frz, frz.frzs, DV.flat, DV.flat.flats, imms]
theorem pure_TableShares : ∀ cs, ArgsFit ss_TableShares cs → ∃ H' n', K (doorG 0 1) 30 4 cs .lf 0 0 = some (.imm (.bool true), H', n') := fun cs h => by
  obtain ⟨d, ds, rfl, h1, h2⟩ := fit_cons h
  obtain ⟨av, rfl, hf⟩ := fit_s h1
  obtain ⟨d1, r1, rfl, g1, h3⟩ := fit_cons h2
  obtain ⟨bv, rfl, hg⟩ := fit_s g1
  cases fit0 (r := []) h3
  obtain ⟨az, ha, _, _⟩ := ints_of hf
  obtain ⟨bz, hb, _, _⟩ := ints_of hg
  obtain ⟨v, H, n, e, rfl⟩ := run_TableShares ha hb
  exact ⟨H, n, e⟩
end Go.Proofs.YtbhmihigfncfgaaDoor.D
