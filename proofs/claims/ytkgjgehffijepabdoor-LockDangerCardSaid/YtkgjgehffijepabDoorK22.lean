/-
  isState, Set: how all routes stand is taken, if it may be. Any act keeps what the Lock keeps. Over D.
-/
import Derived.Test.YtkgjgehffijepabDoorK21
set_option linter.unusedVariables false
set_option linter.unusedSimpArgs false
set_option maxHeartbeats 16000000
namespace Go.Proofs.YtkgjgehffijepabDoor.D
open Go Go.PM Go.Lib
theorem eqSt_rs {a b c a' b' c' : Int} {e e' : Bool} : eqSt [.i, .i, .i, .b] [.imm (.int .i64 a), .imm (.int .i64 b), .imm (.int .i64 c), .imm (.bool e)] [.imm (.int .i64 a'), .imm (.int .i64 b'), .imm (.int .i64 c'), .imm (.bool e')] = some (dec ((⟨a, b, c, e⟩ : Rst) = ⟨a', b', c', e'⟩)) := by
  have : ((⟨a, b, c, e⟩ : Rst) = ⟨a', b', c', e'⟩) ↔ ((a == a') && ((b == b') && ((c == c') && ((e == e') && true)))) = true := by simp [Rst.mk.injEq]
  rw [dec_congr this]
  simp only [eqSt, eqSc, if_true]
  cases h : ((a == a') && ((b == b') && ((c == c') && ((e == e') && true)))) with
  | true => rw [dec_t rfl]
  | false => rw [dec_f nofun]
theorem isState_run {d : Nat} {H : PT HB} {p : Nat} {own : List Nat} {l : Lo} {rs : List Rst} (ok : LoOk l) (is : ISL l) (lk : LkAt H p own l rs) {r : Nat} (hr : r < l.rts.length) (x : Rst) {n lo : Nat} :
    ∃ n', K DG (d + 1) 41 [.ptr p 0 0, .imm (.int .i64 r), .agg (rowRS x)] H n lo = some (.imm (.bool (dec (RsOk l r x))), H, n') ∧ n ≤ n' := by
  obtain ⟨y, h1, h2, h3, h4⟩ := lk
  have rk := ok.or _ (nth_mem hr)
  have pl := rk.p.len
  simp only [List.length_map] at pl
  have p5 := is.p5 r hr
  have p1 := (is.rr r hr).p1
  have hr1 : (r : Int) < l.rts.length := by omega
  have ix := fun {h : Nat → Option HB} {n : Nat} => idx_sl (h := h) (n := n) ok.r (by omega) (k := .i64) (z := (r : Int)) (by omega) hr1
  have hw : IntKind.i64.wrap (((nth l.rts r).path.length : Int) - 1) = ((nth l.rts r).path.length : Int) - 1 := wr_id (by omega) (by omega)
  simp only [Int.toNat_natCast] at ix
  obtain ⟨m, t, g, s⟩ := x
  have key : Fe (K DG (d + 1) 41 [.ptr p 0 0, .imm (.int .i64 r), .agg (rowRS ⟨m, t, g, s⟩)] H n lo) (fun v H' n' => v = .imm (.bool (dec (RsOk l r ⟨m, t, g, s⟩))) ∧ H' = H ∧ n ≤ n') := by
    rw [D.k41]
    refine fn_dw rfl ?_
    by_cases m0 : m = 0
    · subst m0
      have e : RsOk l r ⟨0, t, g, s⟩ ↔ (⟨0, t, g, s⟩ : Rst) = ⟨0, 0, 0, false⟩ := by
        rw [Rst.mk.injEq]
        exact ⟨fun h => ⟨rfl, h.tz (by simp) (by simp), h.gz (by simp)⟩, fun ⟨_, h1, h2, h3⟩ => by subst h1; subst h2; subst h3; exact RsOk.idle⟩
      rw [dec_congr e]
      simp [h1, eqSt_rs, evParts, lay, B6, undT, fnEnd, argsT, PT.get_put, keep, opRun, ev, evs, evO, give, giveI, binOf, isNilK, PM.flip, putT, putL, putH, loadOf, storeOf, cut, over, ofCells, asNat, natOr, calm, clashes, Acc.clash, ressOf, resOf, frz, frz.frzs, DV.flat, DV.flat.flats, imms]
      omega
    by_cases m2 : m = 2
    · subst m2
      have e : RsOk l r ⟨2, t, g, s⟩ ↔ (⟨2, t, g, s⟩ : Rst) = ⟨2, 0, 0, false⟩ := by
        rw [Rst.mk.injEq]
        exact ⟨fun h => ⟨rfl, h.tz (by simp) (by simp), h.gz (by simp)⟩, fun ⟨_, h1, h2, h3⟩ => by subst h1; subst h2; subst h3; exact ⟨by simp, by simp, by simp, by simp, by simp, by simp, by simp⟩⟩
      rw [dec_congr e]
      simp [h1, eqSt_rs, evParts, lay, B6, undT, fnEnd, argsT, PT.get_put, keep, opRun, ev, evs, evO, give, giveI, binOf, isNilK, PM.flip, putT, putL, putH, loadOf, storeOf, cut, over, ofCells, asNat, natOr, calm, clashes, Acc.clash, ressOf, resOf, frz, frz.frzs, DV.flat, DV.flat.flats, imms]
      omega
    by_cases m1 : m = 1
    · subst m1
      generalize hz : (if 8 < (if t < 0 then 0 else t) then 8 else (if t < 0 then 0 else t)) = z
      have e : RsOk l r ⟨1, t, g, s⟩ ↔ (⟨1, t, g, s⟩ : Rst) = ⟨1, z, 0, false⟩ := by
        rw [Rst.mk.injEq]
        refine ⟨fun h => ⟨rfl, ?_, h.gz (by simp)⟩, fun ⟨_, h1, h2, h3⟩ => ?_⟩
        · have a1 := h.t0
          have a2 := h.t8 rfl
          simp only at a1 a2
          subst hz
          repeat' split
          all_goals omega
        · subst h2; subst h3
          have hb : 0 ≤ t ∧ t ≤ 8 := by
            subst hz
            revert h1
            repeat' split
            all_goals omega
          exact ⟨by simp, by simp <;> omega, by simp <;> omega, by simp <;> omega, by simp, by simp, by simp⟩
      rw [dec_congr e]
      simp [h1, eqSt_rs, evParts, lay, B6, undT, fnEnd, argsT, PT.get_put, keep, opRun, ev, evs, evO, give, giveI, binOf, isNilK, PM.flip, putT, putL, putH, loadOf, storeOf, cut, over, ofCells, asNat, natOr, calm, clashes, Acc.clash, ressOf, resOf, frz, frz.frzs, DV.flat, DV.flat.flats, imms]
      subst hz
      exact ⟨rfl, by omega⟩
    by_cases m4 : m = 4
    · subst m4
      generalize hz : (if 5 < (if t < 0 then 0 else t) then 5 else (if t < 0 then 0 else t)) = z
      have e : RsOk l r ⟨4, t, g, s⟩ ↔ (⟨4, t, g, s⟩ : Rst) = ⟨4, z, 0, false⟩ := by
        rw [Rst.mk.injEq]
        refine ⟨fun h => ⟨rfl, ?_, h.gz (by simp)⟩, fun ⟨_, h1, h2, h3⟩ => ?_⟩
        · have a1 := h.t0
          have a2 := h.t6 rfl
          simp only at a1 a2
          subst hz
          repeat' split
          all_goals omega
        · subst h2; subst h3
          have hb : 0 ≤ t ∧ t ≤ 5 := by
            subst hz
            revert h1
            repeat' split
            all_goals omega
          exact ⟨by simp, by simp <;> omega, by simp <;> omega, by simp <;> omega, by simp, by simp, by simp⟩
      rw [dec_congr e]
      simp [h1, eqSt_rs, evParts, lay, B6, undT, fnEnd, argsT, PT.get_put, keep, opRun, ev, evs, evO, give, giveI, binOf, isNilK, PM.flip, putT, putL, putH, loadOf, storeOf, cut, over, ofCells, asNat, natOr, calm, clashes, Acc.clash, ressOf, resOf, frz, frz.frzs, DV.flat, DV.flat.flats, imms]
      subst hz
      exact ⟨rfl, by omega⟩
    by_cases m3 : m = 3
    · subst m3
      generalize hz : (if ((nth l.rts r).path.length : Int) - 1 < (if g < 0 then 0 else g) then ((nth l.rts r).path.length : Int) - 1 else (if g < 0 then 0 else g)) = z
      have e : RsOk l r ⟨3, t, g, s⟩ ↔ (⟨3, t, g, s⟩ : Rst) = ⟨3, 0, z, s⟩ := by
        rw [Rst.mk.injEq]
        refine ⟨fun h => ⟨rfl, h.tz (by simp) (by simp), ?_, rfl⟩, fun ⟨_, h1, h2, h3⟩ => ?_⟩
        · have a1 := h.g3 rfl
          simp only at a1
          subst hz
          repeat' split
          all_goals omega
        · subst h1
          have hb : 0 ≤ g ∧ g < (nth l.rts r).path.length := by
            subst hz
            revert h2
            repeat' split
            all_goals omega
          exact ⟨by simp, by simp, by simp, by simp, by simp, fun _ => hb, by simp⟩
      rw [dec_congr e]
      simp [h1, ix, pl, hw, ivRt, eqSt_rs, evParts, lay, B6, undT, fnEnd, argsT, PT.get_put, keep, opRun, ev, evs, evO, give, giveI, binOf, isNilK, PM.flip, putT, putL, putH, loadOf, storeOf, cut, over, ofCells, asNat, natOr, calm, clashes, Acc.clash, ressOf, resOf, frz, frz.frzs, DV.flat, DV.flat.flats, imms]
      subst hz
      exact ⟨rfl, by omega⟩
    · have e : ¬ RsOk l r ⟨m, t, g, s⟩ := fun h => by have := h.md; simp only at this; omega
      rw [dec_f e]
      simp [h1, m0, m1, m2, m3, m4, eqSt_rs, evParts, lay, B6, undT, fnEnd, argsT, PT.get_put, keep, opRun, ev, evs, evO, give, giveI, binOf, isNilK, PM.flip, putT, putL, putH, loadOf, storeOf, cut, over, ofCells, asNat, natOr, calm, clashes, Acc.clash, ressOf, resOf, frz, frz.frzs, DV.flat, DV.flat.flats, imms]
      omega
  obtain ⟨v, H', n', e, rfl, rfl, hn⟩ := key
  exact ⟨n', e, hn⟩
/-! ### Set -/
/-- Two routes that may not both stand. -/
def Bad (l : Lo) (qs : List Rst) (i s : Nat) : Prop := (nth qs i).mode ≠ 0 ∧ (nth qs s).mode ≠ 0 ∧ CF l i s
structure IQ1 (p : Nat) (w : IV) (H : PT HB) (n0 i k : Nat) (x : Rst) (j : Nat) (st : St) : Prop where
  h0 : st.T.get 0 = some (.ptr p 0 0)
  h1 : st.T.get 1 = some (.imm w)
  h5 : st.T.get 5 = some (.imm (.int .i64 i))
  b6 : BoxD st 6 (rowRS x)
  h21 : st.T.get 21 = some (.imm w)
  h22 : st.T.get 22 = some (.imm (.int .i64 k))
  h23 : st.T.get 23 = some (.imm (.int .i64 i))
  h35 : st.T.get 35 = some (.imm (takeV w i))
  h36 : st.T.get 36 = some (.imm (.int .i64 i))
  h37 : st.T.get 37 = some (.imm (.int .i64 j))
  hH : st.H = H
  hn : n0 ≤ st.n
theorem nth_take {α : Type} [Inhabited α] {xs : List α} {i j : Nat} (h : j < i) : nth (xs.take i) j = nth xs j := by simp [nth, List.getD, List.getElem?_take, h]
theorem loopQ1 {d : Nat} (hd : 9 ≤ d) {H : PT HB} {p n0 : Nat} {own : List Nat} {l : Lo} {rs : List Rst} (ok : LoOk l) (is : ISL l) (lk : LkAt H p own l rs) {w : IV} {qs : List Rst} (hw : Sl 4 w (qs.map ivRS)) (hq : qs.length = l.rts.length) {i k : Nat} (hi : i < l.rts.length) {ks : List Kf} {st : St} {Q : Ex → St → Prop} (h : IQ1 p w H n0 i k (nth qs i) 0 st)
    (h1 : ∀ st', st'.T.get 4 = some (.imm (.bool false)) → st'.H = H → n0 ≤ st'.n → (∃ s, s < i ∧ Bad l qs i s) → Bk DG (K DG d) 0 .ret ks st' Q)
    (h2 : ∀ st', IQ1 p w H n0 i k (nth qs i) i st' → (∀ s, s < i → ¬ Bad l qs i s) → Bk DG (K DG d) 0 (.exit 2) ks st' Q) : Wp DG (K DG d) 0 D.l23_1 ks st Q := by
  have hrb := rb3
  have lr := ok.lr
  obtain ⟨y, k1, k2, k3, k4⟩ := lk
  have vt := takeV_sl hw i
  have vtl := vt.len
  simp only [List.length_map, List.length_take] at vtl
  refine dw_loop (N := i) (small (by omega)) (fun j st => IQ1 p w H n0 i k (nth qs i) j st ∧ ∀ s, s < j → ¬ Bad l qs i s) (fun e st' => (e = .ret ∧ st'.T.get 4 = some (.imm (.bool false)) ∧ st'.H = H ∧ n0 ≤ st'.n ∧ ∃ s, s < i ∧ Bad l qs i s) ∨ (e = .exit 2 ∧ IQ1 p w H n0 i k (nth qs i) i st' ∧ ∀ s, s < i → ¬ Bad l qs i s)) (fun j st hle hI => ?_) ⟨h, fun s hs => absurd hs (by omega)⟩ (fun e s' h => by
    rcases h with ⟨rfl, a1, a2, a3, a4⟩ | ⟨rfl, a1, a2⟩
    · exact h1 s' a1 a2 a3 a4
    · exact h2 s' a1 a2)
  obtain ⟨⟨g0, g1, g5, ⟨i6, g6, L6⟩, g21, g22, g23, g35, g36, g37, hH, hn⟩, al⟩ := hI
  by_cases hj : j < i
  · have hj1 : (j : Int) < i := by omega
    have hj' := ilt_t hj1
    have hw8 : IntKind.i64.wrap ((j : Int) + 1) = (j : Int) + 1 := wr_succ hj (by omega)
    have ix := fun {h : Nat → Option HB} {n : Nat} => idx_sl (h := h) (n := n) vt (by omega) (k := .i64) (z := (j : Int)) (by omega) (by simp; omega)
    simp only [Int.toNat_natCast, nth_take hj] at ix
    have cf := Conflict_bl (D := d) (by omega) ok is.few hi (s := j) (by omega)
    have bad : Bad l qs i j ↔ (nth qs i).mode ≠ 0 ∧ (nth qs j).mode ≠ 0 ∧ CF l i j := Iff.rfl
    have nx : ¬ Bad l qs i j → ∀ s, s < j + 1 → ¬ Bad l qs i s := fun hb s hs => by
      by_cases e : s = j
      · subst e; exact hb
      · exact al s (by omega)
    generalize nth qs i = x at *
    generalize nth qs j = y at *
    generalize hQ : (fun (e : Ex) (s' : St) => _) = Q'
    simp only [D.l23_1b]
    by_cases mx : x.mode = 0
    · have nb := nx fun e => (bad.1 e).1 mx
      simp [g0, g1, g5, g6, L6, g21, g22, g23, g35, g36, g37, hj', hw8, ix, hH, k1, mx, ivRS, evParts, lay, B6, undT, fnEnd, argsT, PT.get_put, keep, opRun, ev, evs, evO, give, giveI, binOf, isNilK, PM.flip, putT, putL, putH, loadOf, storeOf, cut, over, ofCells, asNat, natOr, calm, clashes, Acc.clash, ressOf, resOf, frz, frz.frzs, DV.flat, DV.flat.flats, imms]
      subst hQ
      exact .inl ⟨rfl, hj, ⟨by simp [PT.get_put], by simp [PT.get_put], by simp [PT.get_put], ⟨i6, by simp [PT.get_put], by simp [PT.get_put, mx]⟩, by simp [PT.get_put], by simp [PT.get_put], by simp [PT.get_put], by simp [PT.get_put], by simp [PT.get_put], by simp [PT.get_put], rfl, by simp; omega⟩, nb⟩
    by_cases my : y.mode = 0
    · have nb := nx fun e => (bad.1 e).2.1 my
      simp [g0, g1, g5, g6, L6, g21, g22, g23, g35, g36, g37, hj', hw8, ix, hH, k1, mx, my, ivRS, evParts, lay, B6, undT, fnEnd, argsT, PT.get_put, keep, opRun, ev, evs, evO, give, giveI, binOf, isNilK, PM.flip, putT, putL, putH, loadOf, storeOf, cut, over, ofCells, asNat, natOr, calm, clashes, Acc.clash, ressOf, resOf, frz, frz.frzs, DV.flat, DV.flat.flats, imms]
      subst hQ
      exact .inl ⟨rfl, hj, ⟨by simp [PT.get_put], by simp [PT.get_put], by simp [PT.get_put], ⟨i6, by simp [PT.get_put], by simp [PT.get_put]⟩, by simp [PT.get_put], by simp [PT.get_put], by simp [PT.get_put], by simp [PT.get_put], by simp [PT.get_put], by simp [PT.get_put], rfl, by simp; omega⟩, nb⟩
    by_cases hc : CF l i j
    · rw [dec_t hc] at cf
      simp [g0, g1, g5, g6, L6, g21, g22, g23, g35, g36, g37, hj', hw8, ix, hH, k1, mx, my, cf, ok.s.scal, ok.p.scal, ok.g.scal, ok.r.scal, ivRS, evParts, lay, B6, undT, fnEnd, argsT, PT.get_put, keep, opRun, ev, evs, evO, give, giveI, binOf, isNilK, PM.flip, putT, putL, putH, loadOf, storeOf, cut, over, ofCells, asNat, natOr, calm, clashes, Acc.clash, ressOf, resOf, frz, frz.frzs, DV.flat, DV.flat.flats, imms]
      subst hQ
      exact .inr ⟨nofun, .inl ⟨rfl, by simp [PT.get_put], rfl, by simp; omega, j, hj, bad.2 ⟨mx, my, hc⟩⟩⟩
    · rw [dec_f hc] at cf
      have nb := nx fun e => hc (bad.1 e).2.2
      simp [g0, g1, g5, g6, L6, g21, g22, g23, g35, g36, g37, hj', hw8, ix, hH, k1, mx, my, cf, ok.s.scal, ok.p.scal, ok.g.scal, ok.r.scal, ivRS, evParts, lay, B6, undT, fnEnd, argsT, PT.get_put, keep, opRun, ev, evs, evO, give, giveI, binOf, isNilK, PM.flip, putT, putL, putH, loadOf, storeOf, cut, over, ofCells, asNat, natOr, calm, clashes, Acc.clash, ressOf, resOf, frz, frz.frzs, DV.flat, DV.flat.flats, imms]
      subst hQ
      exact .inl ⟨rfl, hj, ⟨by simp [PT.get_put], by simp [PT.get_put], by simp [PT.get_put], ⟨i6, by simp [PT.get_put], by simp [PT.get_put]⟩, by simp [PT.get_put], by simp [PT.get_put], by simp [PT.get_put], by simp [PT.get_put], by simp [PT.get_put], by simp [PT.get_put], rfl, by simp; omega⟩, nb⟩
  · obtain rfl : j = i := by omega
    generalize hQ : (fun (e : Ex) (s' : St) => _) = Q'
    simp only [D.l23_1b]
    simp [g0, g1, g5, g6, L6, g21, g22, g23, g35, g36, g37, hH, B6, undT, fnEnd, argsT, PT.get_put, keep, opRun, ev, evs, evO, give, giveI, binOf, isNilK, PM.flip, putT, putL, putH, loadOf, storeOf, cut, over, ofCells, asNat, natOr, calm, clashes, Acc.clash, ressOf, resOf, frz, frz.frzs, DV.flat, DV.flat.flats, imms]
    subst hQ
    exact .inr ⟨nofun, .inr ⟨rfl, ⟨by simp [PT.get_put, g0], by simp [PT.get_put, g1], by simp [PT.get_put, g5], ⟨i6, by simp [PT.get_put, g6], by simp [PT.get_put, L6]⟩, by simp [PT.get_put, g21], by simp [PT.get_put, g22], by simp [PT.get_put, g23], by simp [PT.get_put, g35], by simp [PT.get_put, g36], by simp [PT.get_put, g37], rfl, hn⟩, al⟩⟩
structure IQ0 (p : Nat) (w : IV) (H : PT HB) (n0 k i : Nat) (st : St) : Prop where
  h0 : st.T.get 0 = some (.ptr p 0 0)
  h1 : st.T.get 1 = some (.imm w)
  h21 : st.T.get 21 = some (.imm w)
  h22 : st.T.get 22 = some (.imm (.int .i64 k))
  h23 : st.T.get 23 = some (.imm (.int .i64 i))
  hH : st.H = H
  hn : n0 ≤ st.n
/-- A route that may stand so, beside those ahead of it. -/
def Good (l : Lo) (qs : List Rst) (r : Nat) : Prop := RsOk l r (nth qs r) ∧ ∀ s, s < r → ¬ Bad l qs r s
theorem good_inv {l : Lo} {qs : List Rst} (hq : qs.length = l.rts.length) : (∀ r, r < l.rts.length → Good l qs r) ↔ INV l qs := by
  refine ⟨fun h => ⟨hq, fun r hr => (h r hr).1, fun i j hi hj hij mi mj hc => ?_⟩, fun h r hr => ⟨h.ro r hr, fun s hs hb => h.nc r s hr (by omega) (by omega) hb.1 hb.2.1 hb.2.2⟩⟩
  rcases Nat.lt_or_gt_of_ne hij with hlt | hlt
  · exact (h j hj).2 i hlt ⟨mj, mi, CF_sym hc⟩
  · exact (h i hi).2 j hlt ⟨mi, mj, hc⟩
theorem loopQ0 {d : Nat} (hd : 10 ≤ d) {H : PT HB} {p n0 : Nat} {own : List Nat} {l : Lo} {rs : List Rst} (ok : LoOk l) (is : ISL l) (lk : LkAt H p own l rs) {w : IV} {qs : List Rst} (hw : Sl 4 w (qs.map ivRS)) (hq : qs.length = l.rts.length) {ks : List Kf} {st : St} {Q : Ex → St → Prop} (h : IQ0 p w H n0 l.rts.length 0 st)
    (h1 : ∀ st', st'.T.get 4 = some (.imm (.bool false)) → st'.H = H → n0 ≤ st'.n → ¬ (∀ r, r < l.rts.length → Good l qs r) → Bk DG (K DG d) 0 .ret ks st' Q)
    (h2 : ∀ st', IQ0 p w H n0 l.rts.length l.rts.length st' → (∀ r, r < l.rts.length → Good l qs r) → Bk DG (K DG d) 0 (.exit 0) ks st' Q) : Wp DG (K DG d) 0 D.l23_0 ks st Q := by
  have hrb := rb3
  have lr := ok.lr
  obtain ⟨d, rfl⟩ : ∃ d', d = d' + 1 := ⟨d - 1, by omega⟩
  refine dw_loop (N := l.rts.length) (small lr) (fun i st => IQ0 p w H n0 l.rts.length i st ∧ ∀ r, r < i → Good l qs r) (fun e st' => (e = .ret ∧ st'.T.get 4 = some (.imm (.bool false)) ∧ st'.H = H ∧ n0 ≤ st'.n ∧ ¬ ∀ r, r < l.rts.length → Good l qs r) ∨ (e = .exit 0 ∧ IQ0 p w H n0 l.rts.length l.rts.length st' ∧ ∀ r, r < l.rts.length → Good l qs r)) (fun i st hle hI => ?_) ⟨h, fun s hs => absurd hs (by omega)⟩ (fun e s' h => by
    rcases h with ⟨rfl, a1, a2, a3, a4⟩ | ⟨rfl, a1, a2⟩
    · exact h1 s' a1 a2 a3 a4
    · exact h2 s' a1 a2)
  obtain ⟨⟨g0, g1, g21, g22, g23, hH, hn⟩, al⟩ := hI
  by_cases hi : i < l.rts.length
  · have hi1 : (i : Int) < l.rts.length := by omega
    have hi' := ilt_t hi1
    have hw8 : IntKind.i64.wrap ((i : Int) + 1) = (i : Int) + 1 := wr_succ hi lr
    have ix := fun {h : Nat → Option HB} {n : Nat} => idx_sl (h := h) (n := n) hw (by omega) (k := .i64) (z := (i : Int)) (by omega) (by omega)
    simp only [Int.toNat_natCast] at ix
    have sl := fun {h : Nat → Option HB} {n : Nat} => slc_to (h := h) (n := n) hw (i := i) (by omega)
    have vt := (takeV_sl hw i).len
    simp only [List.length_map, List.length_take, Nat.min_eq_left (show i ≤ qs.length by omega)] at vt
    obtain ⟨n2, e2, hn2⟩ := isState_run (d := d) ok is lk hi (nth qs i) (n := st.n + 1) (lo := st.n + 1)
    subst hH
    have loop := fun {ks st Q} => loopQ1 (d := d + 1) (n0 := n0) (k := l.rts.length) (ks := ks) (st := st) (Q := Q) (by omega) ok is lk hw hq hi
    have gd : RsOk l i (nth qs i) → (∀ s, s < i → ¬ Bad l qs i s) → ∀ r, r < i + 1 → Good l qs r := fun a b r hr => by
      by_cases e : r = i
      · subst e; exact ⟨a, b⟩
      · exact al r (by omega)
    have nb : (∃ s, s < i ∧ Bad l qs i s) → ¬ ∀ r, r < l.rts.length → Good l qs r := fun ⟨s, hs, hb⟩ h => (h i hi).2 s hs hb
    have ns : ¬ RsOk l i (nth qs i) → ¬ ∀ r, r < l.rts.length → Good l qs r := fun hs h => hs (h i hi).1
    generalize nth qs i = x at *
    generalize hQ : (fun (e : Ex) (s' : St) => _) = Q'
    simp only [D.l23_0b]
    by_cases ho : RsOk l i x
    · rw [dec_t ho] at e2
      simp [g0, g1, g21, g22, g23, hi', hw8, ix, sl, vt, e2, ivRS, evParts, lay, B6, undT, fnEnd, argsT, PT.get_put, keep, opRun, ev, evs, evO, give, giveI, binOf, isNilK, PM.flip, putT, putL, putH, loadOf, storeOf, cut, over, ofCells, asNat, natOr, calm, clashes, Acc.clash, ressOf, resOf, frz, frz.frzs, DV.flat, DV.flat.flats, imms]
      refine loop ⟨by simp [PT.get_put], by simp [PT.get_put], by simp [PT.get_put], ⟨st.n, by simp [PT.get_put], by simp [PT.get_put]⟩, by simp [PT.get_put], by simp [PT.get_put], by simp [PT.get_put], by simp [PT.get_put], by simp [PT.get_put], by simp [PT.get_put], rfl, by simp; omega⟩ (fun s2 f4 fH fn hb => ?_) (fun s2 f hb => ?_)
      · simp [f4, B6, undT, fnEnd, argsT, PT.get_put, keep, opRun, ev, evs, evO, give, giveI, binOf, isNilK, PM.flip, putT, putL, putH, loadOf, storeOf, cut, over, ofCells, asNat, natOr, calm, clashes, Acc.clash, ressOf, resOf, frz, frz.frzs, DV.flat, DV.flat.flats, imms]
        subst hQ
        exact .inr ⟨nofun, .inl ⟨rfl, f4, fH, fn, nb hb⟩⟩
      · obtain ⟨f0, f1, f5, ⟨j6, f6, M6⟩, f21, f22, f23, f35, f36, f37, fH, fn⟩ := f
        simp [f0, f1, f5, f6, M6, f21, f22, f23, hw8, B6, undT, fnEnd, argsT, PT.get_put, keep, opRun, ev, evs, evO, give, giveI, binOf, isNilK, PM.flip, putT, putL, putH, loadOf, storeOf, cut, over, ofCells, asNat, natOr, calm, clashes, Acc.clash, ressOf, resOf, frz, frz.frzs, DV.flat, DV.flat.flats, imms]
        subst hQ
        exact .inl ⟨rfl, hi, ⟨by simp [PT.get_put, f0], by simp [PT.get_put, f1], by simp [PT.get_put, f21], by simp [PT.get_put, f22], by simp [PT.get_put], fH, fn⟩, gd ho hb⟩
    · rw [dec_f ho] at e2
      simp [g0, g1, g21, g22, g23, hi', hw8, ix, sl, vt, e2, ivRS, evParts, lay, B6, undT, fnEnd, argsT, PT.get_put, keep, opRun, ev, evs, evO, give, giveI, binOf, isNilK, PM.flip, putT, putL, putH, loadOf, storeOf, cut, over, ofCells, asNat, natOr, calm, clashes, Acc.clash, ressOf, resOf, frz, frz.frzs, DV.flat, DV.flat.flats, imms]
      subst hQ
      exact .inr ⟨nofun, .inl ⟨rfl, by simp [PT.get_put], rfl, by simp; omega, ns ho⟩⟩
  · obtain rfl : i = l.rts.length := by omega
    generalize hQ : (fun (e : Ex) (s' : St) => _) = Q'
    simp only [D.l23_0b]
    simp [g0, g1, g21, g22, g23, hH, B6, undT, fnEnd, argsT, PT.get_put, keep, opRun, ev, evs, evO, give, giveI, binOf, isNilK, PM.flip, putT, putL, putH, loadOf, storeOf, cut, over, ofCells, asNat, natOr, calm, clashes, Acc.clash, ressOf, resOf, frz, frz.frzs, DV.flat, DV.flat.flats, imms]
    subst hQ
    exact .inr ⟨nofun, .inr ⟨rfl, ⟨by simp [PT.get_put, g0], by simp [PT.get_put, g1], by simp [PT.get_put, g21], by simp [PT.get_put, g22], by simp [PT.get_put, g23], rfl, hn⟩, al⟩⟩
/-- A copy of a row that nobody writes: in the heap. -/
theorem clone_q {d : Nat} {w : IV} {qs : List Rst} (hw : Sl 4 w (qs.map ivRS)) (hl : qs.length ≤ 1000) (H : PT HB) (n : Nat) :
    Fe (K DG (d + 1) 43 [.imm w] H n 0) (fun x H' n' => n ≤ n' ∧ ((qs = [] ∧ H' = H ∧ ∃ u, x = .imm u ∧ Sl 4 u []) ∨ (qs ≠ [] ∧ x = .sl n 0 qs.length qs.length ∧ H' = H.put n (some ⟨4, qs.map rowRS⟩) ∧ n' = n + 1))) := by
  have hes := map_rowRS qs
  have hel : (qs.map ivRS).length = qs.length := by simp
  have hq0 : qs.map ivRS = [] ↔ qs = [] := by simp
  rw [← hq0, hes, ← hel]
  rw [← hel] at hl
  generalize qs.map ivRS = es at *
  have hv0 := hw
  rw [D.k43]
  refine fn_dw rfl ?_
  rcases hw with ⟨rfl, rfl⟩ | ⟨f, rfl⟩
  · simp [B6, undT, fnEnd, argsT, PT.get_put, keep, opRun, ev, evs, evO, give, giveI, binOf, isNilK, PM.flip, putT, putL, putH, loadOf, storeOf, cut, over, ofCells, asNat, natOr, calm, clashes, Acc.clash, ressOf, resOf, frz, frz.frzs, DV.flat, DV.flat.flats, imms]
    exact .inl ⟨rfl, rfl⟩
  · by_cases he : es = []
    · have p1 := fun {h : Nat → Option HB} {n : Nat} {x : DV} hx => app_none (bytes := 32) (h := h) (n := n) (x := x) hx (he ▸ hv0)
      subst he
      simp [p1, evParts2, lay, unImms, unImm, mapO, rowsN, B6, undT, fnEnd, argsT, PT.get_put, keep, opRun, ev, evs, evO, give, giveI, binOf, isNilK, PM.flip, putT, putL, putH, loadOf, storeOf, cut, over, ofCells, asNat, natOr, calm, clashes, Acc.clash, ressOf, resOf, frz, frz.frzs, DV.flat, DV.flat.flats, imms]
      exact .inr ⟨_, rfl⟩
    · have p1 := fun {h : Nat → Option HB} {n : Nat} => app_new (bytes := 32) (h := h) (n := n) hv0 he (by omega) (by omega) (by omega)
      simp [p1, he, evParts2, lay, unImms, unImm, mapO, rowsN, B6, undT, fnEnd, argsT, PT.get_put, keep, opRun, ev, evs, evO, give, giveI, binOf, isNilK, PM.flip, putT, putL, putH, loadOf, storeOf, cut, over, ofCells, asNat, natOr, calm, clashes, Acc.clash, ressOf, resOf, frz, frz.frzs, DV.flat, DV.flat.flats, imms]
      exact fun e => he (hq0.2 e)
theorem Set_run {d : Nat} (hd : 10 ≤ d) {H : PT HB} {p : Nat} {own : List Nat} {l : Lo} {rs : List Rst} (ok : LoOk l) (is : ISL l) (lk : LkAt H p own l rs) {w : IV} {qs : List Rst} (hw : Sl 4 w (qs.map ivRS)) (hl : qs.length ≤ reachBytes) {n : Nat} (hpn : ∀ i ∈ p :: own, i < n) :
    Fe (K DG (d + 1) 23 [.ptr p 0 0, .imm w] H n 0) (fun v H' n' => n ≤ n' ∧ v = .imm (.bool (dec (INV l qs))) ∧ (∀ j, j ≠ p → j < n → H'.get j = H.get j) ∧
      ((INV l qs ∧ ∃ own', LkAt H' p own' l qs ∧ ∀ i ∈ own', n ≤ i ∧ i < n') ∨ (¬ INV l qs ∧ LkAt H' p own l rs))) := by
  have hrb := rb3
  have lk0 := lk
  obtain ⟨x, h1, h2, h3, h4⟩ := lk
  have xl := h2.len
  have wl := hw.len
  simp only [List.length_map] at wl
  have hp := hpn p (by simp)
  obtain ⟨d, rfl⟩ : ∃ d', d = d' + 1 := ⟨d - 1, by omega⟩
  rw [D.k23]
  refine fn_dw rfl ?_
  by_cases hq : qs.length = rs.length
  · have hq' : qs.length = l.rts.length := by omega
    rw [h4] at xl
    rw [hq'] at wl
    simp [h1, xl, wl, B6, undT, fnEnd, argsT, PT.get_put, keep, opRun, ev, evs, evO, give, giveI, binOf, isNilK, PM.flip, putT, putL, putH, loadOf, storeOf, cut, over, ofCells, asNat, natOr, calm, clashes, Acc.clash, ressOf, resOf, frz, frz.frzs, DV.flat, DV.flat.flats, imms]
    refine loopQ0 (n0 := n) (by omega) ok is lk0 hw hq' ⟨by simp [PT.get_put], by simp [PT.get_put], by simp [PT.get_put], by simp [PT.get_put], by simp [PT.get_put], rfl, by simp⟩ (fun s2 f4 fH fn hb => ?_) (fun s2 f hb => ?_)
    · rw [good_inv hq'] at hb
      simp [f4, B6, undT, fnEnd, argsT, PT.get_put, keep, opRun, ev, evs, evO, give, giveI, binOf, isNilK, PM.flip, putT, putL, putH, loadOf, storeOf, cut, over, ofCells, asNat, natOr, calm, clashes, Acc.clash, ressOf, resOf, frz, frz.frzs, DV.flat, DV.flat.flats, imms]
      exact ⟨fn, hb, fun j hj hjn => by rw [fH], .inr ⟨hb, by rw [fH]; exact lk0⟩⟩
    · rw [good_inv hq'] at hb
      obtain ⟨f0, f1, f21, f22, f23, fH, fn⟩ := f
      obtain ⟨v, H1, n1, e1, hn1, hc⟩ := clone_q (d := d) hw (by have := is.r2; omega) H s2.n
      subst fH
      rcases hc with ⟨rfl, rfl, u, rfl, hu⟩ | ⟨hne, rfl, rfl, rfl⟩
      · simp [f0, f1, e1, h1, hu.scal, B6, undT, fnEnd, argsT, PT.get_put, keep, opRun, ev, evs, evO, give, giveI, binOf, isNilK, PM.flip, putT, putL, putH, loadOf, storeOf, cut, over, ofCells, asNat, natOr, calm, clashes, Acc.clash, ressOf, resOf, frz, frz.frzs, DV.flat, DV.flat.flats, imms]
        exact ⟨by omega, hb, fun j hj hjn => by simp [PT.get_put, hj], .inl ⟨hb, [], ⟨_, by simp [PT.get_put], .inl ⟨rfl, rfl, u, rfl, hu⟩, by simp, hq'⟩, by simp⟩⟩
      · have hpn' : ¬ p = s2.n := by omega
        have hnp : ¬ s2.n = p := by omega
        simp [f0, f1, e1, h1, hpn', B6, undT, fnEnd, argsT, PT.get_put, keep, opRun, ev, evs, evO, give, giveI, binOf, isNilK, PM.flip, putT, putL, putH, loadOf, storeOf, cut, over, ofCells, asNat, natOr, calm, clashes, Acc.clash, ressOf, resOf, frz, frz.frzs, DV.flat, DV.flat.flats, imms]
        refine ⟨by omega, hb, fun j hj hjn => ?_, .inl ⟨hb, [s2.n], ⟨_, by simp [PT.get_put], .inr ⟨s2.n, rfl, rfl, by simp [PT.get_put, hnp]⟩, by simp; omega, hq'⟩, by simp; omega⟩⟩
        have : ¬ j = s2.n := by omega
        simp [PT.get_put, hj, this]
  · have hni : ¬ INV l qs := fun h => hq (by have := h.ln; omega)
    have hq2 : ¬ (qs.length : Int) = (rs.length : Int) := by omega
    simp [h1, xl, wl, hq2, B6, undT, fnEnd, argsT, PT.get_put, keep, opRun, ev, evs, evO, give, giveI, binOf, isNilK, PM.flip, putT, putL, putH, loadOf, storeOf, cut, over, ofCells, asNat, natOr, calm, clashes, Acc.clash, ressOf, resOf, frz, frz.frzs, DV.flat, DV.flat.flats, imms]
    exact ⟨hni, .inr ⟨hni, lk0⟩⟩
end Go.Proofs.YtkgjgehffijepabDoor.D

set_option linter.unusedVariables false
set_option linter.unusedSimpArgs false
set_option maxHeartbeats 16000000
namespace Go.Proofs.YtkgjgehffijepabDoor.D
open Go Go.PM Go.Lib
/-- A Lock in the heap that stands as it may. -/
def LkI (H : PT HB) (n p : Nat) (l : Lo) : Prop := ∃ own rs, LkAt H p own l rs ∧ INV l rs ∧ ∀ j ∈ p :: own, j < n
theorem LkI.mono {H H' : PT HB} {n n' p : Nat} {l : Lo} (h : LkI H n p l) (hn : n ≤ n') (hf : ∀ j, j < n → H'.get j = H.get j) : LkI H' n' p l := by
  obtain ⟨own, rs, lk, inv, ho⟩ := h
  exact ⟨own, rs, lk.mono fun i hi => hf i (ho i hi), inv, fun j hj => by have := ho j hj; omega⟩
theorem cmd_any {d : Nat} (hd : 11 ≤ d) {H : PT HB} {p n : Nat} {l : Lo} (ok : LoOk l) (is : ISL l) (lk : LkI H n p l) {ov lv : IV} {os : List Bool} {ls : List Int} (io : InOk ov lv os ls) (c r : Int) :
    ∃ v H1 n1, K DG (d + 1) 11 [.ptr p 0 0, inD ov lv, .agg [.imm (.int .i64 c), .imm (.int .i64 r)]] H n 0 = some (v, H1, n1) ∧ LkI H1 n1 p l ∧ n ≤ n1 := by
  obtain ⟨own, rs, lk, inv, ho⟩ := lk
  obtain ⟨H1, n1, e1, lk1, hn1, fr1⟩ := Command_run hd ok is lk (go_of inv.ro) io c r (n := n)
  exact ⟨_, H1, n1, e1, ⟨own, _, lk1, inv.cmd, fun j hj => by have := ho j hj; omega⟩, hn1⟩
theorem cyc_any {d : Nat} (hd : 11 ≤ d) {H : PT HB} {p n : Nat} {l : Lo} (ok : LoOk l) (is : ISL l) (lk : LkI H n p l) {ov lv : IV} {os : List Bool} {ls : List Int} (io : InOk ov lv os ls) :
    ∃ v H1 n1, K DG (d + 1) 13 [.ptr p 0 0, inD ov lv] H n 0 = some (v, H1, n1) ∧ LkI H1 n1 p l ∧ n ≤ n1 := by
  obtain ⟨own, rs, lk, inv, ho⟩ := lk
  by_cases mi : MI l os ls
  · obtain ⟨v, H', n', e, rfl, hn, fr, qs, lk', hq, h1, h2⟩ := Cycle_fn hd ok is lk inv.ro io mi ho
    exact ⟨_, H', n', e, ⟨own, qs, lk', inv.step is (by obtain ⟨_, _, _, _, h⟩ := lk'; exact h) hq, fun j hj => by have := ho j hj; omega⟩, by omega⟩
  · obtain ⟨v, H', n', e, rfl, hn, hH⟩ := Cycle_err (d := d) (by omega) ok is.p2 is.g2 lk io mi ho
    refine ⟨_, H', n', e, LkI.mono ⟨own, rs, lk, inv, ho⟩ (by omega) fun j hj => ?_, by omega⟩
    have b1 : ¬ j = n + 2 + 1 := by omega
    have b2 : ¬ j = n + 2 + 2 := by omega
    rw [hH]; simp [PT.get_put, b1, b2]
theorem set_any {d : Nat} (hd : 10 ≤ d) {H : PT HB} {p n : Nat} {l : Lo} (ok : LoOk l) (is : ISL l) (lk : LkI H n p l) {w : IV} {qs : List Rst} (hw : Sl 4 w (qs.map ivRS)) (hl : qs.length ≤ reachBytes) :
    ∃ v H1 n1, K DG (d + 1) 23 [.ptr p 0 0, .imm w] H n 0 = some (v, H1, n1) ∧ LkI H1 n1 p l ∧ n ≤ n1 := by
  obtain ⟨own, rs, lk, inv, ho⟩ := lk
  obtain ⟨v, H1, n1, e, hn, hv, fr, h⟩ := Set_run hd ok is lk hw hl ho
  refine ⟨_, H1, n1, e, ?_, hn⟩
  have hp := ho p (by simp)
  rcases h with ⟨iq, own', lk', ho'⟩ | ⟨_, lk'⟩
  · refine ⟨own', qs, lk', iq, fun j hj => ?_⟩
    rcases List.mem_cons.1 hj with rfl | hj
    · omega
    · exact (ho' j hj).2
  · exact ⟨own, rs, lk', inv, fun j hj => by have := ho j hj; omega⟩
end Go.Proofs.YtkgjgehffijepabDoor.D
