/-
  Which routes exclude one another: table.Conflict over D.
-/
import Derived.Test.YtlknjgmhfimhbacGreatDoorT5
set_option linter.unusedVariables false
set_option linter.unusedSimpArgs false
set_option maxHeartbeats 16000000
namespace Go.Proofs.YtlknjgmhfimhbacGreatDoor.D
open Go Go.PM Go.Lib
/-! ### Needs among needs -/
def NEq (a : Int) (b : Bool) (a' : Int) (b' : Bool) : Prop := a = a' ∧ b = b'
theorem eq_need {a a' : Int} {b b' : Bool} : eqSt [.i, .b] [.imm (.int .i64 a), .imm (.bool b)] [.imm (.int .i64 a'), .imm (.bool b')] = some (dec (NEq a b a' b')) := by
  simp only [eqSt, eqSc, if_true]
  by_cases h : NEq a b a' b'
  · rw [dec_t h]; obtain ⟨rfl, rfl⟩ := h; simp
  · rw [dec_f h]
    by_cases h1 : a = a'
    · have : ¬ b = b' := fun h2 => h ⟨h1, h2⟩
      simp [h1, this]
    · simp [h1]
theorem NEq_iff {a : Int} {b : Bool} {x : Need} : NEq a b x.pt x.rev ↔ (⟨a, b⟩ : Need) = x := ⟨fun h => by cases x; obtain ⟨rfl, rfl⟩ := h; rfl, fun h => by subst h; exact ⟨rfl, rfl⟩⟩
def IIN (v : IV) (a : Int) (b : Bool) (xs : List Need) (i : Nat) (st : St) : Prop := st.T.get 0 = some (.imm v) ∧ Box st 3 [.int .i64 a, .bool b] ∧ st.T.get 7 = some (.imm (.int .i64 xs.length)) ∧ st.T.get 8 = some (.imm (.int .i64 i)) ∧ ∀ j, j < i → (⟨a, b⟩ : Need) ≠ nth xs j
theorem loopIN {d : Nat} {v : IV} {a : Int} {b : Bool} {xs : List Need} (hv : Sl 2 v (xs.map ivN)) (hl : xs.length ≤ reachBytes) {ks : List Kf} {st : St} {Q : Ex → St → Prop} (h : IIN v a b xs 0 st)
    (hk : ∀ e st', (e = .ret ∧ (∃ r : Nat, st'.T.get 4 = some (.imm (.int .i64 r))) ∧ (⟨a, b⟩ : Need) ∈ xs) ∨ (e = .exit 0 ∧ (⟨a, b⟩ : Need) ∉ xs) → Bk DG (K DG d) 0 e ks st' Q) :
    Wp DG (K DG d) 0 D.l231_0 ks st Q := by
  refine dw_loop (N := xs.length) (small hl) (IIN v a b xs) (fun e st' => (e = .ret ∧ (∃ r : Nat, st'.T.get 4 = some (.imm (.int .i64 r))) ∧ (⟨a, b⟩ : Need) ∈ xs) ∨ (e = .exit 0 ∧ (⟨a, b⟩ : Need) ∉ xs)) (fun i st hle hI => ?_) h (fun e s' h => hk e s' h)
  obtain ⟨h0, ⟨id, h3, hL⟩, h7, h8, hall⟩ := hI
  by_cases hi : i < xs.length
  · have hi' : (i : Int) < xs.length := by omega
    have hj' := ilt_t hi'
    have hw8 : IntKind.i64.wrap ((i : Int) + 1) = (i : Int) + 1 := wr_succ hi hl
    have ix := fun {h : Nat → Option HB} {n : Nat} => idx_sl (h := h) (n := n) hv (by omega) (k := .i64) (z := (i : Int)) (by omega) hi'
    have yes : NEq a b (nth xs i).pt (nth xs i).rev → (⟨a, b⟩ : Need) ∈ xs := fun h => NEq_iff.1 h ▸ nth_mem hi
    have no : ¬ NEq a b (nth xs i).pt (nth xs i).rev → ∀ j, j < i + 1 → (⟨a, b⟩ : Need) ≠ nth xs j := fun h j hj => by
      rcases Nat.lt_or_eq_of_le (Nat.le_of_lt_succ hj) with hj | rfl
      · exact hall j hj
      · exact fun e => h (NEq_iff.2 e)
    generalize hQ : (fun (e : Ex) (s' : St) => _) = Q'
    simp only [D.l231_0b]
    simp (config := {contextual := true, maxSteps := 2000000}) [h0, h3, h7, h8, hL, hj', hw8, ix, ivN, eq_need, B6, undT, fnEnd, argsT, PT.get_put, keep, opRun, ev, evs, evO, give, giveI, binOf, isNilK, PM.flip, putT, putL, putH, loadOf, storeOf, cut, over, ofCells, asNat, natOr, calm, clashes, Acc.clash, ressOf, resOf, frz, frz.frzs, DV.flat, DV.flat.flats, imms]
    subst hQ
    simp only [IIN]
    refine ⟨fun a => .inr ⟨by simp, .inl ⟨trivial, ⟨i, by simp [PT.get_put]⟩, yes a⟩⟩, fun a => .inl ⟨trivial, hi, by simp [PT.get_put], ⟨id, by simp [PT.get_put], by simp [PT.get_put, imms]⟩, by simp [PT.get_put], by simp [PT.get_put], no a⟩⟩
  · obtain rfl : i = xs.length := by omega
    generalize hQ : (fun (e : Ex) (s' : St) => _) = Q'
    simp only [D.l231_0b]
    simp [h0, h3, h7, h8, hL, B6, undT, fnEnd, argsT, PT.get_put, keep, opRun, ev, evs, evO, give, giveI, binOf, isNilK, PM.flip, putT, putL, putH, loadOf, storeOf, cut, over, ofCells, asNat, natOr, calm, clashes, Acc.clash, ressOf, resOf, frz, frz.frzs, DV.flat, DV.flat.flats, imms]
    subst hQ
    simp
    intro hm
    obtain ⟨j, hj, e⟩ := mem_nth hm
    exact hall j hj e.symm
theorem index_needs {D : Nat} (hD : 1 ≤ D) {v : IV} {xs : List Need} (hv : Sl 2 v (xs.map ivN)) (hl : xs.length ≤ reachBytes) (a : Int) (b : Bool) :
    ∃ r : Int, bl (K DG D) 231 [.imm v, .agg [.imm (.int .i64 a), .imm (.bool b)]] = some (.imm (.int .i64 r)) ∧ (0 ≤ r ↔ (⟨a, b⟩ : Need) ∈ xs) := by
  obtain ⟨d, rfl⟩ : ∃ d, D = d + 1 := ⟨D - 1, by omega⟩
  have vl := hv.len
  simp only [List.length_map] at vl
  have key : Fe (K DG (d + 1) 231 [.imm v, .agg [.imm (.int .i64 a), .imm (.bool b)]] .lf 0 0) (fun x _ _ => ∃ r : Int, x = .imm (.int .i64 r) ∧ (0 ≤ r ↔ (⟨a, b⟩ : Need) ∈ xs)) := by
    rw [D.k231]
    refine fn_dw rfl ?_
    simp [vl, B6, undT, fnEnd, argsT, PT.get_put, keep, opRun, ev, evs, evO, give, giveI, binOf, isNilK, PM.flip, putT, putL, putH, loadOf, storeOf, cut, over, ofCells, asNat, natOr, calm, clashes, Acc.clash, ressOf, resOf, frz, frz.frzs, DV.flat, DV.flat.flats, imms]
    refine loopIN hv hl (a := a) (b := b) ⟨by simp [PT.get_put], ⟨0, by simp [PT.get_put], by simp [PT.get_put, imms]⟩, by simp [PT.get_put], by simp [PT.get_put], fun j hj => by omega⟩ ?_
    rintro e st' (⟨rfl, ⟨r, h4⟩, hm⟩ | ⟨rfl, hm⟩)
    · simp [h4, hm, B6, undT, fnEnd, argsT, PT.get_put, keep, opRun, ev, evs, evO, give, giveI, binOf, isNilK, PM.flip, putT, putL, putH, loadOf, storeOf, cut, over, ofCells, asNat, natOr, calm, clashes, Acc.clash, ressOf, resOf, frz, frz.frzs, DV.flat, DV.flat.flats, imms]
    · simp [hm, B6, undT, fnEnd, argsT, PT.get_put, keep, opRun, ev, evs, evO, give, giveI, binOf, isNilK, PM.flip, putT, putL, putH, loadOf, storeOf, cut, over, ofCells, asNat, natOr, calm, clashes, Acc.clash, ressOf, resOf, frz, frz.frzs, DV.flat, DV.flat.flats, imms]
  obtain ⟨x, H, n, e, r, rfl, hr⟩ := key
  exact ⟨r, bl_imm e, hr⟩
theorem contains_needs {D : Nat} (hD : 2 ≤ D) {v : IV} {xs : List Need} (hv : Sl 2 v (xs.map ivN)) (hl : xs.length ≤ reachBytes) (a : Int) (b : Bool) :
    bl (K DG D) 205 [.imm v, .agg [.imm (.int .i64 a), .imm (.bool b)]] = some (.imm (.bool (dec ((⟨a, b⟩ : Need) ∈ xs)))) := by
  obtain ⟨d, rfl⟩ : ∃ d, D = d + 1 := ⟨D - 1, by omega⟩
  obtain ⟨r, e1, e2⟩ := index_needs (D := d) (by omega) hv hl a b
  refine bl_fe ?_
  rw [D.k205]
  refine fn_dw rfl ?_
  rw [← dec_congr e2]
  simp [e1, B6, undT, fnEnd, argsT, PT.get_put, keep, opRun, ev, evs, evO, give, giveI, binOf, isNilK, PM.flip, putT, putL, putH, loadOf, storeOf, cut, over, ofCells, asNat, natOr, calm, clashes, Acc.clash, ressOf, resOf, frz, frz.frzs, DV.flat, DV.flat.flats, imms]
  rw [dec_d, ← dec_d, ← dec_d]
  by_cases h : 0 ≤ r
  · simp [h, ilt_f h]
  · simp [h, ilt_t (show r < 0 by omega)]
/-! ### ContainsFunc -/
/-- What a function that is handed in says of each thing, whatever the number that is next. -/
def Says {α : Type} (d : Nat) (f : FuncId) (caps : List DV) (H : PT HB) (n0 : Nat) (arg : α → DV) (P : α → Prop) (OK : α → Prop) : Prop :=
  ∀ x, OK x → ∀ n, n0 ≤ n → ∃ H1 n1, K DG d f (arg x :: caps) H n n = some (.imm (.bool (dec (P x))), H1, n1) ∧ n ≤ n1
theorem Says.all {α : Type} {d : Nat} {f : FuncId} {caps : List DV} {H : PT HB} {n0 : Nat} {arg : α → DV} {P OK : α → Prop} (h : Says d f caps H n0 arg P (fun _ => True)) : Says d f caps H n0 arg P OK := fun x _ n hn => h x trivial n hn
def IIF {α : Type} [Inhabited α] (v : IV) (f : FuncId) (caps : List DV) (H : PT HB) (n0 : Nat) (P : α → Prop) (xs : List α) (i : Nat) (st : St) : Prop := st.T.get 0 = some (.imm v) ∧ st.T.get 1 = some (.fnc f caps) ∧ st.T.get 7 = some (.imm (.int .i64 xs.length)) ∧ st.T.get 8 = some (.imm (.int .i64 i)) ∧
  st.H = H ∧ n0 ≤ st.n ∧ ∀ j, j < i → ¬ P (nth xs j)
theorem loopIF {d : Nat} {v : IV} {f : FuncId} {caps : List DV} {H : PT HB} {n0 : Nat} {P : Int → Prop} {zs : List Int} (ho : DV.out.outs caps = true) (hs : Says d f caps H n0 (fun z : Int => .imm (.int .i64 z)) P (fun z => z ∈ zs)) (hv : Sl 1 v (zs.map ivI)) (hl : zs.length ≤ reachBytes) {lo : Nat} {ks : List Kf} {st : St} {Q : Ex → St → Prop} (h : IIF v f caps H n0 P zs 0 st)
    (hk : ∀ e st', n0 ≤ st'.n → (e = .ret ∧ (∃ r : Nat, st'.T.get 4 = some (.imm (.int .i64 r))) ∧ (∃ z ∈ zs, P z)) ∨ (e = .exit 0 ∧ ¬ ∃ z ∈ zs, P z) → Bk DG (K DG d) lo e ks st' Q) :
    Wp DG (K DG d) lo D.l199_0 ks st Q := by
  refine dw_loop (N := zs.length) (small hl) (IIF v f caps H n0 P zs) (fun e st' => n0 ≤ st'.n ∧ ((e = .ret ∧ (∃ r : Nat, st'.T.get 4 = some (.imm (.int .i64 r))) ∧ (∃ z ∈ zs, P z)) ∨ (e = .exit 0 ∧ ¬ ∃ z ∈ zs, P z))) (fun i st hle hI => ?_) h (fun e s' h => hk e s' h.1 h.2)
  obtain ⟨h0, h1, h7, h8, hH, hn, hall⟩ := hI
  by_cases hi : i < zs.length
  · have hi' : (i : Int) < zs.length := by omega
    have hj' := ilt_t hi'
    have hw8 : IntKind.i64.wrap ((i : Int) + 1) = (i : Int) + 1 := wr_succ hi hl
    have ix := fun {h : Nat → Option HB} {n : Nat} => idx_sl (h := h) (n := n) hv (by omega) (k := .i64) (z := (i : Int)) (by omega) hi'
    obtain ⟨H1, n1, e1, e2⟩ := hs (nth zs i) (nth_mem hi) st.n hn
    have no : ¬ P (nth zs i) → ∀ j, j < i + 1 → ¬ P (nth zs j) := fun h j hj => by
      rcases Nat.lt_or_eq_of_le (Nat.le_of_lt_succ hj) with hj | rfl
      · exact hall j hj
      · exact h
    generalize hQ : (fun (e : Ex) (s' : St) => _) = Q'
    simp only [D.l199_0b]
    simp (config := {contextual := true, maxSteps := 2000000}) [h0, h1, h7, h8, hH, hj', hw8, ix, ivI, ho, e1, B6, undT, fnEnd, argsT, PT.get_put, keep, opRun, ev, evs, evO, give, giveI, binOf, isNilK, PM.flip, putT, putL, putH, loadOf, storeOf, cut, over, ofCells, asNat, natOr, calm, clashes, Acc.clash, ressOf, resOf, frz, frz.frzs, DV.flat, DV.flat.flats, imms]
    subst hQ
    simp only [IIF]
    refine ⟨fun a => .inr ⟨by simp, by omega, .inl ⟨trivial, ⟨i, by simp [PT.get_put]⟩, _, nth_mem hi, a⟩⟩, fun a => .inl ⟨trivial, hi, by simp [PT.get_put], by simp [PT.get_put], by simp [PT.get_put], by simp [PT.get_put], trivial, by omega, no a⟩⟩
  · obtain rfl : i = zs.length := by omega
    generalize hQ : (fun (e : Ex) (s' : St) => _) = Q'
    simp only [D.l199_0b]
    simp [h0, h1, h7, h8, B6, undT, fnEnd, argsT, PT.get_put, keep, opRun, ev, evs, evO, give, giveI, binOf, isNilK, PM.flip, putT, putL, putH, loadOf, storeOf, cut, over, ofCells, asNat, natOr, calm, clashes, Acc.clash, ressOf, resOf, frz, frz.frzs, DV.flat, DV.flat.flats, imms]
    subst hQ
    simp
    refine ⟨hn, fun z hm hp => ?_⟩
    obtain ⟨j, hj, e⟩ := mem_nth hm
    exact hall j hj (e ▸ hp)
theorem indexF_ints {d : Nat} {v : IV} {f : FuncId} {caps : List DV} {H : PT HB} {n : Nat} {P : Int → Prop} {zs : List Int} (ho : DV.out.outs caps = true) (hs : Says d f caps H n (fun z : Int => .imm (.int .i64 z)) P (fun z => z ∈ zs)) (hv : Sl 1 v (zs.map ivI)) (hl : zs.length ≤ reachBytes) (lo : Nat) :
    Fe (K DG (d + 1) 199 [.imm v, .fnc f caps] H n lo) (fun x _ n' => n ≤ n' ∧ ∃ r : Int, x = .imm (.int .i64 r) ∧ (0 ≤ r ↔ ∃ z ∈ zs, P z)) := by
  have vl := hv.len
  simp only [List.length_map] at vl
  rw [D.k199]
  refine fn_dw rfl ?_
  simp [vl, B6, undT, fnEnd, argsT, PT.get_put, keep, opRun, ev, evs, evO, give, giveI, binOf, isNilK, PM.flip, putT, putL, putH, loadOf, storeOf, cut, over, ofCells, asNat, natOr, calm, clashes, Acc.clash, ressOf, resOf, frz, frz.frzs, DV.flat, DV.flat.flats, imms]
  refine loopIF (P := P) ho hs hv hl ⟨by simp [PT.get_put], by simp [PT.get_put], by simp [PT.get_put], by simp [PT.get_put], rfl, Nat.le_refl _, fun j hj => by omega⟩ ?_
  rintro e st' hn (⟨rfl, ⟨r, h4⟩, hm⟩ | ⟨rfl, hm⟩)
  · simp [h4, hn, B6, undT, fnEnd, argsT, PT.get_put, keep, opRun, ev, evs, evO, give, giveI, binOf, isNilK, PM.flip, putT, putL, putH, loadOf, storeOf, cut, over, ofCells, asNat, natOr, calm, clashes, Acc.clash, ressOf, resOf, frz, frz.frzs, DV.flat, DV.flat.flats, imms]
    exact hm
  · simp [hn, B6, undT, fnEnd, argsT, PT.get_put, keep, opRun, ev, evs, evO, give, giveI, binOf, isNilK, PM.flip, putT, putL, putH, loadOf, storeOf, cut, over, ofCells, asNat, natOr, calm, clashes, Acc.clash, ressOf, resOf, frz, frz.frzs, DV.flat, DV.flat.flats, imms]
    simpa using hm
theorem containsF_ints {d : Nat} {v : IV} {f : FuncId} {caps : List DV} {H : PT HB} {n : Nat} {P : Int → Prop} {zs : List Int} (ho : DV.out.outs caps = true) (hs : Says d f caps H n (fun z : Int => .imm (.int .i64 z)) P (fun z => z ∈ zs)) (hv : Sl 1 v (zs.map ivI)) (hl : zs.length ≤ reachBytes) (lo : Nat) :
    Fe (K DG (d + 2) 150 [.imm v, .fnc f caps] H n lo) (fun x _ n' => n ≤ n' ∧ x = .imm (.bool (dec (∃ z ∈ zs, P z)))) := by
  obtain ⟨x, H1, n1, e, hn, r, rfl, hr⟩ := indexF_ints ho hs hv hl n
  rw [D.k150]
  refine fn_dw rfl ?_
  rw [← dec_congr hr]
  simp [ho, e, B6, undT, fnEnd, argsT, PT.get_put, keep, opRun, ev, evs, evO, give, giveI, binOf, isNilK, PM.flip, putT, putL, putH, loadOf, storeOf, cut, over, ofCells, asNat, natOr, calm, clashes, Acc.clash, ressOf, resOf, frz, frz.frzs, DV.flat, DV.flat.flats, imms]
  refine ⟨hn, ?_⟩
  by_cases h : 0 ≤ r
  · simp [h, ilt_f h, dec_true]
  · simp [h, ilt_t (show r < 0 by omega), dec_false]
theorem loopIFn {d : Nat} {v : IV} {f : FuncId} {caps : List DV} {H : PT HB} {n0 : Nat} {P : Need → Prop} {xs : List Need} (ho : DV.out.outs caps = true) (hs : Says d f caps H n0 (fun x : Need => .agg [.imm (.int .i64 x.pt), .imm (.bool x.rev)]) P (fun x => x ∈ xs)) (hv : Sl 2 v (xs.map ivN)) (hl : xs.length ≤ reachBytes) {lo : Nat} {ks : List Kf} {st : St} {Q : Ex → St → Prop} (h : IIF v f caps H n0 P xs 0 st)
    (hk : ∀ e st', n0 ≤ st'.n → (e = .ret ∧ (∃ r : Nat, st'.T.get 4 = some (.imm (.int .i64 r))) ∧ (∃ x ∈ xs, P x)) ∨ (e = .exit 0 ∧ ¬ ∃ x ∈ xs, P x) → Bk DG (K DG d) lo e ks st' Q) :
    Wp DG (K DG d) lo D.l229_0 ks st Q := by
  refine dw_loop (N := xs.length) (small hl) (IIF v f caps H n0 P xs) (fun e st' => n0 ≤ st'.n ∧ ((e = .ret ∧ (∃ r : Nat, st'.T.get 4 = some (.imm (.int .i64 r))) ∧ (∃ x ∈ xs, P x)) ∨ (e = .exit 0 ∧ ¬ ∃ x ∈ xs, P x))) (fun i st hle hI => ?_) h (fun e s' h => hk e s' h.1 h.2)
  obtain ⟨h0, h1, h7, h8, hH, hn, hall⟩ := hI
  by_cases hi : i < xs.length
  · have hi' : (i : Int) < xs.length := by omega
    have hj' := ilt_t hi'
    have hw8 : IntKind.i64.wrap ((i : Int) + 1) = (i : Int) + 1 := wr_succ hi hl
    have ix := fun {h : Nat → Option HB} {n : Nat} => idx_sl (h := h) (n := n) hv (by omega) (k := .i64) (z := (i : Int)) (by omega) hi'
    obtain ⟨H1, n1, e1, e2⟩ := hs (nth xs i) (nth_mem hi) st.n hn
    have no : ¬ P (nth xs i) → ∀ j, j < i + 1 → ¬ P (nth xs j) := fun h j hj => by
      rcases Nat.lt_or_eq_of_le (Nat.le_of_lt_succ hj) with hj | rfl
      · exact hall j hj
      · exact h
    generalize hQ : (fun (e : Ex) (s' : St) => _) = Q'
    simp only [D.l229_0b]
    simp (config := {contextual := true, maxSteps := 2000000}) [h0, h1, h7, h8, hH, hj', hw8, ix, ivN, ho, e1, B6, undT, fnEnd, argsT, PT.get_put, keep, opRun, ev, evs, evO, give, giveI, binOf, isNilK, PM.flip, putT, putL, putH, loadOf, storeOf, cut, over, ofCells, asNat, natOr, calm, clashes, Acc.clash, ressOf, resOf, frz, frz.frzs, DV.flat, DV.flat.flats, imms]
    subst hQ
    simp only [IIF]
    refine ⟨fun a => .inr ⟨by simp, by omega, .inl ⟨trivial, ⟨i, by simp [PT.get_put]⟩, _, nth_mem hi, a⟩⟩, fun a => .inl ⟨trivial, hi, by simp [PT.get_put], by simp [PT.get_put], by simp [PT.get_put], by simp [PT.get_put], trivial, by omega, no a⟩⟩
  · obtain rfl : i = xs.length := by omega
    generalize hQ : (fun (e : Ex) (s' : St) => _) = Q'
    simp only [D.l229_0b]
    simp [h0, h1, h7, h8, B6, undT, fnEnd, argsT, PT.get_put, keep, opRun, ev, evs, evO, give, giveI, binOf, isNilK, PM.flip, putT, putL, putH, loadOf, storeOf, cut, over, ofCells, asNat, natOr, calm, clashes, Acc.clash, ressOf, resOf, frz, frz.frzs, DV.flat, DV.flat.flats, imms]
    subst hQ
    simp
    refine ⟨hn, fun z hm hp => ?_⟩
    obtain ⟨j, hj, e⟩ := mem_nth hm
    exact hall j hj (e ▸ hp)
theorem containsF_needs {d : Nat} {v : IV} {f : FuncId} {caps : List DV} {H : PT HB} {n : Nat} {P : Need → Prop} {xs : List Need} (ho : DV.out.outs caps = true) (hs : Says d f caps H n (fun x : Need => .agg [.imm (.int .i64 x.pt), .imm (.bool x.rev)]) P (fun x => x ∈ xs)) (hv : Sl 2 v (xs.map ivN)) (hl : xs.length ≤ reachBytes) (lo : Nat) :
    Fe (K DG (d + 2) 202 [.imm v, .fnc f caps] H n lo) (fun x _ n' => n ≤ n' ∧ x = .imm (.bool (dec (∃ x ∈ xs, P x)))) := by
  have key : Fe (K DG (d + 1) 229 [.imm v, .fnc f caps] H n n) (fun x _ n' => n ≤ n' ∧ ∃ r : Int, x = .imm (.int .i64 r) ∧ (0 ≤ r ↔ ∃ x ∈ xs, P x)) := by
    have vl := hv.len
    simp only [List.length_map] at vl
    rw [D.k229]
    refine fn_dw rfl ?_
    simp [vl, B6, undT, fnEnd, argsT, PT.get_put, keep, opRun, ev, evs, evO, give, giveI, binOf, isNilK, PM.flip, putT, putL, putH, loadOf, storeOf, cut, over, ofCells, asNat, natOr, calm, clashes, Acc.clash, ressOf, resOf, frz, frz.frzs, DV.flat, DV.flat.flats, imms]
    refine loopIFn (P := P) ho hs hv hl ⟨by simp [PT.get_put], by simp [PT.get_put], by simp [PT.get_put], by simp [PT.get_put], rfl, Nat.le_refl _, fun j hj => by omega⟩ ?_
    rintro e st' hn (⟨rfl, ⟨r, h4⟩, hm⟩ | ⟨rfl, hm⟩)
    · simp [h4, hn, B6, undT, fnEnd, argsT, PT.get_put, keep, opRun, ev, evs, evO, give, giveI, binOf, isNilK, PM.flip, putT, putL, putH, loadOf, storeOf, cut, over, ofCells, asNat, natOr, calm, clashes, Acc.clash, ressOf, resOf, frz, frz.frzs, DV.flat, DV.flat.flats, imms]
      exact hm
    · simp [hn, B6, undT, fnEnd, argsT, PT.get_put, keep, opRun, ev, evs, evO, give, giveI, binOf, isNilK, PM.flip, putT, putL, putH, loadOf, storeOf, cut, over, ofCells, asNat, natOr, calm, clashes, Acc.clash, ressOf, resOf, frz, frz.frzs, DV.flat, DV.flat.flats, imms]
      simpa using hm
  obtain ⟨x, H1, n1, e, hn, r, rfl, hr⟩ := key
  rw [D.k202]
  refine fn_dw rfl ?_
  rw [← dec_congr hr]
  simp [ho, e, B6, undT, fnEnd, argsT, PT.get_put, keep, opRun, ev, evs, evO, give, giveI, binOf, isNilK, PM.flip, putT, putL, putH, loadOf, storeOf, cut, over, ofCells, asNat, natOr, calm, clashes, Acc.clash, ressOf, resOf, frz, frz.frzs, DV.flat, DV.flat.flats, imms]
  refine ⟨hn, ?_⟩
  by_cases h : 0 ≤ r
  · simp [h, ilt_f h, dec_true]
  · simp [h, ilt_t (show r < 0 by omega), dec_false]
/-! ### table.Conflict -/
def CF (l : Lo) (r s : Nat) : Prop := r = s ∨ (nth l.rts r).fr = (nth l.rts s).fr ∨ (∃ z ∈ (nth l.rts r).path, z ∈ (nth l.rts s).path) ∨ ∃ x ∈ nd (nth l.rts r), (⟨x.pt, !x.rev⟩ : Need) ∈ nd (nth l.rts s)
/-- Routes with few needs. -/
def Few (l : Lo) : Prop := ∀ r, r < l.rts.length → (nth l.rts r).pts.length ≤ 100 ∧ (nth l.rts r).flk.length ≤ 100
theorem ISL.few {l : Lo} (h : ISL l) : Few l := fun r hr => ⟨by have := h.lq hr; omega, by have := h.lf hr; omega⟩
theorem says1 {d : Nat} (hd : 3 ≤ d) {r : Rt} (rk : RtOk r) {H : PT HB} {b n0 : Nat} (hb : H.get b = some ⟨6, [imms (ivRt r)]⟩) :
    Says d 200 [.ptr b 0 0] H n0 (fun z : Int => .imm (.int .i64 z)) (fun z => z ∈ r.path) (fun _ => True) := fun z _ n hn => by
  obtain ⟨d, rfl⟩ : ∃ d', d = d' + 1 := ⟨d - 1, by omega⟩
  have hc := contains_ints DG (D := d) (by omega) rk.p rk.lp z
  rw [dec_d] at hc
  have key : Fe (K DG (d + 1) 200 [.imm (.int .i64 z), .ptr b 0 0] H n n) (fun x _ n' => n ≤ n' ∧ x = .imm (.bool (dec (z ∈ r.path)))) := by
    rw [D.k200]
    refine fn_dw rfl ?_
    simp [hb, hc, ivRt, B6, undT, fnEnd, argsT, PT.get_put, keep, opRun, ev, evs, evO, give, giveI, binOf, isNilK, PM.flip, putT, putL, putH, loadOf, storeOf, cut, over, ofCells, asNat, natOr, calm, clashes, Acc.clash, ressOf, resOf, frz, frz.frzs, DV.flat, DV.flat.flats, imms]
  obtain ⟨x, H1, n1, e, h1, rfl⟩ := key
  exact ⟨H1, n1, e, h1⟩
theorem says2 {d : Nat} (hd : 5 ≤ d) {l : Lo} (ok : LoOk l) (fw : Few l) {s : Nat} (hs : s < l.rts.length) {H : PT HB} {a b n0 : Nat} (ha : H.get a = some ⟨4, [imms l.ivs]⟩) (hb : H.get b = some ⟨1, [[.imm (.int .i64 s)]]⟩) :
    Says d 204 [.ptr a 0 0, .ptr b 0 0] H n0 (fun x : Need => .agg [.imm (.int .i64 x.pt), .imm (.bool x.rev)]) (fun x => (⟨x.pt, !x.rev⟩ : Need) ∈ nd (nth l.rts s)) (fun _ => True) := fun x _ n hn => by
  obtain ⟨d, rfl⟩ : ∃ d', d = d' + 1 := ⟨d - 1, by omega⟩
  have hrb := rb3
  obtain ⟨v, e, hv⟩ := Needs_bl (D := d) (by omega) ok hs (fw s hs).1 (fw s hs).2
  have hl : (nd (nth l.rts s)).length ≤ reachBytes := by have := fw s hs; simp [nd]; omega
  have hc := contains_needs (D := d) (by omega) hv hl x.pt (!x.rev)
  have key : Fe (K DG (d + 1) 204 [.agg [.imm (.int .i64 x.pt), .imm (.bool x.rev)], .ptr a 0 0, .ptr b 0 0] H n n) (fun y _ n' => n ≤ n' ∧ y = .imm (.bool (dec ((⟨x.pt, !x.rev⟩ : Need) ∈ nd (nth l.rts s))))) := by
    rw [D.k204]
    refine fn_dw rfl ?_
    simp [ha, hb, hc, e, evParts, lay, B6, undT, fnEnd, argsT, PT.get_put, keep, opRun, ev, evs, evO, give, giveI, binOf, isNilK, PM.flip, putT, putL, putH, loadOf, storeOf, cut, over, ofCells, asNat, natOr, calm, clashes, Acc.clash, ressOf, resOf, frz, frz.frzs, DV.flat, DV.flat.flats, imms]
  obtain ⟨y, H1, n1, e, h1, rfl⟩ := key
  exact ⟨H1, n1, e, h1⟩
theorem Conflict_bl {D : Nat} (hD : 9 ≤ D) {l : Lo} (ok : LoOk l) (fw : Few l) {r s : Nat} (hr : r < l.rts.length) (hs : s < l.rts.length) :
    bl (K DG D) 154 [l.dv, .imm (.int .i64 r), .imm (.int .i64 s)] = some (.imm (.bool (dec (CF l r s)))) := by
  obtain ⟨d, rfl⟩ : ∃ d, D = d + 3 := ⟨D - 3, by omega⟩
  have hrb := rb3
  have rk := ok.or _ (nth_mem hr)
  have sk := ok.or _ (nth_mem hs)
  have hr' : (r : Int) < l.rts.length := by omega
  have hs' : (s : Int) < l.rts.length := by omega
  have ix := fun {h : Nat → Option HB} {n : Nat} => idx_sl (h := h) (n := n) ok.r (by omega) (k := .i64) (z := (r : Int)) (by omega) hr'
  have iy := fun {h : Nat → Option HB} {n : Nat} => idx_sl (h := h) (n := n) ok.r (by omega) (k := .i64) (z := (s : Int)) (by omega) hs'
  obtain ⟨vr, er, hvr⟩ := Needs_bl (D := d + 2) (by omega) ok hr (fw r hr).1 (fw r hr).2
  have hlr : (nd (nth l.rts r)).length ≤ reachBytes := by have := fw r hr; simp [nd]; omega
  refine bl_fe ?_
  rw [D.k154]
  refine fn_dw rfl ?_
  simp [ok.s.scal, ok.p.scal, ok.g.scal, ok.r.scal, rk.p.scal, rk.q.scal, rk.f.scal, sk.p.scal, sk.q.scal, sk.f.scal, ix, iy, er, ivRt, B6, undT, fnEnd, argsT, PT.get_put, keep, opRun, ev, evs, evO, give, giveI, binOf, isNilK, PM.flip, putT, putL, putH, loadOf, storeOf, cut, over, ofCells, asNat, natOr, calm, clashes, Acc.clash, ressOf, resOf, frz, frz.frzs, DV.flat, DV.flat.flats, imms]
  generalize hHc : (PT.put (PT.put (PT.put (PT.put PT.lf 0 _) 1 _) 3 _) 3 _ : PT HB) = Hc
  have g0 : Hc.get 0 = some ⟨4, [imms l.ivs]⟩ := by rw [← hHc]; simp [PT.get_put, imms]
  have g1 : Hc.get 1 = some ⟨1, [[.imm (.int .i64 s)]]⟩ := by rw [← hHc]; simp [PT.get_put]
  have g3 : Hc.get 3 = some ⟨6, [imms (ivRt (nth l.rts s))]⟩ := by rw [← hHc]; simp [PT.get_put, imms, ivRt]
  obtain ⟨x1, H1, n1, e1, hn1, rfl⟩ := containsF_ints (d := d) (n := 4) rfl (Says.all (says1 (by omega) sk g3)) rk.p rk.lp 4
  obtain ⟨x2, H2, n2, e2, hn2, rfl⟩ := containsF_needs (d := d) (n := n1) rfl (Says.all (says2 (by omega) ok fw hs g0 g1)) hvr hlr n1
  have hct : CF l r s ↔ (r = s ∨ (nth l.rts r).fr = (nth l.rts s).fr ∨ (∃ z ∈ (nth l.rts r).path, z ∈ (nth l.rts s).path) ∨ ∃ x ∈ nd (nth l.rts r), (⟨x.pt, !x.rev⟩ : Need) ∈ nd (nth l.rts s)) := Iff.rfl
  rw [dec_congr hct]
  generalize (∃ z ∈ (nth l.rts r).path, z ∈ (nth l.rts s).path) = P1 at e1 ⊢
  generalize (∃ x ∈ nd (nth l.rts r), (⟨x.pt, !x.rev⟩ : Need) ∈ nd (nth l.rts s)) = P2 at e2 ⊢
  have i0 : ((r : Int) = (s : Int)) = (r = s) := propext ⟨fun h => by omega, fun h => by omega⟩
  generalize hQ : Fin _ _ = Q
  simp (config := {contextual := true, maxSteps := 2000000}) [e1, e2, er, g0, g1, g3, i0, ivRt, B6, undT, fnEnd, argsT, PT.get_put, keep, opRun, ev, evs, evO, give, giveI, binOf, isNilK, PM.flip, putT, putL, putH, loadOf, storeOf, cut, over, ofCells, asNat, natOr, calm, clashes, Acc.clash, ressOf, resOf, frz, frz.frzs, DV.flat, DV.flat.flats, imms]
  subst hQ
  simp (config := {contextual := true}) [B6, undT, fnEnd, argsT, PT.get_put, keep, opRun, ev, evs, evO, give, giveI, binOf, isNilK, PM.flip, putT, putL, putH, loadOf, storeOf, cut, over, ofCells, asNat, natOr, calm, clashes, Acc.clash, ressOf, resOf, frz, frz.frzs, DV.flat, DV.flat.flats, imms]
end Go.Proofs.YtlknjgmhfimhbacGreatDoor.D
