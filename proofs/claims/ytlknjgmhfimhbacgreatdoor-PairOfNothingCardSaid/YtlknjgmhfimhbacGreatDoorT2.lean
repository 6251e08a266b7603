/-
  table.areNeeds over D.
  pointsmanref4.needs over D.
  table.isRoute over D.
  pointsmanref4.route over D.
  table.Is over D.
  pointsmanref4.Is over D.
-/
import Derived.Test.YtlknjgmhfimhbacGreatDoorT1b
import Derived.Test.YtlknjgmhfimhbacGreatDoorWp
-- TabN
set_option linter.unusedVariables false
set_option linter.unusedSimpArgs false
set_option maxHeartbeats 16000000
namespace Go.Proofs.YtlknjgmhfimhbacGreatDoor.D
open Go Go.PM Go.Lib
def NE1 (pts : List Pt) (xs : List Need) (path : List Int) (w : Bool) (i : Nat) : Prop :=
  InR (nth xs i).pt pts.length ∧ (0 < i → (nth xs (i - 1)).pt < (nth xs i).pt) ∧ ((nth pts (nth xs i).pt.toNat).sec ∈ path ↔ w = true)
theorem NE1_iff {pts : List Pt} {xs : List Need} {path : List Int} {w : Bool} {i : Nat} : NE1 pts xs path w i ↔ InR (nth xs i).pt pts.length ∧ (0 < i → (nth xs (i - 1)).pt < (nth xs i).pt) ∧ ((nth pts (nth xs i).pt.toNat).sec ∈ path ↔ w = true) := Iff.rfl
def NE (pts : List Pt) (xs : List Need) (path : List Int) (w : Bool) : Prop := ∀ i, i < xs.length → NE1 pts xs path w i
def INE (l : Lo) (qv pv : IV) (xs : List Need) (path : List Int) (w : Bool) (i : Nat) (st : St) : Prop :=
  st.T.get 1 = some (.imm qv) ∧ st.T.get 2 = some (.imm pv) ∧ st.T.get 3 = some (.imm (.bool w)) ∧ st.T.get 11 = some (.imm qv) ∧ st.T.get 12 = some (.imm (.int .i64 xs.length)) ∧ st.T.get 13 = some (.imm (.int .i64 i)) ∧
  (∃ id, st.T.get 4 = some (.lref 4 id 0) ∧ st.L.get 4 = some (.box id [.imm l.sv, .imm l.pv, .imm l.gv, .imm l.rv])) ∧ st.H = .lf ∧ ∀ j, j < i → NE1 l.pts xs path w j
theorem loopNE {d : Nat} (hd : 2 ≤ d) {l : Lo} (ok : LoOk l) {qv pv : IV} {xs : List Need} {path : List Int} {w : Bool} (hq : Sl 2 qv (xs.map ivN)) (hp : Sl 1 pv (path.map ivI)) (hxl : xs.length ≤ reachBytes) (hpl : path.length ≤ reachBytes)
    {ks : List Kf} {st : St} {Q : Ex → St → Prop} (h : INE l qv pv xs path w 0 st)
    (hk : ∀ e st', st'.H = .lf → (e = .ret ∧ st'.T.get 8 = some (.imm (.bool false)) ∧ ¬ NE l.pts xs path w) ∨ (e = .exit 0 ∧ NE l.pts xs path w) → Bk DG (K DG d) 0 e ks st' Q) :
    Wp DG (K DG d) 0 D.l212_0 ks st Q := by
  have hrb : reachBytes ≤ 2 ^ 50 := by decide
  refine dw_loop (N := xs.length) (small hxl) (INE l qv pv xs path w) (fun e st' => st'.H = .lf ∧ ((e = .ret ∧ st'.T.get 8 = some (.imm (.bool false)) ∧ ¬ NE l.pts xs path w) ∨ (e = .exit 0 ∧ NE l.pts xs path w)))
    (fun i st hle hI => ?_) h (fun e s' h => hk e s' h.1 h.2)
  obtain ⟨h1, h2, h3, h11, h12, h13, ⟨id, h4, hL⟩, hH, hall⟩ := hI
  have lp := ok.lp
  by_cases hi : i < xs.length
  · have hi' : (i : Int) < xs.length := by omega
    have hj' := ilt_t hi'
    have hw8 : IntKind.i64.wrap ((i : Int) + 1) = (i : Int) + 1 := wr_succ hi hxl
    have hw9 : IntKind.i64.wrap ((i : Int) - 1) = (i : Int) - 1 := wr_id (by omega) (by omega)
    have hwp : IntKind.i64.wrap ((l.pts.length : Int) - 1) = (l.pts.length : Int) - 1 := wr_id (by omega) (by omega)
    have hin : ∀ z : Int, bl (K DG d) 157 [.imm (.int .i64 z), .imm (.int .i64 0), .imm (.int .i64 ((l.pts.length : Int) - 1))] = some (.imm (.bool (decide (InR z l.pts.length)))) := fun z => by
      rw [isIn_eq DG (D := d) (by omega) z 0 ((l.pts.length : Int) - 1)]
      congr 3
      exact decide_eq_decide.2 ⟨fun h => ⟨by omega, by omega⟩, fun h => by unfold InR at h; omega⟩
    have hc := fun z => contains_ints DG (D := d) (by omega) hp hpl z
    have ix := fun {h : Nat → Option HB} {n : Nat} => idx_sl (h := h) (n := n) hq (by omega) (k := .i64) (z := (i : Int)) (by omega) hi'
    have ip := fun {h : Nat → Option HB} {n : Nat} {z : Int} => idx_in (h := h) (n := n) ok.p (by omega) (k := .i64) (z := z)
    have pl := ok.p.len
    simp only [List.length_map] at pl
    have no : ¬ NE1 l.pts xs path w i → ¬ NE l.pts xs path w := fun h1 h2 => h1 (h2 i hi)
    have yes : NE1 l.pts xs path w i → ∀ j, j < i + 1 → NE1 l.pts xs path w j := fun h j hj => by
      rcases Nat.lt_or_eq_of_le (Nat.le_of_lt_succ hj) with hj | rfl
      · exact hall j hj
      · exact h
    by_cases i0 : i = 0
    · have hj0 : ILt 0 i = False := ilt_f (by omega)
      cases w
      all_goals
        generalize hQ : (fun (e : Ex) (s' : St) => _) = Q'
        simp only [D.l212_0b]
        simp (config := {contextual := true, maxSteps := 2000000}) [h1, h2, h3, h4, h11, h12, h13, hL, hH, hj', hj0, hw8, hwp, hin, hc, ix, ip, pl, ivN, ivP, B6, undT, fnEnd, argsT, PT.get_put, keep, opRun, ev, evs, evO, give, giveI, binOf, isNilK, PM.flip, putT, putL, putH, loadOf, storeOf, cut, over, ofCells, asNat, natOr, calm, clashes, Acc.clash, ressOf, resOf, frz, frz.frzs, DV.flat, DV.flat.flats, imms]
        subst hQ
        simp [INE, PT.get_put, hi]
        clear hin hc ix ip
        rw [NE1_iff] at no yes
        generalize (∀ j, j < i + 1 → NE1 l.pts xs path _ j) = Y at yes ⊢
        generalize NE l.pts xs path _ = X at no ⊢
        try simp only [ilt_iff]
        grind
    · have hj0 : ILt 0 i := by unfold ILt; omega
      have ix2 := fun {h : Nat → Option HB} {n : Nat} => idx_sl (h := h) (n := n) hq (by omega) (k := .i64) (z := (i : Int) - 1) (by omega) (by omega)
      have e1 : ((i : Int) - 1).toNat = i - 1 := by omega
      cases w
      all_goals
        generalize hQ : (fun (e : Ex) (s' : St) => _) = Q'
        simp only [D.l212_0b]
        simp (config := {contextual := true, maxSteps := 2000000}) [h1, h2, h3, h4, h11, h12, h13, hL, hH, hj', hj0, hw8, hw9, hwp, hin, hc, ix, ix2, ip, e1, pl, ivN, ivP, B6, undT, fnEnd, argsT, PT.get_put, keep, opRun, ev, evs, evO, give, giveI, binOf, isNilK, PM.flip, putT, putL, putH, loadOf, storeOf, cut, over, ofCells, asNat, natOr, calm, clashes, Acc.clash, ressOf, resOf, frz, frz.frzs, DV.flat, DV.flat.flats, imms]
        subst hQ
        simp [INE, PT.get_put, hi]
        clear hin hc ix ip
        rw [NE1_iff] at no yes
        generalize (∀ j, j < i + 1 → NE1 l.pts xs path _ j) = Y at yes ⊢
        generalize NE l.pts xs path _ = X at no ⊢
        try simp only [ilt_iff]
        grind
  · obtain rfl : i = xs.length := by omega
    simp only [D.l212_0b]
    simp [h12, h13, hH, B6, undT, fnEnd, argsT, PT.get_put, keep, opRun, ev, evs, evO, give, giveI, binOf, isNilK, PM.flip, putT, putL, putH, loadOf, storeOf, cut, over, ofCells, asNat, natOr, calm, clashes, Acc.clash, ressOf, resOf, frz, frz.frzs, DV.flat, DV.flat.flats, imms]
    exact hall
theorem areNeeds_bl {D : Nat} (hD : 3 ≤ D) {l : Lo} (ok : LoOk l) {qv pv : IV} {xs : List Need} {path : List Int} (w : Bool) (hq : Sl 2 qv (xs.map ivN)) (hp : Sl 1 pv (path.map ivI)) (hxl : xs.length ≤ reachBytes) (hpl : path.length ≤ reachBytes) :
    bl (K DG D) 212 [l.dv, .imm qv, .imm pv, .imm (.bool w)] = some (.imm (.bool (dec (NE l.pts xs path w)))) := by
  obtain ⟨d, rfl⟩ : ∃ d, D = d + 1 := ⟨D - 1, by omega⟩
  refine bl_fe ?_
  rw [D.k212]
  refine fn_dw rfl ?_
  have ql := hq.len
  simp only [List.length_map] at ql
  generalize hQ : Fin _ _ = Q
  simp [ok.s.scal, ok.p.scal, ok.g.scal, ok.r.scal, ql, B6, undT, fnEnd, argsT, PT.get_put, keep, opRun, ev, evs, evO, give, giveI, binOf, isNilK, PM.flip, putT, putL, putH, loadOf, storeOf, cut, over, ofCells, asNat, natOr, calm, clashes, Acc.clash, ressOf, resOf, frz, frz.frzs, DV.flat, DV.flat.flats, imms]
  refine loopNE (l := l) (xs := xs) (path := path) (w := w) (by omega) ok hq hp hxl hpl ⟨by simp [PT.get_put], by simp [PT.get_put], by simp [PT.get_put], by simp [PT.get_put], by simp [PT.get_put], by simp [PT.get_put], ⟨0, by simp [PT.get_put], by simp [PT.get_put]⟩, rfl, fun j hj => by omega⟩ ?_
  rintro e st' hH (⟨rfl, h8, hn⟩ | ⟨rfl, hn⟩)
  · subst hQ
    simp [h8, hn, B6, undT, fnEnd, argsT, PT.get_put, keep, opRun, ev, evs, evO, give, giveI, binOf, isNilK, PM.flip, putT, putL, putH, loadOf, storeOf, cut, over, ofCells, asNat, natOr, calm, clashes, Acc.clash, ressOf, resOf, frz, frz.frzs, DV.flat, DV.flat.flats, imms]
  · subst hQ
    simp [hn, B6, undT, fnEnd, argsT, PT.get_put, keep, opRun, ev, evs, evO, give, giveI, binOf, isNilK, PM.flip, putT, putL, putH, loadOf, storeOf, cut, over, ofCells, asNat, natOr, calm, clashes, Acc.clash, ressOf, resOf, frz, frz.frzs, DV.flat, DV.flat.flats, imms]
end Go.Proofs.YtlknjgmhfimhbacGreatDoor.D

-- TabO
set_option linter.unusedVariables false
set_option linter.unusedSimpArgs false
set_option maxHeartbeats 16000000
namespace Go.Proofs.YtlknjgmhfimhbacGreatDoor.D
open Go Go.PM Go.Lib
def INE4 (l : Lo) (qv pv : IV) (xs : List Need) (path : List Int) (w : Bool) (i : Nat) (st : St) : Prop :=
  st.T.get 1 = some (.imm qv) ∧ st.T.get 2 = some (.imm pv) ∧ st.T.get 3 = some (.imm (.bool w)) ∧ st.T.get 9 = some (.imm (.int .i64 i)) ∧
  (∃ id, st.T.get 4 = some (.lref 4 id 0) ∧ st.L.get 4 = some (.box id [.imm l.sv, .imm l.pv, .imm l.gv, .imm l.rv])) ∧ st.H = .lf ∧ ∀ j, j < i → NE1 l.pts xs path w j
theorem loopNE4 {d : Nat} (hd : 2 ≤ d) {l : Lo} (ok : LoOk l) {qv pv : IV} {xs : List Need} {path : List Int} {w : Bool} (hq : Sl 2 qv (xs.map ivN)) (hp : Sl 1 pv (path.map ivI)) (hxl : xs.length ≤ reachBytes) (hpl : path.length ≤ reachBytes)
    {ks : List Kf} {st : St} {Q : Ex → St → Prop} (h : INE4 l qv pv xs path w 0 st)
    (hk : ∀ e st', st'.H = .lf → (e = .ret ∧ st'.T.get 8 = some (.imm (.bool false)) ∧ ¬ NE l.pts xs path w) ∨ (e = .exit 0 ∧ NE l.pts xs path w) → Bk DG (K DG d) 0 e ks st' Q) :
    Wp DG (K DG d) 0 D.l99_0 ks st Q := by
  have hrb : reachBytes ≤ 2 ^ 50 := by decide
  refine dw_loop (N := xs.length) (small hxl) (INE4 l qv pv xs path w) (fun e st' => st'.H = .lf ∧ ((e = .ret ∧ st'.T.get 8 = some (.imm (.bool false)) ∧ ¬ NE l.pts xs path w) ∨ (e = .exit 0 ∧ NE l.pts xs path w)))
    (fun i st hle hI => ?_) h (fun e s' h => hk e s' h.1 h.2)
  obtain ⟨h1, h2, h3, h9, ⟨id, h4, hL⟩, hH, hall⟩ := hI
  have lp := ok.lp
  have ql := hq.len
  simp only [List.length_map] at ql
  by_cases hi : i < xs.length
  · have hi' : (i : Int) < xs.length := by omega
    have hj' := ilt_t hi'
    have hw8 : IntKind.i64.wrap ((i : Int) + 1) = (i : Int) + 1 := wr_succ hi hxl
    have hw9 : IntKind.i64.wrap ((i : Int) - 1) = (i : Int) - 1 := wr_id (by omega) (by omega)
    have hc := fun z => in_bl (D := d) (by omega) hp hpl z
    have ix := fun {h : Nat → Option HB} {n : Nat} => idx_sl (h := h) (n := n) hq (by omega) (k := .i64) (z := (i : Int)) (by omega) hi'
    have ip := fun {h : Nat → Option HB} {n : Nat} {z : Int} => idx_lt (h := h) (n := n) ok.p (by omega) (k := .i64) (z := z)
    have pl := ok.p.len
    simp only [List.length_map] at pl
    have no : ¬ NE1 l.pts xs path w i → ¬ NE l.pts xs path w := fun h1 h2 => h1 (h2 i hi)
    have yes : NE1 l.pts xs path w i → ∀ j, j < i + 1 → NE1 l.pts xs path w j := fun h j hj => by
      rcases Nat.lt_or_eq_of_le (Nat.le_of_lt_succ hj) with hj | rfl
      · exact hall j hj
      · exact h
    by_cases i0 : i = 0
    · have hj0 : ILt 0 i = False := ilt_f (by omega)
      cases w
      all_goals
        generalize hQ : (fun (e : Ex) (s' : St) => _) = Q'
        simp only [D.l99_0b]
        simp (config := {contextual := true, maxSteps := 2000000}) [h1, h2, h3, h4, h9, hL, ql, hH, hj', hj0, hw8, hc, ix, ip, pl, ivN, ivP, B6, undT, fnEnd, argsT, PT.get_put, keep, opRun, ev, evs, evO, give, giveI, binOf, isNilK, PM.flip, putT, putL, putH, loadOf, storeOf, cut, over, ofCells, asNat, natOr, calm, clashes, Acc.clash, ressOf, resOf, frz, frz.frzs, DV.flat, DV.flat.flats, imms]
        subst hQ
        simp [INE4, PT.get_put, hi]
        clear hc ix ip
        rw [NE1_iff] at no yes
        generalize (∀ j, j < i + 1 → NE1 l.pts xs path _ j) = Y at yes ⊢
        generalize NE l.pts xs path _ = X at no ⊢
        simp only [ilt_iff, InR] at *
        grind
    · have hj0 : ILt 0 i := by unfold ILt; omega
      have ix2 := fun {h : Nat → Option HB} {n : Nat} => idx_sl (h := h) (n := n) hq (by omega) (k := .i64) (z := (i : Int) - 1) (by omega) (by omega)
      have e1 : ((i : Int) - 1).toNat = i - 1 := by omega
      cases w
      all_goals
        generalize hQ : (fun (e : Ex) (s' : St) => _) = Q'
        simp only [D.l99_0b]
        simp (config := {contextual := true, maxSteps := 2000000}) [h1, h2, h3, h4, h9, hL, ql, hH, hj', hj0, hw8, hw9, hc, ix, ix2, ip, e1, pl, ivN, ivP, B6, undT, fnEnd, argsT, PT.get_put, keep, opRun, ev, evs, evO, give, giveI, binOf, isNilK, PM.flip, putT, putL, putH, loadOf, storeOf, cut, over, ofCells, asNat, natOr, calm, clashes, Acc.clash, ressOf, resOf, frz, frz.frzs, DV.flat, DV.flat.flats, imms]
        subst hQ
        simp [INE4, PT.get_put, hi]
        clear hc ix ip
        rw [NE1_iff] at no yes
        generalize (∀ j, j < i + 1 → NE1 l.pts xs path _ j) = Y at yes ⊢
        generalize NE l.pts xs path _ = X at no ⊢
        simp only [ilt_iff, InR] at *
        grind
  · obtain rfl : i = xs.length := by omega
    simp only [D.l99_0b]
    simp [h1, h9, ql, hH, B6, undT, fnEnd, argsT, PT.get_put, keep, opRun, ev, evs, evO, give, giveI, binOf, isNilK, PM.flip, putT, putL, putH, loadOf, storeOf, cut, over, ofCells, asNat, natOr, calm, clashes, Acc.clash, ressOf, resOf, frz, frz.frzs, DV.flat, DV.flat.flats, imms]
    exact hall
theorem needs4_bl {D : Nat} (hD : 3 ≤ D) {l : Lo} (ok : LoOk l) {qv pv : IV} {xs : List Need} {path : List Int} (w : Bool) (hq : Sl 2 qv (xs.map ivN)) (hp : Sl 1 pv (path.map ivI)) (hxl : xs.length ≤ reachBytes) (hpl : path.length ≤ reachBytes) :
    bl (K DG D) 99 [l.dv, .imm qv, .imm pv, .imm (.bool w)] = some (.imm (.bool (dec (NE l.pts xs path w)))) := by
  obtain ⟨d, rfl⟩ : ∃ d, D = d + 1 := ⟨D - 1, by omega⟩
  refine bl_fe ?_
  rw [D.k99]
  refine fn_dw rfl ?_
  have ql := hq.len
  simp only [List.length_map] at ql
  generalize hQ : Fin _ _ = Q
  simp [ok.s.scal, ok.p.scal, ok.g.scal, ok.r.scal, ql, B6, undT, fnEnd, argsT, PT.get_put, keep, opRun, ev, evs, evO, give, giveI, binOf, isNilK, PM.flip, putT, putL, putH, loadOf, storeOf, cut, over, ofCells, asNat, natOr, calm, clashes, Acc.clash, ressOf, resOf, frz, frz.frzs, DV.flat, DV.flat.flats, imms]
  refine loopNE4 (l := l) (xs := xs) (path := path) (w := w) (by omega) ok hq hp hxl hpl ⟨by simp [PT.get_put], by simp [PT.get_put], by simp [PT.get_put], by simp [PT.get_put], ⟨0, by simp [PT.get_put], by simp [PT.get_put]⟩, rfl, fun j hj => by omega⟩ ?_
  rintro e st' hH (⟨rfl, h8, hn⟩ | ⟨rfl, hn⟩)
  · subst hQ
    simp [h8, hn, B6, undT, fnEnd, argsT, PT.get_put, keep, opRun, ev, evs, evO, give, giveI, binOf, isNilK, PM.flip, putT, putL, putH, loadOf, storeOf, cut, over, ofCells, asNat, natOr, calm, clashes, Acc.clash, ressOf, resOf, frz, frz.frzs, DV.flat, DV.flat.flats, imms]
  · subst hQ
    simp [hn, B6, undT, fnEnd, argsT, PT.get_put, keep, opRun, ev, evs, evO, give, giveI, binOf, isNilK, PM.flip, putT, putL, putH, loadOf, storeOf, cut, over, ofCells, asNat, natOr, calm, clashes, Acc.clash, ressOf, resOf, frz, frz.frzs, DV.flat, DV.flat.flats, imms]
end Go.Proofs.YtlknjgmhfimhbacGreatDoor.D

-- TabP
set_option linter.unusedVariables false
set_option linter.unusedSimpArgs false
set_option maxHeartbeats 16000000
namespace Go.Proofs.YtlknjgmhfimhbacGreatDoor.D
open Go Go.PM Go.Lib
def cnt (pts : List Pt) (path : List Int) : Nat := (pts.filter fun p => decide (p.sec ∈ path)).length
theorem cnt_le {pts : List Pt} {path : List Int} : cnt pts path ≤ pts.length := List.length_filter_le ..
theorem take_nth {α : Type} [Inhabited α] {xs : List α} {i : Nat} (h : i < xs.length) : xs.take (i + 1) = xs.take i ++ [nth xs i] := by
  rw [List.take_add_one, nth_get h]; rfl
theorem cnt_in {pts : List Pt} {path : List Int} {i : Nat} (h : i < pts.length) (hm : (nth pts i).sec ∈ path) : cnt (pts.take (i + 1)) path = cnt (pts.take i) path + 1 := by
  simp [cnt, take_nth h, List.filter_append, hm]
theorem cnt_out {pts : List Pt} {path : List Int} {i : Nat} (h : i < pts.length) (hm : (nth pts i).sec ∉ path) : cnt (pts.take (i + 1)) path = cnt (pts.take i) path := by
  simp [cnt, take_nth h, List.filter_append, hm]
theorem PA_nth {secs : Nat} {zs : List Int} : PA secs zs ↔ ∀ i, i < zs.length → InR (nth zs i) secs ∧ nth zs i ∉ zs.take i := by
  constructor
  · intro h i hi
    have := h i _ (nth_get hi)
    exact ⟨this.1, this.2⟩
  · intro h i z hz
    have hi := (List.getElem?_eq_some_iff.1 hz).1
    rw [nth_get hi] at hz
    cases hz
    have := h i hi
    exact ⟨this.1, this.2⟩
structure RT (l : Lo) (r : Rt) : Prop where
  fr : InR r.fr l.sigs.length
  to : InR r.to l.sigs.length
  ne : ¬ r.fr = r.to
  pa : PA l.secs.length r.path
  p1 : 1 ≤ r.path.length
  p5 : r.path.length ≤ 5
  np : NE l.pts r.pts r.path true
  nf : NE l.pts r.flk r.path false
  ct : cnt l.pts r.path = r.pts.length
theorem isPath_dec {D : Nat} (hD : 3 ≤ D) {l : Lo} (ok : LoOk l) {v : IV} {zs : List Int} (hl : zs.length ≤ reachBytes) (hv : Sl 1 v (zs.map ivI)) :
    bl (K DG D) 211 [l.dv, .imm v] = some (.imm (.bool (dec (PA l.secs.length zs ∧ 1 ≤ zs.length ∧ zs.length ≤ 5)))) := by
  have ls := ok.s.len
  simp only [List.length_map] at ls
  obtain ⟨b, e, h⟩ := isPath_bl hD (w0 := l.sv) (w1 := l.pv) (w2 := l.gv) (w3 := l.rv) ls ⟨ok.s.scal, ok.p.scal, ok.g.scal, ok.r.scal⟩ ok.ls hl hv
  rw [e]
  have : b = dec (PA l.secs.length zs ∧ 1 ≤ zs.length ∧ zs.length ≤ 5) := by
    cases b with
    | true => rw [dec_t (h.1 rfl)]
    | false => rw [dec_f fun h' => by have := h.2 h'; cases this]
  rw [this]
def ICT (l : Lo) (r : Rt) (i : Nat) (st : St) : Prop := st.T.get 6 = some (.imm (.int .i64 (cnt (l.pts.take i) r.path))) ∧ st.T.get 58 = some (.imm l.pv) ∧ st.T.get 59 = some (.imm (.int .i64 l.pts.length)) ∧ st.T.get 60 = some (.imm (.int .i64 i)) ∧
  (∃ id, st.T.get 3 = some (.lref 3 id 0) ∧ st.L.get 3 = some (.box id (imms (ivRt r)))) ∧ st.H = .lf
theorem loopCT {d : Nat} (hd : 2 ≤ d) {l : Lo} (ok : LoOk l) {r : Rt} (rk : RtOk r) {ks : List Kf} {st : St} {Q : Ex → St → Prop} (h : ICT l r 0 st)
    (hk : ∀ st', ICT l r l.pts.length st' → Bk DG (K DG d) 0 (.exit 0) ks st' Q) :
    Wp DG (K DG d) 0 D.l158_0 ks st Q := by
  have hrb : reachBytes ≤ 2 ^ 50 := by decide
  refine dw_loop (N := l.pts.length) (small ok.lp) (ICT l r) (fun e st' => e = .exit 0 ∧ ICT l r l.pts.length st')
    (fun i st hle hI => ?_) h (fun e s' h => by rw [h.1]; exact hk s' h.2)
  obtain ⟨h6, h58, h59, h60, ⟨id, h3, hL⟩, hH⟩ := hI
  have lp := ok.lp
  by_cases hi : i < l.pts.length
  · have hi' : (i : Int) < l.pts.length := by omega
    have hj' := ilt_t hi'
    have hcl : cnt (l.pts.take i) r.path ≤ i := by have := @cnt_le (l.pts.take i) r.path; rw [List.length_take] at this; omega
    have hw8 : IntKind.i64.wrap ((i : Int) + 1) = (i : Int) + 1 := wr_succ hi lp
    have hwc : IntKind.i64.wrap ((cnt (l.pts.take i) r.path : Int) + 1) = (cnt (l.pts.take i) r.path : Int) + 1 := wr_id (by omega) (by omega)
    have hc := fun z => contains_ints DG (D := d) (by omega) rk.p rk.lp z
    have ix := fun {h : Nat → Option HB} {n : Nat} => idx_sl (h := h) (n := n) ok.p (by omega) (k := .i64) (z := (i : Int)) (by omega) hi'
    have ci := cnt_in (path := r.path) hi
    have co := cnt_out (path := r.path) hi
    generalize hQ : (fun (e : Ex) (s' : St) => _) = Q'
    simp only [D.l158_0b]
    simp (config := {contextual := true, maxSteps := 2000000}) [h3, h6, h58, h59, h60, hL, hH, hj', hw8, hwc, hc, ix, ivP, ivRt, B6, undT, fnEnd, argsT, PT.get_put, keep, opRun, ev, evs, evO, give, giveI, binOf, isNilK, PM.flip, putT, putL, putH, loadOf, storeOf, cut, over, ofCells, asNat, natOr, calm, clashes, Acc.clash, ressOf, resOf, frz, frz.frzs, DV.flat, DV.flat.flats, imms]
    subst hQ
    simp (config := {contextual := true}) [ICT, PT.get_put, hi, ivRt, ci, co, imms]
  · obtain rfl : i = l.pts.length := by omega
    generalize hQ : (fun (e : Ex) (s' : St) => _) = Q'
    simp only [D.l158_0b]
    simp [h3, h6, h58, h59, h60, hL, hH, B6, undT, fnEnd, argsT, PT.get_put, keep, opRun, ev, evs, evO, give, giveI, binOf, isNilK, PM.flip, putT, putL, putH, loadOf, storeOf, cut, over, ofCells, asNat, natOr, calm, clashes, Acc.clash, ressOf, resOf, frz, frz.frzs, DV.flat, DV.flat.flats, imms]
    subst hQ
    simp [ICT, PT.get_put, h3, h6, h58, h59, h60, hL, hH, ivRt, imms]
theorem isRoute_bl {D : Nat} (hD : 4 ≤ D) {l : Lo} (ok : LoOk l) {r : Rt} (rk : RtOk r) :
    bl (K DG D) 158 [l.dv, .agg (imms (ivRt r))] = some (.imm (.bool (dec (RT l r)))) := by
  have hrb : reachBytes ≤ 2 ^ 50 := by decide
  obtain ⟨d, rfl⟩ : ∃ d, D = d + 1 := ⟨D - 1, by omega⟩
  refine bl_fe ?_
  rw [D.k158]
  refine fn_dw rfl ?_
  have lg := ok.lg
  have gl := ok.g.len
  have pl := ok.p.len
  have ql := rk.q.len
  simp only [List.length_map] at gl pl ql
  have hwp : IntKind.i64.wrap ((l.sigs.length : Int) - 1) = (l.sigs.length : Int) - 1 := wr_id (by omega) (by omega)
  have hin : ∀ z : Int, bl (K DG d) 157 [.imm (.int .i64 z), .imm (.int .i64 0), .imm (.int .i64 ((l.sigs.length : Int) - 1))] = some (.imm (.bool (dec (InR z l.sigs.length)))) := fun z => by
    rw [isIn_eq DG (D := d) (by omega) z 0 ((l.sigs.length : Int) - 1), dec_d]
    congr 3
    exact dec_congr ⟨fun h => ⟨by omega, by omega⟩, fun h => by unfold InR at h; omega⟩
  have hpa := isPath_dec (D := d) (by omega) ok rk.lp rk.p
  have hnp := areNeeds_bl (D := d) (by omega) ok true rk.q rk.p rk.lq rk.lp
  have hnf := areNeeds_bl (D := d) (by omega) ok false rk.f rk.p rk.lf rk.lp
  have nfr : ¬ InR r.fr l.sigs.length → ¬ RT l r := fun h h' => h h'.fr
  have nto : ¬ InR r.to l.sigs.length → ¬ RT l r := fun h h' => h h'.to
  have nne : r.fr = r.to → ¬ RT l r := fun h h' => h'.ne h
  have npa : ¬ (PA l.secs.length r.path ∧ 1 ≤ r.path.length ∧ r.path.length ≤ 5) → ¬ RT l r := fun h h' => h ⟨h'.pa, h'.p1, h'.p5⟩
  have nnp : ¬ NE l.pts r.pts r.path true → ¬ RT l r := fun h h' => h h'.np
  have nnf : ¬ NE l.pts r.flk r.path false → ¬ RT l r := fun h h' => h h'.nf
  generalize hPA : (PA l.secs.length r.path ∧ 1 ≤ r.path.length ∧ r.path.length ≤ 5) = PAP at hpa npa
  generalize hQ : Fin _ _ = Q
  simp (config := {contextual := true, maxSteps := 2000000}) [ok.s.scal, ok.p.scal, ok.g.scal, ok.r.scal, rk.p.scal, rk.q.scal, rk.f.scal, gl, pl, ql, hwp, hin, hpa, hnp, hnf, ivRt, B6, undT, fnEnd, argsT, PT.get_put, keep, opRun, ev, evs, evO, give, giveI, binOf, isNilK, PM.flip, putT, putL, putH, loadOf, storeOf, cut, over, ofCells, asNat, natOr, calm, clashes, Acc.clash, ressOf, resOf, frz, frz.frzs, DV.flat, DV.flat.flats, imms]
  subst hQ
  simp (config := {contextual := true}) [nfr, nto, nne, npa, nnp, nnf, B6, undT, fnEnd, argsT, PT.get_put, keep, opRun, ev, evs, evO, give, giveI, binOf, isNilK, PM.flip, putT, putL, putH, loadOf, storeOf, cut, over, ofCells, asNat, natOr, calm, clashes, Acc.clash, ressOf, resOf, frz, frz.frzs, DV.flat, DV.flat.flats, imms]
  intro a1 a2 a3 a4 a5 a6
  refine loopCT (l := l) (r := r) (by omega) ok rk ⟨by simp [PT.get_put, cnt], by simp [PT.get_put], by simp [PT.get_put], by simp [PT.get_put], ⟨1, by simp [PT.get_put], by simp [PT.get_put, ivRt, imms]⟩, rfl⟩ ?_
  rintro st' ⟨h6, h58, h59, h60, ⟨id, h3, hL⟩, hH⟩
  have hct : RT l r ↔ cnt l.pts r.path = r.pts.length := ⟨fun h => h.ct, fun h => ⟨a1, a2, a3, (hPA ▸ a4).1, (hPA ▸ a4).2.1, (hPA ▸ a4).2.2, a5, a6, h⟩⟩
  rw [List.take_length] at h6
  simp [h3, h6, hL, hH, ql, ivRt, B6, undT, fnEnd, argsT, PT.get_put, keep, opRun, ev, evs, evO, give, giveI, binOf, isNilK, PM.flip, putT, putL, putH, loadOf, storeOf, cut, over, ofCells, asNat, natOr, calm, clashes, Acc.clash, ressOf, resOf, frz, frz.frzs, DV.flat, DV.flat.flats, imms]
  rw [dec_congr hct, ← dec_d]
  exact decide_eq_decide.2 ⟨fun h => by omega, fun h => by omega⟩
end Go.Proofs.YtlknjgmhfimhbacGreatDoor.D

-- TabQ
set_option linter.unusedVariables false
set_option linter.unusedSimpArgs false
set_option maxHeartbeats 16000000
namespace Go.Proofs.YtlknjgmhfimhbacGreatDoor.D
open Go Go.PM Go.Lib
def Box (st : St) (k : Nat) (vs : List IV) : Prop := ∃ id, st.T.get k = some (.lref k id 0) ∧ st.L.get k = some (.box id (imms vs))
abbrev Lo.ivs (l : Lo) : List IV := [l.sv, l.pv, l.gv, l.rv]
def PA1 (secs : Nat) (zs : List Int) (i : Nat) : Prop := InR (nth zs i) secs ∧ nth zs i ∉ zs.take i
theorem PA1_iff {secs : Nat} {zs : List Int} {i : Nat} : PA1 secs zs i ↔ InR (nth zs i) secs ∧ nth zs i ∉ zs.take i := Iff.rfl
def IPT (l : Lo) (r : Rt) (i : Nat) (st : St) : Prop := Box st 2 l.ivs ∧ Box st 3 (ivRt r) ∧ st.T.get 5 = some (.imm (.int .i64 i)) ∧ st.H = .lf ∧ ∀ j, j < i → PA1 l.secs.length r.path j
theorem loopPT {d : Nat} (hd : 1 ≤ d) {l : Lo} (ok : LoOk l) {r : Rt} (rk : RtOk r) {ks : List Kf} {st : St} {Q : Ex → St → Prop} (h : IPT l r 0 st)
    (hk : ∀ e st', st'.H = .lf → (e = .ret ∧ st'.T.get 4 = some (.imm (.bool false)) ∧ ¬ PA l.secs.length r.path) ∨ (e = .exit 0 ∧ IPT l r r.path.length st') → Bk DG (K DG d) 0 e ks st' Q) :
    Wp DG (K DG d) 0 D.l40_0 ks st Q := by
  have hrb : reachBytes ≤ 2 ^ 50 := by decide
  refine dw_loop (N := r.path.length) (small rk.lp) (IPT l r) (fun e st' => st'.H = .lf ∧ ((e = .ret ∧ st'.T.get 4 = some (.imm (.bool false)) ∧ ¬ PA l.secs.length r.path) ∨ (e = .exit 0 ∧ IPT l r r.path.length st')))
    (fun i st hle hI => ?_) h (fun e s' h => hk e s' h.1 h.2)
  obtain ⟨⟨id2, h2, hL2⟩, ⟨id3, h3, hL3⟩, h5, hH, hall⟩ := hI
  have sl := ok.s.len
  have zl := rk.p.len
  simp only [List.length_map] at sl zl
  have lp := rk.lp
  by_cases hi : i < r.path.length
  · have hi' : (i : Int) < r.path.length := by omega
    have hj' := ilt_t hi'
    have hw8 : IntKind.i64.wrap ((i : Int) + 1) = (i : Int) + 1 := wr_succ hi rk.lp
    have hc := fun z => in_bl (D := d) (by omega) (takeV_sl rk.p i) (by rw [List.length_take]; omega) z
    have ix := fun {h : Nat → Option HB} {n : Nat} => idx_sl (h := h) (n := n) rk.p (by omega) (k := .i64) (z := (i : Int)) (by omega) hi'
    have tk := fun {h : Nat → Option HB} {n : Nat} => slc_to (h := h) (n := n) rk.p (i := i) (by omega)
    have no : ¬ PA1 l.secs.length r.path i → ¬ PA l.secs.length r.path := fun h1 h2 => h1 (PA_nth.1 h2 i hi)
    have yes : PA1 l.secs.length r.path i → ∀ j, j < i + 1 → PA1 l.secs.length r.path j := fun h j hj => by
      rcases Nat.lt_or_eq_of_le (Nat.le_of_lt_succ hj) with hj | rfl
      · exact hall j hj
      · exact h
    generalize hQ : (fun (e : Ex) (s' : St) => _) = Q'
    simp only [D.l40_0b]
    simp (config := {contextual := true, maxSteps := 2000000}) [h2, h3, h5, hL2, hL3, hH, hj', hw8, hc, ix, tk, sl, zl, ivI, ivRt, B6, undT, fnEnd, argsT, PT.get_put, keep, opRun, ev, evs, evO, give, giveI, binOf, isNilK, PM.flip, putT, putL, putH, loadOf, storeOf, cut, over, ofCells, asNat, natOr, calm, clashes, Acc.clash, ressOf, resOf, frz, frz.frzs, DV.flat, DV.flat.flats, imms]
    subst hQ
    simp [IPT, Box, PT.get_put, hi, ivRt, imms]
    clear hc ix tk
    rw [PA1_iff] at no yes
    generalize (∀ j, j < i + 1 → PA1 l.secs.length r.path j) = Y at yes ⊢
    generalize PA l.secs.length r.path = X at no ⊢
    simp only [ilt_iff, InR] at *
    grind
  · obtain rfl : i = r.path.length := by omega
    generalize hQ : (fun (e : Ex) (s' : St) => _) = Q'
    simp only [D.l40_0b]
    simp [h2, h3, h5, hL2, hL3, hH, zl, ivRt, B6, undT, fnEnd, argsT, PT.get_put, keep, opRun, ev, evs, evO, give, giveI, binOf, isNilK, PM.flip, putT, putL, putH, loadOf, storeOf, cut, over, ofCells, asNat, natOr, calm, clashes, Acc.clash, ressOf, resOf, frz, frz.frzs, DV.flat, DV.flat.flats, imms]
    subst hQ
    simp [IPT, Box, PT.get_put, h2, h3, h5, hL2, hL3, hH, ivRt, imms]
    exact hall
def ICN (l : Lo) (r : Rt) (i : Nat) (st : St) : Prop := Box st 2 l.ivs ∧ Box st 3 (ivRt r) ∧ st.T.get 6 = some (.imm (.int .i64 (cnt (l.pts.take i) r.path))) ∧ st.T.get 7 = some (.imm (.int .i64 i)) ∧ st.H = .lf
theorem loopCN {d : Nat} (hd : 1 ≤ d) {l : Lo} (ok : LoOk l) {r : Rt} (rk : RtOk r) {ks : List Kf} {st : St} {Q : Ex → St → Prop} (h : ICN l r 0 st)
    (hk : ∀ st', ICN l r l.pts.length st' → Bk DG (K DG d) 0 (.exit 2) ks st' Q) :
    Wp DG (K DG d) 0 D.l40_1 ks st Q := by
  have hrb : reachBytes ≤ 2 ^ 50 := by decide
  refine dw_loop (N := l.pts.length) (small ok.lp) (ICN l r) (fun e st' => e = .exit 2 ∧ ICN l r l.pts.length st')
    (fun i st hle hI => ?_) h (fun e s' h => by rw [h.1]; exact hk s' h.2)
  obtain ⟨⟨id2, h2, hL2⟩, ⟨id3, h3, hL3⟩, h6, h7, hH⟩ := hI
  have lp := ok.lp
  have pl := ok.p.len
  simp only [List.length_map] at pl
  by_cases hi : i < l.pts.length
  · have hi' : (i : Int) < l.pts.length := by omega
    have hj' := ilt_t hi'
    have hcl : cnt (l.pts.take i) r.path ≤ i := by have := @cnt_le (l.pts.take i) r.path; rw [List.length_take] at this; omega
    have hw8 : IntKind.i64.wrap ((i : Int) + 1) = (i : Int) + 1 := wr_succ hi lp
    have hwc : IntKind.i64.wrap ((cnt (l.pts.take i) r.path : Int) + 1) = (cnt (l.pts.take i) r.path : Int) + 1 := wr_id (by omega) (by omega)
    have hc := fun z => in_bl (D := d) (by omega) rk.p rk.lp z
    have ix := fun {h : Nat → Option HB} {n : Nat} => idx_sl (h := h) (n := n) ok.p (by omega) (k := .i64) (z := (i : Int)) (by omega) hi'
    have ci := cnt_in (path := r.path) hi
    have co := cnt_out (path := r.path) hi
    generalize hQ : (fun (e : Ex) (s' : St) => _) = Q'
    simp only [D.l40_1b]
    simp (config := {contextual := true, maxSteps := 2000000}) [h2, h3, h6, h7, hL2, hL3, hH, hj', hw8, hwc, hc, ix, pl, ivP, ivRt, B6, undT, fnEnd, argsT, PT.get_put, keep, opRun, ev, evs, evO, give, giveI, binOf, isNilK, PM.flip, putT, putL, putH, loadOf, storeOf, cut, over, ofCells, asNat, natOr, calm, clashes, Acc.clash, ressOf, resOf, frz, frz.frzs, DV.flat, DV.flat.flats, imms]
    subst hQ
    simp (config := {contextual := true}) [ICN, Box, PT.get_put, hi, ivRt, ci, co, imms]
  · obtain rfl : i = l.pts.length := by omega
    generalize hQ : (fun (e : Ex) (s' : St) => _) = Q'
    simp only [D.l40_1b]
    simp [h2, h3, h6, h7, hL2, hL3, hH, pl, ivRt, B6, undT, fnEnd, argsT, PT.get_put, keep, opRun, ev, evs, evO, give, giveI, binOf, isNilK, PM.flip, putT, putL, putH, loadOf, storeOf, cut, over, ofCells, asNat, natOr, calm, clashes, Acc.clash, ressOf, resOf, frz, frz.frzs, DV.flat, DV.flat.flats, imms]
    subst hQ
    simp [ICN, Box, PT.get_put, h2, h3, h6, h7, hL2, hL3, hH, ivRt, imms]
theorem route4_bl {D : Nat} (hD : 4 ≤ D) {l : Lo} (ok : LoOk l) {r : Rt} (rk : RtOk r) :
    bl (K DG D) 40 [l.dv, .agg (imms (ivRt r))] = some (.imm (.bool (dec (RT l r)))) := by
  have hrb : reachBytes ≤ 2 ^ 50 := by decide
  obtain ⟨d, rfl⟩ : ∃ d, D = d + 1 := ⟨D - 1, by omega⟩
  refine bl_fe ?_
  rw [D.k40]
  refine fn_dw rfl ?_
  have lg := ok.lg
  have gl := ok.g.len
  have pl := ok.p.len
  have ql := rk.q.len
  have zl := rk.p.len
  simp only [List.length_map] at gl pl ql zl
  have nfr : ILt r.fr 0 → ¬ RT l r := fun h h' => by have := h'.fr; unfold InR ILt at *; omega
  have nfr' : ¬ ILt r.fr l.sigs.length → ¬ RT l r := fun h h' => by have := h'.fr; unfold InR ILt at *; omega
  have nto : ILt r.to 0 → ¬ RT l r := fun h h' => by have := h'.to; unfold InR ILt at *; omega
  have nto' : ¬ ILt r.to l.sigs.length → ¬ RT l r := fun h h' => by have := h'.to; unfold InR ILt at *; omega
  have nne : r.fr = r.to → ¬ RT l r := fun h h' => h'.ne h
  have np1 : ILt r.path.length 1 → ¬ RT l r := fun h h' => by have := h'.p1; unfold ILt at *; omega
  have np5 : ILt 5 r.path.length → ¬ RT l r := fun h h' => by have := h'.p5; unfold ILt at *; omega
  generalize hQ : Fin _ _ = Q
  simp (config := {contextual := true, maxSteps := 2000000}) [ok.s.scal, ok.p.scal, ok.g.scal, ok.r.scal, rk.p.scal, rk.q.scal, rk.f.scal, gl, pl, ql, zl, ivRt, B6, undT, fnEnd, argsT, PT.get_put, keep, opRun, ev, evs, evO, give, giveI, binOf, isNilK, PM.flip, putT, putL, putH, loadOf, storeOf, cut, over, ofCells, asNat, natOr, calm, clashes, Acc.clash, ressOf, resOf, frz, frz.frzs, DV.flat, DV.flat.flats, imms]
  subst hQ
  simp (config := {contextual := true}) [nfr, nfr', nto, nto', nne, np1, np5, B6, undT, fnEnd, argsT, PT.get_put, keep, opRun, ev, evs, evO, give, giveI, binOf, isNilK, PM.flip, putT, putL, putH, loadOf, storeOf, cut, over, ofCells, asNat, natOr, calm, clashes, Acc.clash, ressOf, resOf, frz, frz.frzs, DV.flat, DV.flat.flats, imms]
  intro a1 a2 a3 a4 a5 a6 a7
  refine loopPT (l := l) (r := r) (by omega) ok rk ⟨⟨0, by simp [PT.get_put], by simp [PT.get_put, imms]⟩, ⟨1, by simp [PT.get_put], by simp [PT.get_put, ivRt, imms]⟩, by simp [PT.get_put], rfl, fun j hj => by omega⟩ ?_
  rintro e st' hH (⟨rfl, h4, hn⟩ | ⟨rfl, ⟨id2, h2, hL2⟩, ⟨id3, h3, hL3⟩, h5, _, hall⟩)
  · have : ¬ RT l r := fun h => hn h.pa
    simp [h4, this, B6, undT, fnEnd, argsT, PT.get_put, keep, opRun, ev, evs, evO, give, giveI, binOf, isNilK, PM.flip, putT, putL, putH, loadOf, storeOf, cut, over, ofCells, asNat, natOr, calm, clashes, Acc.clash, ressOf, resOf, frz, frz.frzs, DV.flat, DV.flat.flats, imms]
  have hPA : PA l.secs.length r.path := PA_nth.2 hall
  simp [h2, h3, hL2, hL3, hH, ivRt, B6, undT, fnEnd, argsT, PT.get_put, keep, opRun, ev, evs, evO, give, giveI, binOf, isNilK, PM.flip, putT, putL, putH, loadOf, storeOf, cut, over, ofCells, asNat, natOr, calm, clashes, Acc.clash, ressOf, resOf, frz, frz.frzs, DV.flat, DV.flat.flats, imms]
  refine loopCN (l := l) (r := r) (by omega) ok rk ⟨⟨id2, by simp [PT.get_put, h2], by simp [PT.get_put, hL2, imms]⟩, ⟨id3, by simp [PT.get_put, h3], by simp [PT.get_put, hL3, ivRt, imms]⟩, by simp [PT.get_put, cnt], by simp [PT.get_put], by simp [hH]⟩ ?_
  rintro st2 ⟨⟨id4, g2, gL2⟩, ⟨id5, g3, gL3⟩, g6, g7, gH⟩
  rw [List.take_length] at g6
  have hnp := needs4_bl (D := d) (by omega) ok true rk.q rk.p rk.lq rk.lp
  have hnf := needs4_bl (D := d) (by omega) ok false rk.f rk.p rk.lf rk.lp
  have hct : RT l r ↔ cnt l.pts r.path = r.pts.length ∧ NE l.pts r.pts r.path true ∧ NE l.pts r.flk r.path false := ⟨fun h => ⟨h.ct, h.np, h.nf⟩, fun h => ⟨by unfold InR ILt at *; omega, by unfold InR ILt at *; omega, a5, hPA, by unfold ILt at *; omega, by unfold ILt at *; omega, h.2.1, h.2.2, h.1⟩⟩
  have e1 : ((r.pts.length : Int) = (cnt l.pts r.path : Int)) = (cnt l.pts r.path = r.pts.length) := propext ⟨fun h => by omega, fun h => by omega⟩
  have e2 : (r.pts.length = cnt l.pts r.path) = (cnt l.pts r.path = r.pts.length) := propext ⟨fun h => by omega, fun h => by omega⟩
  rw [dec_congr hct]
  generalize hQ : Fin _ _ = Q
  simp (config := {contextual := true, maxSteps := 2000000}) [g2, g3, g6, gL2, gL3, gH, ql, hnp, hnf, e1, e2, ivRt, B6, undT, fnEnd, argsT, PT.get_put, keep, opRun, ev, evs, evO, give, giveI, binOf, isNilK, PM.flip, putT, putL, putH, loadOf, storeOf, cut, over, ofCells, asNat, natOr, calm, clashes, Acc.clash, ressOf, resOf, frz, frz.frzs, DV.flat, DV.flat.flats, imms]
  subst hQ
  simp (config := {contextual := true}) [B6, undT, fnEnd, argsT, PT.get_put, keep, opRun, ev, evs, evO, give, giveI, binOf, isNilK, PM.flip, putT, putL, putH, loadOf, storeOf, cut, over, ofCells, asNat, natOr, calm, clashes, Acc.clash, ressOf, resOf, frz, frz.frzs, DV.flat, DV.flat.flats, imms]
end Go.Proofs.YtlknjgmhfimhbacGreatDoor.D

-- TabR
set_option linter.unusedVariables false
set_option linter.unusedSimpArgs false
set_option maxHeartbeats 16000000
namespace Go.Proofs.YtlknjgmhfimhbacGreatDoor.D
open Go Go.PM Go.Lib
/-! ### Rows that grow, two of them -/
def DJ (x y : DV) : Prop := ∀ id r l c id' r' l' c', x = .sl id r l c → y = .sl id' r' l' c' → id ≠ id'
theorem DJ.nil {x : DV} : DJ x (.imm .nils) := fun _ _ _ _ _ _ _ _ _ h => by cases h
theorem DJ.symm {x y : DV} (h : DJ x y) : DJ y x := fun a b c d e f g k h1 h2 => fun e1 => h e f g k a b c d h2 h1 e1.symm
theorem AtS.mono {sz : Nat} {x : DV} {H : PT HB} {n n' : Nat} {rows : List (List IV)} (h : AtS sz x H n rows) (hn : n ≤ n') : AtS sz x H n' rows := by
  rcases h with h | ⟨id, h1, h2⟩
  · exact .inl h
  · exact .inr ⟨id, by omega, h2⟩
theorem app_row2 {sz bytes : Nat} {x : DV} {H : PT HB} {n : Nat} {rows : List (List IV)} (h : AtS sz x H n rows) (hs : 0 < sz) (hl : rows.length ≤ 2 ^ 30) (hb : bytes ≤ 100) (e : List IV) :
    ∃ x' hw acc, appOf H.get n 0 sz bytes x (.imm (.lst true sz [e])) = some { v := x', hw := hw, n' := n + 1, acc := acc } ∧ AtS sz x' (putH H hw) (n + 1) (rows ++ [e]) ∧
      ∀ sz' z rows', AtS sz' z H n rows' → DJ z x → AtS sz' z (putH H hw) (n + 1) rows' ∧ DJ z x' := by
  rcases h with ⟨rfl, rfl⟩ | ⟨id, h2, rfl, h3⟩
  · have a2 : bytes ≤ appMax := by unfold appMax; omega
    have a0 : 1 ≤ appMax := by unfold appMax; omega
    refine ⟨.sl n 0 1 1, [(n, some ⟨sz, [imms e]⟩)], [.wX n], by simp [appOf, srcOf, rowsOf, raccOf, a0, a2, hs], .inr ⟨n, by omega, rfl, ?_⟩, ?_⟩
    · simp [putH, PT.get_put]
    · rintro sz' z rows' (⟨rfl, rfl⟩ | ⟨id, q1, rfl, q2⟩) hd
      · exact ⟨.inl ⟨rfl, rfl⟩, fun _ _ _ _ _ _ _ _ h => by cases h⟩
      · refine ⟨.inr ⟨id, by omega, rfl, ?_⟩, fun _ _ _ _ _ _ _ _ h1 h2 => by cases h1; cases h2; omega⟩
        have : ¬ id = n := by omega
        simp [putH, PT.get_put, this, q2]
  · have a1 : ¬ rows.length + 1 ≤ rows.length := by omega
    have a2 : rows.length + 1 ≤ appMax := by unfold appMax; omega
    have a3 : (rows.length + 1) * bytes ≤ appMax := by
      have := Nat.mul_le_mul (show rows.length + 1 ≤ 2 ^ 30 + 1 by omega) hb
      unfold appMax; omega
    refine ⟨.sl n 0 (rows.length + 1) (rows.length + 1), [(id, none), (n, some ⟨sz, rows.map imms ++ [imms e]⟩)], _, by simp [appOf, srcOf, rowsOf, raccOf, h3, a1, a2, a3, hs]; rfl, .inr ⟨n, by omega, by simp, ?_⟩, ?_⟩
    · simp [putH, PT.get_put]
    · rintro sz' z rows' (⟨rfl, rfl⟩ | ⟨id', q1, rfl, q2⟩) hd
      · exact ⟨.inl ⟨rfl, rfl⟩, fun _ _ _ _ _ _ _ _ h => by cases h⟩
      · refine ⟨.inr ⟨id', by omega, rfl, ?_⟩, fun _ _ _ _ _ _ _ _ h1 h2 => by cases h1; cases h2; omega⟩
        have e1 : ¬ id' = n := by omega
        have e2 : ¬ id' = id := hd _ _ _ _ _ _ _ _ rfl rfl
        simp [putH, PT.get_put, e1, e2, q2]
/-- A call that is told a row as a value. -/
theorem call_row {sz : Nat} {x : DV} {H : PT HB} {n : Nat} {rows : List (List IV)} (h : AtS sz x H n rows) : ∃ v acc, Sl sz v rows ∧ ∀ {K : Go.PM.Callee} {f : FuncId} {b : Bool} {lo m : Nat},
    bl K f [.imm v] = some (.imm (.bool b)) → callM K .blind f [x] H m lo = some ⟨.imm (.bool b), H, m, acc⟩ := by
  rcases h with ⟨rfl, rfl⟩ | ⟨id, h2, rfl, h3⟩
  · refine ⟨.nils, [], .inl ⟨rfl, rfl⟩, fun hb => ?_⟩
    rw [callM_bl (by simp [pures_cons, pures_nil, pure_imm]), hb]
    rfl
  · refine ⟨.lst false sz rows, [.rA], .inr ⟨_, rfl⟩, fun {K f b lo m} hb => ?_⟩
    have hf : frzI H.get 0 frzDepth (.sl id 0 rows.length rows.length) = some (.lst false sz rows) := by
      show (if 0 ≤ id then _ else _) = _
      rw [if_pos (Nat.zero_le _)]
      simp only [h3]
      rw [if_pos (by simp)]
      simp only [List.drop_zero]
      rw [List.take_of_length_le (by simp), mapO_frz2]
      rfl
    have hp : DV.pure.pures [.sl id 0 rows.length rows.length] = false := rfl
    have hs : snap.snaps H.get [.sl id 0 rows.length rows.length] = some [.imm (.lst false sz rows)] := by
      have : snap H.get (.sl id 0 rows.length rows.length) = some (.imm (.lst false sz rows)) := by
        show (frzI H.get 0 frzDepth (.sl id 0 rows.length rows.length)).map DV.imm = _
        rw [hf]; rfl
      simp only [snap.snaps, this]
    simp only [callM, hp, hs]
    unfold bl at hb
    cases hK : K f [.imm (.lst false sz rows)] .lf 0 0 with
    | none => rw [hK] at hb; cases hb
    | some r =>
      obtain ⟨v, H1, n1⟩ := r
      rw [hK] at hb
      have : v = .imm (.bool b) := by
        cases v with
        | imm v => exact Option.some.inj hb
        | ptr => simp [frz] at hb
        | sl id' row len cap =>
          have e : frz H1.get 0 (.sl id' row len cap) = if id' < 0 then some (.sl id' row len cap) else (frzI H1.get 0 frzDepth (.sl id' row len cap)).map .imm := rfl
          have hb2 : frz H1.get 0 (.sl id' row len cap) = some (.imm (.bool b)) := hb
          rw [e, if_neg (Nat.not_lt_zero _)] at hb2
          simp only [Option.map_eq_some_iff] at hb2
          obtain ⟨q, q1, q2⟩ := hb2
          cases q2
          simp [frzI, frzDepth] at q1
          split at q1
          · split at q1
            · simp at q1
            · cases q1
          · cases q1
        | agg cs =>
          have hb2 : (frz.frzs H1.get 0 cs).map DV.agg = some (.imm (.bool b)) := hb
          simp at hb2
        | tup cs =>
          have hb2 : (frz.frzs H1.get 0 cs).map DV.tup = some (.imm (.bool b)) := hb
          simp at hb2
        | fnc => cases hb
        | lref => cases hb
      subst this
      rfl
theorem areNames_dec {D : Nat} (hD : 5 ≤ D) {v : IV} {ss : List (List UInt8)} (hv : Sl 1 v (ss.map ivS)) (hl : ss.length ≤ reachBytes) (hs : ∀ s ∈ ss, s.length ≤ reachBytes) :
    bl (K DG D) 159 [.imm v] = some (.imm (.bool (dec (NM ss)))) := by
  obtain ⟨b, e, h⟩ := areNames_bl hD hv hl hs
  rw [e]
  have : b = dec (NM ss) := by
    cases b with
    | true => rw [dec_t (h.1 rfl)]
    | false => rw [dec_f fun h' => by have := h.2 h'; cases this]
  rw [this]
theorem names_dec {D : Nat} (hD : 6 ≤ D) {v : IV} {ss : List (List UInt8)} (hv : Sl 1 v (ss.map ivS)) (hl : ss.length ≤ reachBytes) (hs : ∀ s ∈ ss, s.length ≤ 100000) :
    bl (K DG D) 39 [.imm v] = some (.imm (.bool (dec (NM ss)))) := by
  obtain ⟨b, e, h⟩ := names_bl hD hv hl hs
  rw [e]
  have : b = dec (NM ss) := by
    cases b with
    | true => rw [dec_t (h.1 rfl)]
    | false => rw [dec_f fun h' => by have := h.2 h'; cases this]
  rw [this]
/-! ### table.Is -/
def pn (l : Lo) : List (List UInt8) := l.pts.map (·.name)
def rn (l : Lo) : List (List UInt8) := l.rts.map (·.name)
structure ISL (l : Lo) : Prop where
  s1 : 1 ≤ l.secs.length
  s2 : l.secs.length ≤ 10
  g1 : 1 ≤ l.sigs.length
  g2 : l.sigs.length ≤ 6
  p2 : l.pts.length ≤ 5
  r2 : l.rts.length ≤ 6
  ps : ∀ i, i < l.pts.length → InR (nth l.pts i).sec l.secs.length
  ns : NM l.secs
  ng : NM l.sigs
  np : NM (pn l)
  nr : NM (rn l)
  rr : ∀ i, i < l.rts.length → RT l (nth l.rts i)
def IS0 (l : Lo) (i : Nat) (st : St) : Prop := ∃ x, Box st 1 l.ivs ∧ st.T.get 3 = some x ∧ st.T.get 4 = some (.imm .nils) ∧ st.T.get 34 = some (.imm l.pv) ∧ st.T.get 35 = some (.imm (.int .i64 l.pts.length)) ∧ st.T.get 36 = some (.imm (.int .i64 i)) ∧
  AtS 1 x st.H st.n (((pn l).take i).map ivS) ∧ ∀ j, j < i → InR (nth l.pts j).sec l.secs.length
theorem map_take_nth {α β : Type} [Inhabited α] {f : α → β} {xs : List α} {i : Nat} (h : i < xs.length) : (xs.take (i + 1)).map f = (xs.take i).map f ++ [f (nth xs i)] := by
  rw [take_nth h]; simp
theorem loopS0 {d : Nat} (hd : 1 ≤ d) {l : Lo} (ok : LoOk l) (p5 : l.pts.length ≤ 5) {ks : List Kf} {st : St} {Q : Ex → St → Prop} (h : IS0 l 0 st)
    (hk : ∀ e st', (e = .ret ∧ st'.T.get 2 = some (.imm (.bool false)) ∧ ¬ ISL l) ∨ (e = .exit 0 ∧ IS0 l l.pts.length st') → Bk DG (K DG d) 0 e ks st' Q) :
    Wp DG (K DG d) 0 D.l100_0 ks st Q := by
  have hrb : reachBytes ≤ 2 ^ 50 := by decide
  refine dw_loop (N := l.pts.length) (small ok.lp) (IS0 l) (fun e st' => (e = .ret ∧ st'.T.get 2 = some (.imm (.bool false)) ∧ ¬ ISL l) ∨ (e = .exit 0 ∧ IS0 l l.pts.length st'))
    (fun i st hle hI => ?_) h (fun e s' h => hk e s' h)
  obtain ⟨x, ⟨id, h1, hL⟩, h3, h4, h34, h35, h36, hat, hall⟩ := hI
  have lp := ok.lp
  have ls := ok.ls
  have sl := ok.s.len
  simp only [List.length_map] at sl
  by_cases hi : i < l.pts.length
  · have hi' : (i : Int) < l.pts.length := by omega
    have hj' := ilt_t hi'
    have hw8 : IntKind.i64.wrap ((i : Int) + 1) = (i : Int) + 1 := wr_succ hi lp
    have hwp : IntKind.i64.wrap ((l.secs.length : Int) - 1) = (l.secs.length : Int) - 1 := wr_id (by omega) (by omega)
    have hin : ∀ z : Int, bl (K DG d) 157 [.imm (.int .i64 z), .imm (.int .i64 0), .imm (.int .i64 ((l.secs.length : Int) - 1))] = some (.imm (.bool (dec (InR z l.secs.length)))) := fun z => by
      rw [isIn_eq DG (D := d) (by omega) z 0 ((l.secs.length : Int) - 1), dec_d]
      congr 3
      exact dec_congr ⟨fun h => ⟨by omega, by omega⟩, fun h => by unfold InR at h; omega⟩
    have ix := fun {h : Nat → Option HB} {n : Nat} => idx_sl (h := h) (n := n) ok.p (by omega) (k := .i64) (z := (i : Int)) (by omega) hi'
    obtain ⟨x', hw, acc, p1, p2, _⟩ := app_row2 (bytes := 16) (hat.mono (Nat.le_add_right _ 1)) (by omega) (by simp; omega) (by omega) (ivS (nth l.pts i).name)
    rw [show ((pn l).take i).map ivS ++ [ivS (nth l.pts i).name] = ((pn l).take (i + 1)).map ivS by
      simp only [pn, ← List.map_take]; rw [map_take_nth hi]; simp] at p2
    have no : ¬ InR (nth l.pts i).sec l.secs.length → ¬ ISL l := fun h1 h2 => h1 (h2.ps i hi)
    have yes : InR (nth l.pts i).sec l.secs.length → ∀ j, j < i + 1 → InR (nth l.pts j).sec l.secs.length := fun h j hj => by
      rcases Nat.lt_or_eq_of_le (Nat.le_of_lt_succ hj) with hj | rfl
      · exact hall j hj
      · exact h
    simp only [ivS] at p1
    generalize hQ : (fun (e : Ex) (s' : St) => _) = Q'
    simp only [D.l100_0b]
    simp (config := {contextual := true, maxSteps := 2000000}) [h1, h3, h4, h34, h35, h36, hL, hj', hw8, hwp, hin, ix, p1, sl, ivP, evParts, evParts2, lay, unImms, unImm, mapO, rowsN, B6, undT, fnEnd, argsT, PT.get_put, keep, opRun, ev, evs, evO, give, giveI, binOf, isNilK, PM.flip, putT, putL, putH, loadOf, storeOf, cut, over, ofCells, asNat, natOr, calm, clashes, Acc.clash, ressOf, resOf, frz, frz.frzs, DV.flat, DV.flat.flats, imms]
    subst hQ
    simp (config := {contextual := true}) [no, PT.get_put]
    exact fun a => ⟨hi, x', ⟨id, by simp [PT.get_put], by simp [PT.get_put, imms]⟩, by simp [PT.get_put], by simp [PT.get_put], by simp [PT.get_put], by simp [PT.get_put], by simp [PT.get_put], p2, yes a⟩
  · obtain rfl : i = l.pts.length := by omega
    generalize hQ : (fun (e : Ex) (s' : St) => _) = Q'
    simp only [D.l100_0b]
    simp [h1, h3, h4, h34, h35, h36, hL, B6, undT, fnEnd, argsT, PT.get_put, keep, opRun, ev, evs, evO, give, giveI, binOf, isNilK, PM.flip, putT, putL, putH, loadOf, storeOf, cut, over, ofCells, asNat, natOr, calm, clashes, Acc.clash, ressOf, resOf, frz, frz.frzs, DV.flat, DV.flat.flats, imms]
    subst hQ
    simp
    exact ⟨x, ⟨id, by simp [PT.get_put, h1], by simp [PT.get_put, hL, imms]⟩, by simp [PT.get_put], by simp [PT.get_put], by simp [PT.get_put], by simp [PT.get_put], by simp [PT.get_put], hat, hall⟩
def IS1 (l : Lo) (i : Nat) (st : St) : Prop := ∃ x y, Box st 1 l.ivs ∧ st.T.get 3 = some x ∧ st.T.get 4 = some y ∧ st.T.get 55 = some (.imm l.rv) ∧ st.T.get 56 = some (.imm (.int .i64 l.rts.length)) ∧ st.T.get 57 = some (.imm (.int .i64 i)) ∧
  AtS 1 x st.H st.n ((pn l).map ivS) ∧ AtS 1 y st.H st.n (((rn l).take i).map ivS) ∧ DJ x y ∧ ∀ j, j < i → RT l (nth l.rts j)
theorem loopS1 {d : Nat} (hd : 4 ≤ d) {l : Lo} (ok : LoOk l) (r6 : l.rts.length ≤ 6) {ks : List Kf} {st : St} {Q : Ex → St → Prop} (h : IS1 l 0 st)
    (hk : ∀ e st', (e = .ret ∧ st'.T.get 2 = some (.imm (.bool false)) ∧ ¬ ISL l) ∨ (e = .exit 2 ∧ IS1 l l.rts.length st') → Bk DG (K DG d) 0 e ks st' Q) :
    Wp DG (K DG d) 0 D.l100_1 ks st Q := by
  have hrb : reachBytes ≤ 2 ^ 50 := by decide
  refine dw_loop (N := l.rts.length) (small ok.lr) (IS1 l) (fun e st' => (e = .ret ∧ st'.T.get 2 = some (.imm (.bool false)) ∧ ¬ ISL l) ∨ (e = .exit 2 ∧ IS1 l l.rts.length st'))
    (fun i st hle hI => ?_) h (fun e s' h => hk e s' h)
  obtain ⟨x, y, ⟨id, h1, hL⟩, h3, h4, h55, h56, h57, hat, haty, hdj, hall⟩ := hI
  have lr := ok.lr
  by_cases hi : i < l.rts.length
  · have hi' : (i : Int) < l.rts.length := by omega
    have hj' := ilt_t hi'
    have hw8 : IntKind.i64.wrap ((i : Int) + 1) = (i : Int) + 1 := wr_succ hi lr
    have rk := ok.or _ (nth_mem hi)
    have hrt := isRoute_bl (D := d) hd ok rk
    simp only [ivRt, imms, List.map_cons, List.map_nil] at hrt
    have ix := fun {h : Nat → Option HB} {n : Nat} => idx_sl (h := h) (n := n) ok.r (by omega) (k := .i64) (z := (i : Int)) (by omega) hi'
    obtain ⟨y', hw, acc, p1, p2, p3⟩ := app_row2 (bytes := 16) (haty.mono (Nat.le_add_right _ 1)) (by omega) (by simp; omega) (by omega) (ivS (nth l.rts i).name)
    rw [show ((rn l).take i).map ivS ++ [ivS (nth l.rts i).name] = ((rn l).take (i + 1)).map ivS by
      simp only [rn, ← List.map_take]; rw [map_take_nth hi]; simp] at p2
    obtain ⟨q1, q2⟩ := p3 _ _ _ (hat.mono (Nat.le_add_right _ 1)) hdj
    have no : ¬ RT l (nth l.rts i) → ¬ ISL l := fun h1 h2 => h1 (h2.rr i hi)
    have yes : RT l (nth l.rts i) → ∀ j, j < i + 1 → RT l (nth l.rts j) := fun h j hj => by
      rcases Nat.lt_or_eq_of_le (Nat.le_of_lt_succ hj) with hj | rfl
      · exact hall j hj
      · exact h
    simp only [ivS] at p1
    generalize hQ : (fun (e : Ex) (s' : St) => _) = Q'
    simp only [D.l100_1b]
    simp (config := {contextual := true, maxSteps := 2000000}) [h1, h3, h4, h55, h56, h57, hL, hj', hw8, hrt, ix, p1, ivRt, rk.p.scal, rk.q.scal, rk.f.scal, evParts, evParts2, lay, unImms, unImm, mapO, rowsN, B6, undT, fnEnd, argsT, PT.get_put, keep, opRun, ev, evs, evO, give, giveI, binOf, isNilK, PM.flip, putT, putL, putH, loadOf, storeOf, cut, over, ofCells, asNat, natOr, calm, clashes, Acc.clash, ressOf, resOf, frz, frz.frzs, DV.flat, DV.flat.flats, imms]
    subst hQ
    simp (config := {contextual := true}) [no, PT.get_put]
    exact fun a => ⟨hi, x, y', ⟨id, by simp [PT.get_put], by simp [PT.get_put, imms]⟩, by simp [PT.get_put], by simp [PT.get_put], by simp [PT.get_put], by simp [PT.get_put], by simp [PT.get_put], q1, p2, q2, yes a⟩
  · obtain rfl : i = l.rts.length := by omega
    generalize hQ : (fun (e : Ex) (s' : St) => _) = Q'
    simp only [D.l100_1b]
    simp [h1, h3, h4, h55, h56, h57, hL, B6, undT, fnEnd, argsT, PT.get_put, keep, opRun, ev, evs, evO, give, giveI, binOf, isNilK, PM.flip, putT, putL, putH, loadOf, storeOf, cut, over, ofCells, asNat, natOr, calm, clashes, Acc.clash, ressOf, resOf, frz, frz.frzs, DV.flat, DV.flat.flats, imms]
    subst hQ
    simp
    exact ⟨x, y, ⟨id, by simp [PT.get_put, h1], by simp [PT.get_put, hL, imms]⟩, by simp [PT.get_put], by simp [PT.get_put], by simp [PT.get_put], by simp [PT.get_put], by simp [PT.get_put], hat, haty, hdj, hall⟩
theorem Is_bl {D : Nat} (hD : 6 ≤ D) {l : Lo} (ok : LoOk l) :
    bl (K DG D) 100 [l.dv] = some (.imm (.bool (dec (ISL l)))) := by
  have hrb : reachBytes ≤ 2 ^ 50 := by decide
  obtain ⟨d, rfl⟩ : ∃ d, D = d + 1 := ⟨D - 1, by omega⟩
  refine bl_fe ?_
  rw [D.k100]
  refine fn_dw rfl ?_
  have sl := ok.s.len
  have gl := ok.g.len
  have pl := ok.p.len
  have rl := ok.r.len
  simp only [List.length_map] at sl gl pl rl
  have hin := fun z a b => isIn_eq DG (D := d) (by omega) z a b
  simp only [dec_d] at hin
  have n1 : ¬ ((1 : Int) ≤ l.secs.length ∧ (l.secs.length : Int) ≤ 10) → ¬ ISL l := fun h h' => h ⟨by have := h'.s1; omega, by have := h'.s2; omega⟩
  have n2 : ¬ ((1 : Int) ≤ l.sigs.length ∧ (l.sigs.length : Int) ≤ 6) → ¬ ISL l := fun h h' => h ⟨by have := h'.g1; omega, by have := h'.g2; omega⟩
  have n3 : ILt 5 l.pts.length → ¬ ISL l := fun h h' => by have := h'.p2; unfold ILt at *; omega
  have n4 : ILt 6 l.rts.length → ¬ ISL l := fun h h' => by have := h'.r2; unfold ILt at *; omega
  have h12 := hin l.secs.length 1 10
  have h18 := hin l.sigs.length 1 6
  generalize hP1 : ((1 : Int) ≤ l.secs.length ∧ (l.secs.length : Int) ≤ 10) = P1 at h12 n1
  generalize hP2 : ((1 : Int) ≤ l.sigs.length ∧ (l.sigs.length : Int) ≤ 6) = P2 at h18 n2
  generalize hQ : Fin _ _ = Q
  simp (config := {contextual := true, maxSteps := 2000000}) [ok.s.scal, ok.p.scal, ok.g.scal, ok.r.scal, sl, gl, pl, rl, h12, h18, B6, undT, fnEnd, argsT, PT.get_put, keep, opRun, ev, evs, evO, give, giveI, binOf, isNilK, PM.flip, putT, putL, putH, loadOf, storeOf, cut, over, ofCells, asNat, natOr, calm, clashes, Acc.clash, ressOf, resOf, frz, frz.frzs, DV.flat, DV.flat.flats, imms]
  subst hQ
  simp (config := {contextual := true}) [n1, n2, n3, n4, B6, undT, fnEnd, argsT, PT.get_put, keep, opRun, ev, evs, evO, give, giveI, binOf, isNilK, PM.flip, putT, putL, putH, loadOf, storeOf, cut, over, ofCells, asNat, natOr, calm, clashes, Acc.clash, ressOf, resOf, frz, frz.frzs, DV.flat, DV.flat.flats, imms]
  intro a1 a2 a3 a4
  subst hP1 hP2
  have p5 : l.pts.length ≤ 5 := by unfold ILt at a3; omega
  have r6 : l.rts.length ≤ 6 := by unfold ILt at a4; omega
  refine loopS0 (l := l) (by omega) ok p5 ⟨_, ⟨0, by simp [PT.get_put], by simp [PT.get_put, imms]⟩, by simp [PT.get_put], by simp [PT.get_put], by simp [PT.get_put], by simp [PT.get_put], by simp [PT.get_put], .inl ⟨rfl, by simp⟩, fun j hj => by omega⟩ ?_
  rintro e st' (⟨rfl, h2, hn⟩ | ⟨rfl, x, ⟨id, h1, hL⟩, h3, h4, h34, h35, h36, hat, hps⟩)
  · simp [h2, hn, B6, undT, fnEnd, argsT, PT.get_put, keep, opRun, ev, evs, evO, give, giveI, binOf, isNilK, PM.flip, putT, putL, putH, loadOf, storeOf, cut, over, ofCells, asNat, natOr, calm, clashes, Acc.clash, ressOf, resOf, frz, frz.frzs, DV.flat, DV.flat.flats, imms]
  simp [h1, h3, h4, hL, rl, B6, undT, fnEnd, argsT, PT.get_put, keep, opRun, ev, evs, evO, give, giveI, binOf, isNilK, PM.flip, putT, putL, putH, loadOf, storeOf, cut, over, ofCells, asNat, natOr, calm, clashes, Acc.clash, ressOf, resOf, frz, frz.frzs, DV.flat, DV.flat.flats, imms]
  rw [List.take_of_length_le (by simp [pn])] at hat
  refine loopS1 (l := l) (by omega) ok r6 ⟨x, _, ⟨id, by simp [PT.get_put, h1], by simp [PT.get_put, hL, imms]⟩, by simp [PT.get_put, h3], by simp [PT.get_put, h4], by simp [PT.get_put], by simp [PT.get_put], by simp [PT.get_put], hat, .inl ⟨rfl, by simp⟩, DJ.nil, fun j hj => by omega⟩ ?_
  rintro e st2 (⟨rfl, h2, hn⟩ | ⟨rfl, x2, y2, ⟨id2, g1, gL⟩, g3, g4, g55, g56, g57, gat, gaty, gdj, hrr⟩)
  · simp [h2, hn, B6, undT, fnEnd, argsT, PT.get_put, keep, opRun, ev, evs, evO, give, giveI, binOf, isNilK, PM.flip, putT, putL, putH, loadOf, storeOf, cut, over, ofCells, asNat, natOr, calm, clashes, Acc.clash, ressOf, resOf, frz, frz.frzs, DV.flat, DV.flat.flats, imms]
  rw [List.take_of_length_le (by simp [rn])] at gaty
  have hct : ISL l ↔ (NM l.secs ∧ NM l.sigs ∧ NM (pn l) ∧ NM (rn l)) := ⟨fun h => ⟨h.ns, h.ng, h.np, h.nr⟩, fun h => ⟨by omega, by omega, by omega, by omega, p5, r6, hps, h.1, h.2.1, h.2.2.1, h.2.2.2, hrr⟩⟩
  rw [dec_congr hct]
  have k1 := areNames_dec (D := d) (by omega) ok.s ok.ls ok.os
  have k2 := areNames_dec (D := d) (by omega) ok.g ok.lg ok.og
  obtain ⟨v3, acc3, sv3, c3⟩ := call_row gat
  obtain ⟨v4, acc4, sv4, c4⟩ := call_row gaty
  have lp := ok.lp
  have lr := ok.lr
  have k3 := @c3 (K DG d) 159 _ 0 st2.n (areNames_dec (D := d) (by omega) sv3 (by simp [pn]; omega) (fun s hs => by
    obtain ⟨p, hp, rfl⟩ := List.mem_map.1 hs
    exact ok.op p hp))
  have k4 := @c4 (K DG d) 159 _ 0 st2.n (areNames_dec (D := d) (by omega) sv4 (by simp [rn]; omega) (fun s hs => by
    obtain ⟨p, hp, rfl⟩ := List.mem_map.1 hs
    exact (ok.or p hp).ln))
  generalize hQ : Fin _ _ = Q
  simp (config := {contextual := true, maxSteps := 2000000}) [g1, g3, g4, gL, k1, k2, k3, k4, B6, undT, fnEnd, argsT, PT.get_put, keep, opRun, ev, evs, evO, give, giveI, binOf, isNilK, PM.flip, putT, putL, putH, loadOf, storeOf, cut, over, ofCells, asNat, natOr, calm, clashes, Acc.clash, ressOf, resOf, frz, frz.frzs, DV.flat, DV.flat.flats, imms]
  subst hQ
  simp (config := {contextual := true}) [B6, undT, fnEnd, argsT, PT.get_put, keep, opRun, ev, evs, evO, give, giveI, binOf, isNilK, PM.flip, putT, putL, putH, loadOf, storeOf, cut, over, ofCells, asNat, natOr, calm, clashes, Acc.clash, ressOf, resOf, frz, frz.frzs, DV.flat, DV.flat.flats, imms]
end Go.Proofs.YtlknjgmhfimhbacGreatDoor.D

-- TabS
set_option linter.unusedVariables false
set_option linter.unusedSimpArgs false
set_option maxHeartbeats 16000000
namespace Go.Proofs.YtlknjgmhfimhbacGreatDoor.D
open Go Go.PM Go.Lib
theorem rb3 : 3000 ≤ reachBytes ∧ reachBytes ≤ 2 ^ 50 := by decide
structure LoSm (l : Lo) : Prop where
  s : ∀ x ∈ l.secs, x.length ≤ 100000
  p : ∀ x ∈ l.pts, x.name.length ≤ 100000
  g : ∀ x ∈ l.sigs, x.length ≤ 100000
  r : ∀ x ∈ l.rts, x.name.length ≤ 100000
def IR0 (l : Lo) (i : Nat) (st : St) : Prop := ∃ x, Box st 1 l.ivs ∧ st.T.get 3 = some x ∧ st.T.get 4 = some (.imm .nils) ∧ st.T.get 5 = some (.imm (.int .i64 i)) ∧
  AtS 1 x st.H st.n (((pn l).take i).map ivS) ∧ ∀ j, j < i → InR (nth l.pts j).sec l.secs.length
theorem loopR0 {d : Nat} {l : Lo} (ok : LoOk l) (p5 : l.pts.length ≤ 5) {ks : List Kf} {st : St} {Q : Ex → St → Prop} (h : IR0 l 0 st)
    (hk : ∀ e st', (e = .ret ∧ st'.T.get 2 = some (.imm (.bool false)) ∧ ¬ ISL l) ∨ (e = .exit 0 ∧ IR0 l l.pts.length st') → Bk DG (K DG d) 0 e ks st' Q) :
    Wp DG (K DG d) 0 D.l9_0 ks st Q := by
  have hrb : reachBytes ≤ 2 ^ 50 := by decide
  refine dw_loop (N := l.pts.length) (small ok.lp) (IR0 l) (fun e st' => (e = .ret ∧ st'.T.get 2 = some (.imm (.bool false)) ∧ ¬ ISL l) ∨ (e = .exit 0 ∧ IR0 l l.pts.length st'))
    (fun i st hle hI => ?_) h (fun e s' h => hk e s' h)
  obtain ⟨x, ⟨id, h1, hL⟩, h3, h4, h5, hat, hall⟩ := hI
  have lp := ok.lp
  have ls := ok.ls
  have sl := ok.s.len
  have pl := ok.p.len
  simp only [List.length_map] at sl pl
  by_cases hi : i < l.pts.length
  · have hi' : (i : Int) < l.pts.length := by omega
    have hj' := ilt_t hi'
    have hw8 : IntKind.i64.wrap ((i : Int) + 1) = (i : Int) + 1 := wr_succ hi lp
    have ix := fun {h : Nat → Option HB} {n : Nat} => idx_sl (h := h) (n := n) ok.p (by omega) (k := .i64) (z := (i : Int)) (by omega) hi'
    obtain ⟨x', hw, acc, p1, p2, _⟩ := app_row2 (bytes := 16) hat (by omega) (by simp; omega) (by omega) (ivS (nth l.pts i).name)
    rw [show ((pn l).take i).map ivS ++ [ivS (nth l.pts i).name] = ((pn l).take (i + 1)).map ivS by
      simp only [pn, ← List.map_take]; rw [map_take_nth hi]; simp] at p2
    have no : ILt (nth l.pts i).sec 0 → ¬ ISL l := fun h1 h2 => by have := h2.ps i hi; unfold InR ILt at *; omega
    have no' : ¬ ILt (nth l.pts i).sec l.secs.length → ¬ ISL l := fun h1 h2 => by have := h2.ps i hi; unfold InR ILt at *; omega
    have yes : InR (nth l.pts i).sec l.secs.length → ∀ j, j < i + 1 → InR (nth l.pts j).sec l.secs.length := fun h j hj => by
      rcases Nat.lt_or_eq_of_le (Nat.le_of_lt_succ hj) with hj | rfl
      · exact hall j hj
      · exact h
    simp only [ivS] at p1
    generalize hQ : (fun (e : Ex) (s' : St) => _) = Q'
    simp only [D.l9_0b]
    simp (config := {contextual := true, maxSteps := 2000000}) [h1, h3, h4, h5, hL, hj', hw8, ix, p1, sl, pl, ivP, evParts, evParts2, lay, unImms, unImm, mapO, rowsN, B6, undT, fnEnd, argsT, PT.get_put, keep, opRun, ev, evs, evO, give, giveI, binOf, isNilK, PM.flip, putT, putL, putH, loadOf, storeOf, cut, over, ofCells, asNat, natOr, calm, clashes, Acc.clash, ressOf, resOf, frz, frz.frzs, DV.flat, DV.flat.flats, imms]
    subst hQ
    simp (config := {contextual := true}) [no, no', PT.get_put]
    exact fun a b => ⟨hi, x', ⟨id, by simp [PT.get_put], by simp [PT.get_put, imms]⟩, by simp [PT.get_put], by simp [PT.get_put], by simp [PT.get_put], p2, yes (by unfold InR ILt at *; omega)⟩
  · obtain rfl : i = l.pts.length := by omega
    generalize hQ : (fun (e : Ex) (s' : St) => _) = Q'
    simp only [D.l9_0b]
    simp [h1, h3, h4, h5, hL, pl, B6, undT, fnEnd, argsT, PT.get_put, keep, opRun, ev, evs, evO, give, giveI, binOf, isNilK, PM.flip, putT, putL, putH, loadOf, storeOf, cut, over, ofCells, asNat, natOr, calm, clashes, Acc.clash, ressOf, resOf, frz, frz.frzs, DV.flat, DV.flat.flats, imms]
    subst hQ
    simp
    exact ⟨x, ⟨id, by simp [PT.get_put, h1], by simp [PT.get_put, hL, imms]⟩, by simp [PT.get_put], by simp [PT.get_put], by simp [PT.get_put], hat, hall⟩
def IR1 (l : Lo) (i : Nat) (st : St) : Prop := ∃ x y, Box st 1 l.ivs ∧ st.T.get 3 = some x ∧ st.T.get 4 = some y ∧ st.T.get 6 = some (.imm (.int .i64 i)) ∧
  AtS 1 x st.H st.n ((pn l).map ivS) ∧ AtS 1 y st.H st.n (((rn l).take i).map ivS) ∧ DJ x y
theorem loopR1 {d : Nat} {l : Lo} (ok : LoOk l) (r6 : l.rts.length ≤ 6) {ks : List Kf} {st : St} {Q : Ex → St → Prop} (h : IR1 l 0 st)
    (hk : ∀ st', IR1 l l.rts.length st' → Bk DG (K DG d) 0 (.exit 2) ks st' Q) :
    Wp DG (K DG d) 0 D.l9_1 ks st Q := by
  have hrb : reachBytes ≤ 2 ^ 50 := by decide
  refine dw_loop (N := l.rts.length) (small ok.lr) (IR1 l) (fun e st' => e = .exit 2 ∧ IR1 l l.rts.length st')
    (fun i st hle hI => ?_) h (fun e s' h => by rw [h.1]; exact hk s' h.2)
  obtain ⟨x, y, ⟨id, h1, hL⟩, h3, h4, h6, hat, haty, hdj⟩ := hI
  have lr := ok.lr
  have rl := ok.r.len
  simp only [List.length_map] at rl
  by_cases hi : i < l.rts.length
  · have hi' : (i : Int) < l.rts.length := by omega
    have hj' := ilt_t hi'
    have hw8 : IntKind.i64.wrap ((i : Int) + 1) = (i : Int) + 1 := wr_succ hi lr
    have ix := fun {h : Nat → Option HB} {n : Nat} => idx_sl (h := h) (n := n) ok.r (by omega) (k := .i64) (z := (i : Int)) (by omega) hi'
    obtain ⟨y', hw, acc, p1, p2, p3⟩ := app_row2 (bytes := 16) haty (by omega) (by simp; omega) (by omega) (ivS (nth l.rts i).name)
    rw [show ((rn l).take i).map ivS ++ [ivS (nth l.rts i).name] = ((rn l).take (i + 1)).map ivS by
      simp only [rn, ← List.map_take]; rw [map_take_nth hi]; simp] at p2
    obtain ⟨q1, q2⟩ := p3 _ _ _ hat hdj
    simp only [ivS] at p1
    generalize hQ : (fun (e : Ex) (s' : St) => _) = Q'
    simp only [D.l9_1b]
    simp (config := {contextual := true, maxSteps := 2000000}) [h1, h3, h4, h6, hL, hj', hw8, ix, p1, rl, ivRt, evParts, evParts2, lay, unImms, unImm, mapO, rowsN, B6, undT, fnEnd, argsT, PT.get_put, keep, opRun, ev, evs, evO, give, giveI, binOf, isNilK, PM.flip, putT, putL, putH, loadOf, storeOf, cut, over, ofCells, asNat, natOr, calm, clashes, Acc.clash, ressOf, resOf, frz, frz.frzs, DV.flat, DV.flat.flats, imms]
    subst hQ
    simp (config := {contextual := true}) [PT.get_put]
    exact ⟨hi, x, y', ⟨id, by simp [PT.get_put], by simp [PT.get_put, imms]⟩, by simp [PT.get_put], by simp [PT.get_put], by simp [PT.get_put], q1, p2, q2⟩
  · obtain rfl : i = l.rts.length := by omega
    generalize hQ : (fun (e : Ex) (s' : St) => _) = Q'
    simp only [D.l9_1b]
    simp [h1, h3, h4, h6, hL, rl, B6, undT, fnEnd, argsT, PT.get_put, keep, opRun, ev, evs, evO, give, giveI, binOf, isNilK, PM.flip, putT, putL, putH, loadOf, storeOf, cut, over, ofCells, asNat, natOr, calm, clashes, Acc.clash, ressOf, resOf, frz, frz.frzs, DV.flat, DV.flat.flats, imms]
    subst hQ
    simp
    exact ⟨x, y, ⟨id, by simp [PT.get_put, h1], by simp [PT.get_put, hL, imms]⟩, by simp [PT.get_put], by simp [PT.get_put], by simp [PT.get_put], hat, haty, hdj⟩
def IR2 (l : Lo) (i : Nat) (st : St) : Prop := Box st 1 l.ivs ∧ st.T.get 7 = some (.imm (.int .i64 i)) ∧ ∀ j, j < i → RT l (nth l.rts j)
theorem loopR2 {d : Nat} (hd : 4 ≤ d) {l : Lo} (ok : LoOk l) {ks : List Kf} {st : St} {Q : Ex → St → Prop} (h : IR2 l 0 st)
    (hk : ∀ e st', (e = .ret ∧ st'.T.get 2 = some (.imm (.bool false)) ∧ ¬ ISL l) ∨ (e = .exit 4 ∧ IR2 l l.rts.length st') → Bk DG (K DG d) 0 e ks st' Q) :
    Wp DG (K DG d) 0 D.l9_2 ks st Q := by
  have hrb : reachBytes ≤ 2 ^ 50 := by decide
  refine dw_loop (N := l.rts.length) (small ok.lr) (IR2 l) (fun e st' => (e = .ret ∧ st'.T.get 2 = some (.imm (.bool false)) ∧ ¬ ISL l) ∨ (e = .exit 4 ∧ IR2 l l.rts.length st'))
    (fun i st hle hI => ?_) h (fun e s' h => hk e s' h)
  obtain ⟨⟨id, h1, hL⟩, h7, hall⟩ := hI
  have lr := ok.lr
  have rl := ok.r.len
  simp only [List.length_map] at rl
  by_cases hi : i < l.rts.length
  · have hi' : (i : Int) < l.rts.length := by omega
    have hj' := ilt_t hi'
    have hw8 : IntKind.i64.wrap ((i : Int) + 1) = (i : Int) + 1 := wr_succ hi lr
    have rk := ok.or _ (nth_mem hi)
    have hrt := route4_bl (D := d) hd ok rk
    simp only [ivRt, imms, List.map_cons, List.map_nil] at hrt
    have ix := fun {h : Nat → Option HB} {n : Nat} => idx_sl (h := h) (n := n) ok.r (by omega) (k := .i64) (z := (i : Int)) (by omega) hi'
    have no : ¬ RT l (nth l.rts i) → ¬ ISL l := fun h1 h2 => h1 (h2.rr i hi)
    have yes : RT l (nth l.rts i) → ∀ j, j < i + 1 → RT l (nth l.rts j) := fun h j hj => by
      rcases Nat.lt_or_eq_of_le (Nat.le_of_lt_succ hj) with hj | rfl
      · exact hall j hj
      · exact h
    generalize hQ : (fun (e : Ex) (s' : St) => _) = Q'
    simp only [D.l9_2b]
    simp (config := {contextual := true, maxSteps := 2000000}) [h1, h7, hL, hj', hw8, hrt, ix, rl, ivRt, B6, undT, fnEnd, argsT, PT.get_put, keep, opRun, ev, evs, evO, give, giveI, binOf, isNilK, PM.flip, putT, putL, putH, loadOf, storeOf, cut, over, ofCells, asNat, natOr, calm, clashes, Acc.clash, ressOf, resOf, frz, frz.frzs, DV.flat, DV.flat.flats, imms]
    subst hQ
    simp (config := {contextual := true}) [no, PT.get_put]
    exact fun a => ⟨hi, ⟨id, by simp [PT.get_put], by simp [PT.get_put, imms]⟩, by simp [PT.get_put], yes a⟩
  · obtain rfl : i = l.rts.length := by omega
    generalize hQ : (fun (e : Ex) (s' : St) => _) = Q'
    simp only [D.l9_2b]
    simp [h1, h7, hL, rl, B6, undT, fnEnd, argsT, PT.get_put, keep, opRun, ev, evs, evO, give, giveI, binOf, isNilK, PM.flip, putT, putL, putH, loadOf, storeOf, cut, over, ofCells, asNat, natOr, calm, clashes, Acc.clash, ressOf, resOf, frz, frz.frzs, DV.flat, DV.flat.flats, imms]
    subst hQ
    simp
    exact ⟨⟨id, by simp [PT.get_put, h1], by simp [PT.get_put, hL, imms]⟩, by simp [PT.get_put], hall⟩
theorem Is4_bl {D : Nat} (hD : 7 ≤ D) {l : Lo} (ok : LoOk l) (sm : LoSm l) :
    bl (K DG D) 9 [l.dv] = some (.imm (.bool (dec (ISL l)))) := by
  have hrb : reachBytes ≤ 2 ^ 50 := by decide
  obtain ⟨d, rfl⟩ : ∃ d, D = d + 1 := ⟨D - 1, by omega⟩
  refine bl_fe ?_
  rw [D.k9]
  refine fn_dw rfl ?_
  have sl := ok.s.len
  have gl := ok.g.len
  have pl := ok.p.len
  have rl := ok.r.len
  simp only [List.length_map] at sl gl pl rl
  have n1 : ILt l.secs.length 1 → ¬ ISL l := fun h h' => by have := h'.s1; unfold ILt at *; omega
  have n2 : ILt 10 l.secs.length → ¬ ISL l := fun h h' => by have := h'.s2; unfold ILt at *; omega
  have n3 : ILt l.sigs.length 1 → ¬ ISL l := fun h h' => by have := h'.g1; unfold ILt at *; omega
  have n4 : ILt 6 l.sigs.length → ¬ ISL l := fun h h' => by have := h'.g2; unfold ILt at *; omega
  have n5 : ILt 5 l.pts.length → ¬ ISL l := fun h h' => by have := h'.p2; unfold ILt at *; omega
  have n6 : ILt 6 l.rts.length → ¬ ISL l := fun h h' => by have := h'.r2; unfold ILt at *; omega
  generalize hQ : Fin _ _ = Q
  simp (config := {contextual := true, maxSteps := 2000000}) [ok.s.scal, ok.p.scal, ok.g.scal, ok.r.scal, sl, gl, pl, rl, B6, undT, fnEnd, argsT, PT.get_put, keep, opRun, ev, evs, evO, give, giveI, binOf, isNilK, PM.flip, putT, putL, putH, loadOf, storeOf, cut, over, ofCells, asNat, natOr, calm, clashes, Acc.clash, ressOf, resOf, frz, frz.frzs, DV.flat, DV.flat.flats, imms]
  subst hQ
  simp (config := {contextual := true}) [n1, n2, n3, n4, n5, n6, B6, undT, fnEnd, argsT, PT.get_put, keep, opRun, ev, evs, evO, give, giveI, binOf, isNilK, PM.flip, putT, putL, putH, loadOf, storeOf, cut, over, ofCells, asNat, natOr, calm, clashes, Acc.clash, ressOf, resOf, frz, frz.frzs, DV.flat, DV.flat.flats, imms]
  intro a1 a2 a3 a4 a5 a6
  have p5 : l.pts.length ≤ 5 := by unfold ILt at a5; omega
  have r6 : l.rts.length ≤ 6 := by unfold ILt at a6; omega
  refine loopR0 (l := l) ok p5 ⟨_, ⟨0, by simp [PT.get_put], by simp [PT.get_put, imms]⟩, by simp [PT.get_put], by simp [PT.get_put], by simp [PT.get_put], .inl ⟨rfl, by simp⟩, fun j hj => by omega⟩ ?_
  rintro e st' (⟨rfl, h2, hn⟩ | ⟨rfl, x, ⟨id, h1, hL⟩, h3, h4, h5, hat, hps⟩)
  · simp [h2, hn, B6, undT, fnEnd, argsT, PT.get_put, keep, opRun, ev, evs, evO, give, giveI, binOf, isNilK, PM.flip, putT, putL, putH, loadOf, storeOf, cut, over, ofCells, asNat, natOr, calm, clashes, Acc.clash, ressOf, resOf, frz, frz.frzs, DV.flat, DV.flat.flats, imms]
  simp [h1, h3, h4, hL, rl, B6, undT, fnEnd, argsT, PT.get_put, keep, opRun, ev, evs, evO, give, giveI, binOf, isNilK, PM.flip, putT, putL, putH, loadOf, storeOf, cut, over, ofCells, asNat, natOr, calm, clashes, Acc.clash, ressOf, resOf, frz, frz.frzs, DV.flat, DV.flat.flats, imms]
  rw [List.take_of_length_le (by simp [pn])] at hat
  refine loopR1 (l := l) ok r6 ⟨x, _, ⟨id, by simp [PT.get_put, h1], by simp [PT.get_put, hL, imms]⟩, by simp [PT.get_put, h3], by simp [PT.get_put, h4], by simp [PT.get_put], hat, .inl ⟨rfl, by simp⟩, DJ.nil⟩ ?_
  rintro st2 ⟨x2, y2, ⟨id2, g1, gL⟩, g3, g4, g6, gat, gaty, gdj⟩
  rw [List.take_of_length_le (by simp [rn])] at gaty
  have k1 := names_dec (D := d) (by omega) ok.s ok.ls sm.s
  have k2 := names_dec (D := d) (by omega) ok.g ok.lg sm.g
  obtain ⟨v3, acc3, sv3, c3⟩ := call_row gat
  obtain ⟨v4, acc4, sv4, c4⟩ := call_row gaty
  have lp := ok.lp
  have lr := ok.lr
  have k3 := @c3 (K DG d) 39 _ 0 st2.n (names_dec (D := d) (by omega) sv3 (by simp [pn]; omega) (fun s hs => by
    obtain ⟨p, hp, rfl⟩ := List.mem_map.1 hs
    exact sm.p p hp))
  have k4 := @c4 (K DG d) 39 _ 0 st2.n (names_dec (D := d) (by omega) sv4 (by simp [rn]; omega) (fun s hs => by
    obtain ⟨p, hp, rfl⟩ := List.mem_map.1 hs
    exact sm.r p hp))
  have m1 : ¬ NM l.secs → ¬ ISL l := fun h h' => h h'.ns
  have m2 : ¬ NM l.sigs → ¬ ISL l := fun h h' => h h'.ng
  have m3 : ¬ NM (pn l) → ¬ ISL l := fun h h' => h h'.np
  have m4 : ¬ NM (rn l) → ¬ ISL l := fun h h' => h h'.nr
  generalize hQ : Fin _ _ = Q
  simp (config := {contextual := true, maxSteps := 2000000}) [g1, g3, g4, gL, k1, k2, k3, k4, B6, undT, fnEnd, argsT, PT.get_put, keep, opRun, ev, evs, evO, give, giveI, binOf, isNilK, PM.flip, putT, putL, putH, loadOf, storeOf, cut, over, ofCells, asNat, natOr, calm, clashes, Acc.clash, ressOf, resOf, frz, frz.frzs, DV.flat, DV.flat.flats, imms]
  subst hQ
  simp (config := {contextual := true}) [m1, m2, m3, m4, B6, undT, fnEnd, argsT, PT.get_put, keep, opRun, ev, evs, evO, give, giveI, binOf, isNilK, PM.flip, putT, putL, putH, loadOf, storeOf, cut, over, ofCells, asNat, natOr, calm, clashes, Acc.clash, ressOf, resOf, frz, frz.frzs, DV.flat, DV.flat.flats, imms]
  intro b1 b2 b3 b4
  refine loopR2 (l := l) (by omega) ok ⟨⟨id2, by simp [PT.get_put, g1], by simp [PT.get_put, gL, imms]⟩, by simp [PT.get_put], fun j hj => by omega⟩ ?_
  rintro e st3 (⟨rfl, f2, hn⟩ | ⟨rfl, ⟨id3, f1, fL⟩, f7, hrr⟩)
  · simp [f2, hn, B6, undT, fnEnd, argsT, PT.get_put, keep, opRun, ev, evs, evO, give, giveI, binOf, isNilK, PM.flip, putT, putL, putH, loadOf, storeOf, cut, over, ofCells, asNat, natOr, calm, clashes, Acc.clash, ressOf, resOf, frz, frz.frzs, DV.flat, DV.flat.flats, imms]
  have hct : ISL l := ⟨by unfold ILt at *; omega, by unfold ILt at *; omega, by unfold ILt at *; omega, by unfold ILt at *; omega, p5, r6, hps, b1, b2, b3, b4, hrr⟩
  simp [dec_t hct, B6, undT, fnEnd, argsT, PT.get_put, keep, opRun, ev, evs, evO, give, giveI, binOf, isNilK, PM.flip, putT, putL, putH, loadOf, storeOf, cut, over, ofCells, asNat, natOr, calm, clashes, Acc.clash, ressOf, resOf, frz, frz.frzs, DV.flat, DV.flat.flats, imms]
end Go.Proofs.YtlknjgmhfimhbacGreatDoor.D
