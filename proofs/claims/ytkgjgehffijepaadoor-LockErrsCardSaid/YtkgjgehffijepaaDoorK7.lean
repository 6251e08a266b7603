/-
  What a route holds, who holds a section; how a point lies; sections that are occupied. Over D.
  isFree, call, cancel, Command. Over D.
  call, cancel, Command. Over D.
-/
import Derived.Test.YtkgjgehffijepaaDoorK4
-- K5
set_option linter.unusedVariables false
set_option linter.unusedSimpArgs false
set_option maxHeartbeats 16000000
namespace Go.Proofs.YtkgjgehffijepaaDoor.D
open Go Go.PM Go.Lib
/-- A slice behind its first cells. -/
def dropV (v : IV) (i : Nat) : IV := match v with
  | .lst full sz es => .lst (full && decide (es.length = es.length)) sz ((es.take es.length).drop i)
  | v => v
theorem dropV_sl {α : Type} {s : Nat} {v : IV} {xs : List α} {f : α → List IV} (hv : Sl s v (xs.map f)) (i : Nat) : Sl s (dropV v i) ((xs.drop i).map f) := by
  rcases hv with ⟨rfl, hn⟩ | ⟨g, rfl⟩
  · have : xs = [] := by simpa using hn
    subst this
    exact .inl ⟨rfl, by simp⟩
  · refine .inr ⟨g && decide ((xs.map f).length = (xs.map f).length), ?_⟩
    simp only [dropV]
    rw [List.take_length, List.map_drop]
theorem slc_from {α : Type} {s : Nat} {v : IV} {xs : List α} {f : α → List IV} (hv : Sl s v (xs.map f)) {z : Int} (h0 : 0 ≤ z) (hz : z ≤ xs.length) {h : Nat → Option HB} {n : Nat} :
    sliceOf h n s (.imm v) (some (.imm (.int .i64 z))) none none = some { v := .imm (dropV v z.toNat), n' := n } := by
  rcases hv with ⟨rfl, hn⟩ | ⟨g, rfl⟩
  · have : xs = [] := by simpa using hn
    subst this
    have : z = 0 := by simp at hz; omega
    subst this
    rfl
  · have h1 : natOr (some (.imm (.int .i64 z))) 0 = some z.toNat := by simp [natOr, asNat, h0]
    have h2 : z.toNat ≤ (xs.map f).length := by simp; omega
    have h3 : natOr none (xs.map f).length = some (xs.map f).length := rfl
    simp only [sliceOf, h1, h3, dropV, if_true]
    rw [if_pos ⟨h2, Nat.le_refl _⟩]
def hld (l : Lo) (rs : List Rst) (r : Nat) : List Int :=
  if (nth rs r).mode = 1 ∨ (nth rs r).mode = 2 ∨ (nth rs r).mode = 4 then (nth l.rts r).path else if (nth rs r).mode = 3 then (nth l.rts r).path.drop (nth rs r).gone.toNat else []
/-- A route that is used has a section before it. -/
def GoneOk (l : Lo) (rs : List Rst) : Prop := ∀ r, r < l.rts.length → (nth rs r).mode = 3 → 0 ≤ (nth rs r).gone ∧ (nth rs r).gone ≤ (nth l.rts r).path.length
theorem hld_sub {l : Lo} {rs : List Rst} {r : Nat} {z : Int} (h : z ∈ hld l rs r) : z ∈ (nth l.rts r).path := by
  unfold hld at h
  split at h
  · exact h
  · split at h
    · exact List.mem_of_mem_drop h
    · cases h
theorem RsAt.sl {H : PT HB} {x : DV} {own : List Nat} {rs : List Rst} (h : RsAt H x own rs) (h0 : 0 < rs.length) : ∃ id, own = [id] ∧ x = .sl id 0 rs.length rs.length ∧ H.get id = some ⟨4, rs.map rowRS⟩ := by
  rcases h with ⟨rfl, _⟩ | h
  · simp at h0
  · exact h
theorem RsAt.len {H : PT HB} {x : DV} {own : List Nat} {rs : List Rst} (h : RsAt H x own rs) : lenOf x = some rs.length := by
  rcases h with ⟨rfl, _, v, rfl, hv⟩ | ⟨id, _, rfl, _⟩
  · exact hv.len
  · rfl
theorem held_run {d : Nat} {H : PT HB} {p : Nat} {own : List Nat} {l : Lo} {rs : List Rst} (ok : LoOk l) (lk : LkAt H p own l rs) (go : GoneOk l rs) {r : Nat} (hr : r < l.rts.length) {n lo : Nat} :
    ∃ u n', K DG (d + 1) 56 [.ptr p 0 0, .imm (.int .i64 r)] H n lo = some (.imm u, H, n') ∧ n ≤ n' ∧ Sl 1 u ((hld l rs r).map ivI) := by
  obtain ⟨x, h1, h2, h3, h4⟩ := lk
  obtain ⟨id, rfl, rfl, hrs⟩ := h2.sl (by omega)
  have rk := ok.or _ (nth_mem hr)
  have hr1 : (r : Int) < l.rts.length := by omega
  have ix := fun {h : Nat → Option HB} {n : Nat} => idx_sl (h := h) (n := n) ok.r (by omega) (k := .i64) (z := (r : Int)) (by omega) hr1
  have iy := fun {n : Nat} => idx_hp (h := H.get) (n := n) (id := id) (row := 0) (len := rs.length) (cap := rs.length) hrs rfl (k := .i64) (z := (r : Int)) (by omega) (by omega)
  have hrow : (rs.map rowRS)[r]? = some (rowRS (nth rs r)) := by rw [List.getElem?_map, nth_get (by omega)]; rfl
  generalize hrr : rs.map rowRS = rows at hrs hrow
  simp only [Int.toNat_natCast, Nat.zero_add] at iy
  have key : Fe (K DG (d + 1) 56 [.ptr p 0 0, .imm (.int .i64 r)] H n lo) (fun v H' n' => H' = H ∧ n ≤ n' ∧ ∃ u, v = .imm u ∧ Sl 1 u ((hld l rs r).map ivI)) := by
    rw [D.k56]
    refine fn_dw rfl ?_
    have hpne : ¬ id = p := fun e => by subst e; simp at h3
    by_cases m1 : (nth rs r).mode = 1
    · have e : hld l rs r = (nth l.rts r).path := by simp [hld, m1]
      rw [e]
      simp [h1, hrs, ix, iy, hrow, m1, ivRt, B6, undT, fnEnd, argsT, PT.get_put, keep, opRun, ev, evs, evO, give, giveI, binOf, isNilK, PM.flip, putT, putL, putH, loadOf, storeOf, cut, over, ofCells, asNat, natOr, calm, clashes, Acc.clash, ressOf, resOf, frz, frz.frzs, DV.flat, DV.flat.flats, imms]
      exact rk.p
    · by_cases m2 : (nth rs r).mode = 2
      · have e : hld l rs r = (nth l.rts r).path := by simp [hld, m2]
        rw [e]
        simp [h1, hrs, ix, iy, hrow, m1, m2, ivRt, B6, undT, fnEnd, argsT, PT.get_put, keep, opRun, ev, evs, evO, give, giveI, binOf, isNilK, PM.flip, putT, putL, putH, loadOf, storeOf, cut, over, ofCells, asNat, natOr, calm, clashes, Acc.clash, ressOf, resOf, frz, frz.frzs, DV.flat, DV.flat.flats, imms]
        exact rk.p
      · by_cases m4 : (nth rs r).mode = 4
        · have e : hld l rs r = (nth l.rts r).path := by simp [hld, m4]
          rw [e]
          simp [h1, hrs, ix, iy, hrow, m1, m2, m4, ivRt, B6, undT, fnEnd, argsT, PT.get_put, keep, opRun, ev, evs, evO, give, giveI, binOf, isNilK, PM.flip, putT, putL, putH, loadOf, storeOf, cut, over, ofCells, asNat, natOr, calm, clashes, Acc.clash, ressOf, resOf, frz, frz.frzs, DV.flat, DV.flat.flats, imms]
          exact rk.p
        · by_cases m3 : (nth rs r).mode = 3
          · have e : hld l rs r = (nth l.rts r).path.drop (nth rs r).gone.toNat := by simp [hld, m3]
            obtain ⟨g0, g1⟩ := go r hr m3
            have sc := fun {h : Nat → Option HB} {n : Nat} => slc_from (h := h) (n := n) rk.p g0 g1
            rw [e]
            simp [h1, hrs, ix, iy, hrow, m1, m2, m3, m4, sc, ivRt, B6, undT, fnEnd, argsT, PT.get_put, keep, opRun, ev, evs, evO, give, giveI, binOf, isNilK, PM.flip, putT, putL, putH, loadOf, storeOf, cut, over, ofCells, asNat, natOr, calm, clashes, Acc.clash, ressOf, resOf, frz, frz.frzs, DV.flat, DV.flat.flats, imms]
            have := dropV_sl rk.p (nth rs r).gone.toNat
            simpa [List.map_drop] using this
          · have e : hld l rs r = [] := by simp [hld, m1, m2, m3, m4]
            rw [e]
            simp [h1, hrs, ix, iy, hrow, m1, m2, m3, m4, ivRt, B6, undT, fnEnd, argsT, PT.get_put, keep, opRun, ev, evs, evO, give, giveI, binOf, isNilK, PM.flip, putT, putL, putH, loadOf, storeOf, cut, over, ofCells, asNat, natOr, calm, clashes, Acc.clash, ressOf, resOf, frz, frz.frzs, DV.flat, DV.flat.flats, imms]
            exact .inl ⟨rfl, rfl⟩
  obtain ⟨v, H', n', e, rfl, hn, u, rfl, hu⟩ := key
  exact ⟨u, n', e, hn, hu⟩
/-- Who holds a section: the first one; below 0: none does. -/
noncomputable def hol (l : Lo) (rs : List Rst) (z : Int) : Int := match (List.range l.rts.length).find? (fun r => decide (z ∈ hld l rs r)) with
  | some r => (r : Int)
  | none => -1
theorem hol_none {l : Lo} {rs : List Rst} {z : Int} (h : ∀ j, j < l.rts.length → z ∉ hld l rs j) : hol l rs z = -1 := by
  have : (List.range l.rts.length).find? (fun r => decide (z ∈ hld l rs r)) = none := List.find?_eq_none.2 fun r hr => by simpa using h r (List.mem_range.1 hr)
  simp only [hol, this]
theorem hol_some {l : Lo} {rs : List Rst} {z : Int} {i : Nat} (hi : i < l.rts.length) (hm : z ∈ hld l rs i) (h : ∀ j, j < i → z ∉ hld l rs j) : hol l rs z = (i : Int) := by
  have : (List.range l.rts.length).find? (fun r => decide (z ∈ hld l rs r)) = some i := by
    rw [List.find?_range_eq_some]
    exact ⟨by simpa using hm, List.mem_range.2 hi, fun j hj => by simpa using h j hj⟩
  simp only [hol, this]
theorem hol_neg {l : Lo} {rs : List Rst} {z : Int} : hol l rs z < 0 ↔ ∀ j, j < l.rts.length → z ∉ hld l rs j := by
  constructor
  · intro h j hj hm
    unfold hol at h
    cases e : (List.range l.rts.length).find? (fun r => decide (z ∈ hld l rs r)) with
    | none => have := List.find?_eq_none.1 e j (List.mem_range.2 hj); simp [hm] at this
    | some r => rw [e] at h; simp at h; omega
  · intro h; rw [hol_none h]; decide
def IHo (p : Nat) (l : Lo) (rs : List Rst) (H : PT HB) (n0 : Nat) (z : Int) (i : Nat) (st : St) : Prop := st.T.get 0 = some (.ptr p 0 0) ∧ st.T.get 1 = some (.imm (.int .i64 z)) ∧ st.T.get 12 = some (.imm (.int .i64 l.rts.length)) ∧ st.T.get 13 = some (.imm (.int .i64 i)) ∧ st.H = H ∧ n0 ≤ st.n ∧ ∀ j, j < i → z ∉ hld l rs j
theorem loopHo {d : Nat} (hd : 2 ≤ d) {H : PT HB} {p n0 : Nat} {own : List Nat} {l : Lo} {rs : List Rst} (ok : LoOk l) (lk : LkAt H p own l rs) (go : GoneOk l rs) (hp : ∀ r, r < l.rts.length → (nth l.rts r).path.length ≤ 100) {z : Int} {lo : Nat} {ks : List Kf} {st : St} {Q : Ex → St → Prop} (h : IHo p l rs H n0 z 0 st)
    (hk : ∀ e st', st'.H = H → n0 ≤ st'.n → (e = .ret ∧ ∃ i, st'.T.get 4 = some (.imm (.int .i64 i)) ∧ i = hol l rs z) ∨ (e = .exit 0 ∧ hol l rs z = -1) → Bk DG (K DG d) lo e ks st' Q) : Wp DG (K DG d) lo D.l29_0 ks st Q := by
  have hrb := rb3
  obtain ⟨d, rfl⟩ : ∃ d', d = d' + 1 := ⟨d - 1, by omega⟩
  refine dw_loop (N := l.rts.length) (small ok.lr) (IHo p l rs H n0 z) (fun e st' => st'.H = H ∧ n0 ≤ st'.n ∧ ((e = .ret ∧ ∃ i, st'.T.get 4 = some (.imm (.int .i64 i)) ∧ i = hol l rs z) ∨ (e = .exit 0 ∧ hol l rs z = -1))) (fun i st hle hI => ?_) h (fun e s' h => hk e s' h.1 h.2.1 h.2.2)
  obtain ⟨h0, h1, h12, h13, hH, hn, hall⟩ := hI
  by_cases hi : i < l.rts.length
  · have hi1 : (i : Int) < l.rts.length := by omega
    have hi' := ilt_t hi1
    have hw8 : IntKind.i64.wrap ((i : Int) + 1) = (i : Int) + 1 := wr_succ hi ok.lr
    obtain ⟨u, n1, e1, hn1, hu⟩ := held_run (d := d) ok lk go hi (n := st.n) (lo := st.n)
    have hlen : (hld l rs i).length ≤ reachBytes := by
      have : (hld l rs i).length ≤ (nth l.rts i).path.length := by
        unfold hld
        split
        · omega
        · split <;> simp
      have := hp i hi
      omega
    have hc := contains_ints DG (D := d + 1) (by omega) hu hlen z
    generalize hQ : (fun (e : Ex) (s' : St) => _) = Q'
    simp only [D.l29_0b]
    by_cases hm : z ∈ hld l rs i
    · simp [h0, h1, h12, h13, hH, hi', e1, hc, hm, B6, undT, fnEnd, argsT, PT.get_put, keep, opRun, ev, evs, evO, give, giveI, binOf, isNilK, PM.flip, putT, putL, putH, loadOf, storeOf, cut, over, ofCells, asNat, natOr, calm, clashes, Acc.clash, ressOf, resOf, frz, frz.frzs, DV.flat, DV.flat.flats, imms]
      subst hQ
      exact .inr ⟨nofun, rfl, by simp; omega, .inl ⟨rfl, (i : Int), by simp [PT.get_put], (hol_some hi hm hall).symm⟩⟩
    · simp [h0, h1, h12, h13, hH, hi', hw8, e1, hc, hm, B6, undT, fnEnd, argsT, PT.get_put, keep, opRun, ev, evs, evO, give, giveI, binOf, isNilK, PM.flip, putT, putL, putH, loadOf, storeOf, cut, over, ofCells, asNat, natOr, calm, clashes, Acc.clash, ressOf, resOf, frz, frz.frzs, DV.flat, DV.flat.flats, imms]
      subst hQ
      refine .inl ⟨rfl, hi, by simp [PT.get_put], by simp [PT.get_put], by simp [PT.get_put], by simp [PT.get_put], rfl, by simp; omega, fun j hj => ?_⟩
      rcases Nat.lt_or_eq_of_le (Nat.le_of_lt_succ hj) with hj | rfl
      · exact hall j hj
      · exact hm
  · obtain rfl : i = l.rts.length := by omega
    generalize hQ : (fun (e : Ex) (s' : St) => _) = Q'
    simp only [D.l29_0b]
    simp [h0, h1, h12, h13, hH, B6, undT, fnEnd, argsT, PT.get_put, keep, opRun, ev, evs, evO, give, giveI, binOf, isNilK, PM.flip, putT, putL, putH, loadOf, storeOf, cut, over, ofCells, asNat, natOr, calm, clashes, Acc.clash, ressOf, resOf, frz, frz.frzs, DV.flat, DV.flat.flats, imms]
    subst hQ
    exact .inr ⟨nofun, rfl, hn, .inr ⟨rfl, hol_none hall⟩⟩
theorem Holder_run {d : Nat} (hd : 2 ≤ d) {H : PT HB} {p : Nat} {own : List Nat} {l : Lo} {rs : List Rst} (ok : LoOk l) (lk : LkAt H p own l rs) (go : GoneOk l rs) (hp : ∀ r, r < l.rts.length → (nth l.rts r).path.length ≤ 100) (z : Int) {n lo : Nat} :
    ∃ n', K DG (d + 1) 29 [.ptr p 0 0, .imm (.int .i64 z)] H n lo = some (.imm (.int .i64 (hol l rs z)), H, n') ∧ n ≤ n' := by
  have lk0 := lk
  obtain ⟨x, h1, h2, h3, h4⟩ := lk
  have xl := h2.len
  rw [h4] at xl
  have key : Fe (K DG (d + 1) 29 [.ptr p 0 0, .imm (.int .i64 z)] H n lo) (fun v H' n' => v = .imm (.int .i64 (hol l rs z)) ∧ H' = H ∧ n ≤ n') := by
    rw [D.k29]
    refine fn_dw rfl ?_
    simp [h1, xl, B6, undT, fnEnd, argsT, PT.get_put, keep, opRun, ev, evs, evO, give, giveI, binOf, isNilK, PM.flip, putT, putL, putH, loadOf, storeOf, cut, over, ofCells, asNat, natOr, calm, clashes, Acc.clash, ressOf, resOf, frz, frz.frzs, DV.flat, DV.flat.flats, imms]
    refine loopHo (l := l) (rs := rs) (z := z) hd ok lk0 go hp ⟨by simp [PT.get_put], by simp [PT.get_put], by simp [PT.get_put], by simp [PT.get_put], rfl, Nat.le_refl _, fun j hj => by omega⟩ ?_
    rintro e st' hH hn (⟨rfl, i, h4, rfl⟩ | ⟨rfl, he⟩)
    · simp [h4, hH, hn, B6, undT, fnEnd, argsT, PT.get_put, keep, opRun, ev, evs, evO, give, giveI, binOf, isNilK, PM.flip, putT, putL, putH, loadOf, storeOf, cut, over, ofCells, asNat, natOr, calm, clashes, Acc.clash, ressOf, resOf, frz, frz.frzs, DV.flat, DV.flat.flats, imms]
    · simp [he, hH, hn, B6, undT, fnEnd, argsT, PT.get_put, keep, opRun, ev, evs, evO, give, giveI, binOf, isNilK, PM.flip, putT, putL, putH, loadOf, storeOf, cut, over, ofCells, asNat, natOr, calm, clashes, Acc.clash, ressOf, resOf, frz, frz.frzs, DV.flat, DV.flat.flats, imms]
  obtain ⟨v, H', n', e, rfl, rfl, hn⟩ := key
  exact ⟨n', e, hn⟩
/-! ### How a point lies -/
def pos (x : Need) : Int := if x.rev then 2 else 1
theorem position_bl {D : Nat} (hD : 1 ≤ D) (a : Int) (b : Bool) : bl (K DG D) 75 [.agg [.imm (.int .i64 a), .imm (.bool b)]] = some (.imm (.int .i64 (pos ⟨a, b⟩))) := by
  obtain ⟨d, rfl⟩ : ∃ d, D = d + 1 := ⟨D - 1, by omega⟩
  refine bl_fe ?_
  rw [D.k75]
  refine fn_dw rfl ?_
  cases b <;> simp [pos, B6, undT, fnEnd, argsT, PT.get_put, keep, opRun, ev, evs, evO, give, giveI, binOf, isNilK, PM.flip, putT, putL, putH, loadOf, storeOf, cut, over, ofCells, asNat, natOr, calm, clashes, Acc.clash, ressOf, resOf, frz, frz.frzs, DV.flat, DV.flat.flats, imms]
theorem lies_bl {D : Nat} (hD : 2 ≤ D) {ov lv : IV} {os : List Bool} {ls : List Int} (io : InOk ov lv os ls) {x : Need} (hx : InR x.pt ls.length) :
    bl (K DG D) 74 [inD ov lv, .agg [.imm (.int .i64 x.pt), .imm (.bool x.rev)]] = some (.imm (.bool (dec (nth ls x.pt.toNat = pos x)))) := by
  obtain ⟨d, rfl⟩ : ∃ d, D = d + 1 := ⟨D - 1, by omega⟩
  have e := position_bl (D := d) (by omega) x.pt x.rev
  have ix := fun {h : Nat → Option HB} {n : Nat} => idx_sl (h := h) (n := n) io.l (by omega) (k := .i64) (z := x.pt) hx.1 hx.2
  refine bl_fe ?_
  rw [D.k74]
  refine fn_dw rfl ?_
  simp [io.o.scal, io.l.scal, e, ix, ivI, B6, undT, fnEnd, argsT, PT.get_put, keep, opRun, ev, evs, evO, give, giveI, binOf, isNilK, PM.flip, putT, putL, putH, loadOf, storeOf, cut, over, ofCells, asNat, natOr, calm, clashes, Acc.clash, ressOf, resOf, frz, frz.frzs, DV.flat, DV.flat.flats, imms]
  exact dec_d
theorem saysOc {d : Nat} (hd : 1 ≤ d) {ov lv : IV} {os : List Bool} {ls : List Int} (io : InOk ov lv os ls) {H : PT HB} {a n0 : Nat} (ha : H.get a = some ⟨2, [[.imm ov, .imm lv]]⟩) {path : List Int} (hp : ∀ z ∈ path, InR z os.length) :
    Says d 76 [.ptr a 0 0] H n0 (fun z : Int => .imm (.int .i64 z)) (fun z => nth os z.toNat = true) (fun z => z ∈ path) := fun z hz n hn => by
  obtain ⟨d, rfl⟩ : ∃ d', d = d' + 1 := ⟨d - 1, by omega⟩
  have ix := fun {h : Nat → Option HB} {n : Nat} => idx_sl (h := h) (n := n) io.o (by omega) (k := .i64) (z := z) (hp z hz).1 (hp z hz).2
  have key : Fe (K DG (d + 1) 76 [.imm (.int .i64 z), .ptr a 0 0] H n n) (fun x _ n' => n ≤ n' ∧ x = .imm (.bool (dec (nth os z.toNat = true)))) := by
    rw [D.k76]
    refine fn_dw rfl ?_
    simp [ha, ix, ivB1, B6, undT, fnEnd, argsT, PT.get_put, keep, opRun, ev, evs, evO, give, giveI, binOf, isNilK, PM.flip, putT, putL, putH, loadOf, storeOf, cut, over, ofCells, asNat, natOr, calm, clashes, Acc.clash, ressOf, resOf, frz, frz.frzs, DV.flat, DV.flat.flats, imms]
    cases nth os z.toNat with
    | true => exact (dec_t rfl).symm
    | false => exact (dec_f (by simp)).symm
  obtain ⟨x, H1, n1, e, h1, rfl⟩ := key
  exact ⟨H1, n1, e, h1⟩
theorem isOcc_bl {D : Nat} (hD : 4 ≤ D) {ov lv : IV} {os : List Bool} {ls : List Int} (io : InOk ov lv os ls) {pv : IV} {path : List Int} (hv : Sl 1 pv (path.map ivI)) (hl : path.length ≤ reachBytes) (hp : ∀ z ∈ path, InR z os.length) :
    bl (K DG D) 41 [inD ov lv, .imm pv] = some (.imm (.bool (dec (∃ z ∈ path, nth os z.toNat = true)))) := by
  obtain ⟨d, rfl⟩ : ∃ d, D = d + 3 := ⟨D - 3, by omega⟩
  obtain ⟨x1, H1, n1, e1, hn1, rfl⟩ := containsF_ints (d := d) (n := 1) (H := PT.lf.put 0 (some ⟨2, [[.imm ov, .imm lv]]⟩)) (f := 76) (caps := [.ptr 0 0 0]) rfl (saysOc (by omega) io (by simp [PT.get_put]) hp) hv hl 1
  generalize (∃ z ∈ path, nth os z.toNat = true) = P at e1 ⊢
  refine bl_fe ?_
  rw [D.k41]
  refine fn_dw rfl ?_
  simp [io.o.scal, io.l.scal, e1, B6, undT, fnEnd, argsT, PT.get_put, keep, opRun, ev, evs, evO, give, giveI, binOf, isNilK, PM.flip, putT, putL, putH, loadOf, storeOf, cut, over, ofCells, asNat, natOr, calm, clashes, Acc.clash, ressOf, resOf, frz, frz.frzs, DV.flat, DV.flat.flats, imms]
end Go.Proofs.YtkgjgehffijepaaDoor.D

-- K6
set_option linter.unusedVariables false
set_option linter.unusedSimpArgs false
set_option maxHeartbeats 16000000
namespace Go.Proofs.YtkgjgehffijepaaDoor.D
open Go Go.PM Go.Lib
theorem ISL.p5 {l : Lo} (h : ISL l) : ∀ r, r < l.rts.length → (nth l.rts r).path.length ≤ 100 := fun r hr => by have := (h.rr r hr).p5; omega
theorem nd_in {l : Lo} (is : ISL l) {r : Nat} (hr : r < l.rts.length) {x : Need} (hx : x ∈ nd (nth l.rts r)) : InR x.pt l.pts.length := by
  rcases List.mem_append.1 hx with h | h
  · obtain ⟨i, hi, rfl⟩ := mem_nth h
    exact ((is.rr r hr).np i hi).1
  · obtain ⟨i, hi, rfl⟩ := mem_nth h
    exact ((is.rr r hr).nf i hi).1
def secOf (l : Lo) (x : Need) : Int := (nth l.pts x.pt.toNat).sec
theorem sec_in {l : Lo} (is : ISL l) {r : Nat} (hr : r < l.rts.length) {x : Need} (hx : x ∈ nd (nth l.rts r)) : InR (secOf l x) l.secs.length := by
  have h := nd_in is hr hx
  exact is.ps _ (by have := h.1; have := h.2; omega)
theorem path_in {l : Lo} (is : ISL l) {r : Nat} (hr : r < l.rts.length) {z : Int} (hz : z ∈ (nth l.rts r).path) : InR z l.secs.length := by
  obtain ⟨i, hi, rfl⟩ := mem_nth hz
  exact (PA_nth.1 (is.rr r hr).pa i hi).1
/-- Does nothing stand against a need? -/
def NFree (l : Lo) (rs : List Rst) (os : List Bool) (ls : List Int) (x : Need) : Prop := nth ls x.pt.toNat = pos x ∨ (nth os (secOf l x).toNat = false ∧ hol l rs (secOf l x) < 0)
structure FRE (l : Lo) (rs : List Rst) (os : List Bool) (ls : List Int) (r : Nat) : Prop where
  cf : ∀ s, s < l.rts.length → (nth rs s).mode ≠ 0 → ¬ CF l r s
  nf : ∀ i, i < (nd (nth l.rts r)).length → NFree l rs os ls (nth (nd (nth l.rts r)) i)
  oc : ¬ ∃ z ∈ (nth l.rts r).path, nth os z.toNat = true
structure IF0 (H : PT HB) (p n0 : Nat) (x : DV) (ov lv : IV) (l : Lo) (rs : List Rst) (r : Nat) (i : Nat) (st : St) : Prop where
  h0 : st.T.get 0 = some (.ptr p 0 0)
  h2 : st.T.get 2 = some (.imm (.int .i64 r))
  b4 : Box st 4 [ov, lv]
  h15 : st.T.get 15 = some x
  h16 : st.T.get 16 = some (.imm (.int .i64 l.rts.length))
  h17 : st.T.get 17 = some (.imm (.int .i64 i))
  hh : st.H = H
  hn : n0 ≤ st.n
  all : ∀ s, s < i → (nth rs s).mode ≠ 0 → ¬ CF l r s
theorem loopF0 {d : Nat} (hd : 9 ≤ d) {H : PT HB} {p n0 : Nat} {x : DV} {own : List Nat} {l : Lo} {rs : List Rst} (ok : LoOk l) (is : ISL l) (h1 : H.get p = some ⟨5, [[.imm l.sv, .imm l.pv, .imm l.gv, .imm l.rv, x]]⟩) (h2 : RsAt H x own rs) (h4 : rs.length = l.rts.length) {ov lv : IV} {r : Nat} (hr : r < l.rts.length) {os : List Bool} {ls : List Int} {lo : Nat} {ks : List Kf} {st : St} {Q : Ex → St → Prop}
    (h : IF0 H p n0 x ov lv l rs r 0 st) (hk : ∀ e st', (e = .ret ∧ st'.H = H ∧ n0 ≤ st'.n ∧ st'.T.get 6 = some (.imm (.bool false)) ∧ ¬ FRE l rs os ls r) ∨ (e = .exit 0 ∧ IF0 H p n0 x ov lv l rs r l.rts.length st') → Bk DG (K DG d) lo e ks st' Q) :
    Wp DG (K DG d) lo D.l70_0 ks st Q := by
  refine dw_loop (N := l.rts.length) (small ok.lr) (IF0 H p n0 x ov lv l rs r) (fun e st' => (e = .ret ∧ st'.H = H ∧ n0 ≤ st'.n ∧ st'.T.get 6 = some (.imm (.bool false)) ∧ ¬ FRE l rs os ls r) ∨ (e = .exit 0 ∧ IF0 H p n0 x ov lv l rs r l.rts.length st')) (fun i st hle hI => ?_) h (fun e s' h => hk e s' h)
  obtain ⟨g0, g2, ⟨i4, g4, L4⟩, g15, g16, g17, hH, hn, hall⟩ := hI
  by_cases hi : i < l.rts.length
  · have hi1 : (i : Int) < l.rts.length := by omega
    have hi' := ilt_t hi1
    have hw8 : IntKind.i64.wrap ((i : Int) + 1) = (i : Int) + 1 := wr_succ hi ok.lr
    obtain ⟨id, rfl, rfl, hrs⟩ := h2.sl (by omega)
    have iy := fun {n : Nat} => idx_hp (h := H.get) (n := n) (id := id) (row := 0) (len := rs.length) (cap := rs.length) hrs rfl (k := .i64) (z := (i : Int)) (by omega) (by omega)
    have hrow : (rs.map rowRS)[i]? = some (rowRS (nth rs i)) := by rw [List.getElem?_map, nth_get (by omega)]; rfl
    generalize hrr : rs.map rowRS = rows at hrs hrow
    simp only [Int.toNat_natCast, Nat.zero_add] at iy
    have hc := Conflict_bl (D := d) hd ok is.few hr hi
    have no : (nth rs i).mode ≠ 0 → CF l r i → ¬ FRE l rs os ls r := fun a b h => h.cf i hi a b
    generalize hQ : (fun (e : Ex) (s' : St) => _) = Q'
    simp only [D.l70_0b]
    by_cases hm : (nth rs i).mode = 0
    · simp [g0, g2, g4, L4, g15, g16, g17, hH, hi', hw8, iy, hrs, hrow, hm, B6, undT, fnEnd, argsT, PT.get_put, keep, opRun, ev, evs, evO, give, giveI, binOf, isNilK, PM.flip, putT, putL, putH, loadOf, storeOf, cut, over, ofCells, asNat, natOr, calm, clashes, Acc.clash, ressOf, resOf, frz, frz.frzs, DV.flat, DV.flat.flats, imms]
      subst hQ
      refine .inl ⟨rfl, hi, by simp [PT.get_put], by simp [PT.get_put], ⟨i4, by simp [PT.get_put], by simp [PT.get_put, imms]⟩, by simp [PT.get_put], by simp [PT.get_put], by simp [PT.get_put], rfl, by simp; omega, fun s hs => ?_⟩
      rcases Nat.lt_or_eq_of_le (Nat.le_of_lt_succ hs) with hs | rfl
      · exact hall s hs
      · exact fun h => absurd hm h
    · by_cases hcf : CF l r i
      · rw [dec_t hcf] at hc
        simp [g0, g2, g4, L4, g15, g16, g17, hH, hi', hw8, iy, hrs, hrow, hm, h1, hc, B6, undT, fnEnd, argsT, PT.get_put, keep, opRun, ev, evs, evO, give, giveI, binOf, isNilK, PM.flip, putT, putL, putH, loadOf, storeOf, cut, over, ofCells, asNat, natOr, calm, clashes, Acc.clash, ressOf, resOf, frz, frz.frzs, DV.flat, DV.flat.flats, imms]
        subst hQ
        exact .inr ⟨nofun, .inl ⟨rfl, rfl, by simp; omega, by simp [PT.get_put], no hm hcf⟩⟩
      · rw [dec_f hcf] at hc
        simp [g0, g2, g4, L4, g15, g16, g17, hH, hi', hw8, iy, hrs, hrow, hm, h1, hc, B6, undT, fnEnd, argsT, PT.get_put, keep, opRun, ev, evs, evO, give, giveI, binOf, isNilK, PM.flip, putT, putL, putH, loadOf, storeOf, cut, over, ofCells, asNat, natOr, calm, clashes, Acc.clash, ressOf, resOf, frz, frz.frzs, DV.flat, DV.flat.flats, imms]
        subst hQ
        refine .inl ⟨rfl, hi, by simp [PT.get_put], by simp [PT.get_put], ⟨i4, by simp [PT.get_put], by simp [PT.get_put, imms]⟩, by simp [PT.get_put], by simp [PT.get_put], by simp [PT.get_put], rfl, by simp; omega, fun s hs => ?_⟩
        rcases Nat.lt_or_eq_of_le (Nat.le_of_lt_succ hs) with hs | rfl
        · exact hall s hs
        · exact fun _ => hcf
  · obtain rfl : i = l.rts.length := by omega
    generalize hQ : (fun (e : Ex) (s' : St) => _) = Q'
    simp only [D.l70_0b]
    simp [g0, g2, g4, L4, g15, g16, g17, hH, B6, undT, fnEnd, argsT, PT.get_put, keep, opRun, ev, evs, evO, give, giveI, binOf, isNilK, PM.flip, putT, putL, putH, loadOf, storeOf, cut, over, ofCells, asNat, natOr, calm, clashes, Acc.clash, ressOf, resOf, frz, frz.frzs, DV.flat, DV.flat.flats, imms]
    subst hQ
    exact .inr ⟨nofun, .inr ⟨rfl, by simp [PT.get_put], by simp [PT.get_put], ⟨i4, by simp [PT.get_put, g4], by simp [PT.get_put, L4, imms]⟩, by simp [PT.get_put], by simp [PT.get_put], by simp [PT.get_put], rfl, hn, hall⟩⟩
structure IF1 (H : PT HB) (p n0 : Nat) (nv ov lv : IV) (l : Lo) (rs : List Rst) (os : List Bool) (ls : List Int) (r : Nat) (i : Nat) (st : St) : Prop where
  h0 : st.T.get 0 = some (.ptr p 0 0)
  h2 : st.T.get 2 = some (.imm (.int .i64 r))
  b4 : Box st 4 [ov, lv]
  h40 : st.T.get 40 = some (.imm nv)
  h41 : st.T.get 41 = some (.imm (.int .i64 (nd (nth l.rts r)).length))
  h42 : st.T.get 42 = some (.imm (.int .i64 i))
  hh : st.H = H
  hn : n0 ≤ st.n
  all : ∀ j, j < i → NFree l rs os ls (nth (nd (nth l.rts r)) j)
theorem loopF1 {d : Nat} (hd : 9 ≤ d) {H : PT HB} {p n0 : Nat} {own : List Nat} {l : Lo} {rs : List Rst} (ok : LoOk l) (is : ISL l) (lk : LkAt H p own l rs) (go : GoneOk l rs) {ov lv : IV} {os : List Bool} {ls : List Int} (io : InOk ov lv os ls) (mi : MI l os ls) {r : Nat} (hr : r < l.rts.length) {nv : IV} (hv : Sl 2 nv ((nd (nth l.rts r)).map ivN)) {lo : Nat} {ks : List Kf} {st : St} {Q : Ex → St → Prop}
    (h : IF1 H p n0 nv ov lv l rs os ls r 0 st) (hk : ∀ e st', (e = .ret ∧ st'.H = H ∧ n0 ≤ st'.n ∧ st'.T.get 6 = some (.imm (.bool false)) ∧ ¬ FRE l rs os ls r) ∨ (e = .exit 2 ∧ IF1 H p n0 nv ov lv l rs os ls r (nd (nth l.rts r)).length st') → Bk DG (K DG d) lo e ks st' Q) :
    Wp DG (K DG d) lo D.l70_1 ks st Q := by
  have hrb := rb3
  obtain ⟨d, rfl⟩ : ∃ d', d = d' + 1 := ⟨d - 1, by omega⟩
  have hnl : (nd (nth l.rts r)).length ≤ reachBytes := by have := is.few r hr; simp [nd]; omega
  refine dw_loop (N := (nd (nth l.rts r)).length) (small hnl) (IF1 H p n0 nv ov lv l rs os ls r) (fun e st' => (e = .ret ∧ st'.H = H ∧ n0 ≤ st'.n ∧ st'.T.get 6 = some (.imm (.bool false)) ∧ ¬ FRE l rs os ls r) ∨ (e = .exit 2 ∧ IF1 H p n0 nv ov lv l rs os ls r (nd (nth l.rts r)).length st')) (fun i st hle hI => ?_) h (fun e s' h => hk e s' h)
  obtain ⟨g0, g2, ⟨i4, g4, L4⟩, g40, g41, g42, hH, hn, hall⟩ := hI
  have lk0 := lk
  obtain ⟨x, h1, h2, h3, h4⟩ := lk
  by_cases hi : i < (nd (nth l.rts r)).length
  · have hi1 : (i : Int) < (nd (nth l.rts r)).length := by omega
    have hi' := ilt_t hi1
    have hw8 : IntKind.i64.wrap ((i : Int) + 1) = (i : Int) + 1 := wr_succ hi hnl
    have ix := fun {h : Nat → Option HB} {n : Nat} => idx_sl (h := h) (n := n) hv (by omega) (k := .i64) (z := (i : Int)) (by omega) hi1
    have no : ¬ NFree l rs os ls (nth (nd (nth l.rts r)) i) → ¬ FRE l rs os ls r := fun a h => a (h.nf i hi)
    have hmem := nth_mem hi
    have yes : NFree l rs os ls (nth (nd (nth l.rts r)) i) → ∀ j, j < i + 1 → NFree l rs os ls (nth (nd (nth l.rts r)) j) := fun h j hj => by
      rcases Nat.lt_or_eq_of_le (Nat.le_of_lt_succ hj) with hj | rfl
      · exact hall j hj
      · exact h
    simp only [Int.toNat_natCast] at ix
    generalize hgx : nth (nd (nth l.rts r)) i = y at *
    have hpt := nd_in is hr hmem
    have hsec := sec_in is hr hmem
    have ip := fun {h : Nat → Option HB} {n : Nat} => idx_in (h := h) (n := n) ok.p (by omega) (k := .i64) (z := y.pt) hpt
    have io' := fun {h : Nat → Option HB} {n : Nat} => idx_in (h := h) (n := n) io.o (by omega) (k := .i64) (z := secOf l y) (by rw [mi.1]; exact hsec)
    have hl := lies_bl (D := d + 1) (by omega) io (x := y) (by rw [mi.2.1]; exact hpt)
    have ho := fun n lo => Holder_run (d := d) (by omega) ok lk0 go is.p5 (secOf l y) (n := n) (lo := lo)
    have nfr : NFree l rs os ls y ↔ (nth ls y.pt.toNat = pos y ∨ (nth os (secOf l y).toNat = false ∧ hol l rs (secOf l y) < 0)) := Iff.rfl
    simp only [secOf] at io' ho nfr
    generalize hQ : (fun (e : Ex) (s' : St) => _) = Q'
    simp only [D.l70_1b]
    by_cases hly : nth ls y.pt.toNat = pos y
    · rw [dec_t hly] at hl
      simp [g0, g2, g4, L4, g40, g41, g42, hH, hi', hw8, ix, ip, h1, hl, ivN, ivP, B6, undT, fnEnd, argsT, PT.get_put, keep, opRun, ev, evs, evO, give, giveI, binOf, isNilK, PM.flip, putT, putL, putH, loadOf, storeOf, cut, over, ofCells, asNat, natOr, calm, clashes, Acc.clash, ressOf, resOf, frz, frz.frzs, DV.flat, DV.flat.flats, imms]
      subst hQ
      exact .inl ⟨rfl, hi, by simp [PT.get_put], by simp [PT.get_put], ⟨i4, by simp [PT.get_put], by simp [PT.get_put, imms]⟩, by simp [PT.get_put], by simp [PT.get_put], by simp [PT.get_put], rfl, by simp; omega, yes (.inl hly)⟩
    · rw [dec_f hly] at hl
      cases hoc : nth os (nth l.pts y.pt.toNat).sec.toNat with
      | true =>
        simp [g0, g2, g4, L4, g40, g41, g42, hH, hi', hw8, ix, ip, io', hoc, h1, hl, ivN, ivP, ivB1, B6, undT, fnEnd, argsT, PT.get_put, keep, opRun, ev, evs, evO, give, giveI, binOf, isNilK, PM.flip, putT, putL, putH, loadOf, storeOf, cut, over, ofCells, asNat, natOr, calm, clashes, Acc.clash, ressOf, resOf, frz, frz.frzs, DV.flat, DV.flat.flats, imms]
        subst hQ
        exact .inr ⟨nofun, .inl ⟨rfl, rfl, by simp; omega, by simp [PT.get_put], no fun h => (nfr.1 h).elim hly fun h => by rw [hoc] at h; cases h.1⟩⟩
      | false =>
        obtain ⟨n2, e2, hn2⟩ := ho (st.n + 1) (st.n + 1)
        by_cases hho : hol l rs (nth l.pts y.pt.toNat).sec < 0
        · have hj := ilt_t hho
          simp [g0, g2, g4, L4, g40, g41, g42, hH, hi', hw8, ix, ip, io', hoc, h1, hl, e2, hj, ivN, ivP, ivB1, B6, undT, fnEnd, argsT, PT.get_put, keep, opRun, ev, evs, evO, give, giveI, binOf, isNilK, PM.flip, putT, putL, putH, loadOf, storeOf, cut, over, ofCells, asNat, natOr, calm, clashes, Acc.clash, ressOf, resOf, frz, frz.frzs, DV.flat, DV.flat.flats, imms]
          subst hQ
          exact .inl ⟨rfl, hi, by simp [PT.get_put], by simp [PT.get_put], ⟨i4, by simp [PT.get_put], by simp [PT.get_put, imms]⟩, by simp [PT.get_put], by simp [PT.get_put], by simp [PT.get_put], rfl, by simp; omega, yes (.inr ⟨hoc, hho⟩)⟩
        · have hj := ilt_f (show 0 ≤ hol l rs (nth l.pts y.pt.toNat).sec by omega)
          simp [g0, g2, g4, L4, g40, g41, g42, hH, hi', hw8, ix, ip, io', hoc, h1, hl, e2, hj, ivN, ivP, ivB1, B6, undT, fnEnd, argsT, PT.get_put, keep, opRun, ev, evs, evO, give, giveI, binOf, isNilK, PM.flip, putT, putL, putH, loadOf, storeOf, cut, over, ofCells, asNat, natOr, calm, clashes, Acc.clash, ressOf, resOf, frz, frz.frzs, DV.flat, DV.flat.flats, imms]
          subst hQ
          exact .inr ⟨nofun, .inl ⟨rfl, rfl, by simp; omega, by simp [PT.get_put], no fun h => (nfr.1 h).elim hly fun h => hho h.2⟩⟩
  · obtain rfl : i = (nd (nth l.rts r)).length := by omega
    generalize hQ : (fun (e : Ex) (s' : St) => _) = Q'
    simp only [D.l70_1b]
    simp [g0, g2, g4, L4, g40, g41, g42, hH, B6, undT, fnEnd, argsT, PT.get_put, keep, opRun, ev, evs, evO, give, giveI, binOf, isNilK, PM.flip, putT, putL, putH, loadOf, storeOf, cut, over, ofCells, asNat, natOr, calm, clashes, Acc.clash, ressOf, resOf, frz, frz.frzs, DV.flat, DV.flat.flats, imms]
    subst hQ
    exact .inr ⟨nofun, .inr ⟨rfl, by simp [PT.get_put], by simp [PT.get_put], ⟨i4, by simp [PT.get_put, g4], by simp [PT.get_put, L4, imms]⟩, by simp [PT.get_put], by simp [PT.get_put], by simp [PT.get_put], rfl, hn, hall⟩⟩
theorem isFree_run {d : Nat} (hd : 9 ≤ d) {H : PT HB} {p : Nat} {own : List Nat} {l : Lo} {rs : List Rst} (ok : LoOk l) (is : ISL l) (lk : LkAt H p own l rs) (go : GoneOk l rs) {ov lv : IV} {os : List Bool} {ls : List Int} (io : InOk ov lv os ls) (mi : MI l os ls) {r : Nat} (hr : r < l.rts.length) {n lo : Nat} :
    ∃ n', K DG (d + 1) 70 [.ptr p 0 0, inD ov lv, .imm (.int .i64 r)] H n lo = some (.imm (.bool (dec (FRE l rs os ls r))), H, n') ∧ n ≤ n' := by
  have lk0 := lk
  obtain ⟨x, h1, h2, h3, h4⟩ := lk
  have xl := h2.len
  rw [h4] at xl
  have rk := ok.or _ (nth_mem hr)
  obtain ⟨nv, en, hv⟩ := Needs_bl (D := d) (by omega) ok hr (is.few r hr).1 (is.few r hr).2
  have vl := hv.len
  simp only [List.length_map] at vl
  have oc := isOcc_bl (D := d) (by omega) io rk.p rk.lp fun z hz => by rw [mi.1]; exact path_in is hr hz
  have ix := fun {h : Nat → Option HB} {n : Nat} => idx_sl (h := h) (n := n) ok.r (by omega) (k := .i64) (z := (r : Int)) (by omega) (show (r : Int) < l.rts.length by omega)
  have key : Fe (K DG (d + 1) 70 [.ptr p 0 0, inD ov lv, .imm (.int .i64 r)] H n lo) (fun v H' n' => v = .imm (.bool (dec (FRE l rs os ls r))) ∧ H' = H ∧ n ≤ n') := by
    rw [D.k70]
    refine fn_dw rfl ?_
    simp [io.o.scal, io.l.scal, h1, xl, B6, undT, fnEnd, argsT, PT.get_put, keep, opRun, ev, evs, evO, give, giveI, binOf, isNilK, PM.flip, putT, putL, putH, loadOf, storeOf, cut, over, ofCells, asNat, natOr, calm, clashes, Acc.clash, ressOf, resOf, frz, frz.frzs, DV.flat, DV.flat.flats, imms]
    refine loopF0 (n0 := n) (os := os) (ls := ls) (ov := ov) (lv := lv) (r := r) hd ok is h1 h2 h4 hr ⟨by simp [PT.get_put], by simp [PT.get_put], ⟨n, by simp [PT.get_put], by simp [PT.get_put, imms]⟩, by simp [PT.get_put], by simp [PT.get_put], by simp [PT.get_put], rfl, by simp, fun s hs => by omega⟩ ?_
    rintro e st' (⟨rfl, hH, hn, g6, hno⟩ | ⟨rfl, g0, g2, ⟨i4, g4, L4⟩, g15, g16, g17, hH, hn, hcf⟩)
    · simp [g6, hH, hn, hno, B6, undT, fnEnd, argsT, PT.get_put, keep, opRun, ev, evs, evO, give, giveI, binOf, isNilK, PM.flip, putT, putL, putH, loadOf, storeOf, cut, over, ofCells, asNat, natOr, calm, clashes, Acc.clash, ressOf, resOf, frz, frz.frzs, DV.flat, DV.flat.flats, imms]
    simp [g0, g2, g4, L4, hH, h1, en, vl, B6, undT, fnEnd, argsT, PT.get_put, keep, opRun, ev, evs, evO, give, giveI, binOf, isNilK, PM.flip, putT, putL, putH, loadOf, storeOf, cut, over, ofCells, asNat, natOr, calm, clashes, Acc.clash, ressOf, resOf, frz, frz.frzs, DV.flat, DV.flat.flats, imms]
    refine loopF1 (n0 := n) hd ok is lk0 go io mi hr hv ⟨by simp [PT.get_put, g0], by simp [PT.get_put, g2], ⟨i4, by simp [PT.get_put, g4], by simp [PT.get_put, L4, imms]⟩, by simp [PT.get_put], by simp [PT.get_put], by simp [PT.get_put], rfl, by simp; omega, fun j hj => by omega⟩ ?_
    rintro e st2 (⟨rfl, hH2, hn2, g6, hno⟩ | ⟨rfl, f0, f2, ⟨i5, f4, M4⟩, f40, f41, f42, hH2, hn2, hnf⟩)
    · simp [g6, hH2, hn2, hno, B6, undT, fnEnd, argsT, PT.get_put, keep, opRun, ev, evs, evO, give, giveI, binOf, isNilK, PM.flip, putT, putL, putH, loadOf, storeOf, cut, over, ofCells, asNat, natOr, calm, clashes, Acc.clash, ressOf, resOf, frz, frz.frzs, DV.flat, DV.flat.flats, imms]
    have hct : FRE l rs os ls r ↔ ¬ ∃ z ∈ (nth l.rts r).path, nth os z.toNat = true := ⟨fun h => h.oc, fun h => ⟨hcf, hnf, h⟩⟩
    rw [dec_congr hct]
    generalize (∃ z ∈ (nth l.rts r).path, nth os z.toNat = true) = P at oc ⊢
    simp [f0, f2, f4, M4, hH2, h1, ix, oc, hn2, ivRt, B6, undT, fnEnd, argsT, PT.get_put, keep, opRun, ev, evs, evO, give, giveI, binOf, isNilK, PM.flip, putT, putL, putH, loadOf, storeOf, cut, over, ofCells, asNat, natOr, calm, clashes, Acc.clash, ressOf, resOf, frz, frz.frzs, DV.flat, DV.flat.flats, imms]
    by_cases hP : P
    · simp [hP, dec_true, dec_false]
    · simp [hP, dec_true, dec_false]
  obtain ⟨v, H', n', e, rfl, rfl, hn⟩ := key
  exact ⟨n', e, hn⟩
end Go.Proofs.YtkgjgehffijepaaDoor.D

-- K7
set_option linter.unusedVariables false
set_option linter.unusedSimpArgs false
set_option maxHeartbeats 16000000
namespace Go.Proofs.YtkgjgehffijepaaDoor.D
open Go Go.PM Go.Lib
noncomputable def callF (l : Lo) (rs : List Rst) (os : List Bool) (ls : List Int) (r : Nat) : Int × List Rst :=
  bif dec ((nth rs r).mode = 0) then (bif dec (FRE l rs os ls r) then (0, rs.set r ⟨1, 0, 0, false⟩) else (8, rs)) else (7, rs)
noncomputable def cancelF (rs : List Rst) (r : Nat) : Int × List Rst :=
  bif dec ((nth rs r).mode = 1) then (0, rs.set r rs0) else bif dec ((nth rs r).mode = 2) then (0, rs.set r ⟨4, 0, 0, false⟩) else (7, rs)
noncomputable def cmdF (l : Lo) (rs : List Rst) (os : List Bool) (ls : List Int) (c r : Int) : Int × List Rst :=
  bif dec (¬ MI l os ls ∨ (c ≠ 1 ∧ c ≠ 2)) then (1, rs) else bif dec (InR r l.rts.length) then (bif dec (c = 1) then callF l rs os ls r.toNat else cancelF rs r.toNat) else (5, rs)
/-- What a call of the Lock does: an answer, how routes stand, nothing else. -/
def Does (K : Option (DV × PT HB × Nat)) (H : PT HB) (n : Nat) (p : Nat) (own : List Nat) (l : Lo) (v : DV) (rs' : List Rst) : Prop := ∃ H' n', K = some (v, H', n') ∧ LkAt H' p own l rs' ∧ n ≤ n' ∧ ∀ j, j ∉ own → H'.get j = H.get j
theorem set_lk {H : PT HB} {p id : Nat} {l : Lo} {rs : List Rst} (h1 : H.get p = some ⟨5, [[.imm l.sv, .imm l.pv, .imm l.gv, .imm l.rv, .sl id 0 rs.length rs.length]]⟩) (h3 : p ∉ [id]) (h4 : rs.length = l.rts.length) {r : Nat} (hr : r < rs.length) (y : Rst) :
    LkAt (H.put id (some ⟨4, (rs.map rowRS).set r (rowRS y)⟩)) p [id] l (rs.set r y) := by
  have hp : ¬ p = id := fun e => h3 (by simp [e])
  refine ⟨.sl id 0 rs.length rs.length, by simp [PT.get_put, hp, h1], .inr ⟨id, rfl, by simp, ?_⟩, h3, by simp [h4]⟩
  simp [PT.get_put, List.map_set]
theorem call_run {d : Nat} (hd : 10 ≤ d) {H : PT HB} {p : Nat} {own : List Nat} {l : Lo} {rs : List Rst} (ok : LoOk l) (is : ISL l) (lk : LkAt H p own l rs) (go : GoneOk l rs) {ov lv : IV} {os : List Bool} {ls : List Int} (io : InOk ov lv os ls) (mi : MI l os ls) {r : Nat} (hr : r < l.rts.length) {n : Nat} :
    Does (K DG (d + 1) 37 [.ptr p 0 0, inD ov lv, .imm (.int .i64 r)] H n 0) H n p own l (.imm (.int .i64 (callF l rs os ls r).1)) (callF l rs os ls r).2 := by
  obtain ⟨d, rfl⟩ : ∃ d', d = d' + 1 := ⟨d - 1, by omega⟩
  have lk0 := lk
  obtain ⟨x, h1, h2, h3, h4⟩ := lk
  obtain ⟨id, rfl, rfl, hrs⟩ := h2.sl (by omega)
  have hrl : r < rs.length := by omega
  have iy := fun {n : Nat} => idx_hp (h := H.get) (n := n) (id := id) (row := 0) (len := rs.length) (cap := rs.length) hrs rfl (k := .i64) (z := (r : Int)) (by omega) (by omega)
  have hrow : (rs.map rowRS)[r]? = some (rowRS (nth rs r)) := by rw [List.getElem?_map, nth_get (by omega)]; rfl
  have hset := set_lk h1 h3 h4 hrl ⟨1, 0, 0, false⟩
  obtain ⟨n1, e1, hn1⟩ := isFree_run (d := d) (by omega) ok is lk0 go io mi hr (n := n + 1) (lo := n + 1)
  generalize hrr : rs.map rowRS = rows at hrs hrow hset
  simp only [Int.toNat_natCast, Nat.zero_add] at iy
  have hid : ∀ j, j ∉ [id] → ¬ j = id := fun j hj e => hj (by simp [e])
  have key : Fe (K DG (d + 1 + 1) 37 [.ptr p 0 0, inD ov lv, .imm (.int .i64 r)] H n 0) (fun v H' n' => v = .imm (.int .i64 (callF l rs os ls r).1) ∧ LkAt H' p [id] l (callF l rs os ls r).2 ∧ n ≤ n' ∧ ∀ j, j ∉ [id] → H'.get j = H.get j) := by
    rw [D.k37]
    refine fn_dw rfl ?_
    by_cases hm : (nth rs r).mode = 0
    · by_cases hf : FRE l rs os ls r
      · have ec : callF l rs os ls r = (0, rs.set r ⟨1, 0, 0, false⟩) := by simp [callF, dec_t hm, dec_t hf]
        rw [dec_t hf] at e1
        rw [ec]
        simp [io.o.scal, io.l.scal, h1, hrs, iy, hrow, hm, e1, evParts, lay, B6, undT, fnEnd, argsT, PT.get_put, keep, opRun, ev, evs, evO, give, giveI, binOf, isNilK, PM.flip, putT, putL, putH, loadOf, storeOf, cut, over, ofCells, asNat, natOr, calm, clashes, Acc.clash, ressOf, resOf, frz, frz.frzs, DV.flat, DV.flat.flats, imms]
        refine ⟨hset, by omega, fun j hj => by simp [PT.get_put, hj]⟩
      · have ec : callF l rs os ls r = (8, rs) := by simp [callF, dec_t hm, dec_f hf]
        rw [dec_f hf] at e1
        rw [ec]
        simp [io.o.scal, io.l.scal, h1, hrs, iy, hrow, hm, e1, B6, undT, fnEnd, argsT, PT.get_put, keep, opRun, ev, evs, evO, give, giveI, binOf, isNilK, PM.flip, putT, putL, putH, loadOf, storeOf, cut, over, ofCells, asNat, natOr, calm, clashes, Acc.clash, ressOf, resOf, frz, frz.frzs, DV.flat, DV.flat.flats, imms]
        exact ⟨lk0, by omega⟩
    · have ec : callF l rs os ls r = (7, rs) := by simp [callF, dec_f hm]
      rw [ec]
      simp [io.o.scal, io.l.scal, h1, hrs, iy, hrow, hm, B6, undT, fnEnd, argsT, PT.get_put, keep, opRun, ev, evs, evO, give, giveI, binOf, isNilK, PM.flip, putT, putL, putH, loadOf, storeOf, cut, over, ofCells, asNat, natOr, calm, clashes, Acc.clash, ressOf, resOf, frz, frz.frzs, DV.flat, DV.flat.flats, imms]
      exact lk0
  obtain ⟨v, H', n', e, rfl, a, b, c⟩ := key
  exact ⟨H', n', e, a, b, c⟩
theorem cancel_run {d : Nat} {H : PT HB} {p : Nat} {own : List Nat} {l : Lo} {rs : List Rst} (lk : LkAt H p own l rs) {r : Nat} (hr : r < l.rts.length) {n : Nat} :
    Does (K DG (d + 1) 38 [.ptr p 0 0, .imm (.int .i64 r)] H n 0) H n p own l (.imm (.int .i64 (cancelF rs r).1)) (cancelF rs r).2 := by
  have lk0 := lk
  obtain ⟨x, h1, h2, h3, h4⟩ := lk
  obtain ⟨id, rfl, rfl, hrs⟩ := h2.sl (by omega)
  have hrl : r < rs.length := by omega
  have iy := fun {n : Nat} => idx_hp (h := H.get) (n := n) (id := id) (row := 0) (len := rs.length) (cap := rs.length) hrs rfl (k := .i64) (z := (r : Int)) (by omega) (by omega)
  have hrow : (rs.map rowRS)[r]? = some (rowRS (nth rs r)) := by rw [List.getElem?_map, nth_get (by omega)]; rfl
  have hset := set_lk h1 h3 h4 hrl rs0
  have hset4 := set_lk h1 h3 h4 hrl ⟨4, 0, 0, false⟩
  generalize hrr : rs.map rowRS = rows at hrs hrow hset hset4
  simp only [Int.toNat_natCast, Nat.zero_add] at iy
  have key : Fe (K DG (d + 1) 38 [.ptr p 0 0, .imm (.int .i64 r)] H n 0) (fun v H' n' => v = .imm (.int .i64 (cancelF rs r).1) ∧ LkAt H' p [id] l (cancelF rs r).2 ∧ n ≤ n' ∧ ∀ j, j ∉ [id] → H'.get j = H.get j) := by
    rw [D.k38]
    refine fn_dw rfl ?_
    by_cases m1 : (nth rs r).mode = 1
    · have ec : cancelF rs r = (0, rs.set r rs0) := by simp [cancelF, dec_t m1]
      rw [ec]
      simp [h1, hrs, iy, hrow, m1, evParts, lay, B6, undT, fnEnd, argsT, PT.get_put, keep, opRun, ev, evs, evO, give, giveI, binOf, isNilK, PM.flip, putT, putL, putH, loadOf, storeOf, cut, over, ofCells, asNat, natOr, calm, clashes, Acc.clash, ressOf, resOf, frz, frz.frzs, DV.flat, DV.flat.flats, imms]
      exact ⟨hset, fun j hj => by simp [PT.get_put, hj]⟩
    · by_cases m2 : (nth rs r).mode = 2
      · have ec : cancelF rs r = (0, rs.set r ⟨4, 0, 0, false⟩) := by simp [cancelF, dec_f m1, dec_t m2]
        rw [ec]
        simp [h1, hrs, iy, hrow, m1, m2, evParts, lay, B6, undT, fnEnd, argsT, PT.get_put, keep, opRun, ev, evs, evO, give, giveI, binOf, isNilK, PM.flip, putT, putL, putH, loadOf, storeOf, cut, over, ofCells, asNat, natOr, calm, clashes, Acc.clash, ressOf, resOf, frz, frz.frzs, DV.flat, DV.flat.flats, imms]
        exact ⟨hset4, fun j hj => by simp [PT.get_put, hj]⟩
      · have ec : cancelF rs r = (7, rs) := by simp [cancelF, dec_f m1, dec_f m2]
        rw [ec]
        simp [h1, hrs, iy, hrow, m1, m2, B6, undT, fnEnd, argsT, PT.get_put, keep, opRun, ev, evs, evO, give, giveI, binOf, isNilK, PM.flip, putT, putL, putH, loadOf, storeOf, cut, over, ofCells, asNat, natOr, calm, clashes, Acc.clash, ressOf, resOf, frz, frz.frzs, DV.flat, DV.flat.flats, imms]
        exact lk0
  obtain ⟨v, H', n', e, rfl, a, b, c⟩ := key
  exact ⟨H', n', e, a, b, c⟩
theorem Command_run {d : Nat} (hd : 11 ≤ d) {H : PT HB} {p : Nat} {own : List Nat} {l : Lo} {rs : List Rst} (ok : LoOk l) (is : ISL l) (lk : LkAt H p own l rs) (go : GoneOk l rs) {ov lv : IV} {os : List Bool} {ls : List Int} (io : InOk ov lv os ls) (c r : Int) {n : Nat} :
    Does (K DG (d + 1) 14 [.ptr p 0 0, inD ov lv, .agg [.imm (.int .i64 c), .imm (.int .i64 r)]] H n 0) H n p own l (.imm (.int .i64 (cmdF l rs os ls c r).1)) (cmdF l rs os ls c r).2 := by
  obtain ⟨d, rfl⟩ : ∃ d', d = d' + 1 := ⟨d - 1, by omega⟩
  have lk0 := lk
  obtain ⟨x, h1, h2, h3, h4⟩ := lk
  have xl := h2.len
  rw [h4] at xl
  have e := MayIn_bl (D := d + 1) (by omega) ok io
  have key : Fe (K DG (d + 1 + 1) 14 [.ptr p 0 0, inD ov lv, .agg [.imm (.int .i64 c), .imm (.int .i64 r)]] H n 0) (fun v H' n' => v = .imm (.int .i64 (cmdF l rs os ls c r).1) ∧ LkAt H' p own l (cmdF l rs os ls c r).2 ∧ n ≤ n' ∧ ∀ j, j ∉ own → H'.get j = H.get j) := by
    rw [D.k14]
    refine fn_dw rfl ?_
    by_cases mi : MI l os ls
    · rw [dec_t mi] at e
      by_cases hc : c = 1 ∨ c = 2
      · have n1 : ¬ (¬ MI l os ls ∨ (c ≠ 1 ∧ c ≠ 2)) := by
          rintro (h | h)
          · exact h mi
          · omega
        by_cases hr : InR r l.rts.length
        · have hrl : r.toNat < l.rts.length := by have := hr.1; have := hr.2; omega
          have er : ((r.toNat : Nat) : Int) = r := by have := hr.1; omega
          have j0 : ILt r 0 = False := ilt_f hr.1
          have j1 : ILt r l.rts.length = True := ilt_t hr.2
          rcases hc with rfl | rfl
          · have ec : cmdF l rs os ls 1 r = callF l rs os ls r.toNat := by simp only [cmdF, dec_f n1, dec_t hr, dec_true, cond_true, cond_false]
            obtain ⟨H', n', e1, a1, a2, a3⟩ := call_run (d := d) (by omega) ok is lk0 go io mi hrl (n := n + 2)
            rw [er] at e1
            rw [ec]
            simp [io.o.scal, io.l.scal, h1, e, xl, j0, j1, e1, B6, undT, fnEnd, argsT, PT.get_put, keep, opRun, ev, evs, evO, give, giveI, binOf, isNilK, PM.flip, putT, putL, putH, loadOf, storeOf, cut, over, ofCells, asNat, natOr, calm, clashes, Acc.clash, ressOf, resOf, frz, frz.frzs, DV.flat, DV.flat.flats, imms]
            exact ⟨a1, by omega, a3⟩
          · have ec : cmdF l rs os ls 2 r = cancelF rs r.toNat := by simp only [cmdF, dec_f n1, dec_t hr, dec_f (show ¬ (2 : Int) = 1 by decide), cond_true, cond_false]
            obtain ⟨H', n', e1, a1, a2, a3⟩ := cancel_run (d := d) lk0 hrl (n := n + 2)
            rw [er] at e1
            rw [ec]
            simp [io.o.scal, io.l.scal, h1, e, xl, j0, j1, e1, B6, undT, fnEnd, argsT, PT.get_put, keep, opRun, ev, evs, evO, give, giveI, binOf, isNilK, PM.flip, putT, putL, putH, loadOf, storeOf, cut, over, ofCells, asNat, natOr, calm, clashes, Acc.clash, ressOf, resOf, frz, frz.frzs, DV.flat, DV.flat.flats, imms]
            exact ⟨a1, by omega, a3⟩
        · have ec : cmdF l rs os ls c r = (5, rs) := by simp only [cmdF, dec_f n1, dec_f hr, cond_false]
          rw [ec]
          by_cases r0 : r < 0
          · have j0 : ILt r 0 = True := ilt_t r0
            rcases hc with rfl | rfl
            · simp [io.o.scal, io.l.scal, h1, e, xl, j0, B6, undT, fnEnd, argsT, PT.get_put, keep, opRun, ev, evs, evO, give, giveI, binOf, isNilK, PM.flip, putT, putL, putH, loadOf, storeOf, cut, over, ofCells, asNat, natOr, calm, clashes, Acc.clash, ressOf, resOf, frz, frz.frzs, DV.flat, DV.flat.flats, imms]
              exact ⟨lk0, by omega⟩
            · simp [io.o.scal, io.l.scal, h1, e, xl, j0, B6, undT, fnEnd, argsT, PT.get_put, keep, opRun, ev, evs, evO, give, giveI, binOf, isNilK, PM.flip, putT, putL, putH, loadOf, storeOf, cut, over, ofCells, asNat, natOr, calm, clashes, Acc.clash, ressOf, resOf, frz, frz.frzs, DV.flat, DV.flat.flats, imms]
              exact ⟨lk0, by omega⟩
          · have j0 : ILt r 0 = False := ilt_f (by omega)
            have j1 : ILt r l.rts.length = False := ilt_f (by unfold InR at hr; omega)
            rcases hc with rfl | rfl
            · simp [io.o.scal, io.l.scal, h1, e, xl, j0, j1, B6, undT, fnEnd, argsT, PT.get_put, keep, opRun, ev, evs, evO, give, giveI, binOf, isNilK, PM.flip, putT, putL, putH, loadOf, storeOf, cut, over, ofCells, asNat, natOr, calm, clashes, Acc.clash, ressOf, resOf, frz, frz.frzs, DV.flat, DV.flat.flats, imms]
              exact ⟨lk0, by omega⟩
            · simp [io.o.scal, io.l.scal, h1, e, xl, j0, j1, B6, undT, fnEnd, argsT, PT.get_put, keep, opRun, ev, evs, evO, give, giveI, binOf, isNilK, PM.flip, putT, putL, putH, loadOf, storeOf, cut, over, ofCells, asNat, natOr, calm, clashes, Acc.clash, ressOf, resOf, frz, frz.frzs, DV.flat, DV.flat.flats, imms]
              exact ⟨lk0, by omega⟩
      · have n1 : ¬ MI l os ls ∨ (c ≠ 1 ∧ c ≠ 2) := .inr (by omega)
        have ec : cmdF l rs os ls c r = (1, rs) := by simp only [cmdF, dec_t n1, cond_true]
        have c1 : ¬ c = 1 := by omega
        have c2 : ¬ c = 2 := by omega
        rw [ec]
        simp [io.o.scal, io.l.scal, h1, e, c1, c2, B6, undT, fnEnd, argsT, PT.get_put, keep, opRun, ev, evs, evO, give, giveI, binOf, isNilK, PM.flip, putT, putL, putH, loadOf, storeOf, cut, over, ofCells, asNat, natOr, calm, clashes, Acc.clash, ressOf, resOf, frz, frz.frzs, DV.flat, DV.flat.flats, imms]
        exact ⟨lk0, by omega⟩
    · have n1 : ¬ MI l os ls ∨ (c ≠ 1 ∧ c ≠ 2) := .inl mi
      have ec : cmdF l rs os ls c r = (1, rs) := by simp only [cmdF, dec_t n1, cond_true]
      rw [dec_f mi] at e
      rw [ec]
      simp [io.o.scal, io.l.scal, h1, e, B6, undT, fnEnd, argsT, PT.get_put, keep, opRun, ev, evs, evO, give, giveI, binOf, isNilK, PM.flip, putT, putL, putH, loadOf, storeOf, cut, over, ofCells, asNat, natOr, calm, clashes, Acc.clash, ressOf, resOf, frz, frz.frzs, DV.flat, DV.flat.flats, imms]
      exact ⟨lk0, by omega⟩
  obtain ⟨v, H', n', e, rfl, a, b, c⟩ := key
  exact ⟨H', n', e, a, b, c⟩
end Go.Proofs.YtkgjgehffijepaaDoor.D
