/-
  field.New of any layout, Train. Over D.
-/
import Derived.Test.YtlknjgmhfimhbacGreatDoorFldT
set_option linter.unusedVariables false
set_option linter.unusedSimpArgs false
set_option maxHeartbeats 16000000
namespace Go.Proofs.YtlknjgmhfimhbacGreatDoor.D
open Go Go.PM Go.Lib
theorem app_h0 {s bytes : Nat} {h : Nat → Option HB} {n y : Nat} {e : List DV} (hy : h y = some ⟨s, [e]⟩) (hs : 0 < s) (hb : bytes ≤ 100) :
    appOf h n 0 s bytes (.imm .nils) (.sl y 0 1 1) = some { v := .sl n 0 1 1, hw := [(n, some ⟨s, [e]⟩)], n' := n + 1, acc := [.wX n, .rX y] } := by
  have a2 : bytes ≤ appMax := by unfold appMax; omega
  have a0 : 1 ≤ appMax := by unfold appMax; omega
  simp [appOf, srcOf, rowsOf, raccOf, hy, a0, a2, hs]
theorem app_h1 {s bytes : Nat} {h : Nat → Option HB} {n y id : Nat} {e : List DV} {rows : List (List DV)} (hy : h y = some ⟨s, [e]⟩) (hx : h id = some ⟨s, rows⟩) (hne : y ≠ id) (hs : 0 < s) (hb : bytes ≤ 100) (hl : rows.length ≤ 1000) :
    appOf h n 0 s bytes (.sl id 0 rows.length rows.length) (.sl y 0 1 1) = some { v := .sl n 0 (rows.length + 1) (rows.length + 1), hw := [(id, none), (n, some ⟨s, rows ++ [e]⟩)], n' := n + 1, acc := [.wX id, .wX n, .rX y] } := by
  have a1 : ¬ rows.length + 1 ≤ rows.length := by omega
  have a2 : rows.length + 1 ≤ appMax := by unfold appMax; omega
  have a3 : (rows.length + 1) * bytes ≤ appMax := by
    have := Nat.mul_le_mul (show rows.length + 1 ≤ 1001 by omega) hb
    unfold appMax; omega
  simp [appOf, srcOf, rowsOf, raccOf, hy, hx, hne, a1, a2, a3, hs]
abbrev pt0 : List DV := [.imm (.int .i64 1), .imm (.int .i64 0), .imm (.int .i64 0)]
/-- The points so far. -/
def PtsAt (H : PT HB) (f : Nat) (vp : DV) (i : Nat) : Prop := (vp = .imm .nils ∧ i = 0) ∨ ∃ ip, 0 < i ∧ f < ip ∧ vp = .sl ip 0 i i ∧ H.get ip = some ⟨3, List.replicate i pt0⟩
def INw (H0 : PT HB) (n0 f io k N : Nat) (i : Nat) (st : St) : Prop := ∃ vp, st.T.get 4 = some (.ptr f 0 0) ∧ st.T.get 16 = some (.imm (.int .i64 N)) ∧ st.T.get 17 = some (.imm (.int .i64 i)) ∧
  st.H.get f = some ⟨2, [[.sl io 0 k k, vp]]⟩ ∧ st.H.get io = some ⟨1, List.replicate k [.imm (.bool false)]⟩ ∧ PtsAt st.H f vp i ∧ (∀ ip r l c, vp = .sl ip r l c → ip < st.n) ∧ f < st.n ∧ ∀ j, j < n0 → st.H.get j = H0.get j
theorem loopNw {d : Nat} {H0 : PT HB} {n0 f io k N : Nat} (h1 : n0 ≤ io) (h2 : io < f) (hN : N ≤ 100) {ks : List Kf} {st : St} {Q : Ex → St → Prop} (h : INw H0 n0 f io k N 0 st)
    (hk : ∀ st', INw H0 n0 f io k N N st' → Bk DG (K DG d) 0 (.exit 0) ks st' Q) : Wp DG (K DG d) 0 D.l42_0 ks st Q := by
  have hrb := rb3
  refine dw_loop (N := N) (small (by omega)) (INw H0 n0 f io k N) (fun e st' => e = .exit 0 ∧ INw H0 n0 f io k N N st') (fun i st hle hI => ?_) h (fun e s' h => by rw [h.1]; exact hk s' h.2)
  obtain ⟨vp, h4, h16, h17, hf, ho, hp, hlt, hfn, hj⟩ := hI
  by_cases hi : i < N
  · have hi' : (i : Int) < N := by omega
    have hj' := ilt_t hi'
    have hw8 : IntKind.i64.wrap ((i : Int) + 1) = (i : Int) + 1 := wr_succ hi (by omega)
    have e1 : ¬ f = st.n := by omega
    have e2 : ¬ io = st.n := by omega
    have e3 : ¬ f = st.n + 1 := by omega
    have e4 : ¬ io = st.n + 1 := by omega
    have e5 : ¬ io = f := by omega
    rcases hp with ⟨rfl, h0i⟩ | ⟨ip, hi0, hfi, rfl, hip⟩
    · have p1 := fun {h : Nat → Option HB} {n y : Nat} hy => app_h0 (s := 3) (bytes := 24) (h := h) (n := n) (y := y) (e := pt0) hy (by omega) (by omega)
      generalize hQ : (fun (e : Ex) (s' : St) => _) = Q'
      simp only [D.l42_0b]
      simp [h4, h16, h17, hf, hj', hw8, p1, e1, e3, evParts, evParts2, lay, rowsN, B6, undT, fnEnd, argsT, PT.get_put, keep, opRun, ev, evs, evO, give, giveI, binOf, isNilK, PM.flip, putT, putL, putH, loadOf, storeOf, cut, over, ofCells, asNat, natOr, calm, clashes, Acc.clash, ressOf, resOf, frz, frz.frzs, DV.flat, DV.flat.flats, imms]
      subst hQ
      subst h0i
      refine .inl ⟨rfl, hi, _, by simp [PT.get_put], by simp [PT.get_put], by simp [PT.get_put], by simp [PT.get_put], by simp [PT.get_put, ho, e2, e4, e5], .inr ⟨st.n + 1, by omega, by omega, rfl, ?_⟩, (fun ip r l c h => (by cases h; simp)), (by simp; omega), fun j hlt => ?_⟩
      · have : ¬ st.n + 1 = f := by omega
        simp [PT.get_put, this]
      · have a1 : ¬ j = f := by omega
        have a2 : ¬ j = st.n := by omega
        have a3 : ¬ j = st.n + 1 := by omega
        simp [PT.get_put, a1, a2, a3, hj j hlt]
    · have hipn := hlt _ _ _ _ rfl
      have e6 : ¬ ip = st.n := by omega
      have e7 : ¬ st.n = ip := by omega
      have e8 : ¬ f = ip := by omega
      have e9 : ¬ io = ip := by omega
      have p1 := fun {h : Nat → Option HB} {n : Nat} hy hx => app_h1 (s := 3) (bytes := 24) (h := h) (n := n) (y := st.n) (id := ip) (e := pt0) (rows := List.replicate i pt0) hy hx e7 (by omega) (by omega) (by simp; omega)
      simp only [List.length_replicate] at p1
      generalize hQ : (fun (e : Ex) (s' : St) => _) = Q'
      simp only [D.l42_0b]
      simp [h4, h16, h17, hf, hip, hj', hw8, p1, e1, e3, e6, e8, evParts, evParts2, lay, rowsN, B6, undT, fnEnd, argsT, PT.get_put, keep, opRun, ev, evs, evO, give, giveI, binOf, isNilK, PM.flip, putT, putL, putH, loadOf, storeOf, cut, over, ofCells, asNat, natOr, calm, clashes, Acc.clash, ressOf, resOf, frz, frz.frzs, DV.flat, DV.flat.flats, imms]
      subst hQ
      refine .inl ⟨rfl, hi, _, by simp [PT.get_put], by simp [PT.get_put], by simp [PT.get_put], by simp [PT.get_put], by simp [PT.get_put, ho, e2, e4, e5, e9], .inr ⟨st.n + 1, by omega, by omega, rfl, ?_⟩, (fun ip r l c h => (by cases h; simp)), (by simp; omega), fun j hlt => ?_⟩
      · have : ¬ st.n + 1 = f := by omega
        simp [PT.get_put, this, List.replicate_succ']
      · have a1 : ¬ j = f := by omega
        have a2 : ¬ j = st.n := by omega
        have a3 : ¬ j = st.n + 1 := by omega
        have a4 : ¬ j = ip := by omega
        simp [PT.get_put, a1, a2, a3, a4, hj j hlt]
  · obtain rfl : i = N := by omega
    generalize hQ : (fun (e : Ex) (s' : St) => _) = Q'
    simp only [D.l42_0b]
    simp [h4, h16, h17, B6, undT, fnEnd, argsT, PT.get_put, keep, opRun, ev, evs, evO, give, giveI, binOf, isNilK, PM.flip, putT, putL, putH, loadOf, storeOf, cut, over, ofCells, asNat, natOr, calm, clashes, Acc.clash, ressOf, resOf, frz, frz.frzs, DV.flat, DV.flat.flats, imms]
    subst hQ
    exact .inr ⟨nofun, rfl, vp, by simp [PT.get_put], by simp [PT.get_put], by simp [PT.get_put], hf, ho, hp, hlt, hfn, hj⟩
/-- A new field: all sections clear, all points normal. -/
theorem New_run {d : Nat} (hd : 6 ≤ d) {l : Lo} (ok : LoOk l) (is : ISL l) (H : PT HB) (n : Nat) :
    Fe (K DG (d + 1) 42 [l.dv] H n 0) (fun v H' n' => ∃ f own, v = .tup [.ptr f 0 0, .imm (.int .i64 0)] ∧ Fd H' f own (List.replicate l.secs.length false) (List.replicate l.pts.length ⟨1, 0, 0⟩) ∧
      (∀ i ∈ f :: own, n ≤ i ∧ i < n') ∧ ∀ j, j < n → H'.get j = H.get j) := by
  have e1 := Is_bl (D := d) (by omega) ok
  rw [dec_t is] at e1
  have sl := ok.s.len
  have pl := ok.p.len
  simp only [List.length_map] at sl pl
  have s1 := is.s1
  have s2 := is.s2
  have p2 := is.p2
  have a1 : l.secs.length ≤ appMax := by unfold appMax; omega
  rw [D.k42]
  refine fn_dw rfl ?_
  have b1 : ¬ n + 2 = n + 1 := by omega
  have b2 : ¬ n + 1 = n + 2 := by omega
  simp [ok.s.scal, ok.p.scal, ok.g.scal, ok.r.scal, e1, sl, pl, a1, evParts, lay, B6, undT, fnEnd, argsT, PT.get_put, keep, opRun, ev, evs, evO, give, giveI, binOf, isNilK, PM.flip, putT, putL, putH, loadOf, storeOf, cut, over, ofCells, asNat, natOr, calm, clashes, Acc.clash, ressOf, resOf, frz, frz.frzs, DV.flat, DV.flat.flats, imms]
  refine loopNw (H0 := H) (n0 := n) (f := n + 2) (io := n + 1) (k := l.secs.length) (N := l.pts.length) (by omega) (by omega) (by omega) ⟨_, by simp [PT.get_put], by simp [PT.get_put], by simp [PT.get_put], by simp [PT.get_put], by simp [PT.get_put], .inl ⟨rfl, rfl⟩, (fun _ _ _ _ h => (by cases h)), by simp, fun j hj => ?_⟩ ?_
  · have a2 : ¬ j = n + 1 := by omega
    have a3 : ¬ j = n + 2 := by omega
    simp [PT.get_put, a2, a3]
  rintro st' ⟨vp, h4, h16, h17, hf, ho, hp, hlt, hfn, hj⟩
  simp [h4, B6, undT, fnEnd, argsT, PT.get_put, keep, opRun, ev, evs, evO, give, giveI, binOf, isNilK, PM.flip, putT, putL, putH, loadOf, storeOf, cut, over, ofCells, asNat, natOr, calm, clashes, Acc.clash, ressOf, resOf, frz, frz.frzs, DV.flat, DV.flat.flats, imms]
  have hso : SlV st'.H 1 (.sl (n + 1) 0 l.secs.length l.secs.length) ((List.replicate l.secs.length false).map rowBo) [n + 1] := by
    have h0 : (List.replicate l.secs.length false).map rowBo ≠ [] := fun e => by
      have := congrArg List.length e
      rw [List.length_map, List.length_replicate] at this
      exact absurd this (by show ¬ _ = 0; omega)
    have := SlV.sl (sz := 1) (H := st'.H) (id := n + 1) (rows := (List.replicate l.secs.length false).map rowBo) (by rw [ho]; simp [rowBo]) h0
    simpa using this
  rcases hp with ⟨rfl, h0⟩ | ⟨ip, hi0, hfi, rfl, hip⟩
  · refine ⟨[n + 1], ⟨_, _, [n + 1], [], hf, hso, ?_, rfl, by simp⟩, ?_, hj⟩
    · rw [h0]; exact .nil
    · simp; omega
  · have hipn := hlt _ _ _ _ rfl
    refine ⟨[n + 1, ip], ⟨_, _, [n + 1], [ip], hf, hso, ?_, rfl, by simp; omega⟩, ?_, hj⟩
    · have h0 : (List.replicate l.pts.length (⟨1, 0, 0⟩ : FPt)).map rowP ≠ [] := fun e => by
        have := congrArg List.length e
        rw [List.length_map, List.length_replicate] at this
        exact absurd this (by show ¬ _ = 0; omega)
      have := SlV.sl (sz := 3) (H := st'.H) (id := ip) (rows := (List.replicate l.pts.length (⟨1, 0, 0⟩ : FPt)).map rowP) (by rw [hip]; simp [rowP]) h0
      simpa using this
    · simp; omega
/-! ### Train -/
def flipAt (occ : List Bool) (k : Int) : List Bool := occ.set k.toNat (!nth occ k.toNat)
theorem Train_run {d : Nat} {H : PT HB} {f : Nat} {own : List Nat} {occ : List Bool} {pts : List FPt} (hf : Fd H f own occ pts) (h0 : occ ≠ []) (k : Int) (n : Nat) :
    Fe (K DG (d + 1) 106 [.ptr f 0 0, .imm (.int .i64 k)] H n 0) (fun v H' n' => n' = n ∧ (∀ j, j ∉ own → H'.get j = H.get j) ∧
      ((InR k occ.length ∧ v = .imm (.int .i64 0) ∧ Fd H' f own (flipAt occ k) pts) ∨ (¬ InR k occ.length ∧ v = .imm (.int .i64 5) ∧ Fd H' f own occ pts))) := by
  have hf0 := hf
  obtain ⟨vo, vp, io, ip, h1, h2, h3, rfl, h5⟩ := hf
  generalize hro : occ.map rowBo = ros at h2
  have hrol : ros.length = occ.length := by rw [← hro]; simp
  have hro0 : ros ≠ [] := fun e => by rw [e] at hro; simp at hro; exact h0 hro
  cases h2 with
  | nil => exact absurd rfl hro0
  | sl ho hro1 =>
  rename_i io
  have hfi : ¬ f = io := fun e => by subst e; simp at h5
  rw [D.k106]
  refine fn_dw rfl ?_
  by_cases hk : InR k occ.length
  · obtain ⟨k0, k1⟩ := hk
    have j0 : ILt k 0 = False := ilt_f k0
    have j1 : ILt k ros.length = True := ilt_t (by omega)
    have hkn : k.toNat < occ.length := by omega
    have hrow : ros[k.toNat]? = some (rowBo (nth occ k.toNat)) := by rw [← hro, List.getElem?_map, nth_get hkn]; rfl
    have ix := fun {n : Nat} => idx_hp (h := H.get) (n := n) (id := io) (row := 0) (len := ros.length) (cap := ros.length) ho rfl (k := .i64) (z := k) k0 (by omega)
    simp only [rowBo] at hrow
    simp [h1, ho, j0, j1, ix, hrow, B6, undT, fnEnd, argsT, PT.get_put, keep, opRun, ev, evs, evO, give, giveI, binOf, isNilK, PM.flip, putT, putL, putH, loadOf, storeOf, cut, over, ofCells, asNat, natOr, calm, clashes, Acc.clash, ressOf, resOf, frz, frz.frzs, DV.flat, DV.flat.flats, imms]
    refine ⟨fun j hj _ => ?_, ⟨k0, k1⟩, .sl io 0 ros.length ros.length, vp, [io], ip, ?_, ?_, h3.mono fun i hi => ?_, rfl, h5⟩
    · simp [PT.get_put, hj]
    · simp [PT.get_put, hfi, h1]
    · have e1 : (flipAt occ k).map rowBo = ros.set k.toNat (rowBo (!nth occ k.toNat)) := by rw [flipAt, List.map_set, hro]
      have := SlV.sl (sz := 1) (H := H.put io (some ⟨1, ros.set k.toNat (rowBo (!nth occ k.toNat))⟩)) (id := io) (rows := (flipAt occ k).map rowBo) (by rw [e1]; simp [PT.get_put]) (fun e => by
        have := congrArg List.length e
        simp [flipAt] at this
        exact h0 this)
      simpa [flipAt, hrol, rowBo] using this
    · have : ¬ i = io := fun e => by subst e; simp at h5; exact h5.2.1 hi
      simp [PT.get_put, this]
  · have nk : ¬ InR k occ.length := hk
    by_cases k0 : k < 0
    · have j0 : ILt k 0 = True := ilt_t k0
      simp [h1, j0, B6, undT, fnEnd, argsT, PT.get_put, keep, opRun, ev, evs, evO, give, giveI, binOf, isNilK, PM.flip, putT, putL, putH, loadOf, storeOf, cut, over, ofCells, asNat, natOr, calm, clashes, Acc.clash, ressOf, resOf, frz, frz.frzs, DV.flat, DV.flat.flats, imms]
      exact ⟨nk, hf0⟩
    · have j0 : ILt k 0 = False := ilt_f (by omega)
      have j1 : ILt k ros.length = False := ilt_f (by unfold InR at nk; omega)
      simp [h1, j0, j1, B6, undT, fnEnd, argsT, PT.get_put, keep, opRun, ev, evs, evO, give, giveI, binOf, isNilK, PM.flip, putT, putL, putH, loadOf, storeOf, cut, over, ofCells, asNat, natOr, calm, clashes, Acc.clash, ressOf, resOf, frz, frz.frzs, DV.flat, DV.flat.flats, imms]
      exact ⟨nk, hf0⟩
end Go.Proofs.YtlknjgmhfimhbacGreatDoor.D
