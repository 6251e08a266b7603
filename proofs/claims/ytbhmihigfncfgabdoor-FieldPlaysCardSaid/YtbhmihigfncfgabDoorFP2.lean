/-
  The document's field: New, Train, Stick, Step. Over D.
-/
import Derived.Test.YtbhmihigfncfgabDoorFP1
set_option linter.unusedVariables false
set_option linter.unusedSimpArgs false
set_option maxHeartbeats 16000000
namespace Go.Proofs.YtbhmihigfncfgabDoor.D
open Go Go.PM Go.Lib
/-- A row of the heap; of an empty one nothing is known. -/
def Rw (H : PT HB) (v : DV) (rows : List (List DV)) (ids : List Nat) : Prop := (rows = [] ∧ ids = []) ∨ ∃ id, ids = [id] ∧ v = .sl id 0 rows.length rows.length ∧ H.get id = some ⟨1, rows⟩
theorem Rw.mono {H H' : PT HB} {v : DV} {rows : List (List DV)} {ids : List Nat} (h : Rw H v rows ids) (hf : ∀ i ∈ ids, H'.get i = H.get i) : Rw H' v rows ids := by
  rcases h with h | ⟨id, rfl, h1, h2⟩
  · exact .inl h
  · exact .inr ⟨id, rfl, h1, by rw [hf id (by simp)]; exact h2⟩
def rL (p : FPt) : List DV := rowI p.l
def rT (p : FPt) : List DV := rowI p.t
def rS (p : FPt) : List DV := rowI p.s
/-- The document's field: the same points. -/
structure X6 (H : PT HB) (g : Nat) (o a b c : List Nat) (occ : List Bool) (pts : List FPt) : Prop where
  h : ∃ vo vl vt vd, H.get g = some ⟨4, [[vo, vl, vt, vd]]⟩ ∧ SlV H 1 vo (occ.map rowBo) o ∧ SlV H 1 vl (pts.map rL) a ∧ Rw H vt (pts.map rT) b ∧ Rw H vd (pts.map rS) c
  nd : (g :: (o ++ (a ++ (b ++ c)))).Nodup
theorem X6.mono {H H' : PT HB} {g : Nat} {o a b c : List Nat} {occ : List Bool} {pts : List FPt} (h : X6 H g o a b c occ pts) (hf : ∀ i ∈ g :: (o ++ (a ++ (b ++ c))), H'.get i = H.get i) : X6 H' g o a b c occ pts := by
  obtain ⟨⟨vo, vl, vt, vd, h1, h2, h3, h4, h5⟩, nd⟩ := h
  exact ⟨⟨vo, vl, vt, vd, by rw [hf g (by simp)]; exact h1, h2.mono fun i hi => hf i (by simp [hi]), h3.mono fun i hi => hf i (by simp [hi]), h4.mono fun i hi => hf i (by simp [hi]), h5.mono fun i hi => hf i (by simp [hi])⟩, nd⟩
theorem Train6_run {d : Nat} {H : PT HB} {g : Nat} {o a b c : List Nat} {occ : List Bool} {pts : List FPt} (hx : X6 H g o a b c occ pts) (h0 : occ ≠ []) (k : Int) (n : Nat) :
    Fe (K DG (d + 1) 31 [.ptr g 0 0, .imm (.int .i64 k)] H n 0) (fun v H' n' => n' = n ∧ (∀ j, j ∉ o → H'.get j = H.get j) ∧
      ((InR k occ.length ∧ v = .imm (.int .i64 0) ∧ X6 H' g o a b c (flipAt occ k) pts) ∨ (¬ InR k occ.length ∧ v = .imm (.int .i64 5) ∧ X6 H' g o a b c occ pts))) := by
  have hx0 := hx
  obtain ⟨⟨vo, vl, vt, vd, h1, h2, h3, h4, h5⟩, nd⟩ := hx
  generalize hro : occ.map rowBo = ros at h2
  have hrol : ros.length = occ.length := by rw [← hro]; simp
  have hro0 : ros ≠ [] := fun e => by rw [e] at hro; simp at hro; exact h0 hro
  cases h2 with
  | nil => exact absurd rfl hro0
  | sl ho hro1 =>
  rename_i io
  have hgi : ¬ g = io := fun e => by subst e; simp at nd
  rw [D.k31]
  refine fn_dw rfl ?_
  by_cases hk : InR k occ.length
  · obtain ⟨k0, k1⟩ := hk
    have j0 : ILt k 0 = False := ilt_f k0
    have j1 : ILt k ros.length = True := ilt_t (by omega)
    have hkn : k.toNat < occ.length := by omega
    have hrow : ros[k.toNat]? = some (rowBo (nth occ k.toNat)) := by rw [← hro, List.getElem?_map, nth_get hkn]; rfl
    have ix := fun {n : Nat} => idx_hp (h := H.get) (n := n) (id := io) (row := 0) (len := ros.length) (cap := ros.length) ho rfl (k := .i64) (z := k) k0 (by omega)
    simp only [rowBo] at hrow
    simp [h1, ho, j0, j1, ix, hrow, B6, undT, fnEnd, argsT, PT.get_put, keep, opRun, ev, evs, evO, give, giveI, binOf, isNilK, PM.flip, putT, putL, putH, loadOf, storeOf, cut, over, ofCells, asNat, natOr, calm, clashes, Acc.clash, ressOf, resOf, frz, frz.frzs, DV.flat, DV.flat.flats, imms]
    refine ⟨fun j hj hj2 => absurd hj2 hj, ⟨k0, k1⟩, ⟨⟨.sl io 0 ros.length ros.length, vl, vt, vd, ?_, ?_, h3.mono fun i hi => ?_, h4.mono fun i hi => ?_, h5.mono fun i hi => ?_⟩, nd⟩⟩
    · simp [PT.get_put, hgi, h1]
    · have e1 : (flipAt occ k).map rowBo = ros.set k.toNat (rowBo (!nth occ k.toNat)) := by rw [flipAt, List.map_set, hro]
      have := SlV.sl (sz := 1) (H := H.put io (some ⟨1, ros.set k.toNat (rowBo (!nth occ k.toNat))⟩)) (id := io) (rows := (flipAt occ k).map rowBo) (by rw [e1]; simp [PT.get_put]) (fun e => by
        have := congrArg List.length e
        simp [flipAt] at this
        exact h0 this)
      simpa [flipAt, hrol, rowBo] using this
    · have : ¬ i = io := fun e => by subst e; simp at nd; exact nd.2.1.1 hi
      simp [PT.get_put, this]
    · have : ¬ i = io := fun e => by subst e; simp at nd; exact nd.2.1.2.1 hi
      simp [PT.get_put, this]
    · have : ¬ i = io := fun e => by subst e; simp at nd; exact nd.2.1.2.2 hi
      simp [PT.get_put, this]
  · have nk : ¬ InR k occ.length := hk
    by_cases k0 : k < 0
    · have j0 : ILt k 0 = True := ilt_t k0
      simp [h1, j0, B6, undT, fnEnd, argsT, PT.get_put, keep, opRun, ev, evs, evO, give, giveI, binOf, isNilK, PM.flip, putT, putL, putH, loadOf, storeOf, cut, over, ofCells, asNat, natOr, calm, clashes, Acc.clash, ressOf, resOf, frz, frz.frzs, DV.flat, DV.flat.flats, imms]
      exact ⟨nk, hx0⟩
    · have j0 : ILt k 0 = False := ilt_f (by omega)
      have j1 : ILt k ros.length = False := ilt_f (by unfold InR at nk; omega)
      simp [h1, j0, j1, B6, undT, fnEnd, argsT, PT.get_put, keep, opRun, ev, evs, evO, give, giveI, binOf, isNilK, PM.flip, putT, putL, putH, loadOf, storeOf, cut, over, ofCells, asNat, natOr, calm, clashes, Acc.clash, ressOf, resOf, frz, frz.frzs, DV.flat, DV.flat.flats, imms]
      exact ⟨nk, hx0⟩
/-- The rows of points that are there, in the heap. -/
theorem X6.rows {H : PT HB} {g : Nat} {o a b c : List Nat} {occ : List Bool} {pts : List FPt} (hx : X6 H g o a b c occ pts) (h0 : pts ≠ []) :
    ∃ vo x y z, a = [x] ∧ b = [y] ∧ c = [z] ∧ H.get g = some ⟨4, [[vo, .sl x 0 pts.length pts.length, .sl y 0 pts.length pts.length, .sl z 0 pts.length pts.length]]⟩ ∧ SlV H 1 vo (occ.map rowBo) o ∧ H.get x = some ⟨1, pts.map rL⟩ ∧ H.get y = some ⟨1, pts.map rT⟩ ∧ H.get z = some ⟨1, pts.map rS⟩ ∧
      ¬ g = x ∧ ¬ g = y ∧ ¬ g = z ∧ ¬ x = y ∧ ¬ x = z ∧ ¬ y = z ∧ x ∉ o ∧ y ∉ o ∧ z ∉ o := by
  obtain ⟨⟨vo, vl, vt, vd, h1, h2, h3, h4, h5⟩, nd⟩ := hx
  rcases h4 with ⟨e, _⟩ | ⟨y, rfl, rfl, hy⟩
  · simp at e; exact absurd e h0
  rcases h5 with ⟨e, _⟩ | ⟨z, rfl, rfl, hz⟩
  · simp at e; exact absurd e h0
  generalize hr : pts.map rL = rows at h3
  have hl : rows.length = pts.length := by rw [← hr]; simp
  cases h3 with
  | nil => simp at hr; exact absurd hr h0
  | sl hx hne =>
    rename_i x
    rw [hl] at h1
    simp only [List.length_map] at h1
    simp [List.nodup_append] at nd
    refine ⟨vo, x, y, z, rfl, rfl, rfl, h1, h2, hx, hy, hz, ?_⟩
    grind
theorem X6.mk' {H : PT HB} {g x y z : Nat} {o : List Nat} {vo : DV} {occ : List Bool} {pts : List FPt} (h0 : pts ≠ []) (h1 : H.get g = some ⟨4, [[vo, .sl x 0 pts.length pts.length, .sl y 0 pts.length pts.length, .sl z 0 pts.length pts.length]]⟩) (h2 : SlV H 1 vo (occ.map rowBo) o) (hx : H.get x = some ⟨1, pts.map rL⟩) (hy : H.get y = some ⟨1, pts.map rT⟩) (hz : H.get z = some ⟨1, pts.map rS⟩)
    (nd : (g :: (o ++ ([x] ++ ([y] ++ [z])))).Nodup) : X6 H g o [x] [y] [z] occ pts := by
  refine ⟨⟨vo, _, _, _, h1, h2, ?_, .inr ⟨y, rfl, by simp, hy⟩, .inr ⟨z, rfl, by simp, hz⟩⟩, nd⟩
  have := SlV.sl hx (by simpa using h0)
  simpa using this
theorem Stick6_run {d : Nat} {H : PT HB} {g : Nat} {o a b c : List Nat} {occ : List Bool} {pts : List FPt} (hx : X6 H g o a b c occ pts) (k : Int) (n : Nat) :
    Fe (K DG (d + 1) 32 [.ptr g 0 0, .imm (.int .i64 k)] H n 0) (fun v H' n' => n' = n ∧ (∀ j, j ∉ a ++ (b ++ c) → H'.get j = H.get j) ∧
      ((InR k pts.length ∧ v = .imm (.int .i64 0) ∧ X6 H' g o a b c occ (pts.set k.toNat ⟨0, 0, 0⟩)) ∨ (¬ InR k pts.length ∧ v = .imm (.int .i64 5) ∧ X6 H' g o a b c occ pts))) := by
  have hx0 := hx
  by_cases hk : InR k pts.length
  · obtain ⟨k0, k1⟩ := hk
    have hkn : k.toNat < pts.length := by omega
    have hne : pts ≠ [] := fun e => by subst e; simp at hkn
    have hnd := hx.nd
    obtain ⟨vo, x, y, z, rfl, rfl, rfl, h1, h2, hx, hy, hz, n1, n2, n3, n4, n5, n6, m1, m2, m3⟩ := hx.rows hne
    have j0 : ILt k 0 = False := ilt_f k0
    have j1 : ILt k pts.length = True := ilt_t k1
    have n4' : ¬ y = x := fun e => n4 e.symm
    have n5' : ¬ z = x := fun e => n5 e.symm
    have n6' : ¬ z = y := fun e => n6 e.symm
    have ixx := fun {h : Nat → Option HB} {n : Nat} {r} (hh : h x = some ⟨1, r⟩) => idx_hp (h := h) (n := n) (id := x) (row := 0) (len := pts.length) (cap := pts.length) hh rfl (k := .i64) (z := k) k0 (by omega)
    have ixy := fun {h : Nat → Option HB} {n : Nat} {r} (hh : h y = some ⟨1, r⟩) => idx_hp (h := h) (n := n) (id := y) (row := 0) (len := pts.length) (cap := pts.length) hh rfl (k := .i64) (z := k) k0 (by omega)
    have ixz := fun {h : Nat → Option HB} {n : Nat} {r} (hh : h z = some ⟨1, r⟩) => idx_hp (h := h) (n := n) (id := z) (row := 0) (len := pts.length) (cap := pts.length) hh rfl (k := .i64) (z := k) k0 (by omega)
    have rx : (pts.map rL)[k.toNat]? = some (rL (nthP pts k.toNat)) := by rw [List.getElem?_map]; simp [nthP, hkn]
    have ry : (pts.map rT)[k.toNat]? = some (rT (nthP pts k.toNat)) := by rw [List.getElem?_map]; simp [nthP, hkn]
    have rz : (pts.map rS)[k.toNat]? = some (rS (nthP pts k.toNat)) := by rw [List.getElem?_map]; simp [nthP, hkn]
    have ex : (pts.map rL).set k.toNat (rowI 0) = (pts.set k.toNat ⟨0, 0, 0⟩).map rL := by rw [List.map_set]; rfl
    have ey : (pts.map rT).set k.toNat (rowI 0) = (pts.set k.toNat ⟨0, 0, 0⟩).map rT := by rw [List.map_set]; rfl
    have ez : (pts.map rS).set k.toNat (rowI 0) = (pts.set k.toNat ⟨0, 0, 0⟩).map rS := by rw [List.map_set]; rfl
    have hne' : pts.set k.toNat ⟨0, 0, 0⟩ ≠ [] := fun e => by
      have := congrArg List.length e
      simp at this; exact hne this
    have hl' : (pts.set k.toNat ⟨0, 0, 0⟩).length = pts.length := by simp
    generalize pts.set k.toNat ⟨0, 0, 0⟩ = qs at *
    generalize hrx : pts.map rL = rwx at *
    generalize hry : pts.map rT = rwy at *
    generalize hrz : pts.map rS = rwz at *
    simp only [rL, rT, rS, rowI] at rx ry rz
    have i1 := fun {n : Nat} => ixx (h := H.get) (n := n) hx
    have i2 := fun {n : Nat} {v} => ixy (h := (H.put x v).get) (n := n) (r := rwy) (by simp [PT.get_put, n4', hy])
    have i3 := fun {n : Nat} {v w} => ixz (h := ((H.put x v).put y w).get) (n := n) (r := rwz) (by simp [PT.get_put, n5', n6', hz])
    simp only [Nat.zero_add] at i1 i2 i3
    rw [D.k32]
    refine fn_dw rfl ?_
    simp [h1, j0, j1, i1, i2, i3, hx, hy, hz, n4', n5', n6', rx, ry, rz, B6, undT, fnEnd, argsT, PT.get_put, keep, opRun, ev, evs, evO, give, giveI, binOf, isNilK, PM.flip, putT, putL, putH, loadOf, storeOf, cut, over, ofCells, asNat, natOr, calm, clashes, Acc.clash, ressOf, resOf, frz, frz.frzs, DV.flat, DV.flat.flats, imms]
    refine ⟨fun j a1 a2 a3 => by simp [a1, a2, a3], ⟨k0, k1⟩, ?_⟩
    have q := X6.mk' (H := ((H.put x (some ⟨1, rwx.set k.toNat (rowI 0)⟩)).put y (some ⟨1, rwy.set k.toNat (rowI 0)⟩)).put z (some ⟨1, rwz.set k.toNat (rowI 0)⟩)) (g := g) (x := x) (y := y) (z := z) (o := o) (vo := vo) (occ := occ) (pts := qs) hne' (by rw [hl']; simp [PT.get_put, n1, n2, n3, h1]) (h2.mono fun i hi => by
      have a1 : ¬ i = x := fun e => m1 (e ▸ hi)
      have a2 : ¬ i = y := fun e => m2 (e ▸ hi)
      have a3 : ¬ i = z := fun e => m3 (e ▸ hi)
      simp [PT.get_put, a1, a2, a3]) (by simp [PT.get_put, n4, n5, ex]) (by simp [PT.get_put, n6, ey]) (by simp [PT.get_put, ez]) hnd
    simpa [rowI] using q
  · obtain ⟨⟨vo, vl, vt, vd, h1, h2, h3, h4, h5⟩, nd⟩ := hx
    have vll := h3.len
    rw [List.length_map] at vll
    have nk : ¬ InR k pts.length := hk
    rw [D.k32]
    refine fn_dw rfl ?_
    by_cases k0 : k < 0
    · have j0 : ILt k 0 = True := ilt_t k0
      simp [h1, j0, B6, undT, fnEnd, argsT, PT.get_put, keep, opRun, ev, evs, evO, give, giveI, binOf, isNilK, PM.flip, putT, putL, putH, loadOf, storeOf, cut, over, ofCells, asNat, natOr, calm, clashes, Acc.clash, ressOf, resOf, frz, frz.frzs, DV.flat, DV.flat.flats, imms]
      exact ⟨nk, hx0⟩
    · have j0 : ILt k 0 = False := ilt_f (by omega)
      have j1 : ILt k pts.length = False := ilt_f (by unfold InR at nk; omega)
      simp [h1, vll, j0, j1, B6, undT, fnEnd, argsT, PT.get_put, keep, opRun, ev, evs, evO, give, giveI, binOf, isNilK, PM.flip, putT, putL, putH, loadOf, storeOf, cut, over, ofCells, asNat, natOr, calm, clashes, Acc.clash, ressOf, resOf, frz, frz.frzs, DV.flat, DV.flat.flats, imms]
      exact ⟨nk, hx0⟩
end Go.Proofs.YtbhmihigfncfgabDoor.D
