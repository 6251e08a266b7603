/-
  lock.New, MayIn, Safe, SameOut. Over D.
-/
import Derived.Test.YtkgjgehffijepabDoorK2
set_option linter.unusedVariables false
set_option linter.unusedSimpArgs false
set_option maxHeartbeats 16000000
namespace Go.Proofs.YtkgjgehffijepabDoor.D
open Go Go.PM Go.Lib
/-! ### How routes stand -/
structure Rst where
  mode : Int
  timer : Int
  gone : Int
  seen : Bool
  deriving Inhabited
abbrev rowRS (x : Rst) : List DV := [.imm (.int .i64 x.mode), .imm (.int .i64 x.timer), .imm (.int .i64 x.gone), .imm (.bool x.seen)]
def RsAt (H : PT HB) (x : DV) (own : List Nat) (rs : List Rst) : Prop := (rs = [] ∧ own = [] ∧ ∃ v, x = .imm v ∧ Sl 4 v []) ∨ ∃ id, own = [id] ∧ x = .sl id 0 rs.length rs.length ∧ H.get id = some ⟨4, rs.map rowRS⟩
def LkAt (H : PT HB) (p : Nat) (own : List Nat) (l : Lo) (rs : List Rst) : Prop := ∃ x, H.get p = some ⟨5, [[.imm l.sv, .imm l.pv, .imm l.gv, .imm l.rv, x]]⟩ ∧ RsAt H x own rs ∧ p ∉ own ∧ rs.length = l.rts.length
theorem RsAt.mono {H H' : PT HB} {x : DV} {own : List Nat} {rs : List Rst} (h : RsAt H x own rs) (hf : ∀ i ∈ own, H'.get i = H.get i) : RsAt H' x own rs := by
  rcases h with h | ⟨id, rfl, h1, h2⟩
  · exact .inl h
  · exact .inr ⟨id, rfl, h1, by rw [hf id (by simp)]; exact h2⟩
theorem LkAt.mono {H H' : PT HB} {p : Nat} {own : List Nat} {l : Lo} {rs : List Rst} (h : LkAt H p own l rs) (hf : ∀ i ∈ p :: own, H'.get i = H.get i) : LkAt H' p own l rs := by
  obtain ⟨x, h1, h2, h3, h4⟩ := h
  exact ⟨x, by rw [hf p (by simp)]; exact h1, h2.mono fun i hi => hf i (by simp [hi]), h3, h4⟩
abbrev rs0 : Rst := ⟨0, 0, 0, false⟩
theorem LockNew_run {d : Nat} (hd : 6 ≤ d) {l : Lo} (ok : LoOk l) (is : ISL l) (H : PT HB) (n : Nat) :
    Fe (K DG (d + 1) 9 [l.dv] H n 0) (fun v H' n' => ∃ p own l', v = .tup [.ptr p 0 0, .imm (.int .i64 0)] ∧ LoOk l' ∧ LoEq l l' ∧ LkAt H' p own l' (List.replicate l.rts.length rs0) ∧ (∀ i ∈ p :: own, n ≤ i ∧ i < n') ∧ ∀ j, j < n → H'.get j = H.get j) := by
  have e1 := Is_bl (D := d) (by omega) ok
  rw [dec_t is] at e1
  obtain ⟨l', e2, ok', eq⟩ := copied_bl (D := d) (by omega) ok is
  have rl := ok.r.len
  simp only [List.length_map] at rl
  have r6 := is.r2
  have a1 : l.rts.length ≤ appMax := by unfold appMax; omega
  have a2 : l.rts.length * 32 ≤ appMax := by unfold appMax; omega
  rw [D.k9]
  refine fn_dw rfl ?_
  have b1 : ¬ n + 2 = n + 1 := by omega
  have b2 : ¬ n + 1 = n + 2 := by omega
  simp [ok.s.scal, ok.p.scal, ok.g.scal, ok.r.scal, ok'.s.scal, ok'.p.scal, ok'.g.scal, ok'.r.scal, e1, e2, rl, a1, a2, evParts, lay, B6, undT, fnEnd, argsT, PT.get_put, keep, opRun, ev, evs, evO, give, giveI, binOf, isNilK, PM.flip, putT, putL, putH, loadOf, storeOf, cut, over, ofCells, asNat, natOr, calm, clashes, Acc.clash, ressOf, resOf, frz, frz.frzs, DV.flat, DV.flat.flats, imms]
  refine ⟨[n + 1], l', ok', eq, ⟨_, by simp [PT.get_put], .inr ⟨n + 1, rfl, rfl, ?_⟩, by simp, by simp [eq.len]⟩, ?_, fun j hj => ?_⟩
  · simp [PT.get_put, imms]
  · simp
    omega
  · have c1 : ¬ j = n + 1 := by omega
    have c2 : ¬ j = n + 2 := by omega
    have c3 : ¬ j = n + 1 + 1 := by omega
    simp [PT.get_put, c1, c2, c3]
/-! ### What the field tells -/
def ivB1 (b : Bool) : List IV := [.bool b]
structure InOk (ov lv : IV) (os : List Bool) (ls : List Int) : Prop where
  o : Sl 1 ov (os.map ivB1)
  l : Sl 1 lv (ls.map ivI)
  lo : os.length ≤ reachBytes
  ll : ls.length ≤ reachBytes
abbrev inD (ov lv : IV) : DV := .agg [.imm ov, .imm lv]
def MI (l : Lo) (os : List Bool) (ls : List Int) : Prop := os.length = l.secs.length ∧ ls.length = l.pts.length ∧ ¬ ∃ z ∈ ls, z < 0 ∨ 2 < z
theorem saysMI {d : Nat} (hd : 1 ≤ d) {H : PT HB} {n0 : Nat} {ls : List Int} : Says d 39 [] H n0 (fun z : Int => .imm (.int .i64 z)) (fun z => z < 0 ∨ 2 < z) (fun z => z ∈ ls) := fun z _ n hn => by
  obtain ⟨d, rfl⟩ : ∃ d', d = d' + 1 := ⟨d - 1, by omega⟩
  have key : Fe (K DG (d + 1) 39 [.imm (.int .i64 z)] H n n) (fun x _ n' => n ≤ n' ∧ x = .imm (.bool (dec (z < 0 ∨ 2 < z)))) := by
    rw [D.k39]
    refine fn_dw rfl ?_
    by_cases h0 : z < 0
    · simp [ilt_t h0, dec_t (show z < 0 ∨ 2 < z from .inl h0), h0, B6, undT, fnEnd, argsT, PT.get_put, keep, opRun, ev, evs, evO, give, giveI, binOf, isNilK, PM.flip, putT, putL, putH, loadOf, storeOf, cut, over, ofCells, asNat, natOr, calm, clashes, Acc.clash, ressOf, resOf, frz, frz.frzs, DV.flat, DV.flat.flats, imms]
    · by_cases h2 : 2 < z
      · simp [ilt_f (show 0 ≤ z by omega), ilt_t h2, h2, B6, undT, fnEnd, argsT, PT.get_put, keep, opRun, ev, evs, evO, give, giveI, binOf, isNilK, PM.flip, putT, putL, putH, loadOf, storeOf, cut, over, ofCells, asNat, natOr, calm, clashes, Acc.clash, ressOf, resOf, frz, frz.frzs, DV.flat, DV.flat.flats, imms]
      · simp [ilt_f (show 0 ≤ z by omega), ilt_f (show z ≤ 2 by omega), B6, undT, fnEnd, argsT, PT.get_put, keep, opRun, ev, evs, evO, give, giveI, binOf, isNilK, PM.flip, putT, putL, putH, loadOf, storeOf, cut, over, ofCells, asNat, natOr, calm, clashes, Acc.clash, ressOf, resOf, frz, frz.frzs, DV.flat, DV.flat.flats, imms]
        omega
  obtain ⟨x, H1, n1, e, h1, rfl⟩ := key
  exact ⟨H1, n1, e, h1⟩
theorem MayIn_bl {D : Nat} (hD : 4 ≤ D) {l : Lo} (ok : LoOk l) {ov lv : IV} {os : List Bool} {ls : List Int} (io : InOk ov lv os ls) :
    bl (K DG D) 19 [l.dv, inD ov lv] = some (.imm (.bool (dec (MI l os ls)))) := by
  obtain ⟨d, rfl⟩ : ∃ d, D = d + 3 := ⟨D - 3, by omega⟩
  have sl := ok.s.len
  have pl := ok.p.len
  have ol := io.o.len
  have il := io.l.len
  simp only [List.length_map] at sl pl ol il
  obtain ⟨x1, H1, n1, e1, hn1, rfl⟩ := containsF_ints (d := d) (n := 2) (H := .lf) (f := 39) (caps := []) rfl (saysMI (by omega)) io.l io.ll 2
  have c1 : ((os.length : Int) = (l.secs.length : Int)) = (os.length = l.secs.length) := propext ⟨fun h => by omega, fun h => by omega⟩
  have c2 : ((ls.length : Int) = (l.pts.length : Int)) = (ls.length = l.pts.length) := propext ⟨fun h => by omega, fun h => by omega⟩
  have hm : MI l os ls ↔ os.length = l.secs.length ∧ ls.length = l.pts.length ∧ ¬ ∃ z ∈ ls, z < 0 ∨ 2 < z := Iff.rfl
  rw [dec_congr hm]
  generalize (∃ z ∈ ls, z < 0 ∨ 2 < z) = P at e1 ⊢
  refine bl_fe ?_
  rw [D.k19]
  refine fn_dw rfl ?_
  generalize hQ : Fin _ _ = Q
  simp (config := {contextual := true, maxSteps := 2000000}) [ok.s.scal, ok.p.scal, ok.g.scal, ok.r.scal, io.o.scal, io.l.scal, sl, pl, ol, il, c1, c2, e1, B6, undT, fnEnd, argsT, PT.get_put, keep, opRun, ev, evs, evO, give, giveI, binOf, isNilK, PM.flip, putT, putL, putH, loadOf, storeOf, cut, over, ofCells, asNat, natOr, calm, clashes, Acc.clash, ressOf, resOf, frz, frz.frzs, DV.flat, DV.flat.flats, imms]
  subst hQ
  by_cases hP : P
  · simp (config := {contextual := true}) [hP, dec_t, B6, undT, fnEnd, argsT, PT.get_put, keep, opRun, ev, evs, evO, give, giveI, binOf, isNilK, PM.flip, putT, putL, putH, loadOf, storeOf, cut, over, ofCells, asNat, natOr, calm, clashes, Acc.clash, ressOf, resOf, frz, frz.frzs, DV.flat, DV.flat.flats, imms]
  · simp (config := {contextual := true}) [hP, dec_f, B6, undT, fnEnd, argsT, PT.get_put, keep, opRun, ev, evs, evO, give, giveI, binOf, isNilK, PM.flip, putT, putL, putH, loadOf, storeOf, cut, over, ofCells, asNat, natOr, calm, clashes, Acc.clash, ressOf, resOf, frz, frz.frzs, DV.flat, DV.flat.flats, imms]
end Go.Proofs.YtkgjgehffijepabDoor.D
