/-
  LockBusy over D.
-/
import Derived.Test.YtkgjgehffijepaaDoorT4
import Derived.Test.YtkgjgehffijepaaDoorK7
import Derived.Test.YtkgjgehffijepaaDoorT8c
set_option linter.unusedVariables false
set_option linter.unusedSimpArgs false
set_option maxHeartbeats 16000000
namespace Go.Proofs.YtkgjgehffijepaaDoor.D
open Go Go.PM Go.Lib
def ss_LockBusy : List (Bool × List Kd) := [(true, kdL), (false, [.i .i64]), (false, [.i .i64])]
theorem nth_repF {k i : Nat} : nth (List.replicate k false) i = false := by
  simp only [nth, List.getD, List.getElem?_replicate]
  split <;> rfl
theorem nth_rep {α : Type} [Inhabited α] {k i : Nat} {x : α} (h : i < k) : nth (List.replicate k x) i = x := by simp [nth, h]
theorem nth_set {α : Type} [Inhabited α] {xs : List α} {i j : Nat} {y : α} (hi : i < xs.length) : nth (xs.set i y) j = if i = j then y else nth xs j := by
  simp only [nth, List.getD, List.getElem?_set]
  by_cases h : i = j
  · subst h; simp [hi]
  · simp [h]
theorem CF_symm {l : Lo} {r s : Nat} (h : CF l r s) : CF l s r := by
  rcases h with h | h | ⟨z, h1, h2⟩ | ⟨x, h1, h2⟩
  · exact .inl h.symm
  · exact .inr (.inl h.symm)
  · exact .inr (.inr (.inl ⟨z, h2, h1⟩))
  · exact .inr (.inr (.inr ⟨_, h2, by simpa using h1⟩))
def Idle (l : Lo) (rs : List Rst) : Prop := ∀ s, s < l.rts.length → (nth rs s).mode = 0
theorem idle_free {l : Lo} {rs : List Rst} (h : Idle l rs) {k : Nat} {ls : List Int} {r : Nat} : FRE l rs (List.replicate k false) ls r := by
  refine ⟨fun s hs hm => absurd (h s hs) hm, fun i hi => .inr ⟨nth_repF, hol_neg.2 fun j hj => ?_⟩, fun ⟨z, _, hz⟩ => by rw [nth_repF] at hz; cases hz⟩
  simp [hld, h j hj]
theorem mi0 {l : Lo} : MI l (List.replicate l.secs.length false) (List.replicate l.pts.length 0) :=
  ⟨by simp, by simp, fun ⟨z, hz, h⟩ => by rw [(List.mem_replicate.1 hz).2] at h; omega⟩
theorem cmd_call {l : Lo} {rs : List Rst} {os : List Bool} {ls : List Int} (mi : MI l os ls) {r : Nat} (hr : r < l.rts.length) : cmdF l rs os ls 1 r = callF l rs os ls r := by
  have n1 : ¬ (¬ MI l os ls ∨ ((1 : Int) ≠ 1 ∧ (1 : Int) ≠ 2)) := by
    rintro (h | h)
    · exact h mi
    · exact h.1 rfl
  have hi : InR (r : Int) l.rts.length := ⟨by omega, by omega⟩
  simp only [cmdF, dec_f n1, dec_t hi, dec_true, cond_true, cond_false, Int.toNat_natCast]
theorem cmd_cancel {l : Lo} {rs : List Rst} {os : List Bool} {ls : List Int} (mi : MI l os ls) {r : Nat} (hr : r < l.rts.length) : cmdF l rs os ls 2 r = cancelF rs r := by
  have n1 : ¬ (¬ MI l os ls ∨ ((2 : Int) ≠ 1 ∧ (2 : Int) ≠ 2)) := by
    rintro (h | h)
    · exact h mi
    · exact h.2 rfl
  have hi : InR (r : Int) l.rts.length := ⟨by omega, by omega⟩
  simp only [cmdF, dec_f n1, dec_t hi, dec_f (show ¬ (2 : Int) = 1 by decide), cond_true, cond_false, Int.toNat_natCast]
theorem run_LockBusy {l : Lo} (ok : LoOk l) (r s : Int) : Fe (K DG 30 9 [l.dv, .imm (.int .i64 r), .imm (.int .i64 s)] .lf 0 0) (fun v _ _ => v = .imm (.bool true)) := by
  have hrb := rb3
  obtain ⟨m, hm, hs⟩ := size_bl (D := 29) (by omega) ok
  have hkn := known_bl
  have sl := ok.s.len
  have pl := ok.p.len
  have rl := ok.r.len
  simp only [List.length_map] at sl pl rl
  rw [D.k9]
  refine fn_dw rfl ?_
  by_cases hm3 : m < 3000
  · have hj3 : ILt (m : Int) 3000 = True := ilt_t (by omega)
    have e2 := Is4_bl (D := 29) (by omega) ok (hs hm3).sm
    by_cases is : ISL l
    · rw [dec_t is] at e2
      by_cases r0 : r < 0
      · simp [ok.s.scal, ok.p.scal, ok.g.scal, ok.r.scal, hm, hj3, e2, ilt_t r0, B6, undT, fnEnd, argsT, PT.get_put, keep, opRun, ev, evs, evO, give, giveI, binOf, isNilK, PM.flip, putT, putL, putH, loadOf, storeOf, cut, over, ofCells, asNat, natOr, calm, clashes, Acc.clash, ressOf, resOf, frz, frz.frzs, DV.flat, DV.flat.flats, imms]
      by_cases r1 : ¬ r < l.rts.length
      · simp [ok.s.scal, ok.p.scal, ok.g.scal, ok.r.scal, hm, hj3, e2, ilt_f (show 0 ≤ r by omega), ilt_f (show (l.rts.length : Int) ≤ r by omega), rl, B6, undT, fnEnd, argsT, PT.get_put, keep, opRun, ev, evs, evO, give, giveI, binOf, isNilK, PM.flip, putT, putL, putH, loadOf, storeOf, cut, over, ofCells, asNat, natOr, calm, clashes, Acc.clash, ressOf, resOf, frz, frz.frzs, DV.flat, DV.flat.flats, imms]
      by_cases s0 : s < 0
      · simp [ok.s.scal, ok.p.scal, ok.g.scal, ok.r.scal, hm, hj3, e2, ilt_f (show 0 ≤ r by omega), ilt_t (show r < l.rts.length by omega), ilt_t s0, rl, B6, undT, fnEnd, argsT, PT.get_put, keep, opRun, ev, evs, evO, give, giveI, binOf, isNilK, PM.flip, putT, putL, putH, loadOf, storeOf, cut, over, ofCells, asNat, natOr, calm, clashes, Acc.clash, ressOf, resOf, frz, frz.frzs, DV.flat, DV.flat.flats, imms]
      by_cases s1 : ¬ s < l.rts.length
      · simp [ok.s.scal, ok.p.scal, ok.g.scal, ok.r.scal, hm, hj3, e2, ilt_f (show 0 ≤ r by omega), ilt_t (show r < l.rts.length by omega), ilt_f (show 0 ≤ s by omega), ilt_f (show (l.rts.length : Int) ≤ s by omega), rl, B6, undT, fnEnd, argsT, PT.get_put, keep, opRun, ev, evs, evO, give, giveI, binOf, isNilK, PM.flip, putT, putL, putH, loadOf, storeOf, cut, over, ofCells, asNat, natOr, calm, clashes, Acc.clash, ressOf, resOf, frz, frz.frzs, DV.flat, DV.flat.flats, imms]
      by_cases rs : r = s
      · subst rs
        simp [ok.s.scal, ok.p.scal, ok.g.scal, ok.r.scal, hm, hj3, e2, ilt_f (show 0 ≤ r by omega), ilt_t (show r < l.rts.length by omega), rl, B6, undT, fnEnd, argsT, PT.get_put, keep, opRun, ev, evs, evO, give, giveI, binOf, isNilK, PM.flip, putT, putL, putH, loadOf, storeOf, cut, over, ofCells, asNat, natOr, calm, clashes, Acc.clash, ressOf, resOf, frz, frz.frzs, DV.flat, DV.flat.flats, imms]
      obtain ⟨a, rfl⟩ : ∃ a : Nat, r = a := ⟨r.toNat, by omega⟩
      obtain ⟨b, rfl⟩ : ∃ b : Nat, s = b := ⟨s.toNat, by omega⟩
      have ha : a < l.rts.length := by omega
      have hb : b < l.rts.length := by omega
      have hab : ¬ a = b := by omega
      have ja0 : ILt (a : Int) 0 = False := ilt_f (by omega)
      have jb0 : ILt (b : Int) 0 = False := ilt_f (by omega)
      have ja1 := ilt_t (show (a : Int) < l.rts.length by omega)
      have jb1 := ilt_t (show (b : Int) < l.rts.length by omega)
      have r6 := is.r2
      have s2 := is.s2
      have p2 := is.p2
      have a1 : l.secs.length ≤ appMax := by unfold appMax; omega
      have a2 : l.pts.length ≤ appMax := by unfold appMax; omega
      have a3 : l.pts.length * 8 ≤ appMax := by unfold appMax; omega
      obtain ⟨v0, H0, n0, e0, p, own, l', rfl, ok', eq, lk, hown, _⟩ := LockNew_run (d := 28) (by omega) ok is .lf 1
      have is' := eq.is is
      have mi : MI l' (List.replicate l.secs.length false) (List.replicate l.pts.length 0) := by rw [← eq.secs, ← eq.pts]; exact mi0
      have ha' : a < l'.rts.length := by rw [eq.len]; exact ha
      have hb' : b < l'.rts.length := by rw [eq.len]; exact hb
      have io : InOk (.lst true 1 (List.replicate l.secs.length [.bool false])) (.lst true 1 (List.replicate l.pts.length [.int .i64 0])) (List.replicate l.secs.length false) (List.replicate l.pts.length 0) :=
        ⟨.inr ⟨true, by simp [ivB1]⟩, .inr ⟨true, by simp [ivI]⟩, by simp; omega, by simp; omega⟩
      generalize hrs0 : List.replicate l.rts.length rs0 = q0 at lk
      have l0 : q0.length = l.rts.length := by rw [← hrs0]; simp
      have i0 : Idle l' q0 := fun s hs => by rw [← hrs0, nth_rep (by rw [← eq.len]; exact hs)]
      have go0 : GoneOk l' q0 := fun s hs h => by rw [i0 s hs] at h; cases h
      obtain ⟨H1, n1, e1, lk1, hn1, _⟩ := Command_run (d := 28) (by omega) ok' is' lk go0 io 1 (a : Int) (n := n0 + 1)
      have c1 : cmdF l' q0 (List.replicate l.secs.length false) (List.replicate l.pts.length 0) 1 a = (0, q0.set a ⟨1, 0, 0, false⟩) := by
        rw [cmd_call mi ha']
        simp [callF, dec_t (i0 a ha'), dec_t (idle_free i0)]
      rw [c1] at e1 lk1
      simp only at e1 lk1
      generalize hq1 : q0.set a ⟨1, 0, 0, false⟩ = q1 at lk1
      have m1 : ∀ j, nth q1 j = if a = j then ⟨1, 0, 0, false⟩ else nth q0 j := fun j => by rw [← hq1, nth_set (by omega)]
      have go1 : GoneOk l' q1 := fun s hs h => by
        rw [m1] at h
        split at h
        · cases h
        · rw [i0 s hs] at h; cases h
      obtain ⟨H2, n2, e2', lk2, hn2, _⟩ := Command_run (d := 28) (by omega) ok' is' lk1 go1 io 1 (b : Int) (n := n1)
      have hmb : (nth q1 b).mode = 0 := by rw [m1, if_neg hab]; exact i0 b hb'
      have hc := Conflict4_bl (D := 29) (by omega) ok is.few ha hb
      by_cases cf : CF l a b
      · rw [dec_t cf] at hc
        have cf' : CF l' b a := by rw [eq.cf hb ha]; exact CF_symm cf
        have nf : ¬ FRE l' q1 (List.replicate l.secs.length false) (List.replicate l.pts.length 0) b := fun h => h.cf a ha' (by rw [m1, if_pos rfl]; decide) cf'
        have c2 : cmdF l' q1 (List.replicate l.secs.length false) (List.replicate l.pts.length 0) 1 b = (8, q1) := by
          rw [cmd_call mi hb']
          simp [callF, dec_t hmb, dec_f nf]
        rw [c2] at e2' lk2
        simp only at e2' lk2
        obtain ⟨H3, n3, e3, lk3, hn3, _⟩ := Command_run (d := 28) (by omega) ok' is' lk2 go1 io 2 (a : Int) (n := n2)
        have hma : (nth q1 a).mode = 1 := by rw [m1, if_pos rfl]
        have c3 : cmdF l' q1 (List.replicate l.secs.length false) (List.replicate l.pts.length 0) 2 a = (0, q1.set a rs0) := by
          rw [cmd_cancel mi ha']
          simp [cancelF, dec_t hma]
        rw [c3] at e3 lk3
        simp only at e3 lk3
        have i3 : Idle l' (q1.set a rs0) := fun s hs => by
          rw [nth_set (by rw [← hq1]; simp; omega)]
          split
          · rfl
          · rename_i h
            rw [m1, if_neg h]
            exact i0 s hs
        have go3 : GoneOk l' (q1.set a rs0) := fun s hs h => by rw [i3 s hs] at h; cases h
        obtain ⟨H4, n4, e4, lk4, hn4, _⟩ := Command_run (d := 28) (by omega) ok' is' lk3 go3 io 1 (b : Int) (n := n3)
        have c4 : (cmdF l' (q1.set a rs0) (List.replicate l.secs.length false) (List.replicate l.pts.length 0) 1 b).1 = 0 := by
          rw [cmd_call mi hb']
          simp [callF, dec_t (i3 b hb'), dec_t (idle_free i3)]
        rw [c4] at e4
        simp [ok.s.scal, ok.p.scal, ok.g.scal, ok.r.scal, hm, hj3, e2, ja0, ja1, jb0, jb1, rs, hab, sl, pl, rl, a1, a2, a3, e0, e1, e2', e3, e4, hc, hkn, evParts, lay, B6, undT, fnEnd, argsT, PT.get_put, keep, opRun, ev, evs, evO, give, giveI, binOf, isNilK, PM.flip, putT, putL, putH, loadOf, storeOf, cut, over, ofCells, asNat, natOr, calm, clashes, Acc.clash, ressOf, resOf, frz, frz.frzs, DV.flat, DV.flat.flats, imms]
      · rw [dec_f cf] at hc
        have c2 : (cmdF l' q1 (List.replicate l.secs.length false) (List.replicate l.pts.length 0) 1 b).1 = 0 ∨ (cmdF l' q1 (List.replicate l.secs.length false) (List.replicate l.pts.length 0) 1 b).1 = 8 := by
          rw [cmd_call mi hb']
          by_cases hf : FRE l' q1 (List.replicate l.secs.length false) (List.replicate l.pts.length 0) b
          · left; simp [callF, dec_t hmb, dec_t hf]
          · right; simp [callF, dec_t hmb, dec_f hf]
        rcases c2 with c2 | c2
        · rw [c2] at e2'
          simp [ok.s.scal, ok.p.scal, ok.g.scal, ok.r.scal, hm, hj3, e2, ja0, ja1, jb0, jb1, rs, hab, sl, pl, rl, a1, a2, a3, e0, e1, e2', hc, hkn, evParts, lay, B6, undT, fnEnd, argsT, PT.get_put, keep, opRun, ev, evs, evO, give, giveI, binOf, isNilK, PM.flip, putT, putL, putH, loadOf, storeOf, cut, over, ofCells, asNat, natOr, calm, clashes, Acc.clash, ressOf, resOf, frz, frz.frzs, DV.flat, DV.flat.flats, imms]
        · rw [c2] at e2'
          simp [ok.s.scal, ok.p.scal, ok.g.scal, ok.r.scal, hm, hj3, e2, ja0, ja1, jb0, jb1, rs, hab, sl, pl, rl, a1, a2, a3, e0, e1, e2', hc, hkn, evParts, lay, B6, undT, fnEnd, argsT, PT.get_put, keep, opRun, ev, evs, evO, give, giveI, binOf, isNilK, PM.flip, putT, putL, putH, loadOf, storeOf, cut, over, ofCells, asNat, natOr, calm, clashes, Acc.clash, ressOf, resOf, frz, frz.frzs, DV.flat, DV.flat.flats, imms]
    · rw [dec_f is] at e2
      simp [ok.s.scal, ok.p.scal, ok.g.scal, ok.r.scal, hm, hj3, e2, B6, undT, fnEnd, argsT, PT.get_put, keep, opRun, ev, evs, evO, give, giveI, binOf, isNilK, PM.flip, putT, putL, putH, loadOf, storeOf, cut, over, ofCells, asNat, natOr, calm, clashes, Acc.clash, ressOf, resOf, frz, frz.frzs, DV.flat, DV.flat.flats, imms]
  · have hj3 : ILt (m : Int) 3000 = False := ilt_f (by omega)
    simp [ok.s.scal, ok.p.scal, ok.g.scal, ok.r.scal, hm, hj3, B6, undT, fnEnd, argsT, PT.get_put, keep, opRun, ev, evs, evO, give, giveI, binOf, isNilK, PM.flip, putT, putL, putH, loadOf, storeOf, cut, over, ofCells, asNat, natOr, calm, clashes, Acc.clash, ressOf, resOf, frz, frz.frzs, DV.flat, DV.flat.flats, imms]
theorem pure_LockBusy : ∀ cs, ArgsFit ss_LockBusy cs → ∃ H' n', K (doorG 0 1) 30 9 cs .lf 0 0 = some (.imm (.bool true), H', n') := fun cs h => by
  obtain ⟨d, ds, rfl, h1, h2⟩ := fit_cons h
  obtain ⟨l, rfl, ok⟩ := lay_of h1
  obtain ⟨d1, r1, rfl, g1, h3⟩ := fit_cons h2
  obtain ⟨r, rfl, _⟩ := fit_i g1
  obtain ⟨d2, r2, rfl, g2, h4⟩ := fit_cons h3
  obtain ⟨s, rfl, _⟩ := fit_i g2
  cases fit0 (r := []) h4
  obtain ⟨v, H, n, e, rfl⟩ := run_LockBusy ok r s
  exact ⟨H, n, e⟩
end Go.Proofs.YtkgjgehffijepaaDoor.D
