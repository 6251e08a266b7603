/-
  UnitOther: what its functions compute, and the law (part 2).
-/
import Derived.Test.YtnpcgejfkonfdabGreatDoorX1
import Derived.Test.YtnpcgejfkonfdabGreatDoorFast
-- UH
set_option linter.unusedVariables false
set_option linter.unusedSimpArgs false
set_option maxHeartbeats 16000000
namespace Go.Proofs.YtnpcgejfkonfdabGreatDoor.D
open Go Go.PM Go.Lib

def newU (l : Lo) : US := ⟨rep0 l, 0, 0, false, none, 2, 0, 0, 0⟩
theorem New_of {d : Nat} (hd : 2 ≤ d) {Z : Nat → Prop} {l : Lo} (ok : LoOk l) (is : ISL l) (e0 : bl (K DG d) 77 [l.dv] = some (.imm (.bool true))) (H : PT HB) (n : Nat) (hz : ∀ j, n ≤ j → Z j) :
    ∃ a l' H' n', K DG (d + 2) 10 [l.dv] H n 0 = some (.tup [.ptr a 0 0, .imm (.int .i64 0)], H', n') ∧ n ≤ n' ∧ LoOk l' ∧ LoEq l l' ∧ UI Z l' H' n' a (newU l') ∧ (n ≤ a ∧ a < n') ∧ ∀ j, j < n → H'.get j = H.get j := by
  obtain ⟨v1, H1, n1, e1, p, own, l', rfl, ok', eq, lk, ho, f1⟩ := LockNew_of (d := d) hd ok is e0 H (n + 1)
  obtain ⟨n2, H2, e2, rfl, f2⟩ := lease_new (d := d) (H := H1) (n := n1) (lo := 0) (by omega)
  have hp := ho p (by simp)
  have hn1 : n + 1 ≤ n1 := by omega
  have key : Fe (K DG (d + 1 + 1) 10 [l.dv] H n 0) (fun v H' n' => v = .tup [.ptr (n1 + 1) 0 0, .imm (.int .i64 0)] ∧ n' = n1 + 2 ∧ H' = H2.put (n1 + 1) (some (rowU p n1 (.imm .nilp) 2 0 0 0))) := by
    rw [D.k10]
    refine fn_dw rfl ?_
    simp [ok.s.scal, ok.p.scal, ok.g.scal, ok.r.scal, e1, e2, rowU, evParts, lay, unImms, unImm, mapO, B6, undT, fnEnd, argsT, PT.get_put, keep, opRun, ev, evs, evO, give, giveI, binOf, isNilK, PM.flip, putT, putL, putH, loadOf, storeOf, cut, over, ofCells, asNat, natOr, calm, clashes, Acc.clash, ressOf, resOf, frz, frz.frzs, DV.flat, DV.flat.flats, imms]
  obtain ⟨v, H', n', e, rfl, rfl, rfl⟩ := key
  refine ⟨n1 + 1, l', _, _, e, by omega, ok', eq, ⟨p, n1, own, .imm .nilp, ?_⟩, by omega, fun j hj => ?_⟩
  · have hl : rep0 l' = List.replicate l.rts.length rs0 := by unfold rep0; rw [eq.len]
    have hg : ∀ j, j < n1 → (H2.put (n1 + 1) (some (rowU p n1 (.imm .nilp) 2 0 0 0))).get j = H1.get j := fun j hj => by
      have b1 : ¬ j = n1 := by omega
      have b2 : ¬ j = n1 + 1 := by omega
      rw [f2]
      simp [PT.get_put, b1, b2]
    refine ⟨by simp [PT.get_put, newU], ?_, by rw [f2]; simp [PT.get_put, newU], rfl, by omega, by omega, by omega, fun h => by have := ho (n1 + 1) (by simp [h]); omega, fun h => by have := ho n1 (by simp [h]); omega, fun j hj => ?_⟩
    · show LkAt _ p own l' (rep0 l')
      rw [hl]
      exact lk.mono fun i hi => hg i (ho i hi).2
    · simp at hj
      rcases hj with rfl | rfl | rfl | hj
      · exact ⟨by omega, hz _ (by omega)⟩
      · exact ⟨by omega, hz _ (by omega)⟩
      · exact ⟨by omega, hz _ (by omega)⟩
      · have := ho j (by simp [hj])
        exact ⟨by omega, hz _ (by omega)⟩
  · have b1 : ¬ j = n1 := by omega
    have b2 : ¬ j = n1 + 1 := by omega
    rw [f2]
    simp [PT.get_put, b1, b2]
    exact f1 j (by omega)
theorem layT_ok (e c : Int) {rs : List Rst} (hl : rs.length ≤ 20) : (layT e c rs).length ≤ 100 ∧ (∀ t ∈ layT e c rs, (thB t).length ≤ 300) ∧ (∀ t ∈ layT e c rs, thOk t = true) ∧ (bodyT (layT e c rs)).length ≤ 4000 := by
  have h1 : (layT e c rs).length ≤ 100 := by simp [layT, ofF_len]; omega
  have h2 : ∀ t ∈ layT e c rs, (thB t).length ≤ 9 := fun t ht => by
    simp only [layT, List.mem_cons, List.mem_map] at ht
    rcases ht with rfl | ⟨z, _, rfl⟩
    · decide
    · simp [thB, numY_len]
  refine ⟨h1, fun t ht => by have := h2 t ht; omega, fun t ht => ?_, ?_⟩
  · simp only [layT, List.mem_cons, List.mem_map] at ht
    rcases ht with rfl | ⟨z, _, rfl⟩ <;> rfl
  · have : (thsB (layT e c rs)).length ≤ 9 * (layT e c rs).length := by
      generalize layT e c rs = ts at h2
      clear h1
      induction ts with
      | nil => simp [thsB]
      | cons t ts ih =>
        have q1 := h2 t (by simp)
        have q2 := ih fun u hu => h2 u (by simp [hu])
        simp only [thsB, List.flatMap_cons, List.length_append, List.length_cons] at *
        omega
    simp only [bodyT, List.length_cons]
    omega
/-- what a unit tells the other one -/
noncomputable def sendF (u : US) : List UInt8 := if u.mode = 3 then teleg (bodyT (layT u.ep u.count u.rs)) else []
theorem Send_ro {Z : Nat → Prop} {l : Lo} {H : PT HB} {n a p q : Nat} {own : List Nat} {x : DV} {u : US} (h : UAt Z l H n a p q own x u) (hl : u.rs.length ≤ 20) {d m lo : Nat} (hm : n ≤ m) :
    ∃ w k, callM (K DG (d + 6)) .ro 19 [.ptr a 0 0] H m lo = some ⟨.imm w, H, k, [.rA]⟩ ∧ m ≤ k ∧ Sl 1 w ((sendF u).map ivY) := by
  have hb := h.blk
  simp only [rowU] at hb
  have xs := h.xs.1
  unfold sendF
  by_cases h3 : u.mode = 3
  · rw [if_pos h3]
    obtain ⟨k1, e1, hk1⟩ := lease_epoch h.le (d := d + 4) (n := m) (lo := m)
    obtain ⟨w2, k2, e2, hk2, hw2⟩ := Routes_ro (d := d + 4) (by omega) (show u.rs.length ≤ 1000 by omega) h.lk (n := k1) (lo := m)
    obtain ⟨H3, n3, e3, hn3, hc3, f3⟩ := Lay_fn (d := d + 2) (H := H) (n := k2) (lo := m) (by omega) hw2 hl u.ep u.count
    obtain ⟨l1, l2, l3, l4⟩ := layT_ok u.ep u.count hl
    have hc3' : CrAt H3 0 n3 k2 (layT u.ep u.count u.rs) := by
      obtain ⟨⟨q1, q2⟩, q3⟩ := hc3
      refine ⟨⟨Nat.zero_le _, q2⟩, ?_⟩
      rcases q3 with q3 | ⟨b, ⟨p1, p2⟩, p3⟩
      · exact .inl q3
      · exact .inr ⟨b, ⟨Nat.zero_le _, p2⟩, p3⟩
    obtain ⟨v4, H4, n4, e4, hn4, f4, hv4⟩ := Pack_fn (d := d) (lo := n3) (Nat.le_refl _) hc3' l1 l2
    rcases hv4 with ⟨no, _⟩ | ⟨_, y, rfl, hy⟩
    · exact absurd ⟨l3, l4⟩ no
    obtain ⟨g, hg⟩ := frz_y hy (teleg_ne _)
    have ec : callM (K DG (d + 5)) .ro 51 [.ptr k2 0 0] H3 n3 m = some ⟨.tup [.imm (.lst g 1 ((teleg (bodyT (layT u.ep u.count u.rs))).map ivY)), .imm (.int .i64 0)], H3, n4, [.rA]⟩ := by
      have e9 : frz H4.get n3 (.tup [y, .imm (.int .i64 0)]) = some (.tup [.imm (.lst g 1 ((teleg (bodyT (layT u.ep u.count u.rs))).map ivY)), .imm (.int .i64 0)]) := by
        simp [frz, frz.frzs, hg]
      rw [callM_ro, if_pos (by rfl), e4]
      simp only [e9]
      rfl
    have w2s := hw2.scal
    have key : Fe (K DG (d + 5 + 1) 19 [.ptr a 0 0] H m m) (fun v' H' n' => m ≤ n' ∧ v' = .imm (.lst g 1 ((teleg (bodyT (layT u.ep u.count u.rs))).map ivY))) := by
      generalize (teleg (bodyT (layT u.ep u.count u.rs))).map ivY = es at *
      rw [D.k19]
      refine fn_dw rfl ?_
      rw [h3] at hb
      simp [hb, xs, e1, e2, w2s, e3, ec, B6, undT, fnEnd, argsT, PT.get_put, keep, opRun, ev, evs, evO, give, giveI, binOf, isNilK, PM.flip, putT, putL, putH, loadOf, storeOf, cut, over, ofCells, asNat, natOr, calm, clashes, Acc.clash, ressOf, resOf, frz, frz.frzs, DV.flat, DV.flat.flats, imms]
      omega
    obtain ⟨k, e, hk⟩ := ro_of (lo := lo) (by rfl) key
    exact ⟨_, k, e, hk, .inr ⟨g, rfl⟩⟩
  · rw [if_neg h3]
    have key : Fe (K DG (d + 5 + 1) 19 [.ptr a 0 0] H m m) (fun v' H' n' => m ≤ n' ∧ v' = .imm .nils) := by
      rw [D.k19]
      refine fn_dw rfl ?_
      simp [hb, xs, h3, B6, undT, fnEnd, argsT, PT.get_put, keep, opRun, ev, evs, evO, give, giveI, binOf, isNilK, PM.flip, putT, putL, putH, loadOf, storeOf, cut, over, ofCells, asNat, natOr, calm, clashes, Acc.clash, ressOf, resOf, frz, frz.frzs, DV.flat, DV.flat.flats, imms]
    obtain ⟨k, e, hk⟩ := ro_of (lo := lo) (by rfl) key
    exact ⟨_, k, e, hk, .inl ⟨rfl, rfl⟩⟩
open Classical in
/-- a telegram that was heard -/
noncomputable def hearF (l : Lo) (u : US) (bs : List UInt8) : US := if u.mode ≠ 2 then u else match unF bs with
  | none => u
  | some ts => match readF ts with
    | none => u
    | some (e, c, qs) => if OldP u e c then u else if INV l qs then ⟨u.rs, u.ep, u.en, u.gr, some (e, c, qs), u.mode, u.tick, u.count, u.left⟩ else u
theorem Unpack_any {d : Nat} {H : PT HB} {n lo : Nat} {w : IV} {bs : List UInt8} (hlo : lo ≤ n) (hw : Sl 1 w (bs.map ivY)) (hb : bs.length ≤ 100000) :
    Fe (K DG (d + 6) 55 [.imm w] H n lo) (UnP H n bs) := by
  rcases hw with ⟨rfl, h⟩ | ⟨f, rfl⟩
  · obtain rfl : bs = [] := by simpa using h
    exact Unpack_nil
  · exact Unpack_fn hlo hb
theorem Hear_fn {d : Nat} {Z : Nat → Prop} {l : Lo} {H : PT HB} {n a : Nat} {u : US} (ok : LoOk l) (is : ISL l) (h : UI Z l H n a u) (hz : ∀ j, n ≤ j → Z j) (inv : INV l u.rs) {w : IV} {bs : List UInt8} (hw : Sl 1 w (bs.map ivY)) (hbl : bs.length ≤ 100000) :
    ∃ v H' n', K DG (d + 12) 22 [.ptr a 0 0, .imm w] H n 0 = some (v, H', n') ∧ UR Z l H n a (hearF l u bs) H' n' := by
  obtain ⟨p, q, own, x, h⟩ := h
  have hb := h.blk
  have xs := h.xs.1
  have ws := hw.scal
  have la := h.lt a (by simp)
  have lp := h.lt p (by simp)
  have r6 := is.r2
  have hrl := inv.ln
  simp only [rowU] at hb
  refine (fun (hq : Fe (K DG (d + 11 + 1) 22 [.ptr a 0 0, .imm w] H n 0) fun _ H' n' => UR Z l H n a (hearF l u bs) H' n') => by
    obtain ⟨v', H', n', e, r⟩ := hq
    exact ⟨v', H', n', e, r⟩) ?_
  rw [D.k22]
  refine fn_dw rfl ?_
  unfold hearF
  by_cases h2 : u.mode = 2
  · rw [if_neg (by simp [h2])]
    obtain ⟨v1, H1, n1, e1, hn1, f1, hv1⟩ := Unpack_any (d := d + 5) (H := H) (n := n) (lo := 0) (by omega) hw hbl
    have keep : ∀ H' n', n ≤ n' → (∀ j, j < n → H'.get j = H.get j) → UR Z l H n a u H' n' := fun H' n' hn hf => ⟨hn, ⟨p, q, own, x, h.mono hn (fun _ _ h => h) fun j hj _ => hf j hj⟩, fun j hj _ => hf j hj⟩
    have hb' := hb
    rw [h2] at hb
    rcases hv1 with ⟨hu, er, her, rfl⟩ | ⟨ts, c1, hu, rfl, hcr⟩
    · rw [hu]
      simp [hb, xs, ws, e1, her, B6, undT, fnEnd, argsT, PT.get_put, keep, opRun, ev, evs, evO, give, giveI, binOf, isNilK, PM.flip, putT, putL, putH, loadOf, storeOf, cut, over, ofCells, asNat, natOr, calm, clashes, Acc.clash, ressOf, resOf, frz, frz.frzs, DV.flat, DV.flat.flats, imms]
      exact keep _ _ (by omega) f1
    · rw [hu]
      simp only
      obtain ⟨tl, _⟩ := unF_can hu
      have hcr0 : CrAt H1 0 n1 c1 ts := by
        obtain ⟨⟨q1, q2⟩, q3⟩ := hcr
        refine ⟨⟨Nat.zero_le _, q2⟩, ?_⟩
        rcases q3 with q3 | ⟨b, ⟨p1, p2⟩, p3⟩
        · exact .inl q3
        · exact .inr ⟨b, ⟨Nat.zero_le _, p2⟩, p3⟩
      obtain ⟨v2, m, e2, hm, hv2⟩ := Read_ro (d := d + 7) (lo := 0) hcr0 tl
      rcases hv2 with ⟨hr, rfl⟩ | ⟨ep, ct, qs, lw, hr, rfl, hlw⟩
      · rw [hr]
        simp [hb, xs, ws, e1, e2, evParts, lay, unImms, unImm, mapO, B6, undT, fnEnd, argsT, PT.get_put, keep, opRun, ev, evs, evO, give, giveI, binOf, isNilK, PM.flip, putT, putL, putH, loadOf, storeOf, cut, over, ofCells, asNat, natOr, calm, clashes, Acc.clash, ressOf, resOf, frz, frz.frzs, DV.flat, DV.flat.flats, imms]
        exact keep _ _ (by omega) fun j hj => by
          have : ¬ j = m := by omega
          simp [PT.get_put, this]
          exact f1 j hj
      · rw [hr]
        simp only
        have lws := hlw.scal
        obtain ⟨HB, hHB⟩ : ∃ HB, HB = (H1.put m (some ⟨3, [[.imm (.int .i64 0), .imm (.int .i64 0), .imm .nils]]⟩)).put m (some ⟨3, [[.imm (.int .i64 ep), .imm (.int .i64 ct), .imm lw]]⟩) := ⟨_, rfl⟩
        have gm : HB.get m = some ⟨3, [[.imm (.int .i64 ep), .imm (.int .i64 ct), .imm lw]]⟩ := by rw [hHB]; simp [PT.get_put]
        have gB : ∀ j, j < n → HB.get j = H.get j := fun j hj => by
          have : ¬ j = m := by omega
          rw [hHB]
          simp [PT.get_put, this]
          exact f1 j hj
        have hB : UAt Z l HB (m + 1) a p q own x u := h.mono (by omega) (fun _ _ h => h) fun j hj _ => gB j hj
        have hbB := hB.blk
        simp only [rowU] at hbB
        rw [h2] at hbB
        obtain ⟨k3, e3, hk3⟩ := isOld_ro hB ep ct lws (d := d + 10) (m := m + 1) (lo := 0) (Nat.le_refl _)
        by_cases ho : OldP u ep ct
        · rw [if_pos ho]
          rw [dec_t ho] at e3
          simp [hb, xs, ws, lws, e1, e2, ← hHB, gm, hbB, e3, evParts, lay, unImms, unImm, mapO, B6, undT, fnEnd, argsT, PT.get_put, keep, opRun, ev, evs, evO, give, giveI, binOf, isNilK, PM.flip, putT, putL, putH, loadOf, storeOf, cut, over, ofCells, asNat, natOr, calm, clashes, Acc.clash, ressOf, resOf, frz, frz.frzs, DV.flat, DV.flat.flats, imms]
          exact keep _ _ (by omega) gB
        · rw [if_neg ho]
          rw [dec_f ho] at e3
          obtain ⟨w4, k4, e4, hk4, hw4⟩ := Routes_ro (d := d + 10) (by omega) (show u.rs.length ≤ 1000 by omega) hB.lk (n := k3) (lo := 0)
          have w4s := hw4.scal
          by_cases iq : INV l qs
          · rw [if_pos iq]
            have hql := iq.ln
            obtain ⟨H5, n5, own5, e5, hn5, hu5, f5, ho5⟩ := UAt.set (d := d + 10) (by omega) ok is hB (fun j hj => hz j (by omega)) hlw (by have := rb3; omega) (m := k4) (by omega)
            rw [dec_t iq] at e5 hu5
            have hb5 := hu5.blk
            simp only [rowU, cond_true] at hb5
            rw [h2] at hb5
            obtain ⟨H6, hH6⟩ : ∃ H6, H6 = H5.put a (some ⟨7, [[.ptr p 0 0, .ptr q 0 0, .ptr m 0 0, .imm (.int .i64 2), .imm (.int .i64 u.tick), .imm (.int .i64 u.count), .imm (.int .i64 u.left)]]⟩) := ⟨_, rfl⟩
            have ma : ¬ m = a := by omega
            have mp : ¬ m = p := by omega
            have mq : ¬ m = q := by have := h.lt q (by simp); omega
            have mo : m ∉ own5 := fun e => by
              rcases ho5 m e with h' | h'
              · have := (h.lt m (by simp [h'])).1; omega
              · omega
            have g6 : ∀ j, j ≠ a → H6.get j = H5.get j := fun j hj => by rw [hH6]; simp [PT.get_put, hj]
            have hu6 : UAt Z l H6 n5 a p q own5 (.ptr m 0 0) ⟨qs, u.ep, u.en, u.gr, some (ep, ct, qs), u.mode, u.tick, u.count, u.left⟩ := by
              have := hu5.upd (Nat.le_refl _) (H' := H6) (c := some (ep, ct, qs)) (x' := .ptr m 0 0) (m := u.mode) (t := u.tick) (k := u.count) (z := u.left) (by rw [hH6]; simp [PT.get_put, rowU, h2]) ⟨m, lw, rfl, ⟨by simp [ma, mp, mq, mo], by omega, hz m (by omega)⟩, by rw [g6 m ma, f5 m mp (by omega)]; exact gm, hlw⟩ (fun j hj _ => g6 j hj)
              exact this
            have hb6 := hu6.blk
            simp only [rowU] at hb6
            rw [h2] at hb6
            obtain ⟨H7, n7, own7, e7, hn7, hu7, f7, ho7⟩ := UAt.set (d := d + 10) (by omega) ok is hu6 (fun j hj => hz j (by omega)) hw4 (by have := rb3; omega) (m := n5) (Nat.le_refl _)
            rw [dec_t inv] at e7 hu7
            simp [hb, xs, ws, lws, w4s, e1, e2, ← hHB, gm, hbB, e3, e4, e5, hb5, ← hH6, hb6, e7, evParts, lay, unImms, unImm, mapO, B6, undT, fnEnd, argsT, PT.get_put, keep, opRun, ev, evs, evO, give, giveI, binOf, isNilK, PM.flip, putT, putL, putH, loadOf, storeOf, cut, over, ofCells, asNat, natOr, calm, clashes, Acc.clash, ressOf, resOf, frz, frz.frzs, DV.flat, DV.flat.flats, imms]
            exact ⟨by omega, ⟨p, q, own7, _, hu7⟩, fun j hj hzj => by
              have jp : j ≠ p := fun e => hzj (e ▸ lp.2)
              have ja : j ≠ a := fun e => hzj (e ▸ la.2)
              rw [f7 j jp (by omega), g6 j ja, f5 j jp (by omega), gB j hj]⟩
          · rw [if_neg iq]
            have hql : qs.length ≤ reachBytes := by
              have h9 : readF ts = some (ep, ct, qs) := hr
              unfold readF at h9
              split at h9
              · cases h9
              · rename_i zs hzs
                have z1 := intsF_len hzs
                split at h9
                · split at h9
                  · split at h9
                    · rename_i qs' hqs
                      split at h9
                      · cases h9
                        have z2 := tkF_len hqs
                        rw [List.length_drop] at z1 z2
                        have := rb3
                        omega
                      · cases h9
                    · cases h9
                  · cases h9
                · cases h9
            obtain ⟨H5, n5, own5, e5, hn5, hu5, f5, ho5⟩ := UAt.set (d := d + 10) (by omega) ok is hB (fun j hj => hz j (by omega)) hlw hql (m := k4) (by omega)
            rw [dec_f iq] at e5 hu5
            have hb5 := hu5.blk
            simp only [rowU, cond_false] at hb5
            rw [h2] at hb5
            obtain ⟨H7, n7, own7, e7, hn7, hu7, f7, ho7⟩ := UAt.set (d := d + 10) (by omega) ok is hu5 (fun j hj => hz j (by omega)) hw4 (by have := rb3; omega) (m := n5) (Nat.le_refl _)
            rw [dec_t inv] at e7 hu7
            simp [hb, xs, ws, lws, w4s, e1, e2, ← hHB, gm, hbB, e3, e4, e5, hb5, e7, evParts, lay, unImms, unImm, mapO, B6, undT, fnEnd, argsT, PT.get_put, keep, opRun, ev, evs, evO, give, giveI, binOf, isNilK, PM.flip, putT, putL, putH, loadOf, storeOf, cut, over, ofCells, asNat, natOr, calm, clashes, Acc.clash, ressOf, resOf, frz, frz.frzs, DV.flat, DV.flat.flats, imms]
            exact ⟨by omega, ⟨p, q, own7, _, hu7⟩, fun j hj hzj => by
              have jp : j ≠ p := fun e => hzj (e ▸ lp.2)
              rw [f7 j jp (by omega), f5 j jp (by omega), gB j hj]⟩
  · rw [if_pos h2]
    simp [hb, xs, ws, h2, B6, undT, fnEnd, argsT, PT.get_put, keep, opRun, ev, evs, evO, give, giveI, binOf, isNilK, PM.flip, putT, putL, putH, loadOf, storeOf, cut, over, ofCells, asNat, natOr, calm, clashes, Acc.clash, ressOf, resOf, frz, frz.frzs, DV.flat, DV.flat.flats, imms]
    exact ⟨Nat.le_refl _, ⟨p, q, own, x, h⟩, fun _ _ _ => rfl⟩
end Go.Proofs.YtnpcgejfkonfdabGreatDoor.D

-- RE
set_option linter.unusedVariables false
set_option linter.unusedSimpArgs false
set_option maxHeartbeats 16000000
namespace Go.Proofs.YtnpcgejfkonfdabGreatDoor.D
open Go Go.PM Go.Lib

theorem Pack8_ro {d : Nat} {H : PT HB} {n a lo : Nat} {ob : Option Nat} {ts : List Th} (hc : CrR H a ob ts) (ha : a < n) (hob : ∀ b, ob = some b → b < n) (hl : ts.length ≤ 100) (hts : ∀ t ∈ ts, (thB t).length ≤ 300) (hok : ∀ t ∈ ts, thOk t = true) (h4 : (bodyT ts).length ≤ 4000) :
    ∃ g m, callM (K DG (d + 3)) .ro 76 [.ptr a 0 0] H n lo = some ⟨.tup [.imm (.lst g 1 ((teleg (bodyT ts)).map ivY)), .imm (.int .i64 0)], H, m, [.rA]⟩ ∧ n ≤ m := by
  have key : Fe (K DG (d + 2 + 1) 76 [.ptr a 0 0] H n n) (fun v H' n' => n ≤ n' ∧ ∃ x, v = .tup [x, .imm (.int .i64 0)] ∧ Yw H' n n' x (teleg (bodyT ts))) := by
    obtain ⟨cx, hcx, hcl, hcs⟩ : ∃ cx, H.get a = some ⟨1, [[cx]]⟩ ∧ lenOf cx = some ts.length ∧ cx.scal = true := by
      rcases hc with ⟨h1, rfl, _⟩ | ⟨h1, _⟩ | ⟨b, hb, _, h1, h2⟩
      · exact ⟨_, h1, rfl, rfl⟩
      · exact ⟨_, h1, by simp [lenOf], rfl⟩
      · exact ⟨_, h1, by simp [lenOf], rfl⟩
    have w8 : IntKind.u8.wrap (ts.length : Int) = ((UInt8.ofNat ts.length).toNat : Int) := by
      rw [UInt8.toNat_ofNat']
      simp only [IntKind.wrap, IntKind.bits, IntKind.signed]
      simp
    rw [D.k76]
    refine fn_dw rfl ?_
    simp [hcx, hcl, hcs, w8, evParts2, lay, unImms, unImm, mapO, rowsN, B6, undT, fnEnd, argsT, PT.get_put, keep, opRun, ev, evs, evO, give, giveI, binOf, isNilK, PM.flip, putT, putL, putH, loadOf, storeOf, cut, over, ofCells, asNat, natOr, calm, clashes, Acc.clash, ressOf, resOf, frz, frz.frzs, DV.flat, DV.flat.flats, imms]
    refine loopPr (w := n) (H0 := H) (ts := ts) (Nat.le_refl _) hc ha hob hl hts hok ⟨by simp [PT.get_put], by simp [PT.get_put], ⟨.imm (.lst true 1 ((UInt8.ofNat ts.length :: thsB (ts.take 0)).map ivY)), by simp [PT.get_put]; exact ⟨rfl, rfl⟩, .inr (.inl rfl)⟩, fun _ _ => rfl, by simp⟩ (fun s' hI => ?_)
    obtain ⟨c0, c5, ⟨x, c4, hy⟩, fr, hn⟩ := hI
    rw [List.take_length] at hy
    have hbd : UInt8.ofNat ts.length :: thsB ts = bodyT ts := rfl
    rw [hbd] at hy
    have hbn : bodyT ts ≠ [] := by simp [bodyT]
    generalize bodyT ts = b at *
    have xs := hy.sc
    have xl := hy.len
    have i0 : ILt 4000 (b.length : Int) = False := ilt_f (by omega)
    have wl := wu64' (x := b.length) (by omega)
    have hcr := crcF_lt b
    have wc := wu64' (x := crcF b) (by omega)
    obtain ⟨y1, H1, n1, e1, hn1, hy1, ⟨i1, hi1, rfl⟩, f1⟩ := big_fn (d := d + 1) (H := s'.H) (n := s'.n) (lo := n) (w := n) (m := crcF b) (k := 4) (Nat.le_refl _) hn (by omega) (by omega) (by omega)
    have hi1' : i1 < n1 := by
      rcases hy1 with ⟨h, _⟩ | h | ⟨id, ⟨_, h2⟩, h, _⟩
      · cases h
      · cases h
      · cases h; exact h2
    obtain ⟨y2, H2, n2, e2, hn2, hy2, ⟨i2, hi2, rfl⟩, f2⟩ := big_fn (d := d + 1) (H := H1) (n := n1) (lo := n) (w := n) (m := b.length) (k := 2) (Nat.le_refl _) (by omega) (by omega) (by omega) (by omega)
    have e1' : K DG (d + 2) 117 [.imm (.int .u64 (crcF b : Int)), .imm (.int .i64 4)] s'.H s'.n n = some (.sl i1 0 4 4, H1, n1) := e1
    have e2' : K DG (d + 2) 117 [.imm (.int .u64 (b.length : Int)), .imm (.int .i64 2)] H1 n1 n = some (.sl i2 0 2 2, H2, n2) := e2
    have r2 : H2.get i2 = some ⟨1, (numY b.length 2).map rowY⟩ := by
      rcases hy2 with ⟨h, _⟩ | h | ⟨id, _, h, h2⟩
      · cases h
      · cases h
      · rw [numY_len] at h; cases h; exact h2
    have src2 := rows_y (id := i2) r2
    rw [numY_len] at src2
    have hy1' : Yw H2 n n2 (.sl i1 0 4 4) (numY (crcF b) 4) := by
      rcases hy1 with ⟨h, _⟩ | h | ⟨id, ⟨q1, q2⟩, h, h2⟩
      · cases h
      · cases h
      · exact .inr (.inr ⟨id, ⟨q1, by omega⟩, h, by rw [f2 id (by omega)]; exact h2⟩)
    obtain ⟨x3, hw3, n3, acc3, p1, p2, p3, p4, p5, p6, p7⟩ := app_y (H := H2) (n := n2) (lo := n) (w := n) (y := .sl i2 0 2 2) (cs := numY b.length 2) (Nat.le_refl _) (by omega) hy1' src2 (fun _ _ _ e => by cases e; simp; omega) (by simp [numY_len])
    have x3s := p3.sc
    rcases hy with ⟨rfl, h0⟩ | rfl | ⟨id, ⟨g1, g2⟩, rfl, g3⟩
    · exact absurd h0 hbn
    · have es := ref_bl (d := d + 1) (f := true) (bs := b) (by omega)
      obtain ⟨x4, hw4, n4, acc4, q1, q2, q3, q4, q5, q6, q7⟩ := app_y (H := putH H2 hw3) (n := n3) (lo := n) (w := n) (y := .imm (.lst true 1 (b.map ivY))) (cs := b) (Nat.le_refl _) (by omega) p3 (src := none) (by simp [srcOf, rowsOf, Function.comp_def, imms_ivY]) (fun _ _ _ => by simp) (by simp [numY_len]; omega)
      have x4s := q3.sc
      have x4o := q3.out
      generalize hes : b.map ivY = bes at *
      simp [c0, c4, c5, xs, xl, i0, es, wc, wl, e1', e2', p1, x3s, q1, x4s, x4o, B6, undT, fnEnd, argsT, PT.get_put, keep, opRun, ev, evs, evO, give, giveI, binOf, isNilK, PM.flip, putT, putL, putH, loadOf, storeOf, cut, over, ofCells, asNat, natOr, calm, clashes, Acc.clash, ressOf, resOf, frz, frz.frzs, DV.flat, DV.flat.flats, imms]
      exact ⟨by omega, by simpa [teleg] using q3⟩
    · have es := fun lo => call_ref (d := d + 1) (H := s'.H) (n := s'.n) (lo := lo) (id := id) (bs := b) (by omega) g3
      have f4 : (putH H2 hw3).get id = some ⟨1, b.map rowY⟩ := by
        rw [p5 id (by omega) (fun _ _ e => by cases e; omega), f2 id (by omega), f1 id (by omega)]
        exact g3
      have src4 := rows_y (id := id) f4
      obtain ⟨x4, hw4, n4, acc4, q1, q2, q3, q4, q5, q6, q7⟩ := app_y (H := putH H2 hw3) (n := n3) (lo := n) (w := n) (y := .sl id 0 b.length b.length) (cs := b) (Nat.le_refl _) (by omega) p3 src4 (fun jd _ _ e => by
        intro h
        cases h
        rcases p6 id _ _ e with ⟨h, _⟩ | h
        · cases h; omega
        · omega) (by simp [numY_len]; omega)
      have x4s := q3.sc
      have x4o := q3.out
      simp [c0, c4, c5, xs, xl, i0, es, wc, wl, e1', e2', p1, x3s, q1, x4s, x4o, B6, undT, fnEnd, argsT, PT.get_put, keep, opRun, ev, evs, evO, give, giveI, binOf, isNilK, PM.flip, putT, putL, putH, loadOf, storeOf, cut, over, ofCells, asNat, natOr, calm, clashes, Acc.clash, ressOf, resOf, frz, frz.frzs, DV.flat, DV.flat.flats, imms]
      exact ⟨by omega, by simpa [teleg] using q3⟩
  obtain ⟨v, H', n', e, hn, x, rfl, hx⟩ := key
  obtain ⟨g, hg⟩ := frz_y hx (teleg_ne _)
  refine ⟨g, n', ?_, hn⟩
  have e9 : frz H'.get n (.tup [x, .imm (.int .i64 0)]) = some (.tup [.imm (.lst g 1 ((teleg (bodyT ts)).map ivY)), .imm (.int .i64 0)]) := by
    simp [frz, frz.frzs, hg]
  rw [callM_ro, if_pos (by rfl), e]
  simp only [e9]
  rfl
/-- what a unit of that epoch, count and routes may tell -/
noncomputable def tel (e c : Int) (rs : List Rst) : List UInt8 := teleg (bodyT (layT e c rs))
end Go.Proofs.YtnpcgejfkonfdabGreatDoor.D

-- UC
set_option linter.unusedVariables false
set_option linter.unusedSimpArgs false
set_option maxHeartbeats 16000000
namespace Go.Proofs.YtnpcgejfkonfdabGreatDoor.D
open Go Go.PM Go.Lib

theorem UAt.cmd {d : Nat} (hd : 11 ≤ d) {Z : Nat → Prop} {l : Lo} {H : PT HB} {n a p q : Nat} {own : List Nat} {x : DV} {u : US} (ok : LoOk l) (is : ISL l) (h : UAt Z l H n a p q own x u) (hz : ∀ j, n ≤ j → Z j) (inv : INV l u.rs) {ov lv : IV} {os : List Bool} {ls : List Int} (io : InOk ov lv os ls) (c r : Int) {m : Nat} (hm : n ≤ m) :
    ∃ v H' n', K DG (d + 1) 79 [.ptr p 0 0, inD ov lv, .agg [.imm (.int .i64 c), .imm (.int .i64 r)]] H m 0 = some (v, H', n') ∧ m ≤ n' ∧ UAt Z l H' n' a p q own x ⟨(cmdF l u.rs os ls c r).2, u.ep, u.en, u.gr, u.cp, u.mode, u.tick, u.count, u.left⟩ ∧ ∀ j, j < n → ¬ Z j → H'.get j = H.get j := by
  obtain ⟨H', n', e, lk, hn, fr⟩ := Command_run hd ok is h.lk (go_of inv.ro) io c r (n := m)
  exact ⟨_, H', n', e, hn, h.lock hz (by omega) lk (fun j hj => .inl hj) (fun j _ h2 _ => fr j h2), fun j _ hzj => fr j (fun e => hzj ((h.lt j (by simp [e])).2))⟩
def OutAt (h : Nat → Option HB) (n0 n' : Nat) (x : DV) (es : List (List IV)) : Prop := (∃ w, x = .imm w ∧ Sl 1 w es) ∨ ∃ id, (n0 ≤ id ∧ id < n') ∧ x = .sl id 0 es.length es.length ∧ h id = some ⟨1, es.map imms⟩
def OutD (h : Nat → Option HB) (n0 n' : Nat) (v : DV) (ds : List Int) (ps : List Bool) : Prop := ∃ x y, v = .agg [x, y] ∧ OutAt h n0 n' x (ds.map ivI) ∧ OutAt h n0 n' y (ps.map ivB1)
theorem OutAt.scal {h : Nat → Option HB} {n0 n' : Nat} {x : DV} {es : List (List IV)} (a : OutAt h n0 n' x es) : x.scal = true ∧ x.out = true := by
  rcases a with ⟨w, rfl, hw⟩ | ⟨id, _, rfl, _⟩
  · exact ⟨hw.scal, rfl⟩
  · exact ⟨rfl, rfl⟩
def ivC (c : Int × Int) : List IV := [.int .i64 c.1, .int .i64 c.2]
noncomputable def cmdsF (l : Lo) (os : List Bool) (ls : List Int) (rs : List Rst) (cs : List (Int × Int)) : List Rst := cs.foldl (fun r c => (cmdF l r os ls c.1 c.2).2) rs
theorem cmdsF_succ {l : Lo} {os : List Bool} {ls : List Int} {rs : List Rst} {cs : List (Int × Int)} {i : Nat} (hi : i < cs.length) : cmdsF l os ls rs (cs.take (i + 1)) = (cmdF l (cmdsF l os ls rs (cs.take i)) os ls (nth cs i).1 (nth cs i).2).2 := by
  rw [List.take_add_one, List.getElem?_eq_getElem hi]
  unfold cmdsF
  rw [List.foldl_append]
  simp [nth, List.getD_eq_getElem?_getD, List.getElem?_eq_getElem hi]
theorem INV.cmds {l : Lo} {os : List Bool} {ls : List Int} : ∀ (cs : List (Int × Int)) {rs : List Rst}, INV l rs → INV l (cmdsF l os ls rs cs)
  | [], rs, h => h
  | c :: cs, rs, h => INV.cmds cs (rs := (cmdF l rs os ls c.1 c.2).2) h.cmd
def setR (u : US) (rs : List Rst) : US := ⟨rs, u.ep, u.en, u.gr, u.cp, u.mode, u.tick, u.count, u.left⟩
structure ICm (Z : Nat → Prop) (l : Lo) (os : List Bool) (ls : List Int) (H0 : PT HB) (n0 a p q : Nat) (own : List Nat) (x : DV) (u : US) (ov lv cv : IV) (cs : List (Int × Int)) (i : Nat) (st : St) : Prop where
  c0 : st.T.get 0 = some (.ptr a 0 0)
  c2 : st.T.get 2 = some (.imm (.bool true))
  b5 : Box st 5 [ov, lv]
  b8 : Box st 8 [.nils, .nils]
  c13 : st.T.get 13 = some (.imm cv)
  c14 : st.T.get 14 = some (.imm (.int .i64 (cs.length : Int)))
  c15 : st.T.get 15 = some (.imm (.int .i64 (i : Int)))
  u : UAt Z l st.H st.n a p q own x (setR u (cmdsF l os ls u.rs (cs.take i)))
  fr : ∀ j, j < n0 → ¬ Z j → st.H.get j = H0.get j
  hn : n0 ≤ st.n
theorem loopCm {d : Nat} (hd : 11 ≤ d) {Z : Nat → Prop} {l : Lo} {os : List Bool} {ls : List Int} {H0 : PT HB} {n0 a p q : Nat} {own : List Nat} {x : DV} {u : US} (ok : LoOk l) (is : ISL l) (hz : ∀ j, n0 ≤ j → Z j) (inv : INV l u.rs) {ov lv cv : IV} (io : InOk ov lv os ls) {cs : List (Int × Int)} (hc : Sl 2 cv (cs.map ivC)) (hcl : cs.length ≤ reachBytes)
    {st : St} (h : ICm Z l os ls H0 n0 a p q own x u ov lv cv cs 0 st) {ks : List Kf} {Q : Ex → St → Prop}
    (hk : ∀ s', ICm Z l os ls H0 n0 a p q own x u ov lv cv cs cs.length s' → Bk DG (K DG (d + 1)) 0 (.exit 0) ks s' Q) :
    Wp DG (K DG (d + 1)) 0 D.l45_0 ks st Q := by
  refine dw_loop (N := cs.length) (small hcl) (fun i st => ICm Z l os ls H0 n0 a p q own x u ov lv cv cs i st) (fun e s' => e = .exit 0 ∧ ICm Z l os ls H0 n0 a p q own x u ov lv cv cs cs.length s') (fun i st hle hI => ?_) h (fun e s' h => by
    obtain ⟨rfl, h⟩ := h
    exact hk s' h)
  obtain ⟨c0, c2, ⟨i5, b5, L5⟩, ⟨i8, b8, L8⟩, c13, c14, c15, hu, fr, hn⟩ := hI
  have hb := hu.blk
  simp only [rowU] at hb
  have cvs := hc.scal
  by_cases hi : i < cs.length
  · have hi1 : (i : Int) < cs.length := by omega
    have hi' := ilt_t hi1
    have hw8 : IntKind.i64.wrap ((i : Int) + 1) = (i : Int) + 1 := wr_succ hi hcl
    have ix := fun {h : Nat → Option HB} {n : Nat} => idx_sl (h := h) (n := n) hc (by omega) (k := .i64) (z := (i : Int)) (by omega) hi1
    simp only [Int.toNat_natCast] at ix
    obtain ⟨v, H', n', e, hn', hu', f'⟩ := hu.cmd hd ok is (fun j hj => hz j (by omega)) (INV.cmds _ inv) io (nth cs i).1 (nth cs i).2 (m := st.n + 1) (by omega)
    have hu2 : UAt Z l H' n' a p q own x (setR u (cmdsF l os ls u.rs (cs.take (i + 1)))) := by
      rw [cmdsF_succ hi]
      exact hu'
    have ovs := io.o.scal
    have lvs := io.l.scal
    generalize nth cs i = y at *
    obtain ⟨y1, y2⟩ := y
    simp only at e
    generalize hQ : (fun (e : Ex) (s' : St) => _) = Q'
    simp only [D.l45_0b]
    simp [c0, c2, b5, L5, b8, L8, c13, c14, c15, cvs, hi', hw8, ix, hb, e, ovs, lvs, ivC, imms, B6, undT, fnEnd, argsT, PT.get_put, keep, opRun, ev, evs, evO, give, giveI, binOf, isNilK, PM.flip, putT, putL, putH, loadOf, storeOf, cut, over, ofCells, asNat, natOr, calm, clashes, Acc.clash, ressOf, resOf, frz, frz.frzs, DV.flat, DV.flat.flats, imms]
    subst hQ
    exact .inl ⟨rfl, hi, by simp [PT.get_put], by simp [PT.get_put], ⟨i5, by simp [PT.get_put], by simp [PT.get_put, imms]⟩, ⟨i8, by simp [PT.get_put], by simp [PT.get_put, imms]⟩, by simp [PT.get_put], by simp [PT.get_put], by simp [PT.get_put], hu2, fun j hj hzj => (f' j (by omega) hzj).trans (fr j hj hzj), by simp; omega⟩
  · obtain rfl : i = cs.length := by omega
    generalize hQ : (fun (e : Ex) (s' : St) => _) = Q'
    simp only [D.l45_0b]
    simp [c0, c2, b5, L5, b8, L8, c13, c14, c15, cvs, B6, undT, fnEnd, argsT, PT.get_put, keep, opRun, ev, evs, evO, give, giveI, binOf, isNilK, PM.flip, putT, putL, putH, loadOf, storeOf, cut, over, ofCells, asNat, natOr, calm, clashes, Acc.clash, ressOf, resOf, frz, frz.frzs, DV.flat, DV.flat.flats, imms]
    subst hQ
    exact .inr ⟨nofun, rfl, by simp [PT.get_put, c0], by simp [PT.get_put, c2], ⟨i5, by simp [PT.get_put, b5], by simp [PT.get_put, L5, imms]⟩, ⟨i8, by simp [PT.get_put, b8], by simp [PT.get_put, L8, imms]⟩, by simp [PT.get_put, c13], by simp [PT.get_put, c14], by simp [PT.get_put, c15], hu, fr, hn⟩
noncomputable def cyF (l : Lo) (u : US) (os : List Bool) (ls : List Int) (conn : Bool) (cs : List (Int × Int)) : US × List Int × List Bool :=
  let r := cycF l (if conn then cmdsF l os ls u.rs cs else u.rs) os ls
  (setR u r.1, if conn then r.2.1 else List.replicate l.pts.length 0, if conn then r.2.2 else List.replicate l.sigs.length false)
theorem out_safe {h : Nat → Option HB} {n0 n' : Nat} (l : Lo) : OutD h n0 n' (safeV l) (List.replicate l.pts.length 0) (List.replicate l.sigs.length false) :=
  ⟨_, _, rfl, .inl ⟨_, rfl, .inr ⟨false, by simp [ivI]⟩⟩, .inl ⟨_, rfl, .inr ⟨false, by simp [ivB1]⟩⟩⟩
def CyP (Z : Nat → Prop) (l : Lo) (H : PT HB) (n a p q : Nat) (own : List Nat) (x : DV) (r : US × List Int × List Bool) (v : DV) (H' : PT HB) (n' : Nat) : Prop := n ≤ n' ∧ UAt Z l H' n' a p q own x r.1 ∧ (∀ j, j < n → ¬ Z j → H'.get j = H.get j) ∧ OutD H'.get n n' v r.2.1 r.2.2
theorem cycle_fn {d : Nat} (hd : 11 ≤ d) {Z : Nat → Prop} {l : Lo} {os : List Bool} {ls : List Int} {H : PT HB} {n a p q : Nat} {own : List Nat} {x : DV} {u : US} (ok : LoOk l) (is : ISL l) (h : UAt Z l H n a p q own x u) (hz : ∀ j, n ≤ j → Z j) (inv : INV l u.rs) {ov lv cv : IV} (io : InOk ov lv os ls) {cs : List (Int × Int)} (hc : Sl 2 cv (cs.map ivC)) (hcl : cs.length ≤ reachBytes) (conn : Bool) :
    Fe (K DG (d + 2) 45 [.ptr a 0 0, inD ov lv, .imm (.bool conn), .imm cv] H n 0) (CyP Z l H n a p q own x (cyF l u os ls conn cs)) := by
  rw [D.k45]
  refine fn_dw rfl ?_
  have ovs := io.o.scal
  have lvs := io.l.scal
  have cvs := hc.scal
  have cl := hc.len
  simp only [List.length_map] at cl
  have hp := h.lt p (by simp)
  -- the Lock's Cycle, from any state
  have cyc : ∀ {H1 : PT HB} {m1 m : Nat} {w : US}, UAt Z l H1 m1 a p q own x w → INV l w.rs → n ≤ m1 → m1 ≤ m → ∃ H' n', K DG (d + 1) 80 [.ptr p 0 0, inD ov lv] H1 m 0 = some (.agg [.sl (m + 2 + 1) 0 l.pts.length l.pts.length, .sl (m + 2 + 2) 0 l.sigs.length l.sigs.length], H', n') ∧ m + 5 ≤ n' ∧ (∀ j, j < m1 → ¬ Z j → H'.get j = H1.get j) ∧
      UAt Z l H' n' a p q own x (setR w (cycF l w.rs os ls).1) ∧ H'.get (m + 2 + 1) = some ⟨1, (cycF l w.rs os ls).2.1.map rowI⟩ ∧ H'.get (m + 2 + 2) = some ⟨1, (cycF l w.rs os ls).2.2.map rowB⟩ ∧ (cycF l w.rs os ls).2.1.length = l.pts.length ∧ (cycF l w.rs os ls).2.2.length = l.sigs.length := fun {H1 m1 m w} hw iw h1 h2 => by
    obtain ⟨H', n', e, hn, fr, lk, g1, g2, g3, g4⟩ := Cycle_all hd ok is hw.lk iw io (n := m) (fun i hi => by have := (hw.lt i (by simp at hi ⊢; rcases hi with h | h <;> simp [h])).1; omega)
    exact ⟨H', n', e, hn, fun j hj hzj => fr j (fun e => hzj ((hw.lt j (by simp [e])).2)) (by omega), hw.lock (fun j hj => hz j (by omega)) (by omega) lk (fun j hj => .inl hj) (fun j _ h2' h3 => fr j h2' (by omega)), g1, g2, g3, g4⟩
  cases conn with
  | false =>
    have hb := h.blk
    simp only [rowU] at hb
    obtain ⟨H', n', e, hn, fr, hu, g1, g2, g3, g4⟩ := cyc h inv (Nat.le_refl _) (m := n + 2) (by omega)
    have hb' := hu.blk
    simp only [rowU, setR] at hb'
    have es := Safe_ro (d := d) ok is.p2 is.g2 hu.lk (n := n' + 1) (lo := 0) (by have := (hu.lt p (by simp)).1; omega)
    simp [cvs, ovs, lvs, hb, e, hb', es, B6, undT, fnEnd, argsT, PT.get_put, keep, opRun, ev, evs, evO, give, giveI, binOf, isNilK, PM.flip, putT, putL, putH, loadOf, storeOf, cut, over, ofCells, asNat, natOr, calm, clashes, Acc.clash, ressOf, resOf, frz, frz.frzs, DV.flat, DV.flat.flats, imms]
    exact ⟨by omega, hu.mono (by omega) (fun _ _ h => h) (fun _ _ _ => rfl), fr, out_safe l⟩
  | true =>
    simp [cvs, ovs, lvs, cl, B6, undT, fnEnd, argsT, PT.get_put, keep, opRun, ev, evs, evO, give, giveI, binOf, isNilK, PM.flip, putT, putL, putH, loadOf, storeOf, cut, over, ofCells, asNat, natOr, calm, clashes, Acc.clash, ressOf, resOf, frz, frz.frzs, DV.flat, DV.flat.flats, imms]
    refine loopCm (H0 := H) (n0 := n) (u := u) hd ok is hz inv io hc hcl ⟨by simp [PT.get_put], by simp [PT.get_put], ⟨n, by simp [PT.get_put], by simp [PT.get_put, imms]⟩, ⟨n + 1, by simp [PT.get_put], by simp [PT.get_put, imms]⟩, by simp [PT.get_put], by simp [PT.get_put], by simp [PT.get_put], h.mono (by simp; omega) (fun _ _ h => h) (fun _ _ _ => rfl), fun _ _ _ => rfl, by simp; omega⟩ (fun s' hI => ?_)
    obtain ⟨c0, c2, ⟨i5, b5, L5⟩, ⟨i8, b8, L8⟩, c13, c14, c15, hu, fr, hn⟩ := hI
    rw [List.take_length] at hu
    have hb := hu.blk
    simp only [rowU, setR] at hb
    obtain ⟨H', n', e, hn', fr', hu', g1, g2, g3, g4⟩ := cyc hu (INV.cmds cs inv) hn (m := s'.n) (Nat.le_refl _)
    simp [c0, c2, b5, L5, b8, L8, ovs, lvs, hb, e, imms, B6, undT, fnEnd, argsT, PT.get_put, keep, opRun, ev, evs, evO, give, giveI, binOf, isNilK, PM.flip, putT, putL, putH, loadOf, storeOf, cut, over, ofCells, asNat, natOr, calm, clashes, Acc.clash, ressOf, resOf, frz, frz.frzs, DV.flat, DV.flat.flats, imms]
    refine ⟨by omega, hu'.mono (by omega) (fun _ _ h => h) (fun _ _ _ => rfl), fun j hj hzj => (fr' j (by omega) hzj).trans (fr j hj hzj), _, _, rfl, .inr ⟨s'.n + 2 + 1, by omega, ?_, ?_⟩, .inr ⟨s'.n + 2 + 2, by omega, ?_, ?_⟩⟩
    · simp [cyF, setR] at g3 ⊢
      rw [g3]
    · rw [g1, rowI_imms]
      rfl
    · simp [cyF, setR] at g4 ⊢
      rw [g4]
    · rw [g2, List.map_map]
      rfl
def setC (u : US) (k : Int) : US := ⟨u.rs, u.ep, u.en, u.gr, u.cp, u.mode, u.tick, k, u.left⟩
def incC (k : Int) : Int := if k < 9223372036854775807 then k + 1 else k
def forcedF (u : US) : US := ⟨u.rs, u.ep, u.en, u.gr, u.cp, if u.left - 1 ≤ 0 then 3 else u.mode, u.tick, u.count, u.left - 1⟩
theorem forced_t {w : US} (h : w.left - 1 ≤ 0) : forcedF w = ⟨w.rs, w.ep, w.en, w.gr, w.cp, 3, w.tick, w.count, w.left - 1⟩ := by
  unfold forcedF
  rw [if_pos h]
theorem forced_f {w : US} (h : ¬ w.left - 1 ≤ 0) : forcedF w = ⟨w.rs, w.ep, w.en, w.gr, w.cp, w.mode, w.tick, w.count, w.left - 1⟩ := by
  unfold forcedF
  rw [if_neg h]
open Classical in
noncomputable def cycleF (l : Lo) (u : US) (os : List Bool) (ls : List Int) (conn : Bool) (cs : List (Int × Int)) : US × List Int × List Bool :=
  if Wk u ∧ (u.gr = true ∧ u.tick < u.en) then
    if u.mode = 3 then cyF l (setC u (incC u.count)) os ls conn cs
    else (forcedF (setC u (incC u.count)), List.replicate l.pts.length 0, List.replicate l.sigs.length false)
  else (u, List.replicate l.pts.length 0, List.replicate l.sigs.length false)
def CyR (Z : Nat → Prop) (l : Lo) (H : PT HB) (n a : Nat) (r : US × List Int × List Bool) (v : DV) (H' : PT HB) (n' : Nat) : Prop := UR Z l H n a r.1 H' n' ∧ OutD H'.get n n' v r.2.1 r.2.2
theorem OutD.low {h : Nat → Option HB} {n0 m n' : Nat} {v : DV} {ds : List Int} {ps : List Bool} (o : OutD h m n' v ds ps) (hm : n0 ≤ m) : OutD h n0 n' v ds ps := by
  obtain ⟨x, y, rfl, a, b⟩ := o
  refine ⟨x, y, rfl, ?_, ?_⟩
  · rcases a with a | ⟨id, ⟨p1, p2⟩, p3⟩
    · exact .inl a
    · exact .inr ⟨id, ⟨by omega, p2⟩, p3⟩
  · rcases b with a | ⟨id, ⟨p1, p2⟩, p3⟩
    · exact .inl a
    · exact .inr ⟨id, ⟨by omega, p2⟩, p3⟩
theorem Cycle_fnU {d : Nat} (hd : 11 ≤ d) {Z : Nat → Prop} {l : Lo} {os : List Bool} {ls : List Int} {H : PT HB} {n a : Nat} {u : US} (ok : LoOk l) (is : ISL l) (h : UI Z l H n a u) (hz : ∀ j, n ≤ j → Z j) (inv : INV l u.rs) (c0 : -9223372036854775808 ≤ u.count ∧ u.count ≤ 9223372036854775807) (l0 : -1000 ≤ u.left ∧ u.left ≤ 1000)
    {ov lv cv : IV} (io : InOk ov lv os ls) {cs : List (Int × Int)} (hc : Sl 2 cv (cs.map ivC)) (hcl : cs.length ≤ reachBytes) (conn : Bool) :
    Fe (K DG (d + 3) 13 [.ptr a 0 0, inD ov lv, .imm (.bool conn), .imm cv] H n 0) (CyR Z l H n a (cycleF l u os ls conn cs)) := by
  obtain ⟨p, q, own, x, h⟩ := h
  have hb := h.blk
  have xs := h.xs.1
  have la := h.lt a (by simp)
  have lp := h.lt p (by simp)
  simp only [rowU] at hb
  have ovs := io.o.scal
  have lvs := io.l.scal
  have cvs := hc.scal
  obtain ⟨k1, e1, hk1⟩ := u_works h (d := d + 1) (m := n + 2) (lo := 0)
  obtain ⟨k2, e2, hk2⟩ := lease_live h.le u.tick (d := d + 1) (n := k1) (lo := 0)
  have safe : ∀ (m : Nat) {H1 : PT HB} {m1 : Nat} {w : US}, UAt Z l H1 m1 a p q own x w → m1 ≤ m → callM (K DG (d + 2)) .ro 44 [.ptr p 0 0] H1 m 0 = some ⟨safeV l, H1, m + 3, [.rA]⟩ := fun m {H1 m1 w} hw h1 => Safe_ro (d := d + 1) ok is.p2 is.g2 hw.lk (by have := (hw.lt p (by simp)).1; omega)
  rw [D.k13]
  refine fn_dw rfl ?_
  unfold cycleF
  by_cases wk : Wk u
  · rw [dec_t wk] at e1
    by_cases lv' : u.gr = true ∧ u.tick < u.en
    · rw [if_pos ⟨wk, lv'⟩]
      rw [dec_t lv'] at e2
      -- the count
      have cnt : ∃ H1, UAt Z l H1 n a p q own x (setC u (incC u.count)) ∧ (∀ j, j < n → ¬ Z j → H1.get j = H.get j) ∧ ((u.count < 9223372036854775807 ∧ H1 = H.put a (some ⟨7, [[.ptr p 0 0, .ptr q 0 0, x, .imm (.int .i64 u.mode), .imm (.int .i64 u.tick), .imm (.int .i64 (u.count + 1)), .imm (.int .i64 u.left)]]⟩)) ∨ (¬ u.count < 9223372036854775807 ∧ H1 = H)) := by
        by_cases hlt : u.count < 9223372036854775807
        · refine ⟨_, ?_, fun j hj hzj => ?_, .inl ⟨hlt, rfl⟩⟩
          · have := h.num u.mode u.tick (u.count + 1) u.left
            unfold incC
            rw [if_pos hlt]
            exact this
          · have : ¬ j = a := fun e => hzj (e ▸ la.2)
            simp [PT.get_put, this]
        · refine ⟨H, ?_, fun _ _ _ => rfl, .inr ⟨hlt, rfl⟩⟩
          unfold incC
          rw [if_neg hlt]
          exact h
      obtain ⟨H1, h1, f1, hH1⟩ := cnt
      have w1 : u.count < 9223372036854775807 → IntKind.i64.wrap (u.count + 1) = u.count + 1 := fun hh => wr_id (by omega) (by omega)
      have hb1 := h1.blk
      simp only [rowU, setC] at hb1
      by_cases h3 : u.mode = 3
      · rw [if_pos h3]
        obtain ⟨v5, H5, n5, e5, hn5, hu5, f5, o5⟩ := cycle_fn (d := d) hd (H := H1) (n := k2) ok is (h1.mono (by omega) (fun _ _ h => h) (fun _ _ _ => rfl)) (fun j hj => hz j (by omega)) inv io hc hcl conn
        have fin : CyR Z l H n a (cyF l (setC u (incC u.count)) os ls conn cs) v5 H5 n5 := ⟨⟨by omega, ⟨p, q, own, x, hu5⟩, fun j hj hzj => (f5 j (by omega) hzj).trans (f1 j hj hzj)⟩, o5.low (by omega)⟩
        obtain ⟨y1, y2, rfl, oy1, oy2⟩ := o5
        have s1 := oy1.scal
        have s2 := oy2.scal
        rw [h3] at hb hb1
        rcases hH1 with ⟨hlt, hH1⟩ | ⟨hlt, rfl⟩
        · rw [h3] at hH1
          simp [cvs, ovs, lvs, xs, hb, e1, e2, ilt_t hlt, w1 hlt, ← hH1, hb1, e5, s1.1, s2.1, s1.2, s2.2, B6, undT, fnEnd, argsT, PT.get_put, keep, opRun, ev, evs, evO, give, giveI, binOf, isNilK, PM.flip, putT, putL, putH, loadOf, storeOf, cut, over, ofCells, asNat, natOr, calm, clashes, Acc.clash, ressOf, resOf, frz, frz.frzs, DV.flat, DV.flat.flats, imms]
          exact fin
        · simp [cvs, ovs, lvs, xs, hb, e1, e2, ilt_f (Int.not_lt.1 hlt), hb1, e5, s1.1, s2.1, s1.2, s2.2, B6, undT, fnEnd, argsT, PT.get_put, keep, opRun, ev, evs, evO, give, giveI, binOf, isNilK, PM.flip, putT, putL, putH, loadOf, storeOf, cut, over, ofCells, asNat, natOr, calm, clashes, Acc.clash, ressOf, resOf, frz, frz.frzs, DV.flat, DV.flat.flats, imms]
          exact fin
      · rw [if_neg h3]
        have h4 : u.mode = 4 := wk.resolve_left h3
        have w2 : IntKind.i64.wrap (u.left - 1) = u.left - 1 := wr_id (by omega) (by omega)
        have h2 := h1.num u.mode u.tick (incC u.count) (u.left - 1)
        obtain ⟨H2, hH2⟩ : ∃ H2, H2 = H1.put a (some ⟨7, [[.ptr p 0 0, .ptr q 0 0, x, .imm (.int .i64 u.mode), .imm (.int .i64 u.tick), .imm (.int .i64 (incC u.count)), .imm (.int .i64 (u.left - 1))]]⟩) := ⟨_, rfl⟩
        rw [← hH2] at h2
        have f2 : ∀ j, j < n → ¬ Z j → H2.get j = H.get j := fun j hj hzj => by
          have : ¬ j = a := fun e => hzj (e ▸ la.2)
          rw [hH2]
          simp [PT.get_put, this]
          exact f1 j hj hzj
        have hb2 := h2.blk
        simp only [rowU] at hb2
        by_cases h0 : u.left - 1 ≤ 0
        · have h5 := h2.num 3 u.tick (incC u.count) (u.left - 1)
          obtain ⟨H5, hH5⟩ : ∃ H5, H5 = H2.put a (some ⟨7, [[.ptr p 0 0, .ptr q 0 0, x, .imm (.int .i64 3), .imm (.int .i64 u.tick), .imm (.int .i64 (incC u.count)), .imm (.int .i64 (u.left - 1))]]⟩) := ⟨_, rfl⟩
          rw [← hH5] at h5
          have f5 : ∀ j, j < n → ¬ Z j → H5.get j = H.get j := fun j hj hzj => by
            have : ¬ j = a := fun e => hzj (e ▸ la.2)
            rw [hH5]
            simp [PT.get_put, this]
            exact f2 j hj hzj
          have hb5 := h5.blk
          simp only [rowU] at hb5
          have es := safe k2 h5 (by omega)
          have fin : ∀ n', n ≤ n' → CyR Z l H n a (forcedF (setC u (incC u.count)), List.replicate l.pts.length 0, List.replicate l.sigs.length false) (safeV l) H5 n' := fun n' hn' => ⟨⟨hn', ⟨p, q, own, x, by
            have := h5.mono (n' := n') hn' (fun _ _ h => h) (fun _ _ _ => rfl)
            show UAt Z l H5 n' a p q own x (forcedF (setC u (incC u.count)))
            rw [forced_t (w := setC u (incC u.count)) h0]
            exact this⟩, f5⟩, out_safe l⟩
          have il : ILt 0 (u.left - 1) = False := ilt_f h0
          rw [h4] at hb hb1 hb2 hH2
          rcases hH1 with ⟨hlt, hH1⟩ | ⟨hlt, rfl⟩
          · have ic : incC u.count = u.count + 1 := if_pos hlt
            rw [h4] at hH1
            rw [ic] at hb1 hb2 hH2 hb5 hH5
            simp [cvs, ovs, lvs, xs, hb, e1, e2, ilt_t hlt, w1 hlt, w2, il, ← hH1, hb1, ← hH2, hb2, ← hH5, hb5, es, B6, undT, fnEnd, argsT, PT.get_put, keep, opRun, ev, evs, evO, give, giveI, binOf, isNilK, PM.flip, putT, putL, putH, loadOf, storeOf, cut, over, ofCells, asNat, natOr, calm, clashes, Acc.clash, ressOf, resOf, frz, frz.frzs, DV.flat, DV.flat.flats, imms]
            exact fin _ (by omega)
          · have ic : incC u.count = u.count := if_neg hlt
            rw [ic] at hb1 hb2 hH2 hb5 hH5
            simp [cvs, ovs, lvs, xs, hb, e1, e2, ilt_f (Int.not_lt.1 hlt), w2, il, hb1, ← hH2, hb2, ← hH5, hb5, es, B6, undT, fnEnd, argsT, PT.get_put, keep, opRun, ev, evs, evO, give, giveI, binOf, isNilK, PM.flip, putT, putL, putH, loadOf, storeOf, cut, over, ofCells, asNat, natOr, calm, clashes, Acc.clash, ressOf, resOf, frz, frz.frzs, DV.flat, DV.flat.flats, imms]
            exact fin _ (by omega)
        · have es := safe k2 h2 (by omega)
          have fin : ∀ n', n ≤ n' → CyR Z l H n a (forcedF (setC u (incC u.count)), List.replicate l.pts.length 0, List.replicate l.sigs.length false) (safeV l) H2 n' := fun n' hn' => ⟨⟨hn', ⟨p, q, own, x, by
            have := h2.mono (n' := n') hn' (fun _ _ h => h) (fun _ _ _ => rfl)
            show UAt Z l H2 n' a p q own x (forcedF (setC u (incC u.count)))
            rw [forced_f (w := setC u (incC u.count)) h0]
            exact this⟩, f2⟩, out_safe l⟩
          have il : ILt 0 (u.left - 1) = True := ilt_t (by omega)
          rw [h4] at hb hb1 hb2 hH2
          rcases hH1 with ⟨hlt, hH1⟩ | ⟨hlt, rfl⟩
          · have ic : incC u.count = u.count + 1 := if_pos hlt
            rw [h4] at hH1
            rw [ic] at hb1 hb2 hH2
            simp [cvs, ovs, lvs, xs, hb, e1, e2, ilt_t hlt, w1 hlt, w2, il, ← hH1, hb1, ← hH2, hb2, es, B6, undT, fnEnd, argsT, PT.get_put, keep, opRun, ev, evs, evO, give, giveI, binOf, isNilK, PM.flip, putT, putL, putH, loadOf, storeOf, cut, over, ofCells, asNat, natOr, calm, clashes, Acc.clash, ressOf, resOf, frz, frz.frzs, DV.flat, DV.flat.flats, imms]
            exact fin _ (by omega)
          · have ic : incC u.count = u.count := if_neg hlt
            rw [ic] at hb1 hb2 hH2
            simp [cvs, ovs, lvs, xs, hb, e1, e2, ilt_f (Int.not_lt.1 hlt), w2, il, hb1, ← hH2, hb2, es, B6, undT, fnEnd, argsT, PT.get_put, keep, opRun, ev, evs, evO, give, giveI, binOf, isNilK, PM.flip, putT, putL, putH, loadOf, storeOf, cut, over, ofCells, asNat, natOr, calm, clashes, Acc.clash, ressOf, resOf, frz, frz.frzs, DV.flat, DV.flat.flats, imms]
            exact fin _ (by omega)
    · rw [if_neg (fun h => lv' h.2)]
      rw [dec_f lv'] at e2
      have es := safe k2 h (by omega)
      simp [cvs, ovs, lvs, xs, hb, e1, e2, es, B6, undT, fnEnd, argsT, PT.get_put, keep, opRun, ev, evs, evO, give, giveI, binOf, isNilK, PM.flip, putT, putL, putH, loadOf, storeOf, cut, over, ofCells, asNat, natOr, calm, clashes, Acc.clash, ressOf, resOf, frz, frz.frzs, DV.flat, DV.flat.flats, imms]
      exact ⟨⟨by omega, ⟨p, q, own, x, h.mono (by omega) (fun _ _ h => h) (fun _ _ _ => rfl)⟩, fun _ _ _ => rfl⟩, out_safe l⟩
  · rw [dec_f wk] at e1
    rw [if_neg (fun h => wk h.1)]
    have es := safe k1 h (by omega)
    simp [cvs, ovs, lvs, xs, hb, e1, es, B6, undT, fnEnd, argsT, PT.get_put, keep, opRun, ev, evs, evO, give, giveI, binOf, isNilK, PM.flip, putT, putL, putH, loadOf, storeOf, cut, over, ofCells, asNat, natOr, calm, clashes, Acc.clash, ressOf, resOf, frz, frz.frzs, DV.flat, DV.flat.flats, imms]
    exact ⟨⟨by omega, ⟨p, q, own, x, h.mono (by omega) (fun _ _ h => h) (fun _ _ _ => rfl)⟩, fun _ _ _ => rfl⟩, out_safe l⟩
end Go.Proofs.YtnpcgejfkonfdabGreatDoor.D

-- OU
set_option linter.unusedVariables false
set_option linter.unusedSimpArgs false
set_option maxHeartbeats 16000000
set_option maxRecDepth 100000
namespace Go.Proofs.YtnpcgejfkonfdabGreatDoor.D
open Go Go.PM Go.Lib

def rtOne : Rt := ⟨[114], 0, 1, .lst true 1 [[.int .i64 0]], .nils, .nils, [0], [], []⟩
def loOne : Lo := ⟨.lst true 1 [[.str [97]]], .nils, .lst true 1 [[.str [115]], [.str [116]]], .lst true 6 [[.str [114], .int .i64 0, .int .i64 1, .lst true 1 [[.int .i64 0]], .nils, .nils]], [[97]], [], [[115], [116]], [rtOne]⟩
theorem layOne_bl {d : Nat} : bl (K DG (d + 1)) 11 [] = some loOne.dv := by
  have key : Fe (K DG (d + 1) 11 [] .lf 0 0) (fun v _ _ => v = loOne.dv) := by
    rw [D.k11]
    refine fn_dw rfl ?_
    simp [loOne, evParts, evParts2, lay, unImms, unImm, mapO, rowsN, imms, B6, undT, fnEnd, argsT, PT.get_put, keep, opRun, ev, evs, evO, give, giveI, binOf, isNilK, PM.flip, putT, putL, putH, loadOf, storeOf, cut, over, ofCells, asNat, natOr, calm, clashes, Acc.clash, ressOf, resOf, frz, frz.frzs, DV.flat, DV.flat.flats, imms]
  obtain ⟨v, H, n, e, rfl⟩ := key
  exact bl_of e rfl
theorem one_ok : LoOk loOne := by
  have hrb := rb3
  refine ⟨.inr ⟨true, rfl⟩, .inl ⟨rfl, rfl⟩, .inr ⟨true, rfl⟩, .inr ⟨true, rfl⟩, by simp [loOne]; omega, by simp [loOne], by simp [loOne]; omega, by simp [loOne]; omega, fun x hx => ?_, fun x hx => ?_, fun x hx => ?_, fun x hx => ?_⟩
  · simp [loOne] at hx; subst hx; simp; omega
  · simp [loOne] at hx
  · simp [loOne] at hx; rcases hx with rfl | rfl <;> simp <;> omega
  · simp [loOne] at hx
    subst hx
    exact ⟨.inr ⟨true, rfl⟩, .inl ⟨rfl, rfl⟩, .inl ⟨rfl, rfl⟩, by simp [rtOne]; omega, by simp [rtOne]; omega, by simp [rtOne], by simp [rtOne]⟩
theorem nm_a : nm3 [97] = true := by kernel_rfl
theorem nm_s : nm3 [115] = true := by kernel_rfl
theorem nm_t : nm3 [116] = true := by kernel_rfl
theorem nm_r : nm3 [114] = true := by kernel_rfl
theorem one_is : ISL loOne := by
  have ne : ∀ path w, NE [] [] path w := fun _ _ i hi => absurd hi (by simp)
  have one : ∀ s : List UInt8, nm3 s = true → NM [s] := fun s hs i x hi => by
    cases i with
    | zero => simp at hi; subst hi; exact ⟨hs, by simp⟩
    | succ i => simp at hi
  refine ⟨by simp [loOne], by simp [loOne], by simp [loOne], by simp [loOne], by simp [loOne], by simp [loOne], fun i hi => by simp [loOne] at hi, one _ nm_a, fun i x hi => ?_, NM_nil, one _ nm_r, fun i hi => ?_⟩
  · match i with
    | 0 => simp [loOne] at hi; subst hi; exact ⟨nm_s, by simp⟩
    | 1 => simp [loOne] at hi; subst hi; exact ⟨nm_t, by simp [loOne]⟩
    | i + 2 => simp [loOne] at hi
  · obtain rfl : i = 0 := by simp [loOne] at hi; omega
    exact ⟨⟨by simp [loOne, rtOne, nth], by simp [loOne, rtOne, nth]⟩, ⟨by simp [loOne, rtOne, nth], by simp [loOne, rtOne, nth]⟩, by simp [loOne, rtOne, nth], fun i z hz => by
      cases i with
      | zero => simp [loOne, rtOne, nth] at hz; subst hz; exact ⟨⟨by omega, by simp [loOne]⟩, by simp⟩
      | succ i => simp [loOne, rtOne, nth] at hz, by simp [loOne, rtOne, nth], by simp [loOne, rtOne, nth], ne _ _, ne _ _, rfl⟩
theorem is_run {D : Nat} (hD : D = 26 ∨ D = 27) : bl (K DG D) 77 [loOne.dv] = some (.imm (.bool true)) := by
  rcases hD with rfl | rfl
  · have h : ansT (dcallF (doorG 0 1) tab 26 77 [loOne.dv] .lf 0 0) = true := by kernel_rfl
    rw [show dcallF (doorG 0 1) tab 26 = K DG 26 from dcallF_eq _ _ _] at h
    obtain ⟨H', n', e⟩ := ansT_spec h
    exact bl_imm e
  · have h : ansT (dcallF (doorG 0 1) tab 27 77 [loOne.dv] .lf 0 0) = true := by kernel_rfl
    rw [show dcallF (doorG 0 1) tab 27 = K DG 27 from dcallF_eq _ _ _] at h
    obtain ⟨H', n', e⟩ := ansT_spec h
    exact bl_imm e
theorem known_bl : bl (K DG 29) 17 [] = some (.imm (.bool true)) := by
  have h : ansT (dcallF (doorG 0 1) tab 29 17 [] .lf 0 0) = true := by kernel_rfl
  rw [show dcallF (doorG 0 1) tab 29 = K DG 29 from dcallF_eq _ _ _] at h
  obtain ⟨H', n', e⟩ := ansT_spec h
  exact bl_imm e
theorem free_bl {d : Nat} : bl (K DG (d + 1)) 14 [] = some (inD (.lst true 1 [[.bool false]]) .nils) := by
  have key : Fe (K DG (d + 1) 14 [] .lf 0 0) (fun v _ _ => v = inD (.lst true 1 [[.bool false]]) .nils) := by
    rw [D.k14]
    refine fn_dw rfl ?_
    simp [evParts, evParts2, lay, unImms, unImm, mapO, rowsN, imms, B6, undT, fnEnd, argsT, PT.get_put, keep, opRun, ev, evs, evO, give, giveI, binOf, isNilK, PM.flip, putT, putL, putH, loadOf, storeOf, cut, over, ofCells, asNat, natOr, calm, clashes, Acc.clash, ressOf, resOf, frz, frz.frzs, DV.flat, DV.flat.flats, imms]
  obtain ⟨v, H, n, e, rfl⟩ := key
  exact bl_of e rfl
/-- a layout as the one of one route -/
structure AsOne (l : Lo) : Prop where
  ok : LoOk l
  is : ISL l
  eq : LoEq loOne l
/-- a new unit -/
theorem newOne {D : Nat} (hD : D = 28 ∨ D = 29) {Z : Nat → Prop} (H : PT HB) (n : Nat) (hz : ∀ j, n ≤ j → Z j) :
    ∃ a l H' n', K DG D 10 [loOne.dv] H n 0 = some (.tup [.ptr a 0 0, .imm (.int .i64 0)], H', n') ∧ n ≤ n' ∧ AsOne l ∧ UI Z l H' n' a (newU l) ∧ (n ≤ a ∧ a < n') ∧ ∀ j, j < n → H'.get j = H.get j := by
  obtain ⟨d, rfl, hd⟩ : ∃ d, D = d + 2 ∧ (d = 26 ∨ d = 27) := ⟨D - 2, by omega, by omega⟩
  obtain ⟨a, l, H', n', e, hn, ok, eq, hu, ha, f⟩ := New_of (d := d) (by omega) one_ok one_is (is_run hd) H n hz
  exact ⟨a, l, H', n', e, hn, ⟨ok, eq.is one_is, eq⟩, hu, ha, f⟩
theorem one_len {l : Lo} (h : AsOne l) : l.rts.length = 1 := by rw [h.eq.len]; rfl
theorem one_rep {l : Lo} (h : AsOne l) : rep0 l = [rs0] := by unfold rep0; rw [one_len h]; rfl
theorem one_inv {l : Lo} (h : AsOne l) {x : Rst} (hx : RsOk l 0 x) : INV l [x] :=
  ⟨by rw [one_len h]; rfl, fun r hr => by
    obtain rfl : r = 0 := by rw [one_len h] at hr; omega
    exact hx, fun i j hi hj hij => by rw [one_len h] at hi hj; omega⟩
/-- what is heard of a telegram of a unit -/
theorem hear_tel {l : Lo} {u : US} {e c : Int} {qs : List Rst} (he : -9223372036854775808 ≤ e ∧ e ≤ 9223372036854775807) (hc : -9223372036854775808 ≤ c ∧ c ≤ 9223372036854775807) (hq : ∀ x ∈ qs, (-9223372036854775808 ≤ x.mode ∧ x.mode ≤ 9223372036854775807) ∧ (-9223372036854775808 ≤ x.timer ∧ x.timer ≤ 9223372036854775807) ∧ (-9223372036854775808 ≤ x.gone ∧ x.gone ≤ 9223372036854775807)) (hl : qs.length ≤ 20) (h2 : u.mode = 2) (ho : ¬ OldP u e c) (iq : INV l qs) :
    hearF l u (tel e c qs) = ⟨u.rs, u.ep, u.en, u.gr, some (e, c, qs), u.mode, u.tick, u.count, u.left⟩ := by
  obtain ⟨l1, l2, l3, l4⟩ := layT_ok e c hl
  have hcan : ∀ t ∈ layT e c qs, thCan t := fun t ht => by
    simp only [layT, List.mem_cons, List.mem_map] at ht
    rcases ht with rfl | ⟨z, hz, rfl⟩
    · show (5 : Nat) ≤ 200; omega
    · rcases hz with rfl | rfl | rfl | hz
      · exact he
      · exact hc
      · show _ ∧ _; omega
      · simp only [ofF, List.mem_flatMap] at hz
        obtain ⟨x, hx, hz⟩ := hz
        obtain ⟨q1, q2, q3⟩ := hq x hx
        simp only [of1, List.mem_cons, List.not_mem_nil, or_false] at hz
        rcases hz with rfl | rfl | rfl | rfl
        · exact q1
        · exact q2
        · exact q3
        · show _ ∧ _; unfold bi; split <;> omega
  unfold hearF tel
  rw [if_neg (by simp [h2]), unF_teleg hcan l1 l4]
  simp only [readF_lay]
  rw [if_neg ho, if_pos iq]
end Go.Proofs.YtnpcgejfkonfdabGreatDoor.D

-- RL
set_option linter.unusedVariables false
set_option linter.unusedSimpArgs false
set_option maxHeartbeats 16000000
namespace Go.Proofs.YtnpcgejfkonfdabGreatDoor.D
open Go Go.PM Go.Lib

theorem Lay9_fn {d : Nat} {H : PT HB} {n lo : Nat} {v : IV} {rs : List Rst} (hlo : lo ≤ n) (hv : Sl 4 v (rs.map ivRS)) (hl : rs.length ≤ 24) (e c : Int) :
    ∃ a ob H' n', K DG (d + 3) 75 [.imm (.int .i64 e), .imm (.int .i64 c), .imm v] H n lo = some (.ptr a 0 0, H', n') ∧ CrR H' a ob (layT e c rs) ∧ a < n' ∧ ∀ b, ob = some b → b < n' := by
  have vl := hv.len
  simp only [List.length_map] at vl
  have vs := hv.scal
  obtain ⟨w, ew, hw⟩ := Of9_bl (d := d) hv (by omega)
  obtain ⟨zs, hzs⟩ : ∃ zs : List Int, zs = e :: c :: (rs.length : Int) :: ofF rs := ⟨_, rfl⟩
  have hzl : zs.length = 3 + 4 * rs.length := by rw [hzs]; simp [ofF_len]; omega
  have key : Fe (K DG (d + 2 + 1) 75 [.imm (.int .i64 e), .imm (.int .i64 c), .imm v] H n lo) (fun v' H' n' => ∃ a ob, v' = .ptr a 0 0 ∧ CrR H' a ob (layT e c rs) ∧ a < n' ∧ ∀ b, ob = some b → b < n') := by
    rw [D.k75]
    refine fn_dw rfl ?_
    have hz3 : zs.map ivI = [[.int .i64 e], [.int .i64 c], [.int .i64 (rs.length : Int)]] ++ (ofF rs).map ivI := by rw [hzs]; simp [ivI]
    have fin : ∀ {a : Nat} (x : DV) (s' : St), ILr lo a x zs zs.length s' → ∃ ob, CrR s'.H a ob (layT e c rs) ∧ a < s'.n ∧ ∀ b, ob = some b → b < s'.n := fun {a} x s' hI => by
      obtain ⟨c7, c8, c9, ⟨ob, hob, cr, xb⟩, xa, ⟨anl, an⟩⟩ := hI
      rw [List.take_length] at cr
      have : layT e c rs = .text [115, 116, 97, 116, 101] :: zs.map .int := by rw [hzs]; rfl
      rw [this]
      exact ⟨ob, cr, an, fun b hb => (hob b hb).1⟩
    have ws := hw.scal
    by_cases hr : rs = []
    · have hw0 : Sl 1 w [] := by rw [hr] at hw; exact hw
      obtain ⟨sb, hsrc, _⟩ := src_sl hw0 H.get
      have ha : appOf H.get n lo 1 8 (.imm (.lst true 1 [[.int .i64 e], [.int .i64 c], [.int .i64 (rs.length : Int)]])) (.imm w) = some { v := .imm (.lst true 1 (zs.map ivI)), n' := n, acc := [] } := by
        rw [hz3, hr]
        simp [appOf, hsrc, raccOf, ofF]
      generalize hes : zs.map ivI = es at *
      simp [vl, vs, ws, ew, ha, hlo, evParts, evParts2, lay, unImms, unImm, mapO, rowsN, imms, B6, undT, fnEnd, argsT, PT.get_put, keep, opRun, ev, evs, evO, give, giveI, binOf, isNilK, PM.flip, putT, putL, putH, loadOf, storeOf, cut, over, ofCells, asNat, natOr, calm, clashes, Acc.clash, ressOf, resOf, frz, frz.frzs, DV.flat, DV.flat.flats, imms]
      refine loopLr (lo := lo) (a := n) (zs := zs) (x := .imm (.lst true 1 es)) (by omega) ⟨by simp [PT.get_put], by simp [PT.get_put], by simp [PT.get_put], ⟨none, by simp, by exact .inr (.inl ⟨by simp [PT.get_put, rowTh], rfl⟩), by simp⟩, .inl (by rw [hes]), by simp; omega⟩ (fun s' hI => ?_)
      obtain ⟨ob, g1, g2, g3⟩ := fin _ s' hI
      obtain ⟨c7, c8, c9, _, xa, an⟩ := hI
      simp [c7, c8, c9, B6, undT, fnEnd, argsT, PT.get_put, keep, opRun, ev, evs, evO, give, giveI, binOf, isNilK, PM.flip, putT, putL, putH, loadOf, storeOf, cut, over, ofCells, asNat, natOr, calm, clashes, Acc.clash, ressOf, resOf, frz, frz.frzs, DV.flat, DV.flat.flats, imms]
      exact ⟨ob, g1, g2, g3⟩
    · have hne : (ofF rs).map ivI ≠ [] := by
        intro h
        have := congrArg List.length h
        simp [ofF_len] at this
        exact hr (List.length_eq_zero_iff.1 (by omega))
      obtain ⟨sb, hsrc, hsb⟩ := src_sl hw H.get
      obtain rfl := hsb hne
      have am : 20000000 ≤ appMax := by unfold appMax; omega
      have hne3 : ¬ ofF rs = [] := fun h => hne (by rw [h]; rfl)
      have hll : 3 + (ofF rs).length = zs.length := by rw [hzl, ofF_len]
      have a1 : zs.length ≤ appMax := by omega
      have a2 : zs.length * 8 ≤ appMax := by omega
      have ha : appOf H.get n lo 1 8 (.imm (.lst true 1 [[.int .i64 e], [.int .i64 c], [.int .i64 (rs.length : Int)]])) (.imm w) = some { v := .sl n 0 zs.length zs.length, hw := [(n, some ⟨1, zs.map rowI⟩)], n' := n + 1, acc := [.wX n] } := by
        have hrow : zs.map rowI = (zs.map ivI).map imms := by rw [List.map_map]; rfl
        rw [hrow, hz3]
        simp [appOf, hsrc, raccOf, hne3, imms] 
        constructor
        · omega
        · omega
      generalize hes : zs.map rowI = es at *
      simp [vl, vs, ws, ew, ha, hlo, evParts, evParts2, lay, unImms, unImm, mapO, rowsN, imms, B6, undT, fnEnd, argsT, PT.get_put, keep, opRun, ev, evs, evO, give, giveI, binOf, isNilK, PM.flip, putT, putL, putH, loadOf, storeOf, cut, over, ofCells, asNat, natOr, calm, clashes, Acc.clash, ressOf, resOf, frz, frz.frzs, DV.flat, DV.flat.flats, imms]
      have hnb : ¬ n = n + 1 := by omega
      refine loopLr (lo := lo) (a := n + 1) (zs := zs) (x := .sl n 0 zs.length zs.length) (by omega) ⟨by simp [PT.get_put], by simp [PT.get_put], by simp [PT.get_put], ⟨none, by simp, by exact .inr (.inl ⟨by simp [PT.get_put, rowTh], rfl⟩), by simp⟩, .inr ⟨n, by simp; omega, rfl, by simp [PT.get_put, hes]⟩, by simp; omega⟩ (fun s' hI => ?_)
      obtain ⟨ob, g1, g2, g3⟩ := fin _ s' hI
      obtain ⟨c7, c8, c9, _, xa, an⟩ := hI
      simp [c7, c8, c9, B6, undT, fnEnd, argsT, PT.get_put, keep, opRun, ev, evs, evO, give, giveI, binOf, isNilK, PM.flip, putT, putL, putH, loadOf, storeOf, cut, over, ofCells, asNat, natOr, calm, clashes, Acc.clash, ressOf, resOf, frz, frz.frzs, DV.flat, DV.flat.flats, imms]
      exact ⟨ob, g1, g2, g3⟩
  obtain ⟨v', H', n', e, a, ob, rfl, r⟩ := key
  exact ⟨a, ob, H', n', e, r⟩
end Go.Proofs.YtnpcgejfkonfdabGreatDoor.D

-- RD
set_option linter.unusedVariables false
set_option linter.unusedSimpArgs false
set_option maxHeartbeats 16000000
namespace Go.Proofs.YtnpcgejfkonfdabGreatDoor.D
open Go Go.PM Go.Lib

theorem laid_bl {d : Nat} {k f rv b o l c : IV} {E N : Int} {rs : List Rst} (hk : (DV.imm k).scal = true ∧ (DV.imm f).scal = true ∧ (DV.imm b).scal = true ∧ (DV.imm o).scal = true ∧ (DV.imm l).scal = true ∧ (DV.imm c).scal = true) (hv : Sl 4 rv (rs.map ivRS)) (hl : rs.length ≤ 20) :
    ∃ g, bl (K DG (d + 4)) 36 [.agg [.imm k, .imm f, .imm (.int .i64 E), .imm (.int .i64 N), .imm rv, .imm b, .imm o, .imm l, .imm c]] = some (.imm (.lst g 1 ((tel E N rs).map ivY))) := by
  obtain ⟨a, ob, H1, n1, e1, hc, ha, hob⟩ := Lay9_fn (d := d) (H := .lf) (n := 1) (lo := 0) (by omega) hv (by omega) E N
  obtain ⟨l1, l2, l3, l4⟩ := layT_ok E N hl
  obtain ⟨g, m, e2, hm⟩ := Pack8_ro (d := d) (lo := 0) hc ha hob l1 l2 l3 l4
  have vs := hv.scal
  obtain ⟨k1, k2, k3, k4, k5, k6⟩ := hk
  refine ⟨g, bl_fe ?_⟩
  unfold tel
  generalize (teleg (bodyT (layT E N rs))).map ivY = es at *
  rw [D.k36]
  refine fn_dw rfl ?_
  simp [vs, k1, k2, k3, k4, k5, k6, e1, e2, imms, B6, undT, fnEnd, argsT, PT.get_put, keep, opRun, ev, evs, evO, give, giveI, binOf, isNilK, PM.flip, putT, putL, putH, loadOf, storeOf, cut, over, ofCells, asNat, natOr, calm, clashes, Acc.clash, ressOf, resOf, frz, frz.frzs, DV.flat, DV.flat.flats, imms]
end Go.Proofs.YtnpcgejfkonfdabGreatDoor.D

-- OA
set_option linter.unusedVariables false
set_option linter.unusedSimpArgs false
set_option maxHeartbeats 16000000
namespace Go.Proofs.YtnpcgejfkonfdabGreatDoor.D
open Go Go.PM Go.Lib

def actU (rs : List Rst) (c : Int) : US := ⟨rs, 1, 5, true, none, 3, 0, c, 0⟩
theorem rs0_can : ∀ x ∈ [rs0], (-9223372036854775808 ≤ x.mode ∧ x.mode ≤ 9223372036854775807) ∧ (-9223372036854775808 ≤ x.timer ∧ x.timer ≤ 9223372036854775807) ∧ (-9223372036854775808 ≤ x.gone ∧ x.gone ≤ 9223372036854775807) := fun x hx => by
  simp at hx
  subst hx
  simp [rs0]
theorem old_none {u : US} {e c : Int} (h : u.cp = none) : ¬ OldP u e c := fun ⟨_, _, _, h', _⟩ => by rw [h] at h'; cases h'
theorem sl_rs0 : Sl 4 (.lst true 4 [[.int .i64 0, .int .i64 0, .int .i64 0, .bool false]]) ([rs0].map ivRS) := .inr ⟨true, rfl⟩
theorem active_fn (H : PT HB) (n : Nat) :
    ∃ a l H' n', K DG 29 9 [] H n 0 = some (.ptr a 0 0, H', n') ∧ n ≤ n' ∧ AsOne l ∧ UI (fun j => n ≤ j) l H' n' a (actU [rs0] 0) ∧ (n ≤ a ∧ a < n') ∧ ∀ j, j < n → H'.get j = H.get j := by
  have hz : ∀ j, n ≤ j → (fun j => n ≤ j) j := fun _ h => h
  obtain ⟨a, l, H1, n1, e1, hn1, ho, u1, ha, f1⟩ := newOne (D := 28) (.inl rfl) H n hz
  obtain ⟨g, e2⟩ := laid_bl (d := 24) (k := .int .i64 0) (f := .bool false) (b := .nils) (o := .nils) (l := .nils) (c := .nils) (E := 0) (N := 0) ⟨rfl, rfl, rfl, rfl, rfl, rfl⟩ sl_rs0 (by simp)
  have iq : INV l [rs0] := one_inv ho RsOk.idle
  have tl : (tel 0 0 [rs0]).length ≤ 100000 := by
    obtain ⟨_, _, _, h⟩ := layT_ok 0 0 (rs := [rs0]) (by simp)
    simp only [tel, teleg, List.length_append, numY_len]
    omega
  obtain ⟨v3, H3, n3, e3, hn3, u3, f3⟩ := Hear_fn (d := 16) ho.ok ho.is u1 (fun j hj => hz j (by omega)) (by show INV l (rep0 l); rw [one_rep ho]; exact iq) (w := .lst g 1 ((tel 0 0 [rs0]).map ivY)) (bs := tel 0 0 [rs0]) (.inr ⟨g, rfl⟩) tl
  have hh : hearF l (newU l) (tel 0 0 [rs0]) = ⟨[rs0], 0, 0, false, some (0, 0, [rs0]), 2, 0, 0, 0⟩ := by
    rw [hear_tel (by omega) (by omega) rs0_can (by simp) rfl (old_none rfl) iq]
    simp only [newU, one_rep ho]
  rw [hh] at u3
  obtain ⟨v4, H4, n4, e4, hn4, u4, f4⟩ := Granted_fn (d := 24) (by omega) ho.ok ho.is u3 (fun j hj => hz j (by omega)) (fun e c qs h => by cases h; exact iq) (e := 1) (k := 0) (by omega) (by simp) (by simp)
  have hg : grantF l ⟨[rs0], 0, 0, false, some (0, 0, [rs0]), 2, 0, 0, 0⟩ 1 0 = actU [rs0] 0 := by
    unfold grantF
    rw [if_neg (by simp [Wk]), if_pos (.inr rfl)]
    simp [begF, granted, noCp, actU]
  rw [hg] at u4
  obtain ⟨p, q, own, x, h4⟩ := u4
  obtain ⟨k5, e5, hk5⟩ := u_mode h4 (d := 27) (m := n4) (lo := 0)
  have e0 := layOne_bl (d := 27)
  simp only [Nat.reduceAdd] at e2 e3 e4 e5 e0
  have key : Fe (K DG (28 + 1) 9 [] H n 0) (fun v H' n' => v = .ptr a 0 0 ∧ H' = H4 ∧ n4 ≤ n') := by
    generalize (tel 0 0 [rs0]).map ivY = es at *
    rw [D.k9]
    refine fn_dw rfl ?_
    simp [e0, e1, e2, e3, e4, e5, actU, evParts, evParts2, lay, unImms, unImm, mapO, rowsN, imms, B6, undT, fnEnd, argsT, PT.get_put, keep, opRun, ev, evs, evO, give, giveI, binOf, isNilK, PM.flip, putT, putL, putH, loadOf, storeOf, cut, over, ofCells, asNat, natOr, calm, clashes, Acc.clash, ressOf, resOf, frz, frz.frzs, DV.flat, DV.flat.flats, imms]
    exact hk5
  obtain ⟨v, H', n', e, rfl, rfl, hn'⟩ := key
  exact ⟨a, l, _, n', e, by omega, ho, ⟨p, q, own, x, h4.mono hn' (fun _ _ h => h) (fun _ _ _ => rfl)⟩, by omega, fun j hj => by
    have hzj : ¬ n ≤ j := by omega
    rw [f4 j (by omega) hzj, f3 j (by omega) hzj, f1 j hj]⟩
end Go.Proofs.YtnpcgejfkonfdabGreatDoor.D

-- PUnitOther
set_option linter.unusedVariables false
set_option linter.unusedSimpArgs false
set_option maxHeartbeats 16000000
namespace Go.Proofs.YtnpcgejfkonfdabGreatDoor.D
open Go Go.PM Go.Lib

theorem in_free : InOk (.lst true 1 [[.bool false]]) .nils [false] [] := ⟨.inr ⟨true, rfl⟩, .inl ⟨rfl, rfl⟩, by have := rb3; simp; omega, by simp⟩
theorem incC_lt {c : Int} (h : c < 9223372036854775807) : incC c = c + 1 := if_pos h
/-- a cycle of one that is active, whatever it does -/
theorem cyc_act {l : Lo} (h : AsOne l) {rs : List Rst} (inv : INV l rs) {c : Int} (hc : c < 1000000) (os : List Bool) (ls : List Int) (cs : List (Int × Int)) :
    ∃ rs', INV l rs' ∧ (cycleF l (actU rs c) os ls true cs).1 = actU rs' (c + 1) := by
  refine ⟨(cycF l (cmdsF l os ls rs cs) os ls).1, INV.cyc h.is (INV.cmds cs inv), ?_⟩
  unfold cycleF
  rw [if_pos ⟨.inl rfl, rfl, by simp [actU]⟩, if_pos (by rfl)]
  simp only [cyF, setR, setC, actU, if_true]
  rw [incC_lt (by omega)]
theorem act_same {rs : List Rst} {c : Int} {l : Lo} : grantF l (actU rs c) 1 77 = actU rs c := by
  unfold grantF
  rw [if_pos ⟨.inl rfl, rfl⟩]
  rfl
def ss_UnitOther : List (Bool × List Kd) := [(false, [.i .i64]), (false, [.i .i64])]
theorem pure_UnitOther : ∀ cs, ArgsFit ss_UnitOther cs → ∃ H' n', K (doorG 0 1) 30 6 cs .lf 0 0 = some (.imm (.bool true), H', n') := fun cs h0 => by
  obtain ⟨d0, r0, rfl, g0, h1⟩ := fit_cons h0
  obtain ⟨e, rfl, _⟩ := fit_i g0
  obtain ⟨d1, r1, rfl, g1, h2⟩ := fit_cons h1
  obtain ⟨k, rfl, _⟩ := fit_i g1
  cases fit0 (r := []) h2
  have key : Fe (K DG (29 + 1) 6 [.imm (.int .i64 e), .imm (.int .i64 k)] .lf 0 0) (fun v _ _ => v = .imm (.bool true)) := by
    rw [D.k6]
    refine fn_dw rfl ?_
    by_cases c1 : e < 2
    · simp [ilt_t c1, B6, undT, fnEnd, argsT, PT.get_put, keep, opRun, ev, evs, evO, give, giveI, binOf, isNilK, PM.flip, putT, putL, putH, loadOf, storeOf, cut, over, ofCells, asNat, natOr, calm, clashes, Acc.clash, ressOf, resOf, frz, frz.frzs, DV.flat, DV.flat.flats, imms]
    by_cases c2 : 1000 < e
    · simp [ilt_f (Int.not_lt.1 c1), ilt_t c2, B6, undT, fnEnd, argsT, PT.get_put, keep, opRun, ev, evs, evO, give, giveI, binOf, isNilK, PM.flip, putT, putL, putH, loadOf, storeOf, cut, over, ofCells, asNat, natOr, calm, clashes, Acc.clash, ressOf, resOf, frz, frz.frzs, DV.flat, DV.flat.flats, imms]
    by_cases c3 : k < 0
    · simp [ilt_f (Int.not_lt.1 c1), ilt_f (Int.not_lt.1 c2), ilt_t c3, B6, undT, fnEnd, argsT, PT.get_put, keep, opRun, ev, evs, evO, give, giveI, binOf, isNilK, PM.flip, putT, putL, putH, loadOf, storeOf, cut, over, ofCells, asNat, natOr, calm, clashes, Acc.clash, ressOf, resOf, frz, frz.frzs, DV.flat, DV.flat.flats, imms]
    by_cases c4 : 1000 < k
    · simp [ilt_f (Int.not_lt.1 c1), ilt_f (Int.not_lt.1 c2), ilt_f (Int.not_lt.1 c3), ilt_t c4, B6, undT, fnEnd, argsT, PT.get_put, keep, opRun, ev, evs, evO, give, giveI, binOf, isNilK, PM.flip, putT, putL, putH, loadOf, storeOf, cut, over, ofCells, asNat, natOr, calm, clashes, Acc.clash, ressOf, resOf, frz, frz.frzs, DV.flat, DV.flat.flats, imms]
    have i1 := ilt_f (Int.not_lt.1 c1)
    have i2 := ilt_f (Int.not_lt.1 c2)
    have i3 := ilt_f (Int.not_lt.1 c3)
    have i4 := ilt_f (Int.not_lt.1 c4)
    obtain ⟨a, l, H1, n1, e1, hn1, ho, u1, ha, f1⟩ := active_fn .lf 0
    have iv0 : INV l [rs0] := one_inv ho RsOk.idle
    have hrs : ∀ {rs : List Rst}, INV l rs → rs.length = 1 := fun h => by rw [h.ln, one_len ho]
    obtain ⟨v2, H2, n2, e2, ⟨hn2, u2, f2⟩, o2⟩ := Cycle_fnU (d := 26) (by omega) ho.ok ho.is u1 (fun j hj => by omega) iv0 (by simp [actU]) (by simp [actU]) in_free (cv := .lst true 2 [[.int .i64 1, .int .i64 0]]) (cs := [(1, 0)]) (.inr ⟨true, rfl⟩) (by have := rb3; simp; omega) true
    obtain ⟨rs2, iv2, ec2⟩ := cyc_act ho iv0 (c := 0) (by omega) [false] [] [(1, 0)]
    rw [ec2] at u2
    obtain ⟨y1, y2, rfl, oy1, oy2⟩ := o2
    have s1 := oy1.scal
    have s2 := oy2.scal
    obtain ⟨v3, H3, n3, e3, hn3, u3, f3⟩ := Granted_fn (d := 25) (by omega) ho.ok ho.is u2 (fun j hj => by omega) (fun e c qs h => by cases h) (e := 1) (k := 77) (by omega) (by simp [actU]) (by simp [actU])
    rw [act_same] at u3
    have u3' := u3
    obtain ⟨p, q, own, x, h3⟩ := u3
    obtain ⟨k4, e4, hk4⟩ := u_mode h3 (d := 28) (m := n3) (lo := 0)
    obtain ⟨k5, e5, hk5⟩ := u_count h3 (d := 28) (m := k4) (lo := 0)
    obtain ⟨w6, k6, e6, hk6, hw6⟩ := Send_ro h3 (by rw [show (actU rs2 (0 + 1)).rs = rs2 from rfl, hrs iv2]; omega) (d := 23) (m := k5) (lo := 0) (by omega)
    have sl6 : ∃ m : Nat, lenOf (.imm w6) = some (m + 1) ∧ (DV.imm w6).scal = true := by
      have h9 := hw6.len
      have hne : sendF (actU rs2 (0 + 1)) ≠ [] := by
        unfold sendF
        rw [if_pos (by rfl)]
        exact teleg_ne _
      have := List.length_pos_iff.2 hne
      exact ⟨(sendF (actU rs2 (0 + 1))).length - 1, by rw [h9, List.length_map]; congr 1 <;> omega, hw6.scal⟩
    obtain ⟨m6, l6, s6⟩ := sl6
    have i6 : ILt 0 ((m6 : Int) + 1) = True := ilt_t (by omega)
    obtain ⟨v7, H7, n7, e7, hn7, u7, f7⟩ := Granted_fn (d := 25) (n := k6) (by omega) ho.ok ho.is (u3'.mono (by omega) (fun _ _ h => h) (fun _ _ _ => rfl)) (fun j hj => by omega) (fun e c qs h => by cases h) (e := e) (k := k) (by omega) (by simp [actU]) (by simp [actU])
    have hg : grantF l (actU rs2 (0 + 1)) e k = ⟨[rs0], e, 5, true, none, 4, 0, k, 10⟩ := by
      unfold grantF
      rw [if_neg (by simp [actU]; omega), if_pos (.inl (.inl rfl))]
      simp [begF, granted, noCp, actU, one_rep ho]
    rw [hg] at u7
    obtain ⟨p7, q7, own7, x7, h7⟩ := u7
    obtain ⟨k8, e8, hk8⟩ := u_mode h7 (d := 28) (m := n7) (lo := 0)
    obtain ⟨k9, e9, hk9⟩ := u_count h7 (d := 28) (m := k8) (lo := 0)
    obtain ⟨w10, k10, e10, hk10, hw10⟩ := Send_ro h7 (by simp) (d := 23) (m := k9) (lo := 0) (by omega)
    have hw10' : lenOf (.imm w10) = some 0 ∧ (DV.imm w10).scal = true := ⟨hw10.len, hw10.scal⟩
    obtain ⟨w11, k11, e11, hk11, hw11⟩ := u_routes h7 (by simp) (d := 28) (m := k10) (lo := 0) (by omega)
    have e12 := Same_same (D := 29) (by omega) hw11 sl_rs0 (by have := rb3; simp; omega)
    have e13 := known_bl
    have e14 := free_bl (d := 28)
    have s11 := hw11.scal
    simp only [Nat.reduceAdd] at e1 e2 e3 e4 e5 e6 e7 e8 e9 e10 e11 e12 e13 e14
    simp only [actU] at e4 e5
    simp [i1, i2, i3, i4, e1, e14, e2, s1.1, s1.2, s2.1, s2.2, e3, e4, e5, e6, l6, s6, i6, e7, e8, e9, e10, hw10'.1, hw10'.2, e11, s11, e12, e13, evParts, evParts2, lay, unImms, unImm, mapO, rowsN, imms, B6, undT, fnEnd, argsT, PT.get_put, keep, opRun, ev, evs, evO, give, giveI, binOf, isNilK, PM.flip, putT, putL, putH, loadOf, storeOf, cut, over, ofCells, asNat, natOr, calm, clashes, Acc.clash, ressOf, resOf, frz, frz.frzs, DV.flat, DV.flat.flats, imms]
  obtain ⟨v, H', n', e, rfl⟩ := key
  exact ⟨H', n', e⟩
end Go.Proofs.YtnpcgejfkonfdabGreatDoor.D
