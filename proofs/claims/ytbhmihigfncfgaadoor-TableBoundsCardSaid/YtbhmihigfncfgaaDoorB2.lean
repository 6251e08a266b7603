/-
  TableBounds: the routes that it builds. Over D.
-/
import Derived.Test.YtbhmihigfncfgaaDoorB3
set_option linter.unusedVariables false
set_option linter.unusedSimpArgs false
set_option maxHeartbeats 16000000
namespace Go.Proofs.YtbhmihigfncfgaaDoor.D
open Go Go.PM Go.Lib
/-- A row of the heap, from a place on. -/
def AtL (sz : Nat) (x : DV) (H : PT HB) (n lo : Nat) (rows : List (List IV)) : Prop := AtS sz x H n rows ∧ ∀ id r l c, x = .sl id r l c → lo ≤ id
def rtRow (i : Nat) (q : DV) : List DV := [.imm (.str (nmb 100 i)), .imm (.int .i64 0), .imm (.int .i64 1), .imm (.lst true 1 [[.int .i64 0]]), q, .imm .nils]
/-- The needs of a route so far. -/
structure I4 (S G P R k : Nat) (vs : List DV) (H1 : PT HB) (n1 i : Nat) (st : St) : Prop where
  ag : Ag S G P R st
  h13 : st.T.get 13 = some (.imm (.int .i64 k))
  h15 : st.T.get 15 = some (.imm (.int .i64 i))
  b9 : Bx st 9 vs
  b : ∃ qv, Bx st 14 (rtRow k qv) ∧ AtL 2 qv st.H st.n n1 (ndR i)
  fr : ∀ j, j < n1 → st.H.get j = H1.get j
  hn : n1 ≤ st.n
theorem loop4 {d : Nat} {S G P R k : Nat} {vs : List DV} {H1 : PT HB} {n1 : Nat} (hP : P ≤ 15) {ks : List Kf} {st : St} {Q : Ex → St → Prop} (h : I4 S G P R k vs H1 n1 0 st)
    (hk : ∀ st', I4 S G P R k vs H1 n1 P st' → Bk DG (K DG d) 0 (.exit 8) ks st' Q) : Wp DG (K DG d) 0 D.l9_4 ks st Q := by
  have hrb := rb3
  refine dw_loop (N := P) (small (by omega)) (I4 S G P R k vs H1 n1) (fun e st' => e = .exit 8 ∧ I4 S G P R k vs H1 n1 P st') (fun i st hle hI => ?_) h (fun e s' h => by rw [h.1]; exact hk s' h.2)
  obtain ⟨⟨h0, h1, h2, h3⟩, h13, h15, ⟨i9, h9, L9⟩, ⟨qv, ⟨i14, h14, L14⟩, ⟨hq, hlo⟩⟩, fr, hn⟩ := hI
  by_cases hi : i < P
  · have hi1 : (i : Int) < P := by omega
    have hi' := ilt_t hi1
    have hw8 : IntKind.i64.wrap ((i : Int) + 1) = (i : Int) + 1 := wr_succ hi (by omega)
    obtain ⟨hw, acc, p1, p2, p3⟩ := app_row3 (bytes := 16) hq (by omega) (by simp [ndR]; omega) (by omega) (ivN ⟨(i : Int), false⟩)
    have hlen : (ndR i).length = i := by simp [ndR]
    rw [hlen] at p1 p2
    simp only [ivN] at p1
    simp only [rtRow] at L14
    have fr2 : ∀ j, j < n1 → (putH st.H hw).get j = H1.get j := fun j hj => by
      rw [p3 j (by omega) fun id r l c e => by have := hlo id r l c e; omega]
      exact fr j hj
    generalize hQ : (fun (e : Ex) (s' : St) => _) = Q'
    simp only [D.l9_4b]
    simp [h0, h1, h2, h3, h13, h15, h9, L9, h14, L14, hi', hw8, p1, hq.sc.1, unImms, unImm, mapO, rowsN, evParts2, evParts, lay, imms, B6, undT, fnEnd, argsT, PT.get_put, keep, opRun, ev, evs, evO, give, giveI, binOf, isNilK, PM.flip, putT, putL, putH, loadOf, storeOf, cut, over, ofCells, asNat, natOr, calm, clashes, Acc.clash, ressOf, resOf, frz, frz.frzs, DV.flat, DV.flat.flats, imms]
    subst hQ
    refine .inl ⟨rfl, hi, ⟨⟨by simp [PT.get_put], by simp [PT.get_put], by simp [PT.get_put], by simp [PT.get_put]⟩, by simp [PT.get_put], by simp [PT.get_put], ⟨i9, by simp [PT.get_put], by simp [PT.get_put]⟩, ⟨.sl st.n 0 (i + 1) (i + 1), ⟨i14, by simp [PT.get_put], by simp [PT.get_put, rtRow]⟩, ⟨?_, fun id r l c e => by cases e; exact hn⟩⟩, fr2, by simp; omega⟩⟩
    unfold ndR at p2 ⊢
    rw [rng_succ]
    exact p2
  · obtain rfl : i = P := by omega
    generalize hQ : (fun (e : Ex) (s' : St) => _) = Q'
    simp only [D.l9_4b]
    simp [h0, h1, h2, h3, h13, h15, h9, L9, h14, L14, B6, undT, fnEnd, argsT, PT.get_put, keep, opRun, ev, evs, evO, give, giveI, binOf, isNilK, PM.flip, putT, putL, putH, loadOf, storeOf, cut, over, ofCells, asNat, natOr, calm, clashes, Acc.clash, ressOf, resOf, frz, frz.frzs, DV.flat, DV.flat.flats, imms]
    subst hQ
    exact .inr ⟨nofun, rfl, ⟨by simp [PT.get_put, h0], by simp [PT.get_put, h1], by simp [PT.get_put, h2], by simp [PT.get_put, h3]⟩, by simp [PT.get_put, h13], by simp [PT.get_put, h15], ⟨i9, by simp [PT.get_put, h9], by simp [PT.get_put, L9]⟩, ⟨qv, ⟨i14, by simp [PT.get_put, h14], by simp [PT.get_put, L14]⟩, ⟨hq, hlo⟩⟩, fr, hn⟩
/-- The routes so far. -/
def RtAt (H : PT HB) (n k P : Nat) (rv : DV) : Prop := ∃ qs : Nat → DV, ((rv = .imm .nils ∧ k = 0) ∨ ∃ id, id < n ∧ rv = .sl id 0 k k ∧ 0 < k ∧ H.get id = some ⟨6, (List.range k).map fun i => rtRow i (qs i)⟩) ∧ ∀ i, i < k → AtS 2 (qs i) H n (ndR P) ∧ DJ (qs i) rv
theorem RtAt.sc {H : PT HB} {n k P : Nat} {rv : DV} (h : RtAt H n k P rv) : rv.scal = true := by
  obtain ⟨_, h | ⟨_, _, rfl, _⟩, _⟩ := h
  · rw [h.1]; rfl
  · rfl
theorem RtAt.mono {H H' : PT HB} {n n' k P : Nat} {rv : DV} (h : RtAt H n k P rv) (hn : n ≤ n') (hf : ∀ j, j < n → H'.get j = H.get j) : RtAt H' n' k P rv := by
  obtain ⟨qs, h1, h2⟩ := h
  refine ⟨qs, ?_, fun i hi => ⟨(h2 i hi).1.pres hn (DJ.nil) fun j hj _ => hf j hj, (h2 i hi).2⟩⟩
  rcases h1 with h1 | ⟨id, a, b, c, e⟩
  · exact .inl h1
  · exact .inr ⟨id, by omega, b, c, by rw [hf id a]; exact e⟩
/-- A route more: of a row that lies in the heap, or is a value. -/
theorem RtAt.app {H : PT HB} {n k P n0 : Nat} {rv qv b : DV} {src : Option Nat} (h : RtAt H n0 k P rv) (h0 : n0 ≤ n) (hk : k ≤ 100) (hq : AtS 2 qv H n (ndR P)) (hlo : ∀ id r l c, qv = .sl id r l c → n0 ≤ id) (hs : srcOf H.get b = some (src, 6, [rtRow k qv])) (hsr : ∀ id, src = some id → n0 ≤ id) :
    ∃ hw acc, appOf H.get n 0 6 104 rv b = some { v := .sl n 0 (k + 1) (k + 1), hw := hw, n' := n + 1, acc := acc } ∧ RtAt (putH H hw) (n + 1) (k + 1) P (.sl n 0 (k + 1) (k + 1)) ∧
      ∀ j, j < n → (∀ id r l c, rv = .sl id r l c → j ≠ id) → (putH H hw).get j = H.get j := by
  obtain ⟨qs, h1, h2⟩ := h
  have a0 : 1 ≤ appMax := by unfold appMax; omega
  have a00 : 104 ≤ appMax := by unfold appMax; omega
  have a1 : ¬ k + 1 ≤ k := by omega
  have a2 : k + 1 ≤ appMax := by unfold appMax; omega
  have a3 : (k + 1) * 104 ≤ appMax := by unfold appMax; omega
  have hrow : (List.range (k + 1)).map (fun i => rtRow i (if i < k then qs i else qv)) = ((List.range k).map fun i => rtRow i (qs i)) ++ [rtRow k qv] := by
    rw [rng_succ]
    congr 1
    · refine List.map_congr_left fun i hi => ?_
      rw [if_pos (List.mem_range.1 hi)]
    · rw [if_neg (by omega)]
  have dq : ∀ (H' : PT HB), (∀ j, j < n → (∀ id r l c, rv = .sl id r l c → j ≠ id) → H'.get j = H.get j) → ∀ i, i < k + 1 → AtS 2 (if i < k then qs i else qv) H' (n + 1) (ndR P) ∧ DJ (if i < k then qs i else qv) (.sl n 0 (k + 1) (k + 1)) := fun H' hf i hi => by
    by_cases hik : i < k
    · rw [if_pos hik]
      have hA := (h2 i hik).1
      have hA2 : AtS 2 (qs i) H n (ndR P) := hA.mono h0
      exact ⟨hA2.pres (Nat.le_succ _) (h2 i hik).2 hf, hA2.dj (Nat.le_refl _)⟩
    · rw [if_neg hik]
      refine ⟨hq.pres (Nat.le_succ _) ?_ hf, hq.dj (Nat.le_refl _)⟩
      intro id r l c id' r' l' c' e1 e2
      have := hlo id r l c e1
      rcases h1 with ⟨e, _⟩ | ⟨id2, b1, b2, _⟩
      · rw [e] at e2; cases e2
      · rw [b2] at e2; cases e2; omega
  rcases h1 with ⟨rfl, rfl⟩ | ⟨id, b1, rfl, b3, b4⟩
  · refine ⟨[(n, some ⟨6, [rtRow 0 qv]⟩)], .wX n :: raccOf src, by simp [appOf, hs, a0, a00], ⟨fun i => if i < 0 then qs i else qv, .inr ⟨n, by omega, rfl, by omega, ?_⟩, dq _ fun j hj _ => ?_⟩, fun j hj _ => ?_⟩
    · rw [hrow]; simp [putH, PT.get_put]
    · have : ¬ j = n := by omega
      simp [putH, PT.get_put, this]
    · have : ¬ j = n := by omega
      simp [putH, PT.get_put, this]
  · have hne : ¬ src = some id := fun e => by have := hsr id e; omega
    refine ⟨[(id, none), (n, some ⟨6, ((List.range k).map fun i => rtRow i (qs i)) ++ [rtRow k qv]⟩)], .wX id :: .wX n :: raccOf src, by simp [appOf, hs, b4, hne, a1, a2, a3], ⟨fun i => if i < k then qs i else qv, .inr ⟨n, by omega, rfl, by omega, ?_⟩, dq _ fun j hj hx => ?_⟩, fun j hj hx => ?_⟩
    · rw [hrow]; simp [putH, PT.get_put]
    · have e1 : ¬ j = n := by omega
      have e2 : ¬ j = id := hx _ _ _ _ rfl
      simp [putH, PT.get_put, e1, e2]
    · have e1 : ¬ j = n := by omega
      have e2 : ¬ j = id := hx _ _ _ _ rfl
      simp [putH, PT.get_put, e1, e2]
structure I3 (S G P R i : Nat) (st : St) : Prop where
  ag : Ag S G P R st
  h13 : st.T.get 13 = some (.imm (.int .i64 i))
  b : ∃ sv pv gv rv, Bx st 9 [sv, pv, gv, rv] ∧ AtS 1 sv st.H st.n (secR S) ∧ AtS 2 pv st.H st.n (ptR P) ∧ AtS 1 gv st.H st.n (sigR G) ∧ RtAt st.H st.n i P rv ∧ DJ sv rv ∧ DJ pv rv ∧ DJ gv rv
theorem loop3 {d : Nat} {S G P R : Nat} (hP : P ≤ 15) (hR : R ≤ 15) {ks : List Kf} {st : St} {Q : Ex → St → Prop} (h : I3 S G P R 0 st)
    (hk : ∀ st', I3 S G P R R st' → Bk DG (K DG d) 0 (.exit 6) ks st' Q) : Wp DG (K DG d) 0 D.l9_3 ks st Q := by
  have hrb := rb3
  refine dw_loop (N := R) (small (by omega)) (I3 S G P R) (fun e st' => e = .exit 6 ∧ I3 S G P R R st') (fun i st hle hI => ?_) h (fun e s' h => by rw [h.1]; exact hk s' h.2)
  obtain ⟨⟨h0, h1, h2, h3⟩, h13, sv, pv, gv, rv, ⟨i9, h9, L9⟩, hs, hp, hg, hr, d1, d2, d3⟩ := hI
  by_cases hi : i < R
  · have hi1 : (i : Int) < R := by omega
    have hi' := ilt_t hi1
    have hw8 : IntKind.i64.wrap ((i : Int) + 1) = (i : Int) + 1 := wr_succ hi (by omega)
    have hwa : IntKind.i64.wrap (97 + (i : Int)) = 97 + (i : Int) := wr_id (by omega) (by omega)
    have hwu := u8_of (show i ≤ 15 by omega)
    have hn0 : 0 ≤ 97 + (i : Int) := by omega
    have hn1 : 97 + (i : Int) < 256 := by omega
    have ht : (97 + (i : Int)).toNat = 97 + i := by omega
    have rsc := hr.sc
    generalize hQ : (fun (e : Ex) (s' : St) => _) = Q'
    simp only [D.l9_3b]
    simp [h0, h1, h2, h3, h13, h9, L9, hi', hwa, hwu, hn0, hn1, ht, Go.PM.bytesOf, Go.PM.byteOf, rowsOf, unImms, unImm, mapO, rowsN, evParts2, evParts, lay, imms, raccOf, B6, undT, fnEnd, argsT, PT.get_put, keep, opRun, ev, evs, evO, give, giveI, binOf, isNilK, PM.flip, putT, putL, putH, loadOf, storeOf, cut, over, ofCells, asNat, natOr, calm, clashes, Acc.clash, ressOf, resOf, frz, frz.frzs, DV.flat, DV.flat.flats, imms]
    refine loop4 (S := S) (G := G) (P := P) (R := R) (k := i) (vs := [sv, pv, gv, rv]) (H1 := st.H) (n1 := st.n) hP ⟨⟨by simp [PT.get_put], by simp [PT.get_put], by simp [PT.get_put], by simp [PT.get_put]⟩, by simp [PT.get_put], by simp [PT.get_put], ⟨i9, by simp [PT.get_put], by simp [PT.get_put]⟩, ⟨.imm .nils, ⟨st.n, by simp [PT.get_put], by simp [PT.get_put, rtRow, nmb]⟩, ⟨.inl ⟨rfl, rfl⟩, fun _ _ _ _ e => by cases e⟩⟩, fun j hj => rfl, by simp⟩ ?_
    rintro s2 ⟨⟨f0, f1, f2, f3⟩, f13, f15, ⟨j9, f9, M9⟩, ⟨qv, ⟨j14, f14, M14⟩, ⟨hq, hlo⟩⟩, fr, fn⟩
    have hs2 : AtS 1 sv s2.H st.n (secR S) := hs.pres (Nat.le_refl _) DJ.nil fun j hj _ => fr j hj
    have hp2 : AtS 2 pv s2.H st.n (ptR P) := hp.pres (Nat.le_refl _) DJ.nil fun j hj _ => fr j hj
    have hg2 : AtS 1 gv s2.H st.n (sigR G) := hg.pres (Nat.le_refl _) DJ.nil fun j hj _ => fr j hj
    have hr2 : RtAt s2.H st.n i P rv := hr.mono (Nat.le_refl _) fr
    simp only [rtRow] at M14
    -- what is behind the last region
    have fin : ∀ (s3 : St) (H3 : PT HB) (n3 n4 : Nat) (x : DV), Ag S G P R s3 → s3.T.get 13 = some (.imm (.int .i64 ((i + 1 : Nat) : Int))) → Bx s3 9 [sv, pv, gv, x] → s3.H = H3 → s3.n = n4 → n3 + 1 = n4 → st.n ≤ n3 → x = .sl n3 0 (i + 1) (i + 1) → RtAt H3 n4 (i + 1) P x → (∀ j, j < st.n → (∀ id r l c, rv = .sl id r l c → j ≠ id) → H3.get j = s2.H.get j) → I3 S G P R (i + 1) s3 := by
      intro s3 H3 n3 n4 x a1 a2 a3 a4 a5 a6 a7 a8 a9 a10
      subst a8
      refine ⟨a1, a2, sv, pv, gv, _, a3, ?_, ?_, ?_, by rw [a4, a5]; exact a9, hs2.dj a7, hp2.dj a7, hg2.dj a7⟩
      · rw [a4, a5]; exact hs2.pres (by omega) d1 a10
      · rw [a4, a5]; exact hp2.pres (by omega) d2 a10
      · rw [a4, a5]; exact hg2.pres (by omega) d3 a10
    rcases hq with ⟨rfl, hq0⟩ | ⟨iq, q1, rfl, q3⟩
    · have hrow : rtRow i (.imm .nils) = imms [.str (nmb 100 i), .int .i64 0, .int .i64 1, .lst true 1 [[.int .i64 0]], .nils, .nils] := rfl
      obtain ⟨hw, acc, p1, p2, p3⟩ := RtAt.app (n := s2.n) (b := .imm (.lst true 6 [[.str (nmb 100 i), .int .i64 0, .int .i64 1, .lst true 1 [[.int .i64 0]], .nils, .nils]])) (src := none) (qv := .imm .nils) hr2 fn (by omega) (.inl ⟨rfl, hq0⟩) (fun _ _ _ _ e => by cases e) (by simp [srcOf, rowsOf, hrow]) (fun _ e => by cases e)
      simp [f0, f1, f2, f3, f13, f15, f9, M9, f14, M14, hw8, p1, rsc, unImms, unImm, mapO, rowsN, evParts2, evParts, lay, imms, B6, undT, fnEnd, argsT, PT.get_put, keep, opRun, ev, evs, evO, give, giveI, binOf, isNilK, PM.flip, putT, putL, putH, loadOf, storeOf, cut, over, ofCells, asNat, natOr, calm, clashes, Acc.clash, ressOf, resOf, frz, frz.frzs, DV.flat, DV.flat.flats, imms]
      subst hQ
      exact .inl ⟨rfl, hi, fin _ _ s2.n (s2.n + 1) _ ⟨by simp [PT.get_put, f0], by simp [PT.get_put, f1], by simp [PT.get_put, f2], by simp [PT.get_put, f3]⟩ (by simp [PT.get_put]) ⟨j9, by simp [PT.get_put, f9], by simp [PT.get_put]⟩ rfl rfl rfl fn rfl p2 fun j hj hx => p3 j (by omega) hx⟩
    · have hlq := hlo _ _ _ _ rfl
      have hq2 : AtS 2 (.sl iq 0 (ndR P).length (ndR P).length) (s2.H.put s2.n (some ⟨6, [rtRow i (.sl iq 0 (ndR P).length (ndR P).length)]⟩)) (s2.n + 1) (ndR P) := .inr ⟨iq, by omega, rfl, by
        have : ¬ iq = s2.n := by omega
        simp [PT.get_put, this, q3]⟩
      have hr3 : RtAt (s2.H.put s2.n (some ⟨6, [rtRow i (.sl iq 0 (ndR P).length (ndR P).length)]⟩)) st.n i P rv := hr2.mono (Nat.le_refl _) fun j hj => by
        have : ¬ j = s2.n := by omega
        simp [PT.get_put, this]
      obtain ⟨hw, acc, p1, p2, p3⟩ := RtAt.app (n := s2.n + 1) (b := .sl s2.n 0 1 1) (src := some s2.n) hr3 (by omega) (by omega) hq2 (fun _ _ _ _ e => by cases e; exact hlq) (by simp [srcOf, rowsOf, PT.get_put]) (fun _ e => by cases e; exact fn)
      simp only [rtRow] at p1 p2 p3
      simp [f0, f1, f2, f3, f13, f15, f9, M9, f14, M14, hw8, p1, rsc, unImms, unImm, mapO, rowsN, evParts2, evParts, lay, imms, B6, undT, fnEnd, argsT, PT.get_put, keep, opRun, ev, evs, evO, give, giveI, binOf, isNilK, PM.flip, putT, putL, putH, loadOf, storeOf, cut, over, ofCells, asNat, natOr, calm, clashes, Acc.clash, ressOf, resOf, frz, frz.frzs, DV.flat, DV.flat.flats, imms]
      subst hQ
      exact .inl ⟨rfl, hi, fin _ _ (s2.n + 1) (s2.n + 2) _ ⟨by simp [PT.get_put, f0], by simp [PT.get_put, f1], by simp [PT.get_put, f2], by simp [PT.get_put, f3]⟩ (by simp [PT.get_put]) ⟨j9, by simp [PT.get_put, f9], by simp [PT.get_put]⟩ rfl rfl rfl (by omega) rfl p2 fun j hj hx => by
        rw [p3 j (by omega) hx]
        have : ¬ j = s2.n := by omega
        simp [PT.get_put, this]⟩
  · obtain rfl : i = R := by omega
    generalize hQ : (fun (e : Ex) (s' : St) => _) = Q'
    simp only [D.l9_3b]
    simp [h0, h1, h2, h3, h13, h9, L9, B6, undT, fnEnd, argsT, PT.get_put, keep, opRun, ev, evs, evO, give, giveI, binOf, isNilK, PM.flip, putT, putL, putH, loadOf, storeOf, cut, over, ofCells, asNat, natOr, calm, clashes, Acc.clash, ressOf, resOf, frz, frz.frzs, DV.flat, DV.flat.flats, imms]
    subst hQ
    exact .inr ⟨nofun, rfl, ⟨by simp [PT.get_put, h0], by simp [PT.get_put, h1], by simp [PT.get_put, h2], by simp [PT.get_put, h3]⟩, by simp [PT.get_put, h13], sv, pv, gv, rv, ⟨i9, by simp [PT.get_put, h9], by simp [PT.get_put, L9]⟩, hs, hp, hg, hr, d1, d2, d3⟩
end Go.Proofs.YtbhmihigfncfgaaDoor.D
