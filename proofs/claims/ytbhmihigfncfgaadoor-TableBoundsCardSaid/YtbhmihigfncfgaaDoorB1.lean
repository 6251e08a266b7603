/-
  TableBounds: the layout that it builds. Over D.
-/
import Derived.Test.YtbhmihigfncfgaaDoorT4
set_option linter.unusedVariables false
set_option linter.unusedSimpArgs false
set_option maxHeartbeats 16000000
namespace Go.Proofs.YtbhmihigfncfgaaDoor.D
open Go Go.PM Go.Lib
def nmb (a i : Nat) : List UInt8 := [UInt8.ofNat a, UInt8.ofNat (97 + i)]
def needL (p : Nat) : List Need := (List.range p).map fun (k : Nat) => ⟨(k : Int), false⟩
/-- A row that grows: what else lies in the heap stays. -/
theorem app_row3 {sz bytes : Nat} {x : DV} {H : PT HB} {n : Nat} {rows : List (List IV)} (h : AtS sz x H n rows) (hs : 0 < sz) (hl : rows.length ≤ 2 ^ 30) (hb : bytes ≤ 100) (e : List IV) :
    ∃ hw acc, appOf H.get n 0 sz bytes x (.imm (.lst true sz [e])) = some { v := .sl n 0 (rows.length + 1) (rows.length + 1), hw := hw, n' := n + 1, acc := acc } ∧ AtS sz (.sl n 0 (rows.length + 1) (rows.length + 1)) (putH H hw) (n + 1) (rows ++ [e]) ∧
      ∀ j, j < n → (∀ id r l c, x = .sl id r l c → j ≠ id) → (putH H hw).get j = H.get j := by
  rcases h with ⟨rfl, rfl⟩ | ⟨id, h2, rfl, h3⟩
  · have a2 : bytes ≤ appMax := by unfold appMax; omega
    have a0 : 1 ≤ appMax := by unfold appMax; omega
    refine ⟨[(n, some ⟨sz, [imms e]⟩)], [.wX n], by simp [appOf, srcOf, rowsOf, raccOf, a0, a2, hs], .inr ⟨n, by omega, by simp, ?_⟩, fun j hj _ => ?_⟩
    · simp [putH, PT.get_put]
    · have : ¬ j = n := by omega
      simp [putH, PT.get_put, this]
  · have a1 : ¬ rows.length + 1 ≤ rows.length := by omega
    have a2 : rows.length + 1 ≤ appMax := by unfold appMax; omega
    have a3 : (rows.length + 1) * bytes ≤ appMax := by
      have := Nat.mul_le_mul (show rows.length + 1 ≤ 2 ^ 30 + 1 by omega) hb
      unfold appMax; omega
    refine ⟨[(id, none), (n, some ⟨sz, rows.map imms ++ [imms e]⟩)], _, by simp [appOf, srcOf, rowsOf, raccOf, h3, a1, a2, a3, hs]; rfl, .inr ⟨n, by omega, by simp, ?_⟩, fun j hj hx => ?_⟩
    · simp [putH, PT.get_put]
    · have e1 : ¬ j = n := by omega
      have e2 : ¬ j = id := hx _ _ _ _ rfl
      simp [putH, PT.get_put, e1, e2]
theorem AtS.pres {sz : Nat} {z x : DV} {H H' : PT HB} {n n' : Nat} {rows : List (List IV)} (h : AtS sz z H n rows) (hn : n ≤ n') (hd : DJ z x) (hf : ∀ j, j < n → (∀ id r l c, x = .sl id r l c → j ≠ id) → H'.get j = H.get j) : AtS sz z H' n' rows := by
  rcases h with h | ⟨id, h1, rfl, h3⟩
  · exact .inl h
  · exact .inr ⟨id, by omega, rfl, by rw [hf id h1 fun id' r l c e => hd _ _ _ _ _ _ _ _ rfl e]; exact h3⟩
theorem AtS.dj {sz : Nat} {z : DV} {H : PT HB} {n k a b c : Nat} {rows : List (List IV)} (h : AtS sz z H n rows) (hk : n ≤ k) : DJ z (.sl k a b c) := by
  rcases h with ⟨rfl, _⟩ | ⟨id, h1, rfl, _⟩
  · exact fun _ _ _ _ _ _ _ _ h => by cases h
  · exact fun _ _ _ _ _ _ _ _ h1 h2 => by cases h1; cases h2; omega
theorem AtS.sc {sz : Nat} {z : DV} {H : PT HB} {n : Nat} {rows : List (List IV)} (h : AtS sz z H n rows) : z.scal = true ∧ z.out = true := by
  rcases h with ⟨rfl, _⟩ | ⟨id, _, rfl, _⟩ <;> exact ⟨rfl, rfl⟩
def secR (i : Nat) : List (List IV) := (List.range i).map fun k => ivS (nmb 97 k)
def sigR (i : Nat) : List (List IV) := (List.range i).map fun k => ivS (nmb 98 k)
def ptR (i : Nat) : List (List IV) := (List.range i).map fun k => ivP ⟨nmb 99 k, 0⟩
def ndR (i : Nat) : List (List IV) := (List.range i).map fun (k : Nat) => ivN ⟨(k : Int), false⟩
theorem rng_succ {α : Type} {f : Nat → α} {i : Nat} : (List.range (i + 1)).map f = (List.range i).map f ++ [f i] := by simp [List.range_succ]
def Bx (st : St) (k : Nat) (vs : List DV) : Prop := ∃ id, st.T.get k = some (.lref k id 0) ∧ st.L.get k = some (.box id vs)
/-- The bounds among the arguments. -/
structure Ag (S G P R : Nat) (st : St) : Prop where
  h0 : st.T.get 0 = some (.imm (.int .i64 S))
  h1 : st.T.get 1 = some (.imm (.int .i64 G))
  h2 : st.T.get 2 = some (.imm (.int .i64 P))
  h3 : st.T.get 3 = some (.imm (.int .i64 R))
theorem u8_of {i : Nat} (h : i ≤ 15) : IntKind.u8.wrap (97 + (i : Int)) = 97 + (i : Int) := by
  have : IntKind.u8.wrap (97 + (i : Int)) = (97 + (i : Int)) % 256 := by
    simp [IntKind.wrap, IntKind.bits, IntKind.signed]
  rw [this]; omega
/-- The sections so far. -/
structure I0 (S G P R i : Nat) (st : St) : Prop where
  ag : Ag S G P R st
  h10 : st.T.get 10 = some (.imm (.int .i64 i))
  b : ∃ sv, Bx st 9 [sv, .imm .nils, .imm .nils, .imm .nils] ∧ AtS 1 sv st.H st.n (secR i)
theorem loop0 {d : Nat} {S G P R : Nat} (hS : S ≤ 15) {ks : List Kf} {st : St} {Q : Ex → St → Prop} (h : I0 S G P R 0 st)
    (hk : ∀ st', I0 S G P R S st' → Bk DG (K DG d) 0 (.exit 0) ks st' Q) : Wp DG (K DG d) 0 D.l9_0 ks st Q := by
  have hrb := rb3
  refine dw_loop (N := S) (small (by omega)) (I0 S G P R) (fun e st' => e = .exit 0 ∧ I0 S G P R S st') (fun i st hle hI => ?_) h (fun e s' h => by rw [h.1]; exact hk s' h.2)
  obtain ⟨⟨h0, h1, h2, h3⟩, h10, sv, ⟨i9, h9, L9⟩, hs⟩ := hI
  by_cases hi : i < S
  · have hi1 : (i : Int) < S := by omega
    have hi' := ilt_t hi1
    have hw8 : IntKind.i64.wrap ((i : Int) + 1) = (i : Int) + 1 := wr_succ hi (by omega)
    have hwa : IntKind.i64.wrap (97 + (i : Int)) = 97 + (i : Int) := wr_id (by omega) (by omega)
    have hwu := u8_of (show i ≤ 15 by omega)
    have hn0 : 0 ≤ 97 + (i : Int) := by omega
    have hn1 : 97 + (i : Int) < 256 := by omega
    have ht : (97 + (i : Int)).toNat = 97 + i := by omega
    obtain ⟨hw, acc, p1, p2, _⟩ := app_row3 (bytes := 16) hs (by omega) (by simp [secR]; omega) (by omega) (ivS (nmb 97 i))
    have hlen : (secR i).length = i := by simp [secR]
    rw [hlen] at p1 p2
    simp only [ivS] at p1
    rw [show nmb 97 i = [97, 97 + UInt8.ofNat i] by simp [nmb]] at p1
    generalize hQ : (fun (e : Ex) (s' : St) => _) = Q'
    simp only [D.l9_0b]
    simp [h0, h1, h2, h3, h10, h9, L9, hi', hw8, hwa, hwu, hn0, hn1, ht, p1, hs.sc.1, Go.PM.bytesOf, Go.PM.byteOf, rowsOf, unImms, unImm, mapO, rowsN, evParts2, evParts, lay, imms, raccOf, B6, undT, fnEnd, argsT, PT.get_put, keep, opRun, ev, evs, evO, give, giveI, binOf, isNilK, PM.flip, putT, putL, putH, loadOf, storeOf, cut, over, ofCells, asNat, natOr, calm, clashes, Acc.clash, ressOf, resOf, frz, frz.frzs, DV.flat, DV.flat.flats, imms]
    subst hQ
    refine .inl ⟨rfl, hi, ⟨⟨by simp [PT.get_put], by simp [PT.get_put], by simp [PT.get_put], by simp [PT.get_put]⟩, by simp [PT.get_put], .sl st.n 0 (i + 1) (i + 1), ⟨i9, by simp [PT.get_put], by simp [PT.get_put]⟩, ?_⟩⟩
    unfold secR at p2 ⊢
    rw [rng_succ]
    exact p2
  · obtain rfl : i = S := by omega
    generalize hQ : (fun (e : Ex) (s' : St) => _) = Q'
    simp only [D.l9_0b]
    simp [h0, h1, h2, h3, h10, h9, L9, B6, undT, fnEnd, argsT, PT.get_put, keep, opRun, ev, evs, evO, give, giveI, binOf, isNilK, PM.flip, putT, putL, putH, loadOf, storeOf, cut, over, ofCells, asNat, natOr, calm, clashes, Acc.clash, ressOf, resOf, frz, frz.frzs, DV.flat, DV.flat.flats, imms]
    subst hQ
    exact .inr ⟨nofun, rfl, ⟨by simp [PT.get_put, h0], by simp [PT.get_put, h1], by simp [PT.get_put, h2], by simp [PT.get_put, h3]⟩, by simp [PT.get_put, h10], sv, ⟨i9, by simp [PT.get_put, h9], by simp [PT.get_put, L9]⟩, hs⟩
/-- The signals so far. -/
structure I1 (S G P R i : Nat) (st : St) : Prop where
  ag : Ag S G P R st
  h11 : st.T.get 11 = some (.imm (.int .i64 i))
  b : ∃ sv gv, Bx st 9 [sv, .imm .nils, gv, .imm .nils] ∧ AtS 1 sv st.H st.n (secR S) ∧ AtS 1 gv st.H st.n (sigR i) ∧ DJ sv gv
theorem loop1 {d : Nat} {S G P R : Nat} (hG : G ≤ 15) {ks : List Kf} {st : St} {Q : Ex → St → Prop} (h : I1 S G P R 0 st)
    (hk : ∀ st', I1 S G P R G st' → Bk DG (K DG d) 0 (.exit 2) ks st' Q) : Wp DG (K DG d) 0 D.l9_1 ks st Q := by
  have hrb := rb3
  refine dw_loop (N := G) (small (by omega)) (I1 S G P R) (fun e st' => e = .exit 2 ∧ I1 S G P R G st') (fun i st hle hI => ?_) h (fun e s' h => by rw [h.1]; exact hk s' h.2)
  obtain ⟨⟨h0, h1, h2, h3⟩, h11, sv, gv, ⟨i9, h9, L9⟩, hs, hg, dj⟩ := hI
  by_cases hi : i < G
  · have hi1 : (i : Int) < G := by omega
    have hi' := ilt_t hi1
    have hw8 : IntKind.i64.wrap ((i : Int) + 1) = (i : Int) + 1 := wr_succ hi (by omega)
    have hwa : IntKind.i64.wrap (97 + (i : Int)) = 97 + (i : Int) := wr_id (by omega) (by omega)
    have hwu := u8_of (show i ≤ 15 by omega)
    have hn0 : 0 ≤ 97 + (i : Int) := by omega
    have hn1 : 97 + (i : Int) < 256 := by omega
    have ht : (97 + (i : Int)).toNat = 97 + i := by omega
    obtain ⟨hw, acc, p1, p2, p3⟩ := app_row3 (bytes := 16) hg (by omega) (by simp [sigR]; omega) (by omega) (ivS (nmb 98 i))
    have hlen : (sigR i).length = i := by simp [sigR]
    rw [hlen] at p1 p2
    simp only [ivS] at p1
    rw [show nmb 98 i = [98, 97 + UInt8.ofNat i] by simp [nmb]] at p1
    have hs2 := hs.pres (Nat.le_succ _) dj p3
    have dj2 := hs.dj (k := st.n) (a := 0) (b := i + 1) (c := i + 1) (Nat.le_refl _)
    generalize hQ : (fun (e : Ex) (s' : St) => _) = Q'
    simp only [D.l9_1b]
    simp [h0, h1, h2, h3, h11, h9, L9, hi', hw8, hwa, hwu, hn0, hn1, ht, p1, hs.sc.1, hg.sc.1, Go.PM.bytesOf, Go.PM.byteOf, rowsOf, unImms, unImm, mapO, rowsN, evParts2, evParts, lay, imms, raccOf, B6, undT, fnEnd, argsT, PT.get_put, keep, opRun, ev, evs, evO, give, giveI, binOf, isNilK, PM.flip, putT, putL, putH, loadOf, storeOf, cut, over, ofCells, asNat, natOr, calm, clashes, Acc.clash, ressOf, resOf, frz, frz.frzs, DV.flat, DV.flat.flats, imms]
    subst hQ
    refine .inl ⟨rfl, hi, ⟨⟨by simp [PT.get_put], by simp [PT.get_put], by simp [PT.get_put], by simp [PT.get_put]⟩, by simp [PT.get_put], sv, .sl st.n 0 (i + 1) (i + 1), ⟨i9, by simp [PT.get_put], by simp [PT.get_put]⟩, hs2, ?_, dj2⟩⟩
    unfold sigR at p2 ⊢
    rw [rng_succ]
    exact p2
  · obtain rfl : i = G := by omega
    generalize hQ : (fun (e : Ex) (s' : St) => _) = Q'
    simp only [D.l9_1b]
    simp [h0, h1, h2, h3, h11, h9, L9, B6, undT, fnEnd, argsT, PT.get_put, keep, opRun, ev, evs, evO, give, giveI, binOf, isNilK, PM.flip, putT, putL, putH, loadOf, storeOf, cut, over, ofCells, asNat, natOr, calm, clashes, Acc.clash, ressOf, resOf, frz, frz.frzs, DV.flat, DV.flat.flats, imms]
    subst hQ
    exact .inr ⟨nofun, rfl, ⟨by simp [PT.get_put, h0], by simp [PT.get_put, h1], by simp [PT.get_put, h2], by simp [PT.get_put, h3]⟩, by simp [PT.get_put, h11], sv, gv, ⟨i9, by simp [PT.get_put, h9], by simp [PT.get_put, L9]⟩, hs, hg, dj⟩
/-- The points so far. -/
structure I2 (S G P R i : Nat) (st : St) : Prop where
  ag : Ag S G P R st
  h12 : st.T.get 12 = some (.imm (.int .i64 i))
  b : ∃ sv pv gv, Bx st 9 [sv, pv, gv, .imm .nils] ∧ AtS 1 sv st.H st.n (secR S) ∧ AtS 2 pv st.H st.n (ptR i) ∧ AtS 1 gv st.H st.n (sigR G) ∧ DJ sv pv ∧ DJ gv pv
theorem loop2 {d : Nat} {S G P R : Nat} (hP : P ≤ 15) {ks : List Kf} {st : St} {Q : Ex → St → Prop} (h : I2 S G P R 0 st)
    (hk : ∀ st', I2 S G P R P st' → Bk DG (K DG d) 0 (.exit 4) ks st' Q) : Wp DG (K DG d) 0 D.l9_2 ks st Q := by
  have hrb := rb3
  refine dw_loop (N := P) (small (by omega)) (I2 S G P R) (fun e st' => e = .exit 4 ∧ I2 S G P R P st') (fun i st hle hI => ?_) h (fun e s' h => by rw [h.1]; exact hk s' h.2)
  obtain ⟨⟨h0, h1, h2, h3⟩, h12, sv, pv, gv, ⟨i9, h9, L9⟩, hs, hp, hg, d1, d2⟩ := hI
  by_cases hi : i < P
  · have hi1 : (i : Int) < P := by omega
    have hi' := ilt_t hi1
    have hw8 : IntKind.i64.wrap ((i : Int) + 1) = (i : Int) + 1 := wr_succ hi (by omega)
    have hwa : IntKind.i64.wrap (97 + (i : Int)) = 97 + (i : Int) := wr_id (by omega) (by omega)
    have hwu := u8_of (show i ≤ 15 by omega)
    have hn0 : 0 ≤ 97 + (i : Int) := by omega
    have hn1 : 97 + (i : Int) < 256 := by omega
    have ht : (97 + (i : Int)).toNat = 97 + i := by omega
    obtain ⟨hw, acc, p1, p2, p3⟩ := app_row3 (bytes := 24) hp (by omega) (by simp [ptR]; omega) (by omega) (ivP ⟨nmb 99 i, 0⟩)
    have hlen : (ptR i).length = i := by simp [ptR]
    rw [hlen] at p1 p2
    simp only [ivP] at p1
    rw [show nmb 99 i = [99, 97 + UInt8.ofNat i] by simp [nmb]] at p1
    have hs2 := hs.pres (Nat.le_succ _) d1 p3
    have hg2 := hg.pres (Nat.le_succ _) d2 p3
    have d1' := hs.dj (k := st.n) (a := 0) (b := i + 1) (c := i + 1) (Nat.le_refl _)
    have d2' := hg.dj (k := st.n) (a := 0) (b := i + 1) (c := i + 1) (Nat.le_refl _)
    generalize hQ : (fun (e : Ex) (s' : St) => _) = Q'
    simp only [D.l9_2b]
    simp [h0, h1, h2, h3, h12, h9, L9, hi', hw8, hwa, hwu, hn0, hn1, ht, p1, hs.sc.1, hg.sc.1, hp.sc.1, Go.PM.bytesOf, Go.PM.byteOf, rowsOf, unImms, unImm, mapO, rowsN, evParts2, evParts, lay, imms, raccOf, B6, undT, fnEnd, argsT, PT.get_put, keep, opRun, ev, evs, evO, give, giveI, binOf, isNilK, PM.flip, putT, putL, putH, loadOf, storeOf, cut, over, ofCells, asNat, natOr, calm, clashes, Acc.clash, ressOf, resOf, frz, frz.frzs, DV.flat, DV.flat.flats, imms]
    subst hQ
    refine .inl ⟨rfl, hi, ⟨⟨by simp [PT.get_put], by simp [PT.get_put], by simp [PT.get_put], by simp [PT.get_put]⟩, by simp [PT.get_put], sv, .sl st.n 0 (i + 1) (i + 1), gv, ⟨i9, by simp [PT.get_put], by simp [PT.get_put]⟩, hs2, ?_, hg2, d1', d2'⟩⟩
    unfold ptR at p2 ⊢
    rw [rng_succ]
    exact p2
  · obtain rfl : i = P := by omega
    generalize hQ : (fun (e : Ex) (s' : St) => _) = Q'
    simp only [D.l9_2b]
    simp [h0, h1, h2, h3, h12, h9, L9, B6, undT, fnEnd, argsT, PT.get_put, keep, opRun, ev, evs, evO, give, giveI, binOf, isNilK, PM.flip, putT, putL, putH, loadOf, storeOf, cut, over, ofCells, asNat, natOr, calm, clashes, Acc.clash, ressOf, resOf, frz, frz.frzs, DV.flat, DV.flat.flats, imms]
    subst hQ
    exact .inr ⟨nofun, rfl, ⟨by simp [PT.get_put, h0], by simp [PT.get_put, h1], by simp [PT.get_put, h2], by simp [PT.get_put, h3]⟩, by simp [PT.get_put, h12], sv, pv, gv, ⟨i9, by simp [PT.get_put, h9], by simp [PT.get_put, L9]⟩, hs, hp, hg, d1, d2⟩
end Go.Proofs.YtbhmihigfncfgaaDoor.D
