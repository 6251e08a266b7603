/-
  LinkPlays over D: both links, act by act.
-/
import Derived.Test.YtldinlipajjmoaaPl2
set_option linter.unusedVariables false
set_option linter.unusedSimpArgs false
set_option maxHeartbeats 16000000
namespace Go.Proofs.Ytldinlipajjmoaa.D
open Go Go.PM

/-- A link: four cells, labelled from k on. -/
def Lk (H : PT HB) (n : Nat) (ow : Nat → Nat) (p k : Nat) (b0 b1 b2 b3 : List UInt8) : Prop :=
  ∃ v0 v1 v2 v3, H.get p = some ⟨4, [[v0, v1, v2, v3]]⟩ ∧ Cl H n ow k v0 b0 ∧ Cl H n ow (k + 1) v1 b1 ∧ Cl H n ow (k + 2) v2 b2 ∧ Cl H n ow (k + 3) v3 b3
/-- What is not this link's stays. -/
def Fr (H : PT HB) (n : Nat) (ow : Nat → Nat) (H' : PT HB) (n' : Nat) (ow' : Nat → Nat) (p k : Nat) : Prop :=
  n ≤ n' ∧ (∀ j, j < 2 → ow' j = ow j) ∧ (∀ j, j < 2 → j ≠ p → H'.get j = H.get j) ∧ ∀ j, 2 ≤ j → j < n → (ow j < k ∨ k + 4 ≤ ow j) → H'.get j = H.get j ∧ ow' j = ow j
theorem Lk.mono {H H' : PT HB} {n n' : Nat} {ow ow' : Nat → Nat} {p k q l : Nat} {b0 b1 b2 b3 : List UInt8} (h : Lk H n ow p k b0 b1 b2 b3) (hf : Fr H n ow H' n' ow' q l) (hp : p < 2) (hpq : p ≠ q) (hkl : k + 4 ≤ l ∨ l + 4 ≤ k) : Lk H' n' ow' p k b0 b1 b2 b3 := by
  obtain ⟨v0, v1, v2, v3, h0, c0, c1, c2, c3⟩ := h
  obtain ⟨f1, f2, f3, f4⟩ := hf
  refine ⟨v0, v1, v2, v3, by rw [f3 p hp hpq]; exact h0, c0.mono ?_ f1, c1.mono ?_ f1, c2.mono ?_ f1, c3.mono ?_ f1⟩ <;> exact fun j a b c => ⟨(f4 j a b (by omega)).1, by rw [(f4 j a b (by omega)).2, c]⟩

def snt (u v : Int) (bs b : List UInt8) : List UInt8 := if u = v ∧ bs ≠ [] then bs else b
theorem side_send {d F p k n : Nat} {u : Int} {b : DV} {bs b0 b1 b2 b3 : List UInt8} {H : PT HB} {ow : Nat → Nat} (h : Lk H n ow p k b0 b1 b2 b3) (hp : p < 2) (h2 : 2 ≤ n) (hk : 0 < k)
    (q0 : ∀ v0 v1 v2 v3, H.get p = some ⟨4, [[v0, v1, v2, v3]]⟩ → bs ≠ [] → K noG d F [.ptr p 0 0, .imm (.int .i64 0), b] H n 0 = some (.tup [], (H.put n (some ⟨1, bs.map rowB⟩)).put p (some ⟨4, [[.sl n 0 bs.length bs.length, v1, v2, v3]]⟩), n + 1))
    (q1 : ∀ v0 v1 v2 v3, H.get p = some ⟨4, [[v0, v1, v2, v3]]⟩ → bs ≠ [] → K noG d F [.ptr p 0 0, .imm (.int .i64 1), b] H n 0 = some (.tup [], (H.put n (some ⟨1, bs.map rowB⟩)).put p (some ⟨4, [[v0, .sl n 0 bs.length bs.length, v2, v3]]⟩), n + 1))
    (qn : bs = [] ∨ ¬ (0 ≤ u ∧ u < 2) → K noG d F [.ptr p 0 0, .imm (.int .i64 u), b] H n 0 = some (.tup [], H, n)) :
    ∃ H' n' ow', K noG d F [.ptr p 0 0, .imm (.int .i64 u), b] H n 0 = some (.tup [], H', n') ∧ Lk H' n' ow' p k (snt u 0 bs b0) (snt u 1 bs b1) b2 b3 ∧ Fr H n ow H' n' ow' p k := by
  by_cases hb : bs = []
  · refine ⟨H, n, ow, qn (.inl hb), ?_, Nat.le_refl _, fun _ _ => rfl, fun _ _ _ => rfl, fun _ _ _ _ => ⟨rfl, rfl⟩⟩
    simpa [snt, hb] using h
  obtain ⟨v0, v1, v2, v3, h0, c0, c1, c2, c3⟩ := h
  by_cases u0 : u = 0
  · subst u0
    refine ⟨_, _, fun j => if j < 2 then ow j else if j = n then k else if ow j = k then 0 else ow j, q0 v0 v1 v2 v3 h0 hb, ?_, by omega, fun j hj => if_pos hj, fun j hj hjp => ?_, fun j a b c => ?_⟩
    · rw [show snt 0 0 bs b0 = bs from if_pos ⟨rfl, hb⟩, show snt 0 1 bs b1 = b1 from if_neg (by simp)]
      refine ⟨_, v1, v2, v3, by rw [PT.get_put, if_pos rfl], .inr ⟨n, rfl, ?_, hb, ?_, h2, by omega⟩, c1.mono ?_ (by omega), c2.mono ?_ (by omega), c3.mono ?_ (by omega)⟩
      · rw [PT.get_put, if_neg (by omega), PT.get_put, if_pos rfl]
      · (try dsimp only); rw [if_neg (by omega), if_pos rfl]
      all_goals exact fun j a b c => ⟨by rw [PT.get_put, if_neg (by omega), PT.get_put, if_neg (by omega)], by (try dsimp only); rw [if_neg (by omega), if_neg (by omega), if_neg (by omega), c]⟩
    · rw [PT.get_put, if_neg hjp, PT.get_put, if_neg (by omega)]
    · exact ⟨by rw [PT.get_put, if_neg (by omega), PT.get_put, if_neg (by omega)], by (try dsimp only); rw [if_neg (by omega), if_neg (by omega), if_neg (by omega)]⟩
  by_cases u1 : u = 1
  · subst u1
    refine ⟨_, _, fun j => if j < 2 then ow j else if j = n then k + 1 else if ow j = k + 1 then 0 else ow j, q1 v0 v1 v2 v3 h0 hb, ?_, by omega, fun j hj => if_pos hj, fun j hj hjp => ?_, fun j a b c => ?_⟩
    · rw [show snt 1 1 bs b1 = bs from if_pos ⟨rfl, hb⟩, show snt 1 0 bs b0 = b0 from if_neg (by simp)]
      refine ⟨v0, _, v2, v3, by rw [PT.get_put, if_pos rfl], c0.mono ?_ (by omega), .inr ⟨n, rfl, ?_, hb, ?_, h2, by omega⟩, c2.mono ?_ (by omega), c3.mono ?_ (by omega)⟩
      · exact fun j a b c => ⟨by rw [PT.get_put, if_neg (by omega), PT.get_put, if_neg (by omega)], by (try dsimp only); rw [if_neg (by omega), if_neg (by omega), if_neg (by omega), c]⟩
      · rw [PT.get_put, if_neg (by omega), PT.get_put, if_pos rfl]
      · (try dsimp only); rw [if_neg (by omega), if_pos rfl]
      all_goals exact fun j a b c => ⟨by rw [PT.get_put, if_neg (by omega), PT.get_put, if_neg (by omega)], by (try dsimp only); rw [if_neg (by omega), if_neg (by omega), if_neg (by omega), c]⟩
    · rw [PT.get_put, if_neg hjp, PT.get_put, if_neg (by omega)]
    · exact ⟨by rw [PT.get_put, if_neg (by omega), PT.get_put, if_neg (by omega)], by (try dsimp only); rw [if_neg (by omega), if_neg (by omega), if_neg (by omega)]⟩
  · refine ⟨H, n, ow, qn (.inr (by omega)), ?_, Nat.le_refl _, fun _ _ => rfl, fun _ _ _ => rfl, fun _ _ _ _ => ⟨rfl, rfl⟩⟩
    rw [show snt u 0 bs b0 = b0 from if_neg (fun h => u0 h.1), show snt u 1 bs b1 = b1 from if_neg (fun h => u1 h.1)]
    exact ⟨v0, v1, v2, v3, h0, c0, c1, c2, c3⟩

theorem side_turn {d F p k n : Nat} {lose : Bool} {sp : Int} {b0 b1 b2 b3 : List UInt8} {H : PT HB} {ow : Nat → Nat} (h : Lk H n ow p k b0 b1 b2 b3) (hp : p < 2) (hop : ow p = 0) (hk : 0 < k)
    (q : ∀ v0 v1 a2 a3, H.get p = some ⟨4, [[v0, v1, a2, a3]]⟩ → Cl H n ow k v0 b0 → Cl H n ow (k + 1) v1 b1 → ∃ H' w2 w3, K noG d F [.ptr p 0 0, .imm (.bool lose), .imm (.int .i64 sp)] H n 0 = some (.tup [], H', n) ∧ H'.get p = some ⟨4, [[.imm .nils, .imm .nils, w2, w3]]⟩ ∧ Cl H' n ow (k + 1) w2 (tw lose sp b1) ∧ Cl H' n ow k w3 (tw lose sp b0) ∧
      (∀ j, j ≠ p → ow j ≠ k → ow j ≠ k + 1 → H'.get j = H.get j)) (ho : ∀ j, j < 2 → ow j = 0) :
    ∃ H' ow', K noG d F [.ptr p 0 0, .imm (.bool lose), .imm (.int .i64 sp)] H n 0 = some (.tup [], H', n) ∧ Lk H' n ow' p k [] [] (tw lose sp b1) (tw lose sp b0) ∧ Fr H n ow H' n ow' p k := by
  obtain ⟨v0, v1, v2, v3, h0, c0, c1, c2, c3⟩ := h
  obtain ⟨H', w2, w3, e, g, c1', c0', fr⟩ := q v0 v1 v2 v3 h0 c0 c1
  refine ⟨H', fun j => if ow j = k then k + 3 else if ow j = k + 1 then k + 2 else if ow j = k + 2 ∨ ow j = k + 3 then 0 else ow j, e, ⟨_, _, w2, w3, g, .nils, .nils, c1'.mono ?_ (Nat.le_refl _), c0'.mono ?_ (Nat.le_refl _)⟩, Nat.le_refl _, fun j hj => ?_, fun j hj hjp => fr j hjp ?_ ?_, fun j a b c => ⟨fr j (by omega) (by omega) (by omega), ?_⟩⟩
  · exact fun j a b c => ⟨rfl, by (try dsimp only); rw [if_neg (by omega), if_pos c]⟩
  · exact fun j a b c => ⟨rfl, by (try dsimp only); rw [if_pos c]⟩
  · have := ho j hj
    simp only; rw [if_neg (by omega), if_neg (by omega), if_neg (by omega)]
  · have := ho j hj; omega
  · have := ho j hj; omega
  · (try dsimp only); rw [if_neg (by omega), if_neg (by omega), if_neg (by omega)]

/-- What is taken: nothing, or bytes of a block that is no link. -/
def Tk (H : PT HB) (v : DV) (bs : List UInt8) : Prop :=
  v.out = true ∧ v.cells = [v] ∧ ∃ s z, rowsOf H.get v = some (s, z, bs.map rowB) ∧ (z = 1 ∨ bs = []) ∧ (s = none ∨ ∃ k, s = some k ∧ 2 ≤ k)
theorem Cl.tk {H : PT HB} {n : Nat} {ow : Nat → Nat} {k : Nat} {v : DV} {bs : List UInt8} (h : Cl H n ow k v bs) : Tk H v bs := by
  refine ⟨h.src.out, h.src.cells, ?_⟩
  rcases h with ⟨rfl, rfl⟩ | ⟨id, rfl, h, _, _, h2, _⟩
  · exact ⟨none, 0, rfl, .inr rfl, .inl rfl⟩
  · have ht : (bs.map rowB).take bs.length = bs.map rowB := List.take_of_length_le (by simp)
    exact ⟨some id, 1, by simp [rowsOf, h, ht], .inl rfl, .inr ⟨id, rfl, h2⟩⟩

def tkn (u : Int) (b2 b3 : List UInt8) : List UInt8 := if u = 0 then b2 else if u = 1 then b3 else []
theorem side_take {d F p k n : Nat} {u : Int} {b0 b1 b2 b3 : List UInt8} {H : PT HB} {ow : Nat → Nat} (h : Lk H n ow p k b0 b1 b2 b3) (hp : p < 2)
    (q0 : ∀ v0 v1 v2 v3, H.get p = some ⟨4, [[v0, v1, v2, v3]]⟩ → v2.out = true → K noG d F [.ptr p 0 0, .imm (.int .i64 0)] H n 0 = some (v2, H.put p (some ⟨4, [[v0, v1, .imm .nils, v3]]⟩), n))
    (q1 : ∀ v0 v1 v2 v3, H.get p = some ⟨4, [[v0, v1, v2, v3]]⟩ → v3.out = true → K noG d F [.ptr p 0 0, .imm (.int .i64 1)] H n 0 = some (v3, H.put p (some ⟨4, [[v0, v1, v2, .imm .nils]]⟩), n))
    (qn : ¬ (0 ≤ u ∧ u < 2) → K noG d F [.ptr p 0 0, .imm (.int .i64 u)] H n 0 = some (.imm .nils, H, n)) :
    ∃ v H', K noG d F [.ptr p 0 0, .imm (.int .i64 u)] H n 0 = some (v, H', n) ∧ sameBut H H' p = true ∧ Tk H' v (tkn u b2 b3) ∧ Lk H' n ow p k b0 b1 (if u = 0 then [] else b2) (if u = 1 then [] else b3) ∧ Fr H n ow H' n ow p k := by
  obtain ⟨v0, v1, v2, v3, h0, c0, c1, c2, c3⟩ := h
  by_cases u0 : u = 0
  · subst u0
    have m : ∀ {lb : Nat} {v : DV} {bs : List UInt8}, Cl H n ow lb v bs → Cl (H.put p (some ⟨4, [[v0, v1, .imm .nils, v3]]⟩)) n ow lb v bs := fun c => c.mono (fun j a b c => ⟨by rw [PT.get_put, if_neg (by omega)], c⟩) (Nat.le_refl _)
    exact ⟨v2, _, q0 _ _ _ _ h0 c2.src.out, sameBut_iff.2 fun j hj => by rw [PT.get_put, if_neg hj], (m c2).tk, ⟨v0, v1, _, v3, by rw [PT.get_put, if_pos rfl], m c0, m c1, .nils, m c3⟩, Nat.le_refl _, fun _ _ => rfl, fun j _ hj => by rw [PT.get_put, if_neg hj], fun j a b c => ⟨by rw [PT.get_put, if_neg (by omega)], rfl⟩⟩
  by_cases u1 : u = 1
  · subst u1
    have m : ∀ {lb : Nat} {v : DV} {bs : List UInt8}, Cl H n ow lb v bs → Cl (H.put p (some ⟨4, [[v0, v1, v2, .imm .nils]]⟩)) n ow lb v bs := fun c => c.mono (fun j a b c => ⟨by rw [PT.get_put, if_neg (by omega)], c⟩) (Nat.le_refl _)
    exact ⟨v3, _, q1 _ _ _ _ h0 c3.src.out, sameBut_iff.2 fun j hj => by rw [PT.get_put, if_neg hj], (m c3).tk, ⟨v0, v1, v2, _, by rw [PT.get_put, if_pos rfl], m c0, m c1, m c2, .nils⟩, Nat.le_refl _, fun _ _ => rfl, fun j _ hj => by rw [PT.get_put, if_neg hj], fun j a b c => ⟨by rw [PT.get_put, if_neg (by omega)], rfl⟩⟩
  · refine ⟨_, H, qn (by omega), sameBut_iff.2 fun _ _ => rfl, ?_, ?_, Nat.le_refl _, fun _ _ => rfl, fun _ _ _ => rfl, fun _ _ _ _ => ⟨rfl, rfl⟩⟩
    · rw [tkn, if_neg u0, if_neg u1]; exact (Cl.nils (n := n) (ow := ow) (k := 0)).tk
    · rw [if_neg u0, if_neg u1]; exact ⟨v0, v1, v2, v3, h0, c0, c1, c2, c3⟩

/-- Both. -/
def Wd (H : PT HB) (n : Nat) : Prop := ∃ ow b0 b1 b2 b3, 2 ≤ n ∧ (∀ j, j < 2 → ow j = 0) ∧ Lk H n ow 0 1 b0 b1 b2 b3 ∧ Lk H n ow 1 5 b0 b1 b2 b3
theorem Fr.ow {H H' : PT HB} {n n' : Nat} {ow ow' : Nat → Nat} {p k : Nat} (f : Fr H n ow H' n' ow' p k) (h : ∀ j, j < 2 → ow j = 0) : ∀ j, j < 2 → ow' j = 0 := fun j hj => by rw [f.2.1 j hj, h j hj]

theorem wd_send (d : Nat) {H : PT HB} {n : Nat} (h : Wd H n) (u : Int) {b : DV} {bs : List UInt8} (hb : Arg b bs) (hl : bs.length ≤ 5000) :
    ∃ H1 n1 H2 n2, K noG (d + 2) 11 [.ptr 0 0 0, .imm (.int .i64 u), b] H n 0 = some (.tup [], H1, n1) ∧ K noG (d + 2) 12 [.ptr 1 0 0, .imm (.int .i64 u), b] H1 n1 0 = some (.tup [], H2, n2) ∧ Wd H2 n2 := by
  obtain ⟨ow, b0, b1, b2, b3, h2, ho, hx, hy⟩ := h
  obtain ⟨H1, n1, ow1, e1, x1, f1⟩ := side_send (d := d + 2) (F := 11) (u := u) (b := b) (bs := bs) hx (by omega) h2 (by omega) (fun _ _ _ _ q hz => send0 d q (by omega) (hb.src _) hz hl) (fun _ _ _ _ q hz => send1 d q (by omega) (hb.src _) hz hl) (fun q => send_none d (hb.src _) q)
  have y1 := hy.mono f1 (by omega) (by omega) (by omega)
  have h21 : 2 ≤ n1 := Nat.le_trans h2 f1.1
  obtain ⟨H2, n2, ow2, e2, y2, f2⟩ := side_send (d := d + 2) (F := 12) (u := u) (b := b) (bs := bs) y1 (by omega) h21 (by omega) (fun _ _ _ _ q hz => ysend0 d q (by omega) (hb.src _) hz hl) (fun _ _ _ _ q hz => ysend1 d q (by omega) (hb.src _) hz hl) (fun q => ysend_none d (hb.src _) q)
  exact ⟨H1, n1, H2, n2, e1, e2, ow2, _, _, _, _, Nat.le_trans h21 f2.1, f2.ow (f1.ow ho), x1.mono f2 (by omega) (by omega) (by omega), y2⟩

theorem wd_turn (d : Nat) {H : PT HB} {n : Nat} (h : Wd H n) (lose : Bool) (sp : Int) :
    ∃ H1 H2, K noG (d + 1) 13 [.ptr 0 0 0, .imm (.bool lose), .imm (.int .i64 sp)] H n 0 = some (.tup [], H1, n) ∧ K noG (d + 1) 14 [.ptr 1 0 0, .imm (.bool lose), .imm (.int .i64 sp)] H1 n 0 = some (.tup [], H2, n) ∧ Wd H2 n := by
  obtain ⟨ow, b0, b1, b2, b3, h2, ho, hx, hy⟩ := h
  obtain ⟨H1, ow1, e1, x1, f1⟩ := side_turn (d := d + 1) (F := 13) (lose := lose) (sp := sp) hx (by omega) (ho 0 (by omega)) (by omega) (fun _ _ _ _ q c0 c1 => turnX d q c0 c1 (by omega) (by have := ho 0 (by omega); omega) (by have := ho 0 (by omega); omega)) ho
  have y1 := hy.mono f1 (by omega) (by omega) (by omega)
  have ho1 := f1.ow ho
  obtain ⟨H2, ow2, e2, y2, f2⟩ := side_turn (d := d + 1) (F := 14) (lose := lose) (sp := sp) y1 (by omega) (ho1 1 (by omega)) (by omega) (fun _ _ _ _ q c0 c1 => turnY d q c0 c1 (by omega) (by have := ho1 1 (by omega); omega) (by have := ho1 1 (by omega); omega)) ho1
  exact ⟨H1, H2, e1, e2, ow2, _, _, _, _, h2, f2.ow ho1, x1.mono f2 (by omega) (by omega) (by omega), y2⟩

theorem wd_take (d : Nat) {H : PT HB} {n : Nat} (h : Wd H n) (u : Int) :
    ∃ v1 H1 v2 H2 bs, K noG (d + 2) 15 [.ptr 0 0 0, .imm (.int .i64 u)] H n 0 = some (v1, H1, n) ∧ sameBut H H1 0 = true ∧ Tk H1 v1 bs ∧ K noG (d + 2) 16 [.ptr 1 0 0, .imm (.int .i64 u)] H1 n 0 = some (v2, H2, n) ∧ sameBut H1 H2 1 = true ∧ Tk H2 v2 bs ∧ Wd H2 n := by
  obtain ⟨ow, b0, b1, b2, b3, h2, ho, hx, hy⟩ := h
  obtain ⟨v1, H1, e1, s1, t1, x1, f1⟩ := side_take (d := d + 2) (F := 15) (u := u) hx (by omega) (fun _ _ _ _ q o => take0 d q o) (fun _ _ _ _ q o => take1 d q o) (fun q => take_none d q)
  have y1 := hy.mono f1 (by omega) (by omega) (by omega)
  obtain ⟨v2, H2, e2, s2, t2, y2, f2⟩ := side_take (d := d + 2) (F := 16) (u := u) y1 (by omega) (fun _ _ _ _ q o => ytake0 d q o) (fun _ _ _ _ q o => ytake1 d q o) (fun q => ytake_none d q)
  exact ⟨v1, H1, v2, H2, _, e1, s1, t1, e2, s2, t2, ow, _, _, _, _, h2, ho, x1.mono f2 (by omega) (by omega) (by omega), y2⟩
end Go.Proofs.Ytldinlipajjmoaa.D
