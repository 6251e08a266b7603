/-
  Runs of the model's small memory operations.
-/
import Derived.Test.YtkgjgehffijepabDoorRel
set_option linter.unusedVariables false
set_option linter.unusedSimpArgs false
namespace Go.PM
variable {P : Program}

theorem cell_of_heap {w : World} {b off : Nat} {c : Array Value} {T : TypeId} {fr : Nat × Nat} (h : w.heap[b]? = some (.cells c T fr)) : w.cell? ⟨b, off, none⟩ = c[off]? := by
  simp [World.cell?, h]

theorem cell_of_sig {σ : Sig} {w : World} (h : ∀ b o, σ b = some o → w.heap[b]? = some o) {a : Addr} {v : Value} (hv : σ.cell a = some v) : w.cell? a = some v := by
  unfold Sig.cell at hv
  unfold World.cell?
  cases hb : σ a.block with
  | none => rw [hb] at hv; cases hv
  | some o => rw [hb] at hv; rw [h _ _ hb]; exact hv

theorem add_plain (b off n : Nat) : (⟨b, off, none⟩ : Addr).add n = ⟨b, off + n, none⟩ := by
  unfold Addr.add; split
  · subst_vars; rfl
  · rfl

theorem add_add (a : Addr) (m n : Nat) : (a.add m).add n = a.add (m + n) := by
  unfold Addr.add
  by_cases h1 : m = 0 <;> by_cases h2 : n = 0 <;> simp [h1, h2, Nat.add_assoc]

theorem add_zero' (a : Addr) : a.add 0 = a := by simp [Addr.add]

theorem run_loadCellsFrom (w : World) (a : Addr) : ∀ (n i : Nat) (acc : Array Value) (vs : List Value), vs.length = n → (∀ (j : Nat) v, vs[j]? = some v → w.cell? (a.add (i + j)) = some v) →
    (loadCellsFrom a i n acc).run P w = .ok (acc ++ vs.toArray) w
  | 0, i, acc, vs, hl, _ => by
    have : vs = [] := List.length_eq_zero_iff.1 hl
    subst this; simp [loadCellsFrom]
  | n + 1, i, acc, vs, hl, h => by
    cases vs with
    | nil => simp at hl
    | cons v vs =>
      have h0 := h 0 v rfl
      rw [Nat.add_zero] at h0
      have ih := run_loadCellsFrom w a n (i + 1) (acc.push v) vs (by simpa using hl) (fun j u hu => by
        have := h (j + 1) u (by simpa using hu); rw [show i + 1 + j = i + (j + 1) by omega]; exact this)
      simp only [loadCellsFrom, Sem.run_bind, run_load, h0, Result.andThen_ok, ih]
      congr 1
      simp

theorem run_loadCells (w : World) (a : Addr) (n : Nat) (vs : List Value) (hl : vs.length = n) (h : ∀ (j : Nat) v, vs[j]? = some v → w.cell? (a.add j) = some v) :
    (loadCells a n).run P w = .ok vs.toArray w := by
  unfold loadCells
  rw [run_loadCellsFrom w a n 0 #[] vs hl (fun j v hv => by rw [Nat.zero_add]; exact h j v hv)]
  simp

/-- Cells with other ones laid over them. -/
def laidOver (c : Array Value) (off : Nat) (vs : List Value) : Array Value := (c.toList.take off ++ vs ++ c.toList.drop (off + vs.length)).toArray

theorem laidOver_size {c : Array Value} {off : Nat} {vs : List Value} (h : off + vs.length ≤ c.size) : (laidOver c off vs).size = c.size := by
  have : c.toList.length = c.size := by simp
  simp [laidOver]; omega

theorem laidOver_get {c : Array Value} {off : Nat} {vs : List Value} (h : off + vs.length ≤ c.size) (k : Nat) :
    (laidOver c off vs)[k]? = if k < off then c[k]? else if k < off + vs.length then vs[k - off]? else c[k]? := by
  have hc : c.toList.length = c.size := by simp
  unfold laidOver
  rw [List.getElem?_toArray, List.append_assoc, List.getElem?_append]
  split
  · rename_i h1
    have h1' : k < off := by simp at h1; omega
    rw [if_pos h1', List.getElem?_take, if_pos h1']; simp
  · rename_i h1
    have h1' : ¬ k < off := by simp at h1; omega
    have hlen : (c.toList.take off).length = off := by simp; omega
    rw [if_neg h1', hlen, List.getElem?_append]
    split
    · rename_i h2
      rw [if_pos (by omega)]
    · rename_i h2
      rw [if_neg (by omega), List.getElem?_drop]
      rw [show off + vs.length + (k - off - vs.length) = k by omega]; simp

theorem setIf_laidOver (c : Array Value) (off : Nat) (v : Value) (h : off < c.size) : c.setIfInBounds off v = laidOver c off [v] := by
  apply Array.ext_getElem?
  intro k
  rw [laidOver_get (by simp; omega)]
  rw [Array.getElem?_setIfInBounds]
  by_cases h1 : off = k
  · subst h1; simp [h]
  · rw [if_neg h1]
    simp
    intros; omega

theorem laidOver_cons (c : Array Value) (off : Nat) (v : Value) (vs : List Value) (h : off + vs.length + 1 ≤ c.size) : laidOver (laidOver c off [v]) (off + 1) vs = laidOver c off (v :: vs) := by
  have h1 : (laidOver c off [v]).size = c.size := laidOver_size (by simp; omega)
  apply Array.ext_getElem?
  intro k
  rw [laidOver_get (by rw [h1]; omega), laidOver_get (by simp; omega), laidOver_get (by simp; omega)]
  simp
  by_cases a1 : k < off
  · simp [a1, show k < off + 1 by omega]
  · by_cases a2 : k = off
    · subst a2; simp
    · have a3 : ¬ k < off + 1 := by omega
      simp [a1, a3]
      by_cases a4 : k < off + 1 + vs.length
      · rw [if_pos a4, if_pos (by omega)]
        rw [show k - off = (k - (off + 1)) + 1 by omega]; simp
      · rw [if_neg a4, if_neg (by omega)]

/-- A world with another block at a place. -/
def setBlock (w : World) (b : Nat) (o : Obj) : World := { w with heap := w.heap.setIfInBounds b o }

theorem setBlock_get (w : World) (b : Nat) (o : Obj) (x : Nat) : (setBlock w b o).heap[x]? = if b = x ∧ b < w.heap.size then some o else w.heap[x]? := by
  unfold setBlock
  simp only [Array.getElem?_setIfInBounds]
  by_cases h1 : b = x
  · subst h1
    by_cases h2 : b < w.heap.size
    · simp [h2]
    · simp [h2]
  · simp [h1]

theorem setBlock_size (w : World) (b : Nat) (o : Obj) : (setBlock w b o).heap.size = w.heap.size := by simp [setBlock]

theorem setCell_block {w : World} {b off : Nat} {c : Array Value} {T : TypeId} {fr : Nat × Nat} (h : w.heap[b]? = some (.cells c T fr)) (v : Value) :
    w.setCell ⟨b, off, none⟩ v = setBlock w b (.cells (c.setIfInBounds off v) T fr) := by
  unfold World.setCell setBlock
  congr 1
  have hlt : b < w.heap.size := (Array.getElem?_eq_some_iff.1 h).1
  apply Array.ext_getElem?
  intro i
  rw [Array.getElem?_modify, Array.getElem?_setIfInBounds]
  by_cases hi : b = i
  · subst hi; simp [hlt, h]
    simp [Array.getElem?_eq_getElem hlt] at h
    simp [h]
  · simp [hi]

theorem run_storeCells : ∀ (vs : List Value) (w : World) (b off i : Nat) (c : Array Value) (T : TypeId) (fr : Nat × Nat), w.heap[b]? = some (.cells c T fr) → Unfr fr c.size → off + i + vs.length ≤ c.size →
    (∀ v ∈ vs, v.oneCell' = true) → (storeCells ⟨b, off, none⟩ vs i).run P w = .ok () (if vs = [] then w else setBlock w b (.cells (laidOver c (off + i) vs) T fr))
  | [], w, b, off, i, c, T, fr, _, _, _, _ => by simp [storeCells]
  | v :: vs, w, b, off, i, c, T, fr, h, hu, hl, hv => by
    have hlt : b < w.heap.size := (Array.getElem?_eq_some_iff.1 h).1
    have hoff : off + i < c.size := by simp at hl; omega
    have hcell : w.cell? ⟨b, off + i, none⟩ = some c[off + i] := by rw [cell_of_heap h, Array.getElem?_eq_getElem hoff]
    have hfr : w.frozen? ⟨b, off + i, none⟩ = false := by
      obtain ⟨flo, fhi⟩ := fr
      simp only [World.frozen?, h, Bool.and_eq_false_iff, decide_eq_false_iff_not]
      rcases hu with hu | hu <;> simp only at hu <;> omega
    have hset := setCell_block (off := off + i) h v
    rw [setIf_laidOver c (off + i) v hoff] at hset
    have h' : (setBlock w b (.cells (laidOver c (off + i) [v]) T fr)).heap[b]? = some (.cells (laidOver c (off + i) [v]) T fr) := by rw [setBlock_get]; simp [hlt]
    have ih := run_storeCells vs _ b off (i + 1) _ T fr h' (by rw [laidOver_size (by simp; omega)]; exact hu) (by rw [laidOver_size (by simp; omega)]; simp at hl; omega) (fun u hu => hv u (by simp [hu]))
    simp only [storeCells, Sem.run_bind, add_plain, run_store P w _ v .plain (hv v (by simp)), hcell, hfr, Bool.false_eq_true, if_false, Result.andThen_ok, hset, ih]
    congr 1
    rw [show off + (i + 1) = off + i + 1 by omega, laidOver_cons c (off + i) v vs (by simp at hl; omega)]
    by_cases hn : vs = []
    · subst hn; simp
    · simp only [hn, if_false, List.cons_ne_nil]
      unfold setBlock
      simp

theorem push_get (w : World) (o : Obj) (x : Nat) : (w.heap.push o)[x]? = if x = w.heap.size then some o else w.heap[x]? := by
  rw [Array.getElem?_push]

theorem run_newRow (w : World) (T : TypeId) (c : Array Value) : (newRow T c).run P w = .ok ⟨w.heap.size, 0, none⟩ { w with heap := w.heap.push (.cells c T (0, 0)) } := by
  simp [newRow]

end Go.PM
