/-
  Rows that nobody writes, as lists.
-/
import Derived.Test.YtbhmihigfncfgaaDoorRun3
set_option linter.unusedVariables false
set_option linter.unusedSimpArgs false
namespace Go.PM
/-- A slice that nobody writes shows rows. -/
def Sl (sz : Nat) (v : IV) (es : List (List IV)) : Prop := (v = .nils ∧ es = []) ∨ ∃ f, v = .lst f sz es
theorem Sl.len {sz : Nat} {v : IV} {es : List (List IV)} (h : Sl sz v es) : lenOf (.imm v) = some es.length := by
  rcases h with ⟨rfl, rfl⟩ | ⟨f, rfl⟩ <;> rfl
theorem Sl.scal {sz : Nat} {v : IV} {es : List (List IV)} (h : Sl sz v es) : (DV.imm v).scal = true := by
  rcases h with ⟨rfl, rfl⟩ | ⟨f, rfl⟩ <;> rfl
def nth {α : Type} [Inhabited α] (xs : List α) (i : Nat) : α := xs.getD i default
theorem nth_get {α : Type} [Inhabited α] {xs : List α} {i : Nat} (h : i < xs.length) : xs[i]? = some (nth xs i) := by
  simp [nth, List.getElem?_eq_getElem h]
theorem nth_mem {α : Type} [Inhabited α] {xs : List α} {i : Nat} (h : i < xs.length) : nth xs i ∈ xs := List.mem_of_getElem? (nth_get h)
theorem mem_nth {α : Type} [Inhabited α] {xs : List α} {x : α} (h : x ∈ xs) : ∃ i, i < xs.length ∧ nth xs i = x := by
  obtain ⟨i, hi⟩ := List.getElem?_of_mem h
  have hl := (List.getElem?_eq_some_iff.1 hi).1
  rw [nth_get hl] at hi
  exact ⟨i, hl, Option.some.inj hi⟩
end Go.PM
