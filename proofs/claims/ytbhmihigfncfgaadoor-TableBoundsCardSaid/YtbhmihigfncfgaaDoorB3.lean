/-
  TableBounds: whether the layout that is built may be. Plain.
-/
import Derived.Test.YtbhmihigfncfgaaDoorB1
import Derived.KernelRfl
set_option linter.unusedVariables false
set_option linter.unusedSimpArgs false
set_option maxHeartbeats 16000000
set_option maxRecDepth 100000
namespace Go.Proofs.YtbhmihigfncfgaaDoor.D
open Go Go.PM Go.Lib
def rtB (q : Nat → IV) (P i : Nat) : Rt := { name := nmb 100 i, fr := 0, to := 1, pv := .lst true 1 [[.int .i64 0]], qv := q i, fv := .nils, path := [0], pts := needL P, flk := [] }
/-- The layout that is built. -/
def loB (sv pv gv rv : IV) (q : Nat → IV) (S G P R : Nat) : Lo := { sv := sv, pv := pv, gv := gv, rv := rv, secs := (List.range S).map (nmb 97), pts := (List.range P).map fun i => ⟨nmb 99 i, 0⟩, sigs := (List.range G).map (nmb 98), rts := (List.range R).map (rtB q P) }
def nmOk (a : Nat) : Bool := (List.range 10).all fun i => nm3 (nmb a i) && (List.range i).all fun j => !(nmb a i == nmb a j)
theorem nm97 : nmOk 97 = true := by kernel_rfl
theorem nm98 : nmOk 98 = true := by kernel_rfl
theorem nm99 : nmOk 99 = true := by kernel_rfl
theorem nm100 : nmOk 100 = true := by kernel_rfl
theorem nm_of {a : Nat} (h : nmOk a = true) {k : Nat} (hk : k ≤ 10) : NM ((List.range k).map (nmb a)) := fun i s hs => by
  have hi : i < k := by
    have := (List.getElem?_eq_some_iff.1 hs).1
    simpa using this
  have he : s = nmb a i := by
    simp [List.getElem?_range, hi] at hs
    exact hs.symm
  subst he
  unfold nmOk at h
  rw [List.all_eq_true] at h
  have h1 := h i (List.mem_range.2 (by omega))
  rw [Bool.and_eq_true] at h1
  refine ⟨h1.1, fun hm => ?_⟩
  rw [List.all_eq_true] at h1
  rw [← List.map_take, List.take_range] at hm
  obtain ⟨j, hj, e⟩ := List.mem_map.1 hm
  have hj' : j < i := by have := List.mem_range.1 hj; omega
  have h2 := h1.2 j (List.mem_range.2 hj')
  rw [e] at h2
  simp at h2
theorem nth_rng {α : Type} [Inhabited α] {f : Nat → α} {k i : Nat} (h : i < k) : nth ((List.range k).map f) i = f i := by simp [nth, h]
theorem isl_iff {sv pv gv rv : IV} {q : Nat → IV} {S G P R : Nat} : ISL (loB sv pv gv rv q S G P R) ↔ (1 ≤ S ∧ S ≤ 10 ∧ 1 ≤ G ∧ G ≤ 6 ∧ P ≤ 5 ∧ R ≤ 6 ∧ (R = 0 ∨ 2 ≤ G)) := by
  constructor
  · intro h
    have s1 := h.s1
    have s2 := h.s2
    have g1 := h.g1
    have g2 := h.g2
    have p2 := h.p2
    have r2 := h.r2
    have rr := h.rr
    simp only [loB, List.length_map, List.length_range] at s1 s2 g1 g2 p2 r2 rr
    refine ⟨s1, s2, g1, g2, p2, r2, ?_⟩
    by_cases r0 : R = 0
    · exact .inl r0
    · have := (rr 0 (by omega)).to
      rw [nth_rng (by omega)] at this
      have h2 := this.2
      simp only [rtB, List.length_map, List.length_range] at h2
      exact .inr (by omega)
  · rintro ⟨s1, s2, g1, g2, p2, r2, rg⟩
    refine ⟨by simpa [loB] using s1, by simpa [loB] using s2, by simpa [loB] using g1, by simpa [loB] using g2, by simpa [loB] using p2, by simpa [loB] using r2, fun i hi => ?_, nm_of nm97 s2, nm_of nm98 (by omega), ?_, ?_, fun i hi => ?_⟩
    · simp only [loB, List.length_map, List.length_range] at hi ⊢
      rw [nth_rng hi]
      exact ⟨by simp, by simp; omega⟩
    · show NM ((List.map (fun i => (⟨nmb 99 i, 0⟩ : Pt)) (List.range P)).map (·.name))
      rw [List.map_map]
      exact nm_of nm99 (by omega)
    · show NM ((List.map (rtB q P) (List.range R)).map (·.name))
      rw [List.map_map]
      exact nm_of nm100 (by omega)
    · simp only [loB, List.length_map, List.length_range] at hi
      have hG : 2 ≤ G := rg.resolve_left (by omega)
      have e : nth (loB sv pv gv rv q S G P R).rts i = rtB q P i := nth_rng hi
      rw [e]
      refine ⟨⟨by simp [rtB], by simp [rtB, loB]; omega⟩, ⟨by simp [rtB], by simp [rtB, loB]; omega⟩, by simp [rtB], ?_, by simp [rtB], by simp [rtB], ?_, ?_, ?_⟩
      · intro j z hz
        simp only [rtB] at hz
        have hj : j = 0 := by
          have := (List.getElem?_eq_some_iff.1 hz).1
          simpa using this
        subst hj
        simp at hz
        subst hz
        exact ⟨⟨by omega, by simp [loB]; omega⟩, by simp⟩
      · intro j hj
        simp only [rtB, needL, List.length_map, List.length_range] at hj
        rw [NE1_iff]
        have e1 : nth (rtB q P i).pts j = ⟨(j : Int), false⟩ := nth_rng (f := fun (k : Nat) => (⟨(k : Int), false⟩ : Need)) hj
        rw [e1]
        have e2 : nth (loB sv pv gv rv q S G P R).pts ((j : Int)).toNat = ⟨nmb 99 j, 0⟩ := by
          rw [Int.toNat_natCast]
          exact nth_rng (f := fun i => (⟨nmb 99 i, 0⟩ : Pt)) hj
        refine ⟨⟨by simp, by simp [loB]; omega⟩, fun h0 => ?_, ?_⟩
        · have e3 : nth (rtB q P i).pts (j - 1) = ⟨((j - 1 : Nat) : Int), false⟩ := nth_rng (f := fun (k : Nat) => (⟨(k : Int), false⟩ : Need)) (by omega)
          rw [e3]
          show ((j - 1 : Nat) : Int) < (j : Int)
          omega
        · show (nth (loB sv pv gv rv q S G P R).pts ((j : Int)).toNat).sec ∈ (rtB q P i).path ↔ _
          rw [e2]
          simp [rtB]
      · intro j hj
        simp [rtB] at hj
      · have : ((List.range P).map fun i => (⟨nmb 99 i, 0⟩ : Pt)).filter (fun p => decide (p.sec ∈ (rtB q P i).path)) = (List.range P).map fun i => (⟨nmb 99 i, 0⟩ : Pt) := by
          rw [List.filter_eq_self]
          intro p hp
          obtain ⟨k, _, rfl⟩ := List.mem_map.1 hp
          simp [rtB]
        show (((List.range P).map fun i => (⟨nmb 99 i, 0⟩ : Pt)).filter _).length = _
        rw [this]
        simp [rtB, needL]
end Go.Proofs.YtbhmihigfncfgaaDoor.D
