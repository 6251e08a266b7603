/-
  Rows of bytes among the arguments.
-/
import Derived.Test.YtkgjgehffijepabDoorLaw
set_option linter.unusedVariables false
set_option linter.unusedSimpArgs false
namespace Go.PM

theorem row_byte {e : List IV} (hl : e.length = 1) (h : ∀ c, e[0]? = some c → FitK (.i .u8) c) : ∃ b : UInt8, e = rowOfByte b := by
  obtain ⟨c, rfl⟩ := List.length_eq_one_iff.1 hl
  have := h c rfl
  cases this with
  | i hw =>
    rename_i n
    simp only [Lit.wf, IntKind.min, IntKind.max, Bool.and_eq_true, decide_eq_true_eq] at hw
    have h1 : 0 ≤ n := by simpa [IntKind.signed] using hw.1
    have h2 : n ≤ 255 := by simpa [IntKind.signed, IntKind.bits] using hw.2
    refine ⟨UInt8.ofNat n.toNat, ?_⟩
    simp only [rowOfByte, UInt8.toNat_ofNat']
    congr 2
    omega

theorem bytes_fit {iv : IV} (h : FitK (.sl [.i .u8]) iv) : iv = .nils ∨ ∃ bs : List UInt8, iv = .lst false 1 (bs.map rowOfByte) ∧ bs.length ≤ reachBytes := by
  cases h with
  | nil => exact .inl rfl
  | sl hm hl hk =>
    rename_i es
    right
    have : ∀ e ∈ es, ∃ b : UInt8, e = rowOfByte b := fun e he => by
      obtain ⟨i, hi⟩ := List.getElem?_of_mem he
      exact row_byte (hl e he) (fun c hc => hk i 0 e _ c hi rfl hc)
    have key : ∀ l : List (List IV), (∀ e ∈ l, ∃ b : UInt8, e = rowOfByte b) → ∃ bs : List UInt8, l = bs.map rowOfByte := by
      intro l
      induction l with
      | nil => intro _; exact ⟨[], rfl⟩
      | cons e l ih =>
        intro hh
        obtain ⟨b, rfl⟩ := hh e (List.mem_cons_self ..)
        obtain ⟨bs, rfl⟩ := ih (fun e he => hh e (List.mem_cons_of_mem _ he))
        exact ⟨b :: bs, rfl⟩
    obtain ⟨bs, rfl⟩ := key es this
    exact ⟨bs, rfl, by simpa using hm⟩

theorem byteOf_row (b : UInt8) : byteOf (rowOfByte b) = some b := by
  have := b.toNat_lt
  simp only [rowOfByte, byteOf]
  rw [if_pos (by omega)]
  simp

theorem bytesOf_rows : ∀ bs : List UInt8, bytesOf (bs.map rowOfByte) = some bs
  | [] => rfl
  | b :: bs => by simp only [List.map_cons, bytesOf, byteOf_row, bytesOf_rows bs]

theorem unImms_imms : ∀ l : List IV, unImms (imms l) = some l
  | [] => rfl
  | x :: l => by
    have := unImms_imms l
    simp only [unImms, imms, List.map_cons, mapO, unImm] at this ⊢
    rw [this]
theorem mapO_unImms : ∀ l : List (List IV), mapO unImms (l.map imms) = some l
  | [] => rfl
  | x :: l => by simp only [List.map_cons, mapO, unImms_imms, mapO_unImms l]
end Go.PM
