/-
  One operation, in D and in the model: addresses, parts, slices, conversions.
-/
import Derived.Test.YtkgjgehffijepabDoorSimB
set_option linter.unusedVariables false
set_option linter.unusedSimpArgs false
namespace Go.PM

def Does (P : Program) (lo : Nat) (Tch : Nat → Prop) (φ : Phi) (σ : Sig) (T : Nat → Option DV) (L : Nat → Option LV) (h : Nat → Option HB) (a : Act) (w : World) (n : Nat) (s : Sem Value) (e : Eff) : Prop :=
  ∃ rv w' φ' σ', s.run P w = .ok rv w' ∧ OpOut lo Tch φ σ T L h a.tmps w n e rv w' φ' σ'

section
variable {P : Program} {lo : Nat} {Tch : Nat → Prop} {φ : Phi} {σ : Sig} {G : Nat → Option (List IV)} {T : Nat → Option DV} {L : Nat → Option LV} {h : Nat → Option HB} {a : Act} {w : World} {n : Nat}

theorem Does.pure (hR : Rel lo Tch φ σ T L h a.tmps w) {s : Sem Value} {rv : Value} (hs : s.run P w = .ok rv w) {v : DV} {acc : List Acc} (hv : RepD φ σ v rv) :
    Does P lo Tch φ σ T L h a w n s { v, n' := n, acc } := ⟨rv, w, φ, σ, hs, OpOut.pure hR hv⟩

theorem asNat_spec {v : DV} {m : Nat} (hm : asNat v = some m) {rv : Value} (hv : RepD φ σ v rv) : ∃ k, rv = .int k (m : Int) := by
  unfold asNat at hm
  split at hm
  · split at hm
    · rename_i k i h0
      cases hm
      have := repI_int (repD_imm hv)
      subst this
      exact ⟨k, by rw [Int.toNat_of_nonneg h0]⟩
    · cases hm
  · cases hm

theorem run_asIntOf (k : IntKind) (m : Int) : (asIntOf (.int k m)).run P w = .ok (k, m) w := rfl

theorem rep_cref_drop {cells : List IV} {ad : Addr} (cv : Nat → Value) (hc : ∀ (j : Nat) c, cells[j]? = some c → σ.cell (ad.add j) = some (cv j))
    (hr : ∀ (j : Nat) c, cells[j]? = some c → RepI σ c (cv j)) (off : Nat) : RepI σ (.cref (cells.drop off)) (.pointer (some (ad.add off))) :=
  .cref (fun j => cv (off + j)) (fun j c hj => by rw [add_add]; exact hc _ c (by simpa using hj)) (fun j c hj => hr _ c (by simpa using hj))

theorem fld_op (hR : Rel lo Tch φ σ T L h a.tmps w) {p : DV} {rp : Value} (hp : RepD φ σ p rp) {t : TypeId} {f off : Nat} (hok : fieldOk P t f off = true) {e : Eff}
    (he : (match p with
      | .ptr id r o => give n (some (.ptr id r (o + off)))
      | .lref s id o => give n (some (.lref s id (o + off)))
      | .imm (.cref cs) => if off < cs.length then give n (some (.imm (.cref (cs.drop off)))) else none
      | _ => none) = some e) : Does P lo Tch φ σ T L h a w n (Instr.fieldAt t rp f) e := by
  unfold fieldOk at hok
  split at hok
  · rename_i fs hu
    split at hok
    · rename_i x hx
      simp only [Bool.and_eq_true, beq_iff_eq] at hok
      obtain ⟨rfl, hok⟩ := hok
      split at hok
      · rename_i i hi
        have hne : ¬ i.size = 0 := by simpa using hok
        have run : ∀ ad, (Instr.fieldAt t (.pointer (some ad)) f).run P w = .ok (.pointer (some (ad.add x.offset))) w := fun ad => by
          simp [Instr.fieldAt, run_underlying' hu, hx, Instr.sureAddr, fieldPlace, sizeOf, typeInfo, hi, hne]
        cases hp with
        | ptr hb => simp only [give, Option.map_some, Option.some.injEq] at he; subst he
                    exact .pure hR (run _) (by rw [add_plain, Nat.add_assoc]; exact .ptr hb)
        | lref hb => simp only [give, Option.map_some, Option.some.injEq] at he; subst he
                     exact .pure hR (run _) (by rw [add_plain]; exact .lref hb)
        | imm hi =>
          cases hi with
          | cref cv hc hr =>
            simp only at he
            split at he
            · simp only [give, Option.map_some, Option.some.injEq] at he; subst he
              exact .pure hR (run _) (.imm (rep_cref_drop cv hc hr _))
            · cases he
          | _ => cases he
        | _ => cases he
      · cases hok
    · cases hok
  · cases hok

theorem idx_op (hR : Rel lo Tch φ σ T L h a.tmps w) {p i : DV} {rp ri : Value} (hp : RepD φ σ p rp) (hi : RepD φ σ i ri) {t : TypeId} {s : Nat} (hok : sliceOk P t s = true) {j : Nat} (hj : asNat i = some j) {e : Eff}
    (he : (match p with
        | .imm (.lst _ sz es) => match es[j]? with
          | some e => if sz = s ∧ 0 < s then give n (some (.imm (.cref e))) else none
          | none => none
        | .sl id row len _ => match h id with
          | some hb => if j < len ∧ hb.sz = s then some { v := .ptr id (row + j) 0, n' := n, acc := [.rX id] } else none
          | none => none
        | _ => none) = some e) : Does P lo Tch φ σ T L h a w n (Instr.indexAt t rp ri) e := by
  obtain ⟨k, rfl⟩ := asNat_spec hj hi
  unfold sliceOk at hok
  split at hok
  · rename_i el hu
    have run : ∀ ad len cap, j < len → (Instr.indexAt t (.slice (some ad) len cap) (.int k (j : Int))).run P w = .ok (.pointer (some (ad.add (j * s)))) w := fun ad len cap hlt => by
      simp [Instr.indexAt, run_asIntOf, run_underlying' hu, hlt, run_sizeOf hok]
    cases hp with
    | imm hi' =>
      cases hi' with
      | lst cv hcap hfull hsz hc hr =>
        simp only at he
        split at he
        · rename_i el' hel
          split at he
          · rename_i hs
            obtain ⟨rfl, hs0⟩ := hs
            simp only [give, Option.map_some, Option.some.injEq] at he; subst he
            have hlt := (List.getElem?_eq_some_iff.1 hel).1
            exact .pure hR (run _ _ _ hlt) (.imm (.cref (fun m => cv j m) (fun m c hm => by rw [add_add]; exact (hc j m _ c hel hm).1) (fun m c hm => hr j m _ c hel hm)))
          · cases he
        · cases he
      | _ => cases he
    | sl hbi h1 h2 h3 =>
      rename_i id row len cap rcap bi
      simp only at he
      split at he
      · rename_i hb hid
        split at he
        · rename_i hs
          obtain ⟨hlt, rfl⟩ := hs
          cases he
          obtain ⟨bi', g1, g2, _⟩ := hR.heap _ _ hid
          rw [hbi] at g1; cases g1
          refine .pure hR (run _ _ _ hlt) ?_
          rw [add_plain]
          have := RepD.ptr (φ := φ) (σ := σ) (row := row + j) (off := 0) hbi
          rw [Nat.add_mul, Nat.add_zero] at this
          rw [← g2.sz]
          exact this
        · cases he
      · cases he
    | _ => cases he
  · cases hok

theorem idxA_op (hR : Rel lo Tch φ σ T L h a.tmps w) {p i : DV} {rp ri : Value} (hp : RepD φ σ p rp) (hi : RepD φ σ i ri) {t : TypeId} {s m : Nat}
    (hok : (match P.underlying t with | some (.array k e) => k == m && szOk P e s | _ => false) = true) {j : Nat} (hj : asNat i = some j) {e : Eff}
    (he : (if j < m ∧ 0 < s then match p with
          | .ptr id r o => give n (some (.ptr id r (o + j * s)))
          | .lref sl id o => give n (some (.lref sl id (o + j * s)))
          | .imm (.cref cs) => if j * s < cs.length then give n (some (.imm (.cref (cs.drop (j * s))))) else none
          | _ => none
        else none) = some e) : Does P lo Tch φ σ T L h a w n (Instr.indexAt t rp ri) e := by
  obtain ⟨k, rfl⟩ := asNat_spec hj hi
  split at hok
  · rename_i m' el hu
    simp only [Bool.and_eq_true, beq_iff_eq] at hok
    obtain ⟨rfl, hok⟩ := hok
    split at he
    · rename_i hlt
      obtain ⟨hlt, hs⟩ := hlt
      have run : ∀ ad, (Instr.indexAt t (.pointer (some ad)) (.int k (j : Int))).run P w = .ok (.pointer (some (ad.add (j * s)))) w := fun ad => by
        simp [Instr.indexAt, run_asIntOf, run_underlying' hu, Instr.sureAddr, hlt, run_sizeOf hok]
      cases hp with
      | ptr hb => simp only [give, Option.map_some, Option.some.injEq] at he; subst he
                  exact .pure hR (run _) (by rw [add_plain, Nat.add_assoc]; exact .ptr hb)
      | lref hb => simp only [give, Option.map_some, Option.some.injEq] at he; subst he
                   exact .pure hR (run _) (by rw [add_plain]; exact .lref hb)
      | imm hi' =>
        cases hi' with
        | cref cv hc hr =>
          simp only at he
          split at he
          · simp only [give, Option.map_some, Option.some.injEq] at he; subst he
            exact .pure hR (run _) (.imm (rep_cref_drop cv hc hr _))
          · cases he
        | _ => cases he
      | _ => cases he
    · cases he
  · cases hok

theorem part_run {t : TypeId} {cs r : List DV} {vs : Array Value} {off k : Nat} {agg : Bool} {v : DV} (hv : RepDs φ σ cs vs) (hsz : szOk P t k = true) (hagg : aggOk P t agg = true) (hcut : cut cs off k = some r)
    (hof : ofCells agg r = some v) : ∃ rv, (part t vs off).run P w = .ok rv w ∧ RepD φ σ v rv := by
  obtain ⟨h1, h2, h3⟩ := cut_spec hcut
  cases agg with
  | true =>
    simp [ofCells] at hof; subst hof
    refine ⟨.agg (vs.extract off (off + k)), by simp [part, run_isAgg hagg, run_sizeOf hsz], .agg ?_ (fun i c u hc hu => ?_)⟩
    · have := hv.1; simp; omega
    · have hi : i < k := by rw [← h2]; exact (List.getElem?_eq_some_iff.1 hc).1
      rw [h3 i hi] at hc
      rw [Array.getElem?_extract] at hu
      have := hv.1
      rw [if_pos (by omega)] at hu
      exact hv.2 _ c u hc hu
  | false =>
    unfold ofCells at hof
    simp at hof
    split at hof
    · rename_i v'
      cases hof
      have h0 := h3 0 (by rw [← h2]; simp)
      simp at h0
      obtain ⟨u, g1, g2⟩ := hv.get h0.symm
      exact ⟨u, by simp [part, run_isAgg hagg, g1], g2⟩
    · cases hof

theorem bytesOf_spec : ∀ {es : List (List IV)} {bs : List UInt8}, bytesOf es = some bs → es.length = bs.length ∧ ∀ (i : Nat) e, es[i]? = some e → ∃ b, bs[i]? = some b ∧ e = [.int .u8 b.toNat]
  | [], bs, h => by simp [bytesOf] at h; subst h; exact ⟨rfl, fun i e he => by simp at he⟩
  | e :: es, bs, h => by
    unfold bytesOf at h
    split at h
    · rename_i b bs' hb hbs
      cases h
      obtain ⟨h1, h2⟩ := bytesOf_spec hbs
      refine ⟨by simp [h1], fun i x hx => ?_⟩
      cases i with
      | zero =>
        simp at hx; subst hx
        refine ⟨b, rfl, ?_⟩
        unfold byteOf at hb
        split at hb
        · rename_i m
          split at hb
          · rename_i hm
            cases hb
            congr 2
            have : (UInt8.ofNat m.toNat).toNat = m.toNat := by
              rw [UInt8.toNat_ofNat']; omega
            rw [this]; omega
          · cases hb
        · cases hb
      | succ i => simp at hx; obtain ⟨b', g1, g2⟩ := h2 i x hx; exact ⟨b', by simpa using g1, g2⟩
    · cases h

/-- The cells behind a slice of D's. -/
theorem rows_cells (hR : Rel lo Tch φ σ T L h a.tmps w) {v : DV} {rv : Value} (hv : RepD φ σ v rv) {src : Option Nat} {sz : Nat} {rows : List (List DV)} (hrow : rowsOf h v = some (src, sz, rows)) :
    (rv = .slice none 0 0 ∧ rows = [] ∧ v = .imm .nils) ∨
    ∃ ad cap, rv = .slice (some ad) rows.length cap ∧ rows.length ≤ cap ∧ (∀ r ∈ rows, r.length = sz) ∧
      ∀ (i j : Nat) r c, rows[i]? = some r → r[j]? = some c → ∃ cv, w.cell? (ad.add (i * sz + j)) = some cv ∧ cv.oneCell' = true ∧ RepD φ σ c cv := by
  cases hv with
  | imm hi =>
    cases hi with
    | nils => simp only [rowsOf, Option.some.injEq, Prod.mk.injEq] at hrow; obtain ⟨_, _, rfl⟩ := hrow; exact .inl ⟨rfl, rfl, rfl⟩
    | lst cv hcap hfull hsz hc hr =>
      rename_i full sz' es ad cap
      simp only [rowsOf, Option.some.injEq, Prod.mk.injEq] at hrow
      obtain ⟨_, rfl, rfl⟩ := hrow
      refine .inr ⟨ad, cap, by simp, by simpa using hcap, fun r hr => ?_, fun i j r c hi hj => ?_⟩
      · obtain ⟨e, he, rfl⟩ := List.mem_map.1 hr
        simp [imms]; exact hsz e he
      · rw [List.getElem?_map] at hi
        simp only [Option.map_eq_some_iff] at hi
        obtain ⟨e, he, rfl⟩ := hi
        obtain ⟨x, hx, rfl⟩ := imms_get hj
        obtain ⟨hcell, hone⟩ := hc i j e x he hx
        exact ⟨cv i j, cell_of_sig hR.sig hcell, hone, .imm (hr i j e x he hx)⟩
    | _ => simp [rowsOf] at hrow
  | sl hbi h1 h2 h3 =>
    rename_i id row len cap rcap bi
    simp only [rowsOf] at hrow
    split at hrow
    · rename_i hb hid
      split at hrow
      · rename_i hle
        simp only [Option.some.injEq, Prod.mk.injEq] at hrow
        obtain ⟨_, rfl, rfl⟩ := hrow
        obtain ⟨bi', g1, g2, _⟩ := hR.heap _ _ hid
        rw [hbi] at g1; cases g1
        obtain ⟨c, ty, fr, q1, q2, q3, q4, q5⟩ := g2.cells
        have hlen : ((hb.rows.drop row).take len).length = len := by simp; omega
        refine .inr ⟨⟨bi.blk, row * bi.sz, none⟩, rcap, by rw [hlen], by rw [hlen]; omega, fun r hr => q4 r (List.mem_of_mem_drop (List.mem_of_mem_take hr)), fun i j r x hi hj => ?_⟩
        have hi' : i < len := by rw [← hlen]; exact (List.getElem?_eq_some_iff.1 hi).1
        rw [List.getElem?_take, if_pos hi', List.getElem?_drop] at hi
        obtain ⟨cv, s1, s2, s3⟩ := q5 _ r hi j x hj
        refine ⟨cv, ?_, s2, s3⟩
        rw [add_plain, cell_of_heap q1.1, g2.sz, ← s1]
        congr 1
        rw [Nat.add_mul]; omega
      · cases hrow
    · cases hrow
  | _ => simp [rowsOf] at hrow
end
end Go.PM
