/-
  Frozen values.
-/
import Derived.Test.YtkgjgehffijepabDoorSimL
import Derived.Test.YtkgjgehffijepabDoorLoc
set_option linter.unusedVariables false
set_option linter.unusedSimpArgs false
namespace Go.PM
section
variable {φ φ0 : Phi} {σ σ2 : Sig} {h : Nat → Option HB} {w : World} {lo : Nat}

theorem mapO_get {α β : Type} {f : α → Option β} : ∀ {xs : List α} {ys : List β}, mapO f xs = some ys → ys.length = xs.length ∧ ∀ (i : Nat) y, ys[i]? = some y → ∃ x, xs[i]? = some x ∧ f x = some y
  | [], ys, hm => by simp [mapO] at hm; subst hm; exact ⟨rfl, by simp⟩
  | x :: xs, ys, hm => by
    simp only [mapO] at hm
    split at hm
    · rename_i y ys' h1 h2
      cases hm
      obtain ⟨q1, q2⟩ := mapO_get h2
      refine ⟨by simp [q1], fun i z hz => ?_⟩
      cases i with
      | zero => simp at hz; subst hz; exact ⟨x, rfl, h1⟩
      | succ i => simp at hz ⊢; exact q2 i z hz
    · cases hm

/-- A slice of a block that nobody writes any more is a value. -/
theorem frzI_rep (hheap : ∀ id hb, h id = some hb → ∃ bi, φ id = some bi ∧ BlockAt φ σ hb bi w)
    (hblk : ∀ id hb bi, lo ≤ id → h id = some hb → φ id = some bi → ∀ o, w.heap[bi.blk]? = some o → σ2 bi.blk = some o) (hmono : ∀ b o, σ b = some o → σ2 b = some o) :
    ∀ (d : Nat) {v : DV} {iv : IV} {rv : Value}, frzI h lo d v = some iv → RepD φ σ v rv → RepI σ2 iv rv := by
  intro d
  induction d with
  | zero =>
    intro v iv rv hf hv
    cases hv with
    | imm hi => simp [frzI] at hf; subst hf; exact hi.mono hmono
    | _ => simp [frzI] at hf
  | succ d ih =>
    intro v iv rv hf hv
    cases hv with
    | imm hi => simp [frzI] at hf; subst hf; exact hi.mono hmono
    | sl hbi h1 h2 h3 =>
      rename_i id row len cap rcap bi
      simp only [frzI] at hf
      split at hf
      · rename_i hlo
        split at hf
        · rename_i hb hhb
          split at hf
          · rename_i hle
            simp only [Option.map_eq_some_iff] at hf
            obtain ⟨es, g1, rfl⟩ := hf
            obtain ⟨bi', g2, g3⟩ := hheap id hb hhb
            rw [hbi] at g2; cases g2
            obtain ⟨c, T, fr, c1, c2, c3, c4, c5⟩ := g3.cells
            have hσ := hblk id hb bi hlo hhb hbi _ c1.1
            obtain ⟨m1, m2⟩ := mapO_get g1
            have hlen : es.length = len := by rw [m1]; simp; omega
            have key : ∀ (i j : Nat) e x, es[i]? = some e → e[j]? = some x → e.length = hb.sz ∧ ∃ rv, c[(row + i) * hb.sz + j]? = some rv ∧ rv.oneCell' = true ∧ RepI σ2 x rv := fun i j e x he hx => by
              obtain ⟨r, r1, r2⟩ := m2 i e he
              obtain ⟨p1, p2⟩ := mapO_get r2
              obtain ⟨y, y1, y2⟩ := p2 j x hx
              have hr : hb.rows[row + i]? = some r := by
                have hi : i < len := by rw [← hlen]; exact (List.getElem?_eq_some_iff.1 he).1
                rw [List.getElem?_take, if_pos hi, List.getElem?_drop] at r1
                exact r1
              obtain ⟨rv, z1, z2, z3⟩ := c5 (row + i) r hr j y y1
              exact ⟨by rw [p1]; exact c4 r (List.mem_of_getElem? hr), rv, z1, z2, ih y2 z3⟩
            have hwid : ∀ e ∈ es, e.length = hb.sz := fun e he => by
              obtain ⟨i, hi, rfl⟩ := List.getElem_of_mem he
              obtain ⟨r, r1, r2⟩ := m2 i es[i] (List.getElem?_eq_getElem hi)
              obtain ⟨p1, p2⟩ := mapO_get r2
              rw [p1]
              have hi' : i < len := by rw [← hlen]; exact hi
              rw [List.getElem?_take, if_pos hi', List.getElem?_drop] at r1
              exact c4 r (List.mem_of_getElem? r1)
            have hcell : ∀ k, σ2.cell (Addr.add ⟨bi.blk, row * bi.sz, none⟩ k) = c[row * bi.sz + k]? := fun k => by
              rw [add_plain]; simp [Sig.cell, hσ]
            have := RepI.lst (σ := σ2) (full := false) (sz := hb.sz) (es := es) (a := ⟨bi.blk, row * bi.sz, none⟩) (cap := rcap) (fun i j => c.getD ((row + i) * hb.sz + j) undef)
              (by omega) (by simp) hwid (fun i j e x he hx => by
                obtain ⟨_, rv, z1, z2, z3⟩ := key i j e x he hx
                have : row * bi.sz + (i * hb.sz + j) = (row + i) * hb.sz + j := by rw [g3.sz, Nat.add_mul]; omega
                rw [hcell, this]
                simp only [Array.getD_eq_getD_getElem?, z1, Option.getD_some]
                exact ⟨trivial, z2⟩) (fun i j e x he hx => by
                obtain ⟨_, rv, z1, z2, z3⟩ := key i j e x he hx
                simp only [Array.getD_eq_getD_getElem?, z1, Option.getD_some]
                exact z3)
            rw [hlen] at this
            exact this
          · cases hf
        · cases hf
      · cases hf
    | _ => simp [frzI] at hf

theorem frzs_get : ∀ {cs cs' : List DV}, frz.frzs h lo cs = some cs' → cs'.length = cs.length ∧ ∀ (i : Nat) c', cs'[i]? = some c' → ∃ c, cs[i]? = some c ∧ frz h lo c = some c'
  | [], cs', hm => by simp [frz.frzs] at hm; subst hm; exact ⟨rfl, by simp⟩
  | x :: xs, ys, hm => by
    simp only [frz.frzs] at hm
    split at hm
    · rename_i y ys' h1 h2
      cases hm
      obtain ⟨q1, q2⟩ := frzs_get h2
      refine ⟨by simp [q1], fun i z hz => ?_⟩
      cases i with
      | zero => simp at hz; subst hz; exact ⟨x, rfl, h1⟩
      | succ i => simp at hz ⊢; exact q2 i z hz
    · cases hm

theorem snaps_get : ∀ {cs cs' : List DV}, snap.snaps h cs = some cs' → cs'.length = cs.length ∧ ∀ (i : Nat) c', cs'[i]? = some c' → ∃ c, cs[i]? = some c ∧ snap h c = some c'
  | [], cs', hm => by simp [snap.snaps] at hm; subst hm; exact ⟨rfl, by simp⟩
  | x :: xs, ys, hm => by
    simp only [snap.snaps] at hm
    split at hm
    · rename_i y ys' h1 h2
      cases hm
      obtain ⟨q1, q2⟩ := snaps_get h2
      refine ⟨by simp [q1], fun i z hz => ?_⟩
      cases i with
      | zero => simp at hz; subst hz; exact ⟨x, rfl, h1⟩
      | succ i => simp at hz ⊢; exact q2 i z hz
    · cases hm

theorem frz_rep (hheap : ∀ id hb, h id = some hb → ∃ bi, φ id = some bi ∧ BlockAt φ σ hb bi w)
    (hblk : ∀ id hb bi, lo ≤ id → h id = some hb → φ id = some bi → ∀ o, w.heap[bi.blk]? = some o → σ2 bi.blk = some o) (hmono : ∀ b o, σ b = some o → σ2 b = some o)
    (hφ : ∀ id bi, id < lo → φ id = some bi → φ0 id = some bi) {v : DV} {rv : Value} (hv : RepD φ σ v rv) : ∀ {v' : DV}, frz h lo v = some v' → RepD φ0 σ2 v' rv := by
  induction hv with
  | imm hi => intro v' hf; simp [frz] at hf; subst hf; exact .imm (hi.mono hmono)
  | ptr hb =>
    intro v' hf
    simp only [frz] at hf
    split at hf
    · rename_i hl; cases hf; exact .ptr (hφ _ _ hl hb)
    · cases hf
  | sl hb h1 h2 h3 =>
    intro v' hf
    simp only [frz] at hf
    split at hf
    · rename_i hl; cases hf; exact .sl (hφ _ _ hl hb) h1 h2 h3
    · simp only [Option.map_eq_some_iff] at hf
      obtain ⟨iv, g1, rfl⟩ := hf
      exact .imm (frzI_rep hheap hblk hmono _ g1 (.sl hb h1 h2 h3))
  | agg hl hr ih =>
    intro v' hf
    simp only [frz, Option.map_eq_some_iff] at hf
    obtain ⟨cs', g1, rfl⟩ := hf
    obtain ⟨q1, q2⟩ := frzs_get g1
    exact .agg (q1.trans hl) (fun i c v hc hv => by
      obtain ⟨c0, p1, p2⟩ := q2 i c hc
      exact ih i c0 v p1 hv p2)
  | tup hl hr ih =>
    intro v' hf
    simp only [frz, Option.map_eq_some_iff] at hf
    obtain ⟨cs', g1, rfl⟩ := hf
    obtain ⟨q1, q2⟩ := frzs_get g1
    exact .tup (q1.trans hl) (fun i c v hc hv => by
      obtain ⟨c0, p1, p2⟩ := q2 i c hc
      exact ih i c0 v p1 hv p2)
  | fnc => intro v' hf; simp [frz] at hf
  | lref => intro v' hf; simp [frz] at hf

theorem snap_rep (hheap : ∀ id hb, h id = some hb → ∃ bi, φ id = some bi ∧ BlockAt φ σ hb bi w)
    (hblk : ∀ id hb bi, h id = some hb → φ id = some bi → ∀ o, w.heap[bi.blk]? = some o → σ2 bi.blk = some o) (hmono : ∀ b o, σ b = some o → σ2 b = some o)
    {v : DV} {rv : Value} (hv : RepD φ σ v rv) : ∀ {v' : DV}, snap h v = some v' → RepD φ0 σ2 v' rv := by
  induction hv with
  | imm hi => intro v' hf; simp [snap] at hf; subst hf; exact .imm (hi.mono hmono)
  | ptr hb => intro v' hf; simp [snap] at hf
  | sl hb h1 h2 h3 =>
    intro v' hf
    simp only [snap, Option.map_eq_some_iff] at hf
    obtain ⟨iv, g1, rfl⟩ := hf
    exact .imm (frzI_rep hheap (fun id hb bi _ => hblk id hb bi) hmono _ g1 (.sl hb h1 h2 h3))
  | agg hl hr ih =>
    intro v' hf
    simp only [snap, Option.map_eq_some_iff] at hf
    obtain ⟨cs', g1, rfl⟩ := hf
    obtain ⟨q1, q2⟩ := snaps_get g1
    exact .agg (q1.trans hl) (fun i c v hc hv => by
      obtain ⟨c0, p1, p2⟩ := q2 i c hc
      exact ih i c0 v p1 hv p2)
  | tup hl hr ih => intro v' hf; simp [snap] at hf
  | fnc hl hr ih =>
    intro v' hf
    rename_i f cs vs
    cases cs with
    | nil =>
      simp [snap] at hf; subst hf
      exact .fnc hl (fun i c v hc => by simp at hc)
    | cons c cs => simp [snap] at hf
  | lref => intro v' hf; simp [snap] at hf

theorem flats_get : ∀ {cs : List DV}, DV.flat.flats cs = true → ∀ (i : Nat) c, cs[i]? = some c → c.flat = true
  | [], _, i, c, hc => by simp at hc
  | x :: xs, hf, i, c, hc => by
    simp only [DV.flat.flats, Bool.and_eq_true] at hf
    cases i with
    | zero => simp at hc; subst hc; exact hf.1
    | succ i => simp at hc; exact flats_get hf.2 i c hc
theorem pures_get : ∀ {cs : List DV}, DV.pure.pures cs = true → ∀ (i : Nat) c, cs[i]? = some c → c.pure = true
  | [], _, i, c, hc => by simp at hc
  | x :: xs, hf, i, c, hc => by
    simp only [DV.pure.pures, Bool.and_eq_true] at hf
    cases i with
    | zero => simp at hc; subst hc; exact hf.1
    | succ i => simp at hc; exact pures_get hf.2 i c hc

theorem flat_rep {v : DV} {rv : Value} (hv : RepD φ σ v rv) : v.flat = true → RepD φ0 σ2 v rv := by
  induction hv with
  | imm hi => intro hf; cases hi <;> first | exact .imm .bool | exact .imm .int | exact .imm .str | exact .imm .undef | (simp [DV.flat] at hf)
  | agg hl hr ih => intro hf; exact .agg hl (fun i c v hc hv => ih i c v hc hv (flats_get hf i c hc))
  | tup hl hr ih => intro hf; exact .tup hl (fun i c v hc hv => ih i c v hc hv (flats_get hf i c hc))
  | _ => intro hf; simp [DV.flat] at hf

theorem pure_rep {v : DV} {rv : Value} (hv : RepD φ σ v rv) : v.pure = true → RepD φ0 σ v rv := by
  induction hv with
  | imm hi => intro hf; exact .imm hi
  | agg hl hr ih => intro hf; exact .agg hl (fun i c v hc hv => ih i c v hc hv (pures_get hf i c hc))
  | fnc hl hr ih =>
    intro hf
    rename_i f cs vs
    cases cs with
    | nil => exact .fnc hl (fun i c v hc => by simp at hc)
    | cons c cs => simp [DV.pure] at hf
  | _ => intro hf; simp [DV.pure] at hf
end
end Go.PM
