/-
  One operation, in D and in the model: what is made.
-/
import Derived.Test.YtkgjgehffijepabDoorSimC
set_option linter.unusedVariables false
set_option linter.unusedSimpArgs false
namespace Go.PM
section
variable {P : Program} {lo : Nat} {Tch : Nat → Prop} {φ : Phi} {σ : Sig} {G : Nat → Option (List IV)} {T : Nat → Option DV} {L : Nat → Option LV} {h : Nat → Option HB} {a : Act} {w : World} {n : Nat}

def pushed (w : World) (o : Obj) : World := { w with heap := w.heap.push o }
theorem pushed_size (w : World) (o : Obj) : (pushed w o).heap.size = w.heap.size + 1 := by simp [pushed]
theorem pushed_get (w : World) (o : Obj) : ∀ b, b < w.heap.size → (pushed w o).heap[b]? = w.heap[b]? := fun b hb => by
  simp only [pushed, Array.getElem?_push, if_neg (show ¬ b = w.heap.size by omega)]
theorem pushed_new (w : World) (o : Obj) : (pushed w o).heap[w.heap.size]? = some o := by
  show (w.heap.push o)[w.heap.size]? = some o
  rw [Array.getElem?_push, if_pos rfl]
theorem pushed_fr (w : World) (o : Obj) : Fr Tch w (pushed w o) := .push rfl rfl (by rw [pushed_size]; omega) (pushed_get w o)

theorem run_newVar (t : TypeId) (v : Value) : (newVar t v).run P w = .ok ⟨w.heap.size, 0, none⟩ (pushed w (.cells v.cells t (0, 0))) := by simp [newVar, newRow, pushed]

theorem RepDs.at {cs : List DV} {vs : Array Value} (hr : RepDs φ σ cs vs) (hs : cs.all DV.scal = true) : CellsAt φ σ vs 0 cs := fun j v hj => by
  obtain ⟨rv, h1, h2⟩ := hr.get hj
  exact ⟨rv, by rw [Nat.zero_add]; exact h1, h2.one (List.all_eq_true.1 hs v (List.mem_of_getElem? hj)), h2⟩

theorem boxL_op (hR : Rel lo Tch φ σ T L h a.tmps w) (hT : ∀ b, w.heap.size ≤ b → Tch b) (hf : φ n = none) {t : TypeId} {v : DV} {rv : Value} (hv : RepD φ σ v rv) (hs : v.cells.all DV.scal = true) (dst : Nat) :
    Does P lo Tch φ σ T L h a w n (Instr.box t rv) { v := .lref dst n 0, lw := [(dst, .box n v.cells)], n' := n + 1, acc := [.wL dst] } := by
  have hc := hv.cells
  have hr := hR.pushL (h := h) (L := L) hT hf (o := .cells rv.cells t (0, 0)) (w' := pushed w _) (pushed_size _ _) (pushed_get _ _) (pushed_new _ _) dst v.cells.length rv.cells.size (.box n v.cells) rfl
    (fun φ' hp => .box (hR.sigNone (Nat.le_refl _)) (pushed_new _ _) hc.1.symm ((hc.at hs).mono hp (fun _ _ h => h)))
  refine ⟨.pointer (some ⟨w.heap.size, 0, none⟩), _, _, σ, by simp [Instr.box, run_newVar], hr, phiPush_grow hR hf _ _, pushed_fr _ _, .lref (bi := ⟨w.heap.size, _, _⟩) (by simp [phiPush]; exact ⟨rfl, rfl⟩), Nat.le_succ _⟩

theorem boxH_op (hR : Rel lo Tch φ σ T L h a.tmps w) (hT : ∀ b, w.heap.size ≤ b → Tch b) (hf : φ n = none) {t : TypeId} {v : DV} {rv : Value} (hv : RepD φ σ v rv) (hs : v.cells.all DV.scal = true) (hp : 0 < v.cells.length) :
    Does P lo Tch φ σ T L h a w n (Instr.box t rv) { v := .ptr n 0 0, hw := [(n, some ⟨v.cells.length, [v.cells]⟩)], n' := n + 1, acc := [.wX n] } := by
  have hc := hv.cells
  have hr := hR.pushH (h := h) hT hf (c := rv.cells) (t := t) (w' := pushed w _) (pushed_size _ _) (pushed_get _ _) (pushed_new _ _) ⟨v.cells.length, [v.cells]⟩ hp (by simp [hc.1]) (by simp) (fun i r hi => by
    cases i with
    | zero => simp at hi; subst hi; rw [Nat.zero_mul]; exact hc.at hs
    | succ i => simp at hi)
  refine ⟨.pointer (some ⟨w.heap.size, 0, none⟩), _, _, σ, by simp [Instr.box, run_newVar], hr, phiPush_grow hR hf _ _, pushed_fr _ _, ?_, Nat.le_succ _⟩
  have := RepD.ptr (φ := phiPush φ n ⟨w.heap.size, v.cells.length, rv.cells.size⟩) (σ := σ) (id := n) (row := 0) (off := 0) (bi := ⟨w.heap.size, v.cells.length, rv.cells.size⟩) (by simp [phiPush])
  simpa using this

theorem zero_cells {z : List IV} {t : TypeId} (hz : zeroOk P t z = true) : ∃ i v, P.info? t = some i ∧ i.zero = some v ∧ v.cells.size = z.length ∧ (∀ (j : Nat) x, z[j]? = some x → ∃ u, v.cells[j]? = some u ∧ sameIV u x = true) := by
  unfold zeroOk at hz
  split at hz
  · rename_i i hi
    split at hz
    · rename_i v hv
      simp only [Bool.and_eq_true] at hz
      obtain ⟨h1, h2⟩ := sameIVs_spec (σ := fun _ => none) hz.1
      exact ⟨i, v, hi, hv, by simpa using h1, fun j x hx => by obtain ⟨u, g1, g2⟩ := h2 j x hx; exact ⟨u, by simpa using g1, g2⟩⟩
    · cases hz
  · cases hz

theorem run_zeroValue {t : TypeId} {i : TypeInfo} {v : Value} (hi : P.info? t = some i) (hv : i.zero = some v) : (zeroValue t).run P w = .ok v w := by simp [zeroValue, run_typeInfo hi, hv]

theorem zeroOk_noUndef {z : List IV} {t : TypeId} (hz : zeroOk P t z = true) : noUndef z = true := by
  unfold zeroOk at hz
  split at hz
  · split at hz
    · simp only [Bool.and_eq_true] at hz; exact hz.2
    · cases hz
  · cases hz

theorem zero_at {z : List IV} {c : Array Value} (hz : ∀ (j : Nat) x, z[j]? = some x → ∃ u, c[j]? = some u ∧ sameIV u x = true) (hn : noUndef z = true) : CellsAt φ σ c 0 (imms z) := fun j v hj => by
  obtain ⟨x, hx, rfl⟩ := imms_get hj
  obtain ⟨u, g1, g2⟩ := hz j x hx
  refine ⟨u, by rw [Nat.zero_add]; exact g1, oneCell_of_same g2 (fun e => ?_), .imm (sameIV_rep g2)⟩
  have := List.all_eq_true.1 hn x (List.mem_of_getElem? hx)
  subst e; cases this

theorem alL_op (hR : Rel lo Tch φ σ T L h a.tmps w) (hT : ∀ b, w.heap.size ≤ b → Tch b) (hf : φ n = none) {t : TypeId} {z : List IV} (hz : zeroOk P t z = true) (hn : noUndef z = true) (dst : Nat) :
    Does P lo Tch φ σ T L h a w n (Instr.alloc t true (.tuple #[])) { v := .lref dst n 0, lw := [(dst, .box n (imms z))], n' := n + 1, acc := [.wL dst] } := by
  obtain ⟨i, v, hi, hv, hs, hg⟩ := zero_cells hz
  have hr := hR.pushL (h := h) (L := L) hT hf (o := .cells v.cells t (0, 0)) (w' := pushed w _) (pushed_size _ _) (pushed_get _ _) (pushed_new _ _) dst z.length v.cells.size (.box n (imms z)) rfl
    (fun φ' hp => .box (hR.sigNone (Nat.le_refl _)) (pushed_new _ _) (by simp [imms, hs]) (zero_at hg hn))
  refine ⟨.pointer (some ⟨w.heap.size, 0, none⟩), _, _, σ, by simp [Instr.alloc, run_zeroValue hi hv, run_newVar], hr, phiPush_grow hR hf _ _, pushed_fr _ _, .lref (bi := ⟨w.heap.size, _, _⟩) (by simp [phiPush]; exact ⟨rfl, rfl⟩), Nat.le_succ _⟩

theorem alH_op (hR : Rel lo Tch φ σ T L h a.tmps w) (hT : ∀ b, w.heap.size ≤ b → Tch b) (hf : φ n = none) {t : TypeId} {z : List IV} (hz : zeroOk P t z = true) (hn : noUndef z = true) (hp : 0 < z.length) :
    Does P lo Tch φ σ T L h a w n (Instr.alloc t true (.tuple #[])) { v := .ptr n 0 0, hw := [(n, some ⟨z.length, [imms z]⟩)], n' := n + 1, acc := [.wX n] } := by
  obtain ⟨i, v, hi, hv, hs, hg⟩ := zero_cells hz
  have hr := hR.pushH (h := h) hT hf (c := v.cells) (t := t) (w' := pushed w _) (pushed_size _ _) (pushed_get _ _) (pushed_new _ _) ⟨z.length, [imms z]⟩ hp (by simp [hs]) (by simp [imms]) (fun i r hi => by
    cases i with
    | zero => simp at hi; subst hi; rw [Nat.zero_mul]; exact zero_at hg hn
    | succ i => simp at hi)
  refine ⟨.pointer (some ⟨w.heap.size, 0, none⟩), _, _, σ, by simp [Instr.alloc, run_zeroValue hi hv, run_newVar], hr, phiPush_grow hR hf _ _, pushed_fr _ _, ?_, Nat.le_succ _⟩
  have := RepD.ptr (φ := phiPush φ n ⟨w.heap.size, z.length, v.cells.size⟩) (σ := σ) (id := n) (row := 0) (off := 0) (bi := ⟨w.heap.size, z.length, v.cells.size⟩) (by simp [phiPush])
  simpa using this

/-! ### Rows made of parts -/

theorem foldl_set (off : Nat) : ∀ (vs : List Value) (k : Nat) (cs : Array Value), off + k + vs.length ≤ cs.size →
    (vs.zipIdx k).foldl (fun cs (x : Value × Nat) => cs.setIfInBounds (off + x.2) x.1) cs = laidOver cs (off + k) vs
  | [], k, cs, h => by simp [laidOver]
  | v :: vs, k, cs, h => by
    simp only [List.zipIdx_cons, List.foldl_cons]
    simp at h
    rw [setIf_laidOver cs (off + k) v (by omega), foldl_set off vs (k + 1) _ (by rw [laidOver_size (by simp; omega)]; omega)]
    rw [show off + (k + 1) = off + k + 1 by omega, laidOver_cons cs (off + k) v vs (by omega)]

/-- A part laid over cells, in D and in the model. -/
theorem over_laid {cells cells' p : List DV} {c : Array Value} {vp : Array Value} {off : Nat} (hc : RepDs φ σ cells c) (hp : RepDs φ σ p vp) (ho : over cells off p = some cells') :
    off + vp.size ≤ c.size ∧ RepDs φ σ cells' (laidOver c off vp.toList) := by
  obtain ⟨h1, h2, h3⟩ := over_spec ho
  have hcs := hc.1
  have hps := hp.1
  have hle : off + vp.toList.length ≤ c.size := by simp; omega
  refine ⟨by omega, by rw [h2, hc.1, laidOver_size hle], fun i x v hx hv => ?_⟩
  rw [laidOver_get hle] at hv
  rw [h3 i] at hx
  by_cases c1 : i < off
  · rw [if_pos c1] at hx hv; exact hc.2 i x v hx hv
  · rw [if_neg c1] at hx hv
    by_cases c2 : i < off + p.length
    · rw [if_pos c2] at hx
      rw [if_pos (by simp; omega)] at hv
      exact hp.2 _ x v hx (by simpa using hv)
    · rw [if_neg c2] at hx
      rw [if_neg (by simp; omega)] at hv
      exact hc.2 i x v hx hv

/-- All parts. rs: the parts in the model. -/
theorem fill_sim {place : Nat → Option (Nat × Nat)} : ∀ (rs : List (Nat × Value)) (ps : List (Nat × Nat × DV)) (cells cells' : List DV) (c : Array Value), RepDs φ σ cells c → lay cells ps = some cells' →
    rs.length = ps.length → (∀ (j : Nat) r p, rs[j]? = some r → ps[j]? = some p → place r.1 = some (p.1, p.2.1) ∧ RepD φ σ p.2.2 r.2) →
    ∃ c', Instr.fill place c rs = some c' ∧ RepDs φ σ cells' c'
  | [], [], cells, cells', c, hc, hl, _, _ => by simp [lay] at hl; subst hl; exact ⟨c, rfl, hc⟩
  | (i, v) :: rs, (off, k, d) :: ps, cells, cells', c, hc, hl, hlen, hj => by
    obtain ⟨hp, hr⟩ := hj 0 _ _ rfl rfl
    simp only at hp hr
    simp only [lay] at hl
    split at hl
    · rename_i hk
      split at hl
      · rename_i cells1 ho
        have hd := hr.cells
        obtain ⟨h1, h2⟩ := over_laid hc hd ho
        obtain ⟨c', g1, g2⟩ := fill_sim rs ps cells1 cells' _ h2 hl (by simpa using hlen) (fun j r p h1 h2 => hj (j + 1) r p (by simpa using h1) (by simpa using h2))
        refine ⟨c', ?_, g2⟩
        have hsz : v.cells.size = k := by rw [← hd.1]; exact hk
        unfold Instr.fill
        simp only [hp]
        rw [if_neg (by simp [hsz]; omega)]
        have := foldl_set off v.cells.toList 0 c (by simp; omega)
        rw [Nat.add_zero] at this
        rw [← Array.foldl_toList, Array.toList_zipIdx, this]
        exact g1
      · cases hl
    · cases hl
  | [], _ :: _, _, _, _, _, _, h, _ => by simp at h
  | _ :: _, [], _, _, _, _, _, h, _ => by simp at h

theorem evParts_rep (hR : Rel lo Tch φ σ T L h a.tmps w) (hG : GRel σ G) {fs : Array Field} : ∀ {ps : List (Nat × Operand)} {qs : List (Nat × Nat × Opd)}, partsOk P fs ps qs = true → ∀ {vs : List (Nat × Nat × DV)}, evParts G T qs = some vs →
    ps.length = vs.length ∧ ∀ (j : Nat) r p, (ps.map fun x => (x.1, a.eval x.2))[j]? = some r → vs[j]? = some p →
      (∃ f, fs[r.1]? = some f ∧ f.offset = p.1 ∧ szOk P f.type p.2.1 = true) ∧ RepD φ σ p.2.2 r.2
  | [], [], _, vs, hv => by simp [evParts] at hv; subst hv; exact ⟨rfl, fun j r p h1 _ => by simp at h1⟩
  | (i, x) :: ps, (off, k, y) :: qs, hok, vs, hv => by
    simp only [partsOk, Bool.and_eq_true] at hok
    obtain ⟨⟨h1, h2⟩, h3⟩ := hok
    simp only [evParts] at hv
    split at hv
    · rename_i v vs' e1 e2
      cases hv
      obtain ⟨hl, hr⟩ := evParts_rep hR hG h3 e2
      refine ⟨by simp [hl], fun j r p hj hp => ?_⟩
      cases j with
      | zero =>
        simp at hj hp; subst hj hp
        refine ⟨?_, ev_rep hR hG h2 e1⟩
        split at h1
        · rename_i f hf; simp at h1; exact ⟨f, hf, h1.1, h1.2⟩
        · cases h1
      | succ j => simp at hj hp; exact hr j r p (by simpa using hj) hp
    · cases hv
  | [], _ :: _, hok, _, _ => by simp [partsOk] at hok
  | _ :: _, [], hok, _, _ => by simp [partsOk] at hok

theorem evPartsA_rep (hR : Rel lo Tch φ σ T L h a.tmps w) (hG : GRel σ G) {el : TypeId} {m : Nat} : ∀ {ps : List (Nat × Operand)} {qs : List (Nat × Nat × Opd)}, partsAOk el m ps qs = true → ∀ {vs : List (Nat × Nat × DV)}, evParts G T qs = some vs →
    ps.length = vs.length ∧ ∀ (j : Nat) r p, (ps.map fun x => (x.1, a.eval x.2))[j]? = some r → vs[j]? = some p → (p.1 = r.1 * m ∧ p.2.1 = m) ∧ RepD φ σ p.2.2 r.2
  | [], [], _, vs, hv => by simp [evParts] at hv; subst hv; exact ⟨rfl, fun j r p h1 _ => by simp at h1⟩
  | (i, x) :: ps, (off, k, y) :: qs, hok, vs, hv => by
    simp only [partsAOk, Bool.and_eq_true, beq_iff_eq] at hok
    obtain ⟨⟨⟨h1, h1'⟩, h2⟩, h3⟩ := hok
    simp only [evParts] at hv
    split at hv
    · rename_i v vs' e1 e2
      cases hv
      obtain ⟨hl, hr⟩ := evPartsA_rep hR hG h3 e2
      refine ⟨by simp [hl], fun j r p hj hp => ?_⟩
      cases j with
      | zero => simp at hj hp; subst hj hp; exact ⟨⟨h1, h1'⟩, ev_rep hR hG h2 e1⟩
      | succ j => simp at hj hp; exact hr j r p (by simpa using hj) hp
    · cases hv
  | [], _ :: _, hok, _, _ => by simp [partsAOk] at hok
  | _ :: _, [], hok, _, _ => by simp [partsAOk] at hok

theorem evPartsS_rep (hR : Rel lo Tch φ σ T L h a.tmps w) (hG : GRel σ G) : ∀ {ps : List (Nat × Operand)} {qs : List (Nat × Opd)}, partsSOk ps qs = true → ∀ {vs : List (Nat × DV)}, evParts2 G T qs = some vs →
    ps.length = vs.length ∧ ∀ (j : Nat) r p, (ps.map fun x => (x.1, a.eval x.2))[j]? = some r → vs[j]? = some p → p.1 = r.1 ∧ RepD φ σ p.2 r.2
  | [], [], _, vs, hv => by simp [evParts2] at hv; subst hv; exact ⟨rfl, fun j r p h1 _ => by simp at h1⟩
  | (i, x) :: ps, (k, y) :: qs, hok, vs, hv => by
    simp only [partsSOk, Bool.and_eq_true, beq_iff_eq] at hok
    obtain ⟨⟨h1, h2⟩, h3⟩ := hok
    simp only [evParts2] at hv
    split at hv
    · rename_i v vs' e1 e2
      cases hv
      obtain ⟨hl, hr⟩ := evPartsS_rep hR hG h3 e2
      refine ⟨by simp [hl], fun j r p hj hp => ?_⟩
      cases j with
      | zero => simp at hj hp; subst hj hp; exact ⟨h1.symm, ev_rep hR hG h2 e1⟩
      | succ j => simp at hj hp; exact hr j r p (by simpa using hj) hp
    · cases hv
  | [], _ :: _, hok, _, _ => by simp [partsSOk] at hok
  | _ :: _, [], hok, _, _ => by simp [partsSOk] at hok

theorem zero_reps {z : List IV} {c : Array Value} (hs : c.size = z.length) (hz : ∀ (j : Nat) x, z[j]? = some x → ∃ u, c[j]? = some u ∧ sameIV u x = true) : RepDs φ σ (imms z) c := by
  refine ⟨by simp [imms, hs], fun i x v hx hv => ?_⟩
  obtain ⟨y, hy, rfl⟩ := imms_get hx
  obtain ⟨u, g1, g2⟩ := hz i y hy
  rw [g1] at hv; cases hv
  exact .imm (sameIV_rep g2)

theorem map_pair_toList (ps : Array (Nat × Operand)) : (ps.map fun (i, x) => (i, a.eval x)).toList = ps.toList.map fun x => (x.1, a.eval x.2) := by simp

theorem run_placesL (g : Field → Sem (Nat × Nat)) (hgf : ∀ f inf, P.info? f.type = some inf → (g f).run P w = .ok (f.offset, inf.size) w) : ∀ (l : List Field), (∀ f ∈ l, (P.info? f.type).isSome = true) →
    (l.mapM g).run P w = .ok (l.map fun f => (f.offset, ((P.info? f.type).map (·.size)).getD 0)) w
  | [], _ => by simp
  | f :: l, hall => by
    obtain ⟨inf, hinf⟩ := Option.isSome_iff_exists.1 (hall f (by simp))
    have ih := run_placesL g hgf l (fun x hx => hall x (by simp [hx]))
    rw [List.mapM_cons]
    simp only [Sem.run_bind, hgf f inf hinf, Result.andThen_ok, ih, Sem.run_pure, List.map_cons, hinf, Option.map_some, Option.getD_some]

theorem run_places (fs : Array Field) (h1 : allSz P fs = true) : (fs.mapM (fun f => (do pure (f.offset, ← sizeOf f.type) : Sem (Nat × Nat)))).run P w = .ok (fs.map fun f => (f.offset, ((P.info? f.type).map (·.size)).getD 0)) w := by
  have := run_placesL (P := P) (w := w) (fun f => (do pure (f.offset, ← sizeOf f.type) : Sem (Nat × Nat))) (fun f inf hinf => by simp [sizeOf, run_typeInfo hinf]) fs.toList (fun f hf => by
    have := Array.all_eq_true_iff_forall_mem.1 h1 f (by simpa using hf); exact this)
  rw [Array.mapM_eq_mapM_toList]
  rw [Sem.run_map, this]
  simp only [Result.andThen_ok]
  congr 1
  apply Array.ext'
  rw [Array.toList_map]

theorem build_op (hR : Rel lo Tch φ σ T L h a.tmps w) (hG : GRel σ G) {t : TypeId} {ps : Array (Nat × Operand)} {z : List IV} {qs : List (Nat × Nat × Opd)} (hz : zeroOk P t z = true)
    (hok : (match P.underlying t with
      | some (.struct fs) => allSz P fs && partsOk P fs ps.toList qs
      | some (.array _ e) => (match P.info? e with | some i => partsAOk e i.size ps.toList qs | none => false)
      | _ => false) = true) {vs : List (Nat × Nat × DV)} (hvs : evParts G T qs = some vs) {e : Eff} (he : give n ((lay (imms z) vs).map .agg) = some e) :
    Does P lo Tch φ σ T L h a w n (Instr.build t (ps.map fun (i, x) => (i, a.eval x))) e := by
  obtain ⟨i, v, hi, hv, hs, hg⟩ := zero_cells hz
  simp only [give, Option.map_map, Option.map_eq_some_iff, Function.comp] at he
  obtain ⟨cells, hlay, rfl⟩ := he
  have hzr : RepDs φ σ (imms z) v.cells := zero_reps hs hg
  split at hok
  · rename_i fs hu
    simp only [Bool.and_eq_true] at hok
    obtain ⟨h1, h2⟩ := hok
    obtain ⟨hl, hr⟩ := evParts_rep (P := P) hR hG h2 hvs
    have hpl := run_places (w := w) fs h1
    obtain ⟨c', g1, g2⟩ := fill_sim (φ := φ) (σ := σ) (place := fun k => (fs.map fun f => (f.offset, ((P.info? f.type).map (·.size)).getD 0))[k]?) (ps.toList.map fun x => (x.1, a.eval x.2)) vs (imms z) cells v.cells hzr hlay (by simpa using hl)
      (fun j r p h1 h2 => by
        obtain ⟨⟨f, q1, q2, q3⟩, q4⟩ := hr j r p h1 h2
        refine ⟨?_, q4⟩
        unfold szOk at q3
        split at q3
        · rename_i inf hinf
          simp at q3
          simp [q1, q2, hinf, q3]
        · cases q3)
    refine .pure hR (rv := .agg c') ?_ (.agg g2.1 g2.2)
    simp only [Instr.build, Sem.run_bind, run_zeroValue hi hv, Result.andThen_ok, run_underlying' hu, hpl, map_pair_toList, g1, Sem.run_pure]
  · rename_i m el hu
    split at hok
    · rename_i inf hinf
      obtain ⟨hl, hr⟩ := evPartsA_rep hR hG hok hvs
      obtain ⟨c', g1, g2⟩ := fill_sim (φ := φ) (σ := σ) (place := fun i => some (i * inf.size, inf.size)) (ps.toList.map fun x => (x.1, a.eval x.2)) vs (imms z) cells v.cells hzr hlay (by simpa using hl)
        (fun j r p h1 h2 => by obtain ⟨⟨q1, q2⟩, q3⟩ := hr j r p h1 h2; exact ⟨by rw [q1, q2], q3⟩)
      refine .pure hR (rv := .agg c') ?_ (.agg g2.1 g2.2)
      simp only [Instr.build, Sem.run_bind, run_zeroValue hi hv, Result.andThen_ok, run_underlying' hu, sizeOf, run_typeInfo hinf, map_pair_toList, g1, Sem.run_pure]
    · cases hok
  · cases hok
end
end Go.PM
