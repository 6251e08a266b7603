/-
  One operation, in D and in the model: slices that are made, cut, read as texts.
-/
import Derived.Test.YtkgjgehffijepabDoorSimD
set_option linter.unusedVariables false
set_option linter.unusedSimpArgs false
namespace Go.PM
section
variable {P : Program} {lo : Nat} {Tch : Nat → Prop} {φ : Phi} {σ : Sig} {G : Nat → Option (List IV)} {T : Nat → Option DV} {L : Nat → Option LV} {h : Nat → Option HB} {a : Act} {w : World} {n : Nat}

/-- A new slice that nobody writes. -/
theorem imm_slice (hR : Rel lo Tch φ σ T L h a.tmps w) {c : Array Value} {t : TypeId} {fr : Nat × Nat} {s cap : Nat} {full : Bool} {rows : List (List IV)} {sm : Sem Value} {w' : World}
    (hsz : w'.heap.size = w.heap.size + 1) (hget : ∀ b, b < w.heap.size → w'.heap[b]? = w.heap[b]?) (hnew : w'.heap[w.heap.size]? = some (.cells c t fr)) (hos : w'.os = w.os) (hout : w'.output = w.output)
    (hrun : sm.run P w = .ok (.slice (some ⟨w.heap.size, 0, none⟩) rows.length cap) w') (hcap : rows.length ≤ cap) (hfull : full = true → cap = rows.length) (hs : ∀ r ∈ rows, r.length = s)
    (hc : ∀ (i j : Nat) r x, rows[i]? = some r → r[j]? = some x → ∃ u, c[i * s + j]? = some u ∧ u.oneCell' = true ∧ RepI σ x u) {acc : List Acc} :
    Does P lo Tch φ σ T L h a w n sm { v := .imm (.lst full s rows), n' := n, acc } := by
  obtain ⟨hr, hg⟩ := hR.pushSig (n := n) hsz hget hnew
  refine ⟨_, w', φ, _, hrun, hr, hg, .push hos hout (by omega) hget, .imm ?_, Nat.le_refl _⟩
  have hch : ∀ i j : Nat, ∃ u, ∀ r x, rows[i]? = some r → r[j]? = some x → c[i * s + j]? = some u ∧ u.oneCell' = true ∧ RepI σ x u := fun i j => by
    cases hi : rows[i]? with
    | none => exact ⟨undef, fun r x h1 _ => by cases h1⟩
    | some r =>
      cases hj : r[j]? with
      | none => exact ⟨undef, fun r' x h1 h2 => by cases h1; rw [hj] at h2; cases h2⟩
      | some x => obtain ⟨u, hu⟩ := hc i j r x hi hj; exact ⟨u, fun r' x' h1 h2 => by cases h1; rw [hj] at h2; cases h2; exact hu⟩
  have h1 : ∀ i, ∃ f : Nat → Value, ∀ j r x, rows[i]? = some r → r[j]? = some x → c[i * s + j]? = some (f j) ∧ (f j).oneCell' = true ∧ RepI σ x (f j) := fun i => Classical.axiomOfChoice (hch i)
  obtain ⟨cv, hcv⟩ := Classical.axiomOfChoice h1
  refine .lst cv hcap hfull hs (fun i j e x hi hj => ⟨?_, (hcv i j e x hi hj).2.1⟩) (fun i j e x hi hj => (hcv i j e x hi hj).2.2.mono hg.sg)
  rw [add_plain, Nat.zero_add]
  simp only [Sig.cell, sigPush, if_pos, Option.isSome_none, Bool.false_eq_true, if_false]
  exact (hcv i j e x hi hj).1

/-- A new slice of D's heap. -/
theorem mut_slice (hR : Rel lo Tch φ σ T L h a.tmps w) (hT : ∀ b, w.heap.size ≤ b → Tch b) (hf : φ n = none) {c : Array Value} {t : TypeId} {s cap : Nat} {rows : List (List DV)} {sm : Sem Value} {w' : World}
    (hsz : w'.heap.size = w.heap.size + 1) (hget : ∀ b, b < w.heap.size → w'.heap[b]? = w.heap[b]?) (hnew : w'.heap[w.heap.size]? = some (.cells c t (0, 0))) (hos : w'.os = w.os) (hout : w'.output = w.output)
    (hrun : sm.run P w = .ok (.slice (some ⟨w.heap.size, 0, none⟩) rows.length cap) w') (hcap : rows.length ≤ cap) (hcs : cap * s ≤ c.size) (hpos : 0 < s) (hs : ∀ r ∈ rows, r.length = s)
    (hc : ∀ (i : Nat) r, rows[i]? = some r → CellsAt φ σ c (i * s) r) {acc : List Acc} :
    Does P lo Tch φ σ T L h a w n sm { v := .sl n 0 rows.length rows.length, hw := [(n, some ⟨s, rows⟩)], n' := n + 1, acc } := by
  have hle : rows.length * s ≤ c.size := Nat.le_trans (Nat.mul_le_mul_right _ hcap) hcs
  have hr := hR.pushH (h := h) hT hf (w' := w') hsz hget hnew ⟨s, rows⟩ hpos hle hs hc
  refine ⟨_, w', _, σ, hrun, hr, phiPush_grow hR hf _ _, .push hos hout (by omega) hget, ?_, Nat.le_succ _⟩
  have := RepD.sl (φ := phiPush φ n ⟨w.heap.size, s, c.size⟩) (σ := σ) (id := n) (row := 0) (len := rows.length) (cap := rows.length) (rcap := cap) (bi := ⟨w.heap.size, s, c.size⟩) (by simp [phiPush]) (Nat.le_refl _) hcap (by simpa using hcs)
  simpa using this

theorem flat_get {α : Type} {xs : List α} : ∀ (m k : Nat), k < m * xs.length → ((List.replicate m xs).flatten)[k]? = xs[k % xs.length]?
  | 0, k, hk => by simp at hk
  | m + 1, k, hk => by
    rw [List.replicate_succ, List.flatten_cons, List.getElem?_append]
    split
    · rename_i h1; rw [Nat.mod_eq_of_lt h1]
    · rename_i h1
      have : xs.length ≤ k := by omega
      rw [flat_get m (k - xs.length) (by rw [Nat.add_mul, Nat.one_mul] at hk; omega), Nat.mod_eq_sub_mod this]

theorem flat_len {α : Type} {xs : List α} (m : Nat) : ((List.replicate m xs).flatten).length = m * xs.length := by simp

theorem range_get (z : Array Value) (m k : Nat) : ((Array.range m).map (fun i => z[i % z.size]!))[k]? = if k < m then some z[k % z.size]! else none := by
  simp only [Array.getElem?_map, Array.getElem?_range]
  split <;> simp

theorem rowsN_spec {α : Type} (s : Nat) : ∀ (m : Nat) (xs : List α), xs.length = m * s → (rowsN s m xs).length = m ∧ (∀ r ∈ rowsN s m xs, r.length = s) ∧
    ∀ (i j : Nat) r x, (rowsN s m xs)[i]? = some r → r[j]? = some x → xs[i * s + j]? = some x
  | 0, xs, _ => ⟨rfl, fun r hr => by simp [rowsN] at hr, fun i j r x hi _ => by simp [rowsN] at hi⟩
  | m + 1, xs, hl => by
    have hl' : (xs.drop s).length = m * s := by rw [List.length_drop, hl, Nat.add_mul, Nat.one_mul]; omega
    have hle : s ≤ xs.length := by rw [hl, Nat.add_mul, Nat.one_mul]; omega
    obtain ⟨h1, h2, h3⟩ := rowsN_spec s m (xs.drop s) hl'
    refine ⟨by simp [rowsN, h1], fun r hr => ?_, fun i j r x hi hj => ?_⟩
    · simp only [rowsN, List.mem_cons] at hr
      rcases hr with rfl | hr
      · simp; omega
      · exact h2 r hr
    · cases i with
      | zero =>
        simp only [rowsN, List.getElem?_cons_zero, Option.some.injEq] at hi
        subst hi
        rw [List.getElem?_take] at hj
        split at hj
        · rw [Nat.zero_mul, Nat.zero_add]; exact hj
        · cases hj
      | succ i =>
        simp only [rowsN, List.getElem?_cons_succ] at hi
        have := h3 i j r x hi hj
        rw [List.getElem?_drop] at this
        rw [← this]; congr 1
        rw [Nat.add_mul, Nat.one_mul]; omega

theorem mapO_spec {α β : Type} {f : α → Option β} : ∀ {xs : List α} {ys : List β}, mapO f xs = some ys → ys.length = xs.length ∧ ∀ (i : Nat) y, ys[i]? = some y → ∃ x, xs[i]? = some x ∧ f x = some y
  | [], ys, h => by simp [mapO] at h; subst h; exact ⟨rfl, fun i y hy => by simp at hy⟩
  | x :: xs, ys, h => by
    unfold mapO at h
    split at h
    · rename_i y ys' h1 h2
      cases h
      obtain ⟨g1, g2⟩ := mapO_spec h2
      refine ⟨by simp [g1], fun i z hz => ?_⟩
      cases i with
      | zero => simp at hz; subst hz; exact ⟨x, rfl, h1⟩
      | succ i => simp at hz; obtain ⟨u, q1, q2⟩ := g2 i z hz; exact ⟨u, by simpa using q1, q2⟩
    · cases h

theorem mapO_back {α β : Type} {f : α → Option β} {xs : List α} {ys : List β} (h : mapO f xs = some ys) {i : Nat} {x : α} (hx : xs[i]? = some x) : ∃ y, ys[i]? = some y ∧ f x = some y := by
  obtain ⟨h1, h2⟩ := mapO_spec h
  have hi : i < ys.length := by rw [h1]; exact (List.getElem?_eq_some_iff.1 hx).1
  obtain ⟨x', q1, q2⟩ := h2 i ys[i] (List.getElem?_eq_getElem hi)
  rw [hx] at q1; cases q1
  exact ⟨ys[i], List.getElem?_eq_getElem hi, q2⟩

theorem unImm_spec {v : DV} {i : IV} (h : unImm v = some i) : v = .imm i := by
  unfold unImm at h; split at h
  · cases h; rfl
  · cases h

theorem over_len : ∀ {ps : List (Nat × Nat × DV)} {cells cells' : List DV}, lay cells ps = some cells' → cells'.length = cells.length
  | [], _, _, h => by simp [lay] at h; subst h; rfl
  | (off, k, v) :: ps, cells, cells', h => by
    simp only [lay] at h
    split at h
    · split at h
      · rename_i c1 ho
        rw [over_len h, (over_spec ho).2.1]
      · cases h
    · cases h

theorem bsl_op (hR : Rel lo Tch φ σ T L h a.tmps w) (hG : GRel σ G) (hT : ∀ b, w.heap.size ≤ b → Tch b) {t : TypeId} {ps : Array (Nat × Operand)} {z : List IV} {qs : List (Nat × Opd)} {mt : Bool} {s len : Nat}
    (hok : (match P.underlying t with | some (.slice e) => szOk P e s && zeroOk P e z && len * s ≤ 2 ^ 24 | _ => false) = true) (hps : partsSOk ps.toList qs = true)
    {vs : List (Nat × DV)} (hvs : evParts2 G T qs = some vs) {e : Eff}
    (he : (if 0 < s ∧ z.length = s then
        match lay ((List.replicate len (imms z)).flatten) (vs.map fun p => (p.1 * s, s, p.2)) with
        | some cells =>
          if cells.all DV.scal then
            match (if mt then none else unImms cells) with
            | some us => giveI n (some (.lst true s (rowsN s len us)))
            | none => if DV.out.outs cells ∧ 0 < len then some { v := .sl n 0 len len, hw := [(n, some ⟨s, rowsN s len cells⟩)], n' := n + 1, acc := [.wX n] } else none
          else none
        | none => none
      else none) = some e) (hF : Fresh φ n e.n') : Does P lo Tch φ σ T L h a w n (Instr.buildSlice t len (ps.map fun (i, x) => (i, a.eval x))) e := by
  split at he
  · rename_i hsz
    obtain ⟨hpos, hzl⟩ := hsz
    split at he
    · rename_i cells hlay
      split at he
      · rename_i hscal
        split at hok
        · rename_i el hu
          simp only [Bool.and_eq_true, decide_eq_true_eq] at hok
          obtain ⟨⟨h1, h2⟩, h3⟩ := hok
          obtain ⟨i, v, hi, hv, hs, hg⟩ := zero_cells h2
          -- the cells before the parts
          have hz0 : RepDs φ σ ((List.replicate len (imms z)).flatten) ((Array.range (len * s)).map (fun k => (if len * s = 0 then #[] else v.cells)[k % (if len * s = 0 then (#[] : Array Value) else v.cells).size]!)) := by
            refine ⟨by simp [imms, hzl], fun k c u hk hu => ?_⟩
            have hk' : k < len * s := by
              have := (List.getElem?_eq_some_iff.1 hk).1
              rw [flat_len] at this; simpa [imms, hzl] using this
            have hne : ¬ len * s = 0 := by omega
            rw [range_get, if_pos hk'] at hu
            simp only [hne, if_false, Option.some.injEq] at hu
            rw [flat_get len k (by simpa [imms, hzl] using hk')] at hk
            obtain ⟨x, hx, rfl⟩ := imms_get hk
            have hlen : (imms z).length = v.cells.size := by simp [imms, hs]
            rw [hlen] at hx
            obtain ⟨y, q1, q2⟩ := hg _ x hx
            rw [getElem!_def, q1] at hu
            subst hu
            exact .imm (sameIV_rep q2)
          obtain ⟨hl, hr⟩ := evPartsS_rep hR hG hps hvs
          obtain ⟨c', g1, g2⟩ := fill_sim (φ := φ) (σ := σ) (place := fun i => some (i * s, s)) (ps.toList.map fun x => (x.1, a.eval x.2)) (vs.map fun p => (p.1 * s, s, p.2)) _ cells _ hz0 hlay (by simpa using hl)
            (fun j r p h1 h2 => by
              rw [List.getElem?_map] at h2
              simp only [Option.map_eq_some_iff] at h2
              obtain ⟨q, hq, rfl⟩ := h2
              obtain ⟨q1, q2⟩ := hr j r q h1 hq
              exact ⟨by rw [q1], q2⟩)
          have hrun : (Instr.buildSlice t len (ps.map fun (i, x) => (i, a.eval x))).run P w = .ok (.slice (some ⟨w.heap.size, 0, none⟩) len len) (pushed w (.cells c' el (0, 0))) := by
            simp only [Instr.buildSlice, Sem.run_bind, run_underlying' hu, Result.andThen_ok, run_sizeOf h1]
            rw [if_neg (by omega)]
            by_cases h0 : len * s = 0
            · rw [if_pos h0] at g1
              rw [if_pos h0]
              simp only [Sem.run_bind, Sem.run_pure, Result.andThen_ok, map_pair_toList]
              rw [g1]
              simp [newRow, pushed]
            · rw [if_neg h0] at g1
              rw [if_neg h0]
              simp only [Sem.run_bind, Sem.run_pure, Result.andThen_ok, run_zeroValue hi hv, map_pair_toList]
              rw [g1]
              simp [newRow, pushed]
          have hclen : cells.length = len * s := by rw [g2.1]; have := g2.1; have hfl := over_len hlay; rw [flat_len] at hfl; simp [imms, hzl] at hfl; omega
          split at he
          · rename_i us hus
            simp only [giveI, Option.map_some, Option.some.injEq] at he; subst he
            have hus' : mapO unImm cells = some us := by
              split at hus
              · cases hus
              · exact hus
            obtain ⟨m1, m2⟩ := mapO_spec hus'
            obtain ⟨r1, r2, r3⟩ := rowsN_spec s len us (by rw [m1, hclen])
            rw [show len = (rowsN s len us).length from r1.symm] at hrun
            refine imm_slice hR (pushed_size _ _) (pushed_get _ _) (pushed_new _ _) rfl rfl (by rw [r1] at hrun ⊢; exact hrun) (Nat.le_refl _) (fun _ => rfl) r2 (fun i j r x hi hj => ?_)
            have := r3 i j r x hi hj
            obtain ⟨d, d1, d2⟩ := m2 _ x this
            obtain ⟨u, q1, q2⟩ := g2.get d1
            have := unImm_spec d2
            subst this
            exact ⟨u, q1, q2.one (List.all_eq_true.1 hscal _ (List.mem_of_getElem? d1)), repD_imm q2⟩
          · split at he
            · rename_i ho
              cases he
              obtain ⟨r1, r2, r3⟩ := rowsN_spec s len cells hclen
              have := mut_slice (n := n) hR hT (hF n (Nat.le_refl _) (Nat.lt_succ_self _)) (rows := rowsN s len cells) (cap := len) (sm := Instr.buildSlice t len (ps.map fun (i, x) => (i, a.eval x))) (pushed_size _ _) (pushed_get _ _) (pushed_new _ (.cells c' el (0, 0))) rfl rfl
                (by rw [r1]; exact hrun) (by rw [r1]; exact Nat.le_refl _) (by rw [← g2.1, hclen]; exact Nat.le_refl _) hpos r2 (fun i r hi j x hj => by
                  have := r3 i j r x hi hj
                  obtain ⟨u, q1, q2⟩ := g2.get this
                  exact ⟨u, q1, q2.one (List.all_eq_true.1 hscal _ (List.mem_of_getElem? this)), q2⟩) (acc := [.wX n])
              rw [r1] at this
              exact this
            · cases he
        · cases hok
      · cases he
    · cases he
  · cases he
end
end Go.PM
