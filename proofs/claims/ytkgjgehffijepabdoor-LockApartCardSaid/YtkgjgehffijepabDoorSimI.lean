/-
  One operation, in D and in the model: append, whole; walks over texts.
-/
import Derived.Test.YtkgjgehffijepabDoorSimH
set_option linter.unusedVariables false
set_option linter.unusedSimpArgs false
namespace Go.PM
section
variable {P : Program} {lo : Nat} {Tch : Nat → Prop} {φ : Phi} {σ : Sig} {G : Nat → Option (List IV)} {T : Nat → Option DV} {L : Nat → Option LV} {h : Nat → Option HB} {a : Act} {w : World} {n : Nat}

theorem grow_out (hR : Rel lo Tch φ σ T L h a.tmps w) (hT : ∀ b, w.heap.size ≤ b → Tch b) (hf : φ n = none) {el : TypeId} {s cap : Nat} {rows ys : List (List DV)} {olds vals : List Value} {rest : Array Value}
    (ho : SrcVals φ σ s rows olds) (hv : SrcVals φ σ s ys vals) (hpos : 0 < s) (hcap : (rows ++ ys).length ≤ cap) (hrest : rest.size = (cap - (rows ++ ys).length) * s) {sm : Sem Value}
    (hrun : sm.run P w = .ok (.slice (some ⟨w.heap.size, 0, none⟩) (rows ++ ys).length cap) (w.drew.alloc (.cells (olds.toArray ++ vals.toArray ++ rest) el))) {acc : List Acc} :
    Does P lo Tch φ σ T L h a w n sm { v := .sl n 0 (rows ++ ys).length (rows ++ ys).length, hw := [(n, some ⟨s, rows ++ ys⟩)], n' := n + 1, acc } := by
  refine mut_slice (t := el) (c := olds.toArray ++ vals.toArray ++ rest) hR hT hf (w' := w.drew.alloc _) (by simp) (fun b hb => heap_alloc_old w.drew _ hb) (heap_alloc_new w.drew _) rfl rfl hrun hcap ?_ hpos (fun r hr => ?_) (fun i r hi => cellsAt_new ho hv hi)
  · simp only [Array.size_append, List.size_toArray, ho.1, hv.1, hrest]
    simp only [List.length_append] at hcap ⊢
    rw [← Nat.add_mul, ← Nat.add_mul]
    exact Nat.mul_le_mul_right _ (by omega)
  · simp only [List.mem_append] at hr
    rcases hr with hr | hr
    · exact ho.2.2.1 r hr
    · exact hv.2.2.1 r hr

theorem grownCap_ge (w : World) (need old : Nat) (el : TypeId) : need ≤ grownCap w need old el := by
  exact Nat.le_add_right _ _

theorem zeroCells_size (z : Array Value) (k : Nat) : (Builtin.zeroCells z k).size = k * z.size := by simp [Builtin.zeroCells]

theorem drew_cell (w : World) (ad : Addr) : w.drew.cell? ad = w.cell? ad := rfl

theorem srcOf_rows {v : DV} {src : Option Nat} {s : Nat} {rows : List (List DV)} (hrow : rowsOf h v = some (src, s, rows)) : srcOf h v = some (src, s, rows) := by
  cases v with
  | imm x => cases x <;> first | exact hrow | (simp [rowsOf] at hrow)
  | _ => exact hrow

theorem app_op (hR : Rel lo Tch φ σ T L h a.tmps w) (hT : ∀ b, w.heap.size ≤ b → Tch b) {ts : Array TypeId} {ty el : TypeId} {s b : Nat} {z : Value} (hok : AppOk P ts el s b z) (hzs : z.cells.size = s)
    {x y : DV} {rx ry : Value} (hx : RepD φ σ x rx) (hy : RepD φ σ y ry) {e : Eff} (he : appOf h n lo s b x y = some e) (hF : Fresh φ n e.n') :
    Does P lo Tch φ σ T L h a w n (Builtin.append_ ts ty #[rx, ry]) e := by
  unfold appOf at he
  split at he
  · cases he
  · rename_i src sb ys hsrc
    simp only at he
    split at he
    · -- nothing is appended
      rename_i hnil
      obtain ⟨vals, h1, h2, h3⟩ := src_vals (P := P) hR hy hsrc (s := s) (.inr hnil)
      have hv0 : vals = [] := List.length_eq_zero_iff.1 (by rw [h3.1.1, hnil]; simp)
      have h1' := h1 w (fun _ => rfl)
      rw [hnil] at h2 h1'
      rw [hv0] at h1'
      have key : ∀ base sLen sCap, sLen ≤ sCap → rx = .slice base sLen sCap → Does P lo Tch φ σ T L h a w n (Builtin.append_ ts ty #[rx, ry]) { v := x, n' := n, acc := raccOf src } := fun base sLen sCap hle hrx => by
        refine .pure hR (rv := rx) ?_ hx
        have := run_append_fit (P := P) (ty := ty) hok (base := base) (sLen := sLen) (sCap := sCap) (n' := 0) (x := ry) (vals := []) h2 h1' (by omega) (w' := w) (fun ad _ => by simp [storeCells]) (fun _ => rfl)
        rw [hrx]; simpa using this
      split at he
      · cases he; cases hx with | imm hi => cases hi; exact key none 0 0 (Nat.le_refl _) rfl
      · cases he; cases hx with | imm hi => cases hi with | lst cv hcap hfull hsz hc hr => exact key _ _ _ hcap rfl
      · cases he; cases hx with | sl hb q1 q2 q3 => exact key _ _ _ (by omega) rfl
      · cases he
    · rename_i hnil
      split at he
      · rename_i hs
        obtain ⟨hsb, hpos⟩ := hs
        obtain ⟨vals, h1, h2, h3, _⟩ := src_vals (P := P) hR hy hsrc (s := s) (.inl hsb)
        have h1w := h1 w (fun _ => rfl)
        have h1d := h1 w.drew (drew_cell w)
        have hysl : 0 < ys.length := List.length_pos_iff.2 hnil
        -- a new row
        have grow : ∀ (base : Option Addr) (sLen sCap : Nat) (rows : List (List DV)) (olds : List Value) (acc : List Acc), rx = .slice base sLen sCap → rows.length = sLen → SrcVals φ σ s rows olds →
            (Builtin.firstCells s sLen (.slice base sLen sCap)).run P w.drew = .ok olds.toArray w.drew → sCap < sLen + ys.length → sLen + ys.length ≤ appMax → (sLen + ys.length) * b ≤ appMax → φ n = none →
            Does P lo Tch φ σ T L h a w n (Builtin.append_ ts ty #[rx, ry]) { v := .sl n 0 (rows ++ ys).length (rows ++ ys).length, hw := [(n, some ⟨s, rows ++ ys⟩)], n' := n + 1, acc } :=
          fun base sLen sCap rows olds acc hrx hrl ho hold hgt hmx hmxb hfn => by
            subst hrl
            have hrun := run_append_grow (P := P) (ty := ty) hok (base := base) (sCap := sCap) h2 h1d hold hgt hmx hmxb
            rw [hrx]
            have hlen : (rows ++ ys).length = rows.length + ys.length := by simp
            refine grow_out (el := el) (cap := grownCap w (rows.length + ys.length) sCap el) hR hT hfn ho h3 hpos (by rw [hlen]; exact grownCap_ge _ _ _ _) (by rw [zeroCells_size, hzs, hlen]) ?_
            rw [hlen]; exact hrun
        split at he
        · -- onto nil
          split at he
          · rename_i hmx
            cases he
            cases hx with
            | imm hi =>
              cases hi with
              | nils =>
                have := grow none 0 0 [] [] (.wX n :: raccOf src) rfl rfl ⟨by simp, fun v hv => by simp at hv, fun r hr => by simp at hr, fun i j r c hi _ => by simp at hi⟩ (by simp [Builtin.firstCells]) (by omega)
                  (by rw [Nat.zero_add]; exact hmx.1) (by rw [Nat.zero_add]; exact hmx.2) (hF n (Nat.le_refl _) (Nat.lt_succ_self _))
                simpa using this
          · cases he
        · -- onto one that is full
          rename_i sz es
          split at he
          · rename_i hmx
            obtain ⟨rfl, hm1, hm2⟩ := hmx
            cases he
            have hrow : rowsOf h (.imm (.lst true sz es)) = some (none, sz, es.map imms) := rfl
            obtain ⟨olds, o1, o2, o3, _⟩ := src_vals (P := P) hR hx (srcOf_rows hrow) (s := sz) (.inl rfl)
            cases hx with
            | imm hi =>
              cases hi with
              | lst cv hcap hfull hsz hc hr =>
                have hcap' := hfull rfl
                subst hcap'
                have hold := o1 w.drew (drew_cell w)
                rw [List.length_map] at hold
                have := grow (some _) es.length es.length (es.map imms) olds (.wX n :: raccOf src) rfl (by simp) o3 hold (by omega) hm1 hm2 (hF n (Nat.le_refl _) (Nat.lt_succ_self _))
                simpa using this
          · cases he
        · rename_i id row len cap
          split at he
          · rename_i hlo
            obtain ⟨hlo, hne⟩ := hlo
            split at he
            · rename_i hb hid
              split at he
              · rename_i hbs
                cases hx with
                | sl hbi q1 q2 q3 =>
                  rename_i rcap bi
                  obtain ⟨bi', g1, g2, g3⟩ := hR.heap _ _ hid
                  rw [hbi] at g1; cases g1
                  obtain ⟨c, ct, cf, c1, c2, c3, c4, c5⟩ := g2.cells
                  have hbz : bi.sz = s := g2.sz.trans hbs
                  -- in place
                  have inPlace : ∀ k, k = row + len → k ≤ hb.rows.length → len + ys.length ≤ rcap → (k + ys.length) * s ≤ c.size →
                      (Builtin.append_ ts ty #[.slice (some ⟨bi.blk, row * bi.sz, none⟩) len rcap, ry]).run P w = .ok (.slice (some ⟨bi.blk, row * bi.sz, none⟩) (len + ys.length) rcap) (setBlock w bi.blk (.cells (laidOver c (k * s) vals) ct cf)) := fun k hk hkl hle hsz => by
                    have hvne : vals ≠ [] := fun e => by
                      have h30 := h3.1
                      rw [e, List.length_nil] at h30
                      have := Nat.mul_pos hysl hpos
                      omega
                    refine run_append_fit (P := P) (ty := ty) hok (x := ry) h2 h1w hle (fun ad had => ?_) (fun h => by cases h)
                    cases had
                    rw [add_plain, hbz, ← Nat.add_mul, ← hk]
                    have := run_storeCells (P := P) vals w bi.blk (k * s) 0 c ct cf c1.1 c1.2 (by rw [h3.1, Nat.add_zero, ← Nat.add_mul]; exact hsz) h3.2.1
                    rw [if_neg hvne, Nat.add_zero] at this
                    exact this
                  split at he
                  · -- the room is known
                    rename_i hroom
                    obtain ⟨r1, r2⟩ := hroom
                    cases he
                    have hsz : (row + len + ys.length) * s ≤ c.size := by
                      have : (row + len + ys.length) * s ≤ hb.rows.length * s := Nat.mul_le_mul_right _ r2
                      rw [hbs] at c3; omega
                    have hrun := inPlace (row + len) rfl (by omega) (by omega) hsz
                    have hlen := take_drop_len (ys := ys) (rows := hb.rows) (k := row + len) (by omega)
                    have hrl : (hb.rows.take (row + len) ++ ys ++ hb.rows.drop (row + len + ys.length)).length = hb.rows.length := by rw [hlen]; omega
                    refine ⟨_, _, φ, σ, hrun, ?_, .refl _ _ _ _ _, Fr.setBlock (g3 hlo), .sl hbi r1 q2 q3, Nat.le_refl _⟩
                    simp only [updL, updH]
                    refine hR.setH hid hbi (by rw [laidOver_size (by rw [h3.1, ← Nat.add_mul]; exact hsz)]; exact c1.2) hbs.symm (by rw [laidOver_size (by rw [h3.1, ← Nat.add_mul]; exact hsz)]; exact c2) (by rw [hrl, ← hbs]; exact c3) (fun r hr => ?_) (fun i r hi => ?_)
                    · simp only [List.mem_append] at hr
                      rcases hr with (hr | hr) | hr
                      · rw [← hbs]; exact c4 r (List.mem_of_mem_take hr)
                      · exact h3.2.2.1 r hr
                      · rw [← hbs]; exact c4 r (List.mem_of_mem_drop hr)
                    · rw [hbs] at c4 c5
                      exact cellsAt_rows c4 c5 h3 (by omega) (by rw [← Nat.add_mul]; exact hsz) hi
                  · split at he
                    · -- the room is not known
                      rename_i hfullb
                      obtain ⟨rfl, rfl, m1, m2⟩ := hfullb
                      cases he
                      have hfn := hF n (Nat.le_refl _) (Nat.lt_succ_self _)
                      have hidn : id ≠ n := fun e => by rw [e, hfn] at hbi; cases hbi
                      by_cases hroom : hb.rows.length + ys.length ≤ rcap
                      · have hsz : (hb.rows.length + ys.length) * s ≤ c.size := by
                          have : (hb.rows.length + ys.length) * s ≤ rcap * s := Nat.mul_le_mul_right _ hroom
                          rw [hbz, Nat.zero_add] at q3; omega
                        have hrun := inPlace hb.rows.length (by omega) (Nat.le_refl _) hroom hsz
                        have hbig : (hb.rows ++ ys).length * s ≤ bi.size := by rw [List.length_append]; omega
                        have hrows' : hb.rows ++ ys = hb.rows.take hb.rows.length ++ ys ++ hb.rows.drop (hb.rows.length + ys.length) := by
                          rw [List.take_length, List.drop_eq_nil_of_le (by omega), List.append_nil]
                        have hm := hR.moveH (n := n) (hb' := ⟨s, hb.rows ++ ys⟩) (c' := laidOver c (hb.rows.length * s) vals) (t := ct) hid hbi hfn hlo (by rw [laidOver_size (by rw [h3.1, ← Nat.add_mul]; exact hsz)]; exact c1.2) hbs.symm (by rw [laidOver_size (by rw [h3.1, ← Nat.add_mul]; exact hsz)]; exact c2) hbig (fun r hr => by
                            simp only [List.mem_append] at hr
                            rcases hr with hr | hr
                            · rw [← hbs]; exact c4 r hr
                            · exact h3.2.2.1 r hr) (fun i r hi => by
                            rw [hbs] at c4 c5
                            rw [hrows'] at hi
                            exact cellsAt_rows c4 c5 h3 (Nat.le_refl _) (by rw [← Nat.add_mul]; exact hsz) hi)
                        refine ⟨_, _, _, σ, hrun, ?_, phiPush_grow' hfn bi, Fr.setBlock (g3 hlo), ?_, Nat.le_succ _⟩
                        · exact hm
                        · have := RepD.sl (φ := phiPush φ n bi) (σ := σ) (id := n) (row := 0) (len := hb.rows.length + ys.length) (cap := hb.rows.length + ys.length) (rcap := rcap) (bi := bi) (by simp [phiPush]) (Nat.le_refl _) hroom q3
                          exact this
                      · have hrow : rowsOf h (.sl id 0 hb.rows.length cap) = some (some id, hb.sz, hb.rows) := by
                          simp [rowsOf, hid]
                        obtain ⟨olds, o1, o2, o3, _⟩ := src_vals (P := P) hR (.sl hbi q1 q2 q3) (srcOf_rows hrow) (s := s) (.inl hbs)
                        have hold := o1 w.drew (drew_cell w)
                        obtain ⟨rv, w', φ', σ', e1, e2⟩ := grow (some ⟨bi.blk, 0 * bi.sz, none⟩) hb.rows.length rcap hb.rows olds (.wX id :: .wX n :: raccOf src) rfl rfl o3 hold (by omega) m1 m2 hfn
                        refine ⟨rv, w', φ', σ', e1, ?_, e2.grow, e2.fr, ?_, e2.le⟩
                        · have := e2.rel.dropH id
                          simp only [updL, updH] at this ⊢
                          have heq : upd (upd h n (some ⟨s, hb.rows ++ ys⟩)) id none = upd (upd h id none) n (some ⟨s, hb.rows ++ ys⟩) := by
                            funext k; unfold upd
                            by_cases k1 : k = id
                            · by_cases k2 : k = n
                              · exact absurd (k1.symm.trans k2) hidn
                              · simp [k1, hidn]
                            · simp [k1]
                          rw [heq] at this
                          exact this
                        · have := e2.val
                          rw [List.length_append] at this
                          exact this
                    · cases he
              · cases he
            · cases he
          · cases he
        · cases he
      · cases he
end
end Go.PM
