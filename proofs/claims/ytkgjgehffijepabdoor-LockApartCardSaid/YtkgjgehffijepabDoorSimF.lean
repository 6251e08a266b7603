/-
  One operation, in D and in the model: slices of a made length, slices cut, texts and bytes.
-/
import Derived.Test.YtkgjgehffijepabDoorSimE
import Derived.IntWalk
set_option linter.unusedVariables false
set_option linter.unusedSimpArgs false
namespace Go.PM
section
variable {P : Program} {lo : Nat} {Tch : Nat → Prop} {φ : Phi} {σ : Sig} {G : Nat → Option (List IV)} {T : Nat → Option DV} {L : Nat → Option LV} {h : Nat → Option HB} {a : Act} {w : World} {n : Nat}

theorem zero_range {z : List IV} {v : Value} {s m : Nat} (hzl : z.length = s) (hs : v.cells.size = z.length) (hg : ∀ (j : Nat) x, z[j]? = some x → ∃ u, v.cells[j]? = some u ∧ sameIV u x = true) (hn : noUndef z = true)
    {i j : Nat} {x : IV} (hi : i < m) (hj : z[j]? = some x) :
    ∃ u, ((Array.range (m * s)).map (fun k => v.cells[k % v.cells.size]!))[i * s + j]? = some u ∧ u.oneCell' = true ∧ RepI σ x u := by
  have hjs : j < s := by rw [← hzl]; exact (List.getElem?_eq_some_iff.1 hj).1
  have hlt : i * s + j < m * s := by
    have : (i + 1) * s ≤ m * s := Nat.mul_le_mul_right _ hi
    rw [Nat.add_mul, Nat.one_mul] at this; omega
  obtain ⟨u, q1, q2⟩ := hg j x hj
  refine ⟨u, ?_, oneCell_of_same q2 (fun e => ?_), sameIV_rep q2⟩
  · rw [range_get, if_pos hlt, hs, hzl]
    have : (i * s + j) % s = j := by rw [Nat.mul_comm, Nat.mul_add_mod]; exact Nat.mod_eq_of_lt hjs
    rw [this, getElem!_def, q1]
  · have := List.all_eq_true.1 hn x (List.mem_of_getElem? hj)
    subst e; cases this

theorem run_makeSlice {t el : TypeId} {k k' : IntKind} {m s b : Nat} {v : Value} {i : TypeInfo} (hu : P.underlying t = some (.slice el)) (hi : P.info? el = some i) (hs : szOk P el s = true) (hb : i.bytes = b) (hv : i.zero = some v)
    (hm : m ≤ appMax) (hmb : m * b ≤ appMax) :
    (Instr.makeSlice t (.int k (m : Int)) (.int k' (m : Int))).run P w = .ok (.slice (some ⟨w.heap.size, 0, none⟩) m m) (pushed w (.cells ((Array.range (m * s)).map (fun j => (if m * s = 0 then #[] else v.cells)[j % (if m * s = 0 then (#[] : Array Value) else v.cells).size]!)) el (0, 0))) := by
  have hw : IntKind.i64.wrap (m : Int) = m := IntWalk.i64_in _ (by unfold appMax at hm; omega)
  have hbm : ¬ ((b : Int) * (m : Int) > 2 ^ 48) := by
    have : b * m ≤ appMax := by rw [Nat.mul_comm]; exact hmb
    unfold appMax at this
    have : ((b * m : Nat) : Int) ≤ ((2 ^ 40 : Nat) : Int) := by exact_mod_cast this
    rw [Int.natCast_mul] at this
    omega
  have hsz : ∀ w, (sizeOf el).run P w = .ok s w := run_sizeOf hs
  have hdec : (decide ((m : Int) < 0) || decide ((b : Int) * (m : Int) > 2 ^ 48)) = false := by
    simp only [Bool.or_eq_false_iff, decide_eq_false_iff_not]
    exact ⟨by omega, hbm⟩
  simp only [Instr.makeSlice, Sem.run_bind, run_underlying' hu, Result.andThen_ok, asInt, run_asIntOf, Sem.run_pure, run_typeInfo hi, hb, hw, hdec, Bool.false_or]
  rw [if_neg (by simp)]
  simp only [Sem.run_bind, run_askRoom, Result.andThen_ok, hsz, Int.toNat_natCast]
  by_cases h0 : m * s = 0
  · simp only [h0, if_true, Sem.run_bind, Sem.run_pure, Result.andThen_ok]
    simp [newRow, pushed]
  · simp only [h0, if_false, Sem.run_bind, Sem.run_pure, Result.andThen_ok, run_zeroValue hi hv]
    simp [newRow, pushed]

theorem range_zero_if (v : Value) (m s : Nat) : (Array.range (m * s)).map (fun j => (if m * s = 0 then #[] else v.cells)[j % (if m * s = 0 then (#[] : Array Value) else v.cells).size]!) = (Array.range (m * s)).map (fun j => v.cells[j % v.cells.size]!) := by
  by_cases h0 : m * s = 0
  · rw [h0]; simp
  · simp only [h0, if_false]

theorem mks_op (hR : Rel lo Tch φ σ T L h a.tmps w) (hT : ∀ b, w.heap.size ≤ b → Tch b) {t : TypeId} {s b : Nat} {z : List IV} {mt : Bool} (hn : noUndef z = true)
    (hok : (match P.underlying t with | some (.slice e) => szOk P e s && btOk P e b && zeroOk P e z | _ => false) = true) {d : DV} {rv rv' : Value} (hd : RepD φ σ d rv) (hd' : RepD φ σ d rv') {m : Nat} (hm : asNat d = some m) {e : Eff}
    (he : (if 0 < s ∧ z.length = s ∧ m ≤ appMax ∧ m * b ≤ appMax then
          if mt then some { v := .sl n 0 m m, hw := [(n, some ⟨s, List.replicate m (imms z)⟩)], n' := n + 1, acc := [.wX n] }
          else giveI n (some (.lst true s (List.replicate m z)))
        else none) = some e) (hF : Fresh φ n e.n') : Does P lo Tch φ σ T L h a w n (Instr.makeSlice t rv rv') e := by
  obtain ⟨k, rfl⟩ := asNat_spec hm hd
  obtain ⟨k', rfl⟩ := asNat_spec hm hd'
  split at he
  · rename_i hc
    obtain ⟨hpos, hzl, hm1, hm2⟩ := hc
    split at hok
    · rename_i el hu
      simp only [Bool.and_eq_true] at hok
      obtain ⟨⟨h1, h2⟩, h3⟩ := hok
      obtain ⟨i, v, hi, hv, hs, hg⟩ := zero_cells h3
      have hb : i.bytes = b := by
        unfold btOk at h2; rw [hi] at h2; simpa using h2
      have hrun := run_makeSlice (w := w) (k := k) (k' := k') hu hi h1 hb hv hm1 hm2
      rw [range_zero_if] at hrun
      split at he
      · cases he
        have := mut_slice (n := n) hR hT (hF n (Nat.le_refl _) (Nat.lt_succ_self _)) (rows := List.replicate m (imms z)) (cap := m) (s := s) (sm := Instr.makeSlice t (.int k (m : Int)) (.int k' (m : Int))) (pushed_size _ _) (pushed_get _ _) (pushed_new _ _) rfl rfl
          (by rw [List.length_replicate]; exact hrun) (by simp) (by simp) hpos (fun r hr => by rw [List.eq_of_mem_replicate hr]; simp [imms, hzl]) (fun i' r hi' j x hj => by
            have hlt : i' < m := by have := (List.getElem?_eq_some_iff.1 hi').1; simpa using this
            have : r = imms z := List.eq_of_mem_replicate (List.mem_of_getElem? hi')
            subst this
            obtain ⟨y, hy, rfl⟩ := imms_get hj
            obtain ⟨u, q1, q2, q3⟩ := zero_range (σ := σ) (m := m) hzl hs hg hn hlt hy
            exact ⟨u, q1, q2, .imm q3⟩) (acc := [.wX n])
        rw [List.length_replicate] at this
        exact this
      · simp only [giveI, Option.map_some, Option.some.injEq] at he; subst he
        refine imm_slice hR (pushed_size _ _) (pushed_get _ _) (pushed_new _ _) rfl rfl (by rw [List.length_replicate]; exact hrun) (by simp) (fun _ => by simp) (fun r hr => by rw [List.eq_of_mem_replicate hr]; exact hzl) (fun i' j r x hi' hj => ?_)
        have hlt : i' < m := by have := (List.getElem?_eq_some_iff.1 hi').1; simpa using this
        have : r = z := List.eq_of_mem_replicate (List.mem_of_getElem? hi')
        subst this
        exact zero_range hzl hs hg hn hlt hj
    · cases hok
  · cases he

/-! ### Cutting -/

theorem evO_rep (hR : Rel lo Tch φ σ T L h a.tmps w) (hG : GRel σ G) {x : Option Operand} {y : Option Opd} (hx : okOpdO x y = true) {v : Option DV} (hv : evO G T y = some v) :
    (x = none ∧ v = none) ∨ ∃ x' v', x = some x' ∧ v = some v' ∧ RepD φ σ v' (a.eval x') := by
  unfold okOpdO at hx
  split at hx
  · simp [evO] at hv; subst hv; exact .inl ⟨rfl, rfl⟩
  · rename_i x' y'
    simp only [evO, Option.map_eq_some_iff] at hv
    obtain ⟨v', h1, rfl⟩ := hv
    exact .inr ⟨x', v', rfl, rfl, ev_rep hR hG hx h1⟩
  · cases hx

theorem run_sliceBound {k : IntKind} {m y : Nat} (hle : m ≤ y) (code : BoundsCode) : (Instr.sliceBound (.int k (m : Int)) y code).run P w = .ok m w := by
  simp only [Instr.sliceBound, Sem.run_bind, run_asIntOf, Result.andThen_ok]
  rw [if_pos ⟨by omega, by omega⟩]
  simp

/-- The bounds, as D and the model have them. -/
theorem bounds_sim {isS : Bool} {len cap : Nat} {x y z : Option Operand} {l hi mx : Option DV} (hl : (x = none ∧ l = none) ∨ ∃ x' v', x = some x' ∧ l = some v' ∧ RepD φ σ v' (a.eval x'))
    (hh : (y = none ∧ hi = none) ∨ ∃ x' v', y = some x' ∧ hi = some v' ∧ RepD φ σ v' (a.eval x')) {i j : Nat}
    (hi1 : natOr l 0 = some i) (hj1 : natOr hi len = some j) (hij : i ≤ j) (hjc : j ≤ cap) (hlc : len ≤ cap) {m : Nat}
    (hm : (z = none ∧ mx = none ∧ m = cap) ∨ (∃ z' v' , z = some z' ∧ mx = some v' ∧ RepD φ σ v' (a.eval z') ∧ asNat v' = some m ∧ j ≤ m ∧ m ≤ cap ∧ hi.isSome = true)) :
    (Instr.sliceBounds isS len cap (x.map a.eval) (y.map a.eval) (z.map a.eval)).run P w = .ok (i, j, m) w := by
  rcases hm with ⟨rfl, rfl, rfl⟩ | ⟨z', vz, rfl, rfl, hrz, hmz, hjm, hmc, hsome⟩
  · rcases hh with ⟨rfl, rfl⟩ | ⟨y', vy, rfl, rfl, hry⟩
    · simp [natOr] at hj1; subst hj1
      rcases hl with ⟨rfl, rfl⟩ | ⟨x', v', rfl, rfl, hr⟩
      · simp [natOr] at hi1; subst hi1
        simp [Instr.sliceBounds]
      · obtain ⟨k, hk⟩ := asNat_spec hi1 hr
        simp [Instr.sliceBounds, hk, run_sliceBound hij]
    · obtain ⟨ky, hky⟩ := asNat_spec hj1 hry
      rcases hl with ⟨rfl, rfl⟩ | ⟨x', v', rfl, rfl, hr⟩
      · simp [natOr] at hi1; subst hi1
        simp [Instr.sliceBounds, hky, run_sliceBound hjc]
      · obtain ⟨k, hk⟩ := asNat_spec hi1 hr
        simp [Instr.sliceBounds, hk, hky, run_sliceBound hij, run_sliceBound hjc]
  · obtain ⟨kz, hkz⟩ := asNat_spec hmz hrz
    rcases hh with ⟨rfl, rfl⟩ | ⟨y', vy, rfl, rfl, hry⟩
    · cases hsome
    · obtain ⟨ky, hky⟩ := asNat_spec hj1 hry
      rcases hl with ⟨rfl, rfl⟩ | ⟨x', v', rfl, rfl, hr⟩
      · simp [natOr] at hi1; subst hi1
        simp [Instr.sliceBounds, hky, hkz, run_sliceBound hmc, run_sliceBound hjm]
      · obtain ⟨k, hk⟩ := asNat_spec hi1 hr
        simp [Instr.sliceBounds, hk, hky, hkz, run_sliceBound hij, run_sliceBound hmc, run_sliceBound hjm]
end
end Go.PM
