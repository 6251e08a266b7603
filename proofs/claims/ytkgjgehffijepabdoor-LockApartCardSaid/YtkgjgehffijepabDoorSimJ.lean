/-
  One operation, in D and in the model: what is left.
-/
import Derived.Test.YtkgjgehffijepabDoorSimI
set_option linter.unusedVariables false
set_option linter.unusedSimpArgs false
namespace Go.PM
section
variable {P : Program} {lo : Nat} {Tch : Nat → Prop} {φ : Phi} {σ : Sig} {G : Nat → Option (List IV)} {T : Nat → Option DV} {L : Nat → Option LV} {h : Nat → Option HB} {a : Act} {w : World} {n : Nat}

theorem appZ_op (hR : Rel lo Tch φ σ T L h a.tmps w) (hT : ∀ b, w.heap.size ≤ b → Tch b) {ts : Array TypeId} {ty el t u : TypeId} {s b : Nat} {z : List IV} (ht : ts[0]? = some t) (hu : ts[1]? = some u)
    (htu : P.underlying t = some (.slice el)) {ik : IntKind} (huu : P.underlying u = some (.int ik)) (hs : szOk P el s = true) (hb : btOk P el b = true) (hz : zeroOk P el z = true)
    {d : DV} {rv : Value} (hd : RepD φ σ d rv) {k : Nat} (hk : asNat d = some k) {e : Eff}
    (he : (if 0 < k ∧ 0 < s ∧ z.length = s ∧ k ≤ appMax ∧ k * b ≤ appMax then
          some { v := .sl n 0 k k, hw := [(n, some ⟨s, List.replicate k (imms z)⟩)], n' := n + 1, acc := [.wX n] }
        else none) = some e) (hF : Fresh φ n e.n') : Does P lo Tch φ σ T L h a w n (Builtin.append_ ts ty #[.slice none 0 0, rv]) e := by
  obtain ⟨kk, rfl⟩ := asNat_spec hk hd
  split at he
  · rename_i hc
    obtain ⟨h0, hpos, hzl, hm1, hm2⟩ := hc
    cases he
    obtain ⟨i, v, hi, hv, hvs, hg⟩ := zero_cells hz
    have hn := zeroOk_noUndef hz
    have hbb : i.bytes = b := by unfold btOk at hb; rw [hi] at hb; simpa using hb
    have hss : i.size = s := by unfold szOk at hs; rw [hi] at hs; simpa using hs
    have hw : IntKind.i64.wrap (k : Int) = k := IntWalk.i64_in _ (by unfold appMax at hm1; omega)
    have hbm : ¬ ((281474976710656 : Int) < (k : Int) * (b : Int)) := by
      unfold appMax at hm2
      have : ((k * b : Nat) : Int) ≤ ((2 ^ 40 : Nat) : Int) := by exact_mod_cast hm2
      rw [Int.natCast_mul] at this
      omega
    have hnc : Builtin.nextslicecap k 0 * b ≤ 281474976710656 := growslice_fits h0 (by unfold appMax at hm2; omega)
    have hnc' : ¬ (281474976710656 < Builtin.nextslicecap k 0 * b) := by omega
    have h63 : ¬ ((9223372036854775807 : Int) < (k : Int)) := by unfold appMax at hm1; omega
    have hks : ¬ (k * s = 0) := by have := Nat.mul_pos h0 hpos; omega
    have hk0 : ¬ k = 0 := by omega
    have hneg : ¬ ((k : Int) < 0) := by omega
    have hs0 : ¬ s = 0 := by omega
    have hrun : (Builtin.append_ ts ty #[.slice none 0 0, .int kk (k : Int)]).run P w =
        .ok (.slice (some ⟨w.heap.size, 0, none⟩) k (grownCap w k 0 el)) (w.drew.alloc (.cells (Builtin.zeroCells v.cells k ++ Builtin.zeroCells v.cells (grownCap w k 0 el - k)) el)) := by
      simp [Builtin.append_, ht, hu, run_underlying' htu, run_underlying' huu, sizeOf, typeInfo, zeroValue, hi, hv, hbb, hss, asInt, run_asIntOf, hw, hbm, hk0, hneg, h63, hnc', Question.forced, Builtin.firstCells, hs0, newRow, grownCap]
      exact fun hh => absurd hh hks
    have := mut_slice (n := n) (t := el) (s := s) (rows := List.replicate k (imms z)) (cap := grownCap w k 0 el) (c := Builtin.zeroCells v.cells k ++ Builtin.zeroCells v.cells (grownCap w k 0 el - k)) hR hT (hF n (Nat.le_refl _) (Nat.lt_succ_self _)) (w' := w.drew.alloc _)
      (by simp) (fun b hb => heap_alloc_old w.drew _ hb) (heap_alloc_new w.drew _) rfl rfl (by rw [List.length_replicate]; exact hrun) (by rw [List.length_replicate]; exact grownCap_ge _ _ _ _)
      (by rw [Array.size_append, zeroCells_size, zeroCells_size, hvs, hzl, ← Nat.add_mul]; exact Nat.mul_le_mul_right _ (by have := grownCap_ge w k 0 el; omega)) hpos (fun r hr => by rw [List.eq_of_mem_replicate hr]; simp [imms, hzl])
      (fun i' r hi' j x hj => by
        have hlt : i' < k := by have := (List.getElem?_eq_some_iff.1 hi').1; simpa using this
        have : r = imms z := List.eq_of_mem_replicate (List.mem_of_getElem? hi')
        subst this
        obtain ⟨y, hy, rfl⟩ := imms_get hj
        obtain ⟨u', q1, q2, q3⟩ := zero_range (σ := σ) (m := k) hzl hvs hg hn hlt hy
        refine ⟨u', ?_, q2, .imm q3⟩
        have hlt2 := (Array.getElem?_eq_some_iff.1 q1).1
        simp only [Array.size_map, Array.size_range] at hlt2
        rw [Array.getElem?_append, if_pos (by rw [zeroCells_size, hvs, hzl]; exact hlt2)]
        rw [← q1]
        simp only [Builtin.zeroCells, hvs, hzl]) (acc := [.wX n])
    rw [List.length_replicate] at this
    exact this
  · cases he

theorem cvSB_op (hR : Rel lo Tch φ σ T L h a.tmps w) {s d el : TypeId} (hs : P.underlying s = some .string) (hd : P.underlying d = some (.slice el)) (hel : P.underlying el = some (.int .u8)) {t : List UInt8} {rv : Value} (hv : RepI σ (.str t) rv)
    {acc : List Acc} : Does P lo Tch φ σ T L h a w n (convert s d rv) { v := .imm (.lst false 1 (t.map rowOfByte)), n' := n, acc } := by
  obtain ⟨q, rfl, rfl⟩ := repI_str hv
  have hcap := grownCap_ge w q.size 0 el
  let c : Array Value := (q.data.map fun b => .int .u8 b.toNat) ++ Array.replicate (grownCap w q.size 0 el - q.size) (.int .u8 0)
  let w1 := w.drew.alloc (.cells c el)
  have hnew : w1.heap[w.heap.size]? = some (.cells c el (0, 0)) := heap_alloc_new w.drew _
  have hshape : w1.shape? w.heap.size = some (el, c.size) := by simp [World.shape?, hnew]
  have hsz1 : w1.heap.size = w.heap.size + 1 := by simp [w1]
  have hfreeze : w1.freeze { block := w.heap.size, off := c.size } 1 = setBlock w1 w.heap.size (.cells c el (c.size, c.size + 1)) := by
    unfold World.freeze setBlock
    rw [if_neg (by omega)]
    congr 1
    apply Array.ext_getElem?
    intro i
    rw [Array.getElem?_modify, Array.getElem?_setIfInBounds]
    by_cases hi : w.heap.size = i
    · subst hi
      have hlt : w.heap.size < w1.heap.size := by omega
      have hnew' : w1.heap[w.heap.size]'hlt = .cells c el (0, 0) := by
        rw [Array.getElem?_eq_getElem hlt] at hnew; exact Option.some.inj hnew
      simp [hlt, hnew']
    · simp [hi]
  have hrun : (convert s d (.string q)).run P w = .ok (.slice (some ⟨w.heap.size, 0, none⟩) q.size (grownCap w q.size 0 el)) (setBlock w1 w.heap.size (.cells c el (c.size, c.size + 1))) := by
    rw [← hfreeze]
    have hsh : (w.drew.alloc (.cells c el)).shape? w.heap.size = some (el, c.size) := hshape
    simp [convert, run_underlying' hs, run_underlying' hd, run_underlying' hel, Conv.stringToBytes, Question.forced, newRow, markStringish]
    have hcc : (Array.map (fun b : UInt8 => Value.int IntKind.u8 (b.toNat : Int)) q.data ++ Array.replicate ((Question.appendCap q.size 0 el).cut (w.tape w.drawn (Question.appendCap q.size 0 el)) - q.size) (Value.int IntKind.u8 0)) = c := rfl
    rw [hcc, hsh]
    simp
    exact ⟨rfl, rfl⟩
  have hlenq : q.data.toList.length = q.size := by simp
  have hrl : (q.data.toList.map rowOfByte).length = q.size := by simp
  have hget : ∀ b, b < w.heap.size → (setBlock w1 w.heap.size (.cells c el (c.size, c.size + 1))).heap[b]? = w.heap[b]? := fun b hb => by
    rw [setBlock_get, if_neg (fun ⟨e, _⟩ => by omega)]
    exact heap_alloc_old w.drew _ hb
  refine imm_slice hR (c := c) (t := el) (fr := (c.size, c.size + 1)) (w' := setBlock w1 w.heap.size (.cells c el (c.size, c.size + 1))) (by rw [setBlock_size]; exact hsz1) hget (by rw [setBlock_get, if_pos ⟨rfl, by omega⟩]) rfl rfl (by rw [hrl]; exact hrun)
    (by rw [hrl]; exact hcap) (fun h => by cases h) (fun r hr => by obtain ⟨x, _, rfl⟩ := List.mem_map.1 hr; rfl) (fun i j r x hi hj => ?_)
  rw [List.getElem?_map] at hi
  simp only [Option.map_eq_some_iff] at hi
  obtain ⟨y, hy, rfl⟩ := hi
  cases j with
  | zero =>
    simp [rowOfByte] at hj; subst hj
    have hiq : i < q.data.size := by have := (List.getElem?_eq_some_iff.1 hy).1; simpa using this
    refine ⟨.int .u8 y.toNat, ?_, rfl, .int⟩
    simp only [c, Nat.mul_one, Nat.add_zero]
    rw [Array.getElem?_append, if_pos (by simpa using hiq), Array.getElem?_map]
    have : q.data[i]? = some y := by simpa using hy
    rw [this]; rfl
  | succ j => simp [rowOfByte] at hj

theorem cvBB_op (hR : Rel lo Tch φ σ T L h a.tmps w) {s el : TypeId} (hs : P.underlying s = some (.slice el)) (hel : P.underlying el = some (.int .u8)) {id row len cap : Nat} {rv : Value} (hv : RepD φ σ (.sl id row len cap) rv)
    (hlo : lo ≤ id) {hb : HB} (hid : h id = some hb) {acc : List Acc} : Does P lo Tch φ σ T L h a w n (convert s s rv) { v := .sl id row len cap, hw := [(id, some hb)], n' := n, acc } := by
  cases hv with
  | sl hbi q1 q2 q3 =>
    rename_i rcap bi
    obtain ⟨bi', g1, g2, g3⟩ := hR.heap _ _ hid
    rw [hbi] at g1; cases g1
    obtain ⟨c, ct, cf, c1, c2, c3, c4, c5⟩ := g2.cells
    obtain ⟨c1, cu⟩ := c1
    have hlt := hR.rng _ _ hbi
    have hshape : w.shape? bi.blk = some (ct, c.size) := by simp [World.shape?, c1]
    let fr' : Nat × Nat := if cf.1 == cf.2 then (c.size, c.size + 1) else (min cf.1 c.size, max cf.2 (c.size + 1))
    have hfreeze : w.freeze { block := bi.blk, off := c.size } 1 = setBlock w bi.blk (.cells c ct fr') := by
      unfold World.freeze setBlock
      rw [if_neg (by omega)]
      congr 1
      apply Array.ext_getElem?
      intro i
      rw [Array.getElem?_modify, Array.getElem?_setIfInBounds]
      by_cases hi : bi.blk = i
      · subst hi
        have hget : w.heap[bi.blk]'hlt = .cells c ct cf := by
          rw [Array.getElem?_eq_getElem hlt] at c1; exact Option.some.inj c1
        simp [hlt, hget, fr']
      · simp [hi]
    have hu' : Unfr fr' c.size := by
      simp only [fr']
      split
      · exact .inl (Nat.le_refl _)
      · rename_i hne
        rcases cu with cu | cu
        · left; simp only; omega
        · exact absurd (by simpa using cu) hne
    have hrun : (convert s s (.slice (some ⟨bi.blk, row * bi.sz, none⟩) len rcap)).run P w = .ok (.slice (some ⟨bi.blk, row * bi.sz, none⟩) len rcap) (setBlock w bi.blk (.cells c ct fr')) := by
      rw [← hfreeze]
      simp [convert, run_underlying' hs, run_underlying' hel, markStringish, hshape]
    refine ⟨_, _, φ, σ, hrun, ?_, .refl _ _ _ _ _, Fr.setBlock (g3 hlo), .sl hbi q1 q2 q3, Nat.le_refl _⟩
    simp only [updL, updH]
    exact hR.setH hid hbi hu' rfl c2 c3 c4 c5

theorem rng_op (hR : Rel lo Tch φ σ T L h a.tmps w) (hT : ∀ b, w.heap.size ≤ b → Tch b) (hf : φ n = none) {t : TypeId} (ht : P.underlying t = some .string) {s : List UInt8} {rv : Value} (hv : RepI σ (.str s) rv) (dst : Nat) :
    Does P lo Tch φ σ T L h a w n (Instr.range t rv) { v := .lref dst n 0, lw := [(dst, .iter n s 0)], n' := n + 1, acc := [.wL dst] } := by
  obtain ⟨q, rfl, rfl⟩ := repI_str hv
  have hr := hR.pushL (h := h) (L := L) hT hf (o := .stringIter q 0) (w' := pushed w _) (pushed_size _ _) (pushed_get _ _) (pushed_new _ _) dst 0 0 (.iter n q.data.toList 0) rfl
    (fun φ' hp => .iter (hR.sigNone (Nat.le_refl _)) (pushed_new _ _))
  refine ⟨.pointer (some ⟨w.heap.size, 0, none⟩), _, _, σ, by simp [Instr.range, run_underlying' ht, pushed], hr, phiPush_grow hR hf _ _, pushed_fr _ _, .lref (bi := ⟨w.heap.size, _, _⟩) (by simp [phiPush]; exact ⟨rfl, rfl⟩), Nat.le_succ _⟩

theorem nxt_op (hR : Rel lo Tch φ σ T L h a.tmps w) {slot id pos : Nat} {s : List UInt8} (hL : L slot = some (.iter id s pos)) {rv : Value} (hv : RepD φ σ (.lref slot id 0) rv) {ty : TypeId} {e : Eff}
    (he : (if pos < s.length then
          let d := Utf8.decode ⟨s.toArray⟩ pos
          some { v := .tup [.imm (.bool true), .imm (.int .i64 pos), .imm (.int .i32 d.1)], lw := [(slot, .iter id s (pos + d.2))], n' := n, acc := [.wL slot] }
        else some { v := .tup [.imm (.bool false)], n' := n, acc := [.rL slot] }) = some e) : Does P lo Tch φ σ T L h a w n (Instr.next rv true ty) e := by
  obtain ⟨_, bi, g1, g2, g3⟩ := hR.locs _ _ hL
  simp only [LV.id] at g1
  cases hv with
  | lref hbi =>
    rw [hbi] at g1; cases g1
    cases g2 with
    | iter free hh =>
      rename_i q _
      have hlt := hR.rng _ _ hbi
      have hlen : q.data.toList.length = q.size := by simp
      have hq : (⟨q.data.toList.toArray⟩ : ByteArray) = q := by cases q; simp
      rw [hlen, hq] at he
      split at he
      · rename_i hp
        cases he
        have hrun : (Instr.next (.pointer (some ⟨bi.blk, 0, none⟩)) true ty).run P w = .ok (.tuple #[.bool true, goInt pos, .int .i32 (Utf8.decode q pos).1]) (setBlock w bi.blk (.stringIter q (pos + (Utf8.decode q pos).2))) := by
          simp [Instr.next, getObj, setObj, Sem.run, hh, hp, setBlock]
        refine ⟨_, _, φ, σ, hrun, ?_, .refl _ _ _ _ _, Fr.setBlock g3, ?_, Nat.le_refl _⟩
        · exact hR.setL (lv' := .iter id q.data.toList (pos + (Utf8.decode q pos).2)) hL hbi rfl (.iter free (by rw [setBlock_get, if_pos ⟨rfl, hlt⟩]))
        · refine .tup (vs := #[.bool true, goInt pos, .int .i32 (Utf8.decode q pos).1]) rfl (fun i c v hc hv => ?_)
          match i, hc, hv with
          | 0, hc, hv => simp at hc hv; subst hc hv; exact .imm .bool
          | 1, hc, hv => simp at hc hv; subst hc hv; exact .imm .int
          | 2, hc, hv => simp at hc hv; subst hc hv; exact .imm .int
          | i + 3, hc, hv => simp at hc
      · rename_i hp
        cases he
        have hrun : (Instr.next (.pointer (some ⟨bi.blk, 0, none⟩)) true ty).run P w = .ok (.tuple #[.bool false]) w := by
          simp [Instr.next, getObj, Sem.run, hh, hp]
        refine .pure hR hrun (.tup (vs := #[.bool false]) rfl (fun i c v hc hv => ?_))
        match i, hc, hv with
        | 0, hc, hv => simp at hc hv; subst hc hv; exact .imm .bool
        | i + 1, hc, hv => simp at hc
end
end Go.PM
