/-
  Fields of a section and some points, at the beginning; what is known.
-/
import Derived.Test.YtbhmihigfncfgabDoorFld
import Derived.Test.YtbhmihigfncfgabDoorDoor
import Derived.Test.YtbhmihigfncfgabDoorFast
set_option linter.unusedVariables false
set_option linter.unusedSimpArgs false
set_option maxHeartbeats 8000000
set_option maxRecDepth 100000
namespace Go.Proofs.YtbhmihigfncfgabDoor.D
open Go Go.PM

theorem callM_eff {K : Go.PM.Callee} {f : FuncId} {args : List DV} {H : PT HB} {n lo : Nat} : callM K .eff f args H n lo = if DV.out.outs args then (K f args H n lo).map fun r => ⟨r.1, r.2.1, r.2.2, [.wA]⟩ else none := rfl

/-- What a call gives that has nothing of the heap. -/
noncomputable def blindV (K : Go.PM.Callee) (f : FuncId) (args : List DV) : Option DV := match K f args .lf 0 0 with
  | some (v, H1, _) => frz H1.get 0 v
  | none => none
theorem blind_of {K : Go.PM.Callee} {f : FuncId} {args : List DV} {v : DV} (hp : DV.pure.pures args = true) (h : blindV K f args = some v) (H : PT HB) (n lo : Nat) : callM K .blind f args H n lo = some ⟨v, H, n, []⟩ := by
  unfold blindV at h
  simp only [callM, hp, if_true]
  split at h
  · rename_i v1 H1 n1 h1
    simp only [h1, h, Option.map]
  · cases h
theorem blind_true {K : Go.PM.Callee} {f : FuncId} {args : List DV} (hp : DV.pure.pures args = true) (h : ansT (K f args .lf 0 0) = true) (H : PT HB) (n lo : Nat) : callM K .blind f args H n lo = some ⟨.imm (.bool true), H, n, []⟩ := by
  obtain ⟨H', n', e⟩ := ansT_spec h
  exact blind_of hp (by unfold blindV; rw [e]; rfl) H n lo

abbrev GG := doorG 0 1
theorem known6_true : ansT (dcallF GG tab 29 15 [] .lf 0 0) = true := by kernel_rfl
theorem known6 (H : PT HB) (n lo : Nat) : callM (K GG 29) .blind 15 [] H n lo = some ⟨.imm (.bool true), H, n, []⟩ :=
  blind_true rfl (by rw [show K GG 29 = dcallF GG tab 29 from (dcallF_eq _ _ _).symm]; exact known6_true) H n lo

def isOcc : Option HB → Bool
  | some ⟨1, [[.imm (.bool false)]]⟩ => true
  | _ => false
theorem isOcc_spec {o : Option HB} (h : isOcc o = true) : o = some ⟨1, [false].map rowBo⟩ := by
  unfold isOcc at h
  split at h
  · rfl
  · cases h
def isPt : List DV → Bool
  | [.imm (.int .i64 a), .imm (.int .i64 b), .imm (.int .i64 c)] => a == 1 && b == 0 && c == 0
  | _ => false
theorem isPt_spec {o : List DV} (h : isPt o = true) : o = rowP ⟨1, 0, 0⟩ := by
  unfold isPt at h
  split at h
  · simp only [Bool.and_eq_true, beq_iff_eq] at h
    obtain ⟨⟨rfl, rfl⟩, rfl⟩ := h
    rfl
  · cases h
def isPts (k : Nat) : Option HB → Bool
  | some ⟨3, rows⟩ => rows.length == k && rows.all isPt
  | _ => false
theorem isPts_spec {k : Nat} {o : Option HB} (h : isPts k o = true) : o = some ⟨3, (List.replicate k (⟨1, 0, 0⟩ : Pt)).map rowP⟩ := by
  unfold isPts at h
  split at h
  · rename_i rows
    simp only [Bool.and_eq_true, beq_iff_eq, List.all_eq_true] at h
    obtain ⟨rfl, h2⟩ := h
    congr 2
    apply List.ext_getElem?
    intro i
    by_cases hi : i < rows.length
    · rw [List.getElem?_eq_getElem hi, isPt_spec (h2 _ (List.getElem_mem hi))]
      simp [hi]
    · rw [List.getElem?_eq_none (by omega), List.getElem?_eq_none (by simp; omega)]
  · cases h
def isFd (io ip k : Nat) : Option HB → Bool
  | some ⟨2, [[.sl a 0 b c, .sl a' 0 b' c']]⟩ => a == io && b == 1 && c == 1 && a' == ip && b' == k && c' == k
  | _ => false
theorem isFd_spec {io ip k : Nat} {o : Option HB} (h : isFd io ip k o = true) : o = some ⟨2, [[.sl io 0 1 1, .sl ip 0 k k]]⟩ := by
  unfold isFd at h
  split at h
  · simp only [Bool.and_eq_true, beq_iff_eq] at h
    obtain ⟨⟨⟨⟨⟨rfl, rfl⟩, rfl⟩, rfl⟩, rfl⟩, rfl⟩ := h
    rfl
  · cases h
def isNew (p io ip k nn : Nat) : Option (DV × PT HB × Nat) → Bool
  | some (.tup [.ptr q 0 0, .imm (.int .i64 e)], H, n) => q == p && e == 0 && n == nn && isFd io ip k (H.get p) && isOcc (H.get io) && isPts k (H.get ip)
  | _ => false
theorem isNew_spec {p io ip k nn : Nat} {r : Option (DV × PT HB × Nat)} (h : isNew p io ip k nn r = true) (hk : 0 < k) (hnd : [p, io, ip].Nodup) :
    ∃ H, r = some (.tup [.ptr p 0 0, .imm (.int .i64 0)], H, nn) ∧ Fd H p [io, ip] [false] (List.replicate k ⟨1, 0, 0⟩) := by
  unfold isNew at h
  split at h
  · rename_i q e H n
    simp only [Bool.and_eq_true, beq_iff_eq] at h
    obtain ⟨⟨⟨⟨⟨rfl, rfl⟩, rfl⟩, h1⟩, h2⟩, h3⟩ := h
    refine ⟨H, rfl, _, _, [io], [ip], isFd_spec h1, .sl (isOcc_spec h2) (by simp), ?_, rfl, hnd⟩
    have := SlV.sl (isPts_spec h3) (fun e => by
      have := congrArg List.length e
      simp at this; omega)
    simpa using this
  · cases h

noncomputable def new1B (k : Int) (p io ip kk nn : Nat) (K : Go.PM.Callee) : Bool := match blindV K 12 [.imm (.int .i64 k)] with
  | some v => v.out && isNew p io ip kk nn (K 11 [v] .lf 0 0)
  | none => false
theorem new_spec {k : Int} {p io ip kk nn : Nat} {K : Go.PM.Callee} (h : new1B k p io ip kk nn K = true) (hk : 0 < kk) (hnd : [p, io, ip].Nodup) :
    ∃ v H0, v.out = true ∧ (∀ H n lo, callM K .blind 12 [.imm (.int .i64 k)] H n lo = some ⟨v, H, n, []⟩) ∧ K 11 [v] .lf 0 0 = some (.tup [.ptr p 0 0, .imm (.int .i64 0)], H0, nn) ∧ Fd H0 p [io, ip] [false] (List.replicate kk ⟨1, 0, 0⟩) := by
  unfold new1B at h
  split at h
  · rename_i v hv
    simp only [Bool.and_eq_true] at h
    obtain ⟨H0, e1, e2⟩ := isNew_spec h.2 hk hnd
    exact ⟨v, H0, h.1, fun H n lo => blind_of rfl hv H n lo, e1, e2⟩
  · cases h
theorem new_one : ∃ v H0, v.out = true ∧ (∀ H n lo, callM (K GG 29) .blind 12 [.imm (.int .i64 1)] H n lo = some ⟨v, H, n, []⟩) ∧ K GG 29 11 [v] .lf 0 0 = some (.tup [.ptr 2 0 0, .imm (.int .i64 0)], H0, 5) ∧ Fd H0 2 [1, 4] [false] [⟨1, 0, 0⟩] :=
  new_spec (kk := 1) (by rw [show K GG 29 = dcallF GG tab 29 from (dcallF_eq _ _ _).symm]; kernel_rfl) (by omega) (by decide)
theorem new_four : ∃ v H0, v.out = true ∧ (∀ H n lo, callM (K GG 29) .blind 12 [.imm (.int .i64 4)] H n lo = some ⟨v, H, n, []⟩) ∧ K GG 29 11 [v] .lf 0 0 = some (.tup [.ptr 2 0 0, .imm (.int .i64 0)], H0, 11) ∧ Fd H0 2 [1, 10] [false] [⟨1, 0, 0⟩, ⟨1, 0, 0⟩, ⟨1, 0, 0⟩, ⟨1, 0, 0⟩] :=
  new_spec (kk := 4) (by rw [show K GG 29 = dcallF GG tab 29 from (dcallF_eq _ _ _).symm]; kernel_rfl) (by omega) (by decide)

/-- A step of one point, what is told behind it. -/
theorem step_one {H : PT HB} {p : Pt} (hf : Fd H 2 [1, 4] [false] [p]) (x : Int) {n : Nat} (hn : 5 ≤ n) :
    ∃ H' n', K GG 29 13 [.ptr 2 0 0, .imm (.lst true 1 [[.int .i64 x]])] H n 0 = some (.tup [], H', n') ∧ Fd H' 2 [1, 4] [false] [drivenP p x] ∧ 5 ≤ n' ∧
      ∃ n2, callM (K GG 29) .ro 14 [.ptr 2 0 0] H' n' 0 = some ⟨.agg [.imm (.lst false 1 [[.bool false]]), .imm (.lst false 1 [[.int .i64 (drivenP p x).l]])], H', n2, [.rA]⟩ ∧ 5 ≤ n2 := by
  obtain ⟨H', n', e1, e2, e3, _⟩ := step_eq GG 27 hf (Dr.lst true [x]) (by simp) (by simp) n
  have e2' : Fd H' 2 [1, 4] [false] [drivenP p x] := e2
  obtain ⟨n2, q1, q2⟩ := in_eq GG 27 e2' (by simp) (by simp) (by simp) (n := n') (by simp; omega) 0
  exact ⟨H', n', e1, e2', by omega, n2, q1, by omega⟩
end Go.Proofs.YtbhmihigfncfgabDoor.D
