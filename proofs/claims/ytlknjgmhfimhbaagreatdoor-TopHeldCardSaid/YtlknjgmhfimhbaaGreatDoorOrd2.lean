/-
  A region that draws its order, in a round of a loop over a function: an operation that leaves the world as it is may be taken first.
-/
import Derived.OrdersIn
import Derived.OwnWalkIn
set_option linter.unusedVariables false
set_option linter.unusedSimpArgs false
namespace Go.PM
def Stl {α:Type}(P:Program) (s:Sem α):Prop:=∀ w x w',s.run P w=.ok x w'→w'=w
section
variable {P:Program}{α β:Type}
theorem Stl.pure (a:α):Stl P (Pure.pure a:Sem α):=fun w x w' h=>by
 rw[Sem.run_pure] at h; cases h; rfl
theorem Stl.halt (h:Halt):Stl P (Sem.halt h:Sem α):=fun w x w' e=>by simp[Sem.run] at e
theorem Stl.bind {s:Sem α}{f:α→Sem β}(hs:Stl P s) (hf:∀ v,Stl P (f v)):Stl P (s >>= f):=fun w x w' h=>by
 rw[Sem.run_bind] at h
 cases hr:s.run P w with
 | ok v w1=>
  rw[hr] at h
  have:=hs w v w1 hr
  subst this
  exact hf v _ _ _ h
 | halt y w1=>rw[hr] at h; cases h
theorem Stl.program:Stl P program:=fun w x w' h=>by
 simp only[Go.program,Sem.run,Result.ok.injEq] at h
 exact h.2.symm
theorem Stl.load (a:Addr) (m:Mode):Stl P (Go.load a m):=fun w x w' h=>by
 simp only[Go.load,Sem.run] at h
 split at h
 ·simp only[Result.ok.injEq] at h; exact h.2.symm
 ·split at h
  ·simp only[Result.ok.injEq] at h; exact h.2.symm
  ·cases h
theorem Stl.underlying (t:TypeId):Stl P (underlying t):=.bind .program fun p=>by
 split
 ·exact .pure _
 ·exact .halt _
theorem Stl.typeInfo (t:TypeId):Stl P (typeInfo t):=.bind .program fun p=>by
 split
 ·exact .pure _
 ·exact .halt _
theorem Stl.sizeOf (t:TypeId):Stl P (Go.sizeOf t):=.bind (.typeInfo t) fun _=>.pure _
theorem Stl.isAgg (t:TypeId):Stl P (isAgg t):=.bind (.underlying t) fun d=>by
 split <;> exact .pure _
theorem Stl.loadCellsFrom (a:Addr):∀ (n i:Nat) (acc:Array Value),Stl P (loadCellsFrom a i n acc)
 | 0,i,acc=>.pure _
 | n+1,i,acc=>.bind (.load _ _) fun v=>Stl.loadCellsFrom a n (i+1) _
theorem Stl.sureAddr (v:Value):Stl P (Instr.sureAddr v):=by
 unfold Instr.sureAddr
 split
 ·exact .pure _
 ·exact .halt _
theorem Stl.loadVar (t:TypeId) (a:Addr):Stl P (loadVar t a):=.bind (.isAgg t) fun b=>by
 cases b
 ·exact .load _ _
 ·exact .bind (.sizeOf t) fun k=>.bind (.loadCellsFrom _ _ _ _) fun _=>.pure _
theorem Stl.loadAt (t:TypeId) (v:Value):Stl P (Instr.loadAt t v):=.bind (.sureAddr v) fun a=>.loadVar t a
def Nev {α:Type}(P:Program) (s:Sem α):Prop:=∀ w x w',s.run P w≠.ok x w'
theorem Nev.stl {s:Sem α}(h:Nev P s):Stl P s:=fun w x w' e=>absurd e (h w x w')
theorem Nev.bind {s:Sem α}{f:α→Sem β}(hf:∀ v,Nev P (f v)):Nev P (s >>= f):=fun w x w' h=>by
 rw[Sem.run_bind] at h
 cases hr:s.run P w with
 | ok v w1=>rw[hr] at h; exact hf v _ _ _ h
 | halt y w1=>rw[hr] at h; cases h
theorem Nev.halt (h:Halt):Nev P (Sem.halt h:Sem α):=fun w x w' e=>by simp[Sem.run] at e
theorem Nev.boundsPanic (k:IntKind) (x y:Int) (c:BoundsCode):Nev P (boundsPanic k x y c:Sem α):=by
 have hp:∀ s:Bool,Nev P (runtimePanic (.bounds (IntKind.i64.wrap x) y s c):Sem α):=fun s=>by
  unfold Go.runtimePanic
  exact .bind fun p=>.halt _
 unfold Go.boundsPanic
 dsimp only
 split <;> exact .bind fun b=>hp b
theorem Stl.asIntOf (v:Value):Stl P (asIntOf v):=by
 unfold Go.asIntOf
 split
 ·exact .pure _
 ·exact .halt _
 ·exact .halt _
theorem Stl.indexAt (t:TypeId) (x i:Value):Stl P (Instr.indexAt t x i):=by
 unfold Instr.indexAt
 refine .bind (.asIntOf i) fun ki=>?_
 obtain⟨k,i⟩:=ki
 have fin:∀ (base:Option Addr) (len:Nat) (elem:TypeId) (tiny:Bool),Stl P (match base with
   | some a=>if 0≤i∧i<(len:Int) then do
     let s ← Go.sizeOf elem
     (Pure.pure (.pointer (some (a.add (i.toNat*s)))):Sem Value)
    else if tiny = true then unsupported (.noEntry "op/indexAddr.an index out of range at an array of length 0 or 1 (ledger 616)")
    else boundsPanic k i len .index
   | none=>boundsPanic k i 0 .index):=fun base len elem tiny=>by
  cases base with
  | none=>exact (Nev.boundsPanic _ _ _ _).stl
  | some a=>
   dsimp only
   split
   ·exact .bind (.sizeOf _) fun _=>.pure _
   ·split
    ·exact .halt _
    ·exact (Nev.boundsPanic _ _ _ _).stl
 refine .bind (.underlying t) fun d=>?_
 dsimp only
 split
 ·exact .bind (.sureAddr _) fun _=>.bind (.pure _) fun r=>.bind (.underlying t) fun d=>fin _ _ _ _
 ·exact .bind (.pure _) fun r=>.bind (.underlying t) fun d=>fin _ _ _ _
 ·exact .bind (.halt _) fun r=>.bind (.underlying t) fun d=>fin _ _ _ _
end
def zJi (o:Oper):Bool:=match o.op with
 | .move _ | .load .. | .indexAddr ..=>true
 | _=>false
variable {o:Oper} {w w':World}
theorem zJl {P:Program}(h:zJi o=true) (ρ:Operand→Value){x:Next}(hr:(execOp ρ o).run P w=.ok x w'):w'=w∧∃ u,x=.value u:=by
 have val:∀ {s:Sem Value},Stl P s→(s >>= fun v=>(Pure.pure (Next.value v):Sem Next)).run P w=.ok x w'→w'=w∧∃ u,x=.value u:=fun hs hr2=>by
  rw[Sem.run_bind] at hr2
  rename_i s
  cases h1:s.run P w with
  | ok v w1=>
   rw[h1,Result.andThen_ok,Sem.run_pure] at hr2
   have:=hs _ _ _ h1
   cases hr2
   exact⟨this,v,rfl⟩
  | halt y w1=>rw[h1] at hr2; cases hr2
 unfold zJi at h
 unfold execOp at hr
 split at h
 ·rename_i ho
  rw[ho] at hr
  dsimp only at hr
  rw[Sem.run_pure] at hr
  cases hr
  exact⟨rfl,_,rfl⟩
 ·rename_i ho
  rw[ho] at hr
  exact val (.loadAt _ _) hr
 ·rename_i ho
  rw[ho] at hr
  exact val (.indexAt _ _ _) hr
 ·cases h
theorem zJj(h:zJi o=true) (c:Call):o.op≠.defer c:=fun e=>by simp[zJi,e] at h
section
variable {F:Fence}{n:Nat}{P:Program}{ops:Array Oper}{Q:Exit→Act→World→Prop}{md:Region.Mode}
variable {a:Act} {i:Nat} {v:Value}
theorem zNS(hi:ops[i]?=some o) (hnd:∀ c,o.op≠.defer c) (hw:Region.wanted o (yielded ops a.tmps)=true) (hr:(execOp a.eval o).run P w=.ok (.value v) w)
  (hb:o.about P w a.eval=none){K:Act→World→Prop}(h:K (a.put o.dst v) w):wpOpIn F n P ops Q i K a w:=by
 unfold wpOpIn
 simp only[hi,hw,if_true]
 unfold Oper.wpIn
 rw[Oper.semAt_plain F _ _ hnd,hr,hb]
 exact⟨fun f hf=>(by cases hf),h⟩
def zBr (md:Region.Mode) (ops:Array Oper) (listed:Array Bool) (i:Nat) (W:List Nat):Prop:=
 (∀ k∈W,listed.getD k false=false∧∃ ok,ops[k]?=some ok∧∃ e∈ok.after,Region.binds md e=true∧(e.on=i∨e.on∈W))∧
 ∀ j oj,ops[j]?=some oj→listed.getD j true=false→j≠i→j∉W→zJi oj=true
def zTM (md:Region.Mode) (ops:Array Oper) (listed:Array Bool) (i:Nat) (W:List Nat):Bool:=
 (W.all fun k=>!listed.getD k false&&(match ops[k]? with | some ok=>ok.after.any fun e=>Region.binds md e&&(e.on==i||W.contains e.on) | none=>false)) &&
 (List.range ops.size).all fun j=>listed.getD j true||j==i||W.contains j||(match ops[j]? with | some oj=>zJi oj | none=>true)
theorem zTN {listed:Array Bool}{W:List Nat}(h:zTM md ops listed i W=true):zBr md ops listed i W:=by
 unfold zTM at h
 simp only[Bool.and_eq_true,List.all_eq_true,Bool.not_eq_true'] at h
 refine⟨fun k hk=>?_,fun j oj hj hu hne hnw=>?_⟩
 ·obtain⟨h1,h2⟩:=h.1 k hk
  refine⟨h1,?_⟩
  split at h2
  ·rename_i ok hok
   refine⟨ok,hok,?_⟩
   rw[Array.any_eq_true'] at h2
   obtain⟨e,he,hb⟩:=h2
   simp only[Bool.and_eq_true,Bool.or_eq_true,beq_iff_eq,List.contains_eq_mem,decide_eq_true_eq] at hb
   exact⟨e,he,hb.1,hb.2⟩
  ·cases h2
 ·have hlt:j<ops.size:=(Array.getElem?_eq_some_iff.1 hj).1
  have:=h.2 j (List.mem_range.2 hlt)
  simp only[hj,Bool.or_eq_true,beq_iff_eq,List.contains_eq_mem,decide_eq_true_eq] at this
  rcases this with ((h1 | h1) | h1) | h1
  ·rw[hu] at h1; cases h1
  ·exact absurd h1 hne
  ·exact absurd h1 hnw
  ·exact h1
theorem zHe{oi:Oper}{W:List Nat}(hi:ops[i]?=some oi) (hnd:∀ c,oi.op≠.defer c) (hsel:∀ (j:Nat) (o:Oper) cs b,ops[j]?=some o→o.op≠.select cs b)
  (hQ:∀ c a w,Q (.panic c) (a.put oi.dst v) w→Q (.panic c) a w) :
  ∀ (fuel:Nat) (listed:Array Bool) (a:Act),
   (∀ j oj,ops[j]?=some oj→j≠i→listed.getD j true=false→(∀ e∈oj.after,Region.binds md e=true→e.on≠i)→oi.apart ops oj=true)→
   i∈Region.ready md ops listed→zBr md ops listed i W→
   Region.wanted oi (yielded ops a.tmps)=true→(execOp a.eval oi).run P w=.ok (.value v) w→oi.about P w a.eval=none→
   wpAnyIn F n P md ops Q fuel (listed.setIfInBounds i true) (a.put oi.dst v) w→wpAnyIn F n P md ops Q (fuel+1) listed a w:=by
 intro fuel
 induction fuel with
 | zero=>
  intro listed a _ hr hW hw hrun hb H
  refine⟨fun h=>(by rw[h] at hr; cases hr),fun j hj=>?_⟩
  by_cases hji:j=i
  ·subst hji; exact zNS hi hnd hw hrun hb H
  ·have:=ready_mono hj hji
   rw[H.1] at this
   cases this
 | succ fuel ih=>
  intro listed a hfree hr hW hw hrun hb H
  refine⟨fun h=>(by rw[h] at hr; cases hr),fun j hj=>?_⟩
  by_cases hji:j=i
  ·subst hji; exact zNS hi hnd hw hrun hb H
  have h1:=H.2 j (ready_mono hj hji)
  obtain⟨hjun,oj,hoj,hall⟩:=mem_ready.1 hj
  have hiun:listed.getD i false=false:=by
   have h0:=(mem_ready.1 hr).1
   rcases Nat.lt_or_ge i listed.size with h' | h'
   ·simp[h'] at h0 ⊢; exact h0
   ·simp[Array.getElem?_eq_none h']
  have hnot:∀ e∈oj.after,Region.binds md e=true→e.on≠i:=fun e he hbd heq=>by
   have h1:=hall e he hbd
   rw[heq,hiun] at h1
   cases h1
  have hjW:j∉W:=fun hm=>by
   obtain⟨_,ok,hok,e,he,hbd,ho⟩:=hW.1 j hm
   rw[hoj] at hok; cases hok
   have h2:=hall e he hbd
   rcases ho with ho | ho
   ·exact hnot e he hbd ho
   ·rw[(hW.1 _ ho).1] at h2; cases h2
  have hk:=hW.2 j oj hoj hjun hji hjW
  have hap:=hfree j oj hoj hji hjun hnot
  obtain⟨a1,a2,a3⟩:=Oper.apart_spec hap
  have hfree':∀ k ok,ops[k]?=some ok→k≠i→(listed.setIfInBounds j true).getD k true=false→(∀ e∈ok.after,Region.binds md e=true→e.on≠i)→oi.apart ops ok=true:=fun k ok hk hki hun hno=>by
   refine hfree k ok hk hki ?_ hno
   by_cases hjk:j=k
   ·subst hjk; exact hjun
   ·rw[getD_set_ne true hjk] at hun; exact hun
  have hW':zBr md ops (listed.setIfInBounds j true) i W:=by
   refine⟨fun k hkW=>⟨?_,(hW.1 k hkW).2⟩,fun k ok hok hun hne hnW=>?_⟩
   ·have hne:j≠k:=fun e=>hjW (e▸hkW)
    rw[getD_set_ne false hne]
    exact (hW.1 k hkW).1
   ·by_cases hjk:j=k
    ·subst hjk; rw[hoj] at hok; cases hok; exact hk
    ·rw[getD_set_ne true hjk] at hun
     exact hW.2 k ok hok hun hne hnW
  have go:∀ u,wpAnyIn F n P md ops Q fuel ((listed.setIfInBounds i true).setIfInBounds j true) ((a.put oi.dst v).put oj.dst u) w→wpAnyIn F n P md ops Q (fuel+1) (listed.setIfInBounds j true) (a.put oj.dst u) w:=fun u h2=>by
   refine ih (listed.setIfInBounds j true) (a.put oj.dst u) hfree' (ready_mono hr (Ne.symm hji)) hW' ?_ ?_ ?_ ?_
   ·rw[wanted_put oi a oj.dst u a3]; exact hw
   ·rw[execOp_put oi (fun cs b=>hsel i oi cs b hi) a oj.dst u a3]; exact hrun
   ·rw[about_put oi w a oj.dst u a3]; exact hb
   ·rw[Array.setIfInBounds_comm _ _ hji,Act.put_comm a v u a2] at *
    first | exact h2 | (rw[← Act.put_comm a v u a2]; exact h2)
  unfold wpOpIn at h1 ⊢
  simp only[hoj] at h1 ⊢
  rw[wanted_put oj a oi.dst v a1,about_put oj w a oi.dst v a1] at h1
  split
  ·rename_i hwj
   simp only[hwj,if_true] at h1
   unfold Oper.wpIn at h1 ⊢
   rw[about_put oj w a oi.dst v a1,Oper.semAt_plain F _ _ (zJj hk),execOp_put oj (fun cs b=>hsel j oj cs b hoj) a oi.dst v a1] at h1
   rw[Oper.semAt_plain F _ _ (zJj hk)]
   refine⟨h1.1,?_⟩
   have h2:=h1.2
   cases hrj:(execOp a.eval oj).run P w with
   | ok x w'=>
    obtain⟨rfl,u,rfl⟩:=zJl hk _ hrj
    rw[hrj] at h2
    exact go u h2
   | halt x w'=>
    rw[hrj] at h2
    cases x <;> simp only[Oper.uponIn] at h2 ⊢
    case panic u=>exact hQ _ _ _ h2
  ·rename_i hwj
   simp only[hwj] at h1
   exact⟨h1.1,go _ h1.2⟩
variable {fuel:Nat}
theorem take_at{oi:Oper}{listed:Array Bool}{d:Tmp}(W:List Nat) (hi:ops[i]?=some oi) (hnd:∀ c,oi.op≠.defer c) (hs:Region.noSelect ops=true)
  (hf:Region.free md ops listed i=true) (hr:(Region.ready md ops listed).contains i=true) (hW:zTM md ops listed i W=true) (hd:oi.dst=some d)
  (hQ:∀ c a w,Q (.panic c) (a.put oi.dst v) w→Q (.panic c) a w) (hg:oi.guard=none) (hrun:(execOp a.eval oi).run P w=.ok (.value v) w) (hb:oi.about P w a.eval=none)
  (h:wpAnyIn F n P md ops Q fuel (listed.setIfInBounds i true) { a with tmps:=a.tmps.setIfInBounds d v } w):wpAnyIn F n P md ops Q (fuel+1) listed a w:=
 zHe hi hnd (Region.noSelect_spec hs) hQ fuel listed a (Region.free_spec hi hf) (by simpa using hr) (zTN hW) (by simp[Region.wanted,hg]) hrun hb (by rw[hd]; exact h)
theorem op_to{d:Tmp}(hi:ops[i]?=some o) (hnd:∀ c,o.op≠.defer c) (hg:o.guard=none) (hd:o.dst=some d) (hr:(execOp a.eval o).run P w=.ok (.value v) w')
  (hb:o.about P w a.eval=none){K:Act→World→Prop}(h:K { a with tmps:=a.tmps.setIfInBounds d v } w'):wpOpIn F n P ops Q i K a w:=by
 unfold wpOpIn
 have hw:Region.wanted o (yielded ops a.tmps)=true:=by simp[Region.wanted,hg]
 simp only[hi,hw,if_true]
 unfold Oper.wpIn
 rw[Oper.semAt_plain F _ _ hnd,hr,hb]
 refine⟨fun f hf=>(by cases hf),?_⟩
 show K (a.put o.dst v) w'
 rw[hd]; exact h
theorem op_skip(hi:ops[i]?=some o) (hnd:∀ c,o.op≠.defer c) (hg:o.guard=none) (hd:o.dst=none) (hr:(execOp a.eval o).run P w=.ok .skip w')
  (hb:o.about P w a.eval=none){K:Act→World→Prop}(h:K a w'):wpOpIn F n P ops Q i K a w:=by
 unfold wpOpIn
 have hw:Region.wanted o (yielded ops a.tmps)=true:=by simp[Region.wanted,hg]
 simp only[hi,hw,if_true]
 unfold Oper.wpIn
 rw[Oper.semAt_plain F _ _ hnd,hr,hb]
 refine⟨fun f hf=>(by cases hf),?_⟩
 show K (a.put o.dst undef) w'
 rw[hd]; exact h
theorem next_op{listed:Array Bool}(hr:Region.ready md ops listed=[i]) (h:wpOpIn F n P ops Q i (wpAnyIn F n P md ops Q fuel (listed.setIfInBounds i true)) a w):wpAnyIn F n P md ops Q (fuel+1) listed a w:=
 wpAnyIn_all hr (by simp) (fun j hj=>by
  obtain rfl:j=i:=by simpa using hj
  exact h)
theorem next_two {j:Nat}{listed:Array Bool}(hr:Region.ready md ops listed=[i,j]) (h:wpOpIn F n P ops Q i (wpAnyIn F n P md ops Q fuel (listed.setIfInBounds i true)) a w)
  (h':wpOpIn F n P ops Q j (wpAnyIn F n P md ops Q fuel (listed.setIfInBounds j true)) a w):wpAnyIn F n P md ops Q (fuel+1) listed a w:=
 wpAnyIn_all hr (by simp) (fun k hk=>by
  rcases List.mem_cons.1 hk with rfl | hk
  ·exact h
  ·obtain rfl:k=j:=by simpa using hk
   exact h')
end
end Go.PM
