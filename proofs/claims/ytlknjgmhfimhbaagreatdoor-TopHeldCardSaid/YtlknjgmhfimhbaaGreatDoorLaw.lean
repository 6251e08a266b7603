/-
  A law's row out of D: what D answers for all arguments of the kinds, the row says.
-/
import Derived.Test.YtlknjgmhfimhbaaGreatDoorBridge
import Derived.ProofKit
import Derived.WalkKit
import Derived.OpenShut
set_option linter.unusedVariables false
set_option linter.unusedSimpArgs false
namespace Go.PM
open Go.ChangeShapes Go.WideShapes Go.RowKit
def PT.ofList {α:Type}:List (Nat×α)→PT α
 | []=>.lf
 | (n,v)::r=>(PT.ofList r).put n (some v)
theorem PT.get_ofList {α:Type}:∀ (l:List (Nat×α)){n:Nat}{v:α},(PT.ofList l).get n=some v→(n,v)∈l
 | [],n,v,h=>by simp[PT.ofList,PT.get] at h
 | (m,u)::r,n,v,h=>by
  simp only[PT.ofList,PT.get_put] at h
  split at h
  ·rename_i he
   cases h
   rw[he]; exact List.mem_cons_self ..
  ·exact List.mem_cons_of_mem _ (PT.get_ofList r h)
def AllOk (P:Program) (G:Nat→Option (List IV)) (l:List (Nat×Entry)):Prop:=∀ p∈l,p.2.ok P G p.1
theorem AllOk.nil {P:Program}{G:Nat→Option (List IV)}:AllOk P G []:=fun p hp=>by cases hp
variable {n:Nat}
theorem AllOk.cons {P:Program}{G:Nat→Option (List IV)}{d:DFn}{l:List (Nat×Entry)}(h:fnOk P n d=true) (hl:AllOk P G l):AllOk P G ((n,.fn d)::l):=fun p hp=>by
 rcases List.mem_cons.1 hp with rfl | hp
 ·exact h
 ·exact hl p hp
theorem AllOk.consP {P:Program}{G:Nat→Option (List IV)}{g:List DV→PT HB→Nat→Nat→Option (DV×PT HB×Nat)}{l:List (Nat×Entry)}(h:POk P G n g) (hl:AllOk P G l):AllOk P G ((n,.prim g)::l):=fun p hp=>by
 rcases List.mem_cons.1 hp with rfl | hp
 ·exact h
 ·exact hl p hp
def zH1 (P:Program) (l:List (Nat×DFn)):Bool:=l.all fun p=>fnOk P p.1 p.2
theorem AllOk.fns {P:Program}{G:Nat→Option (List IV)}{l:List (Nat×DFn)}(h:zH1 P l=true){r:List (Nat×Entry)}(hr:AllOk P G r):AllOk P G (l.map (fun p=>(p.1,Entry.fn p.2))++r):=by
 induction l with
 | nil=>exact hr
 | cons x l ih=>
  simp only[zH1,List.all_cons,Bool.and_eq_true] at h
  exact AllOk.cons h.1 (ih h.2)
theorem zRx {P:Program}{G:Nat→Option (List IV)}(hm:P.follows .mixedOrders=true){t:PT Entry}{l:List (Nat×Entry)}(ht:t=PT.ofList l) (hl:AllOk P G l) (depth:Nat):KOk P G (zFP G (fun f=>t.get f) depth):=
 zFR hm (fun f e he=>by
  rw[ht] at he
  exact hl _ (PT.get_ofList l he)) depth
def zJL (P:Program) (t:TypeId):Bool:=match P.underlying t with
 | some (.struct _) | some (.array ..)=>true
 | _=>false
def zQv (P:Program) (n:Nat):List TypeId→Option (List (Bool×List Kd))
 | []=>some []
 | t::ts=>match zQs P n t,zQv P n ts with
  | some ks,some r=>if P.readableRec t∧t<P.types.size then some ((zJL P t,ks)::r) else none
  | _,_=>none
def zAC:Bool→List Kd→DV→Prop
 | false,ks,d=>∃ k iv,ks=[k]∧d=.imm iv∧FitK k iv
 | true,ks,d=>∃ ivs,d=.agg (imms ivs)∧ivs.length=ks.length∧∀ (j:Nat) k c,ks[j]?=some k→ivs[j]?=some c→FitK k c
def zAD:List (Bool×List Kd)→List DV→Prop
 | [],[]=>True
 | (ag,ks)::r,d::ds=>zAC ag ks d∧zAD r ds
 | _,_=>False
section
variable {H:Type}{enc:TypeId×Value→H}{P:Program}{w:World}{base:Nat}
theorem zQu{t:TypeId}{ks:List Kd}(h:zQs P n t=some ks) (hag:zJL P t=false):∃ k,ks=[k]:=by
 cases n with
 | zero=>simp[zQs] at h
 | succ n=>
  unfold zJL at hag
  simp only[zQs] at h
  split at h
  ·cases h; exact⟨_,rfl⟩
  ·cases h; exact⟨_,rfl⟩
  ·cases h; exact⟨_,rfl⟩
  ·split at h
   ·split at h
    ·cases h; exact⟨_,rfl⟩
    ·cases h
   ·cases h
  ·rename_i hu; rw[hu] at hag; cases hag
  ·rename_i hu; rw[hu] at hag; cases hag
  ·cases h
theorem zCh{t:TypeId}{ks:List Kd}(hs:zQs P n t=some ks){v:Value}{d:DataW H}{ps:List MemPlace}{b0:Nat}(hval:Value.okWide P w .any b0 t v) (ht:DataW.Trod enc P w base (fun _=>true) true t v d ps) (hw:∀ n∈d.weights P t,n≤reachBytes) (φ:Phi) :
  ∃ c,zAC (zJL P t) ks c∧RepD φ (zQx w) c v:=by
 obtain⟨fuel,hf⟩:=ht
 obtain⟨f1,f2⟩:=zSq n hs hf hw
 cases hag:zJL P t with
 | true=>
  have hv:∃ cs,v=.agg cs:=by
   unfold zJL at hag
   unfold Value.okWide at hval
   split at hag
   ·rename_i hu; rw[hu] at hval; obtain⟨cs,h,_⟩:=hval; exact⟨cs,h⟩
   ·rename_i hu; rw[hu] at hval; obtain⟨cs,h,_⟩:=hval; exact⟨cs,h⟩
   ·cases hag
  obtain⟨cs,rfl⟩:=hv
  simp only[Value.cells] at f1 f2
  have hjj:∀ j:Nat,∃ c:IV,∀ k,ks[j]?=some k→∃ u,cs[j]?=some u∧FitK k c∧RepI (zQx w) c u:=fun j=>by
   cases hk:ks[j]? with
   | none=>exact⟨.undef,fun k hk'=>by cases hk'⟩
   | some k=>
    have hj:j<ks.length:=(List.getElem?_eq_some_iff.1 hk).1
    have hj':j<cs.toList.length:=by omega
    have hv:cs.toList[j]?=some cs.toList[j]:=List.getElem?_eq_getElem hj'
    obtain⟨c,q1,q2,q3⟩:=f2 j k _ hk hv
    exact⟨c,fun k' hk'=>by cases hk'; exact⟨_,by simp,q1,q2⟩⟩
  obtain⟨f,hf⟩:=Classical.axiomOfChoice hjj
  have hlen:cs.size=ks.length:=by simpa using f1
  refine⟨.agg (imms ((List.range ks.length).map f)),⟨_,rfl,by simp,fun j k c hk hc=>?_⟩,.agg (by simp[imms,hlen]) (fun i c u hc hu=>?_)⟩
  ·have hj:j<ks.length:=(List.getElem?_eq_some_iff.1 hk).1
   simp[hj] at hc
   subst hc
   exact (hf j k hk).choose_spec.2.1
  ·obtain⟨x,hx,rfl⟩:=zI5 hc
   have hi:i<ks.length:=by have:=(List.getElem?_eq_some_iff.1 hx).1; simpa using this
   simp[hi] at hx
   subst hx
   obtain⟨u',z1,z2,z3⟩:=hf i _ (List.getElem?_eq_getElem hi)
   rw[hu] at z1; cases z1
   exact .imm z3
 | false=>
  obtain⟨k,rfl⟩:=zQu hs hag
  have hv:v.cells=#[v]:=by
   unfold zJL at hag
   unfold Value.okWide at hval
   cases v with
   | agg cs=>
    exfalso
    split at hval
    ·rename_i hu; rw[hu] at hag; cases hag
    ·rename_i hu; rw[hu] at hag; cases hag
    ·cases n with
     | zero=>simp[zQs] at hs
     | succ n=>
      simp only[zQs] at hs
      split at hs <;> first
       | (cases hs; done)
       | (rename_i hu; simp[Cell.okWide,Cell.ok,hu] at hval; done)
       | (rename_i hu; rw[hu] at hag; cases hag)
   | _=>rfl
  rw[hv] at f2
  obtain⟨iv,q1,q2,q3⟩:=f2 0 k v rfl rfl
  exact⟨.imm iv,⟨k,iv,rfl,rfl,q1⟩,.imm q2⟩
theorem zCk (φ:Phi){n:Nat}:∀ {ts:List TypeId}{vs:List Value}{ds:List (DataW H)}{ps:List MemPlace}{ss:List (Bool×List Kd)}{b0:Nat},zQv P n ts=some ss→
  (∀ (j:Nat) t v,ts[j]?=some t→vs[j]?=some v→Value.okWide P w .any b0 t v)→DataW.TrodAll enc P w base (fun _=>true) true ts vs ds ps→(∀ (j:Nat) t d,ts[j]?=some t→ds[j]?=some d→∀ n∈d.weights P t,n≤reachBytes)→
  ∃ cs,zAD ss cs∧cs.length=vs.length∧∀ (i:Nat) c v,cs[i]?=some c→vs[i]?=some v→RepD φ (zQx w) c v
 | [],vs,ds,ps,ss,b0,hs,_,ht,_=>by
  simp[zQv] at hs; subst hs
  obtain⟨rfl,_⟩:=trodAll_nil ht
  exact⟨[],trivial,rfl,by simp⟩
 | t::ts,vs,ds,ps,ss,b0,hs,hval,ht,hw=>by
  obtain⟨v,vs',d,ds',p,q,rfl,rfl,rfl,h1,h2⟩:=trodAll_cons ht
  simp only[zQv] at hs
  split at hs
  ·rename_i ks r g1 g2
   split at hs
   ·cases hs
    obtain⟨c,z1,z2⟩:=zCh g1 (hval 0 t v rfl rfl) h1 (hw 0 t d rfl rfl) φ
    obtain⟨cs,y1,y2,y3⟩:=zCk φ g2 (fun j t' v' hj hv=>hval (j+1) t' v' hj hv) h2 (fun j t' d' hj hd=>hw (j+1) t' d' hj hd)
    refine⟨c::cs,⟨z1,y1⟩,by simp[y2],fun i c' v' hc hv=>?_⟩
    cases i with
    | zero=>simp at hc hv; subst hc hv; exact z2
    | succ i=>simp at hc hv; exact y3 i c' v' hc hv
   ·cases hs
  ·cases hs
theorem zSp (hl:laidOutB P=true){n:Nat}{W':World}{sp:Nat→Bool}:∀ {ts:List TypeId}{vs:List Value}{ds:List (DataW H)}{ps:List MemPlace}{ss:List (Bool×List Kd)},zQv P n ts=some ss→
  DataW.TrodAll enc P w base (fun _=>true) true ts vs ds ps→(∀ p∈ps,w.sameAt W' p)→(∀ p∈ps,sp p.block=true)→DataW.TrodAll enc P W' base sp true ts vs ds ps
 | [],vs,ds,ps,ss,_,ht,_,_=>by obtain⟨rfl,rfl,rfl⟩:=trodAll_nil ht; exact trodAll_mk0
 | t::ts,vs,ds,ps,ss,hs,ht,h1,h2=>by
  obtain⟨v,vs',d,ds',p,q,rfl,rfl,rfl,g1,g2⟩:=trodAll_cons ht
  simp only[zQv] at hs
  split at hs
  ·rename_i ks r s1 s2
   split at hs
   ·rename_i hc
    exact⟨p,q,WideElems.Trod_stays hl hc.1 hc.2 g1 (fun x hx=>h1 x (List.mem_append_left _ hx)) (fun x hx=>h2 x (List.mem_append_left _ hx)),
     zSp hl s2 g2 (fun x hx=>h1 x (List.mem_append_right _ hx)) (fun x hx=>h2 x (List.mem_append_right _ hx)),rfl⟩
   ·cases hs
  ·cases hs
theorem zJm {w w':World}(h1:w'.os=w.os) (h2:w'.output=w.output) (h3:∀ b,b<w.heap.size→w'.heap[b]?=w.heap[b]?) (may:MemPlace→Prop):w.keptBut w' may:=by
 refine⟨h1,h2,fun i hi=>?_⟩
 rw[h3 i hi]
 exact (World.keptBut_refl w may).2.2 i hi
theorem zOi (w:World) (Tch:Nat→Prop):Rel 0 Tch (fun _=>none) (zQx w) noT noL noH #[] w:=
 ⟨fun _ _ h=>h,fun i j bi bj li lj hi=>by simp at hi,fun i bi hi=>by simp at hi,fun id hb hid=>by simp[noH] at hid,fun k v hk=>by simp[noL] at hk,fun k k' v v' hk=>by simp[noL] at hk,fun k v hk=>by simp[noT] at hk⟩
theorem zJ3 {G:Nat→Option (List IV)}{f:FuncId}{fn:Func}{s:ChangeSpec}{K:Callee}(hK:KOk P G K) (hl:laidOutB P=true){ss:List (Bool×List Kd)}(hs:zQv P n fn.params.toList=some ss) (hvars:s.vars=[])
  {tb:TypeId}(hres:fn.resultTypes=#[tb]) (hb:P.underlying tb=some .bool) (hfn:∀ ds:List (DataW H),ds.length=fn.params.size→s.fn H ds={ results:=[.lit (.bool true)],args:=ds })
  (hD:∀ cs,zAD ss cs→∃ H' n',K f cs .lf 0 0=some (.imm (.bool true),H',n')){W:World}(hG:GRel (zQx W) G){b0:Nat}{args:Array Value}{ds gs:List (DataW H)}{before:List MemPlace}
  (hval:∀ (j:Nat) t v,fn.params[j]?=some t→args[j]?=some v→Value.okWide P W .any b0 t v) (hW:DataW.Whole enc P fn.params.toList s.vars false W args.toList ds gs before)
  (hsz:(DataW.weightsEach P (fn.params.toList++s.plain.varTypes P) (ds++gs)).all (·≤reachBytes)=true){fresh handsOn:Bool} :
  Calls P f args W fun e W'=>∃ v,e=.returned v∧s.post enc P fn false fresh handsOn false W args v W':=by
 have hW':=hW
 obtain⟨p,q,hA,hV,rfl,hfz,_⟩:=hW
 rw[hvars] at hV
 obtain⟨rfl,rfl⟩:=trodVars_none hV
 obtain⟨cs,h1,h2,h3⟩:=zCk (fun _=>none) hs (fun j t v hj hv=>hval j t v (by simpa using hj) (by simpa using hv)) hA (fun j t d hj hd n hn=>by
  have:=List.all_eq_true.1 hsz n (DataW.weights_mem_each (j:=j) (by rw[List.getElem?_append_left (List.getElem?_eq_some_iff.1 hj).1]; exact hj) (by rw[List.getElem?_append_left (List.getElem?_eq_some_iff.1 hd).1]; exact hd) n hn)
  simpa using this)
 obtain⟨H',n',hrun⟩:=hD cs h1
 have hds:ds.length=fn.params.size:=by
  have:∀ {ts:List TypeId}{vs:List Value}{ds:List (DataW H)}{ps:List MemPlace},DataW.TrodAll enc P W 0 (fun _=>true) true ts vs ds ps→ds.length=ts.length:=by
   intro ts
   induction ts with
   | nil=>intro vs ds ps h; obtain⟨_,rfl,_⟩:=trodAll_nil h; rfl
   | cons t ts ih=>intro vs ds ps h; obtain⟨v,vs',d,ds',p,q,rfl,rfl,rfl,_,g⟩:=trodAll_cons h; simp[ih g]
  simpa using this hA
 refine (hK.snd f cs .lf 0 0 _ H' n' hrun (Nat.le_refl _) (fun id hid=>absurd (zKI id) hid) (fun b=>W.heap.size≤b) (fun _=>none) (zQx W) W args hG (fun b hb=>hb)
  (zOi W _) ⟨by simpa using h2,fun i c v hc hv=>h3 i c v hc (by simpa using hv)⟩ (fun _ _ _=>rfl)).mono fun e W' hp=>?_
 cases e with
 | returned rv=>
  obtain⟨φ',σ',q1,q2,q3,q4⟩:=hp
  have hrv:rv=.bool true:=zOm (zOl q4)
  subst hrv
  have hsame:∀ b,b<W.heap.size→W'.heap[b]?=W.heap[b]?:=fun b hb=>q3.same b hb (by omega)
  have hlt:=hW'.lt
  refine⟨_,rfl,ds,[],p++[],[],p,[],hW',?_,?_,?_,zJm q3.os q3.out hsame _,fun h=>by cases h⟩
  ·rw[hres]
   simp only[List.append_nil]
   rw[hfn ds hds]
   exact trodAll_mk1 (shut_bool hb true)
  ·simp only[List.append_nil] at hlt ⊢
   rw[hfn ds hds]
   refine zSp hl hs hA (fun x hx=>?_) (fun x hx=>by simpa using hlt x hx)
   have hx':=hlt x hx
   cases x with
   | cell b off=>
    have:=hsame b hx'
    simp only[World.sameAt,World.cell?]
    rw[this]
   | map b=>exact hsame b hx'
  ·simp only[List.append_nil]
   rw[hvars,hfn ds hds]
   rfl
 | panicked _=>exact hp.elim
 | outgrown=>exact hp.elim
end
end Go.PM
