/-
  D's code run step by step, as 'simp' likes it; arguments by their kinds.
  Rows of bytes among the arguments.
  More small lemmas for running D's code by 'simp' where some values are not known.
  Loops by an invariant; calls that have nothing of the heap, by their value.
-/
import Derived.Test.YtlknjgmhfimhbaaGreatDoorLaw
section
set_option linter.unusedVariables false
set_option linter.unusedSimpArgs false
namespace Go.PM
theorem gP{α:Type} (t:PT α) (n m:Nat) (v:Option α):(t.put n v).get m=if m=n then v else t.get m:=PT.get_put t n m v
section
variable (G:Nat→Option (List IV)) (K:Callee) (lo:Nat)
noncomputable section
def thenRun (r:Option (Ex×St)) (b:DC):Option (Ex×St):=match r with
 | some (.norm,s)=>b.run G K lo s
 | r=>r
def condRun (c:Option DV) (a b:DC) (s:St):Option (Ex×St):=match c with
 | some (.imm (.bool true))=>a.run G K lo s
 | some (.imm (.bool false))=>b.run G K lo s
 | _=>none
def blockRun (id:Nat) (r:Option (Ex×St)):Option (Ex×St):=match r with
 | some (.exit i,s)=>if i=id then some (.norm,s) else some (.exit i,s)
 | r=>r
def regRun (r:Option (St×List Acc)) (os:List DO):Option (Ex×St):=match r with
 | some (s,_)=>(opsRun G K lo os s).map fun r=>(.norm,r.1)
 | none=>none
def opsThen (r:Option (St×List Acc)) (os:List DO):Option (St×List (List Acc)):=match r with
 | some (s,a)=>(opsRun G K lo os s).map fun r=>(r.1,a::r.2)
 | none=>none
def calmRun (bef:List (List Nat)) (r:Option (St×List (List Acc))):Option (Ex×St):=match r with
 | some (s,accs)=>if calm bef accs then some (.norm,s) else none
 | none=>none
def loopRun (live own:List Nat) (b:DC) (s:St):Option (Ex×St):=b.run G K lo { s with T:=keep s.T live,L:=keep s.L own }
end
variable {G K lo}
variable {s:St}
theorem run_skip:DC.skip.run G K lo s=some (.norm,s):=rfl
theorem run_ret:DC.ret.run G K lo s=some (.ret,s):=rfl
theorem run_exit {id:Nat}:(DC.exit id).run G K lo s=some (.exit id,s):=rfl
theorem run_seq {a b:DC}:(DC.seq a b).run G K lo s=thenRun G K lo (a.run G K lo s) b:=rfl
theorem run_cond {c:Opd}{a b:DC}:(DC.cond c a b).run G K lo s=condRun G K lo (ev G s.T.get c) a b s:=rfl
theorem run_block {id:Nat}{b:DC}:(DC.block id b).run G K lo s=blockRun id (b.run G K lo s):=rfl
theorem run_reg0:(DC.reg []).run G K lo s=some (.norm,s):=rfl
variable {o:DO}
theorem run_reg{os:List DO}:(DC.reg (o::os)).run G K lo s=regRun G K lo (opRun G K lo o s) os:=by
 simp only[DC.run,opsRun,regRun]
 cases opRun G K lo o s with
 | none=>rfl
 | some r=>simp[Option.map_map,Function.comp_def]
theorem run_drw {ops:List DO}{bef:List (List Nat)}:(DC.drw ops bef).run G K lo s=calmRun bef (opsRun G K lo ops s):=rfl
theorem run_loop {live own:List Nat}{b:DC}:(DC.loop live own b).run G K lo s=iter (loopRun G K lo live own b) LOOP s:=rfl
theorem then_norm {b:DC}:thenRun G K lo (some (.norm,s)) b=b.run G K lo s:=rfl
theorem then_ret {b:DC}:thenRun G K lo (some (.ret,s)) b=some (.ret,s):=rfl
variable {i:Nat}
theorem then_exit {b:DC}:thenRun G K lo (some (.exit i,s)) b=some (.exit i,s):=rfl
theorem cd_true {a b:DC}:condRun G K lo (some (.imm (.bool true))) a b s=a.run G K lo s:=rfl
theorem cd_false {a b:DC}:condRun G K lo (some (.imm (.bool false))) a b s=b.run G K lo s:=rfl
theorem block_norm {id:Nat}:blockRun id (some (.norm,s))=some (.norm,s):=rfl
theorem block_ret {id:Nat}:blockRun id (some (.ret,s))=some (.ret,s):=rfl
theorem block_exit {id:Nat}:blockRun id (some (.exit i,s))=if i=id then some (.norm,s) else some (.exit i,s):=rfl
variable {a:List Acc}
theorem reg_nil:regRun G K lo (some (s,a)) []=some (.norm,s):=rfl
theorem reg_cons{os:List DO}:regRun G K lo (some (s,a)) (o::os)=regRun G K lo (opRun G K lo o s) os:=by
 rw[← run_reg]; rfl
theorem ops_nil:opsRun G K lo [] s=some (s,[]):=rfl
theorem ops_cons{os:List DO}:opsRun G K lo (o::os) s=opsThen G K lo (opRun G K lo o s) os:=by
 simp only[opsRun,opsThen]
 cases opRun G K lo o s <;> rfl
theorem opsThen_nil:opsThen G K lo (some (s,a)) []=some (s,[a]):=rfl
theorem opsThen_cons{os:List DO}:opsThen G K lo (some (s,a)) (o::os)=(opsThen G K lo (opRun G K lo o s) os).map fun r=>(r.1,a::r.2):=by
 rw[← ops_cons]; rfl
theorem calm_some {bef:List (List Nat)}{accs:List (List Acc)}:calmRun bef (some (s,accs))=if calm bef accs then some (.norm,s) else none:=rfl
theorem loopRun_eq {live own:List Nat}{b:DC}:loopRun G K lo live own b s=b.run G K lo ⟨keep s.T live,keep s.L own,s.H,s.n⟩:=rfl
theorem iter_norm {f:St→Option (Ex×St)}{k:Nat} {s':St}(h:f s=some (.norm,s')):iter f (k+1) s=iter f k s':=by simp[iter,h]
theorem iter_stop {f:St→Option (Ex×St)}{k:Nat} {s':St}{e:Ex}(h:f s=some (e,s')) (he:e≠.norm):iter f (k+1) s=some (e,s'):=by
 simp only[iter,h]
 cases e <;> first | rfl | exact absurd rfl he
theorem iter_ind {f:St→Option (Ex×St)}(I:Nat→St→Prop) (Q:Ex→St→Prop) (h:∀ m s,I m s→(∃ s' m',f s=some (.norm,s')∧m'<m∧I m' s')∨∃ e s',f s=some (e,s')∧e≠.norm∧Q e s') :
  ∀ (m k:Nat) (s:St),I m s→m<k→∃ e s',iter f k s=some (e,s')∧e≠.norm∧Q e s':=by
 intro m
 induction m using Nat.strongRecOn with
 | _ m ih=>
  intro k s hI hk
  obtain⟨k,rfl⟩:∃ k',k=k'+1:=⟨k - 1,by omega⟩
  rcases h m s hI with⟨s',m',h1,h2,h3⟩ | ⟨e,s',h1,h2,h3⟩
  ·rw[iter_norm h1]
   exact ih m' h2 k s' h3 (by omega)
  ·exact⟨e,s',iter_stop h1 h2,h2,h3⟩
end
def fnEnd (res:List DRes) (s:St):Option (DV×PT HB×Nat):=match ressOf s res with
 | some [v]=>if v.out then some (v,s.H,s.n) else none
 | some vs=>if DV.out.outs vs then some (.tup vs,s.H,s.n) else none
 | none=>none
def fnRes (res:List DRes) (r:Option (Ex×St)):Option (DV×PT HB×Nat):=match r with
 | some (.norm,s)=>fnEnd res s
 | some (.ret,s)=>fnEnd res s
 | _=>none
theorem fn_run {G:Nat→Option (List IV)}{K:Callee}{lo np:Nat}{res:List DRes}{body:DC}{args:List DV}{H:PT HB}{n:Nat} :
  (DFn.mk np res body).run G K args H n lo=if args.length=np then fnRes res (body.run G K lo ⟨argsT 0 args,.lf,H,n⟩) else none:=by
 simp only[DFn.run]
 split
 ·cases h:body.run G K lo ⟨argsT 0 args,.lf,H,n⟩ with
  | none=>rfl
  | some r=>
   obtain⟨e,s⟩:=r
   cases e <;> rfl
 ·rfl
variable {s:St}
theorem res_norm {res:List DRes}:fnRes res (some (.norm,s))=fnEnd res s:=rfl
theorem res_ret {res:List DRes}:fnRes res (some (.ret,s))=fnEnd res s:=rfl
theorem dcall_fn {G:Nat→Option (List IV)}{D:FuncId→Option Entry}{d:Nat}{f:FuncId}{fn:DFn}(h:D f=some (.fn fn)){args:List DV}{H:PT HB}{n lo:Nat} :
  dcall G D (d+1) f args H n lo=fn.run G (dcall G D d) args H n lo:=by simp only[dcall,h]
theorem out_imm {v:IV}:(DV.imm v).out=true:=rfl
variable {i r:Nat}
theorem out_ptr {o:Nat}:(DV.ptr i r o).out=true:=rfl
variable {c l:Nat}
theorem out_sl:(DV.sl i r l c).out=true:=rfl
theorem cells_imm {v:IV}:(DV.imm v).cells=[.imm v]:=rfl
theorem cells_ptr {o:Nat}:(DV.ptr i r o).cells=[.ptr i r o]:=rfl
theorem cells_sl:(DV.sl i r l c).cells=[.sl i r l c]:=rfl
variable {cs:List DV}
theorem cells_agg:(DV.agg cs).cells=cs:=rfl
theorem scal_int {k:IntKind}{n:Int}:(DV.imm (.int k n)).scal=true:=rfl
theorem scal_bool {b:Bool}:(DV.imm (.bool b)).scal=true:=rfl
theorem scal_str {s:List UInt8}:(DV.imm (.str s)).scal=true:=rfl
theorem scal_nils:(DV.imm .nils).scal=true:=rfl
theorem scal_nilp:(DV.imm .nilp).scal=true:=rfl
theorem scal_lst {f:Bool}{sz:Nat}{es:List (List IV)}:(DV.imm (.lst f sz es)).scal=true:=rfl
theorem scal_ptr {o:Nat}:(DV.ptr i r o).scal=true:=rfl
theorem scal_sl:(DV.sl i r l c).scal=true:=rfl
def ansT:Option (DV×PT HB×Nat)→Bool
 | some (.imm (.bool true),_,_)=>true
 | _=>false
theorem fit0 {r:List (Bool×List Kd)}(h:ArgsFit [] cs):cs=[]:=by
 cases cs with
 | nil=>rfl
 | cons=>exact h.elim
theorem fit_cons {ag:Bool}{ks:List Kd}{r:List (Bool×List Kd)}(h:ArgsFit ((ag,ks)::r) cs):∃ d ds,cs=d::ds∧ArgFit ag ks d∧ArgsFit r ds:=by
 cases cs with
 | nil=>exact h.elim
 | cons d ds=>exact⟨d,ds,rfl,h.1,h.2⟩
theorem fit_s {ks:List Kd}{d:DV}(h:ArgFit false [.sl ks] d):∃ iv,d=.imm iv∧FitK (.sl ks) iv:=by
 obtain⟨k',iv,hk,rfl,hf⟩:=h
 cases hk
 exact⟨_,rfl,hf⟩
theorem wf_i64 {n:Int}(h:(Lit.int .i64 n).wf=true):-2 ^ 63≤n∧n<2 ^ 63:=by
 simp only[Lit.wf,IntKind.min,IntKind.max,IntKind.signed,IntKind.bits] at h
 simp at h
 omega
end Go.PM
end
section
set_option linter.unusedVariables false
set_option linter.unusedSimpArgs false
namespace Go.PM
end Go.PM
end
section
set_option linter.unusedVariables false
set_option linter.unusedSimpArgs false
namespace Go.PM
variable {cs:List DV}
theorem out_agg:(DV.agg cs).out=DV.out.outs cs:=rfl
theorem out_tup:(DV.tup cs).out=DV.out.outs cs:=rfl
variable {f:FuncId}
theorem out_fnc:(DV.fnc f cs).out=DV.out.outs cs:=rfl
theorem outs_nil:DV.out.outs []=true:=rfl
theorem outs_cons {v:DV}{vs:List DV}:DV.out.outs (v::vs)=(v.out&&DV.out.outs vs):=rfl
theorem np_nilp:isNil .np (.imm .nilp)=some true:=rfl
variable {i r:Nat}
theorem np_ptr {o:Nat}:isNil .np (.ptr i r o)=some false:=rfl
theorem np_lref {s o:Nat}:isNil .np (.lref s i o)=some false:=rfl
theorem np_cref {c:List IV}:isNil .np (.imm (.cref c))=some false:=rfl
theorem ns_nils:isNil .ns (.imm .nils)=some true:=rfl
theorem ns_lst {f:Bool}{sz:Nat}{es:List (List IV)}:isNil .ns (.imm (.lst f sz es))=some false:=rfl
theorem ns_sl {l c:Nat}:isNil .ns (.sl i r l c)=some false:=rfl
theorem nf_nilf:isNil .nf (.imm .nilf)=some true:=rfl
theorem nf_fnc:isNil .nf (.fnc f cs)=some false:=rfl
theorem ni_nili:isNil .ni (.imm .nili)=some true:=rfl
theorem ni_iface {t:TypeId}{v:IV}:isNil .ni (.imm (.iface t v))=some false:=rfl
theorem len_nils:lenOf (.imm .nils)=some 0:=rfl
theorem len_lst {f:Bool}{sz:Nat}{es:List (List IV)}:lenOf (.imm (.lst f sz es))=some es.length:=rfl
theorem len_sl {l c:Nat}:lenOf (.sl i r l c)=some l:=rfl
theorem wr_id {n:Int}(h:-2 ^ 63≤n) (h':n<2 ^ 63):IntKind.i64.wrap n=n:=by
 simp only[IntKind.wrap,IntKind.bits,IntKind.signed]
 simp
 omega
theorem scal_fnc:(DV.fnc f cs).scal=true:=rfl
variable {a b:Int} {k:IntKind}
theorem bi_add:binInt .add k a b=some (.int k (k.wrap (a+b))):=rfl
theorem bi_sub:binInt .sub k a b=some (.int k (k.wrap (a - b))):=rfl
theorem bi_mul:binInt .mul k a b=some (.int k (k.wrap (a*b))):=rfl
theorem bi_eql:binInt .eql k a b=some (.bool (a==b)):=rfl
theorem bi_neq:binInt .neq k a b=some (.bool (a != b)):=rfl
theorem bi_lss:binInt .lss k a b=some (.bool (a<b)):=rfl
theorem bi_leq:binInt .leq k a b=some (.bool (a≤b)):=rfl
theorem bi_gtr:binInt .gtr k a b=some (.bool (a > b)):=rfl
theorem bi_geq:binInt .geq k a b=some (.bool (a≥b)):=rfl
theorem un_not {b:Bool}:unOf .not (.imm (.bool b))=some (.bool !b):=rfl
theorem un_neg{n:Int}:unOf .neg (.imm (.int k n))=some (.int k (k.wrap (0 - n))):=rfl
theorem gps {α:Type}{t:PT α}{k:Nat}{v:Option α}:(t.put k v).get k=v:=by rw[gP,if_pos rfl]
end Go.PM
end
section
set_option linter.unusedVariables false
set_option linter.unusedSimpArgs false
namespace Go.PM
variable {lo:Nat}
theorem rng_loop {G:Nat→Option (List IV)}{K:Callee}{live own:List Nat}{b:DC}{N:Nat}(hN:N<LOOP) (I:Nat→St→Prop) (Q:Ex→St→Prop)
  (h:∀ i s,I i s→i≤N→(i<N∧∃ s',b.run G K lo ⟨keep s.T live,keep s.L own,s.H,s.n⟩=some (.norm,s')∧I (i+1) s')∨
   ∃ e s',b.run G K lo ⟨keep s.T live,keep s.L own,s.H,s.n⟩=some (e,s')∧e≠.norm∧Q e s') (s:St) (h0:I 0 s) :
  ∃ e s',(DC.loop live own b).run G K lo s=some (e,s')∧Q e s':=by
 obtain⟨e,s',q1,q2,q3⟩:=iter_ind (f:=loopRun G K lo live own b) (fun m s=>∃ i:Nat,I i s∧i≤N∧m=N - i) Q
  (fun m s ⟨i,hI,hle,hm⟩=>by
   rcases h i s hI hle with⟨hlt,s',e1,e2⟩ | ⟨e,s',e1,e2,e3⟩
   ·exact .inl ⟨s',_,e1,by omega,i+1,e2,by omega,rfl⟩
   ·exact .inr ⟨e,s',e1,e2,e3⟩) N LOOP s ⟨0,h0,by omega,by omega⟩ (by omega)
 exact⟨e,s',q1,q3⟩
noncomputable def bl (K:Callee) (f:FuncId) (args:List DV):Option DV:=match K f args .lf 0 0 with
 | some (v,H1,_)=>frz H1.get 0 v
 | none=>none
variable {args:List DV} {f:FuncId}
theorem bl_of {K:Callee}{v v':DV}{H':PT HB}{n':Nat}(h:K f args .lf 0 0=some (v,H',n')) (hf:frz H'.get 0 v=some v'):bl K f args=some v':=by
 unfold bl; rw[h]; exact hf
theorem bl_imm {K:Callee}{v:IV}{H':PT HB}{n':Nat}(h:K f args .lf 0 0=some (.imm v,H',n')):bl K f args=some (.imm v):=bl_of h rfl
variable {H:PT HB} {n:Nat}
theorem callM_bl {K:Callee}(hp:DV.pure.pures args=true):callM K .blind f args H n lo=(bl K f args).map fun v=>⟨v,H,n,[]⟩:=by
 simp only[callM,hp,if_true,bl]
 cases K f args .lf 0 0 with
 | none=>rfl
 | some r=>rfl
theorem callM_ro {K:Callee}:callM K .ro f args H n lo=if DV.out.outs args then match K f args H n n with
   | some (v,H1,n1)=>(frz H1.get n v).map fun v'=>⟨v',H,n1,[.rA]⟩
   | none=>none
  else none:=rfl
theorem callM_eff {K:Callee}:callM K .eff f args H n lo=if DV.out.outs args then (K f args H n lo).map fun r=>⟨r.1,r.2.1,r.2.2,[.wA]⟩ else none:=rfl
theorem pures_nil:DV.pure.pures []=true:=Eq.trans rfl rfl
theorem pures_cons {v:DV}{vs:List DV}:DV.pure.pures (v::vs)=(v.pure&&DV.pure.pures vs):=Eq.trans rfl rfl
theorem pure_imm {v:IV}:(DV.imm v).pure=true:=Eq.trans rfl rfl
theorem pure_agg {cs:List DV}:(DV.agg cs).pure=DV.pure.pures cs:=Eq.trans rfl rfl
theorem small(h:n≤reachBytes):n<LOOP:=by
 have:reachBytes≤2 ^ 50:=by decide
 unfold LOOP
 omega
theorem beqF {a b:Int}(h:¬a=b):(a==b)=false:=by simpa using h
theorem bneT {a b:Int}(h:¬a=b):(a != b)=true:=by simpa using h
theorem wr_succ {i:Nat}(hi:i<n) (hn:n≤reachBytes):IntKind.i64.wrap ((i:Int)+1)=(i:Int)+1:=by
 have:reachBytes≤2 ^ 50:=by decide
 exact wr_id (by omega) (by omega)
noncomputable def fN {α:Type}(n:Nat) (c:Nat→α):α:=Nat.rec (motive:=fun _=>α) (c 0) (fun m _=>c (Nat.succ m)) n
theorem fN_eq {α:Type}(n:Nat) (c:Nat→α):fN n c=c n:=by cases n <;> rfl
end Go.PM
end
