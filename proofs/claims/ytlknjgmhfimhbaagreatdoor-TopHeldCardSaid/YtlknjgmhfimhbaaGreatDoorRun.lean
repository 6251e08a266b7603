/-
  D's code run step by step, as 'simp' likes it; arguments by their kinds.
  Rows of bytes among the arguments.
  More small lemmas for running D's code by 'simp' where some values are not known.
  Loops by an invariant; calls that have nothing of the heap, by their value.
-/
import Derived.Test.YtlknjgmhfimhbaaGreatDoorLaw
section
set_option linter.unusedVariables false
set_option linter.unusedSimpArgs false
namespace Go.PM
theorem gP{α:Type} (t:PT α) (n m:Nat) (v:Option α):(t.put n v).get m=if m=n then v else t.get m:=PT.get_put t n m v
section
variable (G:Nat→Option (List IV)) (K:Callee) (lo:Nat)
noncomputable section
def zSZ (r:Option (Ex×St)) (b:DC):Option (Ex×St):=match r with
 | some (.norm,s)=>b.run G K lo s
 | r=>r
def zEm (c:Option DV) (a b:DC) (s:St):Option (Ex×St):=match c with
 | some (.imm (.bool true))=>a.run G K lo s
 | some (.imm (.bool false))=>b.run G K lo s
 | _=>none
def zDh (id:Nat) (r:Option (Ex×St)):Option (Ex×St):=match r with
 | some (.exit i,s)=>if i=id then some (.norm,s) else some (.exit i,s)
 | r=>r
def zOZ (r:Option (St×List Acc)) (os:List DO):Option (Ex×St):=match r with
 | some (s,_)=>(zNV G K lo os s).map fun r=>(.norm,r.1)
 | none=>none
def zNY (r:Option (St×List Acc)) (os:List DO):Option (St×List (List Acc)):=match r with
 | some (s,a)=>(zNV G K lo os s).map fun r=>(r.1,a::r.2)
 | none=>none
def zD9 (bef:List (List Nat)) (r:Option (St×List (List Acc))):Option (Ex×St):=match r with
 | some (s,accs)=>if calm bef accs then some (.norm,s) else none
 | none=>none
def zLU (live own:List Nat) (b:DC) (s:St):Option (Ex×St):=b.run G K lo { s with T:=keep s.T live,L:=keep s.L own }
end
variable {G K lo}
variable {s:St}
theorem zP4:DC.skip.run G K lo s=some (.norm,s):=rfl
theorem zP1:DC.ret.run G K lo s=some (.ret,s):=rfl
theorem zPo {id:Nat}:(DC.exit id).run G K lo s=some (.exit id,s):=rfl
theorem zP2 {a b:DC}:(DC.seq a b).run G K lo s=zSZ G K lo (a.run G K lo s) b:=rfl
theorem zPj {c:Opd}{a b:DC}:(DC.cond c a b).run G K lo s=zEm G K lo (ev G s.T.get c) a b s:=rfl
theorem zPi {id:Nat}{b:DC}:(DC.block id b).run G K lo s=zDh id (b.run G K lo s):=rfl
theorem zP0:(DC.reg []).run G K lo s=some (.norm,s):=rfl
variable {o:DO}
theorem zPz{os:List DO}:(DC.reg (o::os)).run G K lo s=zOZ G K lo (zNP G K lo o s) os:=by
 simp only[DC.run,zNV,zOZ]
 cases zNP G K lo o s with
 | none=>rfl
 | some r=>simp[Option.map_map,Function.comp_def]
theorem zPk {ops:List DO}{bef:List (List Nat)}:(DC.drw ops bef).run G K lo s=zD9 bef (zNV G K lo ops s):=rfl
theorem zPt {live own:List Nat}{b:DC}:(DC.loop live own b).run G K lo s=iter (zLU G K lo live own b) LOOP s:=rfl
theorem zSb {b:DC}:zSZ G K lo (some (.norm,s)) b=b.run G K lo s:=rfl
theorem zSc {b:DC}:zSZ G K lo (some (.ret,s)) b=some (.ret,s):=rfl
variable {i:Nat}
theorem zSa {b:DC}:zSZ G K lo (some (.exit i,s)) b=some (.exit i,s):=rfl
theorem zEF {a b:DC}:zEm G K lo (some (.imm (.bool true))) a b s=a.run G K lo s:=rfl
theorem zEE {a b:DC}:zEm G K lo (some (.imm (.bool false))) a b s=b.run G K lo s:=rfl
theorem zDj {id:Nat}:zDh id (some (.norm,s))=some (.norm,s):=rfl
theorem zDk {id:Nat}:zDh id (some (.ret,s))=some (.ret,s):=rfl
theorem zDi {id:Nat}:zDh id (some (.exit i,s))=if i=id then some (.norm,s) else some (.exit i,s):=rfl
variable {a:List Acc}
theorem zOb:zOZ G K lo (some (s,a)) []=some (.norm,s):=rfl
theorem zOa{os:List DO}:zOZ G K lo (some (s,a)) (o::os)=zOZ G K lo (zNP G K lo o s) os:=by
 rw[← zPz]; rfl
theorem zNc:zNV G K lo [] s=some (s,[]):=rfl
theorem zNb{os:List DO}:zNV G K lo (o::os) s=zNY G K lo (zNP G K lo o s) os:=by
 simp only[zNV,zNY]
 cases zNP G K lo o s <;> rfl
theorem zNa:zNY G K lo (some (s,a)) []=some (s,[a]):=rfl
theorem zNZ{os:List DO}:zNY G K lo (some (s,a)) (o::os)=(zNY G K lo (zNP G K lo o s) os).map fun r=>(r.1,a::r.2):=by
 rw[← zNb]; rfl
theorem zEA {bef:List (List Nat)}{accs:List (List Acc)}:zD9 bef (some (s,accs))=if calm bef accs then some (.norm,s) else none:=rfl
theorem zLV {live own:List Nat}{b:DC}:zLU G K lo live own b s=b.run G K lo ⟨keep s.T live,keep s.L own,s.H,s.n⟩:=rfl
theorem zJg {f:St→Option (Ex×St)}{k:Nat} {s':St}(h:f s=some (.norm,s')):iter f (k+1) s=iter f k s':=by simp[iter,h]
theorem zJh {f:St→Option (Ex×St)}{k:Nat} {s':St}{e:Ex}(h:f s=some (e,s')) (he:e≠.norm):iter f (k+1) s=some (e,s'):=by
 simp only[iter,h]
 cases e <;> first | rfl | exact absurd rfl he
theorem zJe {f:St→Option (Ex×St)}(I:Nat→St→Prop) (Q:Ex→St→Prop) (h:∀ m s,I m s→(∃ s' m',f s=some (.norm,s')∧m'<m∧I m' s')∨∃ e s',f s=some (e,s')∧e≠.norm∧Q e s') :
  ∀ (m k:Nat) (s:St),I m s→m<k→∃ e s',iter f k s=some (e,s')∧e≠.norm∧Q e s':=by
 intro m
 induction m using Nat.strongRecOn with
 | _ m ih=>
  intro k s hI hk
  obtain⟨k,rfl⟩:∃ k',k=k'+1:=⟨k - 1,by omega⟩
  rcases h m s hI with⟨s',m',h1,h2,h3⟩ | ⟨e,s',h1,h2,h3⟩
  ·rw[zJg h1]
   exact ih m' h2 k s' h3 (by omega)
  ·exact⟨e,s',zJh h1 h2,h2,h3⟩
end
def zHu (res:List DRes) (s:St):Option (DV×PT HB×Nat):=match zOy s res with
 | some [v]=>if v.out then some (v,s.H,s.n) else none
 | some vs=>if DV.out.outs vs then some (.tup vs,s.H,s.n) else none
 | none=>none
def zHw (res:List DRes) (r:Option (Ex×St)):Option (DV×PT HB×Nat):=match r with
 | some (.norm,s)=>zHu res s
 | some (.ret,s)=>zHu res s
 | _=>none
theorem zHz {G:Nat→Option (List IV)}{K:Callee}{lo np:Nat}{res:List DRes}{body:DC}{args:List DV}{H:PT HB}{n:Nat} :
  (DFn.mk np res body).run G K args H n lo=if args.length=np then zHw res (body.run G K lo ⟨zCi 0 args,.lf,H,n⟩) else none:=by
 simp only[DFn.run]
 split
 ·cases h:body.run G K lo ⟨zCi 0 args,.lf,H,n⟩ with
  | none=>rfl
  | some r=>
   obtain⟨e,s⟩:=r
   cases e <;> rfl
 ·rfl
variable {s:St}
theorem zOu {res:List DRes}:zHw res (some (.norm,s))=zHu res s:=rfl
theorem zOv {res:List DRes}:zHw res (some (.ret,s))=zHu res s:=rfl
theorem zFQ {G:Nat→Option (List IV)}{D:FuncId→Option Entry}{d:Nat}{f:FuncId}{fn:DFn}(h:D f=some (.fn fn)){args:List DV}{H:PT HB}{n lo:Nat} :
  zFP G D (d+1) f args H n lo=fn.run G (zFP G D d) args H n lo:=by simp only[zFP,h]
theorem zNg {v:IV}:(DV.imm v).out=true:=rfl
variable {i r:Nat}
theorem zNh {o:Nat}:(DV.ptr i r o).out=true:=rfl
variable {c l:Nat}
theorem zNj:(DV.sl i r l c).out=true:=rfl
theorem zEL {v:IV}:(DV.imm v).cells=[.imm v]:=rfl
theorem zEM {o:Nat}:(DV.ptr i r o).cells=[.ptr i r o]:=rfl
theorem zEN:(DV.sl i r l c).cells=[.sl i r l c]:=rfl
variable {cs:List DV}
theorem zEK:(DV.agg cs).cells=cs:=rfl
theorem zQT {k:IntKind}{n:Int}:(DV.imm (.int k n)).scal=true:=rfl
theorem zQR {b:Bool}:(DV.imm (.bool b)).scal=true:=rfl
theorem zQZ {s:List UInt8}:(DV.imm (.str s)).scal=true:=rfl
theorem zQW:(DV.imm .nils).scal=true:=rfl
theorem zQV:(DV.imm .nilp).scal=true:=rfl
theorem zQU {f:Bool}{sz:Nat}{es:List (List IV)}:(DV.imm (.lst f sz es)).scal=true:=rfl
theorem zQX {o:Nat}:(DV.ptr i r o).scal=true:=rfl
theorem zQY:(DV.sl i r l c).scal=true:=rfl
def ansT:Option (DV×PT HB×Nat)→Bool
 | some (.imm (.bool true),_,_)=>true
 | _=>false
theorem fit0 {r:List (Bool×List Kd)}(h:zAD [] cs):cs=[]:=by
 cases cs with
 | nil=>rfl
 | cons=>exact h.elim
theorem zHi {ag:Bool}{ks:List Kd}{r:List (Bool×List Kd)}(h:zAD ((ag,ks)::r) cs):∃ d ds,cs=d::ds∧zAC ag ks d∧zAD r ds:=by
 cases cs with
 | nil=>exact h.elim
 | cons d ds=>exact⟨d,ds,rfl,h.1,h.2⟩
theorem zHj {ks:List Kd}{d:DV}(h:zAC false [.sl ks] d):∃ iv,d=.imm iv∧FitK (.sl ks) iv:=by
 obtain⟨k',iv,hk,rfl,hf⟩:=h
 cases hk
 exact⟨_,rfl,hf⟩
theorem zTT {n:Int}(h:(Lit.int .i64 n).wf=true):-2 ^ 63≤n∧n<2 ^ 63:=by
 simp only[Lit.wf,IntKind.min,IntKind.max,IntKind.signed,IntKind.bits] at h
 simp at h
 omega
end Go.PM
end
section
set_option linter.unusedVariables false
set_option linter.unusedSimpArgs false
namespace Go.PM
end Go.PM
end
section
set_option linter.unusedVariables false
set_option linter.unusedSimpArgs false
namespace Go.PM
variable {cs:List DV}
theorem zNe:(DV.agg cs).out=DV.out.outs cs:=rfl
theorem zNk:(DV.tup cs).out=DV.out.outs cs:=rfl
variable {f:FuncId}
theorem zNf:(DV.fnc f cs).out=DV.out.outs cs:=rfl
theorem zNm:DV.out.outs []=true:=rfl
theorem zNl {v:DV}{vs:List DV}:DV.out.outs (v::vs)=(v.out&&DV.out.outs vs):=rfl
theorem zMa:zJQ .np (.imm .nilp)=some true:=rfl
variable {i r:Nat}
theorem zMb {o:Nat}:zJQ .np (.ptr i r o)=some false:=rfl
theorem zMZ {s o:Nat}:zJQ .np (.lref s i o)=some false:=rfl
theorem zMY {c:List IV}:zJQ .np (.imm (.cref c))=some false:=rfl
theorem zMd:zJQ .ns (.imm .nils)=some true:=rfl
theorem zMc {f:Bool}{sz:Nat}{es:List (List IV)}:zJQ .ns (.imm (.lst f sz es))=some false:=rfl
theorem zMe {l c:Nat}:zJQ .ns (.sl i r l c)=some false:=rfl
theorem zMR:zJQ .nf (.imm .nilf)=some true:=rfl
theorem zMQ:zJQ .nf (.fnc f cs)=some false:=rfl
theorem zMT:zJQ .ni (.imm .nili)=some true:=rfl
theorem zMS {t:TypeId}{v:IV}:zJQ .ni (.imm (.iface t v))=some false:=rfl
theorem zKE:lenOf (.imm .nils)=some 0:=rfl
theorem zKD {f:Bool}{sz:Nat}{es:List (List IV)}:lenOf (.imm (.lst f sz es))=some es.length:=rfl
theorem zKF {l c:Nat}:lenOf (.sl i r l c)=some l:=rfl
theorem zTW {n:Int}(h:-2 ^ 63≤n) (h':n<2 ^ 63):IntKind.i64.wrap n=n:=by
 simp only[IntKind.wrap,IntKind.bits,IntKind.signed]
 simp
 omega
theorem zQS:(DV.fnc f cs).scal=true:=rfl
variable {a b:Int} {k:IntKind}
theorem zDD:zDM .add k a b=some (.int k (k.wrap (a+b))):=rfl
theorem zDL:zDM .sub k a b=some (.int k (k.wrap (a - b))):=rfl
theorem zDJ:zDM .mul k a b=some (.int k (k.wrap (a*b))):=rfl
theorem zDE:zDM .eql k a b=some (.bool (a==b)):=rfl
theorem zDK:zDM .neq k a b=some (.bool (a != b)):=rfl
theorem zDI:zDM .lss k a b=some (.bool (a<b)):=rfl
theorem zDH:zDM .leq k a b=some (.bool (a≤b)):=rfl
theorem zDG:zDM .gtr k a b=some (.bool (a > b)):=rfl
theorem zDF:zDM .geq k a b=some (.bool (a≥b)):=rfl
theorem zS6 {b:Bool}:unOf .not (.imm (.bool b))=some (.bool !b):=rfl
theorem zS5{n:Int}:unOf .neg (.imm (.int k n))=some (.int k (k.wrap (0 - n))):=rfl
theorem gps {α:Type}{t:PT α}{k:Nat}{v:Option α}:(t.put k v).get k=v:=by rw[gP,if_pos rfl]
end Go.PM
end
section
set_option linter.unusedVariables false
set_option linter.unusedSimpArgs false
namespace Go.PM
variable {lo:Nat}
theorem zO4 {G:Nat→Option (List IV)}{K:Callee}{live own:List Nat}{b:DC}{N:Nat}(hN:N<LOOP) (I:Nat→St→Prop) (Q:Ex→St→Prop)
  (h:∀ i s,I i s→i≤N→(i<N∧∃ s',b.run G K lo ⟨keep s.T live,keep s.L own,s.H,s.n⟩=some (.norm,s')∧I (i+1) s')∨
   ∃ e s',b.run G K lo ⟨keep s.T live,keep s.L own,s.H,s.n⟩=some (e,s')∧e≠.norm∧Q e s') (s:St) (h0:I 0 s) :
  ∃ e s',(DC.loop live own b).run G K lo s=some (e,s')∧Q e s':=by
 obtain⟨e,s',q1,q2,q3⟩:=zJe (f:=zLU G K lo live own b) (fun m s=>∃ i:Nat,I i s∧i≤N∧m=N - i) Q
  (fun m s ⟨i,hI,hle,hm⟩=>by
   rcases h i s hI hle with⟨hlt,s',e1,e2⟩ | ⟨e,s',e1,e2,e3⟩
   ·exact .inl ⟨s',_,e1,by omega,i+1,e2,by omega,rfl⟩
   ·exact .inr ⟨e,s',e1,e2,e3⟩) N LOOP s ⟨0,h0,by omega,by omega⟩ (by omega)
 exact⟨e,s',q1,q3⟩
noncomputable def bl (K:Callee) (f:FuncId) (args:List DV):Option DV:=match K f args .lf 0 0 with
 | some (v,H1,_)=>frz H1.get 0 v
 | none=>none
variable {args:List DV} {f:FuncId}
theorem zDf {K:Callee}{v v':DV}{H':PT HB}{n':Nat}(h:K f args .lf 0 0=some (v,H',n')) (hf:frz H'.get 0 v=some v'):bl K f args=some v':=by
 unfold bl; rw[h]; exact hf
theorem zDe {K:Callee}{v:IV}{H':PT HB}{n':Nat}(h:K f args .lf 0 0=some (.imm v,H',n')):bl K f args=some (.imm v):=zDf h rfl
variable {H:PT HB} {n:Nat}
theorem zD0 {K:Callee}(hp:DV.pure.pures args=true):zDz K .blind f args H n lo=(bl K f args).map fun v=>⟨v,H,n,[]⟩:=by
 simp only[zDz,hp,if_true,bl]
 cases K f args .lf 0 0 with
 | none=>rfl
 | some r=>rfl
theorem zD3 {K:Callee}:zDz K .ro f args H n lo=if DV.out.outs args then match K f args H n n with
   | some (v,H1,n1)=>(frz H1.get n v).map fun v'=>⟨v',H,n1,[.rA]⟩
   | none=>none
  else none:=rfl
theorem zD1 {K:Callee}:zDz K .eff f args H n lo=if DV.out.outs args then (K f args H n lo).map fun r=>⟨r.1,r.2.1,r.2.2,[.wA]⟩ else none:=rfl
theorem zOL:DV.pure.pures []=true:=Eq.trans rfl rfl
theorem zOJ {v:DV}{vs:List DV}:DV.pure.pures (v::vs)=(v.pure&&DV.pure.pures vs):=Eq.trans rfl rfl
theorem zOH {v:IV}:(DV.imm v).pure=true:=Eq.trans rfl rfl
theorem zOG {cs:List DV}:(DV.agg cs).pure=DV.pure.pures cs:=Eq.trans rfl rfl
theorem zRH(h:n≤reachBytes):n<LOOP:=by
 have:reachBytes≤2 ^ 50:=by decide
 unfold LOOP
 omega
theorem beqF {a b:Int}(h:¬a=b):(a==b)=false:=by simpa using h
theorem bneT {a b:Int}(h:¬a=b):(a != b)=true:=by simpa using h
theorem zTX {i:Nat}(hi:i<n) (hn:n≤reachBytes):IntKind.i64.wrap ((i:Int)+1)=(i:Int)+1:=by
 have:reachBytes≤2 ^ 50:=by decide
 exact zTW (by omega) (by omega)
noncomputable def fN {α:Type}(n:Nat) (c:Nat→α):α:=Nat.rec (motive:=fun _=>α) (c 0) (fun m _=>c (Nat.succ m)) n
theorem zHU {α:Type}(n:Nat) (c:Nat→α):fN n c=c n:=by cases n <;> rfl
end Go.PM
end
