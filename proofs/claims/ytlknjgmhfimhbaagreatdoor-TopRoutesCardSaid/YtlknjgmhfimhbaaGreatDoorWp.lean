/-
  D's code as a machine with frames, path by path, for 'simp': what is behind a piece of code is a row of frames, an end's claim is handed through.
-/
import Derived.Test.YtlknjgmhfimhbaaGreatDoorSl
set_option linter.unusedVariables false
set_option linter.unusedSimpArgs false
namespace Go.PM
inductive Kf where
 | thn (b:DC)
 | blk (id:Nat)
section
variable (G:Nat→Option (List IV)) (K:Callee) (lo:Nat)
noncomputable section
def unw:List Kf→Option (Ex×St)→Option (Ex×St)
 | [],r=>r
 | .thn b::ks,r=>unw ks (thenRun G K lo r b)
 | .blk id::ks,r=>unw ks (blockRun id r)
def Ends (r:Option (Ex×St)) (Q:Ex→St→Prop):Prop:=∃ e s,r=some (e,s)∧Q e s
def Wp (c:DC) (ks:List Kf) (s:St) (Q:Ex→St→Prop):Prop:=Ends (unw G K lo ks (c.run G K lo s)) Q
def Bk (e:Ex) (ks:List Kf) (s:St) (Q:Ex→St→Prop):Prop:=Ends (unw G K lo ks (some (e,s))) Q
def Cd (v:Option DV) (a b:DC) (ks:List Kf) (s:St) (Q:Ex→St→Prop):Prop:=Ends (unw G K lo ks (condRun G K lo v a b s)) Q
def Rs (r:Option (St×List Acc)) (os:List DO) (ks:List Kf) (Q:Ex→St→Prop):Prop:=Ends (unw G K lo ks (regRun G K lo r os)) Q
def drwRun (bef:List (List Nat)) (accs:List (List Acc)) (ops:List DO) (s:St):Option (Ex×St):=match opsRun G K lo ops s with
 | some (s',l)=>if calm bef (accs++l) then some (.norm,s') else none
 | none=>none
def drsRun (bef:List (List Nat)) (accs:List (List Acc)) (r:Option (St×List Acc)) (os:List DO):Option (Ex×St):=match r with
 | some (s,a)=>drwRun G K lo bef (accs++[a]) os s
 | none=>none
def Dr (bef:List (List Nat)) (accs:List (List Acc)) (ops:List DO) (ks:List Kf) (s:St) (Q:Ex→St→Prop):Prop:=Ends (unw G K lo ks (drwRun G K lo bef accs ops s)) Q
def undT (dst:Option Nat) (s:St):St:={ s with T:=putT s.T dst (.imm .undef) }
def gd (v:Option DV) (w:Bool) (dst:Option Nat) (op:DOp) (s:St):Option (St×List Acc):=match v with
 | some (.imm (.bool c))=>if c=w then opRun G K lo ⟨dst,op,none⟩ s else some (undT dst s,[])
 | some (.imm .undef)=>some (undT dst s,[])
 | _=>none
def Ds (bef:List (List Nat)) (accs:List (List Acc)) (r:Option (St×List Acc)) (os:List DO) (ks:List Kf) (Q:Ex→St→Prop):Prop:=Ends (unw G K lo ks (drsRun G K lo bef accs r os)) Q
def Dg (bef:List (List Nat)) (accs:List (List Acc)) (v:Option DV) (w:Bool) (dst:Option Nat) (op:DOp) (os:List DO) (ks:List Kf) (s:St) (Q:Ex→St→Prop):Prop:=Ds G K lo bef accs (gd G K lo v w dst op s) os ks Q
def Rg (v:Option DV) (w:Bool) (dst:Option Nat) (op:DOp) (os:List DO) (ks:List Kf) (s:St) (Q:Ex→St→Prop):Prop:=Rs G K lo (gd G K lo v w dst op s) os ks Q
end
variable {G K lo}
variable {ks:List Kf}{s:St}{Q:Ex→St→Prop}{a b:DC}
theorem dw_seq:Wp G K lo (.seq a b) ks s Q=Wp G K lo a (.thn b::ks) s Q:=rfl
theorem dw_block {id:Nat}:Wp G K lo (.block id b) ks s Q=Wp G K lo b (.blk id::ks) s Q:=rfl
theorem dw_cond {c:Opd}:Wp G K lo (.cond c a b) ks s Q=Cd G K lo (ev G s.T.get c) a b ks s Q:=rfl
theorem dw_skip:Wp G K lo .skip ks s Q=Bk G K lo .norm ks s Q:=rfl
theorem dw_ret:Wp G K lo .ret ks s Q=Bk G K lo .ret ks s Q:=rfl
variable {i:Nat}
theorem dw_exit:Wp G K lo (.exit i) ks s Q=Bk G K lo (.exit i) ks s Q:=rfl
theorem dw_reg0:Wp G K lo (.reg []) ks s Q=Bk G K lo .norm ks s Q:=rfl
theorem dw_reg_ {o:DO}{os:List DO}:Wp G K lo (.reg (o::os)) ks s Q=Rs G K lo (opRun G K lo o s) os ks Q:=by
 simp only[Wp,run_reg,Rs]
theorem dw_reg {dst:Option Nat}{op:DOp}{os:List DO}:Wp G K lo (.reg (⟨dst,op,none⟩::os)) ks s Q=Rs G K lo (opRun G K lo ⟨dst,op,none⟩ s) os ks Q:=dw_reg_
variable {g:Nat}
theorem op_gd {dst:Option Nat}{op:DOp}{w:Bool}:opRun G K lo ⟨dst,op,some (g,w)⟩ s=gd G K lo (s.T.get g) w dst op s:=by
 unfold opRun gd
 simp only
 cases h:s.T.get g with
 | none=>rfl
 | some v=>
  cases v with
  | imm v=>
   cases v with
   | bool c=>cases c <;> cases w <;> simp[undT,opRun]
   | undef=>rfl
   | _=>rfl
  | _=>rfl
theorem dw_regg {dst:Option Nat}{op:DOp}{w:Bool}{os:List DO}:Wp G K lo (.reg (⟨dst,op,some (g,w)⟩::os)) ks s Q=Rg G K lo (s.T.get g) w dst op os ks s Q:=by
 rw[dw_reg_,op_gd]; rfl
theorem rs_some {x:List Acc}{os:List DO}:Rs G K lo (some (s,x)) os ks Q=Wp G K lo (.reg os) ks s Q:=rfl
theorem dw_drw {ops:List DO}{bef:List (List Nat)}:Wp G K lo (.drw ops bef) ks s Q=Dr G K lo bef [] ops ks s Q:=by
 have:(DC.drw ops bef).run G K lo s=drwRun G K lo bef [] ops s:=by
  simp only[DC.run,drwRun]
  cases opsRun G K lo ops s <;> rfl
 simp only[Wp,Dr,this]
theorem dr_cons_ {o:DO}{os:List DO}{bef:List (List Nat)}{accs:List (List Acc)}:Dr G K lo bef accs (o::os) ks s Q=Ds G K lo bef accs (opRun G K lo o s) os ks Q:=by
 have:drwRun G K lo bef accs (o::os) s=drsRun G K lo bef accs (opRun G K lo o s) os:=by
  simp only[drwRun,drsRun,opsRun]
  cases opRun G K lo o s with
  | none=>rfl
  | some r=>
   simp only
   cases opsRun G K lo os r.1 with
   | none=>rfl
   | some q=>simp
 simp only[Dr,Ds,this]
theorem dr_cons {dst:Option Nat}{op:DOp}{os:List DO}{bef:List (List Nat)}{accs:List (List Acc)}:Dr G K lo bef accs (⟨dst,op,none⟩::os) ks s Q=Ds G K lo bef accs (opRun G K lo ⟨dst,op,none⟩ s) os ks Q:=dr_cons_
theorem dr_consg {dst:Option Nat}{op:DOp}{w:Bool}{os:List DO}{bef:List (List Nat)}{accs:List (List Acc)}:Dr G K lo bef accs (⟨dst,op,some (g,w)⟩::os) ks s Q=Dg G K lo bef accs (s.T.get g) w dst op os ks s Q:=by
 rw[dr_cons_,op_gd]; rfl
section
variable {bef:List (List Nat)}{accs:List (List Acc)}{dst:Option Nat}{op:DOp}{os:List DO}{w c:Bool}
theorem dg_tt:Dg G K lo bef accs (some (.imm (.bool true))) true dst op os ks s Q=Ds G K lo bef accs (opRun G K lo ⟨dst,op,none⟩ s) os ks Q:=rfl
theorem dg_ff:Dg G K lo bef accs (some (.imm (.bool false))) false dst op os ks s Q=Ds G K lo bef accs (opRun G K lo ⟨dst,op,none⟩ s) os ks Q:=rfl
theorem dg_tf:Dg G K lo bef accs (some (.imm (.bool true))) false dst op os ks s Q=Dr G K lo bef (accs++[[]]) os ks (undT dst s) Q:=rfl
theorem dg_ft:Dg G K lo bef accs (some (.imm (.bool false))) true dst op os ks s Q=Dr G K lo bef (accs++[[]]) os ks (undT dst s) Q:=rfl
theorem dg_u:Dg G K lo bef accs (some (.imm .undef)) w dst op os ks s Q=Dr G K lo bef (accs++[[]]) os ks (undT dst s) Q:=rfl
theorem dg_b (c:Bool):Dg G K lo bef accs (some (.imm (.bool c))) w dst op os ks s Q=((c=true→Dg G K lo bef accs (some (.imm (.bool true))) w dst op os ks s Q)∧(c=false→Dg G K lo bef accs (some (.imm (.bool false))) w dst op os ks s Q)):=by
 cases c <;> simp
theorem dg_d {p:Prop} [Decidable p]:Dg G K lo bef accs (some (.imm (.bool (decide p)))) w dst op os ks s Q=((p→Dg G K lo bef accs (some (.imm (.bool true))) w dst op os ks s Q)∧(¬p→Dg G K lo bef accs (some (.imm (.bool false))) w dst op os ks s Q)):=by
 rw[dg_b]; simp
theorem dg_n:Dg G K lo bef accs (some (.imm (.bool (!c)))) w dst op os ks s Q=Dg G K lo bef accs (some (.imm (.bool c))) (!w) dst op os ks s Q:=by
 cases c <;> cases w <;> rfl
variable {d:Bool}
theorem dg_o {c:Bool}:Dg G K lo bef accs (some (.imm (.bool (c||d)))) w dst op os ks s Q=((c=true∨d=true→Dg G K lo bef accs (some (.imm (.bool true))) w dst op os ks s Q)∧(¬(c=true∨d=true)→Dg G K lo bef accs (some (.imm (.bool false))) w dst op os ks s Q)):=by
 rw[dg_b]; simp
theorem dg_a {c:Bool}:Dg G K lo bef accs (some (.imm (.bool (c&&d)))) w dst op os ks s Q=((c=true∧d=true→Dg G K lo bef accs (some (.imm (.bool true))) w dst op os ks s Q)∧(¬(c=true∧d=true)→Dg G K lo bef accs (some (.imm (.bool false))) w dst op os ks s Q)):=by
 rw[dg_b]; simp
theorem rg_tt:Rg G K lo (some (.imm (.bool true))) true dst op os ks s Q=Rs G K lo (opRun G K lo ⟨dst,op,none⟩ s) os ks Q:=rfl
theorem rg_ff:Rg G K lo (some (.imm (.bool false))) false dst op os ks s Q=Rs G K lo (opRun G K lo ⟨dst,op,none⟩ s) os ks Q:=rfl
theorem rg_tf:Rg G K lo (some (.imm (.bool true))) false dst op os ks s Q=Wp G K lo (.reg os) ks (undT dst s) Q:=rfl
theorem rg_ft:Rg G K lo (some (.imm (.bool false))) true dst op os ks s Q=Wp G K lo (.reg os) ks (undT dst s) Q:=rfl
theorem rg_u:Rg G K lo (some (.imm .undef)) w dst op os ks s Q=Wp G K lo (.reg os) ks (undT dst s) Q:=rfl
theorem rg_b (c:Bool):Rg G K lo (some (.imm (.bool c))) w dst op os ks s Q=((c=true→Rg G K lo (some (.imm (.bool true))) w dst op os ks s Q)∧(c=false→Rg G K lo (some (.imm (.bool false))) w dst op os ks s Q)):=by
 cases c <;> simp
theorem rg_d {p:Prop} [Decidable p]:Rg G K lo (some (.imm (.bool (decide p)))) w dst op os ks s Q=((p→Rg G K lo (some (.imm (.bool true))) w dst op os ks s Q)∧(¬p→Rg G K lo (some (.imm (.bool false))) w dst op os ks s Q)):=by
 rw[rg_b]; simp
theorem rg_n:Rg G K lo (some (.imm (.bool (!c)))) w dst op os ks s Q=Rg G K lo (some (.imm (.bool c))) (!w) dst op os ks s Q:=by
 cases c <;> cases w <;> rfl
end
theorem dq_some {x:List Acc}{os:List DO}{bef:List (List Nat)}{accs:List (List Acc)}:Ds G K lo bef accs (some (s,x)) os ks Q=Dr G K lo bef (accs++[x]) os ks s Q:=rfl
theorem dr_nil {bef:List (List Nat)}{accs:List (List Acc)}:Dr G K lo bef accs [] ks s Q=if calm bef accs then Bk G K lo .norm ks s Q else Ends (unw G K lo ks none) Q:=by
 have:drwRun G K lo bef accs [] s=if calm bef accs then some (.norm,s) else none:=by simp[drwRun,opsRun]
 simp only[Dr,this]
 split <;> rfl
theorem bk_nil {e:Ex}:Bk G K lo e [] s Q=Q e s:=by
 simp only[Bk,unw,Ends]
 exact propext ⟨fun ⟨_,_,h,q⟩=>by cases h; exact q,fun q=>⟨_,_,rfl,q⟩⟩
theorem bk_norm_thn:Bk G K lo .norm (.thn b::ks) s Q=Wp G K lo b ks s Q:=rfl
theorem bk_ret_thn:Bk G K lo .ret (.thn b::ks) s Q=Bk G K lo .ret ks s Q:=rfl
theorem bk_exit_thn:Bk G K lo (.exit i) (.thn b::ks) s Q=Bk G K lo (.exit i) ks s Q:=rfl
theorem bk_norm_blk {id:Nat}:Bk G K lo .norm (.blk id::ks) s Q=Bk G K lo .norm ks s Q:=rfl
theorem bk_ret_blk {id:Nat}:Bk G K lo .ret (.blk id::ks) s Q=Bk G K lo .ret ks s Q:=rfl
theorem bk_exit_blk {id:Nat}:Bk G K lo (.exit i) (.blk id::ks) s Q=if i=id then Bk G K lo .norm ks s Q else Bk G K lo (.exit i) ks s Q:=by
 simp only[Bk,unw,blockRun]
 split <;> rfl
theorem cd_t:Cd G K lo (some (.imm (.bool true))) a b ks s Q=Wp G K lo a ks s Q:=rfl
theorem cd_f:Cd G K lo (some (.imm (.bool false))) a b ks s Q=Wp G K lo b ks s Q:=rfl
theorem cd_b (c:Bool):Cd G K lo (some (.imm (.bool c))) a b ks s Q=((c=true→Wp G K lo a ks s Q)∧(c=false→Wp G K lo b ks s Q)):=by
 cases c <;> simp[cd_t,cd_f]
theorem cd_d {p:Prop} [Decidable p]:Cd G K lo (some (.imm (.bool (decide p)))) a b ks s Q=((p→Wp G K lo a ks s Q)∧(¬p→Wp G K lo b ks s Q)):=by
 rw[cd_b]; simp
theorem cd_n {c:Bool}:Cd G K lo (some (.imm (.bool (!c)))) a b ks s Q=Cd G K lo (some (.imm (.bool c))) b a ks s Q:=by
 cases c <;> rfl
variable {d:Bool}
theorem cd_a {c:Bool}:Cd G K lo (some (.imm (.bool (c&&d)))) a b ks s Q=((c=true∧d=true→Wp G K lo a ks s Q)∧(¬(c=true∧d=true)→Wp G K lo b ks s Q)):=by
 rw[cd_b]; simp
theorem cd_o {c:Bool}:Cd G K lo (some (.imm (.bool (c||d)))) a b ks s Q=((c=true∨d=true→Wp G K lo a ks s Q)∧(¬(c=true∨d=true)→Wp G K lo b ks s Q)):=by
 rw[cd_b]; simp
theorem dw_loop {live own:List Nat}{body:DC}{N:Nat}(hN:N<LOOP) (I:Nat→St→Prop) (QL:Ex→St→Prop)
  (h:∀ i s,i≤N→I i s→Wp G K lo body [] ⟨keep s.T live,keep s.L own,s.H,s.n⟩ (fun e s'=>(e=.norm∧i<N∧I (i+1) s')∨(e≠.norm∧QL e s')))
  (h0:I 0 s) (hk:∀ e s',QL e s'→Bk G K lo e ks s' Q):Wp G K lo (.loop live own body) ks s Q:=by
 obtain⟨e,s',q1,q2⟩:=rng_loop (live:=live) (own:=own) (b:=body) hN I QL (fun i s hI hle=>by
  obtain⟨e,s',e1,e2⟩:=h i s hle hI
  have e1':body.run G K lo ⟨keep s.T live,keep s.L own,s.H,s.n⟩=some (e,s'):=e1
  rcases e2 with⟨rfl,h2,h3⟩ | ⟨h2,h3⟩
  ·exact .inl ⟨h2,s',e1',h3⟩
  ·exact .inr ⟨e,s',e1',h2,h3⟩) s h0
 have:=hk e s' q2
 unfold Bk at this
 unfold Wp
 rw[q1]
 exact this
def Fe (r:Option (DV×PT HB×Nat)) (P:DV→PT HB→Nat→Prop):Prop:=∃ v H n,r=some (v,H,n)∧P v H n
theorem fe_some {v:DV}{H:PT HB}{n:Nat}{P:DV→PT HB→Nat→Prop}:Fe (some (v,H,n)) P=P v H n:=
 propext ⟨fun ⟨_,_,_,h,q⟩=>by cases h; exact q,fun q=>⟨_,_,_,rfl,q⟩⟩
def Fin (res:List DRes) (P:DV→PT HB→Nat→Prop) (e:Ex) (s:St):Prop:=match e with
 | .exit _=>False
 | _=>Fe (fnEnd res s) P
theorem fin_ret {res:List DRes}{P:DV→PT HB→Nat→Prop}:Fin res P .ret s=Fe (fnEnd res s) P:=rfl
theorem fin_norm {res:List DRes}{P:DV→PT HB→Nat→Prop}:Fin res P .norm s=Fe (fnEnd res s) P:=rfl
theorem fn_dw {np:Nat}{res:List DRes}{body:DC}{args:List DV}{H:PT HB}{n:Nat}{P:DV→PT HB→Nat→Prop}(hl:args.length=np)
  (h:Wp G K lo body [] ⟨argsT 0 args,.lf,H,n⟩ (Fin res P)):Fe ((DFn.mk np res body).run G K args H n lo) P:=by
 obtain⟨e,s',e1,e2⟩:=h
 have e1':body.run G K lo ⟨argsT 0 args,.lf,H,n⟩=some (e,s'):=e1
 rw[fn_run,if_pos hl,e1']
 cases e with
 | norm=>exact e2
 | ret=>exact e2
 | exit=>exact e2.elim
theorem bl_fe {K:Callee}{f:FuncId}{args:List DV}{iv:IV}(h:Fe (K f args .lf 0 0) (fun v _ _=>v=.imm iv)):bl K f args=some (.imm iv):=by
 obtain⟨v,H,n,e,rfl⟩:=h
 exact bl_imm e
end
section
variable {G:Nat→Option (List IV)}{T:Nat→Option DV}{L:Nat→Option LV}{h:Nat→Option HB}{n lo dst:Nat}
noncomputable def idxE (h:Nat→Option HB) (n s:Nat) (x i:Option DV):Option Eff:=match x,i with
  | some a,some b=>match asNat b with
   | some j=>match a with
    | .imm (.lst _ sz es)=>match es[j]? with
     | some e=>if sz=s∧0<s then give n (some (.imm (.cref e))) else none
     | none=>none
    | .sl id row len _=>match h id with
     | some hb=>if j<len∧hb.sz=s then some { v:=.ptr id (row+j) 0,n':=n,acc:=[.rX id] } else none
     | none=>none
    | _=>none
   | none=>none
  | _,_=>none
variable {x:Opd}
theorem dq_idx {s:Nat} {i:Opd}:dstep G T L h n lo dst (.idx s x i)=idxE h n s (ev G T x) (ev G T i):=rfl
variable {k:IntKind} {v:IV} {z:Int}
theorem idx_sl {α:Type}[Inhabited α] {s:Nat}{xs:List α}{f:α→List IV}(hv:Sl s v (xs.map f)) (hs:0<s)(h0:0≤z) (hz:z<xs.length) :
  idxE h n s (some (.imm v)) (some (.imm (.int k z)))=some { v:=.imm (.cref (f (nth xs z.toNat))),n':=n }:=by
 have hz':z.toNat<xs.length:=by omega
 rcases hv with⟨rfl,hn⟩ | ⟨g,rfl⟩
 ·have:xs=[]:=by simpa using hn
  subst this
  simp at hz'
 ·simp only[idxE,asNat,if_pos h0,List.getElem?_map,nth_get hz',Option.map_some,give]
  rw[if_pos ⟨trivial,hs⟩]
def takeV (v:IV) (i:Nat):IV:=match v with
 | .lst full sz es=>.lst (full&&decide (i=es.length)) sz ((es.take i).drop 0)
 | v=>v
theorem takeV_sl {α:Type}{s:Nat}{xs:List α}{f:α→List IV}(hv:Sl s v (xs.map f)) (i:Nat):Sl s (takeV v i) ((xs.take i).map f):=by
 rcases hv with⟨rfl,hn⟩ | ⟨g,rfl⟩
 ·have:xs=[]:=by simpa using hn
  subst this
  exact .inl ⟨rfl,by simp⟩
 ·exact .inr ⟨_,by simp[takeV]; rfl⟩
variable {i:Nat}
theorem slc_to {α:Type}{s:Nat}{xs:List α}{f:α→List IV}(hv:Sl s v (xs.map f))(hi:i≤xs.length) :
  sliceOf h n s (.imm v) none (some (.imm (.int .i64 (i:Int)))) none=some { v:=.imm (takeV v i),n':=n }:=by
 rcases hv with⟨rfl,hn⟩ | ⟨g,rfl⟩
 ·have:xs=[]:=by simpa using hn
  subst this
  have:i=0:=by simpa using hi
  subst this
  rfl
 ·have h1:natOr (some (.imm (.int .i64 (i:Int)))) (xs.map f).length=some i:=by simp[natOr,asNat]
  simp only[sliceOf,h1,takeV]
  simp[natOr,hi]
def InR (z:Int) (n:Nat):Prop:=0≤z∧z<n
instance {z:Int}{n:Nat}:Decidable (InR z n):=inferInstanceAs (Decidable (_∧_))
theorem idx_in {α:Type}[Inhabited α] {s:Nat}{xs:List α}{f:α→List IV}(hv:Sl s v (xs.map f)) (hs:0<s)(hz:InR z xs.length) :
  idxE h n s (some (.imm v)) (some (.imm (.int k z)))=some { v:=.imm (.cref (f (nth xs z.toNat))),n':=n }:=idx_sl hv hs hz.1 hz.2
def ILt (a b:Int):Prop:=a<b
instance {a b:Int}:Decidable (ILt a b):=inferInstanceAs (Decidable (_<_))
theorem ilt_iff {a b:Int}:ILt a b↔a<b:=Iff.rfl
theorem ilt_t {a b:Int}(h:a<b):ILt a b=True:=eq_true h
theorem ilt_f {a b:Int}(h:b≤a):ILt a b=False:=eq_false (fun h'=>by unfold ILt at h'; omega)
theorem ilt_self {a:Int}:ILt a a=False:=ilt_f (Int.le_refl a)
theorem ilt_n0:ILt (i:Int) 0=False:=ilt_f (by omega)
theorem idx_lt {α:Type}[Inhabited α] {s:Nat}{xs:List α}{f:α→List IV}(hv:Sl s v (xs.map f)) (hs:0<s)(h0:¬ILt z 0) (hz:ILt z xs.length) :
  idxE h n s (some (.imm v)) (some (.imm (.int k z)))=some { v:=.imm (.cref (f (nth xs z.toNat))),n':=n }:=idx_sl hv hs (by unfold ILt at h0; omega) hz
theorem idx_hp {s:Nat}{id row len cap:Nat}{hb:HB}(hh:h id=some hb) (hs:hb.sz=s)(h0:0≤z) (hz:z<len) :
  idxE h n s (some (.sl id row len cap)) (some (.imm (.int k z)))=some { v:=.ptr id (row+z.toNat) 0,n':=n,acc:=[.rX id] }:=by
 have hz':z.toNat<len:=by omega
 simp only[idxE,asNat,if_pos h0,hh]
 rw[if_pos ⟨hz',hs⟩]
theorem dq_mv:dstep G T L h n lo dst (.mv x)=(give n (ev G T x)):=rfl
theorem dq_pick {c:Opd}{a:Opd}{b:Opd}:dstep G T L h n lo dst (.pick c a b)=(match ev G T c with
  | some (.imm (.bool true))=>give n (ev G T a)
  | some (.imm (.bool false))=>give n (ev G T b)
  | _=>none):=rfl
theorem dq_nilck:dstep G T L h n lo dst (.nilck x)=(match ev G T x with
  | some (.ptr id r o)=>give n (some (.ptr id r o))
  | some (.lref s id o)=>give n (some (.lref s id o))
  | some (.imm (.cref c))=>give n (some (.imm (.cref c)))
  | _=>none):=rfl
variable {y:Opd}
theorem dq_bin {op:BinOp}{et:ET}:dstep G T L h n lo dst (.bin op et x y)=(match ev G T x,ev G T y with
  | some a,some b=>giveI n (binOf op et x y a b)
  | _,_=>none):=rfl
theorem dq_un {op:UnOp}:dstep G T L h n lo dst (.un op x)=(match ev G T x with
  | some a=>giveI n (unOf op a)
  | none=>none):=rfl
theorem dq_cvI:dstep G T L h n lo dst (.cvI k x)=(match ev G T x with
  | some (.imm (.int _ m))=>giveI n (some (.int k (k.wrap m)))
  | _=>none):=rfl
theorem dq_cvBS:dstep G T L h n lo dst (.cvBS x)=(match ev G T x with
  | some v=>match rowsOf h v with
   | some (src,sz,rows)=>if sz=1∨rows=[] then match mapO unImms rows with
     | some es=>match bytesOf es with
      | some bs=>some { v:=.imm (.str bs),n':=n,acc:=raccOf src }
      | none=>none
     | none=>none
    else none
   | none=>none
  | none=>none):=rfl
theorem dq_cvSB:dstep G T L h n lo dst (.cvSB x)=(match ev G T x with
  | some (.imm (.str s))=>giveI n (some (.lst false 1 (s.map rowOfByte)))
  | _=>none):=rfl
theorem dq_cvBB:dstep G T L h n lo dst (.cvBB x)=(match ev G T x with
  | some (.sl id row len cap)=>if lo≤id then
    match h id with
    | some hb=>some { v:=.sl id row len cap,hw:=[(id,some hb)],n':=n,acc:=[.wX id] }
    | none=>none
   else none
  | _=>none):=rfl
theorem dq_mkI {t:TypeId}:dstep G T L h n lo dst (.mkI t x)=(match ev G T x with
  | some (.imm v)=>giveI n (some (.iface t v))
  | _=>none):=rfl
theorem dq_asrt {t:TypeId}{zero:IV}{ok:Bool}:dstep G T L h n lo dst (.asrt t zero ok x)=(match ev G T x with
  | some (.imm .nili)=>if ok then give n (some (.tup [.imm zero,.imm (.bool false)])) else none
  | some (.imm (.iface t' v))=>
   if t'=t then give n (some (if ok then .tup [.imm v,.imm (.bool true)] else .imm v))
   else if ok then give n (some (.tup [.imm zero,.imm (.bool false)])) else none
  | _=>none):=rfl
theorem dq_mkF {f:FuncId}{caps:List Opd}:dstep G T L h n lo dst (.mkF f caps)=(match evs G T caps with
  | some vs=>if DV.out.outs vs then give n (some (.fnc f vs)) else none
  | none=>none):=rfl
theorem dq_fld {off:Nat}:dstep G T L h n lo dst (.fld off x)=(match ev G T x with
  | some (.ptr id r o)=>give n (some (.ptr id r (o+off)))
  | some (.lref s id o)=>give n (some (.lref s id (o+off)))
  | some (.imm (.cref cs))=>if off<cs.length then give n (some (.imm (.cref (cs.drop off)))) else none
  | _=>none):=rfl
theorem dq_idxA {s:Nat}{k:Nat}{i:Opd}:dstep G T L h n lo dst (.idxA s k x i)=(match ev G T x,ev G T i with
  | some a,some b=>match asNat b with
   | some j=>if j<k∧0<s then match a with
     | .ptr id r o=>give n (some (.ptr id r (o+j*s)))
     | .lref sl id o=>give n (some (.lref sl id (o+j*s)))
     | .imm (.cref cs)=>if j*s<cs.length then give n (some (.imm (.cref (cs.drop (j*s))))) else none
     | _=>none
    else none
   | none=>none
  | _,_=>none):=rfl
variable {agg:Bool}
theorem dq_ld {k:Nat}:dstep G T L h n lo dst (.ld k agg x)=(match ev G T x with
  | some a=>loadOf L h n k agg a
  | none=>none):=rfl
theorem dq_st {k:Nat}{v:Opd}:dstep G T L h n lo dst (.st k x v)=(match ev G T x,ev G T v with
  | some a,some b=>storeOf L h n lo k b a
  | _,_=>none):=rfl
theorem dq_part {off:Nat}{k:Nat}:dstep G T L h n lo dst (.part off k agg x)=(match ev G T x with
  | some (.agg cs)=>match cut cs off k with
   | some r=>give n (ofCells agg r)
   | none=>none
  | _=>none):=rfl
theorem dq_idxV {s:Nat}{k:Nat}{i:Opd}:dstep G T L h n lo dst (.idxV s k agg x i)=(match ev G T x,ev G T i with
  | some (.agg cs),some b=>match asNat b with
   | some j=>if j<k then match cut cs (j*s) s with
     | some r=>give n (ofCells agg r)
     | none=>none
    else none
   | none=>none
  | _,_=>none):=rfl
theorem dq_idxS{i:Opd}:dstep G T L h n lo dst (.idxS x i)=(match ev G T x,ev G T i with
  | some (.imm (.str s)),some b=>match asNat b with
   | some j=>match s[j]? with
    | some c=>giveI n (some (.int .u8 c.toNat))
    | none=>none
   | none=>none
  | _,_=>none):=rfl
theorem dq_boxL {v:Opd}:dstep G T L h n lo dst (.boxL v)=(match ev G T v with
  | some a=>if a.cells.all DV.scal then some { v:=.lref dst n 0,lw:=[(dst,.box n a.cells)],n':=n+1,acc:=[.wL dst] } else none
  | none=>none):=rfl
theorem dq_boxH {v:Opd}:dstep G T L h n lo dst (.boxH v)=(match ev G T v with
  | some a=>if a.cells.all DV.scal∧a.out∧0<a.cells.length then some { v:=.ptr n 0 0,hw:=[(n,some ⟨a.cells.length,[a.cells]⟩)],n':=n+1,acc:=[.wX n] } else none
  | none=>none):=rfl
theorem dq_alL {zero:List IV}:dstep G T L h n lo dst (.alL zero)=(some { v:=.lref dst n 0,lw:=[(dst,.box n (imms zero))],n':=n+1,acc:=[.wL dst] }):=rfl
theorem dq_alH {zero:List IV}:dstep G T L h n lo dst (.alH zero)=(if 0<zero.length then some { v:=.ptr n 0 0,hw:=[(n,some ⟨zero.length,[imms zero]⟩)],n':=n+1,acc:=[.wX n] } else none):=rfl
theorem dq_build {zero:List IV}{parts:List (Nat×Nat×Opd)}:dstep G T L h n lo dst (.build zero parts)=(match evParts G T parts with
  | some ps=>give n ((lay (imms zero) ps).map .agg)
  | none=>none):=rfl
theorem dq_bsl {mt:Bool}{s:Nat}{zero:List IV}{len:Nat}{parts:List (Nat×Opd)}:dstep G T L h n lo dst (.bsl mt s zero len parts)=(match evParts2 G T parts with
  | some ps=>
   if 0<s∧zero.length=s then
    match lay ((List.replicate len (imms zero)).flatten) (ps.map fun p=>(p.1*s,s,p.2)) with
    | some cells=>
     if cells.all DV.scal then
      match (if mt then none else unImms cells) with
      | some vs=>giveI n (some (.lst true s (rowsN s len vs)))
      | none=>if DV.out.outs cells∧0<len then some { v:=.sl n 0 len len,hw:=[(n,some ⟨s,rowsN s len cells⟩)],n':=n+1,acc:=[.wX n] } else none
     else none
    | none=>none
   else none
  | none=>none):=rfl
variable {bytes:Nat}
theorem dq_mks {mt:Bool}{s:Nat}{zero:List IV}{l:Opd}:dstep G T L h n lo dst (.mks mt s bytes zero l)=(match ev G T l with
  | some b=>match asNat b with
   | some len=>if 0<s∧zero.length=s∧len≤appMax∧len*bytes≤appMax then
     if mt then some { v:=.sl n 0 len len,hw:=[(n,some ⟨s,List.replicate len (imms zero)⟩)],n':=n+1,acc:=[.wX n] }
     else giveI n (some (.lst true s (List.replicate len zero)))
    else none
   | none=>none
  | none=>none):=rfl
theorem dq_slc {s:Nat}{l:Option Opd}{hi:Option Opd}{mx:Option Opd}:dstep G T L h n lo dst (.slc s x l hi mx)=(match ev G T x,evO G T l,evO G T hi,evO G T mx with
  | some a,some l,some hi,some mx=>sliceOf h n s a l hi mx
  | _,_,_,_=>none):=rfl
theorem dq_slS{l:Option Opd}{hi:Option Opd}:dstep G T L h n lo dst (.slS x l hi)=(match ev G T x,evO G T l,evO G T hi with
  | some (.imm (.str s)),some l,some hi=>giveI n (sliceStr s l hi)
  | _,_,_=>none):=rfl
theorem dq_len:dstep G T L h n lo dst (.len x)=(match ev G T x with
  | some a=>giveI n ((lenOf a).map fun m=>.int .i64 m)
  | none=>none):=rfl
theorem dq_lenS:dstep G T L h n lo dst (.lenS x)=(match ev G T x with
  | some (.imm (.str s))=>giveI n (some (.int .i64 s.length))
  | _=>none):=rfl
theorem dq_lenA {k:Nat}:dstep G T L h n lo dst (.lenA k)=(giveI n (some (.int .i64 k))):=rfl
theorem dq_cap:dstep G T L h n lo dst (.cap x)=(match ev G T x with
  | some (.imm .nils)=>giveI n (some (.int .i64 0))
  | some (.imm (.lst true _ es))=>giveI n (some (.int .i64 es.length))
  | _=>none):=rfl
theorem dq_mn:dstep G T L h n lo dst (.mn x y)=(match ev G T x,ev G T y with
  | some (.imm (.int k a)),some (.imm (.int k' b))=>if k=k' then giveI n (some (.int k (if b<a then b else a))) else none
  | _,_=>none):=rfl
theorem dq_mx:dstep G T L h n lo dst (.mx x y)=(match ev G T x,ev G T y with
  | some (.imm (.int k a)),some (.imm (.int k' b))=>if k=k' then giveI n (some (.int k (if b > a then b else a))) else none
  | _,_=>none):=rfl
theorem dq_app {s:Nat}:dstep G T L h n lo dst (.app s bytes x y)=(match ev G T x,ev G T y with
  | some a,some b=>appOf h n lo s bytes a b
  | _,_=>none):=rfl
theorem dq_appZ {s:Nat}{zero:List IV}:dstep G T L h n lo dst (.appZ s bytes zero x y)=(match ev G T x,ev G T y with
  | some (.imm .nils),some b=>match asNat b with
   | some k=>if 0<k∧0<s∧zero.length=s∧k≤appMax∧k*bytes≤appMax then
     some { v:=.sl n 0 k k,hw:=[(n,some ⟨s,List.replicate k (imms zero)⟩)],n':=n+1,acc:=[.wX n] }
    else none
   | none=>none
  | _,_=>none):=rfl
theorem dq_rng:dstep G T L h n lo dst (.rng x)=(match ev G T x with
  | some (.imm (.str s))=>some { v:=.lref dst n 0,lw:=[(dst,.iter n s 0)],n':=n+1,acc:=[.wL dst] }
  | _=>none):=rfl
theorem dq_nxt {slot:Nat}:dstep G T L h n lo dst (.nxt slot)=(match T slot,L slot with
  | some (.lref s id 0),some (.iter id' str pos)=>if s=slot∧id=id' then
    if pos<str.length then
     let d:=Utf8.decode ⟨str.toArray⟩ pos
     some { v:=.tup [.imm (.bool true),.imm (.int .i64 pos),.imm (.int .i32 d.1)],lw:=[(slot,.iter id str (pos+d.2))],n':=n,acc:=[.wL slot] }
    else some { v:=.tup [.imm (.bool false)],n':=n,acc:=[.rL slot] }
   else none
  | _,_=>none):=rfl
theorem dq_ext:dstep G T L h n lo dst (.ext i x)=(match ev G T x with
  | some (.tup vs)=>give n vs[i]?
  | _=>none):=rfl
end
noncomputable def dec (p:Prop):Bool:=@decide p (Classical.propDecidable p)
theorem dec_iff {p:Prop}:dec p=true↔p:=@decide_eq_true_iff p (Classical.propDecidable p)
theorem dec_true:dec True=true:=dec_iff.2 trivial
theorem dec_false:dec False=false:=by
 cases h:dec False with
 | false=>rfl
 | true=>exact (dec_iff.1 h).elim
theorem dec_t {p:Prop}(h:p):dec p=true:=dec_iff.2 h
theorem dec_f {p:Prop}(h:¬p):dec p=false:=by rw[show p=False from propext ⟨h,False.elim⟩]; exact dec_false
theorem dec_fi {p:Prop}:dec p=false↔¬p:=⟨fun h hp=>(by rw[dec_t hp] at h; cases h),dec_f⟩
theorem dec_d {p:Prop} [Decidable p]:decide p=dec p:=by by_cases h:p <;> simp[h,dec_true,dec_false]
theorem dec_congr {p q:Prop}(h:p↔q):dec p=dec q:=by rw[propext h]
section
variable {G:Nat→Option (List IV)}{K:Callee}{lo:Nat}{ks:List Kf}{s:St}{Q:Ex→St→Prop}{a b:DC}{bef:List (List Nat)}{accs:List (List Acc)}{dst:Option Nat}{op:DOp}{os:List DO}{w:Bool}{p:Prop}
theorem cd_p:Cd G K lo (some (.imm (.bool (dec p)))) a b ks s Q=((p→Wp G K lo a ks s Q)∧(¬p→Wp G K lo b ks s Q)):=by
 rw[cd_b]; simp only[dec_iff,dec_fi]
theorem dg_p:Dg G K lo bef accs (some (.imm (.bool (dec p)))) w dst op os ks s Q=((p→Dg G K lo bef accs (some (.imm (.bool true))) w dst op os ks s Q)∧(¬p→Dg G K lo bef accs (some (.imm (.bool false))) w dst op os ks s Q)):=by
 rw[dg_b]; simp only[dec_iff,dec_fi]
theorem rg_p:Rg G K lo (some (.imm (.bool (dec p)))) w dst op os ks s Q=((p→Rg G K lo (some (.imm (.bool true))) w dst op os ks s Q)∧(¬p→Rg G K lo (some (.imm (.bool false))) w dst op os ks s Q)):=by
 rw[rg_b]; simp only[dec_iff,dec_fi]
end
variable {k:IntKind}
theorem bd_eql{a b:Int}:binInt .eql k a b=some (.bool (decide (a=b))):=by simp only[binInt]; congr 2
theorem bd_neq{a b:Int}:binInt .neq k a b=some (.bool (!decide (a=b))):=by simp only[binInt,bne]; congr 2
theorem bd_lss{a b:Int}:binInt .lss k a b=some (.bool (decide (ILt a b))):=rfl
theorem bd_gtr{a b:Int}:binInt .gtr k a b=some (.bool (decide (ILt b a))):=rfl
theorem bd_leq{a b:Int}:binInt .leq k a b=some (.bool (!decide (ILt b a))):=by
 have:decide (a≤b)=!decide (b<a):=by
  by_cases h:a≤b
  ·rw[decide_eq_true h,decide_eq_false (by omega)]; rfl
  ·rw[decide_eq_false h,decide_eq_true (by omega)]; rfl
 exact congrArg (fun x=>some (IV.bool x)) this
theorem bd_geq{a b:Int}:binInt .geq k a b=some (.bool (!decide (ILt a b))):=bd_leq (k:=k) (a:=b) (b:=a)
theorem bs_eql {a b:List UInt8}:binStr .eql a b=some (.bool (decide (a=b))):=by
 simp only[binStr]
 rw[show (a==b)=decide (a=b) from by by_cases e:a=b <;> simp[e]]
theorem bs_neq {a b:List UInt8}:binStr .neq a b=some (.bool (!decide (a=b))):=by
 simp only[binStr]
 rw[show (a==b)=decide (a=b) from by by_cases e:a=b <;> simp[e]]
theorem B6:type_of% (And.intro (And.intro (And.intro (And.intro (And.intro (And.intro (And.intro (@dw_regg) (@dr_consg)) (And.intro (@dg_tt) (@dg_ff))) (And.intro (And.intro (@dg_tf) (@dg_ft)) (And.intro (@dg_u) (And.intro (@dg_d) (@dg_n))))) (And.intro (And.intro (And.intro (@dg_o) (@dg_a)) (And.intro (@rg_tt) (@rg_ff))) (And.intro (And.intro (@rg_tf) (@rg_ft)) (And.intro (@rg_u) (And.intro (@rg_d) (@rg_n)))))) (And.intro (And.intro (And.intro (And.intro (@dw_seq) (@dw_block)) (And.intro (@dw_cond) (@dw_skip))) (And.intro (And.intro (@dw_ret) (@dw_exit)) (And.intro (@dw_reg0) (And.intro (@dw_reg) (@rs_some))))) (And.intro (And.intro (And.intro (@dw_drw) (@dr_cons)) (And.intro (@dq_some) (And.intro (@dr_nil) (@bk_nil)))) (And.intro (And.intro (@bk_norm_thn) (@bk_ret_thn)) (And.intro (@bk_exit_thn) (And.intro (@bk_norm_blk) (@bk_ret_blk))))))) (And.intro (And.intro (And.intro (And.intro (And.intro (@bk_exit_blk) (@cd_t)) (And.intro (@cd_f) (@cd_d))) (And.intro (And.intro (@cd_p) (@dg_p)) (And.intro (@rg_p) (And.intro (@dec_true) (@dec_false))))) (And.intro (And.intro (And.intro (@dec_iff) (@dec_fi)) (And.intro (@cd_n) (And.intro (@cd_a) (@cd_o)))) (And.intro (And.intro (@fe_some) (@fin_ret)) (And.intro (@fin_norm) (And.intro (@np_nilp) (@np_ptr)))))) (And.intro (And.intro (And.intro (And.intro (@np_lref) (@np_cref)) (And.intro (@ns_nils) (@ns_lst))) (And.intro (And.intro (@ns_sl) (@nf_nilf)) (And.intro (@nf_fnc) (And.intro (@ni_nili) (@ni_iface))))) (And.intro (And.intro (And.intro (@un_not) (@un_neg)) (And.intro (@bi_add) (And.intro (@bi_sub) (@bi_mul)))) (And.intro (And.intro (@bd_eql) (@bd_neq)) (And.intro (@bd_lss) (And.intro (@bd_leq) (@bd_gtr)))))))) (And.intro (And.intro (And.intro (And.intro (And.intro (And.intro (@bd_geq) (@ilt_self)) (And.intro (@ilt_n0) (@bs_eql))) (And.intro (And.intro (@bs_neq) (@callM_bl)) (And.intro (@callM_ro) (And.intro (@callM_eff) (@pures_nil))))) (And.intro (And.intro (And.intro (@pures_cons) (@pure_imm)) (And.intro (@pure_agg) (And.intro (@out_imm) (@out_ptr)))) (And.intro (And.intro (@out_sl) (@out_agg)) (And.intro (@out_tup) (And.intro (@out_fnc) (@outs_nil)))))) (And.intro (And.intro (And.intro (And.intro (@outs_cons) (@cells_imm)) (And.intro (@cells_ptr) (@cells_sl))) (And.intro (And.intro (@cells_agg) (@len_nils)) (And.intro (@len_lst) (And.intro (@len_sl) (@scal_int))))) (And.intro (And.intro (And.intro (@scal_bool) (@scal_str)) (And.intro (@scal_nils) (And.intro (@scal_nilp) (@scal_lst)))) (And.intro (And.intro (@scal_ptr) (@scal_sl)) (And.intro (@scal_fnc) (And.intro (@dq_idx) (@dq_mv))))))) (And.intro (And.intro (And.intro (And.intro (And.intro (@dq_pick) (@dq_nilck)) (And.intro (@dq_bin) (@dq_un))) (And.intro (And.intro (@dq_cvI) (@dq_cvBS)) (And.intro (@dq_cvSB) (And.intro (@dq_cvBB) (@dq_mkI))))) (And.intro (And.intro (And.intro (@dq_asrt) (@dq_mkF)) (And.intro (@dq_fld) (And.intro (@dq_idxA) (@dq_ld)))) (And.intro (And.intro (@dq_st) (@dq_part)) (And.intro (@dq_idxV) (And.intro (@dq_idxS) (@dq_boxL)))))) (And.intro (And.intro (And.intro (And.intro (@dq_boxH) (@dq_alL)) (And.intro (@dq_alH) (@dq_build))) (And.intro (And.intro (@dq_bsl) (@dq_mks)) (And.intro (@dq_slc) (And.intro (@dq_slS) (@dq_len))))) (And.intro (And.intro (And.intro (@dq_lenS) (@dq_lenA)) (And.intro (@dq_cap) (And.intro (@dq_mn) (@dq_mx)))) (And.intro (And.intro (@dq_app) (@dq_appZ)) (And.intro (@dq_rng) (And.intro (@dq_nxt) (@dq_ext))))))))):=
 And.intro (And.intro (And.intro (And.intro (And.intro (And.intro (And.intro (@dw_regg) (@dr_consg)) (And.intro (@dg_tt) (@dg_ff))) (And.intro (And.intro (@dg_tf) (@dg_ft)) (And.intro (@dg_u) (And.intro (@dg_d) (@dg_n))))) (And.intro (And.intro (And.intro (@dg_o) (@dg_a)) (And.intro (@rg_tt) (@rg_ff))) (And.intro (And.intro (@rg_tf) (@rg_ft)) (And.intro (@rg_u) (And.intro (@rg_d) (@rg_n)))))) (And.intro (And.intro (And.intro (And.intro (@dw_seq) (@dw_block)) (And.intro (@dw_cond) (@dw_skip))) (And.intro (And.intro (@dw_ret) (@dw_exit)) (And.intro (@dw_reg0) (And.intro (@dw_reg) (@rs_some))))) (And.intro (And.intro (And.intro (@dw_drw) (@dr_cons)) (And.intro (@dq_some) (And.intro (@dr_nil) (@bk_nil)))) (And.intro (And.intro (@bk_norm_thn) (@bk_ret_thn)) (And.intro (@bk_exit_thn) (And.intro (@bk_norm_blk) (@bk_ret_blk))))))) (And.intro (And.intro (And.intro (And.intro (And.intro (@bk_exit_blk) (@cd_t)) (And.intro (@cd_f) (@cd_d))) (And.intro (And.intro (@cd_p) (@dg_p)) (And.intro (@rg_p) (And.intro (@dec_true) (@dec_false))))) (And.intro (And.intro (And.intro (@dec_iff) (@dec_fi)) (And.intro (@cd_n) (And.intro (@cd_a) (@cd_o)))) (And.intro (And.intro (@fe_some) (@fin_ret)) (And.intro (@fin_norm) (And.intro (@np_nilp) (@np_ptr)))))) (And.intro (And.intro (And.intro (And.intro (@np_lref) (@np_cref)) (And.intro (@ns_nils) (@ns_lst))) (And.intro (And.intro (@ns_sl) (@nf_nilf)) (And.intro (@nf_fnc) (And.intro (@ni_nili) (@ni_iface))))) (And.intro (And.intro (And.intro (@un_not) (@un_neg)) (And.intro (@bi_add) (And.intro (@bi_sub) (@bi_mul)))) (And.intro (And.intro (@bd_eql) (@bd_neq)) (And.intro (@bd_lss) (And.intro (@bd_leq) (@bd_gtr)))))))) (And.intro (And.intro (And.intro (And.intro (And.intro (And.intro (@bd_geq) (@ilt_self)) (And.intro (@ilt_n0) (@bs_eql))) (And.intro (And.intro (@bs_neq) (@callM_bl)) (And.intro (@callM_ro) (And.intro (@callM_eff) (@pures_nil))))) (And.intro (And.intro (And.intro (@pures_cons) (@pure_imm)) (And.intro (@pure_agg) (And.intro (@out_imm) (@out_ptr)))) (And.intro (And.intro (@out_sl) (@out_agg)) (And.intro (@out_tup) (And.intro (@out_fnc) (@outs_nil)))))) (And.intro (And.intro (And.intro (And.intro (@outs_cons) (@cells_imm)) (And.intro (@cells_ptr) (@cells_sl))) (And.intro (And.intro (@cells_agg) (@len_nils)) (And.intro (@len_lst) (And.intro (@len_sl) (@scal_int))))) (And.intro (And.intro (And.intro (@scal_bool) (@scal_str)) (And.intro (@scal_nils) (And.intro (@scal_nilp) (@scal_lst)))) (And.intro (And.intro (@scal_ptr) (@scal_sl)) (And.intro (@scal_fnc) (And.intro (@dq_idx) (@dq_mv))))))) (And.intro (And.intro (And.intro (And.intro (And.intro (@dq_pick) (@dq_nilck)) (And.intro (@dq_bin) (@dq_un))) (And.intro (And.intro (@dq_cvI) (@dq_cvBS)) (And.intro (@dq_cvSB) (And.intro (@dq_cvBB) (@dq_mkI))))) (And.intro (And.intro (And.intro (@dq_asrt) (@dq_mkF)) (And.intro (@dq_fld) (And.intro (@dq_idxA) (@dq_ld)))) (And.intro (And.intro (@dq_st) (@dq_part)) (And.intro (@dq_idxV) (And.intro (@dq_idxS) (@dq_boxL)))))) (And.intro (And.intro (And.intro (And.intro (@dq_boxH) (@dq_alL)) (And.intro (@dq_alH) (@dq_build))) (And.intro (And.intro (@dq_bsl) (@dq_mks)) (And.intro (@dq_slc) (And.intro (@dq_slS) (@dq_len))))) (And.intro (And.intro (And.intro (@dq_lenS) (@dq_lenA)) (And.intro (@dq_cap) (And.intro (@dq_mn) (@dq_mx)))) (And.intro (And.intro (@dq_app) (@dq_appZ)) (And.intro (@dq_rng) (And.intro (@dq_nxt) (@dq_ext))))))))
theorem B7:type_of% (And.intro (And.intro (And.intro (And.intro (And.intro (And.intro (@undT.eq_1) (And.intro (@fnEnd.eq_1) (@argsT.eq_1))) (And.intro (@argsT.eq_2) (And.intro (@gP) (@keep.eq_1)))) (And.intro (And.intro (@keep.eq_2) (And.intro (@opRun.eq_1) (@ev.eq_1))) (And.intro (@ev.eq_2) (And.intro (@ev.eq_3) (@ev.eq_4))))) (And.intro (And.intro (And.intro (@evs.eq_1) (And.intro (@evs.eq_2) (@evO.eq_1))) (And.intro (@evO.eq_2) (And.intro (@give.eq_1) (@giveI.eq_1)))) (And.intro (And.intro (@binOf.eq_1) (And.intro (@binOf.eq_2) (@binOf.eq_3))) (And.intro (And.intro (@binOf.eq_4) (@binOf.eq_5)) (And.intro (@binOf.eq_6) (@binOf.eq_7)))))) (And.intro (And.intro (And.intro (And.intro (@binOf.eq_8) (And.intro (@binOf.eq_9) (@binOf.eq_10))) (And.intro (@binOf.eq_11) (And.intro (@binOf.eq_12) (@binOf.eq_13)))) (And.intro (And.intro (@binOf.eq_14) (And.intro (@binOf.eq_15) (@binOf.eq_16))) (And.intro (And.intro (@isNilK.eq_1) (@isNilK.eq_2)) (And.intro (@isNilK.eq_3) (@isNilK.eq_4))))) (And.intro (And.intro (And.intro (@isNilK.eq_5) (And.intro (@flip.eq_1) (@putT.eq_1))) (And.intro (@putT.eq_2) (And.intro (@putL.eq_1) (@putL.eq_2)))) (And.intro (And.intro (@putH.eq_1) (And.intro (@putH.eq_2) (@loadOf.eq_1))) (And.intro (And.intro (@loadOf.eq_2) (@loadOf.eq_3)) (And.intro (@loadOf.eq_4) (@storeOf.eq_1))))))) (And.intro (And.intro (And.intro (And.intro (And.intro (@storeOf.eq_2) (And.intro (@storeOf.eq_3) (@cut.eq_1))) (And.intro (@over.eq_1) (And.intro (@ofCells.eq_1) (@ofCells.eq_2)))) (And.intro (And.intro (@asNat.eq_1) (And.intro (@asNat.eq_2) (@natOr.eq_1))) (And.intro (@natOr.eq_2) (And.intro (@calm.eq_1) (@clashes.eq_1))))) (And.intro (And.intro (And.intro (@Acc.clash.eq_1) (And.intro (@Acc.clash.eq_2) (@Acc.clash.eq_3))) (And.intro (@Acc.clash.eq_4) (And.intro (@Acc.clash.eq_5) (@Acc.clash.eq_6)))) (And.intro (And.intro (@Acc.clash.eq_7) (And.intro (@Acc.clash.eq_8) (@Acc.clash.eq_9))) (And.intro (And.intro (@Acc.clash.eq_10) (@Acc.clash.eq_11)) (And.intro (@Acc.clash.eq_12) (@Acc.clash.eq_13)))))) (And.intro (And.intro (And.intro (And.intro (@Acc.clash.eq_14) (And.intro (@Acc.clash.eq_15) (@Acc.clash.eq_16))) (And.intro (@ressOf.eq_1) (And.intro (@ressOf.eq_2) (@resOf.eq_1)))) (And.intro (And.intro (@resOf.eq_2) (And.intro (@frz.eq_1) (@frz.eq_2))) (And.intro (And.intro (@frz.eq_3) (@frz.eq_4)) (And.intro (@frz.eq_5) (@frz.eq_6))))) (And.intro (And.intro (And.intro (@frz.eq_7) (And.intro (@frz.frzs.eq_1) (@frz.frzs.eq_2))) (And.intro (@DV.flat.eq_1) (And.intro (@DV.flat.eq_2) (@DV.flat.eq_3)))) (And.intro (And.intro (@DV.flat.eq_4) (And.intro (@DV.flat.eq_5) (@DV.flat.eq_6))) (And.intro (And.intro (@DV.flat.eq_7) (@DV.flat.flats.eq_1)) (And.intro (@DV.flat.flats.eq_2) (@imms.eq_1)))))))):=
 And.intro (And.intro (And.intro (And.intro (And.intro (And.intro (@undT.eq_1) (And.intro (@fnEnd.eq_1) (@argsT.eq_1))) (And.intro (@argsT.eq_2) (And.intro (@gP) (@keep.eq_1)))) (And.intro (And.intro (@keep.eq_2) (And.intro (@opRun.eq_1) (@ev.eq_1))) (And.intro (@ev.eq_2) (And.intro (@ev.eq_3) (@ev.eq_4))))) (And.intro (And.intro (And.intro (@evs.eq_1) (And.intro (@evs.eq_2) (@evO.eq_1))) (And.intro (@evO.eq_2) (And.intro (@give.eq_1) (@giveI.eq_1)))) (And.intro (And.intro (@binOf.eq_1) (And.intro (@binOf.eq_2) (@binOf.eq_3))) (And.intro (And.intro (@binOf.eq_4) (@binOf.eq_5)) (And.intro (@binOf.eq_6) (@binOf.eq_7)))))) (And.intro (And.intro (And.intro (And.intro (@binOf.eq_8) (And.intro (@binOf.eq_9) (@binOf.eq_10))) (And.intro (@binOf.eq_11) (And.intro (@binOf.eq_12) (@binOf.eq_13)))) (And.intro (And.intro (@binOf.eq_14) (And.intro (@binOf.eq_15) (@binOf.eq_16))) (And.intro (And.intro (@isNilK.eq_1) (@isNilK.eq_2)) (And.intro (@isNilK.eq_3) (@isNilK.eq_4))))) (And.intro (And.intro (And.intro (@isNilK.eq_5) (And.intro (@flip.eq_1) (@putT.eq_1))) (And.intro (@putT.eq_2) (And.intro (@putL.eq_1) (@putL.eq_2)))) (And.intro (And.intro (@putH.eq_1) (And.intro (@putH.eq_2) (@loadOf.eq_1))) (And.intro (And.intro (@loadOf.eq_2) (@loadOf.eq_3)) (And.intro (@loadOf.eq_4) (@storeOf.eq_1))))))) (And.intro (And.intro (And.intro (And.intro (And.intro (@storeOf.eq_2) (And.intro (@storeOf.eq_3) (@cut.eq_1))) (And.intro (@over.eq_1) (And.intro (@ofCells.eq_1) (@ofCells.eq_2)))) (And.intro (And.intro (@asNat.eq_1) (And.intro (@asNat.eq_2) (@natOr.eq_1))) (And.intro (@natOr.eq_2) (And.intro (@calm.eq_1) (@clashes.eq_1))))) (And.intro (And.intro (And.intro (@Acc.clash.eq_1) (And.intro (@Acc.clash.eq_2) (@Acc.clash.eq_3))) (And.intro (@Acc.clash.eq_4) (And.intro (@Acc.clash.eq_5) (@Acc.clash.eq_6)))) (And.intro (And.intro (@Acc.clash.eq_7) (And.intro (@Acc.clash.eq_8) (@Acc.clash.eq_9))) (And.intro (And.intro (@Acc.clash.eq_10) (@Acc.clash.eq_11)) (And.intro (@Acc.clash.eq_12) (@Acc.clash.eq_13)))))) (And.intro (And.intro (And.intro (And.intro (@Acc.clash.eq_14) (And.intro (@Acc.clash.eq_15) (@Acc.clash.eq_16))) (And.intro (@ressOf.eq_1) (And.intro (@ressOf.eq_2) (@resOf.eq_1)))) (And.intro (And.intro (@resOf.eq_2) (And.intro (@frz.eq_1) (@frz.eq_2))) (And.intro (And.intro (@frz.eq_3) (@frz.eq_4)) (And.intro (@frz.eq_5) (@frz.eq_6))))) (And.intro (And.intro (And.intro (@frz.eq_7) (And.intro (@frz.frzs.eq_1) (@frz.frzs.eq_2))) (And.intro (@DV.flat.eq_1) (And.intro (@DV.flat.eq_2) (@DV.flat.eq_3)))) (And.intro (And.intro (@DV.flat.eq_4) (And.intro (@DV.flat.eq_5) (@DV.flat.eq_6))) (And.intro (And.intro (@DV.flat.eq_7) (@DV.flat.flats.eq_1)) (And.intro (@DV.flat.flats.eq_2) (@imms.eq_1)))))))
end Go.PM
