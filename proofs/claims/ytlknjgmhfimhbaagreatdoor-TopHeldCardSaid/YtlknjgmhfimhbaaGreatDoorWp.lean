/-
  D's code as a machine with frames, path by path, for 'simp': what is behind a piece of code is a row of frames, an end's claim is handed through.
-/
import Derived.Test.YtlknjgmhfimhbaaGreatDoorSl
set_option linter.defProp false
set_option linter.unusedVariables false
set_option linter.unusedSimpArgs false
namespace Go.PM
inductive Kf where
 | thn (b:DC)
 | blk (id:Nat)
section
variable (G:Nat→Option (List IV)) (K:Callee) (lo:Nat)
noncomputable section
def unw:List Kf→Option (Ex×St)→Option (Ex×St)
 | [],r=>r
 | .thn b::ks,r=>unw ks (zSZ G K lo r b)
 | .blk id::ks,r=>unw ks (zDh id r)
def Ends (r:Option (Ex×St)) (Q:Ex→St→Prop):Prop:=∃ e s,r=some (e,s)∧Q e s
def Wp (c:DC) (ks:List Kf) (s:St) (Q:Ex→St→Prop):Prop:=Ends (unw G K lo ks (c.run G K lo s)) Q
def Bk (e:Ex) (ks:List Kf) (s:St) (Q:Ex→St→Prop):Prop:=Ends (unw G K lo ks (some (e,s))) Q
def Cd (v:Option DV) (a b:DC) (ks:List Kf) (s:St) (Q:Ex→St→Prop):Prop:=Ends (unw G K lo ks (zEm G K lo v a b s)) Q
def Rs (r:Option (St×List Acc)) (os:List DO) (ks:List Kf) (Q:Ex→St→Prop):Prop:=Ends (unw G K lo ks (zOZ G K lo r os)) Q
def zGk (bef:List (List Nat)) (accs:List (List Acc)) (ops:List DO) (s:St):Option (Ex×St):=match zNV G K lo ops s with
 | some (s',l)=>if calm bef (accs++l) then some (.norm,s') else none
 | none=>none
def zGi (bef:List (List Nat)) (accs:List (List Acc)) (r:Option (St×List Acc)) (os:List DO):Option (Ex×St):=match r with
 | some (s,a)=>zGk G K lo bef (accs++[a]) os s
 | none=>none
def Dr (bef:List (List Nat)) (accs:List (List Acc)) (ops:List DO) (ks:List Kf) (s:St) (Q:Ex→St→Prop):Prop:=Ends (unw G K lo ks (zGk G K lo bef accs ops s)) Q
def undT (dst:Option Nat) (s:St):St:={ s with T:=putT s.T dst (.imm .undef) }
def gd (v:Option DV) (w:Bool) (dst:Option Nat) (op:DOp) (s:St):Option (St×List Acc):=match v with
 | some (.imm (.bool c))=>if c=w then zNP G K lo ⟨dst,op,none⟩ s else some (undT dst s,[])
 | some (.imm .undef)=>some (undT dst s,[])
 | _=>none
def Ds (bef:List (List Nat)) (accs:List (List Acc)) (r:Option (St×List Acc)) (os:List DO) (ks:List Kf) (Q:Ex→St→Prop):Prop:=Ends (unw G K lo ks (zGi G K lo bef accs r os)) Q
def Dg (bef:List (List Nat)) (accs:List (List Acc)) (v:Option DV) (w:Bool) (dst:Option Nat) (op:DOp) (os:List DO) (ks:List Kf) (s:St) (Q:Ex→St→Prop):Prop:=Ds G K lo bef accs (gd G K lo v w dst op s) os ks Q
def Rg (v:Option DV) (w:Bool) (dst:Option Nat) (op:DOp) (os:List DO) (ks:List Kf) (s:St) (Q:Ex→St→Prop):Prop:=Rs G K lo (gd G K lo v w dst op s) os ks Q
end
variable {G K lo}
variable {ks:List Kf}{s:St}{Q:Ex→St→Prop}{a b:DC}
theorem zGz:Wp G K lo (.seq a b) ks s Q=Wp G K lo a (.thn b::ks) s Q:=rfl
theorem zGp {id:Nat}:Wp G K lo (.block id b) ks s Q=Wp G K lo b (.blk id::ks) s Q:=rfl
theorem zGq {c:Opd}:Wp G K lo (.cond c a b) ks s Q=Cd G K lo (ev G s.T.get c) a b ks s Q:=rfl
theorem zG0:Wp G K lo .skip ks s Q=Bk G K lo .norm ks s Q:=rfl
theorem zGy:Wp G K lo .ret ks s Q=Bk G K lo .ret ks s Q:=rfl
variable {i:Nat}
theorem zGs:Wp G K lo (.exit i) ks s Q=Bk G K lo (.exit i) ks s Q:=rfl
theorem zGv:Wp G K lo (.reg []) ks s Q=Bk G K lo .norm ks s Q:=rfl
theorem zGw {o:DO}{os:List DO}:Wp G K lo (.reg (o::os)) ks s Q=Rs G K lo (zNP G K lo o s) os ks Q:=by
 simp only[Wp,zPz,Rs]
theorem zGu {dst:Option Nat}{op:DOp}{os:List DO}:Wp G K lo (.reg (⟨dst,op,none⟩::os)) ks s Q=Rs G K lo (zNP G K lo ⟨dst,op,none⟩ s) os ks Q:=zGw
variable {g:Nat}
theorem zNU {dst:Option Nat}{op:DOp}{w:Bool}:zNP G K lo ⟨dst,op,some (g,w)⟩ s=gd G K lo (s.T.get g) w dst op s:=by
 unfold zNP gd
 simp only
 cases h:s.T.get g with
 | none=>rfl
 | some v=>
  cases v with
  | imm v=>
   cases v with
   | bool c=>cases c <;> cases w <;> simp[undT,zNP]
   | undef=>rfl
   | _=>rfl
  | _=>rfl
theorem zGx {dst:Option Nat}{op:DOp}{w:Bool}{os:List DO}:Wp G K lo (.reg (⟨dst,op,some (g,w)⟩::os)) ks s Q=Rg G K lo (s.T.get g) w dst op os ks s Q:=by
 rw[zGw,zNU]; rfl
theorem zPb {x:List Acc}{os:List DO}:Rs G K lo (some (s,x)) os ks Q=Wp G K lo (.reg os) ks s Q:=rfl
theorem zGr {ops:List DO}{bef:List (List Nat)}:Wp G K lo (.drw ops bef) ks s Q=Dr G K lo bef [] ops ks s Q:=by
 have:(DC.drw ops bef).run G K lo s=zGk G K lo bef [] ops s:=by
  simp only[DC.run,zGk]
  cases zNV G K lo ops s <;> rfl
 simp only[Wp,Dr,this]
theorem zGX {o:DO}{os:List DO}{bef:List (List Nat)}{accs:List (List Acc)}:Dr G K lo bef accs (o::os) ks s Q=Ds G K lo bef accs (zNP G K lo o s) os ks Q:=by
 have:zGk G K lo bef accs (o::os) s=zGi G K lo bef accs (zNP G K lo o s) os:=by
  simp only[zGk,zGi,zNV]
  cases zNP G K lo o s with
  | none=>rfl
  | some r=>
   simp only
   cases zNV G K lo os r.1 with
   | none=>rfl
   | some q=>simp
 simp only[Dr,Ds,this]
theorem zGW {dst:Option Nat}{op:DOp}{os:List DO}{bef:List (List Nat)}{accs:List (List Acc)}:Dr G K lo bef accs (⟨dst,op,none⟩::os) ks s Q=Ds G K lo bef accs (zNP G K lo ⟨dst,op,none⟩ s) os ks Q:=zGX
theorem zGY {dst:Option Nat}{op:DOp}{w:Bool}{os:List DO}{bef:List (List Nat)}{accs:List (List Acc)}:Dr G K lo bef accs (⟨dst,op,some (g,w)⟩::os) ks s Q=Dg G K lo bef accs (s.T.get g) w dst op os ks s Q:=by
 rw[zGX,zNU]; rfl
section
variable {bef:List (List Nat)}{accs:List (List Acc)}{dst:Option Nat}{op:DOp}{os:List DO}{w c:Bool}
theorem zFi:Dg G K lo bef accs (some (.imm (.bool true))) true dst op os ks s Q=Ds G K lo bef accs (zNP G K lo ⟨dst,op,none⟩ s) os ks Q:=rfl
theorem zFf:Dg G K lo bef accs (some (.imm (.bool false))) false dst op os ks s Q=Ds G K lo bef accs (zNP G K lo ⟨dst,op,none⟩ s) os ks Q:=rfl
theorem zFh:Dg G K lo bef accs (some (.imm (.bool true))) false dst op os ks s Q=Dr G K lo bef (accs++[[]]) os ks (undT dst s) Q:=rfl
theorem zFg:Dg G K lo bef accs (some (.imm (.bool false))) true dst op os ks s Q=Dr G K lo bef (accs++[[]]) os ks (undT dst s) Q:=rfl
theorem dg_u:Dg G K lo bef accs (some (.imm .undef)) w dst op os ks s Q=Dr G K lo bef (accs++[[]]) os ks (undT dst s) Q:=rfl
theorem dg_b (c:Bool):Dg G K lo bef accs (some (.imm (.bool c))) w dst op os ks s Q=((c=true→Dg G K lo bef accs (some (.imm (.bool true))) w dst op os ks s Q)∧(c=false→Dg G K lo bef accs (some (.imm (.bool false))) w dst op os ks s Q)):=by
 cases c <;> simp
theorem dg_d {p:Prop} [Decidable p]:Dg G K lo bef accs (some (.imm (.bool (decide p)))) w dst op os ks s Q=((p→Dg G K lo bef accs (some (.imm (.bool true))) w dst op os ks s Q)∧(¬p→Dg G K lo bef accs (some (.imm (.bool false))) w dst op os ks s Q)):=by
 rw[dg_b]; simp
theorem dg_n:Dg G K lo bef accs (some (.imm (.bool (!c)))) w dst op os ks s Q=Dg G K lo bef accs (some (.imm (.bool c))) (!w) dst op os ks s Q:=by
 cases c <;> cases w <;> rfl
variable {d:Bool}
theorem dg_o {c:Bool}:Dg G K lo bef accs (some (.imm (.bool (c||d)))) w dst op os ks s Q=((c=true∨d=true→Dg G K lo bef accs (some (.imm (.bool true))) w dst op os ks s Q)∧(¬(c=true∨d=true)→Dg G K lo bef accs (some (.imm (.bool false))) w dst op os ks s Q)):=by
 rw[dg_b]; simp
theorem dg_a {c:Bool}:Dg G K lo bef accs (some (.imm (.bool (c&&d)))) w dst op os ks s Q=((c=true∧d=true→Dg G K lo bef accs (some (.imm (.bool true))) w dst op os ks s Q)∧(¬(c=true∧d=true)→Dg G K lo bef accs (some (.imm (.bool false))) w dst op os ks s Q)):=by
 rw[dg_b]; simp
theorem zO3:Rg G K lo (some (.imm (.bool true))) true dst op os ks s Q=Rs G K lo (zNP G K lo ⟨dst,op,none⟩ s) os ks Q:=rfl
theorem zO0:Rg G K lo (some (.imm (.bool false))) false dst op os ks s Q=Rs G K lo (zNP G K lo ⟨dst,op,none⟩ s) os ks Q:=rfl
theorem zO2:Rg G K lo (some (.imm (.bool true))) false dst op os ks s Q=Wp G K lo (.reg os) ks (undT dst s) Q:=rfl
theorem zO1:Rg G K lo (some (.imm (.bool false))) true dst op os ks s Q=Wp G K lo (.reg os) ks (undT dst s) Q:=rfl
theorem rg_u:Rg G K lo (some (.imm .undef)) w dst op os ks s Q=Wp G K lo (.reg os) ks (undT dst s) Q:=rfl
theorem rg_b (c:Bool):Rg G K lo (some (.imm (.bool c))) w dst op os ks s Q=((c=true→Rg G K lo (some (.imm (.bool true))) w dst op os ks s Q)∧(c=false→Rg G K lo (some (.imm (.bool false))) w dst op os ks s Q)):=by
 cases c <;> simp
theorem rg_d {p:Prop} [Decidable p]:Rg G K lo (some (.imm (.bool (decide p)))) w dst op os ks s Q=((p→Rg G K lo (some (.imm (.bool true))) w dst op os ks s Q)∧(¬p→Rg G K lo (some (.imm (.bool false))) w dst op os ks s Q)):=by
 rw[rg_b]; simp
theorem rg_n:Rg G K lo (some (.imm (.bool (!c)))) w dst op os ks s Q=Rg G K lo (some (.imm (.bool c))) (!w) dst op os ks s Q:=by
 cases c <;> cases w <;> rfl
end
theorem zGR {x:List Acc}{os:List DO}{bef:List (List Nat)}{accs:List (List Acc)}:Ds G K lo bef accs (some (s,x)) os ks Q=Dr G K lo bef (accs++[x]) os ks s Q:=rfl
theorem zGZ {bef:List (List Nat)}{accs:List (List Acc)}:Dr G K lo bef accs [] ks s Q=if calm bef accs then Bk G K lo .norm ks s Q else Ends (unw G K lo ks none) Q:=by
 have:zGk G K lo bef accs [] s=if calm bef accs then some (.norm,s) else none:=by simp[zGk,zNV]
 simp only[Dr,this]
 split <;> rfl
theorem zDW {e:Ex}:Bk G K lo e [] s Q=Q e s:=by
 simp only[Bk,unw,Ends]
 exact propext ⟨fun ⟨_,_,h,q⟩=>by cases h; exact q,fun q=>⟨_,_,rfl,q⟩⟩
theorem zDY:Bk G K lo .norm (.thn b::ks) s Q=Wp G K lo b ks s Q:=rfl
theorem zDa:Bk G K lo .ret (.thn b::ks) s Q=Bk G K lo .ret ks s Q:=rfl
theorem zDV:Bk G K lo (.exit i) (.thn b::ks) s Q=Bk G K lo (.exit i) ks s Q:=rfl
theorem zDX {id:Nat}:Bk G K lo .norm (.blk id::ks) s Q=Bk G K lo .norm ks s Q:=rfl
theorem zDZ {id:Nat}:Bk G K lo .ret (.blk id::ks) s Q=Bk G K lo .ret ks s Q:=rfl
theorem zDU {id:Nat}:Bk G K lo (.exit i) (.blk id::ks) s Q=if i=id then Bk G K lo .norm ks s Q else Bk G K lo (.exit i) ks s Q:=by
 simp only[Bk,unw,zDh]
 split <;> rfl
theorem cd_t:Cd G K lo (some (.imm (.bool true))) a b ks s Q=Wp G K lo a ks s Q:=rfl
theorem cd_f:Cd G K lo (some (.imm (.bool false))) a b ks s Q=Wp G K lo b ks s Q:=rfl
theorem cd_b (c:Bool):Cd G K lo (some (.imm (.bool c))) a b ks s Q=((c=true→Wp G K lo a ks s Q)∧(c=false→Wp G K lo b ks s Q)):=by
 cases c <;> simp[cd_t,cd_f]
theorem cd_d {p:Prop} [Decidable p]:Cd G K lo (some (.imm (.bool (decide p)))) a b ks s Q=((p→Wp G K lo a ks s Q)∧(¬p→Wp G K lo b ks s Q)):=by
 rw[cd_b]; simp
theorem cd_n {c:Bool}:Cd G K lo (some (.imm (.bool (!c)))) a b ks s Q=Cd G K lo (some (.imm (.bool c))) b a ks s Q:=by
 cases c <;> rfl
variable {d:Bool}
theorem cd_a {c:Bool}:Cd G K lo (some (.imm (.bool (c&&d)))) a b ks s Q=((c=true∧d=true→Wp G K lo a ks s Q)∧(¬(c=true∧d=true)→Wp G K lo b ks s Q)):=by
 rw[cd_b]; simp
theorem cd_o {c:Bool}:Cd G K lo (some (.imm (.bool (c||d)))) a b ks s Q=((c=true∨d=true→Wp G K lo a ks s Q)∧(¬(c=true∨d=true)→Wp G K lo b ks s Q)):=by
 rw[cd_b]; simp
theorem zGt {live own:List Nat}{body:DC}{N:Nat}(hN:N<LOOP) (I:Nat→St→Prop) (QL:Ex→St→Prop)
  (h:∀ i s,i≤N→I i s→Wp G K lo body [] ⟨keep s.T live,keep s.L own,s.H,s.n⟩ (fun e s'=>(e=.norm∧i<N∧I (i+1) s')∨(e≠.norm∧QL e s')))
  (h0:I 0 s) (hk:∀ e s',QL e s'→Bk G K lo e ks s' Q):Wp G K lo (.loop live own body) ks s Q:=by
 obtain⟨e,s',q1,q2⟩:=zO4 (live:=live) (own:=own) (b:=body) hN I QL (fun i s hI hle=>by
  obtain⟨e,s',e1,e2⟩:=h i s hle hI
  have e1':body.run G K lo ⟨keep s.T live,keep s.L own,s.H,s.n⟩=some (e,s'):=e1
  rcases e2 with⟨rfl,h2,h3⟩ | ⟨h2,h3⟩
  ·exact .inl ⟨h2,s',e1',h3⟩
  ·exact .inr ⟨e,s',e1',h2,h3⟩) s h0
 have:=hk e s' q2
 unfold Bk at this
 unfold Wp
 rw[q1]
 exact this
def Fe (r:Option (DV×PT HB×Nat)) (P:DV→PT HB→Nat→Prop):Prop:=∃ v H n,r=some (v,H,n)∧P v H n
theorem zHV {v:DV}{H:PT HB}{n:Nat}{P:DV→PT HB→Nat→Prop}:Fe (some (v,H,n)) P=P v H n:=
 propext ⟨fun ⟨_,_,_,h,q⟩=>by cases h; exact q,fun q=>⟨_,_,_,rfl,q⟩⟩
def Fin (res:List DRes) (P:DV→PT HB→Nat→Prop) (e:Ex) (s:St):Prop:=match e with
 | .exit _=>False
 | _=>Fe (zHu res s) P
theorem zHb {res:List DRes}{P:DV→PT HB→Nat→Prop}:Fin res P .ret s=Fe (zHu res s) P:=rfl
theorem zHa {res:List DRes}{P:DV→PT HB→Nat→Prop}:Fin res P .norm s=Fe (zHu res s) P:=rfl
theorem zHy {np:Nat}{res:List DRes}{body:DC}{args:List DV}{H:PT HB}{n:Nat}{P:DV→PT HB→Nat→Prop}(hl:args.length=np)
  (h:Wp G K lo body [] ⟨zCi 0 args,.lf,H,n⟩ (Fin res P)):Fe ((DFn.mk np res body).run G K args H n lo) P:=by
 obtain⟨e,s',e1,e2⟩:=h
 have e1':body.run G K lo ⟨zCi 0 args,.lf,H,n⟩=some (e,s'):=e1
 rw[zHz,if_pos hl,e1']
 cases e with
 | norm=>exact e2
 | ret=>exact e2
 | exit=>exact e2.elim
theorem zDd {K:Callee}{f:FuncId}{args:List DV}{iv:IV}(h:Fe (K f args .lf 0 0) (fun v _ _=>v=.imm iv)):bl K f args=some (.imm iv):=by
 obtain⟨v,H,n,e,rfl⟩:=h
 exact zDe e
end
section
variable {G:Nat→Option (List IV)}{T:Nat→Option DV}{L:Nat→Option LV}{h:Nat→Option HB}{n lo dst:Nat}
noncomputable def idxE (h:Nat→Option HB) (n s:Nat) (x i:Option DV):Option Eff:=match x,i with
  | some a,some b=>match zCl b with
   | some j=>match a with
    | .imm (.lst _ sz es)=>match es[j]? with
     | some e=>if sz=s∧0<s then give n (some (.imm (.cref e))) else none
     | none=>none
    | .sl id row len _=>match h id with
     | some hb=>if j<len∧hb.sz=s then some { v:=.ptr id (row+j) 0,n':=n,acc:=[.rX id] } else none
     | none=>none
    | _=>none
   | none=>none
  | _,_=>none
variable {x:Opd}
theorem zF6 {s:Nat} {i:Opd}:zGm G T L h n lo dst (.idx s x i)=idxE h n s (ev G T x) (ev G T i):=rfl
variable {k:IntKind} {v:IV} {z:Int}
theorem zIy {α:Type}[Inhabited α] {s:Nat}{xs:List α}{f:α→List IV}(hv:Sl s v (xs.map f)) (hs:0<s)(h0:0≤z) (hz:z<xs.length) :
  idxE h n s (some (.imm v)) (some (.imm (.int k z)))=some { v:=.imm (.cref (f (nth xs z.toNat))),n':=n }:=by
 have hz':z.toNat<xs.length:=by omega
 rcases hv with⟨rfl,hn⟩ | ⟨g,rfl⟩
 ·have:xs=[]:=by simpa using hn
  subst this
  simp at hz'
 ·simp only[idxE,zCl,if_pos h0,List.getElem?_map,zMh hz',Option.map_some,give]
  rw[if_pos ⟨trivial,hs⟩]
variable {i:Nat}
theorem zIu {α:Type} [Inhabited α] {s:Nat} {xs:List α} {f:α→List IV} (hv:Sl s v (xs.map f)) (hz:(i:Int)<xs.length) (hs:0<s:=by omega) ⦃h:Nat→Option HB⦄ ⦃n:Nat⦄:idxE h n s (some (.imm v)) (some (.imm (.int .i64 (i:Int))))=some { v:=.imm (.cref (f (nth xs (i:Int).toNat))),n':=n}:=zIy hv hs (by omega) hz
def zR9 (v:IV) (i:Nat):IV:=match v with
 | .lst full sz es=>.lst (full&&decide (i=es.length)) sz ((es.take i).drop 0)
 | v=>v
theorem zSA {α:Type}{s:Nat}{xs:List α}{f:α→List IV}(hv:Sl s v (xs.map f)) (i:Nat):Sl s (zR9 v i) ((xs.take i).map f):=by
 rcases hv with⟨rfl,hn⟩ | ⟨g,rfl⟩
 ·have:xs=[]:=by simpa using hn
  subst this
  exact .inl ⟨rfl,by simp⟩
 ·exact .inr ⟨_,by simp[zR9]; rfl⟩
theorem zQ6 {α:Type}{s:Nat}{xs:List α}{f:α→List IV}(hv:Sl s v (xs.map f))(hi:i≤xs.length) :
  zQ7 h n s (.imm v) none (some (.imm (.int .i64 (i:Int)))) none=some { v:=.imm (zR9 v i),n':=n }:=by
 rcases hv with⟨rfl,hn⟩ | ⟨g,rfl⟩
 ·have:xs=[]:=by simpa using hn
  subst this
  have:i=0:=by simpa using hi
  subst this
  rfl
 ·have h1:zMF (some (.imm (.int .i64 (i:Int)))) (xs.map f).length=some i:=by simp[zMF,zCl]
  simp only[zQ7,h1,zR9]
  simp[zMF,hi]
def InR (z:Int) (n:Nat):Prop:=0≤z∧z<n
instance {z:Int}{n:Nat}:Decidable (InR z n):=inferInstanceAs (Decidable (_∧_))
theorem zIv {α:Type}[Inhabited α] {s:Nat}{xs:List α}{f:α→List IV}(hv:Sl s v (xs.map f)) (hs:0<s)(hz:InR z xs.length) :
  idxE h n s (some (.imm v)) (some (.imm (.int k z)))=some { v:=.imm (.cref (f (nth xs z.toNat))),n':=n }:=zIy hv hs hz.1 hz.2
def ILt (a b:Int):Prop:=a<b
instance {a b:Int}:Decidable (ILt a b):=inferInstanceAs (Decidable (_<_))
theorem zI0 {a b:Int}:ILt a b↔a<b:=Iff.rfl
theorem zI3 {a b:Int}(h:a<b):ILt a b=True:=eq_true h
theorem zIz {a b:Int}(h:b≤a):ILt a b=False:=eq_false (fun h'=>by unfold ILt at h'; omega)
theorem zI2 {a:Int}:ILt a a=False:=zIz (Int.le_refl a)
theorem zI1:ILt (i:Int) 0=False:=zIz (by omega)
theorem zIw {α:Type}[Inhabited α] {s:Nat}{xs:List α}{f:α→List IV}(hv:Sl s v (xs.map f)) (hs:0<s)(h0:¬ILt z 0) (hz:ILt z xs.length) :
  idxE h n s (some (.imm v)) (some (.imm (.int k z)))=some { v:=.imm (.cref (f (nth xs z.toNat))),n':=n }:=zIy hv hs (by unfold ILt at h0; omega) hz
theorem zIs {s:Nat}{id row len cap:Nat}{hb:HB}(hh:h id=some hb) (hs:hb.sz=s)(h0:0≤z) (hz:z<len) :
  idxE h n s (some (.sl id row len cap)) (some (.imm (.int k z)))=some { v:=.ptr id (row+z.toNat) 0,n':=n,acc:=[.rX id] }:=by
 have hz':z.toNat<len:=by omega
 simp only[idxE,zCl,if_pos h0,hh]
 rw[if_pos ⟨hz',hs⟩]
theorem zGI:zGm G T L h n lo dst (.mv x)=(give n (ev G T x)):=rfl
theorem zGN {c:Opd}{a:Opd}{b:Opd}:zGm G T L h n lo dst (.pick c a b)=(match ev G T c with
  | some (.imm (.bool true))=>give n (ev G T a)
  | some (.imm (.bool false))=>give n (ev G T b)
  | _=>none):=rfl
theorem zGK:zGm G T L h n lo dst (.nilck x)=(match ev G T x with
  | some (.ptr id r o)=>give n (some (.ptr id r o))
  | some (.lref s id o)=>give n (some (.lref s id o))
  | some (.imm (.cref c))=>give n (some (.imm (.cref c)))
  | _=>none):=rfl
variable {y:Opd}
theorem zFu {op:BinOp}{et:ET}:zGm G T L h n lo dst (.bin op et x y)=(match ev G T x,ev G T y with
  | some a,some b=>giveI n (zDN op et x y a b)
  | _,_=>none):=rfl
theorem zGT {op:UnOp}:zGm G T L h n lo dst (.un op x)=(match ev G T x with
  | some a=>giveI n (unOf op a)
  | none=>none):=rfl
theorem zF2:zGm G T L h n lo dst (.cvI k x)=(match ev G T x with
  | some (.imm (.int _ m))=>giveI n (some (.int k (k.wrap m)))
  | _=>none):=rfl
theorem zF1:zGm G T L h n lo dst (.cvBS x)=(match ev G T x with
  | some v=>match zPV h v with
   | some (src,sz,rows)=>if sz=1∨rows=[] then match mapO zS4 rows with
     | some es=>match bytesOf es with
      | some bs=>some { v:=.imm (.str bs),n':=n,acc:=zOS src }
      | none=>none
     | none=>none
    else none
   | none=>none
  | none=>none):=rfl
theorem zF3:zGm G T L h n lo dst (.cvSB x)=(match ev G T x with
  | some (.imm (.str s))=>giveI n (some (.lst false 1 (s.map zPO)))
  | _=>none):=rfl
theorem zF0:zGm G T L h n lo dst (.cvBB x)=(match ev G T x with
  | some (.sl id row len cap)=>if lo≤id then
    match h id with
    | some hb=>some { v:=.sl id row len cap,hw:=[(id,some hb)],n':=n,acc:=[.wX id] }
    | none=>none
   else none
  | _=>none):=rfl
theorem zGF {t:TypeId}:zGm G T L h n lo dst (.mkI t x)=(match ev G T x with
  | some (.imm v)=>giveI n (some (.iface t v))
  | _=>none):=rfl
theorem zFt {t:TypeId}{zero:IV}{ok:Bool}:zGm G T L h n lo dst (.asrt t zero ok x)=(match ev G T x with
  | some (.imm .nili)=>if ok then give n (some (.tup [.imm zero,.imm (.bool false)])) else none
  | some (.imm (.iface t' v))=>
   if t'=t then give n (some (if ok then .tup [.imm v,.imm (.bool true)] else .imm v))
   else if ok then give n (some (.tup [.imm zero,.imm (.bool false)])) else none
  | _=>none):=rfl
theorem zGE {f:FuncId}{caps:List Opd}:zGm G T L h n lo dst (.mkF f caps)=(match evs G T caps with
  | some vs=>if DV.out.outs vs then give n (some (.fnc f vs)) else none
  | none=>none):=rfl
theorem zF5 {off:Nat}:zGm G T L h n lo dst (.fld off x)=(match ev G T x with
  | some (.ptr id r o)=>give n (some (.ptr id r (o+off)))
  | some (.lref s id o)=>give n (some (.lref s id (o+off)))
  | some (.imm (.cref cs))=>if off<cs.length then give n (some (.imm (.cref (cs.drop off)))) else none
  | _=>none):=rfl
theorem zF7 {s:Nat}{k:Nat}{i:Opd}:zGm G T L h n lo dst (.idxA s k x i)=(match ev G T x,ev G T i with
  | some a,some b=>match zCl b with
   | some j=>if j<k∧0<s then match a with
     | .ptr id r o=>give n (some (.ptr id r (o+j*s)))
     | .lref sl id o=>give n (some (.lref sl id (o+j*s)))
     | .imm (.cref cs)=>if j*s<cs.length then give n (some (.imm (.cref (cs.drop (j*s))))) else none
     | _=>none
    else none
   | none=>none
  | _,_=>none):=rfl
variable {agg:Bool}
theorem zGA {k:Nat}:zGm G T L h n lo dst (.ld k agg x)=(match ev G T x with
  | some a=>zKP L h n k agg a
  | none=>none):=rfl
theorem zGS {k:Nat}{v:Opd}:zGm G T L h n lo dst (.st k x v)=(match ev G T x,ev G T v with
  | some a,some b=>zRh L h n lo k b a
  | _,_=>none):=rfl
theorem zGM {off:Nat}{k:Nat}:zGm G T L h n lo dst (.part off k agg x)=(match ev G T x with
  | some (.agg cs)=>match cut cs off k with
   | some r=>give n (zMy agg r)
   | none=>none
  | _=>none):=rfl
theorem zF9 {s:Nat}{k:Nat}{i:Opd}:zGm G T L h n lo dst (.idxV s k agg x i)=(match ev G T x,ev G T i with
  | some (.agg cs),some b=>match zCl b with
   | some j=>if j<k then match cut cs (j*s) s with
     | some r=>give n (zMy agg r)
     | none=>none
    else none
   | none=>none
  | _,_=>none):=rfl
theorem zF8{i:Opd}:zGm G T L h n lo dst (.idxS x i)=(match ev G T x,ev G T i with
  | some (.imm (.str s)),some b=>match zCl b with
   | some j=>match s[j]? with
    | some c=>giveI n (some (.int .u8 c.toNat))
    | none=>none
   | none=>none
  | _,_=>none):=rfl
theorem zFw {v:Opd}:zGm G T L h n lo dst (.boxL v)=(match ev G T v with
  | some a=>if a.cells.all DV.scal then some { v:=.lref dst n 0,lw:=[(dst,.box n a.cells)],n':=n+1,acc:=[.wL dst] } else none
  | none=>none):=rfl
theorem zFv {v:Opd}:zGm G T L h n lo dst (.boxH v)=(match ev G T v with
  | some a=>if a.cells.all DV.scal∧a.out∧0<a.cells.length then some { v:=.ptr n 0 0,hw:=[(n,some ⟨a.cells.length,[a.cells]⟩)],n':=n+1,acc:=[.wX n] } else none
  | none=>none):=rfl
theorem zFq {zero:List IV}:zGm G T L h n lo dst (.alL zero)=(some { v:=.lref dst n 0,lw:=[(dst,.box n (imms zero))],n':=n+1,acc:=[.wL dst] }):=rfl
theorem zFp {zero:List IV}:zGm G T L h n lo dst (.alH zero)=(if 0<zero.length then some { v:=.ptr n 0 0,hw:=[(n,some ⟨zero.length,[imms zero]⟩)],n':=n+1,acc:=[.wX n] } else none):=rfl
theorem zFy {zero:List IV}{parts:List (Nat×Nat×Opd)}:zGm G T L h n lo dst (.build zero parts)=(match zHG G T parts with
  | some ps=>give n ((lay (imms zero) ps).map .agg)
  | none=>none):=rfl
theorem zFx {mt:Bool}{s:Nat}{zero:List IV}{len:Nat}{parts:List (Nat×Opd)}:zGm G T L h n lo dst (.bsl mt s zero len parts)=(match zHH G T parts with
  | some ps=>
   if 0<s∧zero.length=s then
    match lay ((List.replicate len (imms zero)).flatten) (ps.map fun p=>(p.1*s,s,p.2)) with
    | some cells=>
     if cells.all DV.scal then
      match (if mt then none else zS4 cells) with
      | some vs=>giveI n (some (.lst true s (zPT s len vs)))
      | none=>if DV.out.outs cells∧0<len then some { v:=.sl n 0 len len,hw:=[(n,some ⟨s,zPT s len cells⟩)],n':=n+1,acc:=[.wX n] } else none
     else none
    | none=>none
   else none
  | none=>none):=rfl
variable {bytes:Nat}
theorem zGG {mt:Bool}{s:Nat}{zero:List IV}{l:Opd}:zGm G T L h n lo dst (.mks mt s bytes zero l)=(match ev G T l with
  | some b=>match zCl b with
   | some len=>if 0<s∧zero.length=s∧len≤zCJ∧len*bytes≤zCJ then
     if mt then some { v:=.sl n 0 len len,hw:=[(n,some ⟨s,List.replicate len (imms zero)⟩)],n':=n+1,acc:=[.wX n] }
     else giveI n (some (.lst true s (List.replicate len zero)))
    else none
   | none=>none
  | none=>none):=rfl
theorem zGQ {s:Nat}{l:Option Opd}{hi:Option Opd}{mx:Option Opd}:zGm G T L h n lo dst (.slc s x l hi mx)=(match ev G T x,evO G T l,evO G T hi,evO G T mx with
  | some a,some l,some hi,some mx=>zQ7 h n s a l hi mx
  | _,_,_,_=>none):=rfl
theorem zGP{l:Option Opd}{hi:Option Opd}:zGm G T L h n lo dst (.slS x l hi)=(match ev G T x,evO G T l,evO G T hi with
  | some (.imm (.str s)),some l,some hi=>giveI n (zRB s l hi)
  | _,_,_=>none):=rfl
theorem zGB:zGm G T L h n lo dst (.len x)=(match ev G T x with
  | some a=>giveI n ((lenOf a).map fun m=>.int .i64 m)
  | none=>none):=rfl
theorem zGD:zGm G T L h n lo dst (.lenS x)=(match ev G T x with
  | some (.imm (.str s))=>giveI n (some (.int .i64 s.length))
  | _=>none):=rfl
theorem zGC {k:Nat}:zGm G T L h n lo dst (.lenA k)=(giveI n (some (.int .i64 k))):=rfl
theorem zFz:zGm G T L h n lo dst (.cap x)=(match ev G T x with
  | some (.imm .nils)=>giveI n (some (.int .i64 0))
  | some (.imm (.lst true _ es))=>giveI n (some (.int .i64 es.length))
  | _=>none):=rfl
theorem zGH:zGm G T L h n lo dst (.mn x y)=(match ev G T x,ev G T y with
  | some (.imm (.int k a)),some (.imm (.int k' b))=>if k=k' then giveI n (some (.int k (if b<a then b else a))) else none
  | _,_=>none):=rfl
theorem zGJ:zGm G T L h n lo dst (.mx x y)=(match ev G T x,ev G T y with
  | some (.imm (.int k a)),some (.imm (.int k' b))=>if k=k' then giveI n (some (.int k (if b > a then b else a))) else none
  | _,_=>none):=rfl
theorem zFr {s:Nat}:zGm G T L h n lo dst (.app s bytes x y)=(match ev G T x,ev G T y with
  | some a,some b=>zCK h n lo s bytes a b
  | _,_=>none):=rfl
theorem zFs {s:Nat}{zero:List IV}:zGm G T L h n lo dst (.appZ s bytes zero x y)=(match ev G T x,ev G T y with
  | some (.imm .nils),some b=>match zCl b with
   | some k=>if 0<k∧0<s∧zero.length=s∧k≤zCJ∧k*bytes≤zCJ then
     some { v:=.sl n 0 k k,hw:=[(n,some ⟨s,List.replicate k (imms zero)⟩)],n':=n+1,acc:=[.wX n] }
    else none
   | none=>none
  | _,_=>none):=rfl
theorem zGO:zGm G T L h n lo dst (.rng x)=(match ev G T x with
  | some (.imm (.str s))=>some { v:=.lref dst n 0,lw:=[(dst,.iter n s 0)],n':=n+1,acc:=[.wL dst] }
  | _=>none):=rfl
theorem zGL {slot:Nat}:zGm G T L h n lo dst (.nxt slot)=(match T slot,L slot with
  | some (.lref s id 0),some (.iter id' str pos)=>if s=slot∧id=id' then
    if pos<str.length then
     let d:=Utf8.decode ⟨str.toArray⟩ pos
     some { v:=.tup [.imm (.bool true),.imm (.int .i64 pos),.imm (.int .i32 d.1)],lw:=[(slot,.iter id str (pos+d.2))],n':=n,acc:=[.wL slot] }
    else some { v:=.tup [.imm (.bool false)],n':=n,acc:=[.rL slot] }
   else none
  | _,_=>none):=rfl
theorem zF4:zGm G T L h n lo dst (.ext i x)=(match ev G T x with
  | some (.tup vs)=>give n vs[i]?
  | _=>none):=rfl
end
noncomputable def dec (p:Prop):Bool:=@decide p (Classical.propDecidable p)
theorem zFa {p:Prop}:dec p=true↔p:=@decide_eq_true_iff p (Classical.propDecidable p)
theorem zFe:dec True=true:=zFa.2 trivial
theorem zFY:dec False=false:=by
 cases h:dec False with
 | false=>rfl
 | true=>exact (zFa.1 h).elim
theorem zFd {p:Prop}(h:p):dec p=true:=zFa.2 h
theorem zFX {p:Prop}(h:¬p):dec p=false:=by rw[show p=False from propext ⟨h,False.elim⟩]; exact zFY
theorem zFZ {p:Prop}:dec p=false↔¬p:=⟨fun h hp=>(by rw[zFd hp] at h; cases h),zFX⟩
theorem zFW {p:Prop} [Decidable p]:decide p=dec p:=by by_cases h:p <;> simp[h,zFe,zFY]
theorem zFV {p q:Prop}(h:p↔q):dec p=dec q:=by rw[propext h]
section
variable {G:Nat→Option (List IV)}{K:Callee}{lo:Nat}{ks:List Kf}{s:St}{Q:Ex→St→Prop}{a b:DC}{bef:List (List Nat)}{accs:List (List Acc)}{dst:Option Nat}{op:DOp}{os:List DO}{w:Bool}{p:Prop}
theorem cd_p:Cd G K lo (some (.imm (.bool (dec p)))) a b ks s Q=((p→Wp G K lo a ks s Q)∧(¬p→Wp G K lo b ks s Q)):=by
 rw[cd_b]; simp only[zFa,zFZ]
theorem dg_p:Dg G K lo bef accs (some (.imm (.bool (dec p)))) w dst op os ks s Q=((p→Dg G K lo bef accs (some (.imm (.bool true))) w dst op os ks s Q)∧(¬p→Dg G K lo bef accs (some (.imm (.bool false))) w dst op os ks s Q)):=by
 rw[dg_b]; simp only[zFa,zFZ]
theorem rg_p:Rg G K lo (some (.imm (.bool (dec p)))) w dst op os ks s Q=((p→Rg G K lo (some (.imm (.bool true))) w dst op os ks s Q)∧(¬p→Rg G K lo (some (.imm (.bool false))) w dst op os ks s Q)):=by
 rw[rg_b]; simp only[zFa,zFZ]
end
variable {k:IntKind}
theorem zC3{a b:Int}:zDM .eql k a b=some (.bool (decide (a=b))):=by simp only[zDM]; congr 2
theorem zC8{a b:Int}:zDM .neq k a b=some (.bool (!decide (a=b))):=by simp only[zDM,bne]; congr 2
theorem zC7{a b:Int}:zDM .lss k a b=some (.bool (decide (ILt a b))):=rfl
theorem zC5{a b:Int}:zDM .gtr k a b=some (.bool (decide (ILt b a))):=rfl
theorem zC6{a b:Int}:zDM .leq k a b=some (.bool (!decide (ILt b a))):=by
 have:decide (a≤b)=!decide (b<a):=by
  by_cases h:a≤b
  ·rw[decide_eq_true h,decide_eq_false (by omega)]; rfl
  ·rw[decide_eq_false h,decide_eq_true (by omega)]; rfl
 exact congrArg (fun x=>some (IV.bool x)) this
theorem zC4{a b:Int}:zDM .geq k a b=some (.bool (!decide (ILt a b))):=zC6 (k:=k) (a:=b) (b:=a)
theorem zDq {a b:List UInt8}:zDO .eql a b=some (.bool (decide (a=b))):=by
 simp only[zDO]
 rw[show (a==b)=decide (a=b) from by by_cases e:a=b <;> simp[e]]
theorem zDr {a b:List UInt8}:zDO .neq a b=some (.bool (!decide (a=b))):=by
 simp only[zDO]
 rw[show (a==b)=decide (a=b) from by by_cases e:a=b <;> simp[e]]
def B6:=ai (ai (ai (ai (ai (ai B1 (ai B2 @zGx)) (ai @zGY (ai @zFi @zFf))) (ai (ai @zFh (ai @zFg @dg_u)) (ai (ai @dg_d @dg_n) (ai @dg_o @dg_a)))) (ai (ai (ai @zO3 (ai @zO0 @zO2)) (ai @zO1 (ai @rg_u @rg_d))) (ai (ai @rg_n (ai @zGz @zGp)) (ai (ai @zGq @zG0) (ai @zGy @zGs))))) (ai (ai (ai (ai @zGv (ai @zGu @zPb)) (ai @zGr (ai @zGW @zGR))) (ai (ai @zGZ (ai @zDW @zDY)) (ai (ai @zDa @zDV) (ai @zDX @zDZ)))) (ai (ai (ai @zDU (ai @cd_t @cd_f)) (ai (ai @cd_d @cd_p) (ai @dg_p @rg_p))) (ai (ai @zFe (ai @zFY @zFa)) (ai (ai @zFZ @cd_n) (ai @cd_a @cd_o)))))) (ai (ai (ai (ai (ai @zHV (ai @zHb @zHa)) (ai @zC3 (ai @zC8 @zC7))) (ai (ai @zC6 (ai @zC5 @zC4)) (ai (ai @zI2 @zI1) (ai @zDq @zDr)))) (ai (ai (ai @zF6 (ai @zGI @zGN)) (ai @zGK (ai @zFu @zGT))) (ai (ai @zF2 (ai @zF1 @zF3)) (ai (ai @zF0 @zGF) (ai @zFt @zGE))))) (ai (ai (ai (ai @zF5 (ai @zF7 @zGA)) (ai @zGS (ai @zGM @zF9))) (ai (ai @zF8 (ai @zFw @zFv)) (ai (ai @zFq @zFp) (ai @zFy @zFx)))) (ai (ai (ai @zGG (ai @zGQ @zGP)) (ai (ai @zGB @zGD) (ai @zGC @zFz))) (ai (ai @zGH (ai @zGJ @zFr)) (ai (ai @zFs @zGO) (ai @zGL @zF4))))))
def B7:=ai (ai B0 @undT.eq_1) (ai @keep.eq_1 (ai @keep.eq_2 @imms.eq_1))
end Go.PM
