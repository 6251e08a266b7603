/-
  One operation, in D and in the model: numbers, texts, truths, nil.
-/
import Derived.Test.YtlknjgmhfimhbaaGreatDoorSimA
import Derived.Laws.StructEq
set_option linter.unusedVariables false
set_option linter.unusedSimpArgs false
namespace Go.PM
section
variable {P:Program}{φ:Phi}{σ:Sig}{w:World}
variable {rv:Value}
theorem zOn {k:IntKind}{n:Int}(h:RepI σ (.int k n) rv):rv=.int k n:=by cases h; rfl
variable {b:Bool}
theorem zOm(h:RepI σ (.bool b) rv):rv=.bool b:=by cases h; rfl
theorem zOo {s:List UInt8}(h:RepI σ (.str s) rv):∃ t:ByteArray,rv=.string t∧t.data.toList=s:=by cases h; exact⟨_,rfl,rfl⟩
theorem zOl {v:IV}(h:RepD φ σ (.imm v) rv):RepI σ v rv:=by cases h; assumption
theorem zPn (op:BinOp) (t:TypeId) (x y:Operand) (a b:Value) (h1:¬(a=.nilIface∧b=.nilIface)) (h2:∀ xs ys,¬(a=.agg xs∧b=.agg ys)) :
  (eqGuard op t x y a b).run P w=.ok () w:=by
 cases op <;> simp[eqGuard] <;> (split <;> first | (exact absurd ⟨rfl,rfl⟩ h1) | (exact absurd ⟨rfl,rfl⟩ (h2 _ _)) | rfl)
theorem zPm (op:BinOp) (t:TypeId) (x y:Operand) (h:((x matches .const _)||(y matches .const _))=true) :
  (eqGuard op t x y .nilIface .nilIface).run P w=.ok () w:=by
 cases x <;> cases y <;> first | (simp at h; done) | (cases op <;> rfl)
variable {t:TypeId}
theorem zHC{x y:Value}(hm:binOp .eql t x y=(do pure (.bool (← Op.equal t x y)))) (h:∀ d,(Op.equalIn (d+1) t x y).run P w=.ok b w) :
  (binOp .eql t x y).run P w=.ok (.bool b) w:=by
 rw[hm]
 have:=h 9999
 simp only[Sem.run_bind,Op.equal,Op.maxDepth,this,Result.andThen_ok,Sem.run_pure]
theorem zML{x y:Value}(hm:binOp .neq t x y=(do pure (.bool (!(← Op.equal t x y))))) (h:∀ d,(Op.equalIn (d+1) t x y).run P w=.ok b w) :
  (binOp .neq t x y).run P w=.ok (.bool (!b)) w:=by
 rw[hm]
 have:=h 9999
 simp only[Sem.run_bind,Op.equal,Op.maxDepth,this,Result.andThen_ok,Sem.run_pure]
variable {r:IV} {x y:Opd}
theorem zDQ {op:BinOp}{k k':IntKind}{a b:Int}(h:zDN op .sc x y (.imm (.int k a)) (.imm (.int k' b))=some r) :
  ∃ rv,(binOp op t (.int k a) (.int k' b)).run P w=.ok rv w∧RepI σ r rv:=by
 unfold zDN at h
 cases op <;> simp only[zDM] at h
 case shl=>
  split at h
  ·cases h
  ·cases h; rename_i hn; exact⟨_,by simp[binOp,Op.shift,hn],.int⟩
 case shr=>
  split at h
  ·cases h
  ·cases h; rename_i hn; exact⟨_,by simp[binOp,Op.shift,hn],.int⟩
 case quo=>
  split at h
  ·rename_i hk; subst hk
   split at h
   ·cases h
   ·rename_i hb; cases h; exact⟨_,by simp[binOp,Op.intDiv,hb],.int⟩
  ·cases h
 case rem=>
  split at h
  ·rename_i hk; subst hk
   split at h
   ·cases h
   ·rename_i hb; cases h; exact⟨_,by simp[binOp,Op.intDiv,hb],.int⟩
  ·cases h
 all_goals
  split at h
  ·rename_i hk; subst hk
   first
    | (cases h; exact⟨_,by simp only[binOp,ne_eq,not_true_eq_false,if_false]; rfl,by first | exact .int | exact .bool⟩)
    | cases h
  ·cases h
theorem zDT {op:BinOp}{a b:ByteArray}(h:zDN op .sc x y (.imm (.str a.data.toList)) (.imm (.str b.data.toList))=some r) :
  ∃ rv,(binOp op t (.string a) (.string b)).run P w=.ok rv w∧RepI σ r rv:=by
 unfold zDN at h
 cases op <;> simp only[zDO] at h
 case eql=>cases h; exact⟨_,by simp[binOp,Op.stringOp]; rfl,by rw[ByteArray.toList_eq,ByteArray.toList_eq]; exact .bool⟩
 case neq=>cases h; exact⟨_,by simp[binOp,Op.stringOp]; rfl,by rw[ByteArray.toList_eq,ByteArray.toList_eq]; exact .bool⟩
 case add=>
  split at h
  ·rename_i hle
   cases h
   have hle':¬((((a.size+b.size:Nat)):Int) > IntKind.i64.max):=by
    simp at hle
    have h1:a.data.size=a.size:=rfl
    have h2:b.data.size=b.size:=rfl
    simp[IntKind.max,IntKind.bits]
    omega
   refine⟨.string (a++b),?_,?_⟩
   ·simp only[binOp,Op.stringOp]
    rw[if_neg hle']; rfl
   ·have:(a++b).data.toList=a.data.toList++b.data.toList:=by simp[ByteArray.data_append]
    rw[← this]; exact .str
  ·cases h
 all_goals cases h
theorem zDP {op:BinOp} {a:Bool}(ht:P.underlying t=some .bool) (h:zDN op .bl x y (.imm (.bool a)) (.imm (.bool b))=some r) :
  ∃ rv,(binOp op t (.bool a) (.bool b)).run P w=.ok rv w∧RepI σ r rv:=by
 unfold zDN at h
 cases op <;> simp only at h
 case eql=>cases h; exact⟨_,zHC rfl (fun d=>run_equalIn_bool' w d t a b ht),.bool⟩
 case neq=>cases h; exact⟨_,zML rfl (fun d=>run_equalIn_bool' w d t a b ht),.bool⟩
 all_goals cases h
theorem zNs{k:SK}(hk:skOk P t k=true){cs:Array Value}{off:Nat}{v:Value}(hv:cs[off]?=some v):(part t cs off).run P w=.ok v w:=by
 have:zB1 P t false=true:=by
  unfold skOk at hk; unfold zB1
  split at hk <;> (split at hk <;> first | (rename_i hu; rw[hu]; rfl) | cases hk)
 simp[part,zPp this,hv]
theorem zG8{k:SK}(hk:skOk P t k=true) (d:Nat){a b:IV}{r:Bool}(h:eqSc k a b=some r){ra rb:Value}(ha:RepI σ a ra) (hb:RepI σ b rb) :
  (Op.equalIn (d+1) t ra rb).run P w=.ok r w:=by
 unfold eqSc at h
 split at h
 ·rw[zOm ha,zOm hb]
  cases h
  unfold skOk at hk
  simp only at hk
  split at hk
  ·rename_i hu; exact run_equalIn_bool' w d t _ _ hu
  ·cases hk
 ·rw[zOn ha,zOn hb]
  split at h
  ·rename_i hkk; subst hkk; cases h
   unfold skOk at hk
   simp only at hk
   split at hk
   ·rename_i hu; exact run_equalIn_int w d t _ _ _ _ hu
   ·cases hk
  ·cases h
 ·obtain⟨s,rfl,rfl⟩:=zOo ha
  obtain⟨s',rfl,rfl⟩:=zOo hb
  cases h
  unfold skOk at hk
  simp only at hk
  split at hk
  ·rename_i hu
   rw[run_equalIn_string w d t _ _ hu,ByteArray.toList_eq,ByteArray.toList_eq]
  ·cases hk
 ·cases h
theorem zHA (d:Nat){vx vy:Array Value}:∀ (i:Nat) (fs:List Field) (ks:List SK) (xs ys:List DV) (r:Bool),stOk P i fs ks=true→eqSt ks xs ys=some r→
  (∀ (j:Nat) c,xs[j]?=some c→∃ v,vx[i+j]?=some v∧RepD φ σ c v)→(∀ (j:Nat) c,ys[j]?=some c→∃ v,vy[i+j]?=some v∧RepD φ σ c v)→
  (Op.eqFields (d+1) vx vy fs).run P w=.ok r w
 | i,[],[],xs,ys,r,_,h,_,_=>by
  cases xs <;> cases ys <;> simp[eqSt] at h
  subst h; simp[Op.eqFields]
 | i,f::fs,k::ks,xs,ys,r,hst,h,hx,hy=>by
  simp only[stOk,Bool.and_eq_true,bne_iff_ne,beq_iff_eq] at hst
  obtain⟨⟨⟨h1,h2⟩,h3⟩,h4⟩:=hst
  unfold eqSt at h
  split at h
  ·rename_i heq; simp at heq
  ·rename_i k' ks' a xs b ys heq1
   simp at heq1
   obtain⟨rfl,rfl⟩:=heq1
   split at h
   ·rename_i r1 r2 e1 e2
    cases h
    obtain⟨va,ga,ra⟩:=hx 0 _ rfl
    obtain⟨vb,gb,rb⟩:=hy 0 _ rfl
    rw[Nat.add_zero] at ga gb
    have ih:=zHA d (vx:=vx) (vy:=vy) (i+1) fs ks xs ys r2 h4 e2 (fun j c hc=>by
     obtain⟨v,g1,g2⟩:=hx (j+1) c (by simpa using hc); exact⟨v,by rw[show i+1+j=i+(j+1) by omega]; exact g1,g2⟩) (fun j c hc=>by
     obtain⟨v,g1,g2⟩:=hy (j+1) c (by simpa using hc); exact⟨v,by rw[show i+1+j=i+(j+1) by omega]; exact g1,g2⟩)
    have hsc:=zG8 (P:=P) (w:=w) h3 d e1 (zOl ra) (zOl rb)
    rw[Op.eqFields,if_pos h1]
    simp only[Sem.run_bind,h2,zNs (w:=w) h3 ga,zNs (w:=w) h3 gb,Result.andThen_ok,hsc,Sem.run_ite,ih]
    cases r1 <;> simp
   ·cases h
  ·cases h
 | i,[],k::ks,_,_,_,hst,_,_,_=>by simp[stOk] at hst
 | i,f::fs,[],_,_,_,hst,_,_,_=>by simp[stOk] at hst
theorem zDS {op:BinOp}{ks:List SK}{xs ys:List DV}{vx vy:Array Value}(ht:etOk P t (.st ks)=true) (hx:RepDs φ σ xs vx) (hy:RepDs φ σ ys vy)
  (h:zDN op (.st ks) x y (.agg xs) (.agg ys)=some r) (x' y':Operand) :
  ∃ rv,(do eqGuard op t x' y' (.agg vx) (.agg vy); binOp op t (.agg vx) (.agg vy):Sem Value).run P w=.ok rv w∧RepI σ r rv:=by
 unfold etOk at ht
 simp only at ht
 split at ht
 ·rename_i fs hu
  simp only[Bool.and_eq_true,Bool.not_eq_true'] at ht
  obtain⟨⟨h1,h2⟩,h3⟩:=ht
  have hg:(eqGuard op t x' y' (.agg vx) (.agg vy)).run P w=.ok () w:=run_eqGuard_agg w op t x' y' vx vy h3
  have hf:P.fieldsOf t=fs:=by simp[Program.fieldsOf,hu]
  have key:∀ b,eqSt ks xs ys=some b→(Op.equalIn 10000 t (.agg vx) (.agg vy)).run P w=.ok b w:=fun b hb=>by
   rw[run_equalIn_agg w 9999 t vx vy (by rw[hf]; exact hu) h2,hf]
   exact zHA 9998 0 fs.toList ks xs ys b h1 hb (fun j c hc=>by rw[Nat.zero_add]; exact hx.get hc) (fun j c hc=>by rw[Nat.zero_add]; exact hy.get hc)
  simp only[Sem.run_bind,hg,Result.andThen_ok]
  unfold zDN at h
  cases op <;> simp only at h
  case eql=>
   simp only[Option.map_eq_some_iff] at h
   obtain⟨b,hb,rfl⟩:=h
   exact⟨_,by rw[run_eql_struct,key b hb]; rfl,by simp[flip]; exact .bool⟩
  case neq=>
   simp only[Option.map_eq_some_iff] at h
   obtain⟨b,hb,rfl⟩:=h
   exact⟨_,by rw[run_neq_struct,key b hb]; rfl,by simp[flip]; exact .bool⟩
  all_goals cases h
 ·cases ht
set_option maxHeartbeats 4000000 in
theorem zMV{e:ET}(he:∀ ks,e≠.st ks) (he1:e≠.sc) (he2:e≠.bl) (ht:etOk P t e=true){v:DV}(hb:zJQ e v=some b)(hv:RepD φ σ v rv){nv:Value}
  {ni:IV}(hn:zJR e (.k ni)=true) (hs:RepI σ ni nv) (d:Nat) :
  (Op.equalIn (d+1) t rv nv).run P w=.ok b w∧(Op.equalIn (d+1) t nv rv).run P w=.ok b w∧(∀ op x y,((x matches .const _)||(y matches .const _))=true→(eqGuard op t x y rv nv).run P w=.ok () w∧(eqGuard op t x y nv rv).run P w=.ok () w)∧
  ((binOp .eql t rv nv).run P w=.ok (.bool b) w∧(binOp .eql t nv rv).run P w=.ok (.bool b) w)∧(binOp .neq t rv nv).run P w=.ok (.bool (!b)) w∧(binOp .neq t nv rv).run P w=.ok (.bool (!b)) w:=by
 cases e with
 | sc=>exact absurd rfl he1
 | bl=>exact absurd rfl he2
 | st ks=>exact absurd rfl (he ks)
 | np=>
  unfold etOk at ht; simp only at ht
  split at ht
  ·rename_i el hu
   unfold zJR at hn
   split at hn <;> first | (rename_i h1 h2; cases h1; try cases h2) | skip
   all_goals first | cases hn | skip
   cases hs
   have hcase:(rv=.pointer none∧b=true)∨(∃ a,rv=.pointer (some a)∧b=false):=by
    cases hv with
    | imm hi=>cases hi <;> simp[zJQ] at hb <;> first | exact .inl ⟨rfl,hb⟩ | exact .inl ⟨rfl,hb.symm⟩ | exact .inr ⟨_,rfl,hb⟩ | exact .inr ⟨_,rfl,hb.symm⟩
    | ptr _=>simp[zJQ] at hb; exact .inr ⟨_,rfl,hb⟩
    | lref _=>simp[zJQ] at hb; exact .inr ⟨_,rfl,hb⟩
    | sl _ _ _ _=>simp[zJQ] at hb
    | agg _ _=>simp[zJQ] at hb
    | tup _ _=>simp[zJQ] at hb
    | fnc _ _=>simp[zJQ] at hb
   rcases hcase with⟨rfl,rfl⟩ | ⟨a,rfl,rfl⟩
   ·refine⟨by simp[Op.equalIn,underlying,hu],by simp[Op.equalIn,underlying,hu],fun op x y _=>⟨zPn _ _ _ _ _ _ (by simp) (by simp),zPn _ _ _ _ _ _ (by simp) (by simp)⟩,⟨?_,?_⟩,?_,?_⟩
    ·exact zHC (t:=t) rfl (fun d=>by simp[Op.equalIn,underlying,hu])
    ·exact zHC (t:=t) rfl (fun d=>by simp[Op.equalIn,underlying,hu])
    ·exact zML (t:=t) rfl (fun d=>by simp[Op.equalIn,underlying,hu])
    ·exact zML (t:=t) rfl (fun d=>by simp[Op.equalIn,underlying,hu])
   ·refine⟨by simp[Op.equalIn,underlying,hu],by simp[Op.equalIn,underlying,hu],fun op x y _=>⟨zPn _ _ _ _ _ _ (by simp) (by simp),zPn _ _ _ _ _ _ (by simp) (by simp)⟩,⟨?_,?_⟩,?_,?_⟩
    ·exact zHC (t:=t) rfl (fun d=>by simp[Op.equalIn,underlying,hu])
    ·exact zHC (t:=t) rfl (fun d=>by simp[Op.equalIn,underlying,hu])
    ·exact zML (t:=t) rfl (fun d=>by simp[Op.equalIn,underlying,hu])
    ·exact zML (t:=t) rfl (fun d=>by simp[Op.equalIn,underlying,hu])
  ·cases ht
 | ns=>
  unfold etOk at ht; simp only at ht
  split at ht
  ·rename_i el hu
   unfold zJR at hn
   split at hn <;> first | (rename_i h1 h2; cases h1; try cases h2) | skip
   all_goals first | cases hn | skip
   cases hs
   have hcase:(rv=.slice none 0 0∧b=true)∨(∃ a l c,rv=.slice (some a) l c∧b=false):=by
    cases hv with
    | imm hi=>cases hi <;> simp[zJQ] at hb <;> first | exact .inl ⟨rfl,hb⟩ | exact .inl ⟨rfl,hb.symm⟩ | exact .inr ⟨_,_,_,rfl,hb⟩ | exact .inr ⟨_,_,_,rfl,hb.symm⟩
    | ptr _=>simp[zJQ] at hb
    | lref _=>simp[zJQ] at hb
    | sl _ _ _ _=>simp[zJQ] at hb; exact .inr ⟨_,_,_,rfl,hb⟩
    | agg _ _=>simp[zJQ] at hb
    | tup _ _=>simp[zJQ] at hb
    | fnc _ _=>simp[zJQ] at hb
   rcases hcase with⟨rfl,rfl⟩ | ⟨a,l,c,rfl,rfl⟩
   ·refine⟨by simp[Op.equalIn,underlying,hu],by simp[Op.equalIn,underlying,hu],fun op x y _=>⟨zPn _ _ _ _ _ _ (by simp) (by simp),zPn _ _ _ _ _ _ (by simp) (by simp)⟩,⟨?_,?_⟩,?_,?_⟩
    ·exact zHC (t:=t) rfl (fun d=>by simp[Op.equalIn,underlying,hu])
    ·exact zHC (t:=t) rfl (fun d=>by simp[Op.equalIn,underlying,hu])
    ·exact zML (t:=t) rfl (fun d=>by simp[Op.equalIn,underlying,hu])
    ·exact zML (t:=t) rfl (fun d=>by simp[Op.equalIn,underlying,hu])
   ·refine⟨by simp[Op.equalIn,underlying,hu],by simp[Op.equalIn,underlying,hu],fun op x y _=>⟨zPn _ _ _ _ _ _ (by simp) (by simp),zPn _ _ _ _ _ _ (by simp) (by simp)⟩,⟨?_,?_⟩,?_,?_⟩
    ·exact zHC (t:=t) rfl (fun d=>by simp[Op.equalIn,underlying,hu])
    ·exact zHC (t:=t) rfl (fun d=>by simp[Op.equalIn,underlying,hu])
    ·exact zML (t:=t) rfl (fun d=>by simp[Op.equalIn,underlying,hu])
    ·exact zML (t:=t) rfl (fun d=>by simp[Op.equalIn,underlying,hu])
  ·cases ht
 | nf=>
  unfold etOk at ht; simp only at ht
  split at ht
  ·rename_i p1 p2 p3 hu
   unfold zJR at hn
   split at hn <;> first | (rename_i h1 h2; cases h1; try cases h2) | skip
   all_goals first | cases hn | skip
   cases hs
   have hcase:(rv=.nilFunc∧b=true)∨(∃ f x y,rv=.func f x y∧b=false):=by
    cases hv with
    | imm hi=>cases hi <;> simp[zJQ] at hb <;> first | exact .inl ⟨rfl,hb⟩ | exact .inl ⟨rfl,hb.symm⟩
    | ptr _=>simp[zJQ] at hb
    | lref _=>simp[zJQ] at hb
    | sl _ _ _ _=>simp[zJQ] at hb
    | agg _ _=>simp[zJQ] at hb
    | tup _ _=>simp[zJQ] at hb
    | fnc _ _=>simp[zJQ] at hb; exact .inr ⟨_,_,_,rfl,hb⟩
   rcases hcase with⟨rfl,rfl⟩ | ⟨f,x,y,rfl,rfl⟩
   ·refine⟨by simp[Op.equalIn,underlying,hu],by simp[Op.equalIn,underlying,hu],fun op x y _=>⟨zPn _ _ _ _ _ _ (by simp) (by simp),zPn _ _ _ _ _ _ (by simp) (by simp)⟩,⟨?_,?_⟩,?_,?_⟩
    ·exact zHC (t:=t) rfl (fun d=>by simp[Op.equalIn,underlying,hu])
    ·exact zHC (t:=t) rfl (fun d=>by simp[Op.equalIn,underlying,hu])
    ·exact zML (t:=t) rfl (fun d=>by simp[Op.equalIn,underlying,hu])
    ·exact zML (t:=t) rfl (fun d=>by simp[Op.equalIn,underlying,hu])
   ·refine⟨by simp[Op.equalIn,underlying,hu],by simp[Op.equalIn,underlying,hu],fun op x y _=>⟨zPn _ _ _ _ _ _ (by simp) (by simp),zPn _ _ _ _ _ _ (by simp) (by simp)⟩,⟨?_,?_⟩,?_,?_⟩
    ·exact zHC (t:=t) rfl (fun d=>by simp[Op.equalIn,underlying,hu])
    ·exact zHC (t:=t) rfl (fun d=>by simp[Op.equalIn,underlying,hu])
    ·exact zML (t:=t) rfl (fun d=>by simp[Op.equalIn,underlying,hu])
    ·exact zML (t:=t) rfl (fun d=>by simp[Op.equalIn,underlying,hu])
  ·cases ht
 | ni=>
  unfold etOk at ht; simp only at ht
  split at ht
  ·rename_i ms hu
   unfold zJR at hn
   split at hn <;> first | (rename_i h1 h2; cases h1; try cases h2) | skip
   all_goals first | cases hn | skip
   cases hs
   have hcase:(rv=.nilIface∧b=true)∨(∃ t x,rv=.iface t x∧b=false):=by
    cases hv with
    | imm hi=>cases hi <;> simp[zJQ] at hb <;> first | exact .inl ⟨rfl,hb⟩ | exact .inl ⟨rfl,hb.symm⟩ | exact .inr ⟨_,_,rfl,hb⟩ | exact .inr ⟨_,_,rfl,hb.symm⟩
    | ptr _=>simp[zJQ] at hb
    | lref _=>simp[zJQ] at hb
    | sl _ _ _ _=>simp[zJQ] at hb
    | agg _ _=>simp[zJQ] at hb
    | tup _ _=>simp[zJQ] at hb
    | fnc _ _=>simp[zJQ] at hb
   rcases hcase with⟨rfl,rfl⟩ | ⟨t',x,rfl,rfl⟩
   ·refine⟨by simp[Op.equalIn,underlying,hu],by simp[Op.equalIn,underlying,hu],fun op x y hxy=>⟨zPm _ _ _ _ hxy,zPm _ _ _ _ hxy⟩,⟨?_,?_⟩,?_,?_⟩
    ·exact zHC (t:=t) rfl (fun d=>by simp[Op.equalIn,underlying,hu])
    ·exact zHC (t:=t) rfl (fun d=>by simp[Op.equalIn,underlying,hu])
    ·exact zML (t:=t) rfl (fun d=>by simp[Op.equalIn,underlying,hu])
    ·exact zML (t:=t) rfl (fun d=>by simp[Op.equalIn,underlying,hu])
   ·refine⟨by simp[Op.equalIn,underlying,hu],by simp[Op.equalIn,underlying,hu],fun op x y _=>⟨zPn _ _ _ _ _ _ (by simp) (by simp),zPn _ _ _ _ _ _ (by simp) (by simp)⟩,⟨?_,?_⟩,?_,?_⟩
    ·exact zHC (t:=t) rfl (fun d=>by simp[Op.equalIn,underlying,hu])
    ·exact zHC (t:=t) rfl (fun d=>by simp[Op.equalIn,underlying,hu])
    ·exact zML (t:=t) rfl (fun d=>by simp[Op.equalIn,underlying,hu])
    ·exact zML (t:=t) rfl (fun d=>by simp[Op.equalIn,underlying,hu])
  ·cases ht
end
end Go.PM
