/-
  D's trees, and what an operation leaves as it was.
-/
import Derived.Test.YtlknjgmhfimhbaaGreatDoorLoc
set_option linter.unusedVariables false
set_option linter.unusedSimpArgs false
namespace Go.PM
namespace PT
variable {α:Type}
theorem zIQ (t:PT α):t.get 0=t.val:=by cases t <;> rfl
theorem zIP (t:PT α) (m:Nat):t.get (m+1)=if m % 2=0 then t.left.get (m / 2) else t.right.get (m / 2):=by
 cases t with
 | lf=>simp[get,left,right]
 | nd l v r=>rw[get]; rfl
theorem zIL:∀ (k:Nat) (t:PT α) (n m:Nat) (v:Option α),n<k→(ins k t n v).get m=if m=n then v else t.get m
 | 0,t,n,m,v,h=>by omega
 | k+1,t,0,m,v,h=>by
  cases m with
  | zero=>simp[ins,get]
  | succ m=>rw[zIP t]; simp[ins,get,left,right]
 | k+1,t,n+1,m,v,h=>by
  simp only[ins]
  cases m with
  | zero=>
   rw[zIQ t]
   split <;> simp[get]
  | succ m=>
   rw[zIP t]
   by_cases hn:n % 2=0
   ·rw[if_pos hn]
    simp only[get]
    by_cases hm:m % 2=0
    ·rw[if_pos hm,if_pos hm,zIL k _ _ _ _ (by omega)]
     by_cases he:m / 2=n / 2
     ·rw[if_pos he,if_pos (by omega)]
     ·rw[if_neg he,if_neg (by omega)]
    ·rw[if_neg hm,if_neg hm,if_neg (by omega)]
   ·rw[if_neg hn]
    simp only[get]
    by_cases hm:m % 2=0
    ·rw[if_pos hm,if_pos hm,if_neg (by omega)]
    ·rw[if_neg hm,if_neg hm,zIL k _ _ _ _ (by omega)]
     by_cases he:m / 2=n / 2
     ·rw[if_pos he,if_pos (by omega)]
     ·rw[if_neg he,if_neg (by omega)]
theorem get_put (t:PT α) (n m:Nat) (v:Option α):(t.put n v).get m=if m=n then v else t.get m:=zIL _ _ _ _ _ (Nat.lt_succ_self n)
end PT
theorem zIN:∀ (l:List (Nat×LV)) (L:PT LV),(putL L l).get=updL L.get l
 | [],L=>rfl
 | (k,v)::l,L=>by
  simp only[putL,updL]
  rw[zIN l]
  congr 1
  funext x; rw[PT.get_put]; rfl
theorem zIM:∀ (l:List (Nat×Option HB)) (H:PT HB),(putH H l).get=updH H.get l
 | [],H=>rfl
 | (k,v)::l,H=>by
  simp only[putH,updH]
  rw[zIM l]
  congr 1
  funext x; rw[PT.get_put]; rfl
theorem zIO (T:PT DV) (dst:Option Nat) (v:DV) (k:Nat):(putT T dst v).get k=if dst=some k then some v else T.get k:=by
 cases dst with
 | none=>simp[putT]
 | some d=>
  simp only[putT,PT.get_put,Option.some.injEq]
  by_cases h:k=d
  ·rw[if_pos h,if_pos h.symm]
  ·rw[if_neg h,if_neg (fun e=>h e.symm)]
theorem zTB:∀ (l:List (Nat×LV)){f g:Nat→Option LV}{k:Nat},f k=g k→updL f l k=updL g l k
 | [],f,g,k,h=>h
 | (x,v)::l,f,g,k,h=>by
  simp only[updL]
  refine zTB l ?_
  unfold upd; split <;> first | rfl | exact h
theorem zTC:∀ (l:List (Nat×LV)){f:Nat→Option LV}{k:Nat},(∀ p∈l,p.1≠k)→updL f l k=f k
 | [],f,k,h=>rfl
 | (x,v)::l,f,k,h=>by
  simp only[updL]
  rw[zTC l (fun p hp=>h p (List.mem_cons_of_mem _ hp))]
  unfold upd
  rw[if_neg (fun e=>h (x,v) (List.mem_cons_self ..) e.symm)]
theorem zS9:∀ (l:List (Nat×Option HB)){f g:Nat→Option HB}{k:Nat},f k=g k→updH f l k=updH g l k
 | [],f,g,k,h=>h
 | (x,v)::l,f,g,k,h=>by
  simp only[updH]
  refine zS9 l ?_
  unfold upd; split <;> first | rfl | exact h
theorem zTA:∀ (l:List (Nat×Option HB)){f:Nat→Option HB}{k:Nat},(∀ p∈l,p.1≠k)→updH f l k=f k
 | [],f,k,h=>rfl
 | (x,v)::l,f,k,h=>by
  simp only[updH]
  rw[zTA l (fun p hp=>h p (List.mem_cons_of_mem _ hp))]
  unfold upd
  rw[if_neg (fun e=>h (x,v) (List.mem_cons_self ..) e.symm)]
def KMon (K:Callee):Prop:=∀ f args H n lo v H' n',K f args H n lo=some (v,H',n')→Mon n n' H.get H'.get
theorem zJn {H H1:PT HB}{n:Nat}:∀ (k:Nat) (j:Nat),(kept H H1 n k).get j=if n≤j∧j<n+k∧(∃ hb,H1.get j=some hb∧hb.tame=true) then H1.get j else H.get j
 | 0,j=>by rw[if_neg (by omega)]; rfl
 | k+1,j=>by
  have ih:=zJn (H:=H) (H1:=H1) (n:=n) k j
  unfold kept
  split
  ·rename_i hb hk
   split
   ·rename_i ht
    rw[PT.get_put]
    by_cases e:j=n+k
    ·subst e
     rw[if_pos rfl,if_pos ⟨by omega,by omega,hb,hk,ht⟩,hk]
    ·rw[if_neg e,ih]
     by_cases c:n≤j∧j<n+k∧∃ hb,H1.get j=some hb∧hb.tame=true
     ·rw[if_pos c,if_pos ⟨c.1,by omega,c.2.2⟩]
     ·rw[if_neg c,if_neg (fun q=>c ⟨q.1,by omega,q.2.2⟩)]
   ·rename_i ht
    rw[ih]
    by_cases c:n≤j∧j<n+k∧∃ hb,H1.get j=some hb∧hb.tame=true
    ·rw[if_pos c,if_pos ⟨c.1,by omega,c.2.2⟩]
    ·rw[if_neg c,if_neg (fun q=>c ⟨q.1,by
      by_cases e:j=n+k
      ·subst e
       obtain⟨hb',g1,g2⟩:=q.2.2
       rw[hk] at g1
       cases g1
       exact absurd g2 ht
      ·omega,q.2.2⟩)]
  ·rename_i hk
   rw[ih]
   by_cases c:n≤j∧j<n+k∧∃ hb,H1.get j=some hb∧hb.tame=true
   ·rw[if_pos c,if_pos ⟨c.1,by omega,c.2.2⟩]
   ·rw[if_neg c,if_neg (fun q=>c ⟨q.1,by
     by_cases e:j=n+k
     ·subst e
      obtain⟨hb',g1,g2⟩:=q.2.2
      rw[hk] at g1
      cases g1
     ·omega,q.2.2⟩)]
section
variable {G:Nat→Option (List IV)}{K:Callee}{lo:Nat}
theorem zD2 (hK:KMon K){m:CM}{f:FuncId}{args:List DV}{H:PT HB}{n:Nat}{e:CEff}(he:zDz K m f args H n lo=some e) :
  Mon n e.n' H.get e.H'.get∧(∀ id,Acc.wX id∉e.acc→Acc.wA∉e.acc→e.H'.get id=H.get id)∧(∀ k,Acc.wL k∉e.acc∧Acc.rL k∉e.acc)∧(e.acc=[]∨Acc.rA∈e.acc∨Acc.wA∈e.acc):=by
 unfold zDz at he
 split at he
 ·split at he
  ·simp only[Option.map_eq_some_iff] at he
   obtain⟨⟨v,H',n'⟩,h1,rfl⟩:=he
   exact⟨hK _ _ _ _ _ _ _ _ h1,by simp,by simp,by simp⟩
  ·cases he
 ·split at he
  ·split at he
   ·rename_i v H1 n1 h1
    simp only[Option.map_eq_some_iff] at he
    obtain⟨v',g1,rfl⟩:=he
    exact⟨⟨(hK _ _ _ _ _ _ _ _ h1).le,fun _ h _=>h⟩,by simp,by simp,by simp⟩
   ·cases he
  ·cases he
 ·split at he
  ·split at he
   ·split at he
    ·rename_i v H1 n1 h1
     split at he
     ·rename_i hc
      cases he
      refine⟨hK _ _ _ _ _ _ _ _ h1,fun id hid _=>zQH.1 hc.2 id (fun e=>hid (by simp[e])),by simp,by simp⟩
     ·cases he
    ·cases he
   ·cases he
  ·cases he
 ·split at he
  ·split at he
   ·rename_i v H1 n1 h1
    split at he
    ·cases he
     have m:=hK _ _ _ _ _ _ _ _ h1
     have hle:=m.le
     refine⟨⟨m.le,fun id h q=>?_⟩,by simp,by simp,by simp⟩
     have q:id<n∨n1≤id:=q
     show (kept H H1 n (n1 - n)).get id=none
     rw[zJn,if_neg (by omega)]
     exact h
    ·cases he
   ·cases he
  ·cases he
 ·split at he
  ·split at he
   ·rename_i v H1 n1 h1
    simp only[Option.map_eq_some_iff] at he
    obtain⟨v',g1,rfl⟩:=he
    exact⟨.refl _ _,by simp,by simp,by simp⟩
   ·cases he
  ·split at he
   ·split at he
    ·split at he
     ·cases he; exact⟨.refl _ _,by simp,by simp,by simp⟩
     ·cases he
    ·cases he
   ·cases he
structure OpFr (d:DO) (s s':St) (acc:List Acc):Prop where
 mon:Mon s.n s'.n s.H.get s'.H.get
 t:∀ k,d.dst≠some k→s'.T.get k=s.T.get k
 l:∀ k,Acc.wL k∉acc→s'.L.get k=s.L.get k
 x:∀ id,Acc.wX id∉acc→Acc.wA∉acc→s'.H.get id=s.H.get id
def zTO (T:Nat→Option DV) (d:DO):Option Bool:=match d.guard with
  | none=>some true
  | some (g,w)=>match T g with
   | some (.imm (.bool b))=>some (b==w)
   | some (.imm .undef)=>some false
   | _=>none
theorem zNQ {d:DO}{s s':St}{acc:List Acc}(h:zNP G K lo d s=some (s',acc)) :
  (zTO s.T.get d=some false∧s'={ s with T:=putT s.T d.dst (.imm .undef) }∧acc=[])∨
  (zTO s.T.get d=some true∧(
   (∃ m f args vs e,d.op=.call m f args∧evs G s.T.get args=some vs∧zDz K m f vs s.H s.n lo=some e∧s'={ s with T:=putT s.T d.dst e.v,H:=e.H',n:=e.n' }∧acc=e.acc)∨
   (∃ m f args g caps vs e,d.op=.calld m f args∧ev G s.T.get f=some (.fnc g caps)∧evs G s.T.get args=some vs∧zDz K m g (vs++caps) s.H s.n lo=some e∧s'={ s with T:=putT s.T d.dst e.v,H:=e.H',n:=e.n' }∧acc=e.acc)∨
   (∃ e,zGm G s.T.get s.L.get s.H.get s.n lo (d.dst.getD 0) d.op=some e∧s'=⟨putT s.T d.dst e.v,putL s.L e.lw,putH s.H e.hw,e.n'⟩∧acc=e.acc))):=by
 have hw:∀ w,(match d.guard with
  | none=>some true
  | some (g,w)=>match s.T.get g with
   | some (.imm (.bool b))=>some (b==w)
   | some (.imm .undef)=>some false
   | _=>none)=w→zTO s.T.get d=w:=fun w h=>h
 unfold zNP at h
 dsimp only at h
 split at h
 ·cases h
 ·rename_i h1
  cases h
  exact .inl ⟨hw _ h1,rfl,rfl⟩
 ·rename_i h1
  refine .inr ⟨hw _ h1,?_⟩
  split at h
  ·rename_i m f args hop
   split at h
   ·rename_i vs h2
    simp only[Option.map_eq_some_iff] at h
    obtain⟨e,h3,h4⟩:=h
    cases h4
    exact .inl ⟨m,f,args,vs,e,hop,h2,h3,rfl,rfl⟩
   ·cases h
  ·rename_i m f args hop
   split at h
   ·rename_i g caps vs h2 h2'
    simp only[Option.map_eq_some_iff] at h
    obtain⟨e,h3,h4⟩:=h
    cases h4
    exact .inr (.inl ⟨m,f,args,g,caps,vs,e,hop,h2,h2',h3,rfl,rfl⟩)
   ·cases h
  ·simp only[Option.map_eq_some_iff] at h
   obtain⟨e,h3,h4⟩:=h
   cases h4
   exact .inr (.inr ⟨e,h3,rfl,rfl⟩)
theorem zNR (hK:KMon K){d:DO}{s s':St}{acc:List Acc}(h:zNP G K lo d s=some (s',acc)):OpFr d s s' acc:=by
 have hput:∀ {v:DV}{k:Nat},d.dst≠some k→(putT s.T d.dst v).get k=s.T.get k:=fun {v k} hk=>by rw[zIO,if_neg hk]
 rcases zNQ h with⟨_,rfl,rfl⟩ | ⟨_,⟨m,f,args,vs,e,_,_,h3,rfl,rfl⟩ | ⟨m,f,args,g,caps,vs,e,_,_,_,h3,rfl,rfl⟩ | ⟨e,h3,rfl,rfl⟩⟩
 ·exact⟨.refl _ _,fun k hk=>hput hk,fun _ _=>rfl,fun _ _ _=>rfl⟩
 ·obtain⟨q1,q2,q3,_⟩:=zD2 hK h3
  exact⟨q1,fun k hk=>hput hk,fun _ _=>rfl,fun id hx hw=>q2 id hx hw⟩
 ·obtain⟨q1,q2,q3,_⟩:=zD2 hK h3
  exact⟨q1,fun k hk=>hput hk,fun _ _=>rfl,fun id hx hw=>q2 id hx hw⟩
 ·have he:=zGn h3
  refine⟨?_,fun k hk=>hput hk,fun k hk=>?_,fun id hid _=>?_⟩
  ·have:=he.mon
   simp only[zIM]; exact this
  ·simp only[zIN]
   exact zTC _ (fun p hp e=>hk (e▸he.l p hp))
  ·simp only[zIM]
   exact zTA _ (fun p hp e=>hid (e▸he.x p hp))
theorem zNW (hK:KMon K):∀ {ds:List DO}{s s':St}{accs:List (List Acc)},zNV G K lo ds s=some (s',accs)→Mon s.n s'.n s.H.get s'.H.get
 | [],s,s',accs,h=>by simp[zNV] at h; obtain⟨rfl,rfl⟩:=h; exact .refl _ _
 | d::ds,s,s',accs,h=>by
  simp only[zNV] at h
  split at h
  ·rename_i s1 a h1
   simp only[Option.map_eq_some_iff] at h
   obtain⟨⟨s2,as⟩,h2,h3⟩:=h
   cases h3
   exact (zNR hK h1).mon.trans (zNW hK h2)
  ·cases h
theorem zJf {f:St→Option (Ex×St)}{R:St→St→Prop}(hrefl:∀ s,R s s) (htrans:∀ a b c,R a b→R b c→R a c) (hf:∀ s e s',f s=some (e,s')→R s s') :
  ∀ (k:Nat){s:St}{e:Ex}{s':St},iter f k s=some (e,s')→R s s'
 | 0,s,e,s',h=>by simp[iter] at h
 | k+1,s,e,s',h=>by
  simp only[iter] at h
  split at h
  ·rename_i s1 h1
   exact htrans _ _ _ (hf _ _ _ h1) (zJf hrefl htrans hf k h)
  ·exact hf _ _ _ h
theorem zPv (hK:KMon K):∀ {d:DC}{s:St}{e:Ex}{s':St},d.run G K lo s=some (e,s')→Mon s.n s'.n s.H.get s'.H.get:=by
 intro d
 induction d with
 | skip=>intro s e s' h; simp[DC.run] at h; obtain⟨rfl,rfl⟩:=h; exact .refl _ _
 | reg ops=>
  intro s e s' h
  simp only[DC.run,Option.map_eq_some_iff] at h
  obtain⟨⟨s1,as⟩,h1,h2⟩:=h
  cases h2
  exact zNW hK h1
 | drw ops bef=>
  intro s e s' h
  simp only[DC.run] at h
  split at h
  ·rename_i s1 accs h1
   split at h
   ·cases h; exact zNW hK h1
   ·cases h
  ·cases h
 | seq a b iha ihb=>
  intro s e s' h
  simp only[DC.run] at h
  split at h
  ·rename_i s1 h1
   exact (iha h1).trans (ihb h)
  ·exact iha h
 | cond c a b iha ihb=>
  intro s e s' h
  simp only[DC.run] at h
  split at h
  ·exact iha h
  ·exact ihb h
  ·cases h
 | block id b ih=>
  intro s e s' h
  simp only[DC.run] at h
  split at h
  ·rename_i i s1 h1
   split at h <;> (cases h; exact ih h1)
  ·exact ih h
 | loop live own b ih=>
  intro s e s' h
  simp only[DC.run] at h
  refine zJf (R:=fun s s'=>Mon s.n s'.n s.H.get s'.H.get) (fun s=>.refl _ _) (fun a b c h1 h2=>h1.trans h2) (fun s e s' h=>?_) LOOP h
  exact ih (s:={ s with T:=keep s.T live,L:=keep s.L own }) h
 | exit id=>intro s e s' h; simp[DC.run] at h; obtain⟨rfl,rfl⟩:=h; exact .refl _ _
 | ret=>intro s e s' h; simp[DC.run] at h; obtain⟨rfl,rfl⟩:=h; exact .refl _ _
end
end Go.PM
