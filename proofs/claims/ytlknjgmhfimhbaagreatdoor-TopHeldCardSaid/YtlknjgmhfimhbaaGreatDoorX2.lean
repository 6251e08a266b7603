/-
  TopHeld: what its functions compute, and the law (part 2).
-/
import Derived.Test.YtlknjgmhfimhbaaGreatDoorX1
import Derived.KernelRfl
set_option linter.unusedVariables false
set_option linter.unusedSimpArgs false
set_option maxHeartbeats 16000000
namespace Go.Proofs.YtlknjgmhfimhbaaGreatDoor.D
open Go Go.PM Go.Lib
def valY (bs:List UInt8) (z:Nat):Nat:=bs.foldl (fun z b=>z*256+b.toNat) z
theorem zR0:∀ (bs:List UInt8) (k z:Nat),k≤bs.length→zRy (bs.map ivY) k z=some (valY (bs.take k) z)
 | bs,0,z,_=>by rw[zR1]; simp[valY]
 | [],k+1,z,h=>by simp at h
 | b::bs,k+1,z,h=>by
  have h1:zRy ((b::bs).map ivY) (k+1) z=zR8 (ivY b) z (zRy (bs.map ivY) k):=rfl
  have h2:zR8 (ivY b) z (zRy (bs.map ivY) k)=bif Nat.ble b.toNat 255 then fN (z*256+b.toNat) (zRy (bs.map ivY) k) else none:=rfl
  have h3:Nat.ble b.toNat 255=true:=Nat.ble_eq_true_of_le (by have:=b.toNat_lt; omega)
  rw[h1,h2,h3,cond_true,zHU,zR0 bs k _ (by simpa using h)]
  rfl
variable {H:PT HB} {bs:List UInt8} {d k lo n:Nat}
theorem zSK{f:Bool}(hb:bs.length≤1000000) (hk:1≤k) (hk8:k≤8) (h:k≤bs.length) :
  zDz (K (zFj 0 1) (d+1)) .ro 126 [.imm (.lst f 1 (bs.map ivY)),.imm (.int .i64 (k:Int))] H n lo=some ⟨.tup [.imm (.int .u64 (valY (bs.take k) 0:Int)),.imm (.lst f 1 ((bs.drop k).map ivY)),.imm (.bool true)],H,n,[.rA]⟩:=by
 have e:K (zFj 0 1) (d+1) 126 [.imm (.lst f 1 (bs.map ivY)),.imm (.int .i64 (k:Int))] H n n=some (.tup [.imm (.int .u64 (valY (bs.take k) 0:Int)),.imm (.lst f 1 ((bs.drop k).map ivY)),.imm (.bool true)],H,n):=by
  rw[D.k126]
  show zOE [.imm (.lst f 1 (bs.map ivY)),.imm (.int .i64 (.ofNat k))] H n n=_
  unfold zOE
  simp only[List.length_map,Nat.ble_eq_true_of_le hb,Nat.ble_eq_true_of_le hk,Nat.ble_eq_true_of_le hk8,Nat.ble_eq_true_of_le h,Bool.and_self,cond_true,zR0 bs k 0 h,List.map_drop]
  rfl
 rw[zD3,if_pos (by rfl),e]
 rfl
theorem zSG{f:Bool}(hb:bs.length≤1000000) (hk:1≤k) (hk8:k≤8) (h:bs.length<k) :
  zDz (K (zFj 0 1) (d+1)) .ro 126 [.imm (.lst f 1 (bs.map ivY)),.imm (.int .i64 (k:Int))] H n lo=some ⟨.tup [.imm (.int .u64 0),.imm .nils,.imm (.bool false)],H,n,[.rA]⟩:=by
 have hq:Nat.ble k bs.length=false:=by
  cases hx:Nat.ble k bs.length with
  | false=>rfl
  | true=>have:=Nat.le_of_ble_eq_true hx; omega
 have e:K (zFj 0 1) (d+1) 126 [.imm (.lst f 1 (bs.map ivY)),.imm (.int .i64 (k:Int))] H n n=some (.tup [.imm (.int .u64 0),.imm .nils,.imm (.bool false)],H,n):=by
  rw[D.k126]
  show zOE [.imm (.lst f 1 (bs.map ivY)),.imm (.int .i64 (.ofNat k))] H n n=_
  unfold zOE
  simp only[List.length_map,Nat.ble_eq_true_of_le hb,Nat.ble_eq_true_of_le hk,Nat.ble_eq_true_of_le hk8,hq,Bool.and_self,cond_true,cond_false]
 rw[zD3,if_pos (by rfl),e]
 rfl
theorem zS1:∀ e:List IV,zS4 (imms e)=some e
 | []=>rfl
 | x::e=>by
  have:=zS1 e
  unfold zS4 at this ⊢
  simp[imms,mapO,zS2] at this ⊢
  rw[this]
theorem zLv:∀ es:List (List IV),mapO zS4 (es.map imms)=some es
 | []=>rfl
 | e::es=>by
  have:=zLv es
  simp[mapO,zS1] at this ⊢
  rw[this]
theorem zDv:∀ bs:List UInt8,bytesOf (bs.map ivY)=some bs
 | []=>rfl
 | b::bs=>by
  have h:=zDv bs
  have h1:PM.byteOf (ivY b)=some b:=by
   have:=b.toNat_lt
   have h2:(0:Int)≤b.toNat∧(b.toNat:Int)<256:=by omega
   show (if (0:Int)≤b.toNat∧(b.toNat:Int)<256 then some (UInt8.ofNat (b.toNat:Int).toNat) else none)=_
   rw[if_pos h2]
   simp
  simp only[List.map_cons,bytesOf,h1,h]
theorem zLx (bs:List UInt8) (k:Nat):mapO zS4 (List.map imms (List.take k (List.map ivY bs)))=some (List.take k (List.map ivY bs)):=zLv _
theorem zDw (bs:List UInt8) (k:Nat):bytesOf (List.take k (List.map ivY bs))=some (bs.take k):=by rw[← List.map_take,zDv]
def addF:List UInt8→Option (Th×List UInt8)
 | []=>none
 | b::r=>if b.toNat=1 then (if 8≤r.length then some (.int (IntKind.i64.wrap (valY (r.take 8) 0:Int)),r.drop 8) else none)
  else if b.toNat=2 then (match r with
   | []=>none
   | l::r'=>if l.toNat≤r'.length then some (.text (r'.take l.toNat),r'.drop l.toNat) else none)
  else if b.toNat=3 then (match r with
   | []=>none
   | v::r'=>some (.bool (decide (v.toNat=1)),r'))
  else none
def AddP (H:PT HB) (w n a:Nat) (ts:List Th) (f:Bool) (bs:List UInt8) (v:DV) (H':PT HB) (n':Nat):Prop:=n≤n'∧(∀ j,j<w→H'.get j=H.get j)∧((addF bs=none∧∃ u,v=.tup [u,.imm (.bool false)])∨
 ∃ t r,addF bs=some (t,r)∧∃ u,v=.tup [u,.imm (.bool (decide (ts.length<100)))]∧(ts.length<100→u=.imm (.lst f 1 (r.map ivY))∧CrAt H' w n' a (ts++[t])))
variable {a w:Nat}
theorem zBy{ts:List Th}(hlo:lo≤w) (hc:CrAt H w n a ts) (hl:ts.length≤100){f:Bool}(hb:bs.length≤100000) :
  Fe (K (zFj 0 1) (d+3) 127 [.ptr a 0 0,.imm (.lst f 1 (bs.map ivY))] H n lo) (AddP H w n a ts f bs):=by
 rw[kX 127 D.f127 rfl]
 refine zHy rfl ?_
 cases bs with
 | nil=>
  have e1:=fun {H n lo}=>zSG (d:=d+1) (H:=H) (n:=n) (lo:=lo) (k:=1) (f:=f) (bs:=[]) (by simp) (by omega) (by omega) (by simp)
  simp only[List.map_nil] at e1
  simp at e1
  simp[e1,B6,B7]
  exact⟨by omega,fun _ _=>rfl,.inl ⟨rfl,_,rfl⟩⟩
 | cons b r=>
  have e1:=fun {H n lo}=>zSK (d:=d+1) (H:=H) (n:=n) (lo:=lo) (k:=1) (f:=f) (bs:=b::r) (by omega) (by omega) (by omega) (by simp)
  simp[valY] at e1
  have hr:r.length≤100000:=by simp at hb; omega
  by_cases h1:b.toNat=1
  ·by_cases h8:8≤r.length
   ·have e2:=fun {H n lo}=>zSK (d:=d+1) (H:=H) (n:=n) (lo:=lo) (k:=8) (f:=f) (bs:=r) (by omega) (by omega) (by omega) h8
    obtain⟨v,H',n',e3,rfl,k1,k2,k3⟩:=zAO (d:=d) (lo:=lo) hlo hc hl (IntKind.i64.wrap (valY (r.take 8) 0:Int))
    simp at e2
    simp[h1,e1,e2,e3,B6,B7]
    exact⟨k1,k3,.inr ⟨_,_,by
     show (if b.toNat=1 then _ else _)=_
     rw[if_pos h1,if_pos h8],_,rfl,fun hlt=>⟨by rw[List.map_drop],by simpa [hlt] using k2⟩⟩⟩
   ·have e2:=fun {H n lo}=>zSG (d:=d+1) (H:=H) (n:=n) (lo:=lo) (k:=8) (f:=f) (bs:=r) (by omega) (by omega) (by omega) (by omega)
    simp at e2
    simp[h1,e1,e2,B6,B7]
    exact⟨Nat.le_refl _,fun _ _=>rfl,.inl ⟨by
     show (if b.toNat=1 then _ else _)=_
     rw[if_pos h1,if_neg h8],_,rfl⟩⟩
  ·by_cases h2:b.toNat=2
   ·cases r with
    | nil=>
     have e2:=fun {H n lo}=>zSG (d:=d+1) (H:=H) (n:=n) (lo:=lo) (k:=1) (f:=f) (bs:=[]) (by simp) (by omega) (by omega) (by simp)
     simp only[List.map_nil] at e1 e2
     simp at e2
     simp[h1,h2,e1,e2,B6,B7]
     exact⟨Nat.le_refl _,fun _ _=>rfl,.inl ⟨by
      show (if b.toNat=1 then _ else _)=_
      rw[if_neg h1,if_pos h2],_,rfl⟩⟩
    | cons l r=>
     have e2:=fun {H n lo}=>zSK (d:=d+1) (H:=H) (n:=n) (lo:=lo) (k:=1) (f:=f) (bs:=l::r) (by simp at hr ⊢; omega) (by omega) (by omega) (by simp)
     simp[valY] at e2
     simp only[List.map_cons] at e1
     have hl1:=l.toNat_lt
     have w9:IntKind.i64.wrap (l.toNat:Int)=(l.toNat:Int):=by
      simp only[IntKind.wrap,IntKind.bits,IntKind.signed]
      simp
      omega
     by_cases h5:l.toNat≤r.length
     ·have i0:ILt (r.length:Int) (l.toNat:Int)=False:=zIz (by omega)
      obtain⟨u,H',n',e3,rfl,k1,k2,k3⟩:=zAP (d:=d) (lo:=lo) hlo hc hl (r.take l.toNat)
      have hd:List.drop l.toNat (List.take r.length (List.map ivY r))=(r.drop l.toNat).map ivY:=by
       rw[List.take_of_length_le (by simp),List.map_drop]
      simp[h1,h2,h5,w9,i0,e1,e2,e3,zQ7,zPV,zLx,zDw,hd,-List.map_take,-List.map_drop,B6,B7]
      exact⟨k1,k3,.inr ⟨_,_,by
       show (if b.toNat=1 then _ else _)=_
       rw[if_neg h1,if_pos h2]
       show (if l.toNat≤r.length then _ else _)=_
       rw[if_pos h5],_,rfl,fun hlt=>⟨rfl,by simpa [hlt] using k2⟩⟩⟩
     ·have i0:ILt (r.length:Int) (l.toNat:Int)=True:=zI3 (by omega)
      simp[h1,h2,h5,w9,i0,e1,e2,B6,B7]
      exact⟨Nat.le_refl _,fun _ _=>rfl,.inl ⟨by
       show (if b.toNat=1 then _ else _)=_
       rw[if_neg h1,if_pos h2]
       show (if l.toNat≤r.length then _ else _)=_
       rw[if_neg h5],_,rfl⟩⟩
   ·by_cases h3:b.toNat=3
    ·cases r with
     | nil=>
      have e2:=fun {H n lo}=>zSG (d:=d+1) (H:=H) (n:=n) (lo:=lo) (k:=1) (f:=f) (bs:=[]) (by simp) (by omega) (by omega) (by simp)
      simp only[List.map_nil] at e2
      simp only[List.map_nil] at e1
      simp at e2
      simp[h1,h2,h3,e1,e2,B6,B7]
      exact⟨Nat.le_refl _,fun _ _=>rfl,.inl ⟨by
       show (if b.toNat=1 then _ else _)=_
       rw[if_neg h1,if_neg h2,if_pos h3],_,rfl⟩⟩
     | cons v r=>
      have e2:=fun {H n lo}=>zSK (d:=d+1) (H:=H) (n:=n) (lo:=lo) (k:=1) (f:=f) (bs:=v::r) (by simp at hr ⊢; omega) (by omega) (by omega) (by simp)
      obtain⟨u,H',n',e3,rfl,k1,k2,k3⟩:=zAN (d:=d) (lo:=lo) hlo hc hl (decide (v.toNat=1))
      simp[valY] at e2
      simp only[List.map_cons] at e1
      have fin:AddP H w n a ts f (b::v::r) (.tup [.imm (.lst f 1 (r.map ivY)),.imm (.bool (decide (ts.length<100)))]) H' n':=⟨k1,k3,.inr ⟨_,_,by
       show (if b.toNat=1 then _ else _)=_
       rw[if_neg h1,if_neg h2,if_pos h3],_,rfl,fun hlt=>⟨rfl,by simpa [hlt] using k2⟩⟩⟩
      by_cases hv:v.toNat=1
      ·simp only[hv,decide_true] at e3
       simp[h1,h2,h3,hv,e1,e2,e3,B6,B7]
       exact fin
      ·have hv':¬(v.toNat:Int)=1:=by omega
       simp only[hv,decide_false] at e3
       simp[h1,h2,h3,hv,hv',e1,e2,e3,B6,B7]
       exact fin
    ·have g1:¬(b.toNat:Int)=1:=by omega
     have g2:¬(b.toNat:Int)=2:=by omega
     have g3:¬(b.toNat:Int)=3:=by omega
     simp[g1,g2,g3,h1,h2,h3,e1,B6,B7]
     exact⟨Nat.le_refl _,fun _ _=>rfl,.inl ⟨by
      show (if b.toNat=1 then _ else _)=_
      rw[if_neg h1,if_neg h2,if_neg h3],_,rfl⟩⟩
theorem zHD{f g:Bool} {cs:List UInt8} :
  bl (K (zFj 0 1) (d+1)) 129 [.imm (.lst f 1 (bs.map ivY)),.imm (.lst g 1 (cs.map ivY))]=some (.imm (.bool (decide (bs=cs)))):=by
 have q1:=zLv (bs.map ivY)
 have q2:=zLv (cs.map ivY)
 have q3:=zDv bs
 have q4:=zDv cs
 generalize bs.map ivY=es at *
 generalize cs.map ivY=fs at *
 refine zDd ?_
 rw[kX 129 D.f129 rfl]
 refine zHy rfl ?_
 by_cases h:bs=cs
 ·simp[q1,q2,q3,q4,h,zPV,zOS,B6,B7]
 ·simp[q1,q2,q3,q4,h,zPV,zOS,B6,B7]
def itF (bs:List UInt8):Nat→Option (List Th×List UInt8)
 | 0=>some ([],bs)
 | i+1=>match itF bs i with
  | some (ts,r)=>match addF r with
   | some (t,r')=>if ts.length<100 then some (ts++[t],r') else none
   | none=>none
  | none=>none
theorem zBv {r:List UInt8}{t:Th}(h:addF bs=some (t,r)):r.length≤bs.length:=by
 unfold addF at h
 split at h
 ·cases h
 ·rename_i b q
  split at h
  ·split at h
   ·cases h; simp; omega
   ·cases h
  ·split at h
   ·split at h
    ·cases h
    ·split at h
     ·cases h; simp; omega
     ·cases h
   ·split at h
    ·split at h
     ·cases h
     ·cases h; simp; omega
    ·cases h
structure IUn (H0:PT HB) (w a N:Nat) (f:Bool) (d0:DV) (bs:List UInt8) (i:Nat) (st:St):Prop where
 c0:st.T.get 0=some d0
 c4:st.T.get 4=some (.ptr a 0 0)
 c22:st.T.get 22=some (.imm (.int .u64 (N:Int)))
 c23:st.T.get 23=some (.imm (.int .u64 (i:Int)))
 fr:∀ j,j<w→st.H.get j=H0.get j
 hn:w≤st.n
 s:∃ ts r,itF bs i=some (ts,r)∧ts.length≤100∧r.length≤100000∧st.T.get 6=some (.imm (.lst f 1 (r.map ivY)))∧CrAt st.H w st.n a ts
variable {H0:PT HB} {Q:Ex→St→Prop} {ks:List Kf} {st:St}
theorem zLb {N:Nat}{f:Bool}{d0:DV}(hlo:lo≤w) (hN:N≤255)
 (h:IUn H0 w a N f d0 bs 0 st)
  (hk:∀ s',IUn H0 w a N f d0 bs N s'→Bk (zFj 0 1) (K (zFj 0 1) (d+3)) lo (.exit 0) ks s' Q)
  (hr:∀ s',itF bs N=none→s'.T.get 2=some (.imm .nilp)→s'.T.get 3=some (.imm (.int .i64 2))→(∀ j,j<w→s'.H.get j=H0.get j)→w≤s'.n→Bk (zFj 0 1) (K (zFj 0 1) (d+3)) lo .ret ks s' Q) :
  Wp (zFj 0 1) (K (zFj 0 1) (d+3)) lo D.l91_0 ks st Q:=by
 refine zGt (N:=N) (zRH (by have:=rbW; omega)) (fun i st=>IUn H0 w a N f d0 bs i st) (fun e s'=>(e=.exit 0∧IUn H0 w a N f d0 bs N s')∨(e=.ret∧(∃ i,i<N∧itF bs (i+1)=none)∧s'.T.get 2=some (.imm .nilp)∧s'.T.get 3=some (.imm (.int .i64 2))∧(∀ j,j<w→s'.H.get j=H0.get j)∧w≤s'.n)) (fun i st hle hI=>?_) h (fun e s' h=>by
  rcases h with⟨rfl,h⟩ | ⟨rfl,⟨i,hi,h1⟩,h2,h3,h4,h5⟩
  ·exact hk s' h
  ·have this:∀ k,itF bs (i+1+k)=none:=fun k=>by
    induction k with
    | zero=>exact h1
    | succ k ih=>rw[← Nat.add_assoc,itF,ih]
   have e9:=this (N - i - 1)
   rw[show i+1+(N - i - 1)=N by omega] at e9
   exact hr s' e9 h2 h3 h4 h5)
 obtain⟨c0,c4,c22,c23,fr,hn,ts,r,hit,htl,hrl,c6,hc⟩:=hI
 by_cases hi:i<N
 ·have hi':ILt (i:Int) (N:Int)=True:=zI3 (by omega)
  have hw8:IntKind.u64.wrap ((i:Int)+1)=(i:Int)+1:=zTZ (x:=i+1) (by omega)
  obtain⟨v,H',n',e,k1,k2,k3⟩:=zBy (d:=d) hlo hc htl (f:=f) hrl
  rcases k3 with⟨ha,u,rfl⟩ | ⟨t,r',ha,u,rfl,hx⟩
  ·generalize hQ:(fun (e:Ex) (s':St)=>_)=Q'
   simp only[D.l91_0b]
   simp[c0,c4,c6,c22,c23,hi',hw8,e,B6,B7]
   subst hQ
   exact .inr ⟨nofun,.inr ⟨rfl,⟨i,hi,by simp only[itF,hit,ha]⟩,by simp[gP],by simp[gP],fun j hj=>(k2 j hj).trans (fr j hj),by simp; omega⟩⟩
  ·have hrl2:=zBv ha
   by_cases hlt:ts.length<100
   ·obtain⟨rfl,hcr⟩:=hx hlt
    simp only[hlt,decide_true] at e
    generalize hQ:(fun (e:Ex) (s':St)=>_)=Q'
    simp only[D.l91_0b]
    simp[c0,c4,c6,c22,c23,hi',hw8,e,-List.map_drop,B6,B7]
    subst hQ
    exact .inl ⟨rfl,hi,by simp[gP],by simp[gP],by simp[gP],by simp[gP],fun j hj=>(k2 j hj).trans (fr j hj),by simp; omega,ts++[t],r',by simp only[itF,hit,ha,if_pos hlt],by simp; omega,by omega,by simp[gP],hcr⟩
   ·simp only[hlt,decide_false] at e
    generalize hQ:(fun (e:Ex) (s':St)=>_)=Q'
    simp only[D.l91_0b]
    simp[c0,c4,c6,c22,c23,hi',hw8,e,B6,B7]
    subst hQ
    exact .inr ⟨nofun,.inr ⟨rfl,⟨i,hi,by simp only[itF,hit,ha,if_neg hlt]⟩,by simp[gP],by simp[gP],fun j hj=>(k2 j hj).trans (fr j hj),by simp; omega⟩⟩
 ·obtain rfl:i=N:=by omega
  generalize hQ:(fun (e:Ex) (s':St)=>_)=Q'
  simp only[D.l91_0b]
  simp[c0,c4,c6,c22,c23,B6,B7]
  subst hQ
  exact .inr ⟨nofun,.inl ⟨rfl,by simp[gP,c0],by simp[gP,c4],by simp[gP,c22],by simp[gP,c23],fr,hn,ts,r,hit,htl,hrl,by simp[gP,c6],hc⟩⟩
def zSW:Th→Prop
 | .int z=>-9223372036854775808≤z∧z≤9223372036854775807
 | .text s=>s.length≤200
 | .bool _=>True
noncomputable def unF (bs:List UInt8):Option (List Th):=
 if bs.length≤6 then none else match itF (bs.drop 7) (bs.getD 6 0).toNat with
  | some (ts,_)=>@ite _ (((∀ t∈ts,thOk t=true)∧(zDl ts).length≤4000)∧zSO (zDl ts)=bs) (Classical.propDecidable _) (some ts) none
  | none=>none
theorem zBu {b r:List UInt8}{t:Th}(h:addF b=some (t,r)) (ho:thOk t=true):zSW t:=by
 cases t with
 | int z=>
  unfold addF at h
  split at h
  ·cases h
  ·split at h
   ·split at h
    ·cases h
     constructor <;> (simp only[IntKind.wrap,IntKind.bits,IntKind.signed]; simp; omega)
    ·cases h
   ·split at h
    ·split at h
     ·cases h
     ·split at h
      ·cases h
      ·cases h
    ·split at h
     ·split at h
      ·cases h
      ·cases h
     ·cases h
 | text s=>exact of_decide_eq_true (p:=s.length≤200) ho
 | bool b=>trivial
theorem zJa {bs:List UInt8}:∀ {k:Nat}{ts:List Th}{r:List UInt8},itF bs k=some (ts,r)→ts.length≤100∧ts.length=k∧∀ t∈ts,thOk t=true→zSW t
 | 0,ts,r,h=>by
  simp only[itF] at h
  cases h
  exact⟨by simp,rfl,fun t ht=>by simp at ht⟩
 | k+1,ts,r,h=>by
  simp only[itF] at h
  split at h
  ·rename_i us q hu
   obtain⟨h1,h2,h3⟩:=zJa hu
   split at h
   ·rename_i t q' ha
    split at h
    ·cases h
     refine⟨by simp; omega,by simp[h2],fun u hu'=>?_⟩
     rcases List.mem_append.1 hu' with hu' | hu'
     ·exact h3 u hu'
     ·simp at hu'
      subst hu'
      exact zBu ha
    ·cases h
   ·cases h
  ·cases h
theorem zSz{ts:List Th}(h:unF bs=some ts):ts.length≤100∧(∀ t∈ts,zSW t)∧(zDl ts).length≤4000∧zSO (zDl ts)=bs:=by
 unfold unF at h
 split at h
 ·cases h
 ·split at h
  ·rename_i us r hu
   split at h
   ·rename_i hq
    cases h
    obtain⟨h1,h2,h3⟩:=zJa hu
    exact⟨h1,fun t ht=>h3 t ht (hq.1.1 t ht),hq.1.2,hq.2⟩
   ·cases h
  ·cases h
variable {x:DV}
theorem zIJ(h:Yw H w n x bs) (hne:bs≠[]):∃ g,frz H.get w x=some (.imm (.lst g 1 (bs.map ivY))):=by
 rcases h with⟨rfl,rfl⟩ | rfl | ⟨id,⟨h1,h2⟩,rfl,h3⟩
 ·exact absurd rfl hne
 ·exact⟨true,rfl⟩
 ·refine⟨false,?_⟩
  have e1:frzI H.get w zH8 (.sl id 0 bs.length bs.length)=some (.lst false 1 (bs.map ivY)):=by
   show (if w≤id then _ else none)=_
   rw[if_pos h1,h3]
   show (if 0+bs.length≤(bs.map rowY).length then _ else none)=_
   rw[if_pos (by simp)]
   show (mapO (mapO (frzI H.get w 3)) (((bs.map rowY).drop 0).take bs.length)).map _=_
   rw[List.drop_zero,List.take_of_length_le (by simp),zLw]
   rfl
  show (if id<w then _ else (frzI H.get w zH8 (.sl id 0 bs.length bs.length)).map DV.imm)=_
  rw[if_neg (by omega),e1]
  rfl
theorem zSP (b:List UInt8):zSO b≠[]:=by
 intro h
 have:=congrArg List.length h
 simp[zSO,zMq] at this
theorem zBw {b r:List UInt8}{t:Th}(h:addF b=some (t,r)):(thB t).length≤300:=by
 cases t with
 | int z=>simp[thB,zMq]
 | bool v=>simp[thB]
 | text s=>
  unfold addF at h
  split at h
  ·cases h
  ·split at h
   ·split at h
    ·cases h
    ·cases h
   ·split at h
    ·split at h
     ·cases h
     ·rename_i l r'
      split at h
      ·cases h
       have:=l.toNat_lt
       simp[thB]
       omega
      ·cases h
    ·split at h
     ·split at h
      ·cases h
      ·cases h
     ·cases h
theorem zJb {bs:List UInt8}:∀ {k:Nat}{ts:List Th}{r:List UInt8},itF bs k=some (ts,r)→∀ t∈ts,(thB t).length≤300
 | 0,ts,r,h=>by
  simp only[itF] at h
  cases h
  intro t ht
  simp at ht
 | k+1,ts,r,h=>by
  simp only[itF] at h
  split at h
  ·rename_i us q hu
   have ih:=zJb hu
   split at h
   ·rename_i t q' ha
    split at h
    ·cases h
     intro u hu'
     rcases List.mem_append.1 hu' with hu' | hu'
     ·exact ih u hu'
     ·simp at hu'
      subst hu'
      exact zBw ha
    ·cases h
   ·cases h
  ·cases h
def UnP (H:PT HB) (n:Nat) (bs:List UInt8) (v:DV) (H':PT HB) (n':Nat):Prop:=n≤n'∧(∀ j,j<n→H'.get j=H.get j)∧((unF bs=none∧∃ u,u≠0∧v=.tup [.imm .nilp,.imm (.int .i64 u)])∨
 ∃ ts a,unF bs=some ts∧v=.tup [.ptr a 0 0,.imm (.int .i64 0)]∧CrAt H' n n' a ts)
theorem zBo{f:Bool}(hlo:lo≤n) (hb:bs.length≤100000) :
  Fe (K (zFj 0 1) (d+6) 91 [.imm (.lst f 1 (bs.map ivY))] H n lo) (UnP H n bs):=by
 rw[kX 91 D.f91 rfl]
 refine zHy rfl ?_
 by_cases h6:bs.length≤6
 ·have i0:ILt 6 (bs.length:Int)=False:=zIz (by omega)
  simp[i0,B6,B7]
  exact⟨Nat.le_refl _,fun _ _=>rfl,.inl ⟨by unfold unF; rw[if_pos h6],2,by omega,rfl⟩⟩
 ·have i0:ILt 6 (bs.length:Int)=True:=zI3 (by omega)
  have hc6:∃ c r,bs.drop 6=c::r∧r=bs.drop 7∧c=bs.getD 6 0:=by
   have e:=List.drop_eq_getElem_cons (l:=bs) (i:=6) (by omega)
   exact⟨_,_,e,rfl,by simp[List.getD_eq_getElem?_getD,List.getElem?_eq_getElem (show 6<bs.length by omega)]⟩
  obtain⟨c,r,hd6,hr,hc⟩:=hc6
  have hrl:r.length≤100000:=by rw[hr]; simp; omega
  have hm6:(bs.map ivY).drop 6=(c::r).map ivY:=by rw[← List.map_drop,hd6]
  obtain⟨v0,Hc,nc,e0,rfl,hnc,hcr,hfc⟩:=zAX (d:=d+4) (H:=H) (n:=n) (lo:=lo)
  have e1:=fun {H n lo}=>zSK (d:=d+4) (H:=H) (n:=n) (lo:=lo) (k:=1) (f:=f) (bs:=c::r) (by simp; omega) (by omega) (by omega) (by simp)
  simp[valY] at e1
  have sl:=fun {h:Nat→Option HB}{n:Nat}=>(show zQ7 h n 1 (.imm (.lst f 1 (bs.map ivY))) (some (.imm (.int .i64 6))) none none=some { v:=.imm (.lst f 1 ((c::r).map ivY)),n':=n } by
   rw[← hm6]
   have ht:(bs.map ivY).take (bs.map ivY).length=bs.map ivY:=List.take_length
   have h7:6≤(bs.map ivY).length:=by simp; omega
   have e6:zCl (.imm (.int .i64 6))=some 6:=by simp[zCl]
   simp only[zQ7,zMF,e6,if_true]
   rw[if_pos ⟨h7,Nat.le_refl _⟩,ht]
   simp)
  have eF:unF bs=match itF r c.toNat with
   | some (ts,_)=>@ite _ (((∀ t∈ts,thOk t=true)∧(zDl ts).length≤4000)∧zSO (zDl ts)=bs) (Classical.propDecidable _) (some ts) none
   | none=>none:=by
   unfold unF
   rw[if_neg h6,← hr,← hc]
  have hcl:=c.toNat_lt
  generalize hes:bs.map ivY=es at *
  have hel:es.length=bs.length:=by rw[← hes]; simp
  simp only[List.map_cons] at sl
  simp[hel,i0,e0,sl,e1,B6,B7]
  refine zLb (d:=d+2) (w:=n) (H0:=H) (a:=n) (N:=c.toNat) (f:=f) (d0:=.imm (.lst f 1 es)) (bs:=r) (lo:=lo) hlo (by omega) ⟨by simp[gP],by simp[gP],by simp[gP],by simp[gP],fun j hj=>hfc j hj,by simp; omega,[],r,rfl,by simp,hrl,by simp[gP],hcr⟩ (fun s' hI=>?_) (fun s' hN f2 f3 fr fn=>?_)
  ·obtain⟨c0,c4,c22,c23,fr,hn,ts,r',hit,htl,hrl',c6,hcr⟩:=hI
   rw[hit] at eF
   simp only at eF
   have hcr0:CrAt s'.H 0 s'.n n ts:=by
    obtain⟨⟨q1,q2⟩,q3⟩:=hcr
    refine⟨⟨Nat.zero_le _,q2⟩,?_⟩
    rcases q3 with q3 | ⟨b,⟨p1,p2⟩,p3⟩
    ·exact .inl q3
    ·exact .inr ⟨b,⟨Nat.zero_le _,p2⟩,p3⟩
   obtain⟨v,H2,n2,e2,k1,k2,k3⟩:=zBM (d:=d) (H:=s'.H) (n:=s'.n) (lo:=s'.n) (Nat.le_refl _) hcr0 htl (zJb hit)
   rcases k3 with⟨nok,rfl⟩ | ⟨okk,x',rfl,hy⟩
   ·have ec:zDz (K (zFj 0 1) (d+5)) .ro 128 [.ptr n 0 0] s'.H s'.n lo=some ⟨.tup [.imm .nils,.imm (.int .i64 1)],s'.H,n2,[.rA]⟩:=by
     rw[zD3,if_pos (by rfl),e2]
     rfl
    simp[c0,c4,c6,c22,c23,ec,B6,B7]
    exact⟨by omega,fr,.inl ⟨by rw[eF]; exact if_neg (fun h=>nok h.1),2,by omega,rfl⟩⟩
   ·obtain⟨g,hg⟩:=zIJ hy (zSP _)
    have ec:zDz (K (zFj 0 1) (d+5)) .ro 128 [.ptr n 0 0] s'.H s'.n lo=some ⟨.tup [.imm (.lst g 1 ((zSO (zDl ts)).map ivY)),.imm (.int .i64 0)],s'.H,n2,[.rA]⟩:=by
     have e9:frz H2.get s'.n (.tup [x',.imm (.int .i64 0)])=some (.tup [.imm (.lst g 1 ((zSO (zDl ts)).map ivY)),.imm (.int .i64 0)]):=by
      simp[frz,frz.frzs,hg]
     rw[zD3,if_pos (by rfl),e2]
     simp only[e9]
     rfl
    have eq:=zHD (d:=d+4) (f:=g) (g:=f) (bs:=zSO (zDl ts)) (cs:=bs)
    rw[hes] at eq
    by_cases hT:zSO (zDl ts)=bs
    ·rw[decide_eq_true hT] at eq
     generalize (zSO (zDl ts)).map ivY=fs at *
     simp[c0,c4,c6,c22,c23,ec,eq,B6,B7]
     exact⟨by omega,fr,.inr ⟨ts,n,by rw[eF]; exact if_pos ⟨okk,hT⟩,rfl,hcr.mono (by omega) (fun _ _=>rfl)⟩⟩
    ·rw[decide_eq_false hT] at eq
     generalize (zSO (zDl ts)).map ivY=fs at *
     simp[c0,c4,c6,c22,c23,ec,eq,B6,B7]
     exact⟨by omega,fr,.inl ⟨by rw[eF]; exact if_neg (fun h=>hT h.2),2,by omega,rfl⟩⟩
  ·rw[hN] at eF
   simp[f2,f3,B6,B7]
   exact⟨by omega,fr,.inl ⟨eF,2,by omega,rfl⟩⟩
theorem zBq:Fe (K (zFj 0 1) (d+6) 91 [.imm .nils] H n lo) (UnP H n []):=by
 rw[kX 91 D.f91 rfl]
 refine zHy rfl ?_
 have i0:ILt 6 0=False:=zIz (by omega)
 simp[i0,B6,B7]
 exact⟨Nat.le_refl _,fun _ _=>rfl,.inl ⟨by unfold unF; rw[if_pos (by simp)],2,by omega,rfl⟩⟩
def Rw (sz:Nat) (H:PT HB) (w n:Nat) (x:DV) (rows:List (List IV)):Prop:=(x=.imm .nils∧rows=[])∨∃ id,(w≤id∧id<n)∧x=.sl id 0 rows.length rows.length∧H.get id=some ⟨sz,rows.map imms⟩
variable {sz:Nat}
theorem Rw.scal{rows:List (List IV)}(h:Rw sz H w n x rows):x.scal=true:=by
 rcases h with⟨rfl,_⟩ | ⟨id,_,rfl,_⟩ <;> rfl
theorem Rw.out{rows:List (List IV)}(h:Rw sz H w n x rows):x.out=true:=by
 rcases h with⟨rfl,_⟩ | ⟨id,_,rfl,_⟩ <;> rfl
theorem Rw.len{rows:List (List IV)}(h:Rw sz H w n x rows):lenOf x=some rows.length:=by
 rcases h with⟨rfl,rfl⟩ | ⟨id,_,rfl,_⟩ <;> simp[lenOf]
variable {bytes:Nat}
theorem zCc{rows:List (List IV)}(hlo:lo≤w) (hwn:w≤n) (h:Rw sz H w n x rows) (hs:0<sz) (hl:rows.length≤100000) (hb:bytes≤100){es:List (List IV)}(he:es≠[]) (hel:es.length≤100000) :
  ∃ x' hw acc,zCK H.get n lo sz bytes x (.imm (.lst true sz es))=some { v:=x',hw:=hw,n':=n+1,acc:=acc }∧Rw sz (putH H hw) w (n+1) x' (rows++es)∧∀ j,j<w→(putH H hw).get j=H.get j:=by
 have hm:20000000≤zCJ:=by unfold zCJ; omega
 have hel0:0<es.length:=List.length_pos_iff.2 he
 rcases h with⟨rfl,rfl⟩ | ⟨id,⟨h1,h2⟩,rfl,h3⟩
 ·have a2:es.length≤zCJ:=by omega
  have a3:es.length*bytes≤zCJ:=by
   have:=Nat.mul_le_mul hel hb
   omega
  have hn0:¬es=[]:=he
  refine⟨.sl n 0 es.length es.length,[(n,some ⟨sz,es.map imms⟩)],[.wX n],by simp[zCK,zRS,zPV,zOS,a2,a3,hs,hn0],.inr ⟨n,by omega,by simp,?_⟩,fun j hj=>?_⟩
  ·simp[putH,gP]
  ·have:¬j=n:=by omega
   simp[putH,gP,this]
 ·have a1:¬rows.length+es.length≤rows.length:=by omega
  have a2:rows.length+es.length≤zCJ:=by omega
  have a3:(rows.length+es.length)*bytes≤zCJ:=by
   have:=Nat.mul_le_mul (show rows.length+es.length≤200000 by omega) hb
   omega
  have hn0:¬es=[]:=he
  have hl0:lo≤id:=by omega
  refine⟨.sl n 0 (rows.length+es.length) (rows.length+es.length),[(id,none),(n,some ⟨sz,rows.map imms++es.map imms⟩)],_,by simp[zCK,zRS,zPV,zOS,h3,a1,a2,a3,hs,hn0,hl0]; rfl,.inr ⟨n,by omega,by simp,?_⟩,fun j hj=>?_⟩
  ·simp[putH,gP]
  ·have b1:¬j=n:=by omega
   have b2:¬j=id:=by omega
   simp[putH,gP,b1,b2]
theorem zIG{rows:List (List IV)}(h:Rw sz H w n x rows):∃ v,frz H.get w x=some (.imm v)∧Sl sz v rows:=by
 rcases h with⟨rfl,rfl⟩ | ⟨id,⟨h1,h2⟩,rfl,h3⟩
 ·exact⟨_,rfl,.inl ⟨rfl,rfl⟩⟩
 ·refine⟨.lst false sz rows,?_,.inr ⟨_,rfl⟩⟩
  have hf:frzI H.get w zH8 (.sl id 0 rows.length rows.length)=some (.lst false sz rows):=by
   show (if w≤id then _ else _)=_
   rw[if_pos h1]
   simp only[h3]
   rw[if_pos (by simp)]
   simp only[List.drop_zero]
   rw[List.take_of_length_le (by simp),zLp]
   rfl
  have hz:frz H.get w (.sl id 0 rows.length rows.length)=if id<w then some (.sl id 0 rows.length rows.length) else (frzI H.get w zH8 (.sl id 0 rows.length rows.length)).map .imm:=rfl
  rw[hz,if_neg (by omega),hf]
  rfl
def bi (b:Bool):Int:=if b then 1 else 0
def of1 (x:Rst):List Int:=[x.mode,x.timer,x.gone,bi x.seen]
def ofF (rs:List Rst):List Int:=rs.flatMap of1
theorem zMz (rs:List Rst):(ofF rs).length=4*rs.length:=by
 induction rs with
 | nil=>rfl
 | cons x rs ih=>simp only[ofF,List.flatMap_cons,List.length_append,of1,List.length_cons,List.length_nil] at *; omega
variable {i:Nat} {rs:List Rst}
theorem zM0(hi:i<rs.length):ofF (rs.take (i+1))=ofF (rs.take i)++of1 (nth rs i):=by
 rw[List.take_add_one,List.getElem?_eq_getElem hi]
 simp only[Option.toList_some,ofF,List.flatMap_append,List.flatMap_cons,List.flatMap_nil,List.append_nil]
 congr 2
 simp[nth,List.getD_eq_getElem?_getD,List.getElem?_eq_getElem hi]
theorem zH2(b:Bool):bl (K DG (d+1)) 190 [.imm (.bool b)]=some (.imm (.int .i64 (bi b))):=by
 refine zDd ?_
 rw[kX 190 D.f190 rfl]
 refine zHy rfl ?_
 cases b <;> simp[bi,B6,B7]
structure IOf (v:IV) (rs:List Rst) (i:Nat) (st:St):Prop where
 c6:st.T.get 6=some (.imm v)
 c7:st.T.get 7=some (.imm (.int .i64 (rs.length:Int)))
 c8:st.T.get 8=some (.imm (.int .i64 (i:Int)))
 c3:∃ x,st.T.get 3=some x∧Rw 1 st.H 0 st.n x ((ofF (rs.take i)).map ivI)
variable {v:IV}
theorem zLI(hv:Sl 4 v (rs.map ivRS)) (hl:rs.length≤1000)(h:IOf v rs 0 st)
  (hk:∀ s',IOf v rs rs.length s'→Bk DG (K DG (d+1)) 0 (.exit 0) ks s' Q):Wp DG (K DG (d+1)) 0 D.l167_0 ks st Q:=by
 refine zGt (N:=rs.length) (zRH (by have:=rb3; omega)) (fun i st=>IOf v rs i st) (fun e s'=>e=.exit 0∧IOf v rs rs.length s') (fun i st hle hI=>?_) h (fun e s' h=>by
  obtain⟨rfl,h⟩:=h
  exact hk s' h)
 obtain⟨c6,c7,c8,x,c3,hx⟩:=hI
 have vs:=hv.scal
 have xs:=hx.scal
 by_cases hi:i<rs.length
 ·have hi1:(i:Int)<rs.length:=by omega
  have hi':=zI3 hi1
  have hw8:IntKind.i64.wrap ((i:Int)+1)=(i:Int)+1:=zTX hi (by have:=rb3; omega)
  have ix:=zIu hv hi1
  simp only[Int.toNat_natCast] at ix
  have sc:=zM0 hi
  have fb:=zH2 (d:=d) (nth rs i).seen
  have ol:=zMz (rs.take i)
  obtain⟨x',hw,acc,a1,a2,a3⟩:=zCc (bytes:=8) (lo:=0) (w:=0) (n:=st.n+1) (H:=st.H) (Nat.le_refl _) (by omega) (show Rw 1 st.H 0 (st.n+1) x _ from by
   rcases hx with hx | ⟨id,⟨p1,p2⟩,p3⟩
   ·exact .inl hx
   ·exact .inr ⟨id,⟨p1,by omega⟩,p3⟩) (by omega) (by simp at ol ⊢; omega) (by omega) (es:=[[.int .i64 (nth rs i).mode],[.int .i64 (nth rs i).timer],[.int .i64 (nth rs i).gone],[.int .i64 (bi (nth rs i).seen)]]) (by simp) (by simp)
  have a2s:=a2.scal
  have fin:Rw 1 (putH st.H hw) 0 (st.n+1+1) x' ((ofF (rs.take (i+1))).map ivI):=by
   rw[sc,List.map_append]
   exact a2
  generalize nth rs i=y at *
  obtain⟨ym,yt,yg,ys⟩:=y
  generalize hQ:(fun (e:Ex) (s':St)=>_)=Q'
  simp only[D.l167_0b]
  simp[c6,c7,c8,c3,vs,xs,hi',hw8,ix,fb,a1,a2s,ivRS,zHH,lay,zS4,zS2,mapO,zPT,imms,B6,B7]
  subst hQ
  exact .inl ⟨rfl,hi,by simp[gP],by simp[gP],by simp[gP],x',by simp[gP],fin⟩
 ·obtain rfl:i=rs.length:=by omega
  generalize hQ:(fun (e:Ex) (s':St)=>_)=Q'
  simp only[D.l167_0b]
  simp[c6,c7,c8,c3,vs,xs,B6,B7]
  subst hQ
  exact .inr ⟨nofun,rfl,by simp[gP,c6],by simp[gP,c7],by simp[gP,c8],x,by simp[gP,c3],hx⟩
theorem zBD(hv:Sl 4 v (rs.map ivRS)) (hl:rs.length≤1000):∃ w,bl (K DG (d+2)) 167 [.imm v]=some (.imm w)∧Sl 1 w ((ofF rs).map ivI):=by
 have key:Fe (K DG (d+1+1) 167 [.imm v] .lf 0 0) (fun x H n=>Rw 1 H 0 n x ((ofF rs).map ivI)):=by
  rw[kX 167 D.f167 rfl]
  refine zHy rfl ?_
  have vl:=hv.len
  simp only[List.length_map] at vl
  have vs:=hv.scal
  simp[vl,vs,B6,B7]
  refine zLI hv hl ⟨by simp[gP],by simp[gP],by simp[gP],.imm .nils,by simp[gP],.inl ⟨rfl,by simp[ofF]⟩⟩ (fun s' hI=>?_)
  obtain⟨c6,c7,c8,x,c3,hx⟩:=hI
  rw[List.take_length] at hx
  have xs:=hx.scal
  have xo:=hx.out
  simp[c6,c7,c8,c3,xs,xo,B6,B7]
  exact hx
 obtain⟨x,H,n,e,hx⟩:=key
 obtain⟨w,h1,h2⟩:=zIG hx
 exact⟨w,zDf e h1,h2⟩
def layT (e c:Int) (rs:List Rst):List Th:=.text [115,116,97,116,101]::((e::c::(rs.length:Int)::ofF rs).map .int)
structure ILy (H0:PT HB) (w a:Nat) (x:DV) (zs:List Int) (i:Nat) (st:St):Prop where
 c7:st.T.get 7=some (.ptr a 0 0)
 c8:st.T.get 8=some (.imm (.bool true))
 c21:st.T.get 21=some x
 c22:st.T.get 22=some (.imm (.int .i64 (zs.length:Int)))
 c23:st.T.get 23=some (.imm (.int .i64 (i:Int)))
 cr:CrAt st.H w st.n a (.text [115,116,97,116,101]::(zs.take i).map .int)
 fr:∀ j,j<w→st.H.get j=H0.get j
 xa:∃ id,(w≤id∧id<st.n∧id≠a)∧x=.sl id 0 zs.length zs.length∧st.H.get id=some ⟨1,zs.map rowI⟩
def CrX (H:PT HB) (a:Nat) (ob:Option Nat) (ts:List Th):Prop:=(H.get a=some ⟨1,[[.imm .nils]]⟩∧ts=[]∧ob=none)∨
 ∃ b,ob=some b∧b≠a∧H.get a=some ⟨1,[[.sl b 0 ts.length ts.length]]⟩∧H.get b=some ⟨1,ts.map rowT⟩
variable {ob:Option Nat}
theorem zAQ{ts:List Th}(hla:lo≤a) (ha:a<n) (hob:∀ b,ob=some b→b<n∧lo≤b) (h:CrX H a ob ts) (hlt:ts.length<100) (t:Th) :
  Fe (K DG (d+1) 174 [.ptr a 0 0,.imm (thI t)] H n lo) (fun v H' n'=>v=.imm (.bool true)∧n≤n'∧(∃ b,n≤b∧b<n'∧CrX H' a (some b) (ts++[t]))∧∀ j,j<n→j≠a→ob≠some j→H'.get j=H.get j):=by
 have hs:=zSX t
 rw[kX 174 D.f174 rfl]
 refine zHy rfl ?_
 rcases h with⟨h1,rfl,rfl⟩ | ⟨b,rfl,hba,h1,h2⟩
 ·have a2:16≤zCJ:=by unfold zCJ; omega
  have a0:1≤zCJ:=by unfold zCJ; omega
  have i0:ILt 0 100=True:=zI3 (by omega)
  have e1:¬a=n:=by omega
  have l3:lo≤n:=by omega
  have e2:¬n=a:=by omega
  simp +contextual [CrX,h1,hs,hla,l3,e1,e2,ha,i0,zHH,lay,zS4,zS2,mapO,zPT,zCK,zRS,zPV,zOS,a0,a2,rowT,B6,B7]
  refine⟨⟨n,by omega,by omega,by simp[e2]⟩,fun j hj h4=>?_⟩
  have h3:¬j=n:=by omega
  simp[h3,h4]
 ·obtain⟨hb,l2⟩:=hob b rfl
  have hab:¬a=b:=fun e=>hba e.symm
  have a1:¬ts.length+1≤ts.length:=by omega
  have a2:ts.length+1≤zCJ:=by unfold zCJ; omega
  have a3:(ts.length+1)*16≤zCJ:=by unfold zCJ; omega
  have e1:¬a=n:=by omega
  have l3:lo≤n:=by omega
  have e2:¬n=a:=by omega
  have e3:¬b=n:=by omega
  have e4:¬n=b:=by omega
  have i0:ILt (ts.length:Int) 100=True:=zI3 (by omega)
  simp +contextual [CrX,h1,h2,hs,hla,l2,l3,hba,hab,e1,e2,e3,e4,ha,hlt,i0,zHH,lay,zS4,zS2,mapO,zPT,zCK,zRS,zPV,zOS,a1,a2,a3,rowT,B6,B7]
  refine⟨⟨n,by omega,by omega,by simp[e2]⟩,fun j hj h4 h5=>?_⟩
  have h3:¬j=n:=by omega
  have h6:¬j=b:=fun e=>h5 e.symm
  simp[h3,h4,h6]
theorem zAU{ts:List Th}(hla:lo≤a) (ha:a<n) (hob:∀ b,ob=some b→b<n∧lo≤b) (h:CrX H a ob ts) (hlt:ts.length<100) (z:Int) :
  Fe (K DG (d+2) 150 [.ptr a 0 0,.imm (.int .i64 z)] H n lo) (fun v H' n'=>v=.imm (.bool true)∧n≤n'∧(∃ b,n≤b∧b<n'∧CrX H' a (some b) (ts++[.int z]))∧∀ j,j<n→j≠a→ob≠some j→H'.get j=H.get j):=by
 obtain⟨v,H',n',e,rfl,r⟩:=zAQ (d:=d) hla ha hob h hlt (.int z)
 simp only[thI] at e
 rw[kX 150 D.f150 rfl]
 refine zHy rfl ?_
 simp[e,B6,B7]
 exact⟨r.1,r.2.1,fun j h1 h2 h3=>r.2.2 j h1 h2 h3⟩
theorem zAZ{ts:List Th}(hla:lo≤a) (ha:a<n) (hob:∀ b,ob=some b→b<n∧lo≤b) (h:CrX H a ob ts) (hlt:ts.length<100) (z:List UInt8) :
  Fe (K DG (d+2) 151 [.ptr a 0 0,.imm (.str z)] H n lo) (fun v H' n'=>v=.imm (.bool true)∧n≤n'∧(∃ b,n≤b∧b<n'∧CrX H' a (some b) (ts++[.text z]))∧∀ j,j<n→j≠a→ob≠some j→H'.get j=H.get j):=by
 obtain⟨v,H',n',e,rfl,r⟩:=zAQ (d:=d) hla ha hob h hlt (.text z)
 simp only[thI] at e
 rw[kX 151 D.f151 rfl]
 refine zHy rfl ?_
 simp[e,B6,B7]
 exact⟨r.1,r.2.1,fun j h1 h2 h3=>r.2.2 j h1 h2 h3⟩
structure ILz (H0:PT HB) (n0 a:Nat) (x:DV) (zs:List Int) (i:Nat) (st:St):Prop where
 c7:st.T.get 7=some (.ptr a 0 0)
 c8:st.T.get 8=some (.imm (.bool true))
 c21:st.T.get 21=some x
 c22:st.T.get 22=some (.imm (.int .i64 (zs.length:Int)))
 c23:st.T.get 23=some (.imm (.int .i64 (i:Int)))
 cr:∃ b,(n0≤b∧b<st.n)∧CrX st.H a (some b) (.text [115,116,97,116,101]::(zs.take i).map .int)∧x≠.sl b 0 zs.length zs.length
 fr:∀ j,j<n0→st.H.get j=H0.get j
 xa:x=.imm (.lst true 1 (zs.map ivI))∨∃ id,(n0≤id∧id<st.n∧id≠a)∧x=.sl id 0 zs.length zs.length∧st.H.get id=some ⟨1,zs.map rowI⟩
 an:n0≤a∧a<st.n
variable {n0:Nat} {zs:List Int}
theorem zK8(hlo:lo≤n0) (hl:zs.length≤99)(h:ILz H0 n0 a x zs 0 st)
  (hk:∀ s',ILz H0 n0 a x zs zs.length s'→Bk DG (K DG (d+2)) lo (.exit 0) ks s' Q):Wp DG (K DG (d+2)) lo D.l142_0 ks st Q:=by
 refine zGt (N:=zs.length) (zRH (by have:=rb3; omega)) (fun i st=>ILz H0 n0 a x zs i st) (fun e s'=>e=.exit 0∧ILz H0 n0 a x zs zs.length s') (fun i st hle hI=>?_) h (fun e s' h=>by
  obtain⟨rfl,h⟩:=h
  exact hk s' h)
 obtain⟨c7,c8,c21,c22,c23,⟨b,⟨b1,b2⟩,cr,xb⟩,fr,xa,an1,an2⟩:=hI
 by_cases hi:i<zs.length
 ·have hi1:(i:Int)<zs.length:=by omega
  have hi':=zI3 hi1
  have hw8:IntKind.i64.wrap ((i:Int)+1)=(i:Int)+1:=zTX hi (by have:=rb3; omega)
  have hL:(Th.text [115,116,97,116,101]::(zs.take i).map Th.int).length<100:=by simp; omega
  have hmt:(zs.take (i+1)).map Th.int=(zs.take i).map Th.int++[.int zs[i]]:=by
   rw[List.take_add_one,List.getElem?_eq_getElem hi,List.map_append]
   rfl
  obtain⟨v,H',n',e,rfl,hn,⟨b',p1,p2,p3⟩,p4⟩:=zAU (d:=d) (lo:=lo) (by omega) an2 (fun c hc=>by cases hc; omega) cr hL zs[i]
  have cr2:CrX H' a (some b') (.text [115,116,97,116,101]::(zs.take (i+1)).map .int):=by
   rw[hmt]
   exact p3
  have fr2:∀ j,j<n0→H'.get j=H0.get j:=fun j hj=>by rw[p4 j (by omega) (by omega) (fun e=>by cases e; omega)]; exact fr j hj
  rcases xa with rfl | ⟨id,⟨i1,i2,i3⟩,rfl,hx⟩
  ·have ix:=fun {h:Nat→Option HB}{n:Nat}=>zIy (h:=h) (n:=n) (v:=.lst true 1 (zs.map ivI)) (xs:=zs) (f:=ivI) (.inr ⟨true,rfl⟩) (by omega) (k:=.i64) (z:=(i:Int)) (by omega) hi1
   simp only[Int.toNat_natCast,nth,List.getD_eq_getElem?_getD,List.getElem?_eq_getElem hi,Option.getD_some] at ix
   generalize hes:zs.map ivI=es at *
   generalize zs[i]=z at *
   generalize hQ:(fun (e:Ex) (s':St)=>_)=Q'
   simp only[D.l142_0b]
   simp[c7,c8,c21,c22,c23,hi',hw8,ix,e,ivI,imms,B6,B7]
   subst hQ
   exact .inl ⟨rfl,hi,by simp[gP],by simp[gP],by simp[gP],by simp[gP],by simp[gP],⟨b',by simp; omega,cr2,fun e=>by cases e⟩,fr2,.inl (by rw[hes]),by simp; omega⟩
  ·have hidb:id≠b:=fun e=>xb (by rw[e])
   have ix:=fun {n:Nat}=>zIs (h:=st.H.get) (n:=n) (id:=id) (row:=0) (len:=zs.length) (cap:=zs.length) hx rfl (k:=.i64) (z:=(i:Int)) (by omega) hi1
   simp only[Int.toNat_natCast,Nat.zero_add] at ix
   have hrow:(zs.map rowI)[i]?=some (rowI (zs[i])):=by rw[List.getElem?_map,List.getElem?_eq_getElem hi]; rfl
   have hx2:H'.get id=some ⟨1,zs.map rowI⟩:=by rw[p4 id i2 i3 (fun e=>by cases e; exact hidb rfl)]; exact hx
   generalize hrows:zs.map rowI=rows at *
   generalize zs[i]=z at *
   generalize hQ:(fun (e:Ex) (s':St)=>_)=Q'
   simp only[D.l142_0b]
   simp[c7,c8,c21,c22,c23,hi',hw8,ix,hx,hrow,e,rowI,B6,B7]
   subst hQ
   exact .inl ⟨rfl,hi,by simp[gP],by simp[gP],by simp[gP],by simp[gP],by simp[gP],⟨b',by simp; omega,cr2,fun e=>by cases e; omega⟩,fr2,.inr ⟨id,by simp; omega,rfl,by simpa [hrows] using hx2⟩,by simp; omega⟩
 ·obtain rfl:i=zs.length:=by omega
  have xs:x.scal=true:=by rcases xa with rfl | ⟨id,_,rfl,_⟩ <;> rfl
  generalize hQ:(fun (e:Ex) (s':St)=>_)=Q'
  simp only[D.l142_0b]
  simp[c7,c8,c21,c22,c23,B6,B7]
  subst hQ
  exact .inr ⟨nofun,rfl,by simp[gP,c7],by simp[gP,c8],by simp[gP,c21],by simp[gP,c22],by simp[gP,c23],⟨b,⟨b1,b2⟩,cr,xb⟩,fr,xa,an1,an2⟩
theorem zAY(hlo:lo≤n):∃ H' n',K DG (d+1) 125 [] H n lo=some (.ptr n 0 0,H',n')∧n'=n+1∧CrX H' n none []∧∀ j,j<n→H'.get j=H.get j:=by
 have key:Fe (K DG (d+1) 125 [] H n lo) (fun v H' n'=>v=.ptr n 0 0∧n'=n+1∧CrX H' n none []∧∀ j,j<n→H'.get j=H.get j):=by
  rw[kX 125 D.f125 rfl]
  refine zHy rfl ?_
  simp +contextual [CrX,hlo,zHG,lay,zS4,zS2,mapO,B6,B7]
  intro j h e
  omega
 obtain⟨v,H',n',e,rfl,r⟩:=key
 exact⟨H',n',e,r⟩
theorem CrX.at {b:Nat}{ts:List Th}(h:CrX H a (some b) ts) (ha:w≤a∧a<n) (hb:w≤b∧b<n):CrAt H w n a ts:=by
 rcases h with⟨_,_,h⟩ | ⟨c,hc,h1,h2,h3⟩
 ·cases h
 ·cases hc
  exact⟨ha,.inr ⟨b,hb,h1,h2,h3⟩⟩
theorem zAr(hlo:lo≤n) (hv:Sl 4 v (rs.map ivRS)) (hl:rs.length≤20) (e c:Int) :
  ∃ H' n',K DG (d+3) 142 [.imm (.int .i64 e),.imm (.int .i64 c),.imm v] H n lo=some (.ptr n 0 0,H',n')∧n≤n'∧CrAt H' n n' n (layT e c rs)∧∀ j,j<n→H'.get j=H.get j:=by
 have vl:=hv.len
 simp only[List.length_map] at vl
 have vs:=hv.scal
 obtain⟨H1,n1,e1,rfl,cx,f1⟩:=zAY (d:=d+1) (H:=H) (n:=n) (lo:=lo) hlo
 obtain⟨v2,H2,n2,e2,rfl,hn2,⟨b,b1,b2,cx2⟩,f2⟩:=zAZ (d:=d) (H:=H1) (n:=n+1) (lo:=lo) hlo (by omega) (fun b hb=>by cases hb) cx (by simp) [115,116,97,116,101]
 obtain⟨w,ew,hw⟩:=zBD (d:=d) hv (by omega)
 obtain⟨zs,hzs⟩:∃ zs:List Int,zs=e::c::(rs.length:Int)::ofF rs:=⟨_,rfl⟩
 have hzl:zs.length=3+4*rs.length:=by rw[hzs]; simp[zMz]; omega
 have key:Fe (K DG (d+2+1) 142 [.imm (.int .i64 e),.imm (.int .i64 c),.imm v] H n lo) (fun v' H' n'=>v'=.ptr n 0 0∧n≤n'∧CrAt H' n n' n (layT e c rs)∧∀ j,j<n→H'.get j=H.get j):=by
  rw[kX 142 D.f142 rfl]
  refine zHy rfl ?_
  have hz3:zs.map ivI=[[.int .i64 e],[.int .i64 c],[.int .i64 (rs.length:Int)]]++(ofF rs).map ivI:=by rw[hzs]; simp[ivI]
  have fin:∀ (x:DV) (s':St),ILz H n n x zs zs.length s'→CrAt s'.H n s'.n n (layT e c rs)∧n≤s'.n∧∀ j,j<n→s'.H.get j=H.get j:=fun x s' hI=>by
   obtain⟨c7,c8,c21,c22,c23,⟨b,⟨b1,b2⟩,cr,xb⟩,fr,xa,an1,an2⟩:=hI
   rw[List.take_length] at cr
   have:layT e c rs=.text [115,116,97,116,101]::zs.map .int:=by rw[hzs]; rfl
   rw[this]
   exact⟨cr.at ⟨an1,an2⟩ ⟨b1,b2⟩,by omega,fr⟩
  have cx2':CrX H2 n (some b) (.text [115,116,97,116,101]::(zs.take 0).map .int):=by simpa using cx2
  have f3:∀ j,j<n→H2.get j=H.get j:=fun j hj=>by rw[f2 j (by omega) (by omega) (fun h=>by cases h),f1 j hj]
  have ws:=hw.scal
  by_cases hr:rs=[]
  ·have hw0:Sl 1 w []:=by rw[hr] at hw; exact hw
   obtain⟨sb,hsrc,_⟩:=zRV hw0 H2.get
   have ha:zCK H2.get n2 lo 1 8 (.imm (.lst true 1 [[.int .i64 e],[.int .i64 c],[.int .i64 (rs.length:Int)]])) (.imm w)=some { v:=.imm (.lst true 1 (zs.map ivI)),n':=n2,acc:=[] }:=by
    rw[hz3,hr]
    simp[zCK,hsrc,zOS,ofF]
   have hle:(zs.map ivI).length=zs.length:=by simp
   generalize hes:zs.map ivI=es at *
   simp[vl,vs,ws,e1,e2,ew,ha,hle,zHH,lay,zS4,zS2,mapO,zPT,imms,B6,B7]
   refine zK8 (n0:=n) (a:=n) (zs:=zs) (x:=.imm (.lst true 1 es)) (H0:=H) hlo (by omega) ⟨by simp[gP],by simp[gP],by simp[gP],by simp[gP],by simp[gP],⟨b,by simp; omega,cx2',fun e=>by cases e⟩,f3,.inl (by rw[hes]),by simp; omega⟩ (fun s' hI=>?_)
   obtain⟨g1,g2,g3⟩:=fin _ s' hI
   obtain⟨c7,c8,c21,c22,c23,_,fr,xa,an1,an2⟩:=hI
   simp[c7,c8,c21,c22,c23,B6,B7]
   exact⟨g2,g1,g3⟩
  ·have hne:(ofF rs).map ivI≠[]:=by
    intro h
    have:=congrArg List.length h
    simp[zMz] at this
    exact hr (List.length_eq_zero_iff.1 (by omega))
   obtain⟨sb,hsrc,hsb⟩:=zRV hw H2.get
   obtain rfl:=hsb hne
   have am:20000000≤zCJ:=by unfold zCJ; omega
   have hol:((ofF rs).map ivI).length≤100:=by simp[zMz]; omega
   have hne2:¬rs=[]:=hr
   have hne3:¬ofF rs=[]:=fun h=>hne (by rw[h]; rfl)
   have hll:3+(ofF rs).length=zs.length:=by rw[hzl,zMz]
   have hpz:0<zs.length:=by omega
   have a1:zs.length≤zCJ:=by omega
   have a2:zs.length*8≤zCJ:=by omega
   have ha:zCK H2.get n2 lo 1 8 (.imm (.lst true 1 [[.int .i64 e],[.int .i64 c],[.int .i64 (rs.length:Int)]])) (.imm w)=some { v:=.sl n2 0 zs.length zs.length,hw:=[(n2,some ⟨1,zs.map rowI⟩)],n':=n2+1,acc:=[.wX n2] }:=by
    have hrow:zs.map rowI=(zs.map ivI).map imms:=by rw[List.map_map]; rfl
    rw[hrow,hz3]
    have ho:3+(ofF rs).length=zs.length:=hll
    simp[zCK,hsrc,zOS,hne3,imms]
    constructor
    ·constructor
     ·omega
     ·omega
    ·omega
   generalize hes:zs.map rowI=es at *
   simp[vl,vs,ws,e1,e2,ew,ha,zHH,lay,zS4,zS2,mapO,zPT,imms,B6,B7]
   have hnb:¬n=n2:=by omega
   have hbb:¬b=n2:=by omega
   refine zK8 (n0:=n) (a:=n) (zs:=zs) (x:=.sl n2 0 zs.length zs.length) (H0:=H) hlo (by omega) ⟨by simp[gP],by simp[gP],by simp[gP],by simp[gP],by simp[gP],⟨b,by simp; omega,?_,fun e=>by cases e; omega⟩,fun j hj=>?_,.inr ⟨n2,by simp; omega,rfl,by simp[gP,hes]⟩,by simp; omega⟩ (fun s' hI=>?_)
   ·rcases cx2' with⟨_,_,h⟩ | ⟨b',h1,h2,h3,h4⟩
    ·cases h
    ·cases h1
     exact .inr ⟨b,rfl,h2,by simp[gP,hnb]; simpa using h3,by simp[gP,hbb]; simpa using h4⟩
   ·have:¬j=n2:=by omega
    simp[gP,this]
    exact f3 j hj
   ·obtain⟨g1,g2,g3⟩:=fin _ s' hI
    obtain⟨c7,c8,c21,c22,c23,_,fr,xa,an1,an2⟩:=hI
    simp[c7,c8,c21,c22,c23,B6,B7]
    exact⟨g2,g1,g3⟩
 obtain⟨v',H',n',e,rfl,r⟩:=key
 exact⟨H',n',e,r⟩
def zJF:List Th→Option (List Int)
 | []=>some []
 | .int z::r=>(zJF r).map (z::·)
 | _::_=>none
theorem zJG {ts:List Th}(h:zJF ts=some zs) (z:Int):zJF (ts++[.int z])=some (zs++[z]):=by
 induction ts generalizing zs with
 | nil=>simp only[zJF] at h; cases h; rfl
 | cons t ts ih=>
  cases t with
  | int y=>
   simp only[zJF,Option.map_eq_some_iff] at h
   obtain⟨ys,h1,rfl⟩:=h
   simp only[List.cons_append,zJF,ih h1]
   rfl
  | text s=>simp[zJF] at h
  | bool s=>simp[zJF] at h
theorem zJJ {ts:List Th}(hi:i<ts.length) (h:∀ z,ts[i]≠.int z):zJF ts=none:=by
 induction ts generalizing i with
 | nil=>simp at hi
 | cons t ts ih=>
  cases t with
  | int y=>
   cases i with
   | zero=>exact absurd rfl (h y)
   | succ i=>
    simp only[zJF]
    rw[ih (i:=i) (by simpa using hi) (fun z=>by simpa using h z)]
    rfl
  | text s=>rfl
  | bool s=>rfl
theorem zJH {ts:List Th}(h:zJF ts=some zs):zs.length=ts.length:=by
 induction ts generalizing zs with
 | nil=>simp only[zJF] at h; cases h; rfl
 | cons t ts ih=>
  cases t with
  | int y=>
   simp only[zJF,Option.map_eq_some_iff] at h
   obtain⟨ys,h1,rfl⟩:=h
   simp[ih h1]
  | text s=>simp[zJF] at h
  | bool s=>simp[zJF] at h
def tkF:List Int→Option (List Rst)
 | m::t::g::s::r=>if s=0∨s=1 then (tkF r).map (⟨m,t,g,s==1⟩::·) else none
 | _=>some []
theorem zR5:∀ zs:List Int,zR2 zs=(tkF zs).map (·.map ivRS)
 | m::t::g::s::r=>by
  have ih:=zR5 r
  simp only[zR2,tkF]
  by_cases h:s=0∨s=1
  ·rw[if_pos h,if_pos h,ih,Option.map_map,Option.map_map]
   rfl
  ·rw[if_neg h,if_neg h]
   rfl
 | []=>rfl
 | [_]=>rfl
 | [_,_]=>rfl
 | [_,_,_]=>rfl
theorem zSk:∀ {zs:List Int}{qs:List Rst},tkF zs=some qs→4*qs.length≤zs.length
 | m::t::g::s::r,qs,h=>by
  simp only[tkF] at h
  split at h
  ·simp only[Option.map_eq_some_iff] at h
   obtain⟨us,h1,rfl⟩:=h
   have:=zSk h1
   simp
   omega
  ·cases h
 | [],qs,h=>by simp only[tkF] at h; cases h; simp
 | [_],qs,h=>by simp only[tkF] at h; cases h; simp
 | [_,_],qs,h=>by simp only[tkF] at h; cases h; simp
 | [_,_,_],qs,h=>by simp only[tkF] at h; cases h; simp
def zOY (ts:List Th):Option (Int×Int×List Rst):=match zJF (ts.drop 1) with
 | none=>none
 | some zs=>match ts with
  | .text s::_=>if s=[115,116,97,116,101]∧3≤zs.length∧(zs.length - 3) % 4=0 then match tkF (zs.drop 3) with
    | some qs=>if nth zs 2=(qs.length:Int) then some (nth zs 0,nth zs 1,qs) else none
    | none=>none
   else none
  | _=>none
structure IRd (H0:PT HB) (w a:Nat) (ts:List Th) (j:Nat) (st:St):Prop where
 c0:st.T.get 0=some (.ptr a 0 0)
 c7:st.T.get 7=some (.imm (.int .i64 ((j+1:Nat):Int)))
 s:∃ x zs,zJF ((ts.drop 1).take j)=some zs∧st.T.get 6=some x∧Rw 1 st.H w st.n x (zs.map ivI)
 fr:∀ i,i<w→st.H.get i=H0.get i
 hn:w≤st.n
theorem zLT{ts:List Th}(hlo:lo≤w) (hc:CrAt H0 0 w a ts) (hl:ts.length≤100)
 (h:IRd H0 w a ts 0 st)
  (hk:∀ s',IRd H0 w a ts (ts.length - 1) s'→Bk DG (K DG (d+3)) lo (.exit 0) ks s' Q)
  (hr:∀ s',zJF (ts.drop 1)=none→s'.T.get 2=some (.imm (.int .i64 0))→s'.T.get 3=some (.imm (.int .i64 0))→s'.T.get 4=some (.imm .nils)→s'.T.get 5=some (.imm (.bool false))→w≤s'.n→Bk DG (K DG (d+3)) lo .ret ks s' Q) :
  Wp DG (K DG (d+3)) lo D.l92_0 ks st Q:=by
 refine zGt (N:=ts.length - 1) (zRH (by have:=rb3; omega)) (fun i st=>IRd H0 w a ts i st) (fun e s'=>(e=.exit 0∧IRd H0 w a ts (ts.length - 1) s')∨(e=.ret∧zJF (ts.drop 1)=none∧s'.T.get 2=some (.imm (.int .i64 0))∧s'.T.get 3=some (.imm (.int .i64 0))∧s'.T.get 4=some (.imm .nils)∧s'.T.get 5=some (.imm (.bool false))∧w≤s'.n)) (fun i st hle hI=>?_) h (fun e s' h=>by
  rcases h with⟨rfl,h⟩ | ⟨rfl,h1,h2,h3,h4,h5,h6⟩
  ·exact hk s' h
  ·exact hr s' h1 h2 h3 h4 h5 h6)
 obtain⟨c0,c7,⟨x,zs,hz,c6,hx⟩,fr,hn⟩:=hI
 have xs:=hx.scal
 have hc1:CrAt st.H 0 st.n a ts:=hc.mono hn fr
 obtain⟨m1,e1,hm1⟩:=zAW (d:=d+1) hc1 lo
 have hc2:CrAt st.H 0 m1 a ts:=hc1.mono hm1 fun _ _=>rfl
 obtain⟨m2,e2,hm2⟩:=zAV (d:=d) hc2 (((i+1:Nat)):Int) lo
 by_cases hi:i<ts.length - 1
 ·have hi1:i+1<ts.length:=by omega
  have hi':ILt (((i+1:Nat)):Int) (ts.length:Int)=True:=zI3 (by omega)
  have hw8:IntKind.i64.wrap (((i+1:Nat):Int)+1)=((i+1+1:Nat):Int):=zTX (n:=ts.length) hi1 (by have:=rb3; omega)
  rw[zCy hi1] at e2
  have htk:(ts.drop 1).take (i+1)=(ts.drop 1).take i++[ts[i+1]]:=by
   rw[List.take_add_one,List.getElem?_drop,Nat.add_comm 1 i,List.getElem?_eq_getElem hi1]
   rfl
  have hnone:(∀ z,ts[i+1]≠.int z)→zJF (ts.drop 1)=none:=fun h=>zJJ (i:=i) (by simp; omega) (fun z=>by
   rw[List.getElem_drop]
   simpa [Nat.add_comm 1 i] using h z)
  have hzl:=zJH hz
  cases ht:ts[i+1] with
  | int z=>
   rw[ht] at e2 htk
   simp only[thI,intOf,Option.getD_some,Option.isSome_some] at e2
   obtain⟨x',hw,acc,a1,a2,a3⟩:=zCc (bytes:=8) (lo:=lo) (w:=w) (n:=m2) (H:=st.H) hlo (by omega) (show Rw 1 st.H w m2 x _ from by
    rcases hx with hx | ⟨id,⟨p1,p2⟩,p3⟩
    ·exact .inl hx
    ·exact .inr ⟨id,⟨p1,by omega⟩,p3⟩) (by omega) (by simp at hzl ⊢; omega) (by omega) (es:=[[.int .i64 z]]) (by simp) (by simp)
   have a2s:=a2.scal
   have a2':Rw 1 (putH st.H hw) w (m2+1) x' ((zs++[z]).map ivI):=by
    rw[List.map_append]
    exact a2
   generalize (((i+1:Nat)):Int)=iz at *
   generalize hQ:(fun (e:Ex) (s':St)=>_)=Q'
   simp only[D.l92_0b]
   simp[c0,c6,c7,xs,hi',hw8,e1,e2,a1,a2s,zHH,lay,zS4,zS2,mapO,zPT,imms,B6,B7]
   subst hQ
   exact .inl ⟨rfl,hi,by simp[gP],by simp[gP],⟨x',zs++[z],by rw[htk]; exact zJG hz z,by simp[gP],a2'⟩,fun j hj=>(a3 j hj).trans (fr j hj),by simp; omega⟩
  | text s=>
   rw[ht] at e2
   simp only[thI,intOf,Option.getD_none,Option.isSome_none] at e2
   have hno:=hnone (fun z=>by rw[ht]; exact nofun)
   generalize (((i+1:Nat)):Int)=iz at *
   generalize hQ:(fun (e:Ex) (s':St)=>_)=Q'
   simp only[D.l92_0b]
   simp[c0,c6,c7,xs,hi',hw8,e1,e2,B6,B7]
   subst hQ
   exact .inr ⟨nofun,.inr ⟨rfl,hno,by simp[gP],by simp[gP],by simp[gP],by simp[gP],by simp; omega⟩⟩
  | bool s=>
   rw[ht] at e2
   simp only[thI,intOf,Option.getD_none,Option.isSome_none] at e2
   have hno:=hnone (fun z=>by rw[ht]; exact nofun)
   generalize (((i+1:Nat)):Int)=iz at *
   generalize hQ:(fun (e:Ex) (s':St)=>_)=Q'
   simp only[D.l92_0b]
   simp[c0,c6,c7,xs,hi',hw8,e1,e2,B6,B7]
   subst hQ
   exact .inr ⟨nofun,.inr ⟨rfl,hno,by simp[gP],by simp[gP],by simp[gP],by simp[gP],by simp; omega⟩⟩
 ·obtain rfl:i=ts.length - 1:=by omega
  have hi':ILt (((ts.length - 1+1:Nat)):Int) (ts.length:Int)=False:=zIz (by omega)
  generalize hiz:(((ts.length - 1+1:Nat)):Int)=iz at c7 hi'
  generalize hQ:(fun (e:Ex) (s':St)=>_)=Q'
  simp only[D.l92_0b]
  simp[c0,c6,c7,xs,hi',e1,B6,B7]
  subst hQ
  exact .inr ⟨nofun,.inl ⟨rfl,by simp[gP,c0],by rw[hiz]; simp[gP,c7],⟨x,zs,hz,by simp[gP,c6],by
   rcases hx with hx | ⟨id,⟨p1,p2⟩,p3⟩
   ·exact .inl hx
   ·exact .inr ⟨id,⟨p1,by simp; omega⟩,p3⟩⟩,fr,by simp; omega⟩⟩
theorem zLt:∀ zs:List Int,mapO zPL (zs.map rowI)=some zs
 | []=>rfl
 | z::zs=>by
  have h:=zLt zs
  simp only[List.map_cons,mapO,h]
  rfl
theorem zPK (zs:List Int):(zs.map ivI).map imms=zs.map rowI:=by
 rw[List.map_map]
 rfl
theorem zR7:(zs.length % 4≠0∧zR6 zs=(.nils,false))∨(zs.length % 4=0∧((tkF zs=none∧zR6 zs=(.nils,false))∨∃ qs v,tkF zs=some qs∧zR6 zs=(v,true)∧Sl 4 v (qs.map ivRS))):=by
 unfold zR6
 by_cases h:zs.length % 4≠0
 ·exact .inl ⟨h,if_pos h⟩
 ·refine .inr ⟨by omega,?_⟩
  rw[if_neg h,zR5]
  cases htk:tkF zs with
  | none=>exact .inl ⟨rfl,rfl⟩
  | some qs=>
   refine .inr ⟨qs,?_⟩
   cases qs with
   | nil=>exact⟨.nils,rfl,rfl,.inl ⟨rfl,rfl⟩⟩
   | cons q qs=>exact⟨_,rfl,rfl,.inr ⟨false,rfl⟩⟩
theorem zBh{w:Option Nat}(hx:zPV H.get x=some (w,1,zs.map rowI)∨(zs=[]∧∃ s sz,zPV H.get x=some (s,sz,[]))) (ho:x.out=true) (hl:zs.length≤1000) :
  zDz (K DG (d+1)) .ro 133 [x] H n lo=some ⟨.tup [.imm (zR6 zs).1,.imm (.bool (zR6 zs).2)],H,n,[.rA]⟩:=by
 have e:K DG (d+1) 133 [x] H n n=some (.tup [.imm (zR6 zs).1,.imm (.bool (zR6 zs).2)],H,n):=by
  rw[D.k133]
  show zOD [x] H n n=_
  unfold zOD
  rcases hx with hx | ⟨rfl,s,sz,hx⟩
  ·simp only[hx,zLt]
   rw[if_pos ⟨.inl trivial,by omega⟩]
  ·simp only[hx,mapO]
   rw[if_pos ⟨.inr trivial,by simp⟩]
 rw[zD3,if_pos (by simp[DV.out.outs,ho]),e]
 rfl
def RdP (ts:List Th) (v:DV):Prop:=(zOY ts=none∧v=.tup [.imm (.int .i64 0),.imm (.int .i64 0),.imm .nils,.imm (.bool false)])∨
 ∃ e c qs u,zOY ts=some (e,c,qs)∧v=.tup [.imm (.int .i64 e),.imm (.int .i64 c),.imm u,.imm (.bool true)]∧Sl 4 u (qs.map ivRS)
theorem zBR{ts:List Th}(hc:CrAt H 0 n a ts) (hl:ts.length≤100) :
  Fe (K DG (d+4) 92 [.ptr a 0 0] H n n) (fun v _ n'=>n≤n'∧RdP ts v):=by
 rw[kX 92 D.f92 rfl]
 refine zHy rfl ?_
 simp[B6,B7]
 refine zLT (w:=n) (H0:=H) (ts:=ts) (Nat.le_refl _) hc hl ⟨by simp[gP],by simp[gP],⟨.imm .nils,[],by simp[zJF],by simp[gP],.inl ⟨rfl,rfl⟩⟩,fun _ _=>rfl,by simp⟩ (fun s' hI=>?_) (fun s' h1 h2 h3 h4 h5 h6=>?_)
 ·obtain⟨c0,c7,⟨x,zs,hz,c6,hx⟩,fr,hn⟩:=hI
  have hz':zJF (ts.drop 1)=some zs:=by
   rw[List.take_of_length_le (by simp)] at hz
   exact hz
  have hzl:=zJH hz'
  simp only[List.length_drop] at hzl
  have hc1:CrAt s'.H 0 s'.n a ts:=hc.mono hn fr
  obtain⟨m1,e1,hm1⟩:=zAa (d:=d) hc1 0 n
  have xs:=hx.scal
  have xl:=hx.len
  simp only[List.length_map] at xl
  have er:∀ r,zOY ts=r→zOY ts=r:=fun _ h=>h
  cases ts with
  | nil=>
   have eF:zOY []=none:=rfl
   have e0:atI [] 0=.nili:=rfl
   rw[e0] at e1
   simp only[zSV,Option.getD_none,Option.isSome_none] at e1
   simp[c0,c6,xs,xl,e1,B6,B7]
   exact⟨by omega,.inl ⟨eF,rfl⟩⟩
  | cons t r=>
   have e0:atI (t::r) 0=thI t:=zCy (ts:=t::r) (i:=0) (by simp)
   rw[e0] at e1
   simp only[List.drop_succ_cons,List.drop_zero] at hz'
   cases t with
   | int z=>
    have eF:zOY (.int z::r)=none:=by unfold zOY; simp only[List.drop_succ_cons,List.drop_zero,hz']
    simp only[thI,zSV,Option.getD_none,Option.isSome_none] at e1
    simp[c0,c6,xs,xl,e1,B6,B7]
    exact⟨by omega,.inl ⟨eF,rfl⟩⟩
   | bool z=>
    have eF:zOY (.bool z::r)=none:=by unfold zOY; simp only[List.drop_succ_cons,List.drop_zero,hz']
    simp only[thI,zSV,Option.getD_none,Option.isSome_none] at e1
    simp[c0,c6,xs,xl,e1,B6,B7]
    exact⟨by omega,.inl ⟨eF,rfl⟩⟩
   | text s=>
    simp only[thI,zSV,Option.getD_some,Option.isSome_some] at e1
    have eF:zOY (.text s::r)=if s=[115,116,97,116,101]∧3≤zs.length∧(zs.length - 3) % 4=0 then match tkF (zs.drop 3) with
      | some qs=>if nth zs 2=(qs.length:Int) then some (nth zs 0,nth zs 1,qs) else none
      | none=>none
     else none:=by unfold zOY; simp only[List.drop_succ_cons,List.drop_zero,hz']
    by_cases hs:s=[115,116,97,116,101]
    ·by_cases h3:3≤zs.length
     ·have i0:ILt (zs.length:Int) 3=False:=zIz (by omega)
      rcases hx with⟨_,h0⟩ | ⟨id,⟨p1,p2⟩,rfl,p3⟩
      ·have:=congrArg List.length h0
       simp at this
       subst this
       simp at h3
      ·simp only[List.length_map,zPK] at p3 c6 xs xl
       have hdl:(zs.drop 3).length≤1000:=by rw[List.length_drop]; omega
       have tp:=zR7 (zs:=zs.drop 3)
       simp only[List.length_drop] at tp
       have g0:(zs.map rowI)[0]?=some (rowI (nth zs 0)):=by rw[List.getElem?_map,zMh (by omega)]; rfl
       have g1:(zs.map rowI)[1]?=some (rowI (nth zs 1)):=by rw[List.getElem?_map,zMh (by omega)]; rfl
       have g2:(zs.map rowI)[2]?=some (rowI (nth zs 2)):=by rw[List.getElem?_map,zMh (by omega)]; rfl
       have ix:=fun {n:Nat}{k:Nat}(hk:k<zs.length)=>zIs (h:=s'.H.get) (n:=n) (id:=id) (row:=0) (len:=zs.length) (cap:=zs.length) p3 rfl (k:=.i64) (z:=(k:Int)) (by omega) (by omega)
       have i1:=fun {n:Nat}=>ix (n:=n) (k:=0) (by omega)
       have i2:=fun {n:Nat}=>ix (n:=n) (k:=1) (by omega)
       have i3:=fun {n:Nat}=>ix (n:=n) (k:=2) (by omega)
       simp at i1 i2 i3
       obtain⟨y,acc,hsl,ys,tk⟩:∃ y acc,(∀ n,zQ7 s'.H.get n 1 (.sl id 0 zs.length zs.length) (some (.imm (.int .i64 3))) none none=some { v:=y,n':=n,acc:=acc })∧y.scal=true∧∀ {n lo:Nat},zDz (K DG (d+3)) .ro 133 [y] s'.H n lo=some ⟨.tup [.imm (zR6 (zs.drop 3)).1,.imm (.bool (zR6 (zs.drop 3)).2)],s'.H,n,[.rA]⟩:=by
        have e6:zCl (.imm (.int .i64 3))=some 3:=by simp[zCl]
        by_cases h4:3<zs.length
        ·refine⟨.sl id 3 (zs.length - 3) (zs.length - 3),[.rX id],fun n=>?_,rfl,fun {n lo}=>zBh (d:=d+2) (w:=some id) (.inl ?_) rfl hdl⟩
         ·simp only[zQ7,zMF,e6,p3,if_true]
          rw[if_pos ⟨h3,Nat.le_refl _,Nat.le_refl _⟩,if_neg (by omega),if_pos h4]
         ·simp only[zPV,p3]
          have:3+(zs.length - 3)≤(zs.map rowI).length:=by simp; omega
          rw[if_pos this]
          congr 3
          rw[List.take_of_length_le (by simp),List.map_drop]
        ·have hz0:zs.drop 3=[]:=List.drop_eq_nil_of_le (by omega)
         refine⟨.imm (.lst false 1 []),[],fun n=>?_,rfl,fun {n lo}=>zBh (d:=d+2) (w:=none) (.inr ⟨hz0,none,1,rfl⟩) rfl hdl⟩
         simp only[zQ7,zMF,e6,p3,if_true]
         rw[if_pos ⟨h3,Nat.le_refl _,Nat.le_refl _⟩,if_neg (by omega),if_neg h4]
       rcases tp with⟨t1,t2⟩ | ⟨t1,⟨t2,t3⟩ | ⟨qs,v,t2,t3,t4⟩⟩
       ·rw[if_neg (fun h=>t1 h.2.2)] at eF
        rw[t2] at tk
        simp only at tk
        generalize zs.map rowI=rows at *
        simp[c0,c6,xs,xl,e1,hs,i0,hsl,ys,tk,B6,B7]
        exact⟨by omega,.inl ⟨hs▸eF,rfl⟩⟩
       ·rw[if_pos ⟨hs,h3,t1⟩,t2] at eF
        rw[t3] at tk
        simp only at tk
        generalize zs.map rowI=rows at *
        simp[c0,c6,xs,xl,e1,hs,i0,hsl,ys,tk,B6,B7]
        exact⟨by omega,.inl ⟨hs▸eF,rfl⟩⟩
       ·rw[if_pos ⟨hs,h3,t1⟩,t2] at eF
        rw[t3] at tk
        simp only at tk eF
        have vs:=t4.scal
        have vl:=t4.len
        simp only[List.length_map] at vl
        generalize zs.map rowI=rows at *
        by_cases hq:nth zs 2=(qs.length:Int)
        ·rw[if_pos hq] at eF
         simp[c0,c6,xs,xl,e1,hs,i0,hsl,ys,tk,vs,vl,i1,i2,i3,p3,g0,g1,g2,rowI,hq,B6,B7]
         exact⟨by omega,.inr ⟨_,_,qs,v,hs▸eF,rfl,t4⟩⟩
        ·rw[if_neg hq] at eF
         simp[c0,c6,xs,xl,e1,hs,i0,hsl,ys,tk,vs,vl,i1,i2,i3,p3,g0,g1,g2,rowI,hq,B6,B7]
         exact⟨by omega,.inl ⟨hs▸eF,rfl⟩⟩
     ·have i0:ILt (zs.length:Int) 3=True:=zI3 (by omega)
      rw[if_neg (fun h=>h3 h.2.1)] at eF
      simp[c0,c6,xs,xl,e1,hs,i0,B6,B7]
      exact⟨by omega,.inl ⟨hs▸eF,rfl⟩⟩
    ·rw[if_neg (fun h=>hs h.1)] at eF
     simp[c0,c6,xs,xl,e1,hs,B6,B7]
     exact⟨by omega,.inl ⟨eF,rfl⟩⟩
 ·have eF:zOY ts=none:=by unfold zOY; rw[h1]
  simp[h2,h3,h4,h5,B6,B7]
  exact⟨h6,.inl ⟨eF,rfl⟩⟩
theorem zBS{ts:List Th}(hc:CrAt H 0 n a ts) (hl:ts.length≤100) :
  ∃ v m,zDz (K DG (d+4)) .ro 92 [.ptr a 0 0] H n lo=some ⟨v,H,m,[.rA]⟩∧n≤m∧RdP ts v:=by
 obtain⟨v,H',n',e,hn,hv⟩:=zBR (d:=d) hc hl
 refine⟨v,n',?_,hn,hv⟩
 rw[zD3,if_pos (by rfl),e]
 rcases hv with⟨_,rfl⟩ | ⟨_,_,_,_,_,rfl,_⟩ <;> rfl
def newU (l:Lo):US:=⟨rep0 l,0,0,false,none,2,0,0,0⟩
variable {Z:Nat→Prop} {l:Lo}
theorem zBB(hd:2≤d)(ok:LoOk l) (is:ISL l) (e0:bl (K DG d) 78 [l.dv]=some (.imm (.bool true))) (H:PT HB) (n:Nat) (hz:∀ j,n≤j→Z j) :
  ∃ a l' H' n',K DG (d+2) 41 [l.dv] H n 0=some (.tup [.ptr a 0 0,.imm (.int .i64 0)],H',n')∧n≤n'∧LoOk l'∧LoEq l l'∧UI Z l' H' n' a (newU l')∧(n≤a∧a<n')∧∀ j,j<n→H'.get j=H.get j:=by
 obtain⟨v1,H1,n1,e1,p,own,l',rfl,ok',eq,lk,ho,f1⟩:=zAs (d:=d) hd ok is e0 H (n+1)
 obtain⟨n2,H2,e2,rfl,f2⟩:=zKA (d:=d) (H:=H1) (n:=n1) (lo:=0) (by omega)
 have hp:=ho p (by simp)
 have hn1:n+1≤n1:=by omega
 have key:Fe (K DG (d+1+1) 41 [l.dv] H n 0) (fun v H' n'=>v=.tup [.ptr (n1+1) 0 0,.imm (.int .i64 0)]∧n'=n1+2∧H'=H2.put (n1+1) (some (rowU p n1 (.imm .nilp) 2 0 0 0))):=by
  rw[kX 41 D.f41 rfl]
  refine zHy rfl ?_
  simp[ok.sc,e1,e2,rowU,zHG,lay,zS4,zS2,mapO,B6,B7]
 obtain⟨v,H',n',e,rfl,rfl,rfl⟩:=key
 refine⟨n1+1,l',_,_,e,by omega,ok',eq,⟨p,n1,own,.imm .nilp,?_⟩,by omega,fun j hj=>?_⟩
 ·have hl:rep0 l'=List.replicate l.rts.length rs0:=by unfold rep0; rw[eq.len]
  have hg:∀ j,j<n1→(H2.put (n1+1) (some (rowU p n1 (.imm .nilp) 2 0 0 0))).get j=H1.get j:=fun j hj=>by
   have b1:¬j=n1:=by omega
   have b2:¬j=n1+1:=by omega
   rw[f2]
   simp[gP,b1,b2]
  refine⟨by simp[gP,newU],?_,by rw[f2]; simp[gP,newU],rfl,by omega,by omega,by omega,fun h=>by have:=ho (n1+1) (by simp[h]); omega,fun h=>by have:=ho n1 (by simp[h]); omega,fun j hj=>?_⟩
  ·show LkAt _ p own l' (rep0 l')
   rw[hl]
   exact lk.mono fun i hi=>hg i (ho i hi).2
  ·simp at hj
   rcases hj with rfl | rfl | rfl | hj
   ·exact⟨by omega,hz _ (by omega)⟩
   ·exact⟨by omega,hz _ (by omega)⟩
   ·exact⟨by omega,hz _ (by omega)⟩
   ·have:=ho j (by simp[hj])
    exact⟨by omega,hz _ (by omega)⟩
 ·have b1:¬j=n1:=by omega
  have b2:¬j=n1+1:=by omega
  rw[f2]
  simp[gP,b1,b2]
  exact f1 j (by omega)
theorem zBA(hd:6≤d)(ok:LoOk l) (is:ISL l) (H:PT HB) (n:Nat) (hz:∀ j,n≤j→Z j) :
  ∃ a l' H' n',K DG (d+2) 41 [l.dv] H n 0=some (.tup [.ptr a 0 0,.imm (.int .i64 0)],H',n')∧n≤n'∧LoOk l'∧LoEq l l'∧UI Z l' H' n' a (newU l')∧(n≤a∧a<n')∧∀ j,j<n→H'.get j=H.get j:=by
 have e1:=zAp (D:=d) (by omega) ok
 rw[zFd is] at e1
 exact zBB (by omega) ok is e1 H n hz
theorem zJ5 (e c:Int)(hl:rs.length≤20):(layT e c rs).length≤100∧(∀ t∈layT e c rs,(thB t).length≤300)∧(∀ t∈layT e c rs,thOk t=true)∧(zDl (layT e c rs)).length≤4000:=by
 have h1:(layT e c rs).length≤100:=by simp[layT,zMz]; omega
 have h2:∀ t∈layT e c rs,(thB t).length≤9:=fun t ht=>by
  simp only[layT,List.mem_cons,List.mem_map] at ht
  rcases ht with rfl | ⟨z,_,rfl⟩
  ·decide
  ·simp[thB,zMq]
 refine⟨h1,fun t ht=>by have:=h2 t ht; omega,fun t ht=>?_,?_⟩
 ·simp only[layT,List.mem_cons,List.mem_map] at ht
  rcases ht with rfl | ⟨z,_,rfl⟩ <;> rfl
 ·have:(thsB (layT e c rs)).length≤9*(layT e c rs).length:=by
   generalize layT e c rs=ts at h2
   clear h1
   induction ts with
   | nil=>simp[thsB]
   | cons t ts ih=>
    have q1:=h2 t (by simp)
    have q2:=ih fun u hu=>h2 u (by simp[hu])
    simp only[thsB,List.flatMap_cons,List.length_append,List.length_cons] at *
    omega
  simp only[zDl,List.length_cons]
  omega
noncomputable def zQc (u:US):List UInt8:=if u.mode=3 then zSO (zDl (layT u.ep u.count u.rs)) else []
variable {m p q:Nat} {own:List Nat} {u:US}
theorem zBY(h:UAt Z l H n a p q own x u) (hl:u.rs.length≤20)(hm:n≤m) :
  ∃ w k,zDz (K DG (d+6)) .ro 106 [.ptr a 0 0] H m lo=some ⟨.imm w,H,k,[.rA]⟩∧m≤k∧Sl 1 w ((zQc u).map ivY):=by
 have hb:=h.blk
 simp only[rowU] at hb
 have xs:=h.xs.1
 unfold zQc
 by_cases h3:u.mode=3
 ·rw[if_pos h3]
  obtain⟨k1,e1,hk1⟩:=zJ7 h.le (d:=d+4) (n:=m) (lo:=m)
  obtain⟨w2,k2,e2,hk2,hw2⟩:=zBU (d:=d+4) (by omega) (show u.rs.length≤1000 by omega) h.lk (n:=k1) (lo:=m)
  obtain⟨H3,n3,e3,hn3,hc3,f3⟩:=zAr (d:=d+2) (H:=H) (n:=k2) (lo:=m) (by omega) hw2 hl u.ep u.count
  obtain⟨l1,l2,l3,l4⟩:=zJ5 u.ep u.count hl
  have hc3':CrAt H3 0 n3 k2 (layT u.ep u.count u.rs):=by
   obtain⟨⟨q1,q2⟩,q3⟩:=hc3
   refine⟨⟨Nat.zero_le _,q2⟩,?_⟩
   rcases q3 with q3 | ⟨b,⟨p1,p2⟩,p3⟩
   ·exact .inl q3
   ·exact .inr ⟨b,⟨Nat.zero_le _,p2⟩,p3⟩
  obtain⟨v4,H4,n4,e4,hn4,f4,hv4⟩:=zBM (d:=d) (lo:=n3) (Nat.le_refl _) hc3' l1 l2
  rcases hv4 with⟨no,_⟩ | ⟨_,y,rfl,hy⟩
  ·exact absurd ⟨l3,l4⟩ no
  obtain⟨g,hg⟩:=zIJ hy (zSP _)
  have ec:zDz (K DG (d+5)) .ro 128 [.ptr k2 0 0] H3 n3 m=some ⟨.tup [.imm (.lst g 1 ((zSO (zDl (layT u.ep u.count u.rs))).map ivY)),.imm (.int .i64 0)],H3,n4,[.rA]⟩:=by
   have e9:frz H4.get n3 (.tup [y,.imm (.int .i64 0)])=some (.tup [.imm (.lst g 1 ((zSO (zDl (layT u.ep u.count u.rs))).map ivY)),.imm (.int .i64 0)]):=by
    simp[frz,frz.frzs,hg]
   rw[zD3,if_pos (by rfl),e4]
   simp only[e9]
   rfl
  have w2s:=hw2.scal
  have key:Fe (K DG (d+5+1) 106 [.ptr a 0 0] H m m) (fun v' H' n'=>m≤n'∧v'=.imm (.lst g 1 ((zSO (zDl (layT u.ep u.count u.rs))).map ivY))):=by
   generalize (zSO (zDl (layT u.ep u.count u.rs))).map ivY=es at *
   rw[kX 106 D.f106 rfl]
   refine zHy rfl ?_
   rw[h3] at hb
   simp[hb,xs,e1,e2,w2s,e3,ec,B6,B7]
   omega
  obtain⟨k,e,hk⟩:=zO8 (lo:=lo) (by rfl) key
  exact⟨_,k,e,hk,.inr ⟨g,rfl⟩⟩
 ·rw[if_neg h3]
  have key:Fe (K DG (d+5+1) 106 [.ptr a 0 0] H m m) (fun v' H' n'=>m≤n'∧v'=.imm .nils):=by
   rw[kX 106 D.f106 rfl]
   refine zHy rfl ?_
   simp[hb,xs,h3,B6,B7]
  obtain⟨k,e,hk⟩:=zO8 (lo:=lo) (by rfl) key
  exact⟨_,k,e,hk,.inl ⟨rfl,rfl⟩⟩
open Classical in
noncomputable def zIh (l:Lo) (u:US) (bs:List UInt8):US:=if u.mode≠2 then u else match unF bs with
 | none=>u
 | some ts=>match zOY ts with
  | none=>u
  | some (e,c,qs)=>if OldP u e c then u else if INV l qs then ⟨u.rs,u.ep,u.en,u.gr,some (e,c,qs),u.mode,u.tick,u.count,u.left⟩ else u
theorem zBn{w:IV}(hlo:lo≤n) (hw:Sl 1 w (bs.map ivY)) (hb:bs.length≤100000) :
  Fe (K DG (d+6) 91 [.imm w] H n lo) (UnP H n bs):=by
 rcases hw with⟨rfl,h⟩ | ⟨f,rfl⟩
 ·obtain rfl:bs=[]:=by simpa using h
  exact zBq
 ·exact zBo hlo hb
theorem zBp{y:DV}{w:IV}(hy:snap H.get y=some (.imm w)) (hw:Sl 1 w (bs.map ivY)) (hb:bs.length≤100000) :
  ∃ v H' n',zDz (K DG (d+6)) .new 91 [y] H n lo=some ⟨v,H',n',[.wA]⟩∧UnP H n bs v H' n':=by
 obtain⟨v,H1,n1,e,hn,f,hv⟩:=zBn (d:=d) (H:=.lf) (n:=n) (lo:=n) (Nat.le_refl _) hw hb
 have hs:snap.snaps H.get [y]=some [.imm w]:=by simp[snap.snaps,hy]
 have tm:v.tame=true:=by rcases hv with⟨_,u,_,rfl⟩ | ⟨ts,a,_,rfl,_⟩ <;> rfl
 refine⟨v,kept H H1 n (n1 - n),n1,?_,hn,fun j hj=>?_,?_⟩
 ·simp only[zDz,hs,e,tm,if_true]
 ·rw[zJn,if_neg (by omega)]
 ·rcases hv with h | ⟨ts,a,hu,rfl,⟨⟨a1,a2⟩,hc⟩⟩
  ·exact .inl h
  ·refine .inr ⟨ts,a,hu,rfl,⟨a1,a2⟩,?_⟩
   have g:∀ {j hb},n≤j→j<n1→H1.get j=some hb→hb.tame=true→(kept H H1 n (n1 - n)).get j=some hb:=fun h1 h2 h3 h4=>by
    rw[zJn,if_pos (And.intro h1 (And.intro (by omega) ⟨_,h3,h4⟩))]
    exact h3
   rcases hc with⟨h1,rfl⟩ | ⟨b,⟨b1,b2⟩,hb,h1,h2⟩
   ·exact .inl ⟨g a1 a2 h1 rfl,rfl⟩
   ·exact .inr ⟨b,⟨b1,b2⟩,hb,g a1 a2 h1 rfl,g b1 b2 h2 (List.all_eq_true.2 fun r hr=>by
     obtain⟨t,_,rfl⟩:=List.mem_map.1 hr
     cases t <;> rfl)⟩
theorem zAk(ok:LoOk l) (is:ISL l) (h:UI Z l H n a u) (hz:∀ j,n≤j→Z j) (inv:INV l u.rs){y:DV}{w:IV}(ws:y.scal=true) (hy:snap H.get y=some (.imm w)) (hw:Sl 1 w (bs.map ivY)) (hbl:bs.length≤100000) :
  ∃ v H' n',K DG (d+12) 49 [.ptr a 0 0,y] H n 0=some (v,H',n')∧UR Z l H n a (zIh l u bs) H' n':=by
 obtain⟨p,q,own,x,h⟩:=h
 have hb:=h.blk
 have xs:=h.xs.1
 have la:=h.lt a (by simp)
 have lp:=h.lt p (by simp)
 have r6:=is.r2
 have hrl:=inv.ln
 simp only[rowU] at hb
 refine (fun (hq:Fe (K DG (d+11+1) 49 [.ptr a 0 0,y] H n 0) fun _ H' n'=>UR Z l H n a (zIh l u bs) H' n')=>by
  obtain⟨v',H',n',e,r⟩:=hq
  exact⟨v',H',n',e,r⟩) ?_
 rw[kX 49 D.f49 rfl]
 refine zHy rfl ?_
 unfold zIh
 by_cases h2:u.mode=2
 ·rw[if_neg (by simp[h2])]
  obtain⟨v1,H1,n1,e1,hn1,f1,hv1⟩:=zBp (d:=d+5) (H:=H) (n:=n) (lo:=0) hy hw hbl
  have keep:∀ H' n',n≤n'→(∀ j,j<n→H'.get j=H.get j)→UR Z l H n a u H' n':=fun H' n' hn hf=>⟨hn,⟨p,q,own,x,h.mono hn (fun _ _ h=>h) fun j hj _=>hf j hj⟩,fun j hj _=>hf j hj⟩
  have hb':=hb
  rw[h2] at hb
  rcases hv1 with⟨hu,er,her,rfl⟩ | ⟨ts,c1,hu,rfl,hcr⟩
  ·rw[hu]
   simp[hb,xs,ws,e1,her,B6,B7]
   exact keep _ _ (by omega) f1
  ·rw[hu]
   simp only
   obtain⟨tl,_⟩:=zSz hu
   have hcr0:CrAt H1 0 n1 c1 ts:=by
    obtain⟨⟨q1,q2⟩,q3⟩:=hcr
    refine⟨⟨Nat.zero_le _,q2⟩,?_⟩
    rcases q3 with q3 | ⟨b,⟨p1,p2⟩,p3⟩
    ·exact .inl q3
    ·exact .inr ⟨b,⟨Nat.zero_le _,p2⟩,p3⟩
   obtain⟨v2,m,e2,hm,hv2⟩:=zBS (d:=d+7) (lo:=0) hcr0 tl
   rcases hv2 with⟨hr,rfl⟩ | ⟨ep,ct,qs,lw,hr,rfl,hlw⟩
   ·rw[hr]
    simp[hb,xs,ws,e1,e2,zHG,lay,zS4,zS2,mapO,B6,B7]
    exact keep _ _ (by omega) fun j hj=>by
     have:¬j=m:=by omega
     simp[gP,this]
     exact f1 j hj
   ·rw[hr]
    simp only
    have lws:=hlw.scal
    obtain⟨HB,hHB⟩:∃ HB,HB=(H1.put m (some ⟨3,[[.imm (.int .i64 0),.imm (.int .i64 0),.imm .nils]]⟩)).put m (some ⟨3,[[.imm (.int .i64 ep),.imm (.int .i64 ct),.imm lw]]⟩):=⟨_,rfl⟩
    have gm:HB.get m=some ⟨3,[[.imm (.int .i64 ep),.imm (.int .i64 ct),.imm lw]]⟩:=by rw[hHB]; simp[gP]
    have gB:∀ j,j<n→HB.get j=H.get j:=fun j hj=>by
     have:¬j=m:=by omega
     rw[hHB]
     simp[gP,this]
     exact f1 j hj
    have hB:UAt Z l HB (m+1) a p q own x u:=h.mono (by omega) (fun _ _ h=>h) fun j hj _=>gB j hj
    have hbB:=hB.blk
    simp only[rowU] at hbB
    rw[h2] at hbB
    obtain⟨k3,e3,hk3⟩:=zJU hB ep ct lws (d:=d+10) (m:=m+1) (lo:=0) (Nat.le_refl _)
    by_cases ho:OldP u ep ct
    ·rw[if_pos ho]
     rw[zFd ho] at e3
     simp[hb,xs,ws,lws,e1,e2,← hHB,gm,hbB,e3,zHG,lay,zS4,zS2,mapO,B6,B7]
     exact keep _ _ (by omega) gB
    ·rw[if_neg ho]
     rw[zFX ho] at e3
     obtain⟨w4,k4,e4,hk4,hw4⟩:=zBU (d:=d+10) (by omega) (show u.rs.length≤1000 by omega) hB.lk (n:=k3) (lo:=0)
     have w4s:=hw4.scal
     by_cases iq:INV l qs
     ·rw[if_pos iq]
      have hql:=iq.ln
      obtain⟨H5,n5,own5,e5,hn5,hu5,f5,ho5⟩:=UAt.set (d:=d+10) (by omega) ok is hB (fun j hj=>hz j (by omega)) hlw (by have:=rb3; omega) (m:=k4) (by omega)
      rw[zFd iq] at e5 hu5
      have hb5:=hu5.blk
      simp only[rowU,cond_true] at hb5
      rw[h2] at hb5
      obtain⟨H6,hH6⟩:∃ H6,H6=H5.put a (some ⟨7,[[.ptr p 0 0,.ptr q 0 0,.ptr m 0 0,.imm (.int .i64 2),.imm (.int .i64 u.tick),.imm (.int .i64 u.count),.imm (.int .i64 u.left)]]⟩):=⟨_,rfl⟩
      have ma:¬m=a:=by omega
      have mp:¬m=p:=by omega
      have mq:¬m=q:=by have:=h.lt q (by simp); omega
      have mo:m∉own5:=fun e=>by
       rcases ho5 m e with h' | h'
       ·have:=(h.lt m (by simp[h'])).1; omega
       ·omega
      have g6:∀ j,j≠a→H6.get j=H5.get j:=fun j hj=>by rw[hH6]; simp[gP,hj]
      have hu6:UAt Z l H6 n5 a p q own5 (.ptr m 0 0) ⟨qs,u.ep,u.en,u.gr,some (ep,ct,qs),u.mode,u.tick,u.count,u.left⟩:=by
       have:=hu5.upd (Nat.le_refl _) (H':=H6) (c:=some (ep,ct,qs)) (x':=.ptr m 0 0) (m:=u.mode) (t:=u.tick) (k:=u.count) (z:=u.left) (by rw[hH6]; simp[gP,rowU,h2]) ⟨m,lw,rfl,⟨by simp[ma,mp,mq,mo],by omega,hz m (by omega)⟩,by rw[g6 m ma,f5 m mp (by omega)]; exact gm,hlw⟩ (fun j hj _=>g6 j hj)
       exact this
      have hb6:=hu6.blk
      simp only[rowU] at hb6
      rw[h2] at hb6
      obtain⟨H7,n7,own7,e7,hn7,hu7,f7,ho7⟩:=UAt.set (d:=d+10) (by omega) ok is hu6 (fun j hj=>hz j (by omega)) hw4 (by have:=rb3; omega) (m:=n5) (Nat.le_refl _)
      rw[zFd inv] at e7 hu7
      simp[hb,xs,ws,lws,w4s,e1,e2,← hHB,gm,hbB,e3,e4,e5,hb5,← hH6,hb6,e7,zHG,lay,zS4,zS2,mapO,B6,B7]
      exact⟨by omega,⟨p,q,own7,_,hu7⟩,fun j hj hzj=>by
       have jp:j≠p:=fun e=>hzj (e▸lp.2)
       have ja:j≠a:=fun e=>hzj (e▸la.2)
       rw[f7 j jp (by omega),g6 j ja,f5 j jp (by omega),gB j hj]⟩
     ·rw[if_neg iq]
      have hql:qs.length≤reachBytes:=by
       have h9:zOY ts=some (ep,ct,qs):=hr
       unfold zOY at h9
       split at h9
       ·cases h9
       ·rename_i zs hzs
        have z1:=zJH hzs
        split at h9
        ·split at h9
         ·split at h9
          ·rename_i qs' hqs
           split at h9
           ·cases h9
            have z2:=zSk hqs
            rw[List.length_drop] at z1 z2
            have:=rb3
            omega
           ·cases h9
          ·cases h9
         ·cases h9
        ·cases h9
      obtain⟨H5,n5,own5,e5,hn5,hu5,f5,ho5⟩:=UAt.set (d:=d+10) (by omega) ok is hB (fun j hj=>hz j (by omega)) hlw hql (m:=k4) (by omega)
      rw[zFX iq] at e5 hu5
      have hb5:=hu5.blk
      simp only[rowU,cond_false] at hb5
      rw[h2] at hb5
      obtain⟨H7,n7,own7,e7,hn7,hu7,f7,ho7⟩:=UAt.set (d:=d+10) (by omega) ok is hu5 (fun j hj=>hz j (by omega)) hw4 (by have:=rb3; omega) (m:=n5) (Nat.le_refl _)
      rw[zFd inv] at e7 hu7
      simp[hb,xs,ws,lws,w4s,e1,e2,← hHB,gm,hbB,e3,e4,e5,hb5,e7,zHG,lay,zS4,zS2,mapO,B6,B7]
      exact⟨by omega,⟨p,q,own7,_,hu7⟩,fun j hj hzj=>by
       have jp:j≠p:=fun e=>hzj (e▸lp.2)
       rw[f7 j jp (by omega),f5 j jp (by omega),gB j hj]⟩
 ·rw[if_pos h2]
  simp[hb,xs,ws,h2,B6,B7]
  exact⟨Nat.le_refl _,⟨p,q,own,x,h⟩,fun _ _ _=>rfl⟩
variable {lv ov:IV} {os:List Bool}
theorem UAt.cmd(hd:11≤d)(ok:LoOk l) (is:ISL l) (h:UAt Z l H n a p q own x u) (hz:∀ j,n≤j→Z j) (inv:INV l u.rs){ls:List Int}(io:InOk ov lv os ls) (c r:Int)(hm:n≤m) :
  ∃ v H' n',K DG (d+1) 165 [.ptr p 0 0,inD ov lv,.agg [.imm (.int .i64 c),.imm (.int .i64 r)]] H m 0=some (v,H',n')∧m≤n'∧UAt Z l H' n' a p q own x ⟨(cmdF l u.rs os ls c r).2,u.ep,u.en,u.gr,u.cp,u.mode,u.tick,u.count,u.left⟩∧∀ j,j<n→¬Z j→H'.get j=H.get j:=by
 obtain⟨H',n',e,lk,hn,fr⟩:=zAI hd ok is h.lk (zIT inv.ro) io c r (n:=m)
 exact⟨_,H',n',e,hn,h.lock hz (by omega) lk (fun j hj=>.inl hj) (fun j _ h2 _=>fr j h2),fun j _ hzj=>fr j (fun e=>hzj ((h.lt j (by simp[e])).2))⟩
def OutAt (h:Nat→Option HB) (n0 n':Nat) (x:DV) (es:List (List IV)):Prop:=(∃ w,x=.imm w∧Sl 1 w es)∨∃ id,(n0≤id∧id<n')∧x=.sl id 0 es.length es.length∧h id=some ⟨1,es.map imms⟩
def OutD (h:Nat→Option HB) (n0 n':Nat) (v:DV) (ds:List Int) (ps:List Bool):Prop:=∃ x y,v=.agg [x,y]∧OutAt h n0 n' x (ds.map ivI)∧OutAt h n0 n' y (ps.map ivB1)
variable {h:Nat→Option HB} {n':Nat}
theorem OutAt.scal{es:List (List IV)}(a:OutAt h n0 n' x es):x.scal=true∧x.out=true:=by
 rcases a with⟨w,rfl,hw⟩ | ⟨id,_,rfl,_⟩
 ·exact⟨hw.scal,rfl⟩
 ·exact⟨rfl,rfl⟩
def ivC (c:Int×Int):List IV:=[.int .i64 c.1,.int .i64 c.2]
noncomputable def zEf (l:Lo) (os:List Bool) (ls:List Int) (rs:List Rst) (cs:List (Int×Int)):List Rst:=cs.foldl (fun r c=>(cmdF l r os ls c.1 c.2).2) rs
variable {cs:List (Int×Int)}
theorem zEg{ls:List Int}(hi:i<cs.length):zEf l os ls rs (cs.take (i+1))=(cmdF l (zEf l os ls rs (cs.take i)) os ls (nth cs i).1 (nth cs i).2).2:=by
 rw[List.take_add_one,List.getElem?_eq_getElem hi]
 unfold zEf
 rw[List.foldl_append]
 simp[nth,List.getD_eq_getElem?_getD,List.getElem?_eq_getElem hi]
theorem INV.cmds {l:Lo}{os:List Bool}{ls:List Int}:∀ (cs:List (Int×Int)){rs:List Rst},INV l rs→INV l (zEf l os ls rs cs)
 | [],rs,h=>h
 | c::cs,rs,h=>INV.cmds cs (rs:=(cmdF l rs os ls c.1 c.2).2) h.cmd
def setR (u:US) (rs:List Rst):US:=⟨rs,u.ep,u.en,u.gr,u.cp,u.mode,u.tick,u.count,u.left⟩
def CmA (Z:Nat→Prop) (h:Nat→Option HB) (n:Nat) (x:DV) (cs:List (Int×Int)):Prop:=(∃ w,x=.imm w∧Sl 2 w (cs.map ivC))∨∃ id,(id<n∧¬Z id)∧x=.sl id 0 cs.length cs.length∧h id=some ⟨2,(cs.map ivC).map imms⟩
theorem CmA.scal(a:CmA Z h n x cs):x.scal=true∧x.out=true∧lenOf x=some cs.length:=by
 rcases a with⟨w,rfl,hw⟩ | ⟨id,_,rfl,_⟩
 ·have:=hw.len
  simp only[List.length_map] at this
  exact⟨hw.scal,rfl,this⟩
 ·exact⟨rfl,rfl,rfl⟩
theorem CmA.mono {h':Nat→Option HB}(a:CmA Z h n x cs) (hn:n≤n') (hf:∀ j,j<n→¬Z j→h' j=h j):CmA Z h' n' x cs:=by
 rcases a with a | ⟨id,⟨h1,h2⟩,rfl,h3⟩
 ·exact .inl a
 ·exact .inr ⟨id,⟨by omega,h2⟩,rfl,by rw[hf id h1 h2]; exact h3⟩
structure ICm (Z:Nat→Prop) (l:Lo) (os:List Bool) (ls:List Int) (H0:PT HB) (n0 a p q:Nat) (own:List Nat) (x:DV) (u:US) (ov lv:IV) (cv:DV) (cs:List (Int×Int)) (i:Nat) (st:St):Prop where
 c0:st.T.get 0=some (.ptr a 0 0)
 c2:st.T.get 2=some (.imm (.bool true))
 b5:Box st 5 [ov,lv]
 b8:Box st 8 [.nils,.nils]
 c13:st.T.get 13=some cv
 c14:st.T.get 14=some (.imm (.int .i64 (cs.length:Int)))
 c15:st.T.get 15=some (.imm (.int .i64 (i:Int)))
 u:UAt Z l st.H st.n a p q own x (setR u (zEf l os ls u.rs (cs.take i)))
 fr:∀ j,j<n0→¬Z j→st.H.get j=H0.get j
 hn:n0≤st.n
variable {cv:DV}
theorem zKe(hd:11≤d){ls:List Int}(ok:LoOk l) (is:ISL l) (hz:∀ j,n0≤j→Z j) (inv:INV l u.rs)(io:InOk ov lv os ls)(hc:CmA Z H0.get n0 cv cs) (hcl:cs.length≤reachBytes)
 (h:ICm Z l os ls H0 n0 a p q own x u ov lv cv cs 0 st)
  (hk:∀ s',ICm Z l os ls H0 n0 a p q own x u ov lv cv cs cs.length s'→Bk DG (K DG (d+1)) 0 (.exit 0) ks s' Q) :
  Wp DG (K DG (d+1)) 0 D.l140_0 ks st Q:=by
 refine zGt (N:=cs.length) (zRH hcl) (fun i st=>ICm Z l os ls H0 n0 a p q own x u ov lv cv cs i st) (fun e s'=>e=.exit 0∧ICm Z l os ls H0 n0 a p q own x u ov lv cv cs cs.length s') (fun i st hle hI=>?_) h (fun e s' h=>by
  obtain⟨rfl,h⟩:=h
  exact hk s' h)
 obtain⟨c0,c2,⟨i5,b5,L5⟩,⟨i8,b8,L8⟩,c13,c14,c15,hu,fr,hn⟩:=hI
 have hb:=hu.blk
 simp only[rowU] at hb
 obtain⟨cvs,-,cvl⟩:=hc.scal
 by_cases hi:i<cs.length
 ·have hi1:(i:Int)<cs.length:=by omega
  have hi':=zI3 hi1
  have hw8:IntKind.i64.wrap ((i:Int)+1)=(i:Int)+1:=zTX hi hcl
  obtain⟨v,H',n',e,hn',hu',f'⟩:=hu.cmd hd ok is (fun j hj=>hz j (by omega)) (INV.cmds _ inv) io (nth cs i).1 (nth cs i).2 (m:=st.n+1) (by omega)
  have hu2:UAt Z l H' n' a p q own x (setR u (zEf l os ls u.rs (cs.take (i+1)))):=by
   rw[zEg hi]
   exact hu'
  have ovs:=io.o.scal
  have lvs:=io.l.scal
  rcases hc with⟨cw,rfl,hc⟩ | ⟨id,⟨id1,id2⟩,rfl,hg⟩
  ·have ix:=zIu hc hi1
   simp only[Int.toNat_natCast] at ix
   generalize nth cs i=y at *
   obtain⟨y1,y2⟩:=y
   simp only at e
   generalize hQ:(fun (e:Ex) (s':St)=>_)=Q'
   simp only[D.l140_0b]
   simp[c0,c2,b5,L5,b8,L8,c13,c14,c15,cvs,hi',hw8,ix,hb,e,ovs,lvs,ivC,imms,B6,B7]
   subst hQ
   exact .inl ⟨rfl,hi,by simp[gP],by simp[gP],⟨i5,by simp[gP],by simp[gP,imms]⟩,⟨i8,by simp[gP],by simp[gP,imms]⟩,by simp[gP],by simp[gP],by simp[gP],hu2,fun j hj hzj=>(f' j (by omega) hzj).trans (fr j hj hzj),by simp; omega⟩
  ·have hg':st.H.get id=some ⟨2,(cs.map ivC).map imms⟩:=by rw[fr id id1 id2]; exact hg
   have hri:((cs.map ivC).map imms)[i]?=some (imms (ivC (nth cs i))):=by simp[nth,List.getD_eq_getElem?_getD,List.getElem?_eq_getElem hi]
   generalize (cs.map ivC).map imms=R at *
   have ix:=fun {n:Nat}=>zIs (h:=st.H.get) (n:=n) (id:=id) (row:=0) (len:=cs.length) (cap:=cs.length) hg' rfl (k:=.i64) (z:=(i:Int)) (by omega) hi1
   simp only[Int.toNat_natCast,Nat.zero_add] at ix
   generalize nth cs i=y at *
   obtain⟨y1,y2⟩:=y
   simp only[ivC,imms,List.map_cons,List.map_nil] at e hri
   generalize hQ:(fun (e:Ex) (s':St)=>_)=Q'
   simp only[D.l140_0b]
   simp[c0,c2,b5,L5,b8,L8,c13,c14,c15,cvs,hi',hw8,ix,hg',hri,hb,e,ovs,lvs,ivC,imms,B6,B7]
   subst hQ
   exact .inl ⟨rfl,hi,by simp[gP],by simp[gP],⟨i5,by simp[gP],by simp[gP,imms]⟩,⟨i8,by simp[gP],by simp[gP,imms]⟩,by simp[gP],by simp[gP],by simp[gP],hu2,fun j hj hzj=>(f' j (by omega) hzj).trans (fr j hj hzj),by simp; omega⟩
 ·obtain rfl:i=cs.length:=by omega
  generalize hQ:(fun (e:Ex) (s':St)=>_)=Q'
  simp only[D.l140_0b]
  simp[c0,c2,b5,L5,b8,L8,c13,c14,c15,cvs,B6,B7]
  subst hQ
  exact .inr ⟨nofun,rfl,by simp[gP,c0],by simp[gP,c2],⟨i5,by simp[gP,b5],by simp[gP,L5,imms]⟩,⟨i8,by simp[gP,b8],by simp[gP,L8,imms]⟩,by simp[gP,c13],by simp[gP,c14],by simp[gP,c15],hu,fr,hn⟩
noncomputable def cyF (l:Lo) (u:US) (os:List Bool) (ls:List Int) (conn:Bool) (cs:List (Int×Int)):US×List Int×List Bool:=
 let r:=cycF l (if conn then zEf l os ls u.rs cs else u.rs) os ls
 (setR u r.1,if conn then r.2.1 else List.replicate l.pts.length 0,if conn then r.2.2 else List.replicate l.sigs.length false)
theorem zNi(l:Lo):OutD h n0 n' (zQF l) (List.replicate l.pts.length 0) (List.replicate l.sigs.length false):=
 ⟨_,_,rfl,.inl ⟨_,rfl,.inr ⟨false,by simp[ivI]⟩⟩,.inl ⟨_,rfl,.inr ⟨false,by simp[ivB1]⟩⟩⟩
def CyP (Z:Nat→Prop) (l:Lo) (H:PT HB) (n a p q:Nat) (own:List Nat) (x:DV) (r:US×List Int×List Bool) (v:DV) (H':PT HB) (n':Nat):Prop:=n≤n'∧UAt Z l H' n' a p q own x r.1∧(∀ j,j<n→¬Z j→H'.get j=H.get j)∧OutD H'.get n n' v r.2.1 r.2.2
theorem zFO(hd:11≤d){ls:List Int}(ok:LoOk l) (is:ISL l) (h:UAt Z l H n a p q own x u) (hz:∀ j,n≤j→Z j) (inv:INV l u.rs)(io:InOk ov lv os ls)(hc:CmA Z H.get n cv cs) (hcl:cs.length≤reachBytes) (conn:Bool) :
  Fe (K DG (d+2) 140 [.ptr a 0 0,inD ov lv,.imm (.bool conn),cv] H n 0) (CyP Z l H n a p q own x (cyF l u os ls conn cs)):=by
 rw[kX 140 D.f140 rfl]
 refine zHy rfl ?_
 have ovs:=io.o.scal
 have lvs:=io.l.scal
 obtain⟨cvs,cvo,cl⟩:=hc.scal
 have hp:=h.lt p (by simp)
 have cyc:∀ {H1:PT HB}{m1 m:Nat}{w:US},UAt Z l H1 m1 a p q own x w→INV l w.rs→n≤m1→m1≤m→∃ H' n',K DG (d+1) 166 [.ptr p 0 0,inD ov lv] H1 m 0=some (.agg [.sl (m+2+1) 0 l.pts.length l.pts.length,.sl (m+2+2) 0 l.sigs.length l.sigs.length],H',n')∧m+5≤n'∧(∀ j,j<m1→¬Z j→H'.get j=H1.get j)∧
   UAt Z l H' n' a p q own x (setR w (cycF l w.rs os ls).1)∧H'.get (m+2+1)=some ⟨1,(cycF l w.rs os ls).2.1.map rowI⟩∧H'.get (m+2+2)=some ⟨1,(cycF l w.rs os ls).2.2.map rowB⟩∧(cycF l w.rs os ls).2.1.length=l.pts.length∧(cycF l w.rs os ls).2.2.length=l.sigs.length:=fun {H1 m1 m w} hw iw h1 h2=>by
  obtain⟨H',n',e,hn,fr,lk,g1,g2,g3,g4⟩:=zAc hd ok is hw.lk iw io (n:=m) (fun i hi=>by have:=(hw.lt i (by simp at hi ⊢; rcases hi with h | h <;> simp[h])).1; omega)
  exact⟨H',n',e,hn,fun j hj hzj=>fr j (fun e=>hzj ((hw.lt j (by simp[e])).2)) (by omega),hw.lock (fun j hj=>hz j (by omega)) (by omega) lk (fun j hj=>.inl hj) (fun j _ h2' h3=>fr j h2' (by omega)),g1,g2,g3,g4⟩
 cases conn with
 | false=>
  have hb:=h.blk
  simp only[rowU] at hb
  obtain⟨H',n',e,hn,fr,hu,g1,g2,g3,g4⟩:=cyc h inv (Nat.le_refl _) (m:=n+2) (by omega)
  have hb':=hu.blk
  simp only[rowU,setR] at hb'
  have es:=zBW (d:=d) ok is.p2 is.g2 hu.lk (n:=n'+1) (lo:=0) (by have:=(hu.lt p (by simp)).1; omega)
  simp[cvs,cvo,ovs,lvs,hb,e,hb',es,B6,B7]
  exact⟨by omega,hu.mono (by omega) (fun _ _ h=>h) (fun _ _ _=>rfl),fr,zNi l⟩
 | true=>
  simp[cvs,cvo,ovs,lvs,cl,B6,B7]
  refine zKe (H0:=H) (n0:=n) (u:=u) hd ok is hz inv io hc hcl ⟨by simp[gP],by simp[gP],⟨n,by simp[gP],by simp[gP,imms]⟩,⟨n+1,by simp[gP],by simp[gP,imms]⟩,by simp[gP],by simp[gP],by simp[gP],h.mono (by simp; omega) (fun _ _ h=>h) (fun _ _ _=>rfl),fun _ _ _=>rfl,by simp; omega⟩ (fun s' hI=>?_)
  obtain⟨c0,c2,⟨i5,b5,L5⟩,⟨i8,b8,L8⟩,c13,c14,c15,hu,fr,hn⟩:=hI
  rw[List.take_length] at hu
  have hb:=hu.blk
  simp only[rowU,setR] at hb
  obtain⟨H',n',e,hn',fr',hu',g1,g2,g3,g4⟩:=cyc hu (INV.cmds cs inv) hn (m:=s'.n) (Nat.le_refl _)
  simp[c0,c2,b5,L5,b8,L8,ovs,lvs,hb,e,imms,B6,B7]
  refine⟨by omega,hu'.mono (by omega) (fun _ _ h=>h) (fun _ _ _=>rfl),fun j hj hzj=>(fr' j (by omega) hzj).trans (fr j hj hzj),_,_,rfl,.inr ⟨s'.n+2+1,by omega,?_,?_⟩,.inr ⟨s'.n+2+2,by omega,?_,?_⟩⟩
  ·simp[cyF,setR] at g3 ⊢
   rw[g3]
  ·rw[g1,zPK]
   rfl
  ·simp[cyF,setR] at g4 ⊢
   rw[g4]
  ·rw[g2,List.map_map]
   rfl
def setC (u:US) (k:Int):US:=⟨u.rs,u.ep,u.en,u.gr,u.cp,u.mode,u.tick,k,u.left⟩
def incC (k:Int):Int:=if k<9223372036854775807 then k+1 else k
def zH5 (u:US):US:=⟨u.rs,u.ep,u.en,u.gr,u.cp,if u.left - 1≤0 then 3 else u.mode,u.tick,u.count,u.left - 1⟩
theorem zH7 {w:US}(h:w.left - 1≤0):zH5 w=⟨w.rs,w.ep,w.en,w.gr,w.cp,3,w.tick,w.count,w.left - 1⟩:=by
 unfold zH5
 rw[if_pos h]
theorem zH6 {w:US}(h:¬w.left - 1≤0):zH5 w=⟨w.rs,w.ep,w.en,w.gr,w.cp,w.mode,w.tick,w.count,w.left - 1⟩:=by
 unfold zH5
 rw[if_neg h]
open Classical in
noncomputable def zFN (l:Lo) (u:US) (os:List Bool) (ls:List Int) (conn:Bool) (cs:List (Int×Int)):US×List Int×List Bool:=
 if Wk u∧(u.gr=true∧u.tick<u.en) then
  if u.mode=3 then cyF l (setC u (incC u.count)) os ls conn cs
  else (zH5 (setC u (incC u.count)),List.replicate l.pts.length 0,List.replicate l.sigs.length false)
 else (u,List.replicate l.pts.length 0,List.replicate l.sigs.length false)
variable {H':PT HB}
theorem UAt.oldI {u':US}(h:UAt Z l H n a p q own x u) (h':UAt Z l H' n' a p q own x u'):UI (fun j=>Z j∧j<n) l H' n' a u':=by
 obtain⟨blk,lk,le,cp,ap,aq,pq,ao,qo,lt⟩:=h'
 refine⟨p,q,own,x,blk,lk,le,?_,ap,aq,pq,ao,qo,fun j hj=>⟨(lt j hj).1,(lt j hj).2,(h.lt j hj).1⟩⟩
 have h1:=h.cp
 rcases hc:u'.cp with _ | ⟨e,c,qs⟩
 ·rw[hc] at cp
  exact cp
 ·rw[hc] at cp
  obtain⟨m,w,rfl,⟨m1,m2,m3⟩,hm,hw⟩:=cp
  refine⟨m,w,rfl,⟨m1,m2,m3,?_⟩,hm,hw⟩
  rcases hd:u.cp with _ | ⟨e',c',qs'⟩
  ·rw[hd] at h1
   cases h1
  ·rw[hd] at h1
   obtain⟨m',w',e,⟨_,m4,_⟩,_⟩:=h1
   cases e
   exact m4
def CyR (Z:Nat→Prop) (l:Lo) (H:PT HB) (n a:Nat) (r:US×List Int×List Bool) (v:DV) (H':PT HB) (n':Nat):Prop:=(n≤n'∧UI (fun j=>Z j∧j<n) l H' n' a r.1∧∀ j,j<n→¬Z j→H'.get j=H.get j)∧OutD H'.get n n' v r.2.1 r.2.2
variable {ds:List Int}
theorem OutD.low{v:DV}{ps:List Bool}(o:OutD h m n' v ds ps) (hm:n0≤m):OutD h n0 n' v ds ps:=by
 obtain⟨x,y,rfl,a,b⟩:=o
 refine⟨x,y,rfl,?_,?_⟩
 ·rcases a with a | ⟨id,⟨p1,p2⟩,p3⟩
  ·exact .inl a
  ·exact .inr ⟨id,⟨by omega,p2⟩,p3⟩
 ·rcases b with a | ⟨id,⟨p1,p2⟩,p3⟩
  ·exact .inl a
  ·exact .inr ⟨id,⟨by omega,p2⟩,p3⟩
theorem zAf(hd:11≤d){ls:List Int}(ok:LoOk l) (is:ISL l) (h:UI Z l H n a u) (hz:∀ j,n≤j→Z j) (inv:INV l u.rs) (c0:-9223372036854775808≤u.count∧u.count≤9223372036854775807) (l0:-1000≤u.left∧u.left≤1000)
 (io:InOk ov lv os ls)(hc:CmA Z H.get n cv cs) (hcl:cs.length≤reachBytes) (conn:Bool) :
  Fe (K DG (d+3) 103 [.ptr a 0 0,inD ov lv,.imm (.bool conn),cv] H n 0) (CyR Z l H n a (zFN l u os ls conn cs)):=by
 obtain⟨p,q,own,x,h⟩:=h
 have hb:=h.blk
 have xs:=h.xs.1
 have la:=h.lt a (by simp)
 have lp:=h.lt p (by simp)
 simp only[rowU] at hb
 have ovs:=io.o.scal
 have lvs:=io.l.scal
 obtain⟨cvs,cvo,cl⟩:=hc.scal
 obtain⟨k1,e1,hk1⟩:=zSy h (d:=d+1) (m:=n+2) (lo:=0)
 obtain⟨k2,e2,hk2⟩:=zJ9 h.le u.tick (d:=d+1) (n:=k1) (lo:=0)
 have safe:∀ (m:Nat){H1:PT HB}{m1:Nat}{w:US},UAt Z l H1 m1 a p q own x w→m1≤m→zDz (K DG (d+2)) .ro 102 [.ptr p 0 0] H1 m 0=some ⟨zQF l,H1,m+3,[.rA]⟩:=fun m {H1 m1 w} hw h1=>zBW (d:=d+1) ok is.p2 is.g2 hw.lk (by have:=(hw.lt p (by simp)).1; omega)
 rw[kX 103 D.f103 rfl]
 refine zHy rfl ?_
 unfold zFN
 by_cases wk:Wk u
 ·rw[zFd wk] at e1
  by_cases lv':u.gr=true∧u.tick<u.en
  ·rw[if_pos ⟨wk,lv'⟩]
   rw[zFd lv'] at e2
   have cnt:∃ H1,UAt Z l H1 n a p q own x (setC u (incC u.count))∧(∀ j,j<n→¬Z j→H1.get j=H.get j)∧((u.count<9223372036854775807∧H1=H.put a (some ⟨7,[[.ptr p 0 0,.ptr q 0 0,x,.imm (.int .i64 u.mode),.imm (.int .i64 u.tick),.imm (.int .i64 (u.count+1)),.imm (.int .i64 u.left)]]⟩))∨(¬u.count<9223372036854775807∧H1=H)):=by
    by_cases hlt:u.count<9223372036854775807
    ·refine⟨_,?_,fun j hj hzj=>?_,.inl ⟨hlt,rfl⟩⟩
     ·have:=h.num u.mode u.tick (u.count+1) u.left
      unfold incC
      rw[if_pos hlt]
      exact this
     ·have:¬j=a:=fun e=>hzj (e▸la.2)
      simp[gP,this]
    ·refine⟨H,?_,fun _ _ _=>rfl,.inr ⟨hlt,rfl⟩⟩
     unfold incC
     rw[if_neg hlt]
     exact h
   obtain⟨H1,h1,f1,hH1⟩:=cnt
   have w1:u.count<9223372036854775807→IntKind.i64.wrap (u.count+1)=u.count+1:=fun hh=>zTW (by omega) (by omega)
   have hb1:=h1.blk
   simp only[rowU,setC] at hb1
   by_cases h3:u.mode=3
   ·rw[if_pos h3]
    obtain⟨v5,H5,n5,e5,hn5,hu5,f5,o5⟩:=zFO (d:=d) hd (H:=H1) (n:=k2) ok is (h1.mono (by omega) (fun _ _ h=>h) (fun _ _ _=>rfl)) (fun j hj=>hz j (by omega)) inv io (hc.mono (by omega) f1) hcl conn
    have fin:CyR Z l H n a (cyF l (setC u (incC u.count)) os ls conn cs) v5 H5 n5:=⟨⟨by omega,h.oldI hu5,fun j hj hzj=>(f5 j (by omega) hzj).trans (f1 j hj hzj)⟩,o5.low (by omega)⟩
    obtain⟨y1,y2,rfl,oy1,oy2⟩:=o5
    have s1:=oy1.scal
    have s2:=oy2.scal
    rw[h3] at hb hb1
    rcases hH1 with⟨hlt,hH1⟩ | ⟨hlt,rfl⟩
    ·rw[h3] at hH1
     simp[cvs,cvo,ovs,lvs,xs,hb,e1,e2,zI3 hlt,w1 hlt,← hH1,hb1,e5,s1.1,s2.1,s1.2,s2.2,B6,B7]
     exact fin
    ·simp[cvs,cvo,ovs,lvs,xs,hb,e1,e2,zIz (Int.not_lt.1 hlt),hb1,e5,s1.1,s2.1,s1.2,s2.2,B6,B7]
     exact fin
   ·rw[if_neg h3]
    have h4:u.mode=4:=wk.resolve_left h3
    have w2:IntKind.i64.wrap (u.left - 1)=u.left - 1:=zTW (by omega) (by omega)
    have h2:=h1.num u.mode u.tick (incC u.count) (u.left - 1)
    obtain⟨H2,hH2⟩:∃ H2,H2=H1.put a (some ⟨7,[[.ptr p 0 0,.ptr q 0 0,x,.imm (.int .i64 u.mode),.imm (.int .i64 u.tick),.imm (.int .i64 (incC u.count)),.imm (.int .i64 (u.left - 1))]]⟩):=⟨_,rfl⟩
    rw[← hH2] at h2
    have f2:∀ j,j<n→¬Z j→H2.get j=H.get j:=fun j hj hzj=>by
     have:¬j=a:=fun e=>hzj (e▸la.2)
     rw[hH2]
     simp[gP,this]
     exact f1 j hj hzj
    have hb2:=h2.blk
    simp only[rowU] at hb2
    by_cases h0:u.left - 1≤0
    ·have h5:=h2.num 3 u.tick (incC u.count) (u.left - 1)
     obtain⟨H5,hH5⟩:∃ H5,H5=H2.put a (some ⟨7,[[.ptr p 0 0,.ptr q 0 0,x,.imm (.int .i64 3),.imm (.int .i64 u.tick),.imm (.int .i64 (incC u.count)),.imm (.int .i64 (u.left - 1))]]⟩):=⟨_,rfl⟩
     rw[← hH5] at h5
     have f5:∀ j,j<n→¬Z j→H5.get j=H.get j:=fun j hj hzj=>by
      have:¬j=a:=fun e=>hzj (e▸la.2)
      rw[hH5]
      simp[gP,this]
      exact f2 j hj hzj
     have hb5:=h5.blk
     simp only[rowU] at hb5
     have es:=safe k2 h5 (by omega)
     have fin:∀ n',n≤n'→CyR Z l H n a (zH5 (setC u (incC u.count)),List.replicate l.pts.length 0,List.replicate l.sigs.length false) (zQF l) H5 n':=fun n' hn'=>⟨⟨hn',h.oldI (by
      have:=h5.mono (n':=n') hn' (fun _ _ h=>h) (fun _ _ _=>rfl)
      show UAt Z l H5 n' a p q own x (zH5 (setC u (incC u.count)))
      rw[zH7 (w:=setC u (incC u.count)) h0]
      exact this),f5⟩,zNi l⟩
     have il:ILt 0 (u.left - 1)=False:=zIz h0
     rw[h4] at hb hb1 hb2 hH2
     rcases hH1 with⟨hlt,hH1⟩ | ⟨hlt,rfl⟩
     ·have ic:incC u.count=u.count+1:=if_pos hlt
      rw[h4] at hH1
      rw[ic] at hb1 hb2 hH2 hb5 hH5
      simp[cvs,cvo,ovs,lvs,xs,hb,e1,e2,zI3 hlt,w1 hlt,w2,il,← hH1,hb1,← hH2,hb2,← hH5,hb5,es,B6,B7]
      exact fin _ (by omega)
     ·have ic:incC u.count=u.count:=if_neg hlt
      rw[ic] at hb1 hb2 hH2 hb5 hH5
      simp[cvs,cvo,ovs,lvs,xs,hb,e1,e2,zIz (Int.not_lt.1 hlt),w2,il,hb1,← hH2,hb2,← hH5,hb5,es,B6,B7]
      exact fin _ (by omega)
    ·have es:=safe k2 h2 (by omega)
     have fin:∀ n',n≤n'→CyR Z l H n a (zH5 (setC u (incC u.count)),List.replicate l.pts.length 0,List.replicate l.sigs.length false) (zQF l) H2 n':=fun n' hn'=>⟨⟨hn',h.oldI (by
      have:=h2.mono (n':=n') hn' (fun _ _ h=>h) (fun _ _ _=>rfl)
      show UAt Z l H2 n' a p q own x (zH5 (setC u (incC u.count)))
      rw[zH6 (w:=setC u (incC u.count)) h0]
      exact this),f2⟩,zNi l⟩
     have il:ILt 0 (u.left - 1)=True:=zI3 (by omega)
     rw[h4] at hb hb1 hb2 hH2
     rcases hH1 with⟨hlt,hH1⟩ | ⟨hlt,rfl⟩
     ·have ic:incC u.count=u.count+1:=if_pos hlt
      rw[h4] at hH1
      rw[ic] at hb1 hb2 hH2
      simp[cvs,cvo,ovs,lvs,xs,hb,e1,e2,zI3 hlt,w1 hlt,w2,il,← hH1,hb1,← hH2,hb2,es,B6,B7]
      exact fin _ (by omega)
     ·have ic:incC u.count=u.count:=if_neg hlt
      rw[ic] at hb1 hb2 hH2
      simp[cvs,cvo,ovs,lvs,xs,hb,e1,e2,zIz (Int.not_lt.1 hlt),w2,il,hb1,← hH2,hb2,es,B6,B7]
      exact fin _ (by omega)
  ·rw[if_neg (fun h=>lv' h.2)]
   rw[zFX lv'] at e2
   have es:=safe k2 h (by omega)
   simp[cvs,cvo,ovs,lvs,xs,hb,e1,e2,es,B6,B7]
   exact⟨⟨by omega,h.oldI (h.mono (by omega) (fun _ _ h=>h) (fun _ _ _=>rfl)),fun _ _ _=>rfl⟩,zNi l⟩
 ·rw[zFX wk] at e1
  rw[if_neg (fun h=>wk h.1)]
  have es:=safe k1 h (by omega)
  simp[cvs,cvo,ovs,lvs,xs,hb,e1,es,B6,B7]
  exact⟨⟨by omega,h.oldI (h.mono (by omega) (fun _ _ h=>h) (fun _ _ _=>rfl)),fun _ _ _=>rfl⟩,zNi l⟩
structure RLS where
 now:Int
 own:Int
 con:Int
 ask:Int
 free:Int
 ep:Int
 last:Int
def zPR (r:RLS):HB:=⟨7,[[.imm (.int .i64 r.now),.imm (.int .i64 r.own),.imm (.int .i64 r.con),.imm (.int .i64 r.ask),.imm (.int .i64 r.free),.imm (.int .i64 r.ep),.imm (.int .i64 r.last)]]⟩
def zMM:RLS:=⟨0,-1,-1,0,0,0,0⟩
structure RLOk (r:RLS):Prop where
 n0:0≤r.now∧r.now≤1000000
 a0:0≤r.ask∧r.ask≤r.now
 e0:0≤r.ep∧r.ep≤1000000
theorem zOh:∃ H' n',K DG (d+1) 39 [] H n 0=some (.ptr n 0 0,H',n')∧n'=n+1∧H'.get n=some (zPR zMM)∧∀ j,j≠n→H'.get j=H.get j:=by
 have key:Fe (K DG (d+1) 39 [] H n 0) (fun v H' n'=>v=.ptr n 0 0∧n'=n+1∧H'.get n=some (zPR zMM)∧∀ j,j≠n→H'.get j=H.get j):=by
  rw[kX 39 D.f39 rfl]
  refine zHy rfl ?_
  simp +contextual [zPR,zMM,zHG,lay,zS4,zS2,mapO,B6,B7]
 obtain⟨v,H',n',e,rfl,r⟩:=key
 exact⟨H',n',e,r⟩
def goRL (r:RLS):RLS:=⟨r.now,-1,r.con,r.ask,r.now+2,r.ep,r.last⟩
variable {r:RLS}
theorem zOg(h:H.get q=some (zPR r)) (ok:RLOk r):∃ v H' n',K DG (d+1) 81 [.ptr q 0 0] H n 0=some (v,H',n')∧n≤n'∧H'.get q=some (zPR (goRL r))∧∀ j,j≠q→H'.get j=H.get j:=by
 obtain⟨n0,a0,e0⟩:=ok
 have w1:IntKind.i64.wrap (r.now+2)=r.now+2:=zTW (by omega) (by omega)
 have key:Fe (K DG (d+1) 81 [.ptr q 0 0] H n 0) (fun v H' n'=>n≤n'∧H'.get q=some (zPR (goRL r))∧∀ j,j≠q→H'.get j=H.get j):=by
  simp only[zPR] at h
  rw[kX 81 D.f81 rfl]
  refine zHy rfl ?_
  simp +contextual [h,w1,zPR,goRL,B6,B7]
 obtain⟨v,H',n',e,r⟩:=key
 exact⟨v,H',n',e,r⟩
def zDA (r:RLS) (t:Int):RLS:=if t≤r.now∨1099511627776<t then r else if r.own≠-1∧8≤t - r.ask then goRL ⟨t,r.own,-1,r.ask,r.free,r.ep,r.last⟩ else ⟨t,r.own,-1,r.ask,r.free,r.ep,r.last⟩
variable {t:Int}
theorem zOe(h:H.get q=some (zPR r)) (ok:RLOk r)(ht:r.now<t) (ht2:t≤1000000):∃ v H' n',K DG (d+2) 45 [.ptr q 0 0,.imm (.int .i64 t)] H n 0=some (v,H',n')∧n≤n'∧H'.get q=some (zPR (zDA r t))∧∀ j,j≠q→H'.get j=H.get j:=by
 have ok':=ok
 obtain⟨n0,a0,e0⟩:=ok
 obtain⟨H1,hH1⟩:∃ H1,H1=(H.put q (some ⟨7,[[.imm (.int .i64 t),.imm (.int .i64 r.own),.imm (.int .i64 r.con),.imm (.int .i64 r.ask),.imm (.int .i64 r.free),.imm (.int .i64 r.ep),.imm (.int .i64 r.last)]]⟩)).put q (some ⟨7,[[.imm (.int .i64 t),.imm (.int .i64 r.own),.imm (.int .i64 (-1)),.imm (.int .i64 r.ask),.imm (.int .i64 r.free),.imm (.int .i64 r.ep),.imm (.int .i64 r.last)]]⟩):=⟨_,rfl⟩
 have g1:H1.get q=some (zPR ⟨t,r.own,-1,r.ask,r.free,r.ep,r.last⟩):=by rw[hH1]; simp[gP,zPR]
 have f1:∀ j,j≠q→H1.get j=H.get j:=fun j hj=>by rw[hH1]; simp[gP,hj]
 have i1:ILt r.now t=True:=zI3 ht
 have i2:ILt 1099511627776 t=False:=zIz (by omega)
 have w1:IntKind.i64.wrap (t - r.ask)=t - r.ask:=zTW (by omega) (by omega)
 have key:Fe (K DG (d+1+1) 45 [.ptr q 0 0,.imm (.int .i64 t)] H n 0) (fun v H' n'=>n≤n'∧H'.get q=some (zPR (zDA r t))∧∀ j,j≠q→H'.get j=H.get j):=by
  have hb:=h
  have gb:=g1
  simp only[zPR] at hb gb
  unfold zDA
  rw[if_neg (by omega)]
  rw[kX 45 D.f45 rfl]
  refine zHy rfl ?_
  by_cases ho:r.own=-1
  ·rw[if_neg (fun h=>h.1 ho)]
   rw[ho] at hb gb hH1
   simp[hb,i1,i2,← hH1,gb,B6,B7]
   exact⟨by simp[zPR,ho],f1⟩
  ·by_cases h8:8≤t - r.ask
   ·rw[if_pos ⟨ho,h8⟩]
    have i3:ILt (t - r.ask) 8=False:=zIz h8
    obtain⟨v2,H2,n2,e2,hn2,g2,f2⟩:=zOg (d:=d) (n:=n) g1 ⟨by simp; omega,by simp; omega,e0⟩
    simp[hb,i1,i2,← hH1,gb,ho,w1,i3,e2,B6,B7]
    exact⟨hn2,g2,fun j hj=>(f2 j hj).trans (f1 j hj)⟩
   ·rw[if_neg (fun h=>h8 h.2)]
    have i3:ILt (t - r.ask) 8=True:=zI3 (by omega)
    simp[hb,i1,i2,← hH1,gb,ho,w1,i3,B6,B7]
    exact⟨rfl,f1⟩
 obtain⟨v,H',n',e,r⟩:=key
 exact⟨v,H',n',e,r⟩
theorem zOf(h:H.get q=some (zPR r)):∃ m,zDz (K DG (d+1)) .ro 56 [.ptr q 0 0] H n lo=some ⟨.imm (.int .i64 r.con),H,m,[.rA]⟩∧n≤m:=by
 refine zO8 rfl ?_
 simp only[zPR] at h
 rw[kX 56 D.f56 rfl]
 refine zHy rfl ?_
 simp[h,B6,B7]
def zCn (r:RLS) (u c:Int):RLS×Int×Int×Int:=if r.own=u then (⟨r.now,r.own,u,r.now,r.free,r.ep,c⟩,r.ep,r.last,0)
 else if r.own=-1∧r.free≤r.now then (⟨r.now,u,r.con,r.now,r.free,r.ep+1,r.last⟩,r.ep+1,r.last,0) else (r,0,0,8)
theorem zOd(h:H.get q=some (zPR r)) (ok:RLOk r){u c:Int}(hu:0≤u∧u<2) (hc:0≤c):∃ H' n',K DG (d+1) 99 [.ptr q 0 0,.imm (.int .i64 u),.imm (.int .i64 c)] H n 0=some (.tup [.imm (.int .i64 (zCn r u c).2.1),.imm (.int .i64 (zCn r u c).2.2.1),.imm (.int .i64 (zCn r u c).2.2.2)],H',n')∧n≤n'∧H'.get q=some (zPR (zCn r u c).1)∧∀ j,j≠q→H'.get j=H.get j:=by
 obtain⟨n0,a0,e0⟩:=ok
 have i1:ILt u 0=False:=zIz (by omega)
 have i2:ILt u 2=True:=zI3 (by omega)
 have i3:ILt c 0=False:=zIz hc
 have w1:IntKind.i64.wrap (r.ep+1)=r.ep+1:=zTW (by omega) (by omega)
 have key:Fe (K DG (d+1) 99 [.ptr q 0 0,.imm (.int .i64 u),.imm (.int .i64 c)] H n 0) (fun v H' n'=>v=.tup [.imm (.int .i64 (zCn r u c).2.1),.imm (.int .i64 (zCn r u c).2.2.1),.imm (.int .i64 (zCn r u c).2.2.2)]∧n≤n'∧H'.get q=some (zPR (zCn r u c).1)∧∀ j,j≠q→H'.get j=H.get j):=by
  have hb:=h
  simp only[zPR] at hb
  unfold zCn
  rw[kX 99 D.f99 rfl]
  refine zHy rfl ?_
  by_cases ho:r.own=u
  ·simp +contextual [hb,i1,i2,i3,ho,zPR,B6,B7]
  ·have ho':¬u=r.own:=fun h=>ho h.symm
   rw[if_neg ho]
   by_cases h1:r.own=-1
   ·have hu1:¬(-1:Int)=u:=by omega
    rw[h1] at hb
    by_cases h2:r.free≤r.now
    ·rw[if_pos ⟨h1,h2⟩]
     have i4:ILt r.now r.free=False:=zIz h2
     simp +contextual [hb,i1,i2,i3,hu1,i4,w1,zPR,B6,B7]
    ·rw[if_neg (fun h=>h2 h.2)]
     have i4:ILt r.now r.free=True:=zI3 (by omega)
     simp +contextual [hb,i1,i2,i3,hu1,i4,h1,zPR,B6,B7]
   ·rw[if_neg (fun h=>h1 h.1)]
    simp +contextual [hb,i1,i2,i3,ho,h1,zPR,B6,B7]
 obtain⟨v,H',n',e,rfl,r⟩:=key
 exact⟨H',n',e,r⟩
def zTc (r:RLS) (u:Int):RLS:=if r.own=-1∨r.own≠u then r else (fun w:RLS=>⟨w.now,w.own,-1,w.ask,w.free,w.ep,w.last⟩) (goRL r)
theorem zOj(h:H.get q=some (zPR r)) (ok:RLOk r) (u:Int):∃ v H' n',K DG (d+2) 98 [.ptr q 0 0,.imm (.int .i64 u)] H n 0=some (v,H',n')∧n≤n'∧H'.get q=some (zPR (zTc r u))∧∀ j,j≠q→H'.get j=H.get j:=by
 have key:Fe (K DG (d+1+1) 98 [.ptr q 0 0,.imm (.int .i64 u)] H n 0) (fun v H' n'=>n≤n'∧H'.get q=some (zPR (zTc r u))∧∀ j,j≠q→H'.get j=H.get j):=by
  have hb:=h
  simp only[zPR] at hb
  unfold zTc
  rw[kX 98 D.f98 rfl]
  refine zHy rfl ?_
  by_cases h1:r.own=-1
  ·rw[if_pos (.inl h1)]
   rw[h1] at hb
   simp[hb,B6,B7]
   simp[zPR,h1]
  ·by_cases h2:r.own=u
   ·rw[if_neg (fun h=>h.elim h1 (fun h=>h h2))]
    obtain⟨v2,H2,n2,e2,hn2,g2,f2⟩:=zOg (d:=d) (n:=n) h ok
    have gb:=g2
    simp only[zPR,goRL] at gb
    have hu1:¬u=-1:=fun h=>h1 (h2.trans h)
    rw[h2] at hb
    simp +contextual [hb,hu1,e2,gb,zPR,goRL,f2,B6,B7]
    exact hn2
   ·rw[if_pos (.inr h2)]
    simp[hb,h1,h2,B6,B7]
    rfl
 obtain⟨v,H',n',e,r⟩:=key
 exact⟨v,H',n',e,r⟩
set_option maxHeartbeats 8000000
structure FPt where
 l:Int
 t:Int
 s:Int
def zPH (b:Bool):List DV:=[.imm (.bool b)]
def rowP (p:FPt):List DV:=[.imm (.int .i64 p.l),.imm (.int .i64 p.t),.imm (.int .i64 p.s)]
def zGc (p:FPt) (d:Int):FPt:=
 if d=0∨d=p.l then ⟨p.l,0,0⟩ else
 if 3≤IntKind.i64.wrap ((if d=p.t then p.s else 0)+1) then ⟨d,0,0⟩ else ⟨0,d,IntKind.i64.wrap ((if d=p.t then p.s else 0)+1)⟩
theorem bf {a b:Int}(h:¬a=b):(a==b)=false:=by simpa using h
theorem bn {a b:Int}(h:¬a=b):(a != b)=true:=by simpa using h
theorem zGd (G:Nat→Option (List IV)) (d:Nat) (p:FPt) (x:Int):∃ n',K G (d+1) 104 [.agg (rowP p),.imm (.int .i64 x)] .lf 0 0=some (.agg (rowP (zGc p x)),.lf,n'):=by
 rw[kX 104 D.f104 rfl]
 by_cases h0:x=0
 ·have e:zGc p x=⟨p.l,0,0⟩:=by unfold zGc; rw[if_pos (.inl h0)]
  rw[e]
  simp only[D.f104,rowP,zHz,B4,B9,reduceIte,Nat.reduceEqDiff,Nat.reduceAdd]
  simp[h0,zHG,lay,imms,B4,B9]
 by_cases h1:x=p.l
 ·have e:zGc p x=⟨p.l,0,0⟩:=by unfold zGc; rw[if_pos (.inr h1)]
  rw[e]
  have h0':¬p.l=0:=h1▸h0
  simp only[D.f104,rowP,zHz,B4,B9,reduceIte,Nat.reduceEqDiff,Nat.reduceAdd]
  simp[bf h0',h1,zHG,lay,imms,B4,B9]
 have hn:¬(x=0∨x=p.l):=fun h=>h.elim h0 h1
 by_cases h2:x=p.t
 ·by_cases h3:3≤IntKind.i64.wrap (p.s+1)
  ·have e:zGc p x=⟨x,0,0⟩:=by unfold zGc; rw[if_neg hn,if_pos h2,if_pos h3]
   rw[e]
   simp only[D.f104,rowP,zHz,B4,B9,reduceIte,Nat.reduceEqDiff,Nat.reduceAdd]
   subst h2
   simp[bf h0,bf h1,h3,zHG,lay,imms,B4,B9]
  ·have e:zGc p x=⟨0,x,IntKind.i64.wrap (p.s+1)⟩:=by unfold zGc; rw[if_neg hn,if_pos h2,if_neg h3]
   rw[e]
   simp only[D.f104,rowP,zHz,B4,B9,reduceIte,Nat.reduceEqDiff,Nat.reduceAdd]
   subst h2
   simp[bf h0,bf h1,h3,zHG,lay,imms,B4,B9]
 ·have w1:IntKind.i64.wrap (0+1)=1:=by decide
  have w1':IntKind.i64.wrap 1=1:=by decide
  have e:zGc p x=⟨0,x,1⟩:=by unfold zGc; rw[if_neg hn,if_neg h2,w1,if_neg (by decide)]
  rw[e]
  simp only[D.f104,rowP,zHz,B4,B9,reduceIte,Nat.reduceEqDiff,Nat.reduceAdd]
  simp[bf h0,bf h1,bn h2,w1,w1',zHG,lay,imms,B4,B9]
inductive SlV (H:PT HB) (sz:Nat):DV→List (List DV)→List Nat→Prop
 | nil:SlV H sz (.imm .nils) [] []
 | sl {id:Nat}{rows:List (List DV)}(h:H.get id=some ⟨sz,rows⟩) (h0:rows≠[]):SlV H sz (.sl id 0 rows.length rows.length) rows [id]
variable {ids:List Nat}
theorem SlV.mono{v:DV}{rows:List (List DV)}(h:SlV H sz v rows ids) (hf:∀ i∈ids,H'.get i=H.get i):SlV H' sz v rows ids:=by
 cases h with
 | nil=>exact .nil
 | sl h h0=>exact .sl (by rw[hf _ (by simp)]; exact h) h0
theorem SlV.len{v:DV}{rows:List (List DV)}(h:SlV H sz v rows ids):lenOf v=some rows.length:=by cases h <;> rfl
def Fd (H:PT HB) (f:Nat) (own:List Nat) (occ:List Bool) (pts:List FPt):Prop:=
 ∃ vo vp io ip,H.get f=some ⟨2,[[vo,vp]]⟩∧SlV H 1 vo (occ.map zPH) io∧SlV H 3 vp (pts.map rowP) ip∧own=io++ip∧(f::own).Nodup
variable {f:Nat} {occ:List Bool} {pts:List FPt}
theorem Fd.mono(h:Fd H f own occ pts) (hf:∀ i∈f::own,H'.get i=H.get i):Fd H' f own occ pts:=by
 obtain⟨vo,vp,io,ip,h1,h2,h3,rfl,h5⟩:=h
 exact⟨vo,vp,io,ip,by rw[hf f (by simp)]; exact h1,h2.mono (fun i hi=>hf i (by simp[hi])),h3.mono (fun i hi=>hf i (by simp[hi])),rfl,h5⟩
def stp (pts:List FPt) (ds:List Int) (i:Nat):List FPt:=pts.mapIdx fun j p=>if j<i then (match ds[j]? with | some d=>zGc p d | none=>p) else p
theorem zRq (pts:List FPt) (ds:List Int):stp pts ds 0=pts:=by
 apply List.ext_getElem?
 intro j
 simp[stp,List.getElem?_mapIdx]
theorem zRn (pts:List FPt) (ds:List Int) (i:Nat):(stp pts ds i).length=pts.length:=by simp[stp]
theorem zRm (pts:List FPt) (ds:List Int) (i:Nat):(stp pts ds i)[i]?=pts[i]?:=by simp[stp,List.getElem?_mapIdx]
theorem zRo (pts:List FPt) (ds:List Int) (i:Nat) (p:FPt) (x:Int) (hp:pts[i]?=some p) (hx:ds[i]?=some x):(stp pts ds i).set i (zGc p x)=stp pts ds (i+1):=by
 apply List.ext_getElem?
 intro j
 have hi:i<pts.length:=(List.getElem?_eq_some_iff.1 hp).1
 rw[List.getElem?_set]
 by_cases h:i=j
 ·subst h
  have hq:pts[i]=p:=by rw[List.getElem?_eq_getElem hi] at hp; exact Option.some.inj hp
  simp[stp,List.getElem?_mapIdx,hq,hx,hi]
 ·rw[if_neg h]
  have:(j<i)↔(j<i+1):=by omega
  simp[stp,List.getElem?_mapIdx,this]
theorem zRp (pts:List FPt) (ds:List Int) (i:Nat) (hx:ds[i]?=none):stp pts ds i=stp pts ds (i+1):=by
 apply List.ext_getElem?
 intro j
 by_cases h:i=j
 ·subst h
  simp[stp,List.getElem?_mapIdx,hx]
 ·have:(j<i)↔(j<i+1):=by omega
  simp[stp,List.getElem?_mapIdx,this]
inductive Drv (H:PT HB):DV→List Int→List Nat→Prop
 | lst (full:Bool) (ds:List Int):Drv H (.imm (.lst full 1 (ds.map fun d=>[.int .i64 d]))) ds []
 | nil:Drv H (.imm .nils) [] []
 | sl {id:Nat}{ds:List Int}(h:H.get id=some ⟨1,ds.map rowI⟩):Drv H (.sl id 0 ds.length ds.length) ds [id]
theorem Drv.len{v:DV}(h:Drv H v ds ids):lenOf v=some ds.length:=by cases h <;> simp[lenOf]
def ISp (n0:Nat) (H0:PT HB) (f:Nat) (dv:DV) (ds:List Int) (ids:List Nat) (vo:DV) (ip:Nat) (pts:List FPt) (i:Nat) (s:St):Prop:=
 s.T.get 0=some (.ptr f 0 0)∧s.T.get 1=some dv∧s.T.get 11=some (.sl ip 0 pts.length pts.length)∧s.T.get 12=some (.imm (.int .i64 pts.length))∧s.T.get 13=some (.imm (.int .i64 i))∧
 s.H.get f=some ⟨2,[[vo,.sl ip 0 pts.length pts.length]]⟩∧s.H.get ip=some ⟨3,(stp pts ds i).map rowP⟩∧(∀ j,j≠ip→s.H.get j=H0.get j)∧n0≤s.n
variable {ip:Nat}
theorem zPF (G:Nat→Option (List IV)) (d:Nat){dv:DV}(hd:Drv H0 dv ds ids){vo:DV}(hn:ip∉f::ids) (hl:pts.length≤1000){s:St}
  (h:ISp n0 H0 f dv ds ids vo ip pts i s) (hi:i<pts.length) :
  ∃ s',D.l54_0b.run G (K G (d+1)) 0 ⟨keep s.T [0,1,11,12,13],keep s.L [],s.H,s.n⟩=some (.norm,s')∧ISp n0 H0 f dv ds ids vo ip pts (i+1) s':=by
 obtain⟨h0,h1,h11,h12,h13,hf,hp,hj,hnn⟩:=h
 have hi':(i:Int)<pts.length:=by omega
 have hw:IntKind.i64.wrap ((i:Int)+1)=(i:Int)+1:=zTW (by omega) (by omega)
 have hpi:pts[i]?=some pts[i]:=List.getElem?_eq_getElem hi
 generalize pts[i]=p at hpi
 have hsi:(stp pts ds i)[i]?=some p:=by rw[zRm]; exact hpi
 have hri:((stp pts ds i).map rowP)[i]?=some (rowP p):=by rw[List.getElem?_map,hsi]; rfl
 have hlen:=hd.len
 have hfn:¬f=ip:=fun e=>hn (by simp[e])
 have hfn':¬ip=f:=fun e=>hn (by simp[e])
 by_cases hx:i<ds.length
 ·have hx':(i:Int)<ds.length:=by omega
  have hxi:ds[i]?=some ds[i]:=List.getElem?_eq_getElem hx
  have hset:=zRo pts ds i p ds[i] hpi hxi
  generalize hxe:ds[i]=x at hxi hset
  obtain⟨nd,hdr⟩:=zGd G d p x
  have hmap:((stp pts ds i).map rowP).set i (rowP (zGc p x))=(stp pts ds (i+1)).map rowP:=by rw[← List.map_set,hset]
  simp only[rowP] at hdr
  have hmap':((stp pts ds i).map rowP).set i [.imm (.int .i64 (zGc p x).l),.imm (.int .i64 (zGc p x).t),.imm (.int .i64 (zGc p x).s)]=(stp pts ds (i+1)).map rowP:=hmap
  cases hd with
  | lst full=>
   have hrow:(ds.map fun d=>[IV.int IntKind.i64 d])[i]?=some [.int .i64 x]:=by rw[List.getElem?_map,hxi]; rfl
   simp only[D.l54_0b,keep,B4,B9,reduceIte,Nat.reduceEqDiff,Nat.reduceAdd]
   simp[h0,h1,h11,h12,h13,hf,hp,hi',hi,hx',hx,hxi,hxe,hw,hlen,hsi,hdr,rowP,imms,B4,B9]
   simp only[ISp,gP]
   simp[h0,h1,h11,h12,hf,hp,hfn,hfn']
   exact⟨hmap',fun j hj1=>by rw[if_neg hj1]; exact hj j hj1,by omega⟩
  | nil=>simp at hx
  | sl h=>
   rename_i id
   have hid:¬id=ip:=fun e=>hn (by simp[e])
   have hid':¬ip=id:=fun e=>hn (by simp[e])
   have hh:s.H.get id=some ⟨1,ds.map rowI⟩:=by rw[hj id hid]; exact h
   simp only[D.l54_0b,keep,B4,B9,reduceIte,Nat.reduceEqDiff,Nat.reduceAdd]
   simp[h0,h1,h11,h12,h13,hf,hp,hh,hi',hi,hx',hx,hxi,hxe,hw,hlen,hsi,hdr,rowP,rowI,imms,B4,B9]
   simp only[ISp,gP]
   simp[h0,h1,h11,h12,hf,hp,hfn,hfn']
   exact⟨hmap',fun j hj1=>by rw[if_neg hj1]; exact hj j hj1,by omega⟩
 ·have hx':¬(i:Int)<ds.length:=by omega
  have hsk:=zRp pts ds i (List.getElem?_eq_none (by omega))
  simp only[D.l54_0b,keep,B4,B9,reduceIte,Nat.reduceEqDiff,Nat.reduceAdd]
  simp[h0,h1,h11,h12,h13,hf,hp,hi',hi,hx',hx,hw,hlen,hsi,rowP,imms,B4,B9]
  simp only[ISp,gP]
  simp[h0,h1,h11,h12,hf,hp,← hsk]
  exact⟨hj,by omega⟩
theorem zIB{cs:List DV}:frz h lo (.agg cs)=(frz.frzs h lo cs).map .agg:=rfl
theorem zLq {h:Nat→Option HB}{lo d:Nat}:∀ l:List IV,mapO (frzI h lo (d+1)) (imms l)=some l
 | []=>rfl
 | x::l=>by
  have:=zLq (h:=h) (lo:=lo) (d:=d) l
  simp only[imms,List.map_cons,mapO,frzI] at this ⊢
  rw[this]
theorem zLr {h:Nat→Option HB}{lo d:Nat}:∀ l:List (List IV),mapO (mapO (frzI h lo (d+1))) (l.map imms)=some l
 | []=>rfl
 | x::l=>by simp only[List.map_cons,mapO,zLq,zLr l]
theorem zII {id:Nat}{xs:List (List IV)}(hb:h id=some ⟨sz,xs.map imms⟩) (hlo:lo≤id):frz h lo (.sl id 0 xs.length xs.length)=some (.imm (.lst false sz xs)):=by
 have ht:(xs.map imms).take xs.length=xs.map imms:=List.take_of_length_le (by simp)
 have h1:¬id<lo:=by omega
 simp only[frz,if_neg h1,zH8,frzI,if_pos hlo,hb]
 simp[ht,zLr]
def ivB (b:Bool):List IV:=[.bool b]
theorem zPI (l:List Bool):l.map zPH=(l.map ivB).map imms:=by simp[zPH,ivB,imms,Function.comp_def]
theorem zPJ (l:List Int):l.map rowI=(l.map ivI).map imms:=by simp[rowI,ivI,imms,Function.comp_def]
theorem zET (G:Nat→Option (List IV)) (d:Nat){id:Nat}{rows:List (List DV)}(hb:H.get id=some ⟨1,rows⟩) (h0:rows≠[]) (hl:rows.length≤1000) (n lo:Nat) :
  K G (d+1) 111 [.sl id 0 rows.length rows.length] H n lo=some (.sl n 0 rows.length rows.length,H.put n (some ⟨1,rows⟩),n+1):=by
 have hm:rows.length≤zCJ:=by unfold zCJ; omega
 have ht:rows.take rows.length=rows:=List.take_of_length_le (Nat.le_refl _)
 rw[kX 111 D.f111 rfl]
 simp only[D.f111,zHz,B4,B9,reduceIte,Nat.reduceEqDiff,Nat.reduceAdd]
 simp[hb,h0,hm,ht,zHH,zCK,zRS,zPV,lay,zPT,zS4,mapO,B4,B9]
def II (H0:PT HB) (n0 o:Nat) (occ:List Bool) (vp:DV) (pts:List FPt) (i:Nat) (s:St):Prop:=
 ∃ q2 q3 vl,s.T.get 2=some (.lref 2 q2 0)∧s.T.get 3=some (.lref 3 q3 0)∧s.T.get 18=some vp∧s.T.get 19=some (.imm (.int .i64 pts.length))∧s.T.get 20=some (.imm (.int .i64 i))∧
 s.L.get 2=some (.box q2 [.imm .nils,.imm .nils])∧s.L.get 3=some (.box q3 [.sl o 0 occ.length occ.length,vl])∧o<s.n∧s.H.get o=some ⟨1,occ.map zPH⟩∧(∀ j,j<n0→s.H.get j=H0.get j)∧
 ((i=0∧vl=.imm .nils)∨(0<i∧∃ b,vl=.sl b 0 i i∧s.H.get b=some ⟨1,((pts.take i).map (·.l)).map rowI⟩∧o<b∧b<s.n))
theorem zPC (G:Nat→Option (List IV)) (d:Nat) {o:Nat}(ho0:n0≤o) (hip:ip<n0) (hp:H0.get ip=some ⟨3,pts.map rowP⟩) (hl:pts.length≤1000){s:St}
  (h:II H0 n0 o occ (.sl ip 0 pts.length pts.length) pts i s) (hi:i<pts.length) :
  ∃ s',D.l75_0b.run G (K G (d+1)) n0 ⟨keep s.T [2,3,18,19,20],keep s.L [2,3],s.H,s.n⟩=some (.norm,s')∧II H0 n0 o occ (.sl ip 0 pts.length pts.length) pts (i+1) s':=by
 obtain⟨q2,q3,vl,h2,h3,h18,h19,h20,l2,l3,hn,ho,hj,hv⟩:=h
 have hi':(i:Int)<pts.length:=by omega
 have hw:IntKind.i64.wrap ((i:Int)+1)=(i:Int)+1:=zTW (by omega) (by omega)
 have hpi:pts[i]?=some pts[i]:=List.getElem?_eq_getElem hi
 have htk:(pts.take i).map (·.l)++[pts[i].l]=(pts.take (i+1)).map (·.l):=by
  rw[List.take_add_one,hpi,List.map_append]; rfl
 generalize hpe:pts[i]=p at hpi htk
 have hri:(pts.map rowP)[i]?=some (rowP p):=by rw[List.getElem?_map,hpi]; rfl
 have hp':=hj ip hip
 rw[hp] at hp'
 have hm1:1≤zCJ:=by unfold zCJ; omega
 have hm2:i+1≤zCJ:=by unfold zCJ; omega
 have hm3:(i+1)*8≤zCJ:=by unfold zCJ; omega
 rcases hv with⟨hi0,rfl⟩ | ⟨hi0,b,rfl,hb,hb1,hb2⟩
 ·have hm8:8≤zCJ:=by unfold zCJ; omega
  simp only[D.l75_0b,keep,B4,B9,reduceIte,Nat.reduceEqDiff,Nat.reduceAdd]
  simp[h2,h3,h18,h19,h20,l2,l3,hp',hi',hi,hw,hm1,hm8,hpe,rowP,zHH,zCK,zRS,zPV,lay,zPT,zS4,zS2,mapO,imms,B4,B9]
  have hfin:((pts.take (i+1)).map (·.l)).map rowI=[[.imm (.int .i64 p.l)]]:=by rw[← htk,hi0]; rfl
  have e1:¬o=s.n+1:=by omega
  refine⟨q2,q3,.sl (s.n+1) 0 (i+1) (i+1),?_,?_,?_,?_,?_,?_,?_,?_,?_,?_,.inr ⟨by omega,s.n+1,rfl,?_,by omega,?_⟩⟩
  ·simp[gP]
  ·simp[gP]
  ·simp[gP]
  ·simp[gP]
  ·simp[gP]
  ·simp[gP]
  ·simp[gP,hi0]
  ·simp; omega
  ·simp[gP,e1,ho]
  ·intro j hj1
   simp only[gP]
   rw[if_neg (by omega)]; exact hj j hj1
  ·rw[hfin]; simp[gP]
  ·simp
 ·have e1:¬o=s.n+1:=by omega
  have e2:¬o=b:=by omega
  have e3:¬b<n0:=by omega
  have e4:n0≤b:=by omega
  have e5:¬i+1≤i:=by omega
  have hfin:((pts.take (i+1)).map (·.l)).map rowI=((pts.take i).map (·.l)).map rowI++[[.imm (.int .i64 p.l)]]:=by rw[← htk,List.map_append]; rfl
  have hrl:(((pts.take i).map (·.l)).map rowI).length=i:=by simp; omega
  generalize ((pts.take i).map (·.l)).map rowI=rws at hb hfin hrl
  simp only[D.l75_0b,keep,B4,B9,reduceIte,Nat.reduceEqDiff,Nat.reduceAdd]
  simp[h2,h3,h18,h19,h20,l2,l3,hp',hi',hi,hw,hm2,hm3,hb,hpe,hrl,e4,e5,rowP,zHH,zCK,zRS,zPV,lay,zPT,zS4,zS2,mapO,imms,B4,B9]
  refine⟨q2,q3,.sl (s.n+1) 0 (i+1) (i+1),?_,?_,?_,?_,?_,?_,?_,?_,?_,?_,.inr ⟨by omega,s.n+1,rfl,?_,by omega,?_⟩⟩
  ·simp[gP]
  ·simp[gP]
  ·simp[gP]
  ·simp[gP]
  ·simp[gP]
  ·simp[gP]
  ·simp[gP]
  ·simp; omega
  ·simp[gP,e1,e2,ho]
  ·intro j hj1
   simp only[gP]
   rw[if_neg (by omega),if_neg (by omega)]; exact hj j hj1
  ·rw[hfin]; simp[gP]
  ·simp
theorem zLW (G:Nat→Option (List IV)) (d:Nat){dv:DV}(hd:Drv H0 dv ds ids){vo:DV}(hn:ip∉f::ids) (hl:pts.length≤1000) (s:St)
  (h:ISp n0 H0 f dv ds ids vo ip pts 0 s):∃ s',D.l54_0.run G (K G (d+1)) 0 s=some (.exit 0,s')∧ISp n0 H0 f dv ds ids vo ip pts pts.length s':=by
 obtain⟨e,s',q1,q2,rfl,q3⟩:=zJe (f:=zLU G (K G (d+1)) 0 [0,1,11,12,13] [] D.l54_0b) (fun m s=>∃ i:Nat,ISp n0 H0 f dv ds ids vo ip pts i s∧i≤pts.length∧m=pts.length - i)
  (fun e s'=>e=.exit 0∧ISp n0 H0 f dv ds ids vo ip pts pts.length s')
  (fun m s ⟨i,hI,hle,hm⟩=>by
   by_cases hi:i<pts.length
   ·obtain⟨s',e1,e2⟩:=zPF G d hd hn hl hI hi
    exact .inl ⟨s',_,e1,by omega,i+1,e2,by omega,rfl⟩
   ·obtain rfl:i=pts.length:=by omega
    obtain⟨h0,h1,h11,h12,h13,hf,hp,hj,hnn⟩:=hI
    refine .inr ⟨.exit 0,?_⟩
    simp only[zLV,D.l54_0b,keep,B4,B9,reduceIte,Nat.reduceEqDiff,Nat.reduceAdd]
    simp[h0,h1,h11,h12,h13,B4,B9]
    simp only[ISp,gP]
    simp[h0,h1,h11,h12,h13,hf,hp]
    exact⟨hj,hnn⟩) pts.length LOOP s ⟨0,h,by omega,by omega⟩ (by unfold LOOP; omega)
 exact⟨s',q1,q3⟩
theorem zK0 (G:Nat→Option (List IV)) (d:Nat) {o:Nat}(ho0:n0≤o) (hip:ip<n0) (hp:H0.get ip=some ⟨3,pts.map rowP⟩) (hl:pts.length≤1000) (s:St)
  (h:II H0 n0 o occ (.sl ip 0 pts.length pts.length) pts 0 s):∃ s',D.l75_0.run G (K G (d+1)) n0 s=some (.exit 0,s')∧II H0 n0 o occ (.sl ip 0 pts.length pts.length) pts pts.length s':=by
 obtain⟨e,s',q1,q2,rfl,q3⟩:=zJe (f:=zLU G (K G (d+1)) n0 [2,3,18,19,20] [2,3] D.l75_0b) (fun m s=>∃ i:Nat,II H0 n0 o occ (.sl ip 0 pts.length pts.length) pts i s∧i≤pts.length∧m=pts.length - i)
  (fun e s'=>e=.exit 0∧II H0 n0 o occ (.sl ip 0 pts.length pts.length) pts pts.length s')
  (fun m s ⟨i,hI,hle,hm⟩=>by
   by_cases hi:i<pts.length
   ·obtain⟨s',e1,e2⟩:=zPC G d ho0 hip hp hl hI hi
    exact .inl ⟨s',_,e1,by omega,i+1,e2,by omega,rfl⟩
   ·obtain rfl:i=pts.length:=by omega
    obtain⟨q2,q3,vl,h2,h3,h18,h19,h20,l2,l3,hn,ho,hj,hv⟩:=hI
    refine .inr ⟨.exit 0,?_⟩
    simp only[zLV,D.l75_0b,keep,B4,B9,reduceIte,Nat.reduceEqDiff,Nat.reduceAdd]
    simp[h2,h3,h18,h19,h20,l2,l3,B4,B9]
    refine⟨q2,q3,vl,?_,?_,?_,?_,?_,?_,?_,hn,ho,hj,hv⟩ <;> simp[gP,h2,h3,h18,h19,h20,l2,l3]) pts.length LOOP s ⟨0,h,by omega,by omega⟩ (by unfold LOOP; omega)
 exact⟨s',q1,q3⟩
theorem zRb (G:Nat→Option (List IV)) (d:Nat)(hf:Fd H f own occ pts){dv:DV}(hd:Drv H dv ds ids) (hdis:∀ i∈ids,i∉f::own) (hl:pts.length≤1000) (n:Nat) :
  ∃ H' n',K G (d+2) 54 [.ptr f 0 0,dv] H n 0=some (.tup [],H',n')∧Fd H' f own occ (stp pts ds pts.length)∧n≤n'∧∀ j,j∉own→H'.get j=H.get j:=by
 obtain⟨vo,vp,io,ip,h1,h2,h3,rfl,h5⟩:=hf
 rw[kX 54 D.f54 rfl]
 generalize hrows:pts.map rowP=rows at h3
 cases h3 with
 | nil=>
  obtain rfl:pts=[]:=by simpa using hrows
  obtain⟨k,hL⟩:∃ k,LOOP=k+1:=⟨2 ^ 62 - 1,rfl⟩
  simp only[D.f54,D.l54_0,zHz,B4,B9,reduceIte,Nat.reduceEqDiff,Nat.reduceAdd]
  simp[h1,zPt,hL,iter,zLV,keep,D.l54_0b,B4,B9]
  exact⟨_,_,⟨rfl,rfl⟩,⟨vo,_,io,[],h1,h2,.nil,by simp,by simpa using h5⟩,Nat.le_refl _,fun _ _=>rfl⟩
 | sl hp hr0=>
  rename_i ip
  have hlen:rows.length=pts.length:=by rw[← hrows]; simp
  have hip:ip∉f::ids:=by
   intro hm
   rcases List.mem_cons.1 hm with e | hm
   ·subst e; simp at h5
   ·exact hdis ip hm (by simp)
  have hvo:∀ j∈io,j≠ip:=fun j hj e=>by
   subst e
   simp[List.nodup_append] at h5
   exact h5.2.2 j hj rfl
  rw[hlen] at h1
  simp only[D.f54,zHz,B4,B9,reduceIte,Nat.reduceEqDiff,Nat.reduceAdd]
  simp[h1,B4,B9]
  generalize hrun:D.l54_0.run G (K G (d+1)) 0 _=r
  obtain⟨s',rfl,hs'⟩:∃ s',r=some (.exit 0,s')∧ISp n H f dv ds ids vo ip pts pts.length s':=by
   rw[← hrun]
   refine zLW G d hd hip hl _ ?_
   simp only[ISp,gP,zRq]
   simp[h1,hp,hrows,hlen]
  clear hrun
  obtain⟨g0,g1,g11,g12,g13,gf,gp,gj,gn⟩:=hs'
  simp[B4,B9]
  refine⟨_,_,⟨rfl,rfl⟩,⟨vo,_,io,[ip],gf,h2.mono (fun j hj=>gj j (hvo j hj)),?_,rfl,h5⟩,gn,fun j hj1 hj2=>gj j hj2⟩
  have:=SlV.sl (H:=s'.H) gp (fun e=>hr0 (by
   have:=congrArg List.length e
   simp[zRn] at this
   subst this
   simpa using hrows.symm))
  simpa [zRn] using this
def zKJ (pts:List FPt):IV:=if pts=[] then .nils else .lst false 1 ((pts.map (·.l)).map ivI)
theorem zI8 (G:Nat→Option (List IV)) (d:Nat)(hf:Fd H f own occ pts) (h0:occ≠[]) (hol:occ.length≤1000) (hl:pts.length≤1000)(hn:∀ i∈f::own,i<n) (lo:Nat) :
  ∃ n',zDz (K G (d+2)) .ro 75 [.ptr f 0 0] H n lo=some ⟨.agg [.imm (.lst false 1 (occ.map ivB)),.imm (zKJ pts)],H,n',[.rA]⟩∧n≤n':=by
 obtain⟨vo,vp,io,ip,h1,h2,h3,rfl,h5⟩:=hf
 generalize hro:occ.map zPH=ros at h2
 have hro0:ros≠[]:=fun e=>by rw[e] at hro; simp at hro; exact h0 hro
 have hrol:ros.length=occ.length:=by rw[← hro]; simp
 cases h2 with
 | nil=>exact absurd rfl hro0
 | sl ho hro1=>
 rename_i io
 have hclone:=fun (H:PT HB) (n lo:Nat) hb=>zET G d (id:=io) (rows:=ros) (H:=H) hb hro0 (by omega) n lo
 have hc:=hclone H (n+1) n ho
 have hfn:¬f=n+1:=by have:=hn f (by simp); omega
 rw[hrol] at h1 hc
 have key:∃ (vl:DV) (s':St),K G (d+2) 75 [.ptr f 0 0] H n n=some (.agg [.sl (n+1) 0 occ.length occ.length,vl],s'.H,s'.n)∧s'.H.get (n+1)=some ⟨1,occ.map zPH⟩∧n≤s'.n∧
   ((pts=[]∧vl=.imm .nils)∨(pts≠[]∧∃ b,vl=.sl b 0 pts.length pts.length∧n≤b∧s'.H.get b=some ⟨1,(pts.map (·.l)).map rowI⟩)):=by
  rw[kX 75 D.f75 rfl]
  generalize hrows:pts.map rowP=rows at h3
  cases h3 with
  | nil=>
   obtain rfl:pts=[]:=by simpa using hrows
   obtain⟨k,hL⟩:∃ k,LOOP=k+1:=⟨2 ^ 62 - 1,rfl⟩
   simp only[D.f75,D.l75_0,zHz,B4,B9,reduceIte,Nat.reduceEqDiff,Nat.reduceAdd]
   simp[h1,hc,hfn,zPt,hL,iter,zLV,keep,zHG,lay,imms,D.l75_0b,B4,B9]
   exact⟨_,⟨.lf,.lf,H.put (n+1) (some ⟨1,ros⟩),n+1+1+1⟩,⟨rfl,rfl,rfl⟩,by rw[hro]; show (H.put (n+1) (some ⟨1,ros⟩)).get (n+1)=_; exact gps,by simp; omega,rfl⟩
  | sl hp hr0=>
   rename_i ip
   have hlen:rows.length=pts.length:=by rw[← hrows]; simp
   rw[hlen] at h1
   simp only[D.f75,zHz,B4,B9,reduceIte,Nat.reduceEqDiff,Nat.reduceAdd]
   simp[h1,hc,hfn,zHG,lay,imms,B4,B9]
   generalize hrun:D.l75_0.run G (K G (d+1)) n _=r
   obtain⟨s',rfl,q2,q3,vl,g2,g3,g18,g19,g20,l2,l3,gn,go,gj,gv⟩:∃ s',r=some (.exit 0,s')∧II H n (n+1) occ (.sl ip 0 pts.length pts.length) pts pts.length s':=by
    rw[← hrun]
    refine zK0 G d (H0:=H) (by omega) (hn ip (by simp)) (by rw[hp,hrows]) hl _ ?_
    refine⟨n,n+1+1,.imm .nils,?_,?_,?_,?_,?_,?_,?_,?_,?_,?_,.inl ⟨rfl,rfl⟩⟩
    ·simp[gP]
    ·simp[gP]
    ·simp[gP]
    ·simp[gP]
    ·simp[gP]
    ·simp[gP]
    ·simp[gP,hrol]
    ·simp
    ·simp[gP,hro]
    ·intro j hj
     simp only[gP]
     rw[if_neg (by omega)]
   clear hrun
   have hp0:pts≠[]:=fun e=>by
    subst e
    exact hr0 (by simpa using hrows.symm)
   have hvs:vl.scal=true:=by rcases gv with⟨_,rfl⟩ | ⟨_,b,rfl,_⟩ <;> rfl
   have hvo:vl.out=true:=by rcases gv with⟨_,rfl⟩ | ⟨_,b,rfl,_⟩ <;> rfl
   simp[g2,g3,l2,l3,hvs,hvo,B4,B9]
   refine⟨vl,s',⟨rfl,rfl,rfl⟩,go,by omega,?_⟩
   rcases gv with⟨h,rfl⟩ | ⟨h,b,rfl,h1,h2,h3⟩
   ·exact absurd (List.eq_nil_of_length_eq_zero h) hp0
   ·refine .inr ⟨hp0,b,rfl,by omega,?_⟩
    rw[List.take_of_length_le (Nat.le_refl _)] at h1
    simpa using h1
 obtain⟨vl,s',k1,k2,k3,k4⟩:=key
 refine⟨s'.n,?_,k3⟩
 have f1:frz s'.H.get n (.sl (n+1) 0 occ.length occ.length)=some (.imm (.lst false 1 (occ.map ivB))):=by
  have:=zII (h:=s'.H.get) (lo:=n) (id:=n+1) (sz:=1) (xs:=occ.map ivB) (by rw[k2,zPI]) (by omega)
  simpa using this
 have f2:frz s'.H.get n vl=some (.imm (zKJ pts)):=by
  unfold zKJ
  rcases k4 with⟨h,rfl⟩ | ⟨h,b,rfl,h1,h2⟩
  ·rw[if_pos h]; rfl
  ·rw[if_neg h]
   have:=zII (h:=s'.H.get) (lo:=n) (id:=b) (sz:=1) (xs:=(pts.map (·.l)).map ivI) (by rw[h2,zPJ]) h1
   simpa using this
 simp only[zDz,k1]
 simp[zNl,zNm,zNh,zIB,frz.frzs,f1,f2]
theorem zCS {s:Nat} {y:Nat}{e:List DV}(hy:h y=some ⟨s,[e]⟩) (hs:0<s) (hb:bytes≤100) :
  zCK h n 0 s bytes (.imm .nils) (.sl y 0 1 1)=some { v:=.sl n 0 1 1,hw:=[(n,some ⟨s,[e]⟩)],n':=n+1,acc:=[.wX n,.rX y] }:=by
 have a2:bytes≤zCJ:=by unfold zCJ; omega
 have a0:1≤zCJ:=by unfold zCJ; omega
 simp[zCK,zRS,zPV,zOS,hy,a0,a2,hs]
theorem zCT {s:Nat} {y id:Nat}{e:List DV}{rows:List (List DV)}(hy:h y=some ⟨s,[e]⟩) (hx:h id=some ⟨s,rows⟩) (hne:y≠id) (hs:0<s) (hb:bytes≤100) (hl:rows.length≤1000) :
  zCK h n 0 s bytes (.sl id 0 rows.length rows.length) (.sl y 0 1 1)=some { v:=.sl n 0 (rows.length+1) (rows.length+1),hw:=[(id,none),(n,some ⟨s,rows++[e]⟩)],n':=n+1,acc:=[.wX id,.wX n,.rX y] }:=by
 have a1:¬rows.length+1≤rows.length:=by omega
 have a2:rows.length+1≤zCJ:=by unfold zCJ; omega
 have a3:(rows.length+1)*bytes≤zCJ:=by
  have:=Nat.mul_le_mul (show rows.length+1≤1001 by omega) hb
  unfold zCJ; omega
 simp[zCK,zRS,zPV,zOS,hy,hx,hne,a1,a2,a3,hs]
abbrev pt0:List DV:=[.imm (.int .i64 1),.imm (.int .i64 0),.imm (.int .i64 0)]
def zBN (H:PT HB) (f:Nat) (vp:DV) (i:Nat):Prop:=(vp=.imm .nils∧i=0)∨∃ ip,0<i∧f<ip∧vp=.sl ip 0 i i∧H.get ip=some ⟨3,List.replicate i pt0⟩
def INw (H0:PT HB) (n0 f io k N:Nat) (i:Nat) (st:St):Prop:=∃ vp,st.T.get 4=some (.ptr f 0 0)∧st.T.get 16=some (.imm (.int .i64 N))∧st.T.get 17=some (.imm (.int .i64 i))∧
 st.H.get f=some ⟨2,[[.sl io 0 k k,vp]]⟩∧st.H.get io=some ⟨1,List.replicate k [.imm (.bool false)]⟩∧zBN st.H f vp i∧(∀ ip r l c,vp=.sl ip r l c→ip<st.n)∧f<st.n∧∀ j,j<n0→st.H.get j=H0.get j
theorem zLG {io N:Nat}(h1:n0≤io) (h2:io<f) (hN:N≤100)(h:INw H0 n0 f io k N 0 st)
  (hk:∀ st',INw H0 n0 f io k N N st'→Bk DG (K DG d) 0 (.exit 0) ks st' Q):Wp DG (K DG d) 0 D.l38_0 ks st Q:=by
 have hrb:=rb3
 refine zGt (N:=N) (zRH (by omega)) (INw H0 n0 f io k N) (fun e st'=>e=.exit 0∧INw H0 n0 f io k N N st') (fun i st hle hI=>?_) h (fun e s' h=>by rw[h.1]; exact hk s' h.2)
 obtain⟨vp,h4,h16,h17,hf,ho,hp,hlt,hfn,hj⟩:=hI
 by_cases hi:i<N
 ·have hi':(i:Int)<N:=by omega
  have hj':=zI3 hi'
  have hw8:IntKind.i64.wrap ((i:Int)+1)=(i:Int)+1:=zTX hi (by omega)
  have e1:¬f=st.n:=by omega
  have e2:¬io=st.n:=by omega
  have e3:¬f=st.n+1:=by omega
  have e4:¬io=st.n+1:=by omega
  have e5:¬io=f:=by omega
  rcases hp with⟨rfl,h0i⟩ | ⟨ip,hi0,hfi,rfl,hip⟩
  ·have p1:=fun {h:Nat→Option HB}{n y:Nat} hy=>zCS (s:=3) (bytes:=24) (h:=h) (n:=n) (y:=y) (e:=pt0) hy (by omega) (by omega)
   generalize hQ:(fun (e:Ex) (s':St)=>_)=Q'
   simp only[D.l38_0b]
   simp[h4,h16,h17,hf,hj',hw8,p1,e1,e3,zHG,zHH,lay,zPT,B6,B7]
   subst hQ
   subst h0i
   refine .inl ⟨rfl,hi,_,by simp[gP],by simp[gP],by simp[gP],by simp[gP],by simp[gP,ho,e2,e4,e5],.inr ⟨st.n+1,by omega,by omega,rfl,?_⟩,(fun ip r l c h=>(by cases h; simp)),(by simp; omega),fun j hlt=>?_⟩
   ·have:¬st.n+1=f:=by omega
    simp[gP,this]
   ·have a1:¬j=f:=by omega
    have a2:¬j=st.n:=by omega
    have a3:¬j=st.n+1:=by omega
    simp[gP,a1,a2,a3,hj j hlt]
  ·have hipn:=hlt _ _ _ _ rfl
   have e6:¬ip=st.n:=by omega
   have e7:¬st.n=ip:=by omega
   have e8:¬f=ip:=by omega
   have e9:¬io=ip:=by omega
   have p1:=fun {h:Nat→Option HB}{n:Nat} hy hx=>zCT (s:=3) (bytes:=24) (h:=h) (n:=n) (y:=st.n) (id:=ip) (e:=pt0) (rows:=List.replicate i pt0) hy hx e7 (by omega) (by omega) (by simp; omega)
   simp only[List.length_replicate] at p1
   generalize hQ:(fun (e:Ex) (s':St)=>_)=Q'
   simp only[D.l38_0b]
   simp[h4,h16,h17,hf,hip,hj',hw8,p1,e1,e3,e6,e8,zHG,zHH,lay,zPT,B6,B7]
   subst hQ
   refine .inl ⟨rfl,hi,_,by simp[gP],by simp[gP],by simp[gP],by simp[gP],by simp[gP,ho,e2,e4,e5,e9],.inr ⟨st.n+1,by omega,by omega,rfl,?_⟩,(fun ip r l c h=>(by cases h; simp)),(by simp; omega),fun j hlt=>?_⟩
   ·have:¬st.n+1=f:=by omega
    simp[gP,this,List.replicate_succ']
   ·have a1:¬j=f:=by omega
    have a2:¬j=st.n:=by omega
    have a3:¬j=st.n+1:=by omega
    have a4:¬j=ip:=by omega
    simp[gP,a1,a2,a3,a4,hj j hlt]
 ·obtain rfl:i=N:=by omega
  generalize hQ:(fun (e:Ex) (s':St)=>_)=Q'
  simp only[D.l38_0b]
  simp[h4,h16,h17,B6,B7]
  subst hQ
  exact .inr ⟨nofun,rfl,vp,by simp[gP],by simp[gP],by simp[gP],hf,ho,hp,hlt,hfn,hj⟩
theorem zBC(hd:6≤d)(ok:LoOk l) (is:ISL l) (H:PT HB) (n:Nat) :
  Fe (K DG (d+1) 38 [l.dv] H n 0) (fun v H' n'=>∃ f own,v=.tup [.ptr f 0 0,.imm (.int .i64 0)]∧Fd H' f own (List.replicate l.secs.length false) (List.replicate l.pts.length ⟨1,0,0⟩)∧
   (∀ i∈f::own,n≤i∧i<n')∧∀ j,j<n→H'.get j=H.get j):=by
 have e1:=zAp (D:=d) (by omega) ok
 rw[zFd is] at e1
 have sl:=ok.s.len
 have pl:=ok.p.len
 simp only[List.length_map] at sl pl
 have s1:=is.s1
 have s2:=is.s2
 have p2:=is.p2
 have a1:l.secs.length≤zCJ:=by unfold zCJ; omega
 rw[kX 38 D.f38 rfl]
 refine zHy rfl ?_
 have b1:¬n+2=n+1:=by omega
 have b2:¬n+1=n+2:=by omega
 simp[ok.sc,e1,sl,pl,a1,zHG,lay,B6,B7]
 refine zLG (H0:=H) (n0:=n) (f:=n+2) (io:=n+1) (k:=l.secs.length) (N:=l.pts.length) (by omega) (by omega) (by omega) ⟨_,by simp[gP],by simp[gP],by simp[gP],by simp[gP],by simp[gP],.inl ⟨rfl,rfl⟩,(fun _ _ _ _ h=>(by cases h)),by simp,fun j hj=>?_⟩ ?_
 ·have a2:¬j=n+1:=by omega
  have a3:¬j=n+2:=by omega
  simp[gP,a2,a3]
 rintro st' ⟨vp,h4,h16,h17,hf,ho,hp,hlt,hfn,hj⟩
 simp[h4,B6,B7]
 have hso:SlV st'.H 1 (.sl (n+1) 0 l.secs.length l.secs.length) ((List.replicate l.secs.length false).map zPH) [n+1]:=by
  have h0:(List.replicate l.secs.length false).map zPH≠[]:=fun e=>by
   have:=congrArg List.length e
   rw[List.length_map,List.length_replicate] at this
   exact absurd this (by show ¬_=0; omega)
  have:=SlV.sl (sz:=1) (H:=st'.H) (id:=n+1) (rows:=(List.replicate l.secs.length false).map zPH) (by rw[ho]; simp[zPH]) h0
  simpa using this
 rcases hp with⟨rfl,h0⟩ | ⟨ip,hi0,hfi,rfl,hip⟩
 ·refine⟨[n+1],⟨_,_,[n+1],[],hf,hso,?_,rfl,by simp⟩,?_,hj⟩
  ·rw[h0]; exact .nil
  ·simp; omega
 ·have hipn:=hlt _ _ _ _ rfl
  refine⟨[n+1,ip],⟨_,_,[n+1],[ip],hf,hso,?_,rfl,by simp; omega⟩,?_,hj⟩
  ·have h0:(List.replicate l.pts.length (⟨1,0,0⟩:FPt)).map rowP≠[]:=fun e=>by
    have:=congrArg List.length e
    rw[List.length_map,List.length_replicate] at this
    exact absurd this (by show ¬_=0; omega)
   have:=SlV.sl (sz:=3) (H:=st'.H) (id:=ip) (rows:=(List.replicate l.pts.length (⟨1,0,0⟩:FPt)).map rowP) (by rw[hip]; simp[rowP]) h0
   simpa using this
  ·simp; omega
def zHt (occ:List Bool) (k:Int):List Bool:=occ.set k.toNat (!nth occ k.toNat)
theorem zBl(hf:Fd H f own occ pts) (h0:occ≠[]) (k:Int) (n:Nat) :
  Fe (K DG (d+1) 84 [.ptr f 0 0,.imm (.int .i64 k)] H n 0) (fun v H' n'=>n'=n∧(∀ j,j∉own→H'.get j=H.get j)∧
   ((InR k occ.length∧v=.imm (.int .i64 0)∧Fd H' f own (zHt occ k) pts)∨(¬InR k occ.length∧v=.imm (.int .i64 5)∧Fd H' f own occ pts))):=by
 have hf0:=hf
 obtain⟨vo,vp,io,ip,h1,h2,h3,rfl,h5⟩:=hf
 generalize hro:occ.map zPH=ros at h2
 have hrol:ros.length=occ.length:=by rw[← hro]; simp
 have hro0:ros≠[]:=fun e=>by rw[e] at hro; simp at hro; exact h0 hro
 cases h2 with
 | nil=>exact absurd rfl hro0
 | sl ho hro1=>
 rename_i io
 have hfi:¬f=io:=fun e=>by subst e; simp at h5
 rw[kX 84 D.f84 rfl]
 refine zHy rfl ?_
 by_cases hk:InR k occ.length
 ·obtain⟨k0,k1⟩:=hk
  have j0:ILt k 0=False:=zIz k0
  have j1:ILt k ros.length=True:=zI3 (by omega)
  have hkn:k.toNat<occ.length:=by omega
  have hrow:ros[k.toNat]?=some (zPH (nth occ k.toNat)):=by rw[← hro,List.getElem?_map,zMh hkn]; rfl
  have ix:=fun {n:Nat}=>zIs (h:=H.get) (n:=n) (id:=io) (row:=0) (len:=ros.length) (cap:=ros.length) ho rfl (k:=.i64) (z:=k) k0 (by omega)
  simp only[zPH] at hrow
  simp[h1,ho,j0,j1,ix,hrow,B6,B7]
  refine⟨fun j hj _=>?_,⟨k0,k1⟩,.sl io 0 ros.length ros.length,vp,[io],ip,?_,?_,h3.mono fun i hi=>?_,rfl,h5⟩
  ·simp[gP,hj]
  ·simp[gP,hfi,h1]
  ·have e1:(zHt occ k).map zPH=ros.set k.toNat (zPH (!nth occ k.toNat)):=by rw[zHt,List.map_set,hro]
   have:=SlV.sl (sz:=1) (H:=H.put io (some ⟨1,ros.set k.toNat (zPH (!nth occ k.toNat))⟩)) (id:=io) (rows:=(zHt occ k).map zPH) (by rw[e1]; simp[gP]) (fun e=>by
    have:=congrArg List.length e
    simp[zHt] at this
    exact h0 this)
   simpa [zHt,hrol,zPH] using this
  ·have:¬i=io:=fun e=>by subst e; simp at h5; exact h5.2.1 hi
   simp[gP,this]
 ·have nk:¬InR k occ.length:=hk
  by_cases k0:k<0
  ·have j0:ILt k 0=True:=zI3 k0
   simp[h1,j0,B6,B7]
   exact⟨nk,hf0⟩
  ·have j0:ILt k 0=False:=zIz (by omega)
   have j1:ILt k ros.length=False:=zIz (by unfold InR at nk; omega)
   simp[h1,j0,j1,B6,B7]
   exact⟨nk,hf0⟩
def nthP (pts:List FPt) (i:Nat):FPt:=pts.getD i ⟨0,0,0⟩
theorem zBf(hf:Fd H f own occ pts) (k:Int) (n:Nat) :
  Fe (K DG (d+1) 85 [.ptr f 0 0,.imm (.int .i64 k)] H n 0) (fun v H' n'=>n'=n∧(∀ j,j∉own→H'.get j=H.get j)∧
   ((InR k pts.length∧v=.imm (.int .i64 0)∧Fd H' f own occ (pts.set k.toNat ⟨0,0,0⟩))∨(¬InR k pts.length∧v=.imm (.int .i64 5)∧Fd H' f own occ pts))):=by
 have hf0:=hf
 obtain⟨vo,vp,io,ip,h1,h2,h3,rfl,h5⟩:=hf
 have vl:=h3.len
 rw[List.length_map] at vl
 rw[kX 85 D.f85 rfl]
 refine zHy rfl ?_
 by_cases hk:InR k pts.length
 ·obtain⟨k0,k1⟩:=hk
  have j0:ILt k 0=False:=zIz k0
  have j1:ILt k pts.length=True:=zI3 k1
  have hkn:k.toNat<pts.length:=by omega
  generalize hro:pts.map rowP=ros at h3
  have hrol:ros.length=pts.length:=by rw[← hro]; simp
  cases h3 with
  | nil=>rw[List.length_nil] at hrol; omega
  | sl ho hro1=>
  rename_i ip
  have hfi:¬f=ip:=fun e=>by subst e; simp at h5
  have hrow:ros[k.toNat]?=some (rowP (nthP pts k.toNat)):=by rw[← hro,List.getElem?_map]; simp[nthP,hkn]
  have ix:=fun {n:Nat}=>zIs (h:=H.get) (n:=n) (id:=ip) (row:=0) (len:=ros.length) (cap:=ros.length) ho rfl (k:=.i64) (z:=k) k0 (by omega)
  simp only[rowP] at hrow
  rw[hrol] at h1 ix vl
  simp[h1,ho,j0,j1,ix,hrow,zHG,lay,imms,B6,B7]
  refine⟨fun j hj _=>?_,⟨k0,k1⟩,vo,.sl ip 0 pts.length pts.length,io,[ip],?_,h2.mono fun i hi=>?_,?_,rfl,h5⟩
  ·rename_i h; simp[gP,h]
  ·simp[gP,hfi,h1]
  ·have:¬i=ip:=fun e=>by subst e; simp[List.nodup_append] at h5; exact h5.2.2 _ hi rfl
   simp[gP,this]
  ·have e1:(pts.set k.toNat ⟨0,0,0⟩).map rowP=ros.set k.toNat (rowP ⟨0,0,0⟩):=by rw[List.map_set,hro]
   have:=SlV.sl (sz:=3) (H:=H.put ip (some ⟨3,ros.set k.toNat (rowP ⟨0,0,0⟩)⟩)) (id:=ip) (rows:=(pts.set k.toNat ⟨0,0,0⟩).map rowP) (by rw[e1]; simp[gP]) (fun e=>by
    have:=congrArg List.length e
    simp at this
    subst this
    simp at hkn)
   simpa [rowP] using this
 ·have nk:¬InR k pts.length:=hk
  by_cases k0:k<0
  ·have j0:ILt k 0=True:=zI3 k0
   simp[h1,j0,B6,B7]
   exact⟨nk,hf0⟩
  ·have j0:ILt k 0=False:=zIz (by omega)
   have j1:ILt k pts.length=False:=zIz (by unfold InR at nk; omega)
   simp[h1,vl,j0,j1,B6,B7]
   exact⟨nk,hf0⟩
def upF {α:Type}(f:Nat→α) (i:Nat) (v:α):Nat→α:=fun j=>if j=i then v else f j
structure PS where
 u:Nat→US
 r:RLS
 snt:Nat→List UInt8
 cam:Nat→List UInt8
 occ:List Bool
 pts:List FPt
 now:Int
structure PLc where
 l:Nat→Lo
 ls:Lo
 a:Nat→Nat
 rl:Nat
 lk:Nat
 fd:Nat
 kk:Nat
 fo:List Nat
 ko:List Nat
def zPQ (A:PLc) (now:Int):HB:=⟨7,[[.ptr (A.a 0) 0 0,.ptr (A.a 1) 0 0,.ptr A.rl 0 0,.ptr A.lk 0 0,.ptr A.fd 0 0,.ptr A.kk 0 0,.imm (.int .i64 now)]]⟩
def Mg (Z:Nat→Prop) (H:PT HB) (x:DV) (bs:List UInt8):Prop:=(x=.imm .nils∧bs=[])∨∃ id,Z id∧x=.sl id 0 bs.length bs.length∧bs≠[]∧H.get id=some ⟨1,(bs.map ivY).map imms⟩
theorem Mg.mono {Z':Nat→Prop}(h:Mg Z H x bs) (hz:∀ j,Z j→Z' j) (hf:∀ j,Z j→H'.get j=H.get j):Mg Z' H' x bs:=by
 rcases h with h | ⟨id,h1,h2,h3,h4⟩
 ·exact .inl h
 ·exact .inr ⟨id,hz id h1,h2,h3,by rw[hf id h1]; exact h4⟩
theorem Mg.sc(h:Mg Z H x bs):x.scal=true∧x.out=true:=by
 rcases h with⟨rfl,_⟩ | ⟨id,_,rfl,_⟩ <;> exact⟨rfl,rfl⟩
theorem Mg.cl(h:Mg Z H x bs):x.cells=[x]:=by
 rcases h with⟨rfl,_⟩ | ⟨id,_,rfl,_⟩ <;> rfl
theorem Mg.len(h:Mg Z H x bs):lenOf x=some bs.length:=by
 rcases h with⟨rfl,rfl⟩ | ⟨id,_,rfl,_⟩ <;> rfl
def Dj (x y:DV):Prop:=∀ id a b c a' b' c',x=.sl id a b c→y≠.sl id a' b' c'
theorem Dj.nil (x:DV):Dj x (.imm .nils):=fun _ _ _ _ _ _ _ _=>nofun
theorem Dj.nil' (x:DV):Dj (.imm .nils) x:=fun _ _ _ _ _ _ _=>nofun
def LnAt (Z:Nat→Prop) (H:PT HB) (k:Nat) (s c:Nat→List UInt8):Prop:=∃ x0 x1 y0 y1,H.get k=some ⟨4,[[x0,x1,y0,y1]]⟩∧Mg (fun j=>Z j∧j≠k) H x0 (s 0)∧Mg (fun j=>Z j∧j≠k) H x1 (s 1)∧Mg (fun j=>Z j∧j≠k) H y0 (c 0)∧Mg (fun j=>Z j∧j≠k) H y1 (c 1)∧Dj x0 x1
theorem LnAt.mono {Z':Nat→Prop}{s c:Nat→List UInt8}(h:LnAt Z H k s c) (hz:∀ j,Z j→Z' j) (hk:H'.get k=H.get k) (hf:∀ j,Z j→H'.get j=H.get j):LnAt Z' H' k s c:=by
 obtain⟨x0,x1,y0,y1,h0,h1,h2,h3,h4,h5⟩:=h
 have m:∀ {x bs},Mg (fun j=>Z j∧j≠k) H x bs→Mg (fun j=>Z' j∧j≠k) H' x bs:=fun h=>h.mono (fun j q=>⟨hz j q.1,q.2⟩) (fun j q=>hf j q.1)
 exact⟨x0,x1,y0,y1,by rw[hk]; exact h0,m h1,m h2,m h3,m h4,h5⟩
structure PAt (c:Nat→Nat) (H:PT HB) (n P:Nat) (A:PLc) (s:PS):Prop where
 blk:H.get P=some (zPQ A s.now)
 u:∀ i,i<2→UI (fun j=>c j=i) (A.l i) H n (A.a i) (s.u i)
 rl:H.get A.rl=some (zPR s.r)
 lk:LnAt (fun j=>c j=4∧j<n) H A.lk s.snt s.cam
 fd:Fd H A.fd A.fo s.occ s.pts
 kk:∃ rs,LkAt H A.kk A.ko A.ls rs
 cP:c P=2∧P<n
 cr:c A.rl=3∧A.rl<n
 cl:c A.lk=4∧A.lk<n
 cf:∀ i∈A.fd::A.fo,c i=5∧i<n
 ck:∀ i∈A.kk::A.ko,c i=6∧i<n
variable {A:PLc} {P:Nat} {c:Nat→Nat} {s:PS}
theorem PAt.mono {c':Nat→Nat}(h:PAt c H n P A s) (hn:n≤n') (hc:∀ j,j<n→c' j=c j) (hf:∀ j,j<n→c j≤6→H'.get j=H.get j):PAt c' H' n' P A s:=by
 obtain⟨blk,u,rl,lk,fd,kk,cP,cr,cl,cf,ck⟩:=h
 refine⟨by rw[hf P cP.2 (by omega)]; exact blk,fun i hi=>(u i hi).mono hn (fun j hj h=>by rw[hc j hj]; exact h) (fun j hj h=>hf j hj (by omega)),by rw[hf _ cr.2 (by omega)]; exact rl,?_,fd.mono fun i hi=>hf i (cf i hi).2 (by have:=(cf i hi).1; omega),?_,?_,?_,?_,fun i hi=>?_,fun i hi=>?_⟩
 ·exact lk.mono (fun j h=>⟨by rw[hc j h.2]; exact h.1,by omega⟩) (hf _ cl.2 (by omega)) (fun j h=>hf j h.2 (by omega))
 ·obtain⟨rs,kk⟩:=kk
  exact⟨rs,kk.mono fun i hi=>hf i (ck i hi).2 (by have:=(ck i hi).1; omega)⟩
 ·exact⟨by rw[hc P cP.2]; exact cP.1,by omega⟩
 ·exact⟨by rw[hc _ cr.2]; exact cr.1,by omega⟩
 ·exact⟨by rw[hc _ cl.2]; exact cl.1,by omega⟩
 ·have:=cf i hi
  exact⟨by rw[hc i this.2]; exact this.1,by omega⟩
 ·have:=ck i hi
  exact⟨by rw[hc i this.2]; exact this.1,by omega⟩
def rc (c:Nat→Nat) (n k:Nat):Nat→Nat:=fun j=>if j<n then c j else k
theorem zOW {j:Nat}(h:j<n):rc c n k j=c j:=if_pos h
theorem zOV {j:Nat}(h:n≤j):rc c n k j=k:=if_neg (by omega)
def PR (P:Nat) (A:PLc) (c:Nat→Nat) (H:PT HB) (n:Nat) (s':PS) (H':PT HB) (n':Nat):Prop:=n≤n'∧∃ c',PAt c' H' n' P A s'∧(∀ j,j<n→c' j=c j)∧∀ j,j<n→6<c j→H'.get j=H.get j
theorem PR.refl(h:PAt c H n P A s) (hn:n≤n'):PR P A c H n s H n':=⟨hn,c,h.mono hn (fun _ _=>rfl) (fun _ _ _=>rfl),fun _ _=>rfl,fun _ _ _=>rfl⟩
theorem PR.comp {c1:Nat→Nat} {H1 H2:PT HB} {n1 n2:Nat}(hn:n≤n1) (hc:∀ j,j<n→c1 j=c j) (hf:∀ j,j<n→6<c j→H1.get j=H.get j) (h:PR P A c1 H1 n1 s H2 n2):PR P A c H n s H2 n2:=by
 obtain⟨hn2,c2,p2,q2,f2⟩:=h
 exact⟨by omega,c2,p2,fun j hj=>(q2 j (by omega)).trans (hc j hj),fun j hj h6=>(f2 j (by omega) (by rw[hc j hj]; exact h6)).trans (hf j hj h6)⟩
theorem UI.lt(h:UI Z l H n a u):a<n:=by
 obtain⟨p,q,own,x,h⟩:=h
 exact (h.lt a (by simp)).1
theorem PAt.ui(h:PAt c H n P A s)(hi:i<2):UI (fun j=>rc c n i j=i) (A.l i) H n (A.a i) (s.u i):=
 (h.u i hi).mono (Nat.le_refl _) (fun j hj h=>by rw[zOW hj]; exact h) (fun _ _ _=>rfl)
def setU (s:PS) (i:Nat) (u:US):PS:=⟨upF s.u i u,s.r,s.snt,s.cam,s.occ,s.pts,s.now⟩
theorem PAt.setu(h:PAt c H n P A s)(hi:i<2)(r:UR (fun j=>rc c n i j=i) (A.l i) H n (A.a i) u H' n'):PAt (rc c n i) H' n' P A (setU s i u):=by
 obtain⟨hn,hu,hf⟩:=r
 have hf':∀ j,j<n→c j≠i→H'.get j=H.get j:=fun j hj hc=>hf j hj (fun e=>hc ((zOW hj).symm.trans e))
 obtain⟨blk,u0,rl,lk,fd,kk,cP,cr,cl,cf,ck⟩:=h
 refine⟨by rw[hf' P cP.2 (by omega)]; exact blk,fun k hk=>?_,by rw[hf' _ cr.2 (by omega)]; exact rl,?_,fd.mono fun j hj=>hf' j (cf j hj).2 (by have:=(cf j hj).1; omega),?_,?_,?_,?_,fun j hj=>?_,fun j hj=>?_⟩
 ·by_cases e:k=i
  ·subst e
   simpa [setU,upF] using hu
  ·simp only[setU,upF,if_neg e]
   exact (u0 k hk).mono hn (fun j hj h=>by rw[zOW hj]; exact h) (fun j hj h=>hf' j hj (by omega))
 ·exact lk.mono (fun j h=>⟨by rw[zOW h.2]; exact h.1,by omega⟩) (hf' _ cl.2 (by omega)) (fun j h=>hf' j h.2 (by omega))
 ·obtain⟨rs,kk⟩:=kk
  exact⟨rs,kk.mono fun j hj=>hf' j (ck j hj).2 (by have:=(ck j hj).1; omega)⟩
 ·exact⟨by rw[zOW cP.2]; exact cP.1,by omega⟩
 ·exact⟨by rw[zOW cr.2]; exact cr.1,by omega⟩
 ·exact⟨by rw[zOW cl.2]; exact cl.1,by omega⟩
 ·have:=cf j hj
  exact⟨by rw[zOW this.2]; exact this.1,by omega⟩
 ·have:=ck j hj
  exact⟨by rw[zOW this.2]; exact this.1,by omega⟩
theorem PAt.setu_pr(h:PAt c H n P A s)(hi:i<2)(r:UR (fun j=>rc c n i j=i) (A.l i) H n (A.a i) u H' n'):PR P A c H n (setU s i u) H' n':=
 ⟨r.1,_,h.setu hi r,fun j hj=>zOW hj,fun j hj h6=>r.2.2 j hj (fun e=>by have:=(zOW (k:=i) hj).symm.trans e; omega)⟩
def zQn (s:PS) (r:RLS):PS:=⟨s.u,r,s.snt,s.cam,s.occ,s.pts,s.now⟩
theorem PAt.setr(h:PAt c H n P A s) (hn:n≤n')(hr:H'.get A.rl=some (zPR r)) (hf:∀ j,j≠A.rl→H'.get j=H.get j):PR P A c H n (zQn s r) H' n':=by
 obtain⟨blk,u0,rl,lk,fd,kk,cP,cr,cl,cf,ck⟩:=h
 have hf':∀ j,c j≠3→H'.get j=H.get j:=fun j hc=>hf j (fun e=>hc (e▸cr.1))
 refine⟨hn,c,⟨by rw[hf' P (by omega)]; exact blk,fun i hi=>(u0 i hi).mono hn (fun _ _ h=>h) (fun j hj h=>hf' j (by omega)),hr,?_,fd.mono fun i hi=>hf' i (by have:=(cf i hi).1; omega),?_,?_,?_,?_,fun i hi=>?_,fun i hi=>?_⟩,fun _ _=>rfl,fun j hj h6=>hf' j (by omega)⟩
 ·exact lk.mono (fun j h=>⟨h.1,by have:=h.2; omega⟩) (hf' _ (by omega)) (fun j h=>hf' j (by have:=h.1; omega))
 ·obtain⟨rs,kk⟩:=kk
  exact⟨rs,kk.mono fun i hi=>hf' i (by have:=(ck i hi).1; omega)⟩
 ·exact⟨cP.1,by omega⟩
 ·exact⟨cr.1,by omega⟩
 ·exact⟨cl.1,by omega⟩
 ·have:=cf i hi
  exact⟨this.1,by omega⟩
 ·have:=ck i hi
  exact⟨this.1,by omega⟩
def setN (s:PS) (t:Int):PS:=⟨s.u,s.r,s.snt,s.cam,s.occ,s.pts,t⟩
theorem PAt.setn(h:PAt c H n P A s) (hn:n≤n')(hr:H'.get P=some (zPQ A t)) (hf:∀ j,j≠P→H'.get j=H.get j):PR P A c H n (setN s t) H' n':=by
 obtain⟨blk,u0,rl,lk,fd,kk,cP,cr,cl,cf,ck⟩:=h
 have hf':∀ j,c j≠2→H'.get j=H.get j:=fun j hc=>hf j (fun e=>hc (e▸cP.1))
 refine⟨hn,c,⟨hr,fun i hi=>(u0 i hi).mono hn (fun _ _ h=>h) (fun j hj h=>hf' j (by omega)),by rw[hf' _ (by omega)]; exact rl,?_,fd.mono fun i hi=>hf' i (by have:=(cf i hi).1; omega),?_,?_,?_,?_,fun i hi=>?_,fun i hi=>?_⟩,fun _ _=>rfl,fun j hj h6=>hf' j (by omega)⟩
 ·exact lk.mono (fun j h=>⟨h.1,by have:=h.2; omega⟩) (hf' _ (by omega)) (fun j h=>hf' j (by have:=h.1; omega))
 ·obtain⟨rs,kk⟩:=kk
  exact⟨rs,kk.mono fun i hi=>hf' i (by have:=(ck i hi).1; omega)⟩
 ·exact⟨cP.1,by omega⟩
 ·exact⟨cr.1,by omega⟩
 ·exact⟨cl.1,by omega⟩
 ·have:=cf i hi
  exact⟨this.1,by omega⟩
 ·have:=ck i hi
  exact⟨this.1,by omega⟩
def setF (s:PS) (occ:List Bool) (pts:List FPt):PS:=⟨s.u,s.r,s.snt,s.cam,occ,pts,s.now⟩
theorem PAt.setf(h:PAt c H n P A s) (hn:n≤n')(hr:Fd H' A.fd A.fo occ pts) (hf:∀ j,j∉A.fo→H'.get j=H.get j):PR P A c H n (setF s occ pts) H' n':=by
 obtain⟨blk,u0,rl,lk,fd,kk,cP,cr,cl,cf,ck⟩:=h
 have hf':∀ j,c j≠5→H'.get j=H.get j:=fun j hc=>hf j (fun e=>hc (cf j (by simp[e])).1)
 refine⟨hn,c,⟨by rw[hf' P (by omega)]; exact blk,fun i hi=>(u0 i hi).mono hn (fun _ _ h=>h) (fun j hj h=>hf' j (by omega)),by rw[hf' _ (by omega)]; exact rl,?_,hr,?_,?_,?_,?_,fun i hi=>?_,fun i hi=>?_⟩,fun _ _=>rfl,fun j hj h6=>hf' j (by omega)⟩
 ·exact lk.mono (fun j h=>⟨h.1,by have:=h.2; omega⟩) (hf' _ (by omega)) (fun j h=>hf' j (by have:=h.1; omega))
 ·obtain⟨rs,kk⟩:=kk
  exact⟨rs,kk.mono fun i hi=>hf' i (by have:=(ck i hi).1; omega)⟩
 ·exact⟨cP.1,by omega⟩
 ·exact⟨cr.1,by omega⟩
 ·exact⟨cl.1,by omega⟩
 ·have:=cf i hi
  exact⟨this.1,by omega⟩
 ·have:=ck i hi
  exact⟨this.1,by omega⟩
def setL (s:PS) (snt cam:Nat→List UInt8):PS:=⟨s.u,s.r,snt,cam,s.occ,s.pts,s.now⟩
theorem PAt.setl(h:PAt c H n P A s) (hn:n≤n'){snt cam:Nat→List UInt8}(hr:LnAt (fun j=>rc c n 4 j=4∧j<n') H' A.lk snt cam) (hf:∀ j,c j≠4→j<n→H'.get j=H.get j):PR P A c H n (setL s snt cam) H' n':=by
 obtain⟨blk,u0,rl,lk,fd,kk,cP,cr,cl,cf,ck⟩:=h
 have hf':∀ j,j<n→c j≠4→H'.get j=H.get j:=fun j hj hc=>hf j hc hj
 refine⟨hn,rc c n 4,⟨by rw[hf' P cP.2 (by omega)]; exact blk,fun i hi=>(u0 i hi).mono hn (fun j hj h=>by rw[zOW hj]; exact h) (fun j hj h=>hf' j hj (by omega)),by rw[hf' _ cr.2 (by omega)]; exact rl,hr,fd.mono fun i hi=>hf' i (cf i hi).2 (by have:=(cf i hi).1; omega),?_,?_,?_,?_,fun i hi=>?_,fun i hi=>?_⟩,fun j hj=>zOW hj,fun j hj h6=>hf' j hj (by omega)⟩
 ·obtain⟨rs,kk⟩:=kk
  exact⟨rs,kk.mono fun i hi=>hf' i (ck i hi).2 (by have:=(ck i hi).1; omega)⟩
 ·exact⟨by rw[zOW cP.2]; exact cP.1,by omega⟩
 ·exact⟨by rw[zOW cr.2]; exact cr.1,by omega⟩
 ·exact⟨by rw[zOW cl.2]; exact cl.1,by omega⟩
 ·have:=cf i hi
  exact⟨by rw[zOW this.2]; exact this.1,by omega⟩
 ·have:=ck i hi
  exact⟨by rw[zOW this.2]; exact this.1,by omega⟩
theorem zO9 {K:Go.PM.Callee}{f:FuncId}{args:List DV}(ho:DV.out.outs args=true) (ha:a<n) (h:Fe (K f args H n n) (fun v' H' n'=>n≤n'∧v'=.ptr a 0 0)) :
  ∃ m,zDz K .ro f args H n lo=some ⟨.ptr a 0 0,H,m,[.rA]⟩∧n≤m:=by
 obtain⟨v',H',n',e,h1,rfl⟩:=h
 refine⟨n',?_,h1⟩
 rw[zD3,if_pos ho,e]
 simp[frz,ha]
theorem il02:ILt 0 2=True:=zI3 (by decide)
theorem il12:ILt 1 2=True:=zI3 (by decide)
theorem il10:ILt 1 0=False:=zIz (by decide)
theorem zC0(h:PAt c H n P A s)(hi:i<2)(hm:n≤m) :
  ∃ k,zDz (K DG (d+1)) .ro 57 [.ptr P 0 0,.imm (.int .i64 (i:Int))] H m lo=some ⟨.ptr (A.a i) 0 0,H,k,[.rA]⟩∧m≤k:=by
 have hb:=h.blk
 simp only[zPQ] at hb
 refine zO9 rfl (by have:=(h.u i hi).lt; omega) ?_
 rw[kX 57 D.f57 rfl]
 refine zHy rfl ?_
 rcases i with _ | _ | i
 ·simp[hb,il02,B6,B7]
 ·simp[hb,il12,il10,B6,B7]
 ·omega
theorem zCz(h:PAt c H n P A s){i:Int}(hi:¬(0≤i∧i<2)) :
  ∃ k,zDz (K DG (d+1)) .ro 57 [.ptr P 0 0,.imm (.int .i64 i)] H m lo=some ⟨.imm .nilp,H,k,[.rA]⟩∧m≤k:=by
 refine zO8 rfl ?_
 rw[kX 57 D.f57 rfl]
 refine zHy rfl ?_
 by_cases h0:i<0
 ·simp[zI3 h0,B6,B7]
 ·simp[zIz (Int.not_lt.1 h0),zIz (show (2:Int)≤i by omega),B6,B7]
theorem zBL(h:PAt c H n P A s)(hi:i<2) (hl:(s.u i).rs.length≤1000)(hd:3≤d) (hm:n≤m) :
  ∃ w k,zDz (K DG (d+2)) .ro 15 [.ptr P 0 0,.imm (.int .i64 (i:Int))] H m lo=some ⟨.imm w,H,k,[.rA]⟩∧m≤k∧Sl 4 w ((s.u i).rs.map ivRS):=by
 obtain⟨k1,e1,hk1⟩:=zC0 h hi (d:=d) (m:=m) (lo:=m) hm
 obtain⟨p,q,own,x,hu⟩:=h.u i hi
 obtain⟨w,k2,e2,hk2,hw⟩:=zSx hu hl (d:=d) (m:=k1) (lo:=m) (by omega)
 have ws:=hw.scal
 have key:Fe (K DG (d+1+1) 15 [.ptr P 0 0,.imm (.int .i64 (i:Int))] H m m) (fun v' H' n'=>m≤n'∧v'=.imm w):=by
  rw[kX 15 D.f15 rfl]
  refine zHy rfl ?_
  simp[e1,e2,ws,B6,B7]
  omega
 obtain⟨k',e',hk'⟩:=zO8 (lo:=lo) rfl key
 exact⟨w,k',e',hk',hw⟩
theorem zBH(h:PAt c H n P A s) :
  ∃ k,zDz (K DG (d+2)) .ro 14 [.ptr P 0 0] H m lo=some ⟨.imm (.int .i64 s.r.con),H,k,[.rA]⟩∧m≤k:=by
 have hb:=h.blk
 simp only[zPQ] at hb
 refine zO8 rfl ?_
 rw[kX 14 D.f14 rfl]
 refine zHy rfl ?_
 obtain⟨k1,e1,hk1⟩:=zOf h.rl (d:=d) (n:=m) (lo:=m)
 simp[hb,e1,B6,B7]
 omega
theorem zBK(h:PAt c H n P A s) :
  ∃ k,zDz (K DG (d+1)) .ro 29 [.ptr P 0 0] H m lo=some ⟨.imm (.int .i64 s.now),H,k,[.rA]⟩∧m≤k:=by
 have hb:=h.blk
 simp only[zPQ] at hb
 refine zO8 rfl ?_
 rw[kX 29 D.f29 rfl]
 refine zHy rfl ?_
 simp[hb,B6,B7]
structure EV where
 k:Int
 u:Int
 n:Int
 c:Int
 r:Int
def ivE (e:EV):List IV:=[.int .i64 e.k,.int .i64 e.u,.int .i64 e.n,.int .i64 e.c,.int .i64 e.r]
def evD (e:EV):DV:=.agg [.imm (.int .i64 e.k),.imm (.int .i64 e.u),.imm (.int .i64 e.n),.imm (.int .i64 e.c),.imm (.int .i64 e.r)]
instance:Inhabited EV:=⟨⟨0,0,0,0,0⟩⟩
structure AOk (A:PLc):Prop where
 ok:∀ i,i<2→LoOk (A.l i)
 is:∀ i,i<2→ISL (A.l i)
 oks:LoOk A.ls
 iss:ISL A.ls
theorem zEw:Fe (K DG (d+1) 82 [.imm .nilp] H n 0) (fun v H' n'=>H'=H∧n≤n'):=by
 rw[kX 82 D.f82 rfl]
 refine zHy rfl ?_
 simp[B6,B7]
theorem zRY:Fe (K DG (d+1) 83 [.imm .nilp] H n 0) (fun v H' n'=>H'=H∧n≤n'):=by
 rw[kX 83 D.f83 rfl]
 refine zHy rfl ?_
 simp[B6,B7]
theorem zTe:Fe (K DG (d+1) 97 [.imm .nilp] H n 0) (fun v H' n'=>v=.imm (.bool false)∧H'=H∧n≤n'):=by
 rw[kX 97 D.f97 rfl]
 refine zHy rfl ?_
 simp[B6,B7]
open Classical in
noncomputable def zSn (occ:List Bool) (k:Int):List Bool:=if InR k occ.length then zHt occ k else occ
open Classical in
noncomputable def zRf (pts:List FPt) (k:Int):List FPt:=if InR k pts.length then pts.set k.toNat ⟨0,0,0⟩ else pts
def Un (k:Int):Prop:=0≤k∧k<2
instance {k:Int}:Decidable (Un k):=inferInstanceAs (Decidable (_∧_))
noncomputable def hapF (A:PLc) (s:PS) (e:EV):PS:=
 if e.k=1 then if Un e.u then setU s e.u.toNat (zEv (A.l e.u.toNat) (s.u e.u.toNat)) else s
 else if e.k=2 then if Un e.u then setU s e.u.toNat (zRX (s.u e.u.toNat)) else s
 else if e.k=7 then setF s (zSn s.occ e.n) s.pts
 else if e.k=10 then setF s s.occ (zRf s.pts e.n)
 else s
theorem zIb(hd:10≤d)(h:PAt c H n P A s) (ao:AOk A) (h0:s.occ≠[]) (e:EV) :
  Fe (K DG (d+4) 46 [.ptr P 0 0,evD e] H n 0) (fun v H' n'=>PR P A c H n (hapF A s e) H' n'):=by
 have hb:=h.blk
 simp only[zPQ] at hb
 obtain⟨k,u,y,c1,r1⟩:=e
 have h1:=h.mono (c':=c) (n':=n+1) (by omega) (fun _ _=>rfl) (fun _ _ _=>rfl)
 unfold hapF evD
 simp only
 rw[kX 46 D.f46 rfl]
 refine zHy rfl ?_
 by_cases k1:k=1
 ·rw[if_pos k1,k1]
  by_cases hu:Un u
  ·obtain⟨i,hi⟩:∃ i:Nat,u=i:=⟨u.toNat,by unfold Un at hu; omega⟩
   have hi2:i<2:=by unfold Un at hu; omega
   rw[if_pos hu,hi,Int.toNat_natCast]
   obtain⟨m1,e1,hm1⟩:=zC0 h hi2 (d:=d+2) (m:=n+1) (lo:=0) (by omega)
   have h2:=h.mono (c':=c) (n':=m1) (by omega) (fun _ _=>rfl) (fun _ _ _=>rfl)
   obtain⟨v,H',n',e2,r⟩:=zAb (d:=d) hd (ao.ok i hi2) (ao.is i hi2) (h2.ui hi2) (fun j hj=>zOV hj)
   have fin:PR P A c H n (setU s i (zEv (A.l i) (s.u i))) H' n':=PR.comp (by omega) (fun _ _=>rfl) (fun _ _ _=>rfl) (h2.setu_pr hi2 r)
   simp[e1,e2,B6,B7]
   exact fin
  ·rw[if_neg hu]
   obtain⟨m1,e1,hm1⟩:=zCz h hu (d:=d+2) (m:=n+1) (lo:=0)
   obtain⟨v,H2,n',e2,hH,hn⟩:=zEw (d:=d+2) (H:=H) (n:=m1)
   rw[hH] at e2
   have fin:PR P A c H n s H n':=PR.refl h (by omega)
   simp[e1,e2,B6,B7]
   exact fin
 rw[if_neg k1]
 by_cases k2:k=2
 ·rw[if_pos k2,k2]
  by_cases hu:Un u
  ·obtain⟨i,hi⟩:∃ i:Nat,u=i:=⟨u.toNat,by unfold Un at hu; omega⟩
   have hi2:i<2:=by unfold Un at hu; omega
   rw[if_pos hu,hi,Int.toNat_natCast]
   obtain⟨m1,e1,hm1⟩:=zC0 h hi2 (d:=d+2) (m:=n+1) (lo:=0) (by omega)
   have h2:=h.mono (c':=c) (n':=m1) (by omega) (fun _ _=>rfl) (fun _ _ _=>rfl)
   obtain⟨v,H',n',e2,_,r⟩:=zBc (d:=d+2) (h2.ui hi2)
   have fin:PR P A c H n (setU s i (zRX (s.u i))) H' n':=PR.comp (by omega) (fun _ _=>rfl) (fun _ _ _=>rfl) (h2.setu_pr hi2 r)
   simp[e1,e2,B6,B7]
   exact fin
  ·rw[if_neg hu]
   obtain⟨m1,e1,hm1⟩:=zCz h hu (d:=d+2) (m:=n+1) (lo:=0)
   obtain⟨v,H2,n',e2,hH,hn⟩:=zRY (d:=d+2) (H:=H) (n:=m1)
   rw[hH] at e2
   have fin:PR P A c H n s H n':=PR.refl h (by omega)
   simp[e1,e2,B6,B7]
   exact fin
 rw[if_neg k2]
 by_cases k7:k=7
 ·rw[if_pos k7,k7]
  obtain⟨v,H',n',e2,rfl,f2,g2⟩:=zBl (d:=d+2) h.fd h0 y (n+1)
  have fin:PR P A c H n (setF s (zSn s.occ y) s.pts) H' (n+1):=by
   rcases g2 with⟨g1,_,g2⟩ | ⟨g1,_,g2⟩
   ·unfold zSn
    rw[if_pos g1]
    exact h.setf (by omega) g2 f2
   ·unfold zSn
    rw[if_neg g1]
    exact h.setf (by omega) g2 f2
  simp[hb,e2,B6,B7]
  exact fin
 rw[if_neg k7]
 by_cases k10:k=10
 ·rw[if_pos k10,k10]
  obtain⟨v,H',n',e2,rfl,f2,g2⟩:=zBf (d:=d+2) h.fd y (n+1)
  have fin:PR P A c H n (setF s s.occ (zRf s.pts y)) H' (n+1):=by
   rcases g2 with⟨g1,_,g2⟩ | ⟨g1,_,g2⟩
   ·unfold zRf
    rw[if_pos g1]
    exact h.setf (by omega) g2 f2
   ·unfold zRf
    rw[if_neg g1]
    exact h.setf (by omega) g2 f2
  simp[hb,e2,B6,B7]
  exact fin
 rw[if_neg k10]
 have fin:∀ m,n≤m→PR P A c H n s H m:=fun m hm=>PR.refl h hm
 simp[k1,k2,k7,k10,B6,B7]
 exact fin _ (by omega)
theorem zK2{f:FuncId}{caps:List DV}{P:EV→Prop}{xs:List EV}(ho:DV.out.outs caps=true) (hs:Says d f caps H n0 evD P (fun x=>x∈xs)) (hv:Sl 5 v (xs.map ivE)) (hl:xs.length≤reachBytes)(h:IIF v f caps H n0 P xs 0 st)
  (hk:∀ e st',n0≤st'.n→(e=.ret∧(∃ r:Nat,st'.T.get 4=some (.imm (.int .i64 r)))∧(∃ x∈xs,P x))∨(e=.exit 0∧¬∃ x∈xs,P x)→Bk DG (K DG d) lo e ks st' Q) :
  Wp DG (K DG d) lo D.l124_0 ks st Q:=by
 refine zGt (N:=xs.length) (zRH hl) (IIF v f caps H n0 P xs) (fun e st'=>n0≤st'.n∧((e=.ret∧(∃ r:Nat,st'.T.get 4=some (.imm (.int .i64 r)))∧(∃ x∈xs,P x))∨(e=.exit 0∧¬∃ x∈xs,P x))) (fun i st hle hI=>?_) h (fun e s' h=>hk e s' h.1 h.2)
 obtain⟨h0,h1,h7,h8,hH,hn,hall⟩:=hI
 by_cases hi:i<xs.length
 ·have hi':(i:Int)<xs.length:=by omega
  have hj':=zI3 hi'
  have hw8:IntKind.i64.wrap ((i:Int)+1)=(i:Int)+1:=zTX hi hl
  have ix:=zIu hv hi'
  obtain⟨H1,n1,e1,e2⟩:=hs (nth xs i) (zMi hi) st.n hn
  simp only[evD] at e1
  have no:¬P (nth xs i)→∀ j,j<i+1→¬P (nth xs j):=fun h j hj=>by
   rcases Nat.lt_or_eq_of_le (Nat.le_of_lt_succ hj) with hj | rfl
   ·exact hall j hj
   ·exact h
  generalize hQ:(fun (e:Ex) (s':St)=>_)=Q'
  simp only[D.l124_0b]
  simp +contextual (maxSteps:=2000000) [h0,h1,h7,h8,hH,hj',hw8,ix,ivE,ho,e1,B6,B7]
  subst hQ
  simp only[IIF]
  refine⟨fun a=>.inr ⟨by simp,by omega,.inl ⟨trivial,⟨i,by simp[gP]⟩,_,zMi hi,a⟩⟩,fun a=>.inl ⟨trivial,hi,by simp[gP],by simp[gP],by simp[gP],by simp[gP],trivial,by omega,no a⟩⟩
 ·obtain rfl:i=xs.length:=by omega
  generalize hQ:(fun (e:Ex) (s':St)=>_)=Q'
  simp only[D.l124_0b]
  simp[h0,h1,h7,h8,B6,B7]
  subst hQ
  simp
  refine⟨hn,fun z hm hp=>?_⟩
  obtain⟨j,hj,e⟩:=zL2 hm
  exact hall j hj (e▸hp)
theorem zEn{f:FuncId}{caps:List DV}{P:EV→Prop}{xs:List EV}(ho:DV.out.outs caps=true) (hs:Says d f caps H n evD P (fun x=>x∈xs)) (hv:Sl 5 v (xs.map ivE)) (hl:xs.length≤reachBytes) (lo:Nat) :
  Fe (K DG (d+2) 89 [.imm v,.fnc f caps] H n lo) (fun x _ n'=>n≤n'∧x=.imm (.bool (dec (∃ x∈xs,P x)))):=by
 have key:Fe (K DG (d+1) 124 [.imm v,.fnc f caps] H n n) (fun x _ n'=>n≤n'∧∃ r:Int,x=.imm (.int .i64 r)∧(0≤r↔∃ x∈xs,P x)):=by
  have vl:=hv.len
  simp only[List.length_map] at vl
  rw[kX 124 D.f124 rfl]
  refine zHy rfl ?_
  simp[vl,B6,B7]
  refine zK2 (P:=P) ho hs hv hl ⟨by simp[gP],by simp[gP],by simp[gP],by simp[gP],rfl,Nat.le_refl _,fun j hj=>by omega⟩ ?_
  rintro e st' hn (⟨rfl,⟨r,h4⟩,hm⟩ | ⟨rfl,hm⟩)
  ·simp[h4,hn,B6,B7]
   exact hm
  ·simp[hn,B6,B7]
   simpa using hm
 obtain⟨x,H1,n1,e,hn,r,rfl,hr⟩:=key
 rw[kX 89 D.f89 rfl]
 refine zHy rfl ?_
 rw[← zFV hr]
 simp[ho,e,B6,B7]
 refine⟨hn,?_⟩
 by_cases h:0≤r
 ·simp[h,zIz h,zFe]
 ·simp[h,zI3 (show r<0 by omega),zFY]
def Has (es:List EV) (k i:Int):Prop:=∃ e∈es,e.k=k∧e.u=i
variable {es:List EV}
theorem zM1 {D:Nat}(hD:5≤D)(hv:Sl 5 v (es.map ivE)) (hl:es.length≤reachBytes) (k i:Int):bl (K DG D) 48 [.imm v,.imm (.int .i64 k),.imm (.int .i64 i)]=some (.imm (.bool (dec (Has es k i)))):=by
 obtain⟨d,rfl⟩:∃ d,D=d+4:=⟨D - 4,by omega⟩
 have says:∀ {H:PT HB}{a b n0:Nat},H.get a=some ⟨1,[[.imm (.int .i64 k)]]⟩→H.get b=some ⟨1,[[.imm (.int .i64 i)]]⟩→Says (d+1) 90 [.ptr a 0 0,.ptr b 0 0] H n0 evD (fun e=>e.k=k∧e.u=i) (fun _=>True):=fun {H a b n0} ha hb x _ n hn=>by
  have key:Fe (K DG (d+1) 90 [evD x,.ptr a 0 0,.ptr b 0 0] H n n) (fun x' _ n'=>n≤n'∧x'=.imm (.bool (dec (x.k=k∧x.u=i)))):=by
   obtain⟨x1,x2,x3,x4,x5⟩:=x
   unfold evD
   rw[kX 90 D.f90 rfl]
   refine zHy rfl ?_
   by_cases h1:x1=k
   ·by_cases h2:x2=i
    ·rw[zFd ⟨h1,h2⟩]
     simp[ha,hb,h1,h2,B6,B7]
    ·rw[zFX (fun h=>h2 h.2)]
     simp[ha,hb,h1,h2,B6,B7]
   ·rw[zFX (fun h=>h1 h.1)]
    simp[ha,hb,h1,B6,B7]
  obtain⟨x,H1,n1,e,h1,rfl⟩:=key
  exact⟨H1,n1,e,h1⟩
 have key:Fe (K DG (d+3+1) 48 [.imm v,.imm (.int .i64 k),.imm (.int .i64 i)] .lf 0 0) (fun x _ n'=>x=.imm (.bool (dec (Has es k i)))):=by
  have vs:=hv.scal
  rw[kX 48 D.f48 rfl]
  refine zHy rfl ?_
  have hc:∀ {H:PT HB},H.get 0=some ⟨1,[[.imm (.int .i64 k)]]⟩→H.get 1=some ⟨1,[[.imm (.int .i64 i)]]⟩→∃ m,zDz (K DG (d+3)) .ro 89 [.imm v,.fnc 90 [.ptr 0 0 0,.ptr 1 0 0]] H 2 0=some ⟨.imm (.bool (dec (Has es k i))),H,m,[.rA]⟩∧2≤m:=fun {H} ha hb=>by
   refine zO8 rfl ?_
   obtain⟨x,H1,n1,e,hn,rfl⟩:=zEn (d:=d+1) (n:=2) rfl (Says.all (says ha hb)) hv hl 2
   exact⟨_,H1,n1,e,hn,rfl⟩
  obtain⟨m,e,hm⟩:=hc (H:=(PT.lf.put 0 (some ⟨1,[[.imm (.int .i64 k)]]⟩)).put 1 (some ⟨1,[[.imm (.int .i64 i)]]⟩)) (by simp[gP]) (by simp[gP])
  simp[vs,e,B6,B7]
 obtain⟨x,H,n,e,rfl⟩:=key
 exact zDf e rfl
theorem zEb{w:IV}{es:List (List IV)}(hv:Sl 1 w es) (he:es≠[]) (hl:es.length≤2 ^ 25) (H:PT HB) (n:Nat):∃ H',K DG (d+1) 141 [.imm w] H n 0=some (.sl n 0 es.length es.length,H',n+1)∧H'.get n=some ⟨1,es.map imms⟩∧∀ j,j≠n→H'.get j=H.get j:=by
 have key:Fe (K DG (d+1) 141 [.imm w] H n 0) (fun x H' n'=>x=.sl n 0 es.length es.length∧n'=n+1∧H'.get n=some ⟨1,es.map imms⟩∧∀ j,j≠n→H'.get j=H.get j):=by
  have p1:=fun {h:Nat→Option HB}{n:Nat}=>zCW (bytes:=1) (h:=h) (n:=n) hv he (by omega) hl (by omega)
  rcases hv with⟨rfl,h⟩ | ⟨f,rfl⟩
  ·exact absurd h he
  ·rw[kX 141 D.f141 rfl]
   refine zHy rfl ?_
   simp +contextual [p1,zHH,lay,zS4,zS2,mapO,zPT,B6,B7]
 obtain⟨x,H',n',e,rfl,rfl,h1,h2⟩:=key
 exact⟨H',e,h1,h2⟩
theorem zJZ(hi:i<2):∃ m',zDz (K DG (d+1)) .ro 96 [.ptr k 0 0,.imm (.int .i64 (i:Int))] H m lo=some ⟨.imm (.bool true),H,m',[.rA]⟩∧m≤m':=by
 refine zO8 rfl ?_
 rw[kX 96 D.f96 rfl]
 refine zHy rfl ?_
 rcases i with _ | _ | i
 ·simp[il02,B6,B7]
 ·simp[il12,il10,B6,B7]
 ·omega
structure TkV (H:PT HB) (x:DV) (bs:List UInt8):Prop where
 sc:x.scal=true∧x.out=true
 sn:∃ w,snap H.get x=some (.imm w)∧Sl 1 w (bs.map ivY)
theorem Mg.tkv(h:Mg Z H x bs):TkV H x bs:=by
 refine⟨h.sc,?_⟩
 rcases h with⟨rfl,rfl⟩ | ⟨id,_,rfl,_,h4⟩
 ·exact⟨.nils,rfl,.inl ⟨rfl,rfl⟩⟩
 ·exact⟨_,zRL h4 (by simp),.inr ⟨false,rfl⟩⟩
theorem Mg.putk{hb:Option HB}(h:Mg (fun j=>Z j∧j≠k) H x bs):Mg (fun j=>Z j∧j≠k) (H.put k hb) x bs:=h.mono (fun _ q=>q) (fun j q=>by simp[gP,q.2])
theorem zBg(h:PAt c H n P A s)(hi:i<2) :
  ∃ x H' n',K DG (d+2) 50 [.ptr A.lk 0 0,.imm (.int .i64 (i:Int))] H n 0=some (x,H',n')∧TkV H' x (s.cam i)∧PR P A c H n (setL s s.snt (upF s.cam i [])) H' n':=by
 obtain⟨x0,x1,y0,y1,hb,h1,h2,h3,h4,h5⟩:=h.lk
 obtain⟨m,e,hm⟩:=zJZ (d:=d) (m:=n) (lo:=0) (k:=A.lk) (H:=H) hi
 have nl:∀ (H:PT HB),Mg (fun j=>(c j=4∧j<n)∧j≠A.lk) H (.imm .nils) []:=fun _=>.inl ⟨rfl,rfl⟩
 have key:Fe (K DG (d+1+1) 50 [.ptr A.lk 0 0,.imm (.int .i64 (i:Int))] H n 0) (fun v H' n'=>TkV H' v (s.cam i)∧n≤n'∧LnAt (fun j=>c j=4∧j<n) H' A.lk s.snt (upF s.cam i [])∧∀ j,j≠A.lk→H'.get j=H.get j):=by
  rw[kX 50 D.f50 rfl]
  refine zHy rfl ?_
  have s0:=h1.sc
  have s1:=h2.sc
  have s2:=h3.sc
  have s3:=h4.sc
  obtain rfl | rfl:i=0∨i=1:=by omega
  ·rw[show ((0:Nat):Int)=0 from rfl] at e ⊢
   simp +contextual [hb,e,s0,s1,s2,s3,B6,B7]
   exact⟨h3.putk.tkv,hm,x0,x1,.imm .nils,y1,by simp[gP],h1.putk,h2.putk,by simpa [upF] using nl _,by simpa [upF] using h4.putk,h5⟩
  ·rw[show ((1:Nat):Int)=1 from rfl] at e ⊢
   simp +contextual [hb,e,s0,s1,s2,s3,B6,B7]
   exact⟨h4.putk.tkv,hm,x0,x1,y0,.imm .nils,by simp[gP],h1.putk,h2.putk,by simpa [upF] using h3.putk,by simpa [upF] using nl _,h5⟩
 obtain⟨v,H',n',e2,hv,hn,hl,hf⟩:=key
 exact⟨v,H',n',e2,hv,h.setl hn (hl.mono (fun j q=>⟨by rw[zOW q.2]; exact q.1,by omega⟩) rfl (fun _ _=>rfl)) (fun j h1 _=>hf j (fun e=>h1 (e▸h.cl.1)))⟩
def zQh (s:PS) (i:Nat) (bs:List UInt8):PS:=if bs=[] then s else setL s (upF s.snt i bs) s.cam
theorem zAq(h:PAt c H n P A s)(hi:i<2){w:IV}(hw:Sl 1 w (bs.map ivY)) (hl:bs.length≤100000) :
  Fe (K DG (d+2) 105 [.ptr A.lk 0 0,.imm (.int .i64 (i:Int)),.imm w] H n 0) (fun v H' n'=>PR P A c H n (zQh s i bs) H' n'):=by
 obtain⟨x0,x1,y0,y1,hb,h1,h2,h3,h4,h5⟩:=h.lk
 obtain⟨m,e,hm⟩:=zJZ (d:=d) (m:=n) (lo:=0) (k:=A.lk) (H:=H) hi
 have ws:=hw.scal
 have wl:=hw.len
 simp only[List.length_map] at wl
 rw[kX 105 D.f105 rfl]
 refine zHy rfl ?_
 by_cases hbs:bs=[]
 ·subst hbs
  simp only[zQh,if_true]
  simp at wl
  simp[e,ws,wl,zI2,B6,B7]
  exact PR.refl h (by omega)
 ·obtain⟨H2,e2,g2,f2⟩:=zEb (d:=d) hw (by simpa using hbs) (by simp; omega) H m
  simp only[List.length_map] at e2
  have hlen:0<bs.length:=List.length_pos_iff.2 hbs
  have il:ILt 0 (bs.length:Int)=True:=zI3 (by omega)
  have lk0:=h.cl
  have hb2:H2.get A.lk=some ⟨4,[[x0,x1,y0,y1]]⟩:=by rw[f2 _ (by omega)]; exact hb
  unfold zQh
  rw[if_neg hbs]
  have s0:=h1.sc
  have s1:=h2.sc
  have s2:=h3.sc
  have s3:=h4.sc
  have mv:∀ {x bs}(r:Option HB),Mg (fun j=>(c j=4∧j<n)∧j≠A.lk) H x bs→Mg (fun j=>(rc c n 4 j=4∧j<m+1)∧j≠A.lk) (H2.put A.lk r) x bs:=fun r h=>h.mono (fun j q=>⟨⟨by rw[zOW q.1.2]; exact q.1.1,by omega⟩,q.2⟩) (fun j q=>by simp[gP,q.2]; exact f2 j (by omega))
  have nw:∀ (r:Option HB),Mg (fun j=>(rc c n 4 j=4∧j<m+1)∧j≠A.lk) (H2.put A.lk r) (.sl m 0 bs.length bs.length) bs:=fun r=>.inr ⟨m,⟨⟨zOV hm,by omega⟩,by omega⟩,rfl,hbs,by
   have:¬m=A.lk:=by omega
   simp[gP,this]
   simpa using g2⟩
  have dj:∀ {x bs},Mg (fun j=>(c j=4∧j<n)∧j≠A.lk) H x bs→Dj x (.sl m 0 bs.length bs.length)∧∀ k,Dj x (.sl m 0 k k)∧Dj (.sl m 0 k k) x:=fun {x bs} h=>by
   rcases h with⟨rfl,_⟩ | ⟨id,q,rfl,_⟩
   ·exact⟨Dj.nil' _,fun k=>⟨Dj.nil' _,Dj.nil _⟩⟩
   ·refine⟨fun a _ _ _ _ _ _ e1 e2=>?_,fun k=>⟨fun a _ _ _ _ _ _ e1 e2=>?_,fun a _ _ _ _ _ _ e1 e2=>?_⟩⟩ <;>
    ·simp only[DV.sl.injEq] at e1 e2
     omega
  have fin:∀ {H' n'},n≤n'→LnAt (fun j=>rc c n 4 j=4∧j<n') H' A.lk (upF s.snt i bs) s.cam→(∀ j,j≠A.lk→j≠m→H'.get j=H.get j)→PR P A c H n (setL s (upF s.snt i bs) s.cam) H' n':=fun h1 h2 h3=>h.setl h1 h2 (fun j q h=>h3 j (fun e=>q (e▸lk0.1)) (by omega))
  obtain rfl | rfl:i=0∨i=1:=by omega
  ·rw[show ((0:Nat):Int)=0 from rfl] at e ⊢
   simp +contextual [hb2,e,e2,ws,wl,il,s0,s1,s2,s3,B6,B7]
   exact fin (by omega) ⟨.sl m 0 bs.length bs.length,x1,y0,y1,by simp[gP],by simpa [upF] using nw _,by simpa [upF] using mv _ h2,mv _ h3,mv _ h4,((dj h2).2 _).2⟩ (fun j hj hm=>by simp[gP,hj]; exact f2 j hm)
  ·rw[show ((1:Nat):Int)=1 from rfl] at e ⊢
   simp +contextual [hb2,e,e2,ws,wl,il,s0,s1,s2,s3,B6,B7]
   exact fin (by omega) ⟨x0,.sl m 0 bs.length bs.length,y0,y1,by simp[gP],by simpa [upF] using mv _ h1,by simpa [upF] using nw _,mv _ h3,mv _ h4,((dj h1).2 _).1⟩ (fun j hj hm=>by simp[gP,hj]; exact f2 j hm)
def zRO (sp:Int) (bs:List UInt8):List UInt8:=if bs=[]∨sp<0 then bs else bs.set (sp % (bs.length:Int)).toNat (nth bs (sp % (bs.length:Int)).toNat ^^^ 1)
theorem zRP (sp:Int) (bs:List UInt8):(zRO sp bs).length=bs.length:=by
 unfold zRO
 split <;> simp
theorem zRR (sp:Int):zRO sp []=[]:=if_pos (.inl rfl)
theorem zRQ {sp:Int}(h:sp<0) (bs:List UInt8):zRO sp bs=bs:=if_pos (.inr h)
def zEB (s:Nat→List UInt8) (lose:Bool) (sp:Int) (j:Nat):List UInt8:=if lose then [] else zRO sp (s (1 - j))
def TnR (Z:Nat→Prop) (k:Nat) (s:Nat→List UInt8) (x0 x1:DV) (lose:Bool) (sp:Int) (H:PT HB):Nat→Prop
 | 0=>∃ y0 y1,H.get k=some ⟨4,[[x0,x1,y0,y1]]⟩∧Mg Z H x0 (s 0)∧Mg Z H x1 (s 1)∧Dj x0 x1
 | 1=>∃ y0 b0,H.get k=some ⟨4,[[.imm .nils,x1,y0,b0]]⟩∧Mg Z H x1 (s 1)∧Mg Z H b0 (zEB s lose sp 1)∧Dj b0 x1
 | _=>∃ b1 b0,H.get k=some ⟨4,[[.imm .nils,.imm .nils,b1,b0]]⟩∧Mg Z H b1 (zEB s lose sp 0)∧Mg Z H b0 (zEB s lose sp 1)
structure ITn (Z:Nat→Prop) (H0:PT HB) (n0 k:Nat) (s:Nat→List UInt8) (x0 x1:DV) (lose:Bool) (sp:Int) (i:Nat) (st:St):Prop where
 c0:st.T.get 0=some (.ptr k 0 0)
 c1:st.T.get 1=some (.imm (.bool lose))
 c2:st.T.get 2=some (.imm (.int .i64 sp))
 c13:st.T.get 13=some (.agg [x0,x1])
 c14:st.T.get 14=some (.imm (.int .i64 (i:Int)))
 ln:TnR (fun j=>Z j∧j≠k) k s x0 x1 lose sp st.H i
 fr:∀ j,¬Z j→st.H.get j=H0.get j
 hn:n0≤st.n
set_option maxRecDepth 100000 in
theorem zTb (b:UInt8):zDM .xor .u8 (b.toNat:Int) 1=some (.int .u8 ((b ^^^ 1).toNat:Int)):=by
 have h:∀ b:_root_.Fin 256,IntKind.u8.wrap ((BitVec.ofInt IntKind.u8.bits ((UInt8.ofNat b.val).toNat:Int) ^^^ BitVec.ofInt IntKind.u8.bits 1).toNat:Int)=((UInt8.ofNat b.val ^^^ 1).toNat:Int):=by decide
 have:=h ⟨b.toNat,b.toNat_lt⟩
 simp only[UInt8.ofNat_toNat] at this
 simp only[zDM,this]
theorem zOk {a:Int}(h:0<k) (ha:0≤a):zDM .rem .i64 a (k:Int)=some (.int .i64 (a % (k:Int))):=by
 have:¬(k:Int)=0:=by omega
 simp only[zDM,if_neg this,Int.tmod_eq_emod_of_nonneg ha]
structure SpO (Z:Nat→Prop) (k:Nat) (H:PT HB) (id:Nat) (bs:List UInt8) (sp:Int):Prop where
 z0:0≤sp % (bs.length:Int)
 z1:sp % (bs.length:Int)<bs.length
 zi:Z id
 hk:id≠k
 ne:bs≠[]
 hx:H.get id=some ⟨1,(bs.map ivY).map imms⟩
theorem SpO.row{id:Nat}{sp:Int}(h:SpO Z k H id bs sp):((bs.map ivY).map imms)[(sp % (bs.length:Int)).toNat]?=some [.imm (.int .u8 ((nth bs (sp % (bs.length:Int)).toNat).toNat:Int))]:=by
 have:=h.z0
 have:=h.z1
 rw[List.getElem?_map,List.getElem?_map,zMh (by omega)]
 rfl
theorem SpO.set{id:Nat}{sp:Int}(h:SpO Z k H id bs sp) (hsp:0≤sp):((bs.map ivY).map imms).set (sp % (bs.length:Int)).toNat [.imm (.int .u8 ((nth bs (sp % (bs.length:Int)).toNat ^^^ 1).toNat:Int))]=((zRO sp bs).map ivY).map imms:=by
 unfold zRO
 rw[if_neg (fun q=>q.elim h.ne (by omega)),List.map_set,List.map_set]
 rfl
theorem Mg.sp(h:Mg (fun j=>Z j∧j≠k) H x bs) (sp:Int) (hsp:0≤sp):(x=.imm .nils∧bs=[])∨∃ id,x=.sl id 0 bs.length bs.length∧SpO Z k H id bs sp:=by
 rcases h with h | ⟨id,h1,h2,h3,h4⟩
 ·exact .inl h
 ·have:=List.length_pos_iff.2 h3
  exact .inr ⟨id,h2,⟨Int.emod_nonneg _ (by omega),Int.emod_lt_of_pos _ (by omega),h1.1,h1.2,h3,h4⟩⟩
theorem Mg.put2 {id:Nat}{r r1 r2:Option HB}(h:Mg (fun j=>Z j∧j≠k) H x bs) (hd:∀ a b c,x≠.sl id a b c):Mg (fun j=>Z j∧j≠k) (((H.put id r).put k r1).put k r2) x bs:=by
 rcases h with h | ⟨i,h1,rfl,h3,h4⟩
 ·exact .inl h
 ·have:¬i=id:=fun e=>hd 0 bs.length bs.length (by rw[e])
  exact .inr ⟨i,h1,rfl,h3,by simp[gP,h1.2,this,h4]⟩
theorem SpO.mg{id:Nat}{sp:Int}(h:SpO Z k H id bs sp){r1 r2:Option HB}{hb:HB}(hr:hb=⟨1,((zRO sp bs).map ivY).map imms⟩):Mg (fun j=>Z j∧j≠k) (((H.put id (some hb)).put k r1).put k r2) (.sl id 0 bs.length bs.length) (zRO sp bs):=by
 refine .inr ⟨id,⟨h.zi,h.hk⟩,by rw[zRP],fun e=>?_,by simp[gP,h.hk,hr]⟩
 have:=congrArg List.length e
 rw[zRP] at this
 exact h.ne (List.length_eq_zero_iff.1 this)
theorem zLa{s:Nat→List UInt8}{x0 x1:DV}{lose:Bool}{sp:Int}(zk:Z k) (q0:(x0.scal=true∧x0.out=true)∧x0.cells=[x0]) (q1:(x1.scal=true∧x1.out=true)∧x1.cells=[x1])(h:ITn Z H0 n0 k s x0 x1 lose sp 0 st)
  (hk:∀ s',ITn Z H0 n0 k s x0 x1 lose sp 2 s'→Bk DG (K DG d) 0 (.exit 0) ks s' Q):Wp DG (K DG d) 0 D.l107_0 ks st Q:=by
 refine zGt (N:=2) (zRH (by have:=rb3; omega)) (fun i st=>ITn Z H0 n0 k s x0 x1 lose sp i st) (fun e s'=>e=.exit 0∧ITn Z H0 n0 k s x0 x1 lose sp 2 s') (fun i st hle hI=>?_) h (fun e s' h=>by
  obtain⟨rfl,h⟩:=h
  exact hk s' h)
 obtain⟨c0,c1,c2,c13,c14,ln,fr,hn⟩:=hI
 obtain⟨⟨s0,o0⟩,k0⟩:=q0
 obtain⟨⟨s1,o1⟩,k1⟩:=q1
 have i12:IntKind.i64.wrap 1=1:=rfl
 have i22:IntKind.i64.wrap 2=2:=rfl
 have m0:IntKind.i64.wrap 0=0:=rfl
 have il:∀ k:Nat,ILt 0 (k:Int)=True∨ILt 0 (k:Int)=False:=fun k=>by
  by_cases g:(0:Int)<k
  ·exact .inl (zI3 g)
  ·exact .inr (zIz (by omega))
 have ik:ILt sp 0=True∨ILt sp 0=False:=by
  by_cases g:sp<0
  ·exact .inl (zI3 g)
  ·exact .inr (zIz (by omega))
 have nl:∀ (H:PT HB),Mg (fun j=>Z j∧j≠k) H (.imm .nils) []:=fun _=>.inl ⟨rfl,rfl⟩
 have nkn:∀ {j},¬Z j→¬j=k:=fun h e=>h (e▸zk)
 obtain rfl | rfl | rfl:i=0∨i=1∨i=2:=by omega
 ·obtain⟨y0,y1,hb,g0,g1,dj⟩:=ln
  have wl:=g0.len
  rw[show ((0:Nat):Int)=0 from rfl] at c14
  by_cases hs:lose=false∧s 0≠[]∧0≤sp
  ·obtain⟨rfl,hne,hsp⟩:=hs
   rcases g0.sp sp hsp with⟨_,h⟩ | ⟨id,rfl,so⟩
   ·exact absurd h hne
   have hlen:0<(s 0).length:=List.length_pos_iff.2 hne
   have il0:ILt 0 ((s 0).length:Int)=True:=zI3 (by omega)
   have il1:ILt sp 0=False:=zIz hsp
   have br:=zOk hlen hsp
   have ix:=fun {n:Nat}=>zIs (h:=st.H.get) (n:=n) (row:=0) (len:=(s 0).length) (cap:=(s 0).length) so.hx rfl (k:=.i64) so.z0 so.z1
   have row:=so.row
   have hx:=so.hx
   have sx:=so.set hsp
   have xu:=zTb (nth (s 0) (sp % ((s 0).length:Int)).toNat)
   have hk':=so.hk
   have hk'':¬k=id:=fun e=>so.hk e.symm
   have fin:=fun r1 r2=>so.mg (r1:=r1) (r2:=r2) (hb:=⟨1,((zRO sp (s 0)).map ivY).map imms⟩) rfl
   have nz:¬Z id→False:=fun h=>h so.zi
   have zi:=so.zi
   have ce:zEB s false sp 1=zRO sp (s 0):=rfl
   generalize sp % ((s 0).length:Int)=z at *
   generalize nth (s 0) z.toNat=by0 at *
   generalize by0 ^^^ 1=by1 at *
   generalize hR:((s 0).map ivY).map imms=R at *
   generalize hR2:((zRO sp (s 0)).map ivY).map imms=R2 at *
   generalize hQ:(fun (e:Ex) (s':St)=>_)=Q'
   simp only[D.l107_0b]
   simp[c0,c1,c2,c13,c14,s0,s1,o0,o1,k0,k1,hb,il0,il1,il02,i12,m0,wl,br,ix,hx,row,xu,sx,hk',hk'',B6,B7]
   subst hQ
   exact .inl ⟨rfl,by omega,by simp[gP,c0],by simp[gP,c1],by simp[gP,c2],by simp[gP,c13],by simp[gP],⟨y0,.sl id 0 (s 0).length (s 0).length,by simp[gP],g1.put2 (fun a b c e=>dj _ _ _ _ _ _ _ rfl e),by rw[ce]; exact fin _ _,fun a b c d e f g h1 h2=>dj a b c d e f g h1 h2⟩,fun j hj=>by
    have:¬j=id:=fun e=>hj (e▸zi)
    simp[gP,nkn hj,this]
    exact fr j hj,by simpa using hn⟩
  ·obtain⟨b,hb1,hb2,hb3⟩:∃ b,b=(if lose then .imm .nils else x0)∧Mg (fun j=>Z j∧j≠k) st.H b (zEB s lose sp 1)∧Dj b x1:=by
    cases lose with
    | true=>exact⟨_,rfl,nl _,Dj.nil' _⟩
    | false=>
     refine⟨_,rfl,?_,dj⟩
     show Mg _ st.H x0 (zRO sp (s 0))
     by_cases h1:s 0=[]
     ·rw[h1] at g0 ⊢; rw[zRR]; exact g0
     ·rw[zRQ (by
       by_cases h2:sp<0
       ·exact h2
       ·exact absurd ⟨rfl,h1,by omega⟩ hs)]
      exact g0
   have ilx:lose=true∨lose=false∧(ILt 0 ((s 0).length:Int)=False∨ILt sp 0=True):=by
    cases lose with
    | true=>exact .inl rfl
    | false=>
     refine .inr ⟨rfl,?_⟩
     by_cases h1:s 0=[]
     ·rw[h1]; exact .inl (zIz (by simp))
     ·refine .inr (zI3 ?_)
      by_cases h2:sp<0
      ·exact h2
      ·exact absurd ⟨rfl,h1,by omega⟩ hs
   have fin:∀ r,TnR (fun j=>Z j∧j≠k) k s x0 x1 lose sp ((st.H.put k r).put k (some ⟨4,[[.imm .nils,x1,y0,b]]⟩)) 1:=fun r=>⟨y0,b,by simp[gP],g1.putk.putk,hb2.putk.putk,hb3⟩
   rw[hb1] at fin
   have il0:=il (s 0).length
   generalize hQ:(fun (e:Ex) (s':St)=>_)=Q'
   simp only[D.l107_0b]
   rcases ilx with rfl | ⟨rfl,il1 | il1⟩
   ·simp only[if_true] at fin
    simp[c0,c1,c2,c13,c14,s0,s1,o0,o1,k0,k1,hb,il02,i12,m0,wl,zI2,B6,B7]
    subst hQ
    exact .inl ⟨rfl,by omega,by simp[gP,c0],by simp[gP,c1],by simp[gP,c2],by simp[gP,c13],by simp[gP],fin _,fun j hj=>by simp[gP,nkn hj]; exact fr j hj,by simpa using hn⟩
   ·simp only[Bool.false_eq_true,if_false] at fin
    simp[c0,c1,c2,c13,c14,s0,s1,o0,o1,k0,k1,hb,il1,il02,i12,m0,wl,B6,B7]
    subst hQ
    exact .inl ⟨rfl,by omega,by simp[gP,c0],by simp[gP,c1],by simp[gP,c2],by simp[gP,c13],by simp[gP],fin _,fun j hj=>by simp[gP,nkn hj]; exact fr j hj,by simpa using hn⟩
   ·simp only[Bool.false_eq_true,if_false] at fin
    rcases il0 with il0 | il0 <;>
    ·simp[c0,c1,c2,c13,c14,s0,s1,o0,o1,k0,k1,hb,il0,il1,il02,i12,m0,wl,B6,B7]
     subst hQ
     exact .inl ⟨rfl,by omega,by simp[gP,c0],by simp[gP,c1],by simp[gP,c2],by simp[gP,c13],by simp[gP],fin _,fun j hj=>by simp[gP,nkn hj]; exact fr j hj,by simpa using hn⟩
 ·obtain⟨y0,b0,hb,g1,gb,dj⟩:=ln
  have wl:=g1.len
  have bs:=gb.sc.1
  rw[show ((1:Nat):Int)=1 from rfl] at c14
  by_cases hs:lose=false∧s 1≠[]∧0≤sp
  ·obtain⟨rfl,hne,hsp⟩:=hs
   rcases g1.sp sp hsp with⟨_,h⟩ | ⟨id,rfl,so⟩
   ·exact absurd h hne
   have hlen:0<(s 1).length:=List.length_pos_iff.2 hne
   have il0:ILt 0 ((s 1).length:Int)=True:=zI3 (by omega)
   have il1:ILt sp 0=False:=zIz hsp
   have br:=zOk hlen hsp
   have ix:=fun {n:Nat}=>zIs (h:=st.H.get) (n:=n) (row:=0) (len:=(s 1).length) (cap:=(s 1).length) so.hx rfl (k:=.i64) so.z0 so.z1
   have row:=so.row
   have hx:=so.hx
   have sx:=so.set hsp
   have xu:=zTb (nth (s 1) (sp % ((s 1).length:Int)).toNat)
   have hk':=so.hk
   have hk'':¬k=id:=fun e=>so.hk e.symm
   have fin:=fun r1 r2=>so.mg (r1:=r1) (r2:=r2) (hb:=⟨1,((zRO sp (s 1)).map ivY).map imms⟩) rfl
   have zi:=so.zi
   have ce:zEB s false sp 0=zRO sp (s 1):=rfl
   generalize sp % ((s 1).length:Int)=z at *
   generalize nth (s 1) z.toNat=by0 at *
   generalize by0 ^^^ 1=by1 at *
   generalize hR:((s 1).map ivY).map imms=R at *
   generalize hR2:((zRO sp (s 1)).map ivY).map imms=R2 at *
   generalize hQ:(fun (e:Ex) (s':St)=>_)=Q'
   simp only[D.l107_0b]
   simp[c0,c1,c2,c13,c14,s0,s1,o0,o1,k0,k1,bs,hb,il0,il1,il12,il10,i22,m0,wl,br,ix,hx,row,xu,sx,hk',hk'',B6,B7]
   subst hQ
   exact .inl ⟨rfl,by omega,by simp[gP,c0],by simp[gP,c1],by simp[gP,c2],by simp[gP,c13],by simp[gP],⟨.sl id 0 (s 1).length (s 1).length,b0,by simp[gP],by rw[ce]; exact fin _ _,gb.put2 (fun a b c e=>dj _ _ _ _ 0 (s 1).length (s 1).length e rfl)⟩,fun j hj=>by
    have:¬j=id:=fun e=>hj (e▸zi)
    simp[gP,nkn hj,this]
    exact fr j hj,by simpa using hn⟩
  ·obtain⟨b,hb1,hb2⟩:∃ b,b=(if lose then .imm .nils else x1)∧Mg (fun j=>Z j∧j≠k) st.H b (zEB s lose sp 0):=by
    cases lose with
    | true=>exact⟨_,rfl,nl _⟩
    | false=>
     refine⟨_,rfl,?_⟩
     show Mg _ st.H x1 (zRO sp (s 1))
     by_cases h1:s 1=[]
     ·rw[h1] at g1 ⊢; rw[zRR]; exact g1
     ·rw[zRQ (by
       by_cases h2:sp<0
       ·exact h2
       ·exact absurd ⟨rfl,h1,by omega⟩ hs)]
      exact g1
   have ilx:lose=true∨lose=false∧(ILt 0 ((s 1).length:Int)=False∨ILt sp 0=True):=by
    cases lose with
    | true=>exact .inl rfl
    | false=>
     refine .inr ⟨rfl,?_⟩
     by_cases h1:s 1=[]
     ·rw[h1]; exact .inl (zIz (by simp))
     ·refine .inr (zI3 ?_)
      by_cases h2:sp<0
      ·exact h2
      ·exact absurd ⟨rfl,h1,by omega⟩ hs
   have fin:∀ r,TnR (fun j=>Z j∧j≠k) k s x0 x1 lose sp ((st.H.put k r).put k (some ⟨4,[[.imm .nils,.imm .nils,b,b0]]⟩)) 2:=fun r=>⟨b,b0,by simp[gP],hb2.putk.putk,gb.putk.putk⟩
   rw[hb1] at fin
   have il0:=il (s 1).length
   generalize hQ:(fun (e:Ex) (s':St)=>_)=Q'
   simp only[D.l107_0b]
   rcases ilx with rfl | ⟨rfl,il1 | il1⟩
   ·simp only[if_true] at fin
    simp[c0,c1,c2,c13,c14,s0,s1,o0,o1,k0,k1,bs,hb,il12,il10,i22,m0,wl,zI2,B6,B7]
    subst hQ
    exact .inl ⟨rfl,by omega,by simp[gP,c0],by simp[gP,c1],by simp[gP,c2],by simp[gP,c13],by simp[gP],fin _,fun j hj=>by simp[gP,nkn hj]; exact fr j hj,by simpa using hn⟩
   ·simp only[Bool.false_eq_true,if_false] at fin
    simp[c0,c1,c2,c13,c14,s0,s1,o0,o1,k0,k1,bs,hb,il1,il12,il10,i22,m0,wl,B6,B7]
    subst hQ
    exact .inl ⟨rfl,by omega,by simp[gP,c0],by simp[gP,c1],by simp[gP,c2],by simp[gP,c13],by simp[gP],fin _,fun j hj=>by simp[gP,nkn hj]; exact fr j hj,by simpa using hn⟩
   ·simp only[Bool.false_eq_true,if_false] at fin
    rcases il0 with il0 | il0 <;>
    ·simp[c0,c1,c2,c13,c14,s0,s1,o0,o1,k0,k1,bs,hb,il0,il1,il12,il10,i22,m0,wl,B6,B7]
     subst hQ
     exact .inl ⟨rfl,by omega,by simp[gP,c0],by simp[gP,c1],by simp[gP,c2],by simp[gP,c13],by simp[gP],fin _,fun j hj=>by simp[gP,nkn hj]; exact fr j hj,by simpa using hn⟩
 ·rw[show ((2:Nat):Int)=2 from rfl] at c14
  generalize hQ:(fun (e:Ex) (s':St)=>_)=Q'
  simp only[D.l107_0b]
  simp[c0,c1,c2,c13,c14,zI2,B6,B7]
  subst hQ
  exact .inr ⟨nofun,rfl,by simp[gP,c0],by simp[gP,c1],by simp[gP,c2],by simp[gP,c13],by simp[gP,c14],ln,fr,hn⟩
def zSs (s:PS) (lose:Bool) (sp:Int):PS:=setL s (fun _=>[]) (zEB s.snt lose sp)
theorem zBm(h:PAt c H n P A s) (lose:Bool) (sp:Int) :
  Fe (K DG (d+1) 107 [.ptr A.lk 0 0,.imm (.bool lose),.imm (.int .i64 sp)] H n 0) (fun v H' n'=>PR P A c H n (zSs s lose sp) H' n'):=by
 obtain⟨x0,x1,y0,y1,hb,h1,h2,h3,h4,h5⟩:=h.lk
 have s0:=h1.sc
 have s1:=h2.sc
 have s2:=h3.sc
 have s3:=h4.sc
 rw[kX 107 D.f107 rfl]
 refine zHy rfl ?_
 simp[hb,s0,s1,s2,s3,B6,B7]
 refine zLa (Z:=fun j=>c j=4∧j<n) (H0:=H) (n0:=n) (k:=A.lk) (s:=s.snt) (lose:=lose) (sp:=sp) h.cl ⟨s0,h1.cl⟩ ⟨s1,h2.cl⟩ ⟨by simp[gP],by simp[gP],by simp[gP],by simp[gP],by simp[gP],⟨y0,y1,hb,h1,h2,h5⟩,fun _ _=>rfl,Nat.le_refl _⟩ (fun s' hI=>?_)
 obtain⟨c0,c1,c2,c13,c14,⟨b1,b0,g,g1,g0⟩,fr,hn⟩:=hI
 have nl:∀ (H:PT HB),Mg (fun j=>(c j=4∧j<n)∧j≠A.lk) H (.imm .nils) []:=fun _=>.inl ⟨rfl,rfl⟩
 have fin:PR P A c H n (zSs s lose sp) s'.H s'.n:=by
  refine h.setl hn (LnAt.mono (Z:=fun j=>c j=4∧j<n) ⟨_,_,b1,b0,g,nl _,nl _,g1,g0,Dj.nil _⟩ (fun j q=>⟨by rw[zOW q.2]; exact q.1,by omega⟩) rfl (fun _ _=>rfl)) (fun j h1 _=>fr j (fun q=>h1 q.1))
 simp[B6,B7]
 exact fin
def stL (a:Bool×Int) (e:EV):Bool×Int:=(a.1||decide (e.k=5),if e.k=6∧0≤e.n∧a.2<0 then e.n else a.2)
def lsF (es:List EV):Bool×Int:=es.foldl stL (false,-1)
theorem zLm(hi:i<es.length):lsF (es.take (i+1))=stL (lsF (es.take i)) (nth es i):=by
 rw[List.take_add_one,List.getElem?_eq_getElem hi]
 unfold lsF
 rw[List.foldl_append]
 simp[nth,List.getD_eq_getElem?_getD,List.getElem?_eq_getElem hi]
structure IE0 (P:Nat) (H0:PT HB) (n0:Nat) (v:IV) (es:List EV) (i:Nat) (st:St):Prop where
 c0:st.T.get 0=some (.ptr P 0 0)
 c4:st.T.get 4=some (.imm (.bool (lsF (es.take i)).1))
 c5:st.T.get 5=some (.imm (.int .i64 (lsF (es.take i)).2))
 c10:st.T.get 10=some (.imm v)
 c11:st.T.get 11=some (.imm (.int .i64 (es.length:Int)))
 c12:st.T.get 12=some (.imm (.int .i64 (i:Int)))
 hH:st.H=H0
 hn:n0≤st.n
theorem zKk(hv:Sl 5 v (es.map ivE)) (hl:es.length≤reachBytes)(h:IE0 P H0 n0 v es 0 st)
  (hk:∀ s',IE0 P H0 n0 v es es.length s'→Bk DG (K DG d) 0 (.exit 0) ks s' Q):Wp DG (K DG d) 0 D.l55_0 ks st Q:=by
 refine zGt (N:=es.length) (zRH hl) (fun i st=>IE0 P H0 n0 v es i st) (fun e s'=>e=.exit 0∧IE0 P H0 n0 v es es.length s') (fun i st hle hI=>?_) h (fun e s' h=>by
  obtain⟨rfl,h⟩:=h
  exact hk s' h)
 obtain⟨c0,c4,c5,c10,c11,c12,hH,hn⟩:=hI
 have vs:=hv.scal
 by_cases hi:i<es.length
 ·have hi1:(i:Int)<es.length:=by omega
  have hi':=zI3 hi1
  have hw8:IntKind.i64.wrap ((i:Int)+1)=(i:Int)+1:=zTX hi hl
  have ix:=zIu hv hi1
  simp only[Int.toNat_natCast] at ix
  have su:=zLm hi
  generalize lsF (es.take i)=a at *
  obtain⟨a,b⟩:=a
  generalize nth es i=y at *
  obtain⟨k,u,z,y1,y2⟩:=y
  simp only at c4 c5
  simp only[stL] at su
  have fin:∀ {T:PT DV}{L:PT LV}{n:Nat}{x:Bool}{q:Int},lsF (es.take (i+1))=(x,q)→T.get 0=some (.ptr P 0 0)→T.get 4=some (.imm (.bool x))→T.get 5=some (.imm (.int .i64 q))→T.get 10=some (.imm v)→T.get 11=some (.imm (.int .i64 (es.length:Int)))→T.get 12=some (.imm (.int .i64 ((i:Int)+1)))→n0≤n→IE0 P H0 n0 v es (i+1) ⟨T,L,st.H,n⟩:=fun e h0 h4 h5 h10 h11 h12 hn=>⟨h0,by rw[e]; exact h4,by rw[e]; exact h5,h10,h11,h12,hH,hn⟩
  generalize hQ:(fun (e:Ex) (s':St)=>_)=Q'
  simp only[D.l55_0b]
  by_cases k5:k=5
  ·subst k5
   rcases Bool.eq_false_or_eq_true a with ha | ha <;> rw[ha] at c4 <;>
   ·simp[c0,c4,c5,c10,c11,c12,vs,hi',hw8,ix,ivE,imms,B6,B7]
    subst hQ
    exact .inl ⟨rfl,hi,fin (x:=true) (q:=b) (su.trans (by simp)) (by simp[gP,c0]) (by simp[gP,c4,ha]) (by simp[gP,c5]) (by simp[gP,c10]) (by simp[gP,c11]) (by simp[gP]) (by omega)⟩
  ·by_cases k6:k=6
   ·subst k6
    by_cases z0:z<0
    ·rcases Bool.eq_false_or_eq_true a with ha | ha <;> rw[ha] at c4 <;>
     ·simp[c0,c4,c5,c10,c11,c12,vs,hi',hw8,ix,zI3 z0,ivE,imms,B6,B7]
      subst hQ
      exact .inl ⟨rfl,hi,fin (x:=a) (q:=b) (su.trans (by rw[if_neg (by omega)]; simp)) (by simp[gP,c0]) (by simp[gP,c4,ha]) (by simp[gP,c5]) (by simp[gP,c10]) (by simp[gP,c11]) (by simp[gP]) (by omega)⟩
    ·by_cases b0:b<0
     ·rcases Bool.eq_false_or_eq_true a with ha | ha <;> rw[ha] at c4 <;>
      ·simp[c0,c4,c5,c10,c11,c12,vs,hi',hw8,ix,zIz (Int.not_lt.1 z0),zI3 b0,ivE,imms,B6,B7]
       subst hQ
       exact .inl ⟨rfl,hi,fin (x:=a) (q:=z) (su.trans (by rw[if_pos (by omega)]; simp)) (by simp[gP,c0]) (by simp[gP,c4,ha]) (by simp[gP]) (by simp[gP,c10]) (by simp[gP,c11]) (by simp[gP]) (by omega)⟩
     ·rcases Bool.eq_false_or_eq_true a with ha | ha <;> rw[ha] at c4 <;>
      ·simp[c0,c4,c5,c10,c11,c12,vs,hi',hw8,ix,zIz (Int.not_lt.1 z0),zIz (Int.not_lt.1 b0),ivE,imms,B6,B7]
       subst hQ
       exact .inl ⟨rfl,hi,fin (x:=a) (q:=b) (su.trans (by rw[if_neg (by omega)]; simp)) (by simp[gP,c0]) (by simp[gP,c4,ha]) (by simp[gP,c5]) (by simp[gP,c10]) (by simp[gP,c11]) (by simp[gP]) (by omega)⟩
   ·rcases Bool.eq_false_or_eq_true a with ha | ha <;> rw[ha] at c4 <;>
    ·simp[c0,c4,c5,c10,c11,c12,vs,hi',hw8,ix,k5,k6,ivE,imms,B6,B7]
     subst hQ
     exact .inl ⟨rfl,hi,fin (x:=a) (q:=b) (su.trans (by rw[if_neg (fun h=>k6 h.1)]; simp[k5])) (by simp[gP,c0]) (by simp[gP,c4,ha]) (by simp[gP,c5]) (by simp[gP,c10]) (by simp[gP,c11]) (by simp[gP]) (by omega)⟩
 ·obtain rfl:i=es.length:=by omega
  generalize hQ:(fun (e:Ex) (s':St)=>_)=Q'
  simp only[D.l55_0b]
  simp[c0,c4,c5,c10,c11,c12,vs,zI2,B6,B7]
  subst hQ
  exact .inr ⟨nofun,rfl,by simp[gP,c0],by simp[gP,c4],by simp[gP,c5],by simp[gP,c10],by simp[gP,c11],by simp[gP,c12],hH,hn⟩
theorem zQf(hl:u.rs.length≤20):(zQc u).length≤100000:=by
 unfold zQc
 split
 ·have:=(zJ5 u.ep u.count hl).2.2.2
  simp only[zSO,List.length_append]
  have a4:∀ z:Nat,(numY z 4).length=4:=fun _=>rfl
  have a2:∀ z:Nat,(numY z 2).length=2:=fun _=>rfl
  rw[a4,a2]
  omega
 ·simp
noncomputable def zQd (s:PS) (i:Nat):PS:=if i=0 then s else if i=1 then zQh s 0 (zQc (s.u 0)) else zQh (zQh s 0 (zQc (s.u 0))) 1 (zQc (s.u 1))
theorem zQi (s:PS) (i:Nat) (bs:List UInt8):(zQh s i bs).u=s.u∧(zQh s i bs).now=s.now:=by
 unfold zQh
 split <;> exact⟨rfl,rfl⟩
theorem zQe (s:PS) (i:Nat):(zQd s i).u=s.u∧(zQd s i).now=s.now:=by
 unfold zQd
 split
 ·exact⟨rfl,rfl⟩
 ·split
  ·exact zQi _ _ _
  ·exact⟨(zQi _ _ _).1.trans (zQi _ _ _).1,(zQi _ _ _).2.trans (zQi _ _ _).2⟩
structure IE1 (P:Nat) (A:PLc) (cc:Nat→Nat) (H0:PT HB) (n0:Nat) (s:PS) (x:Bool) (q:Int) (i:Nat) (st:St):Prop where
 c0:st.T.get 0=some (.ptr P 0 0)
 c4:st.T.get 4=some (.imm (.bool x))
 c5:st.T.get 5=some (.imm (.int .i64 q))
 c40:st.T.get 40=some (.agg [.ptr (A.a 0) 0 0,.ptr (A.a 1) 0 0])
 c41:st.T.get 41=some (.imm (.int .i64 (i:Int)))
 pr:PR P A cc H0 n0 (zQd s i) st.H st.n
theorem zKl{x:Bool}{q:Int}(hl:∀ i,i<2→(s.u i).rs.length≤20)(h:IE1 P A c H0 n0 s x q 0 st)
  (hk:∀ s',IE1 P A c H0 n0 s x q 2 s'→Bk DG (K DG (d+6)) 0 (.exit 2) ks s' Q):Wp DG (K DG (d+6)) 0 D.l55_1 ks st Q:=by
 refine zGt (N:=2) (zRH (by have:=rb3; omega)) (fun i st=>IE1 P A c H0 n0 s x q i st) (fun e s'=>e=.exit 2∧IE1 P A c H0 n0 s x q 2 s') (fun i st hle hI=>?_) h (fun e s' h=>by
  obtain⟨rfl,h⟩:=h
  exact hk s' h)
 obtain⟨c0,c4,c5,c40,c41,hn,c',hp,hc,hf⟩:=hI
 have i12:IntKind.i64.wrap 1=1:=rfl
 have i22:IntKind.i64.wrap 2=2:=rfl
 by_cases hi:i<2
 ·have hb:=hp.blk
  simp only[zPQ] at hb
  obtain⟨p,o,own,y,hu⟩:=hp.u i hi
  have hu1:(zQd s i).u i=s.u i:=by rw[(zQe s i).1]
  rw[hu1] at hu
  obtain⟨w,k1,e1,hk1,hw⟩:=zBY hu (hl i hi) (d:=d) (m:=st.n) (lo:=0) (Nat.le_refl _)
  obtain⟨v2,H2,n2,e2,r2⟩:=zAq (d:=d+4) (hp.mono (c':=c') (n':=k1) hk1 (fun _ _=>rfl) (fun _ _ _=>rfl)) hi hw (zQf (hl i hi))
  have ws:=hw.scal
  have fin:PR P A c H0 n0 (zQd s (i+1)) H2 n2:=by
   have e:zQd s (i+1)=zQh (zQd s i) i (zQc (s.u i)):=by
    obtain rfl | rfl:i=0∨i=1:=by omega
    ·rfl
    ·rfl
   rw[e]
   exact PR.comp (by omega) hc hf (PR.comp hk1 (fun _ _=>rfl) (fun _ _ _=>rfl) r2)
  obtain rfl | rfl:i=0∨i=1:=by omega
  ·rw[show ((0:Nat):Int)=0 from rfl] at c41 e2
   generalize hQ:(fun (e:Ex) (s':St)=>_)=Q'
   simp only[D.l55_1b]
   simp[c0,c4,c5,c40,c41,hb,il02,i12,e1,ws,e2,B6,B7]
   subst hQ
   exact .inl ⟨rfl,by omega,by simp[gP,c0],by simp[gP,c4],by simp[gP,c5],by simp[gP,c40],by simp[gP],fin⟩
  ·rw[show ((1:Nat):Int)=1 from rfl] at c41 e2
   generalize hQ:(fun (e:Ex) (s':St)=>_)=Q'
   simp only[D.l55_1b]
   simp[c0,c4,c5,c40,c41,hb,il12,i22,e1,ws,e2,B6,B7]
   subst hQ
   exact .inl ⟨rfl,by omega,by simp[gP,c0],by simp[gP,c4],by simp[gP,c5],by simp[gP,c40],by simp[gP],fin⟩
 ·obtain rfl:i=2:=by omega
  rw[show ((2:Nat):Int)=2 from rfl] at c41
  generalize hQ:(fun (e:Ex) (s':St)=>_)=Q'
  simp only[D.l55_1b]
  simp[c0,c4,c5,c40,c41,zI2,B6,B7]
  subst hQ
  exact .inr ⟨nofun,rfl,by simp[gP,c0],by simp[gP,c4],by simp[gP,c5],by simp[gP,c40],by simp[gP,c41],hn,c',hp,hc,hf⟩
noncomputable def zG6 (s:PS) (es:List EV):PS:=zSs (zQd s 2) (lsF es).1 (lsF es).2
theorem zG7(h:PAt c H n P A s) (hl:∀ i,i<2→(s.u i).rs.length≤20)(hv:Sl 5 v (es.map ivE)) (hel:es.length≤reachBytes) :
  Fe (K DG (d+7) 55 [.ptr P 0 0,.imm v] H n 0) (fun _ H' n'=>PR P A c H n (zG6 s es) H' n'):=by
 have hb:=h.blk
 simp only[zPQ] at hb
 have vs:=hv.scal
 have vl:=hv.len
 simp only[List.length_map] at vl
 rw[kX 55 D.f55 rfl]
 refine zHy rfl ?_
 simp[vs,vl,B6,B7]
 refine zKk (P:=P) (H0:=H) (n0:=n) hv hel ⟨by simp[gP],by simp[gP,lsF],by simp[gP,lsF],by simp[gP],by simp[gP],by simp[gP],rfl,Nat.le_refl _⟩ (fun s1 hI=>?_)
 obtain⟨c0,c4,c5,c10,c11,c12,hH,hn⟩:=hI
 rw[List.take_length] at c4 c5
 simp[c0,c4,c5,hH,hb,B6,B7]
 refine zKl (P:=P) (A:=A) (c:=c) (H0:=H) (n0:=n) (s:=s) (x:=(lsF es).1) (q:=(lsF es).2) hl ⟨by simp[gP,c0],by simp[gP,c4],by simp[gP,c5],by simp[gP],by simp[gP],(show PR P A c H n (zQd s 0) H s1.n from PR.refl h hn)⟩ (fun s2 hI=>?_)
 obtain⟨c0,c4,c5,c40,c41,hn,c',hp,hc,hf⟩:=hI
 obtain⟨v3,H3,n3,e3,r3⟩:=zBm (d:=d+5) hp (lsF es).1 (lsF es).2
 have hb2:=hp.blk
 simp only[zPQ] at hb2
 have fin:PR P A c H n (zG6 s es) H3 n3:=PR.comp hn hc hf r3
 simp[c0,c4,c5,hb2,e3,B6,B7]
 exact fin
structure UOk (l:Lo) (t:Int) (u:US):Prop where
 inv:INV l u.rs
 co:CpOk l u
 cc:∀ e c qs,u.cp=some (e,c,qs)→c≤9223372036854775807
 tk:0≤u.tick∧u.tick≤t
 ct:0≤u.count∧u.count≤9223372036854775807
 lf:0≤u.left∧u.left≤10
 lm:u.mode=4→1≤u.left
theorem UOk.new(ht:0≤t):UOk l t (newU l):=⟨INV.new,nofun,nofun,⟨Int.le_refl _,ht⟩,by simp[newU],by simp[newU],nofun⟩
theorem UOk.later {t':Int}(h:UOk l t u) (ht:t≤t'):UOk l t' u:=⟨h.inv,h.co,h.cc,⟨h.tk.1,by have:=h.tk.2; omega⟩,h.ct,h.lf,h.lm⟩
theorem UOk.crash(h:UOk l t u):UOk l t (zEv l u):=⟨INV.new,nofun,nofun,h.tk,by simp[zEv],h.lf,nofun⟩
theorem UOk.leaves(h:UOk l t u):UOk l t (zKB l u):=⟨INV.new,nofun,nofun,h.tk,h.ct,h.lf,nofun⟩
theorem UOk.start(h:UOk l t u):UOk l t (zRX u):=by
 unfold zRX
 split
 ·exact⟨h.inv,h.co,h.cc,⟨Int.le_refl _,by have:=h.tk; show (0:Int)≤t; omega⟩,h.ct,h.lf,nofun⟩
 ·exact h
theorem UOk.tick(h:UOk l t u) (slow:Bool):UOk l (t+1) (zSg l u slow):=by
 have tt:∀ {w},UOk l (t+1) w→UOk l (t+1) (zSh l w):=fun {w} h=>by
  unfold zSh
  split
  ·exact⟨h.inv,h.co,h.cc,h.tk,h.ct,h.lf,nofun⟩
  ·split
   ·exact h.leaves
   ·exact h
 unfold zSg
 split
 ·exact h.later (by omega)
 ·refine tt ?_
  split
  ·exact h.later (by omega)
  ·exact⟨h.inv,h.co,h.cc,⟨by have:=h.tk; show 0≤u.tick+1; omega,by have:=h.tk; show u.tick+1≤t+1; omega⟩,h.ct,h.lf,h.lm⟩
theorem zJI {ts:List Th}(h:zJF ts=some zs){z:Int}(hz:z∈zs):Th.int z∈ts:=by
 induction ts generalizing zs with
 | nil=>simp only[zJF] at h; cases h; simp at hz
 | cons t ts ih=>
  cases t with
  | int y=>
   simp only[zJF,Option.map_eq_some_iff] at h
   obtain⟨q,hq,rfl⟩:=h
   rcases List.mem_cons.1 hz with rfl | hz
   ·simp
   ·exact List.mem_cons_of_mem _ (ih hq hz)
  | text s=>simp only[zJF] at h; cases h
  | bool s=>simp only[zJF] at h; cases h
theorem zIk{ts:List Th}(h:unF bs=some ts){e c:Int}{qs:List Rst}(hr:zOY ts=some (e,c,qs)):c≤9223372036854775807:=by
 have hc:=(zSz h).2.1
 unfold zOY at hr
 split at hr
 ·cases hr
 ·rename_i zs hz
  split at hr
  ·split at hr
   ·rename_i h3
    split at hr
    ·split at hr
     ·cases hr
      have hm:nth zs 1∈zs:=zMi (by omega)
      have:=hc _ (List.mem_of_mem_drop (zJI hz hm))
      exact this.2
     ·cases hr
    ·cases hr
   ·cases hr
  ·cases hr
theorem UOk.hear(h:UOk l t u) (bs:List UInt8):UOk l t (zIh l u bs):=by
 unfold zIh
 split
 ·exact h
 ·split
  ·exact h
  ·rename_i ts hts
   split
   ·exact h
   ·rename_i e c qs hr
    split
    ·exact h
    ·split
     ·rename_i hi
      refine⟨h.inv,fun e' c' qs' hh=>?_,fun e' c' qs' hh=>?_,h.tk,h.ct,h.lf,h.lm⟩
      ·simp at hh
       obtain⟨_,_,rfl⟩:=hh
       exact hi
      ·simp at hh
       obtain⟨_,rfl,_⟩:=hh
       exact zIk hts hr
     ·exact h
theorem UOk.granted(h:UOk l t u) (e:Int):UOk l t (granted u e):=⟨h.inv,h.co,h.cc,h.tk,h.ct,h.lf,h.lm⟩
theorem UOk.grant(h:UOk l t u) (e:Int){k:Int}(hk:0≤k∧k≤9223372036854775807):UOk l t (zIV l u e k):=by
 have frc:∀ {w},UOk l t w→UOk l t (noCp ⟨rep0 l,w.ep,w.en,w.gr,w.cp,4,w.tick,k,10⟩):=fun {w} h=>⟨INV.new,nofun,nofun,h.tk,hk,by simp[noCp],by simp[noCp]⟩
 unfold zIV
 split
 ·exact h.granted e
 ·split
  ·have h':=h.granted e
   unfold begF
   split
   ·rename_i e' c qs hc
    split
    ·rename_i hh
     exact⟨h'.co _ _ _ hc,nofun,nofun,h'.tk,⟨by show 0≤c; omega,h'.cc _ _ _ hc⟩,h'.lf,nofun⟩
    ·exact frc h'
   ·exact frc h'
  ·exact h
theorem UOk.cycle(is:ISL l)(h:UOk l t u) (os:List Bool) (ls:List Int) (conn:Bool) (cs:List (Int×Int)):UOk l t (zFN l u os ls conn cs).1:=by
 have hc:0≤incC u.count∧incC u.count≤9223372036854775807:=by
  have:=h.ct
  unfold incC
  split <;> omega
 unfold zFN
 split
 ·split
  ·refine⟨?_,h.co,h.cc,h.tk,hc,h.lf,h.lm⟩
   show INV l (cycF l _ os ls).1
   refine INV.cyc is ?_
   split
   ·exact INV.cmds _ h.inv
   ·exact h.inv
  ·have hl:=h.lf
   rename_i wk h3
   have h4:u.mode=4:=wk.1.resolve_left h3
   have h1:=h.lm h4
   by_cases hz:(setC u (incC u.count)).left - 1≤0
   ·rw[zH7 hz]
    exact⟨h.inv,h.co,h.cc,h.tk,hc,by simp only[setC] at hz ⊢; omega,nofun⟩
   ·rw[zH6 hz]
    exact⟨h.inv,h.co,h.cc,h.tk,hc,by simp only[setC] at hz ⊢; omega,fun _=>by simp only[setC] at hz ⊢; omega⟩
 ·exact h
theorem UOk.len(is:ISL l)(h:UOk l t u):u.rs.length≤20:=by
 have:=h.inv.ln
 have:=is.r2
 omega
structure ROk (r:RLS):Prop where
 n0:0≤r.now∧r.now≤100000
 a0:0≤r.ask∧r.ask≤r.now
 e0:0≤r.ep∧r.ep≤2*r.now
 l0:0≤r.last∧r.last≤9223372036854775807
theorem ROk.ok(h:ROk r):RLOk r:=⟨by have:=h.n0; omega,h.a0,by have:=h.n0; have:=h.e0; omega⟩
theorem ROk.yield(h:ROk r) (u:Int):ROk (zTc r u):=by
 unfold zTc
 split
 ·exact h
 ·exact⟨h.n0,h.a0,h.e0,h.l0⟩
noncomputable def yldF (A:PLc) (s:PS) (e:EV):PS:=if e.k=9∧Un e.u∧(s.u e.u.toNat).mode=3 then zQn (setU s e.u.toNat (zKB (A.l e.u.toNat) (s.u e.u.toNat))) (zTc s.r e.u) else s
noncomputable def zTi (A:PLc) (s:PS) (es:List EV):PS:=es.foldl (yldF A) s
theorem zTj(hi:i<es.length):zTi A s (es.take (i+1))=yldF A (zTi A s (es.take i)) (nth es i):=by
 rw[List.take_add_one,List.getElem?_eq_getElem hi]
 unfold zTi
 rw[List.foldl_append]
 simp[nth,List.getD_eq_getElem?_getD,List.getElem?_eq_getElem hi]
theorem zQo (s:PS) (i:Nat):setU s i (s.u i)=s:=by
 have:upF s.u i (s.u i)=s.u:=funext fun j=>by
  unfold upF
  split
  ·rename_i h; rw[h]
  ·rfl
 unfold setU
 rw[this]
structure IYl (P:Nat) (A:PLc) (cc:Nat→Nat) (H0:PT HB) (n0:Nat) (s:PS) (v:IV) (es:List EV) (i:Nat) (st:St):Prop where
 c0:st.T.get 0=some (.ptr P 0 0)
 c6:st.T.get 6=some (.imm v)
 c7:st.T.get 7=some (.imm (.int .i64 (es.length:Int)))
 c8:st.T.get 8=some (.imm (.int .i64 (i:Int)))
 pr:PR P A cc H0 n0 (zTi A s (es.take i)) st.H st.n
 rk:ROk (zTi A s (es.take i)).r
theorem zLh(hd:10≤d)(ao:AOk A){cc:Nat→Nat}(hv:Sl 5 v (es.map ivE)) (hl:es.length≤reachBytes)(h:IYl P A cc H0 n0 s v es 0 st)
  (hk:∀ s',IYl P A cc H0 n0 s v es es.length s'→Bk DG (K DG (d+4)) 0 (.exit 0) ks s' Q):Wp DG (K DG (d+4)) 0 D.l51_0 ks st Q:=by
 refine zGt (N:=es.length) (zRH hl) (fun i st=>IYl P A cc H0 n0 s v es i st) (fun e s'=>e=.exit 0∧IYl P A cc H0 n0 s v es es.length s') (fun i st hle hI=>?_) h (fun e s' h=>by
  obtain⟨rfl,h⟩:=h
  exact hk s' h)
 obtain⟨c0,c6,c7,c8,⟨hn,c',hp,hc,hf⟩,rk⟩:=hI
 have vs:=hv.scal
 by_cases hi:i<es.length
 ·have hi1:(i:Int)<es.length:=by omega
  have hi':=zI3 hi1
  have hw8:IntKind.i64.wrap ((i:Int)+1)=(i:Int)+1:=zTX hi hl
  have ix:=zIu hv hi1
  simp only[Int.toNat_natCast] at ix
  have su:=zTj (A:=A) (s:=s) hi
  generalize zTi A s (es.take i)=a at *
  generalize nth es i=y at *
  obtain⟨k,u,z,y1,y2⟩:=y
  have hb:=hp.blk
  simp only[zPQ] at hb
  have fin:∀ {T:PT DV}{L:PT LV}{H:PT HB}{n:Nat}{b:PS},yldF A a ⟨k,u,z,y1,y2⟩=b→ROk b.r→T.get 0=some (.ptr P 0 0)→T.get 6=some (.imm v)→T.get 7=some (.imm (.int .i64 (es.length:Int)))→T.get 8=some (.imm (.int .i64 ((i:Int)+1)))→PR P A cc H0 n0 b H n→IYl P A cc H0 n0 s v es (i+1) ⟨T,L,H,n⟩:=fun e r h0 h6 h7 h8 hp=>⟨h0,h6,h7,h8,by rw[su,e]; exact hp,by rw[su,e]; exact r⟩
  have skip:∀ {m},st.n≤m→PR P A cc H0 n0 a st.H m:=fun hm=>PR.comp hn hc hf (PR.refl hp hm)
  simp only[yldF] at fin
  have hp1:=hp.mono (c':=c') (n':=st.n+1) (by omega) (fun _ _=>rfl) (fun _ _ _=>rfl)
  generalize hQ:(fun (e:Ex) (s':St)=>_)=Q'
  simp only[D.l51_0b]
  by_cases k9:k=9
  ·subst k9
   by_cases hu:Un u
   ·obtain⟨i1,hi1⟩:∃ i:Nat,u=i:=⟨u.toNat,by unfold Un at hu; omega⟩
    have hi2:i1<2:=by unfold Un at hu; omega
    subst hi1
    obtain⟨m1,e1,hm1⟩:=zC0 hp hi2 (d:=d+3) (m:=st.n+1) (lo:=0) (by omega)
    have hp2:=hp.mono (c':=c') (n':=m1) (by omega) (fun _ _=>rfl) (fun _ _ _=>rfl)
    obtain⟨H',n',e2,r⟩:=zBs (d:=d) hd (ao.ok i1 hi2) (ao.is i1 hi2) (hp2.ui hi2) (fun j hj=>zOV hj)
    obtain⟨hn',c2,p2,q2,f2⟩:=hp2.setu_pr hi2 r
    by_cases h3:(a.u i1).mode=3
    ·rw[if_pos h3] at p2
     simp only[h3,decide_true] at e2
     obtain⟨v3,H3,n3,e3,hn3,g3,f3⟩:=zOj (d:=d+2) (n:=n') p2.rl rk.ok (i1:Int)
     have pr:PR P A cc H0 n0 (zQn (setU a i1 (zKB (A.l i1) (a.u i1))) (zTc a.r i1)) H3 n3:=PR.comp hn hc hf (PR.comp (by omega) (fun _ _=>rfl) (fun _ _ _=>rfl) (PR.comp hn' q2 f2 (p2.setr hn3 g3 f3)))
     have hb2:=p2.blk
     simp only[zPQ,setU] at hb2
     simp[c0,c6,c7,c8,vs,hi',hw8,ix,hb,e1,e2,hb2,e3,ivE,imms,B6,B7]
     subst hQ
     exact .inl ⟨rfl,hi,fin (b:=zQn (setU a i1 (zKB (A.l i1) (a.u i1))) (zTc a.r i1)) ((if_pos ⟨rfl,hu,by simpa using h3⟩).trans (by simp)) (rk.yield i1) (by simp[gP,c0]) (by simp[gP,c6]) (by simp[gP,c7]) (by simp[gP]) pr⟩
    ·rw[if_neg h3,zQo] at p2
     simp only[h3,decide_false] at e2
     have pr:PR P A cc H0 n0 a H' n':=PR.comp hn hc hf (PR.comp (by omega) (fun _ _=>rfl) (fun _ _ _=>rfl) ⟨hn',c2,p2,q2,f2⟩)
     simp[c0,c6,c7,c8,vs,hi',hw8,ix,hb,e1,e2,ivE,imms,B6,B7]
     subst hQ
     exact .inl ⟨rfl,hi,fin (if_neg (fun h=>h3 (by simpa using h.2.2))) rk (by simp[gP,c0]) (by simp[gP,c6]) (by simp[gP,c7]) (by simp[gP]) pr⟩
   ·obtain⟨m1,e1,hm1⟩:=zCz hp hu (d:=d+3) (m:=st.n+1) (lo:=0)
    obtain⟨v2,H2,n2,e2,rfl,hH,hn2⟩:=zTe (d:=d+3) (H:=st.H) (n:=m1)
    rw[hH] at e2
    simp[c0,c6,c7,c8,vs,hi',hw8,ix,hb,e1,e2,ivE,imms,B6,B7]
    subst hQ
    exact .inl ⟨rfl,hi,fin (if_neg (fun h=>hu h.2.1)) rk (by simp[gP,c0]) (by simp[gP,c6]) (by simp[gP,c7]) (by simp[gP]) (skip (by omega))⟩
  ·simp[c0,c6,c7,c8,vs,hi',hw8,ix,k9,ivE,imms,B6,B7]
   subst hQ
   exact .inl ⟨rfl,hi,fin (if_neg (fun h=>k9 h.1)) rk (by simp[gP,c0]) (by simp[gP,c6]) (by simp[gP,c7]) (by simp[gP]) (skip (by omega))⟩
 ·obtain rfl:i=es.length:=by omega
  generalize hQ:(fun (e:Ex) (s':St)=>_)=Q'
  simp only[D.l51_0b]
  simp[c0,c6,c7,c8,vs,zI2,B6,B7]
  subst hQ
  exact .inr ⟨nofun,rfl,by simp[gP,c0],by simp[gP,c6],by simp[gP,c7],by simp[gP,c8],⟨hn,c',hp,hc,hf⟩,rk⟩
theorem zTf(hd:10≤d)(ao:AOk A)(h:PAt c H n P A s) (rk:ROk s.r)(hv:Sl 5 v (es.map ivE)) (hel:es.length≤reachBytes) :
  Fe (K DG (d+5) 51 [.ptr P 0 0,.imm v] H n 0) (fun _ H' n'=>PR P A c H n (zTi A s es) H' n'):=by
 have vs:=hv.scal
 have vl:=hv.len
 simp only[List.length_map] at vl
 rw[kX 51 D.f51 rfl]
 refine zHy rfl ?_
 simp[vs,vl,B6,B7]
 refine zLh (cc:=c) (H0:=H) (n0:=n) (s:=s) hd ao hv hel ⟨by simp[gP],by simp[gP],by simp[gP],by simp[gP],(show PR P A c H n s H n from PR.refl h (Nat.le_refl _)),rk⟩ (fun s1 hI=>?_)
 have fin:=hI.pr
 rw[List.take_length] at fin
 simp[B6,B7]
 exact fin
def As (u:US):Prop:=u.mode=2∨u.mode=3∨u.mode=4
open Classical in
noncomputable def askF (A:PLc) (s:PS) (i:Nat) (deaf:Bool):PS:=
 if deaf=false∧As (s.u i) then
  (if (zCn s.r i (s.u i).count).2.2.2=0 then setU (zQn s (zCn s.r i (s.u i).count).1) i (zIV (A.l i) (s.u i) (zCn s.r i (s.u i).count).2.1 (zCn s.r i (s.u i).count).2.2.1)
   else zQn s (zCn s.r i (s.u i).count).1)
 else s
theorem zCp(h:ROk r) (u c:Int):0≤(zCn r u c).2.1∧(zCn r u c).2.1≤2*r.now+1:=by
 have:=h.e0
 have:=h.n0
 unfold zCn
 split
 ·simp only; omega
 ·split <;> simp only <;> omega
theorem zCw(hd:10≤d)(ao:AOk A)(h:PAt c H n P A s) (rk:ROk s.r)(hi:i<2)(ht:t≤1000000) (uo:UOk (A.l i) t (s.u i)) (deaf:Bool) :
  Fe (K DG (d+5) 52 [.ptr P 0 0,.imm (.int .i64 (i:Int)),.imm (.bool deaf)] H n 0) (fun _ H' n'=>PR P A c H n (askF A s i deaf) H' n'):=by
 have hb:=h.blk
 simp only[zPQ] at hb
 obtain⟨p,q,own,x,hu⟩:=h.u i hi
 obtain⟨m1,e1,hm1⟩:=zSw hu (d:=d+3) (m:=n) (lo:=0)
 obtain⟨m2,e2,hm2⟩:=zSv hu (d:=d+3) (m:=m1) (lo:=0)
 obtain⟨H3,n3,e3,hn3,g3,f3⟩:=zOd (d:=d+3) (n:=m2) h.rl rk.ok (u:=(i:Int)) (by omega) uo.ct.1
 obtain⟨hn3',c3,p3,q3,f3'⟩:=h.setr (H':=H3) (n':=n3) (by omega) g3 f3
 have ep:=zCp rk (i:Int) (s.u i).count
 have hr:=rk.n0
 obtain⟨v4,H4,n4,e4,r4⟩:=zAj (d:=d) hd (ao.ok i hi) (ao.is i hi) (p3.ui hi) (fun j hj=>zOV hj) uo.co (e:=(zCn s.r i (s.u i).count).2.1) (k:=(zCn s.r i (s.u i).count).2.2.1) (by omega) uo.tk.1 (by have:=uo.tk.2; show (s.u i).tick≤1000000; omega)
 have pr4:=PR.comp hn3' q3 f3' (p3.setu_pr hi r4)
 have pr3:PR P A c H n (zQn s (zCn s.r i (s.u i).count).1) H3 n3:=⟨hn3',c3,p3,q3,f3'⟩
 have skip:∀ {m},n≤m→PR P A c H n s H m:=fun hm=>PR.refl h hm
 unfold askF
 generalize hy:zCn s.r i (s.u i).count=y at *
 obtain⟨r',y1,y2,y3⟩:=y
 simp only at e3 e4 pr3 pr4 ⊢
 generalize hmo:(s.u i).mode=mo at *
 have hAs:As (s.u i)↔mo=2∨mo=3∨mo=4:=by unfold As; rw[hmo]
 rw[kX 52 D.f52 rfl]
 refine zHy rfl ?_
 cases deaf with
 | true=>
  rw[if_neg (fun h=>nomatch h.1)]
  obtain rfl | rfl:i=0∨i=1:=by omega
  ·rw[show ((0:Nat):Int)=0 from rfl]
   simp[hb,e1,B6,B7]
   exact skip (by omega)
  ·rw[show ((1:Nat):Int)=1 from rfl]
   simp[hb,e1,B6,B7]
   exact skip (by omega)
 | false=>
  by_cases ha:mo=2∨mo=3∨mo=4
  ·rw[if_pos ⟨rfl,hAs.2 ha⟩]
   have hm:(mo=2)∨(mo≠2∧mo=3)∨(mo≠2∧mo≠3∧mo=4):=by omega
   by_cases hz:y3=0
   ·rw[if_pos hz]
    subst hz
    obtain rfl | rfl:i=0∨i=1:=by omega
    ·rw[show ((0:Nat):Int)=0 from rfl] at e3 ⊢
     rcases hm with hm | ⟨hm1,hm⟩ | ⟨hm1,hm2,hm⟩ <;> subst hm <;>
     ·simp[hb,e1,e2,e3,e4,B6,B7]
      exact pr4
    ·rw[show ((1:Nat):Int)=1 from rfl] at e3 ⊢
     rcases hm with hm | ⟨hm1,hm⟩ | ⟨hm1,hm2,hm⟩ <;> subst hm <;>
     ·simp[hb,e1,e2,e3,e4,B6,B7]
      exact pr4
   ·rw[if_neg hz]
    obtain rfl | rfl:i=0∨i=1:=by omega
    ·rw[show ((0:Nat):Int)=0 from rfl] at e3 ⊢
     rcases hm with hm | ⟨hm1,hm⟩ | ⟨hm1,hm2,hm⟩ <;> subst hm <;>
     ·simp[hb,e1,e2,e3,hz,B6,B7]
      exact pr3
    ·rw[show ((1:Nat):Int)=1 from rfl] at e3 ⊢
     rcases hm with hm | ⟨hm1,hm⟩ | ⟨hm1,hm2,hm⟩ <;> subst hm <;>
     ·simp[hb,e1,e2,e3,hz,B6,B7]
      exact pr3
  ·rw[if_neg (fun h=>ha (hAs.1 h.2))]
   have h2:¬mo=2:=fun h=>ha (.inl h)
   have h3:¬mo=3:=fun h=>ha (.inr (.inl h))
   have h4:¬mo=4:=fun h=>ha (.inr (.inr h))
   obtain rfl | rfl:i=0∨i=1:=by omega
   ·rw[show ((0:Nat):Int)=0 from rfl]
    simp[hb,e1,h2,h3,h4,B6,B7]
    exact skip (by omega)
   ·rw[show ((1:Nat):Int)=1 from rfl]
    simp[hb,e1,h2,h3,h4,B6,B7]
    exact skip (by omega)
end Go.Proofs.YtlknjgmhfimhbaaGreatDoor.D
