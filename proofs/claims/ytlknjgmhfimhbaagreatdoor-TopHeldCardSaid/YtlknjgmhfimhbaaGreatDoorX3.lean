/-
  TopHeld: what its functions compute, and the law (part 3).
-/
import Derived.Test.YtlknjgmhfimhbaaGreatDoorX2
import Derived.Test.YtlknjgmhfimhbaaGreatDoorX0
import Derived.KernelRfl
import Derived.Test.YtlknjgmhfimhbaaGreatDoorX1
set_option linter.unusedVariables false
set_option linter.unusedSimpArgs false
set_option maxHeartbeats 16000000
namespace Go.Proofs.YtlknjgmhfimhbaaGreatDoor.D
open Go Go.PM Go.Lib
def zEe (a:List (Int×Int)) (e:EV):List (Int×Int):=if e.k=8 then a++[(e.c,e.r)] else a
def cmF (es:List EV):List (Int×Int):=es.foldl zEe []
variable {es:List EV} {i:Nat}
theorem zEd(hi:i<es.length):cmF (es.take (i+1))=zEe (cmF (es.take i)) (nth es i):=by
 rw[List.take_add_one,List.getElem?_eq_getElem hi]
 unfold cmF
 rw[List.foldl_append]
 simp[nth,List.getD_eq_getElem?_getD,List.getElem?_eq_getElem hi]
theorem zEc (es:List EV):(cmF es).length≤es.length:=by
 have:∀ (es:List EV) (a:List (Int×Int)),(es.foldl zEe a).length≤a.length+es.length:=by
  intro es
  induction es with
  | nil=>simp
  | cons e es ih=>
   intro a
   have:=ih (zEe a e)
   simp only[List.foldl_cons,List.length_cons]
   have h2:(zEe a e).length≤a.length+1:=by
    unfold zEe
    split <;> simp
   omega
 simpa [cmF] using this es []
structure IG0 (P:Nat) (H0:PT HB) (n0:Nat) (v:IV) (es:List EV) (i:Nat) (st:St):Prop where
 c0:st.T.get 0=some (.ptr P 0 0)
 b4:BoxD st 4 [.imm .nils,.imm .nils]
 c13:st.T.get 13=some (.imm v)
 c14:st.T.get 14=some (.imm (.int .i64 (es.length:Int)))
 c15:st.T.get 15=some (.imm (.int .i64 (i:Int)))
 c5:∃ x,st.T.get 5=some x∧Rw 2 st.H n0 st.n x ((cmF (es.take i)).map ivC)
 fr:∀ j,j<n0→st.H.get j=H0.get j
 hn:n0≤st.n
variable {H0:PT HB} {n0:Nat} {v:IV}
theorem zKq {d:Nat}{P:Nat}(hv:Sl 5 v (es.map ivE)) (hl:es.length≤1000){st:St}(h:IG0 P H0 n0 v es 0 st){ks:List Kf}{Q:Ex→St→Prop}
  (hk:∀ s',IG0 P H0 n0 v es es.length s'→Bk DG (K DG d) 0 (.exit 0) ks s' Q):Wp DG (K DG d) 0 D.l53_0 ks st Q:=by
 have hlr:es.length≤reachBytes:=by have:=rb3; omega
 refine zGt (N:=es.length) (zRH hlr) (fun i st=>IG0 P H0 n0 v es i st) (fun e s'=>e=.exit 0∧IG0 P H0 n0 v es es.length s') (fun i st hle hI=>?_) h (fun e s' h=>by
  obtain⟨rfl,h⟩:=h
  exact hk s' h)
 obtain⟨c0,⟨i4,b4,L4⟩,c13,c14,c15,⟨x,c5,hx⟩,fr,hn⟩:=hI
 have vs:=hv.scal
 have xs:=hx.scal
 by_cases hi:i<es.length
 ·have hi1:(i:Int)<es.length:=by omega
  have hi':=zI3 hi1
  have hw8:IntKind.i64.wrap ((i:Int)+1)=(i:Int)+1:=zTX hi hlr
  have ix:=zIu hv hi1
  simp only[Int.toNat_natCast] at ix
  have su:=zEd hi
  have hcl:=zEc (es.take i)
  rw[List.length_take] at hcl
  generalize cmF (es.take i)=a at *
  generalize nth es i=y at *
  obtain⟨k,u,z,y1,y2⟩:=y
  simp only[zEe] at su
  by_cases k8:k=8
  ·rw[if_pos k8] at su
   subst k8
   obtain⟨x',hw,acc,ea,hx',fx⟩:=zCc (lo:=0) (bytes:=16) (Nat.zero_le _) (show n0≤st.n+1 by omega) (show Rw 2 st.H n0 (st.n+1) x (a.map ivC) from by
    rcases hx with h | ⟨id,⟨p1,p2⟩,p3⟩
    ·exact .inl h
    ·exact .inr ⟨id,⟨p1,by omega⟩,p3⟩) (by omega) (by simp; omega) (by omega) (es:=[[.int .i64 y1,.int .i64 y2]]) (by simp) (by simp)
   have xs':=hx'.scal
   have fin:∀ {T:PT DV}{L:PT LV}{H:PT HB}{n:Nat},H=putH st.H hw→n=st.n+1+1→T.get 0=some (.ptr P 0 0)→(∃ id,T.get 4=some (.lref 4 id 0)∧L.get 4=some (.box id [.imm .nils,.imm .nils]))→T.get 13=some (.imm v)→T.get 14=some (.imm (.int .i64 (es.length:Int)))→T.get 15=some (.imm (.int .i64 ((i:Int)+1)))→T.get 5=some x'→IG0 P H0 n0 v es (i+1) ⟨T,L,H,n⟩:=fun e1 e2 h0 h4 h13 h14 h15 h5=>by
    subst e1 e2
    refine⟨h0,h4,h13,h14,h15,⟨x',h5,?_⟩,fun j hj=>(fx j hj).trans (fr j hj),by show n0≤st.n+1+1; omega⟩
    rw[su]
    simpa [ivC] using hx'
   generalize hQ:(fun (e:Ex) (s':St)=>_)=Q'
   simp only[D.l53_0b]
   simp[c0,b4,L4,c13,c14,c15,c5,vs,xs,xs',hi',hw8,ix,ivE,imms,ea,zHH,lay,zS4,zS2,mapO,zPT,B6,B7]
   subst hQ
   exact .inl ⟨rfl,hi,fin rfl (by omega) (by simp[gP,c0]) ⟨i4,by simp[gP,b4],by simp[gP,L4]⟩ (by simp[gP,c13]) (by simp[gP,c14]) (by simp[gP]) (by simp[gP])⟩
  ·rw[if_neg k8] at su
   have fin:∀ {T:PT DV}{L:PT LV}{n:Nat},st.n≤n→T.get 0=some (.ptr P 0 0)→(∃ id,T.get 4=some (.lref 4 id 0)∧L.get 4=some (.box id [.imm .nils,.imm .nils]))→T.get 13=some (.imm v)→T.get 14=some (.imm (.int .i64 (es.length:Int)))→T.get 15=some (.imm (.int .i64 ((i:Int)+1)))→T.get 5=some x→IG0 P H0 n0 v es (i+1) ⟨T,L,st.H,n⟩:=fun e2 h0 h4 h13 h14 h15 h5=>by
    refine⟨h0,h4,h13,h14,h15,⟨x,h5,?_⟩,fr,Nat.le_trans hn e2⟩
    rw[su]
    rcases hx with h | ⟨id,⟨p1,p2⟩,p3⟩
    ·exact .inl h
    ·exact .inr ⟨id,⟨p1,Nat.lt_of_lt_of_le p2 e2⟩,p3⟩
   generalize hQ:(fun (e:Ex) (s':St)=>_)=Q'
   simp only[D.l53_0b]
   simp[c0,b4,L4,c13,c14,c15,c5,vs,xs,hi',hw8,ix,k8,ivE,imms,B6,B7]
   subst hQ
   exact .inl ⟨rfl,hi,fin (by omega) (by simp[gP,c0]) ⟨i4,by simp[gP,b4],by simp[gP,L4]⟩ (by simp[gP,c13]) (by simp[gP,c14]) (by simp[gP]) (by simp[gP,c5])⟩
 ·obtain rfl:i=es.length:=by omega
  generalize hQ:(fun (e:Ex) (s':St)=>_)=Q'
  simp only[D.l53_0b]
  simp[c0,b4,L4,c13,c14,c15,c5,vs,xs,zI2,B6,B7]
  subst hQ
  exact .inr ⟨nofun,rfl,by simp[gP,c0],⟨i4,by simp[gP,b4],by simp[gP,L4]⟩,by simp[gP,c13],by simp[gP,c14],by simp[gP,c15],⟨x,by simp[gP,c5],hx⟩,fr,hn⟩
variable {A:PLc} {H H':PT HB} {c c':Nat→Nat} {n n':Nat} {s:PS} {u:US}
theorem PAt.setuo {P:Nat}(h:PAt c H n P A s)(hi:i<2) (hn:n≤n')(hu:UI (fun j=>rc c n i j=i∧j<n) (A.l i) H' n' (A.a i) u) (hf:∀ j,j<n→¬rc c n i j=i→H'.get j=H.get j) (hc:∀ j,j<n→c' j=c j):PAt c' H' n' P A (setU s i u):=by
 have hf':∀ j,j<n→c j≠i→H'.get j=H.get j:=fun j hj hc=>hf j hj (fun e=>hc ((zOW hj).symm.trans e))
 obtain⟨blk,u0,rl,lk,fd,kk,cP,cr,cl,cf,ck⟩:=h
 refine⟨by rw[hf' P cP.2 (by omega)]; exact blk,fun k hk=>?_,by rw[hf' _ cr.2 (by omega)]; exact rl,?_,fd.mono fun j hj=>hf' j (cf j hj).2 (by have:=(cf j hj).1; omega),?_,?_,?_,?_,fun j hj=>?_,fun j hj=>?_⟩
 ·by_cases e:k=i
  ·subst e
   simp only[setU,upF,if_true]
   exact hu.mono (Nat.le_refl _) (fun j hj h=>(hc j h.2).trans ((zOW (c:=c) (k:=k) h.2).symm.trans h.1)) (fun _ _ _=>rfl)
  ·simp only[setU,upF,if_neg e]
   exact (u0 k hk).mono hn (fun j hj h=>by rw[hc j hj]; exact h) (fun j hj h=>hf' j hj (by omega))
 ·exact lk.mono (fun j h=>⟨by rw[hc j h.2]; exact h.1,by omega⟩) (hf' _ cl.2 (by omega)) (fun j h=>hf' j h.2 (by omega))
 ·obtain⟨rs,kk⟩:=kk
  exact⟨rs,kk.mono fun j hj=>hf' j (ck j hj).2 (by have:=(ck j hj).1; omega)⟩
 ·exact⟨by rw[hc _ cP.2]; exact cP.1,by omega⟩
 ·exact⟨by rw[hc _ cr.2]; exact cr.1,by omega⟩
 ·exact⟨by rw[hc _ cl.2]; exact cl.1,by omega⟩
 ·have:=cf j hj
  exact⟨by rw[hc _ this.2]; exact this.1,by omega⟩
 ·have:=ck j hj
  exact⟨by rw[hc _ this.2]; exact this.1,by omega⟩
noncomputable def cyI (A:PLc) (s:PS) (es:List EV) (i:Nat):US×List Int×List Bool:=zFN (A.l i) (s.u i) s.occ (s.pts.map (·.l)) (decide (s.r.con=(i:Int))) (cmF es)
noncomputable def zSQ (A:PLc) (s:PS) (es:List EV) (i:Nat):PS:=if i=0 then s else if i=1 then setU s 0 (cyI A s es 0).1 else setU (setU s 0 (cyI A s es 0).1) 1 (cyI A s es 1).1
noncomputable def outI (A:PLc) (s:PS) (es:List EV) (i:Nat):List Int×List Bool:=
 if s.r.con=0∧1≤i then (cyI A s es 0).2 else if s.r.con=1∧2≤i then (cyI A s es 1).2 else (List.replicate A.ls.pts.length 0,List.replicate A.ls.sigs.length false)
theorem zSR (A:PLc) (s:PS) (es:List EV) (i:Nat):(zSQ A s es i).r=s.r∧(zSQ A s es i).occ=s.occ∧(zSQ A s es i).pts=s.pts∧(zSQ A s es i).now=s.now∧(zSQ A s es i).snt=s.snt∧(zSQ A s es i).cam=s.cam:=by
 unfold zSQ
 split
 ·exact⟨rfl,rfl,rfl,rfl,rfl,rfl⟩
 ·split <;> exact⟨rfl,rfl,rfl,rfl,rfl,rfl⟩
theorem zST (A:PLc) (s:PS) (es:List EV)(hi:i<2):(zSQ A s es i).u i=s.u i:=by
 obtain rfl | rfl:i=0∨i=1:=by omega
 ·rfl
 ·simp[zSQ,setU,upF]
theorem zSS (A:PLc) (s:PS) (es:List EV)(hi:i<2):zSQ A s es (i+1)=setU (zSQ A s es i) i (cyI A s es i).1:=by
 obtain rfl | rfl:i=0∨i=1:=by omega
 ·rfl
 ·rfl
theorem zNd (A:PLc) (s:PS) (es:List EV)(hi:i<2):outI A s es (i+1)=if s.r.con=(i:Int) then (cyI A s es i).2 else outI A s es i:=by
 unfold outI
 obtain rfl | rfl:i=0∨i=1:=by omega
 ·by_cases h:s.r.con=0
  ·simp[h]
  ·by_cases h1:s.r.con=1 <;> simp[h,h1]
 ·by_cases h:s.r.con=0
  ·simp[h]
  ·by_cases h1:s.r.con=1 <;> simp[h,h1]
structure IG1 (P:Nat) (A:PLc) (cc:Nat→Nat) (H0:PT HB) (n0:Nat) (s:PS) (es:List EV) (x:DV) (i:Nat) (st:St):Prop where
 c0:st.T.get 0=some (.ptr P 0 0)
 b4:BoxD st 4 [.imm .nils,.imm .nils]
 c5:st.T.get 5=some x
 b8:∃ y z,BoxD st 8 [y,z]∧OutAt st.H.get n0 st.n y ((outI A s es i).1.map ivI)∧OutAt st.H.get n0 st.n z ((outI A s es i).2.map ivB1)
 c36:st.T.get 36=some (.agg [.ptr (A.a 0) 0 0,.ptr (A.a 1) 0 0])
 c37:st.T.get 37=some (.imm (.int .i64 (i:Int)))
 pt:PAt (rc cc n0 7) st.H st.n P A (zSQ A s es i)
 fr:∀ j,j<n0→6<cc j→st.H.get j=H0.get j
 hn:n0≤st.n
variable {h:Nat→Option HB} {x:DV}
theorem OutAt.keep {h':Nat→Option HB}{es:List (List IV)}(o:OutAt h n0 n x es) (hn:n≤n') (hf:∀ j,n0≤j→j<n→h' j=h j):OutAt h' n0 n' x es:=by
 rcases o with o | ⟨id,⟨h1,h2⟩,h3,h4⟩
 ·exact .inl o
 ·exact .inr ⟨id,⟨h1,by omega⟩,h3,by rw[hf id h1 h2]; exact h4⟩
variable {m:Nat}
theorem OutAt.low{es:List (List IV)}(o:OutAt h m n x es) (hn:n0≤m):OutAt h n0 n x es:=by
 rcases o with o | ⟨id,⟨h1,h2⟩,h3⟩
 ·exact .inl o
 ·exact .inr ⟨id,⟨by omega,h2⟩,h3⟩
structure FOk (s:PS):Prop where
 o0:s.occ≠[]
 ol:s.occ.length≤1000
 pl:s.pts.length≤1000
theorem zI9(f:FOk s):InOk (.lst false 1 (s.occ.map ivB)) (zKJ s.pts) s.occ (s.pts.map (·.l)):=by
 have:=rb3
 refine⟨.inr ⟨false,rfl⟩,?_,by have:=f.ol; omega,by have:=f.pl; simp; omega⟩
 unfold zKJ
 split
 ·rename_i h
  rw[h]
  exact .inl ⟨rfl,rfl⟩
 ·exact .inr ⟨false,rfl⟩
variable {cc:Nat→Nat}
theorem zKr {d:Nat}(hd:10≤d){P:Nat}(ao:AOk A){t:Int}(uo:∀ i,i<2→UOk (A.l i) t (s.u i)) (fo:FOk s) (hel:es.length≤1000)
  (hx:(∃ w,x=.imm w∧Sl 2 w ((cmF es).map ivC))∨∃ id,(id<n0∧cc id=7)∧x=.sl id 0 (cmF es).length (cmF es).length∧H0.get id=some ⟨2,((cmF es).map ivC).map imms⟩)
  {st:St}(h:IG1 P A cc H0 n0 s es x 0 st){ks:List Kf}{Q:Ex→St→Prop}
  (hk:∀ s',IG1 P A cc H0 n0 s es x 2 s'→Bk DG (K DG (d+4)) 0 (.exit 2) ks s' Q):Wp DG (K DG (d+4)) 0 D.l53_1 ks st Q:=by
 refine zGt (N:=2) (zRH (by have:=rb3; omega)) (fun i st=>IG1 P A cc H0 n0 s es x i st) (fun e s'=>e=.exit 2∧IG1 P A cc H0 n0 s es x 2 s') (fun i st hle hI=>?_) h (fun e s' h=>by
  obtain⟨rfl,h⟩:=h
  exact hk s' h)
 obtain⟨c0,⟨i4,b4,L4⟩,c5,⟨y,z,⟨i8,b8,L8⟩,oy,oz⟩,c36,c37,hp,fr,hn⟩:=hI
 have i12:IntKind.i64.wrap 1=1:=rfl
 have i22:IntKind.i64.wrap 2=2:=rfl
 have xs:x.scal=true∧x.out=true:=by
  rcases hx with⟨w,rfl,hw⟩ | ⟨id,_,rfl,_⟩
  ·exact⟨hw.scal,rfl⟩
  ·exact⟨rfl,rfl⟩
 have ys:=oy.scal
 have zs:=oz.scal
 by_cases hi:i<2
 ·have hb:=hp.blk
  simp only[zPQ] at hb
  obtain⟨tr,to,tp,tn,_,_⟩:=zSR A s es i
  obtain⟨k1,e1,hk1⟩:=zOf hp.rl (d:=d+3) (n:=st.n) (lo:=0)
  obtain⟨k2,e2,hk2⟩:=zI8 DG (d+2) hp.fd (by rw[to]; exact fo.o0) (by rw[to]; exact fo.ol) (by rw[tp]; exact fo.pl) (n:=k1) (fun j hj=>by have:=(hp.cf j hj).2; omega) 0
  rw[tr] at e1
  rw[to,tp] at e2
  have hp2:=hp.mono (c':=rc cc n0 7) (n':=k2) (by omega) (fun _ _=>rfl) (fun _ _ _=>rfl)
  have huo:=uo i hi
  rw[← zST A s es hi] at huo
  have cma:CmA (fun j=>rc (rc cc n0 7) k2 i j=i) st.H.get k2 x (cmF es):=by
   rcases hx with h | ⟨id,⟨q1,q2⟩,q3,q4⟩
   ·exact .inl h
   ·refine .inr ⟨id,⟨by omega,fun e=>?_⟩,q3,by rw[fr id q1 (by omega)]; exact q4⟩
    have e:rc (rc cc n0 7) k2 i id=i:=e
    rw[zOW (by omega),zOW q1] at e
    omega
  obtain⟨v5,H5,n5,e5,⟨hn5,hu5,f5⟩,o5⟩:=zAf (d:=d+1) (by omega) (ao.ok i hi) (ao.is i hi) (hp2.ui hi) (fun j hj=>zOV hj) huo.inv ⟨by have:=huo.ct; omega,huo.ct.2⟩ (by have:=huo.lf; omega) (zI9 fo) cma (by have:=rb3; have:=zEc es; omega) (decide (s.r.con=(i:Int)))
  rw[zST A s es hi] at hu5 o5
  have hcy:zFN (A.l i) (s.u i) s.occ (s.pts.map (·.l)) (decide (s.r.con=(i:Int))) (cmF es)=cyI A s es i:=rfl
  rw[hcy] at hu5 o5
  have hp5:=hp2.setuo hi hn5 hu5 f5 (c':=rc cc n0 7) (fun _ _=>rfl)
  rw[← zSS A s es hi] at hp5
  have g5:∀ j,j<k2→rc cc n0 7 j=7→H5.get j=st.H.get j:=fun j hj e=>f5 j hj (fun e2=>by
   have e2:rc (rc cc n0 7) k2 i j=i:=e2
   rw[zOW hj,e] at e2
   omega)
  have fr5:∀ j,j<n0→6<cc j→H5.get j=H0.get j:=fun j hj h6=>(f5 j (by omega) (fun e=>by
   have e:rc (rc cc n0 7) k2 i j=i:=e
   rw[zOW (by omega),zOW hj] at e
   omega)).trans (fr j hj h6)
  obtain⟨v1,v2,rfl,o1,o2⟩:=o5
  have s1:=o1.scal
  have s2:=o2.scal
  have oy5:OutAt H5.get n0 n5 y ((outI A s es i).1.map ivI):=oy.keep (by omega) (fun j h1 h2=>g5 j (by omega) (zOV h1))
  have oz5:OutAt H5.get n0 n5 z ((outI A s es i).2.map ivB1):=oz.keep (by omega) (fun j h1 h2=>g5 j (by omega) (zOV h1))
  have su:=zNd A s es hi
  have fin:∀ {T:PT DV}{L:PT LV}{y' z':DV},OutAt H5.get n0 n5 y' ((outI A s es (i+1)).1.map ivI)→OutAt H5.get n0 n5 z' ((outI A s es (i+1)).2.map ivB1)→T.get 0=some (.ptr P 0 0)→(∃ id,T.get 4=some (.lref 4 id 0)∧L.get 4=some (.box id [.imm .nils,.imm .nils]))→T.get 5=some x→(∃ id,T.get 8=some (.lref 8 id 0)∧L.get 8=some (.box id [y',z']))→T.get 36=some (.agg [.ptr (A.a 0) 0 0,.ptr (A.a 1) 0 0])→T.get 37=some (.imm (.int .i64 ((i:Int)+1)))→∀ m,n5≤m→IG1 P A cc H0 n0 s es x (i+1) ⟨T,L,H5,m⟩:=fun oa ob h0 h4 h5 h8 h36 h37 m hm=>
   ⟨h0,h4,h5,⟨_,_,h8,oa.keep hm (fun _ _ _=>rfl),ob.keep hm (fun _ _ _=>rfl)⟩,h36,h37,hp5.mono hm (fun _ _=>rfl) (fun _ _ _=>rfl),fr5,by show n0≤m; omega⟩
  generalize hQ:(fun (e:Ex) (s':St)=>_)=Q'
  simp only[D.l53_1b]
  by_cases hc:s.r.con=(i:Int)
  ·rw[if_pos hc] at su
   have oa:OutAt H5.get n0 n5 v1 ((outI A s es (i+1)).1.map ivI):=by rw[su]; exact o1.low (by omega)
   have ob:OutAt H5.get n0 n5 v2 ((outI A s es (i+1)).2.map ivB1):=by rw[su]; exact o2.low (by omega)
   simp only[hc,decide_true] at e5
   rw[hc] at e1
   obtain rfl | rfl:i=0∨i=1:=by omega
   ·rw[show ((0:Nat):Int)=0 from rfl] at c37 e1
    simp[c0,b4,L4,c5,b8,L8,c36,c37,hb,il02,i12,e1,e2,e5,xs.1,xs.2,s1.1,s1.2,s2.1,s2.2,imms,B6,B7]
    subst hQ
    exact .inl ⟨rfl,by omega,fin oa ob (by simp[gP,c0]) ⟨i4,by simp[gP,b4],by simp[gP,L4]⟩ (by simp[gP,c5]) ⟨i8,by simp[gP,b8],by simp[gP,L8]⟩ (by simp[gP,c36]) (by simp[gP]) _ (by omega)⟩
   ·rw[show ((1:Nat):Int)=1 from rfl] at c37 e1
    simp[c0,b4,L4,c5,b8,L8,c36,c37,hb,il12,i22,e1,e2,e5,xs.1,xs.2,s1.1,s1.2,s2.1,s2.2,imms,B6,B7]
    subst hQ
    exact .inl ⟨rfl,by omega,fin oa ob (by simp[gP,c0]) ⟨i4,by simp[gP,b4],by simp[gP,L4]⟩ (by simp[gP,c5]) ⟨i8,by simp[gP,b8],by simp[gP,L8]⟩ (by simp[gP,c36]) (by simp[gP]) _ (by omega)⟩
  ·rw[if_neg hc] at su
   rw[← su] at oy5 oz5
   simp only[hc,decide_false] at e5
   obtain rfl | rfl:i=0∨i=1:=by omega
   ·rw[show ((0:Nat):Int)=0 from rfl] at c37 hc
    simp[c0,b4,L4,c5,b8,L8,c36,c37,hb,il02,i12,e1,e2,e5,hc,xs.1,xs.2,ys.1,zs.1,s1.1,s1.2,s2.1,s2.2,imms,B6,B7]
    subst hQ
    exact .inl ⟨rfl,by omega,fin oy5 oz5 (by simp[gP,c0]) ⟨i4,by simp[gP,b4],by simp[gP,L4]⟩ (by simp[gP,c5]) ⟨i8,by simp[gP,b8],by simp[gP,L8]⟩ (by simp[gP,c36]) (by simp[gP]) _ (by omega)⟩
   ·rw[show ((1:Nat):Int)=1 from rfl] at c37 hc
    simp[c0,b4,L4,c5,b8,L8,c36,c37,hb,il12,i22,e1,e2,e5,hc,xs.1,xs.2,ys.1,zs.1,s1.1,s1.2,s2.1,s2.2,imms,B6,B7]
    subst hQ
    exact .inl ⟨rfl,by omega,fin oy5 oz5 (by simp[gP,c0]) ⟨i4,by simp[gP,b4],by simp[gP,L4]⟩ (by simp[gP,c5]) ⟨i8,by simp[gP,b8],by simp[gP,L8]⟩ (by simp[gP,c36]) (by simp[gP]) _ (by omega)⟩
 ·obtain rfl:i=2:=by omega
  rw[show ((2:Nat):Int)=2 from rfl] at c37
  generalize hQ:(fun (e:Ex) (s':St)=>_)=Q'
  simp only[D.l53_1b]
  simp[c0,b4,L4,c5,b8,L8,c36,c37,zI2,ys.1,zs.1,B6,B7]
  subst hQ
  exact .inr ⟨nofun,rfl,by simp[gP,c0],⟨i4,by simp[gP,b4],by simp[gP,L4]⟩,by simp[gP,c5],⟨y,z,⟨i8,by simp[gP,b8],by simp[gP,L8]⟩,oy,oz⟩,by simp[gP,c36],by simp[gP,c37],hp,fr,hn⟩
theorem zOX {k:Nat}(h:n≤m) (j:Nat):rc (rc c n k) m k j=rc c n k j:=by
 by_cases h1:j<m
 ·rw[zOW h1]
 ·rw[zOV (by omega),zOV (by omega)]
theorem zSU {d:Nat}(hd:10≤d) {P:Nat}(ao:AOk A)(h:PAt c H n P A s){t:Int}(uo:∀ i,i<2→UOk (A.l i) t (s.u i)) (fo:FOk s)(hv:Sl 5 v (es.map ivE)) (hel:es.length≤1000) :
  Fe (K DG (d+5) 53 [.ptr P 0 0,.imm v] H n 0) (fun v' H' n'=>n≤n'∧PAt (rc c n 7) H' n' P A (zSQ A s es 2)∧(∀ j,j<n→6<c j→H'.get j=H.get j)∧OutD H'.get n n' v' (outI A s es 2).1 (outI A s es 2).2):=by
 have vs:=hv.scal
 have vl:=hv.len
 simp only[List.length_map] at vl
 rw[kX 53 D.f53 rfl]
 refine zHy rfl ?_
 simp[vs,vl,B6,B7]
 refine zKq (P:=P) (H0:=H) (n0:=n) hv hel ⟨by simp[gP],⟨n,by simp[gP],by simp[gP,imms]⟩,by simp[gP],by simp[gP],by simp[gP],⟨.imm .nils,by simp[gP],.inl ⟨rfl,by simp[cmF]⟩⟩,fun _ _=>rfl,by simp⟩ (fun s1 hI=>?_)
 obtain⟨c0,⟨i4,b4,L4⟩,c13,c14,c15,⟨x,c5,hx⟩,fr,hn⟩:=hI
 rw[List.take_length] at hx
 have h1:=h.mono (c':=rc c n 7) (H':=s1.H) (n':=s1.n) hn (fun j hj=>zOW hj) (fun j hj _=>fr j hj)
 have hb:=h1.blk
 simp only[zPQ] at hb
 obtain⟨rs,lk⟩:=h1.kk
 have es1:=zBW (d:=d+3) ao.oks ao.iss.p2 ao.iss.g2 lk (n:=s1.n) (lo:=0) (h1.ck _ (by simp)).2
 have xs:=hx.scal
 simp[c0,b4,L4,c5,xs,hb,es1,zQF,imms,B6,B7]
 refine zKr (P:=P) (A:=A) (cc:=rc c n 7) (H0:=s1.H) (n0:=s1.n) (s:=s) (es:=es) (x:=x) (t:=t) hd ao uo fo hel ?_ ⟨by simp[gP,c0],⟨i4,by simp[gP,b4],by simp[gP,L4]⟩,by simp[gP,c5],⟨_,_,⟨_,by simp[gP]; rfl,by simp[gP]; exact⟨rfl,rfl⟩⟩,.inl ⟨_,rfl,?_⟩,.inl ⟨_,rfl,?_⟩⟩,by simp[gP],by simp[gP],?_,(by intros; rfl),by simp; omega⟩ (fun s2 hI=>?_)
 ·rcases hx with⟨rfl,hx⟩ | ⟨id,⟨q1,q2⟩,q3,q4⟩
  ·exact .inl ⟨_,rfl,.inl ⟨rfl,hx⟩⟩
  ·exact .inr ⟨id,⟨q2,zOV q1⟩,by simpa using q3,q4⟩
 ·exact .inr ⟨false,by simp[outI,ivI]⟩
 ·exact .inr ⟨false,by simp[outI,ivB1]⟩
 ·exact h1.mono (by simp; omega) (fun j hj=>zOW hj) (fun _ _ _=>rfl)
 obtain⟨c0,⟨i4,b4,L4⟩,c5,⟨y,z,⟨i8,b8,L8⟩,oy,oz⟩,c36,c37,hp,fr2,hn2⟩:=hI
 have ys:=oy.scal
 have zs:=oz.scal
 simp[c0,b4,L4,b8,L8,ys.1,zs.1,ys.2,zs.2,imms,B6,B7]
 refine⟨by omega,hp.mono (Nat.le_refl _) (fun j _=>(zOX hn j).symm) (fun _ _ _=>rfl),fun j hj h6=>(fr2 j (by omega) (by rw[zOW hj]; exact h6)).trans (fr j hj),y,z,rfl,oy.low hn,oz.low hn⟩
structure PI (A:PLc) (k:Int) (s:PS):Prop where
 uo:∀ i,i<2→UOk (A.l i) s.now (s.u i)
 fo:FOk s
 rk:ROk s.r
 ek:s.r.ep≤2*s.r.now - k
 rn:s.r.now=s.now
 ml:∀ i,(s.snt i).length≤100000∧(s.cam i).length≤100000
theorem zS8 {f:Nat→List UInt8}(h:∀ i,(f i).length≤100000){bs:List UInt8}(hb:bs.length≤100000) (i j:Nat):(upF f i bs j).length≤100000:=by
 unfold upF
 split
 ·exact hb
 ·exact h j
variable {k:Int}
theorem PI.setu(h:PI A k s)(hu:i<2→UOk (A.l i) s.now u):PI A k (setU s i u):=by
 refine⟨fun j hj=>?_,⟨h.fo.o0,h.fo.ol,h.fo.pl⟩,h.rk,h.ek,h.rn,h.ml⟩
 simp only[setU,upF]
 split
 ·rename_i e
  subst e
  exact hu hj
 ·exact h.uo j hj
theorem zSo (occ:List Bool) (k:Int):(zSn occ k).length=occ.length:=by
 unfold zSn zHt
 split <;> simp
theorem zRg (pts:List FPt) (k:Int):(zRf pts k).length=pts.length:=by
 unfold zRf
 split <;> simp
variable {occ:List Bool} {pts:List FPt}
theorem FOk.field(h:FOk s)(ho:occ.length=s.occ.length) (hp:pts.length=s.pts.length):FOk (setF s occ pts):=
 ⟨fun e=>h.o0 (by
  have e:occ=[]:=e
  rw[e] at ho
  exact List.length_eq_zero_iff.1 ho.symm),by show occ.length≤1000; rw[ho]; exact h.ol,by show pts.length≤1000; rw[hp]; exact h.pl⟩
theorem zTd (r:RLS) (u:Int):(zTc r u).ep=r.ep∧(zTc r u).now=r.now:=by
 unfold zTc
 split <;> exact⟨rfl,rfl⟩
theorem PI.yld(h:PI A k s) (e:EV):PI A k (yldF A s e):=by
 unfold yldF
 split
 ·have h':=h.setu (i:=e.u.toNat) (u:=zKB (A.l e.u.toNat) (s.u e.u.toNat)) fun hi=>(h.uo _ hi).leaves
  refine⟨h'.uo,⟨h'.fo.o0,h'.fo.ol,h'.fo.pl⟩,h.rk.yield _,?_,?_,h.ml⟩
  ·show (zTc s.r e.u).ep≤2*(zTc s.r e.u).now - k
   rw[(zTd _ _).1,(zTd _ _).2]
   exact h.ek
  ·show (zTc s.r e.u).now=s.now
   rw[(zTd _ _).2]
   exact h.rn
 ·exact h
theorem PI.ylds {A:PLc}{k:Int}:∀ (es:List EV){s:PS},PI A k s→PI A k (zTi A s es)
 | [],s,h=>h
 | e::es,s,h=>PI.ylds es (s:=yldF A s e) (h.yld e)
theorem zCs {r:RLS}(h:ROk r)(ek:r.ep≤2*r.now - k) (hk:1≤k) (u:Int){c:Int}(hc:0≤c∧c≤9223372036854775807):ROk (zCn r u c).1∧(zCn r u c).1.ep≤2*(zCn r u c).1.now - (k - 1)∧(zCn r u c).1.now=r.now∧0≤(zCn r u c).2.2.1∧(zCn r u c).2.2.1≤9223372036854775807:=by
 have n0:=h.n0
 have a0:=h.a0
 have e0:=h.e0
 have l0:=h.l0
 unfold zCn
 split
 ·exact⟨⟨n0,by simp only; omega,e0,hc⟩,by simp only; omega,rfl,l0.1,l0.2⟩
 ·split
  ·exact⟨⟨n0,by simp only; omega,by simp only; omega,l0⟩,by simp only; omega,rfl,l0.1,l0.2⟩
  ·exact⟨h,by simp only; omega,rfl,Int.le_refl _,by simp only; omega⟩
theorem PI.ask(h:PI A k s) (hk:1≤k)(hi:i<2) (deaf:Bool):PI A (k - 1) (askF A s i deaf):=by
 obtain⟨h1,h2,h3,h4,h5⟩:=zCs h.rk h.ek hk (i:Int) (h.uo i hi).ct
 have hs:PI A (k - 1) (zQn s (zCn s.r i (s.u i).count).1):=⟨h.uo,⟨h.fo.o0,h.fo.ol,h.fo.pl⟩,h1,h2,h3.trans h.rn,h.ml⟩
 unfold askF
 split
 ·split
  ·exact hs.setu fun hi=>(h.uo i hi).grant _ ⟨h4,h5⟩
  ·exact hs
 ·exact⟨h.uo,h.fo,h.rk,by have:=h.ek; omega,h.rn,h.ml⟩
theorem PI.tell(ao:AOk A)(h:PI A k s) (es:List EV):PI A k (zSQ A s es i):=by
 have hc:∀ i,i<2→UOk (A.l i) s.now (cyI A s es i).1:=fun i hi=>(h.uo i hi).cycle (ao.is i hi) _ _ _ _
 unfold zSQ
 split
 ·exact h
 ·split
  ·exact h.setu fun hi=>hc 0 hi
  ·exact (h.setu (i:=0) fun hi=>hc 0 hi).setu fun hi=>hc 1 hi
theorem PI.sent(h:PI A k s) (i:Nat){bs:List UInt8}(hb:bs.length≤100000):PI A k (zQh s i bs):=by
 unfold zQh
 split
 ·exact h
 ·exact⟨h.uo,⟨h.fo.o0,h.fo.ol,h.fo.pl⟩,h.rk,h.ek,h.rn,fun j=>⟨zS8 (fun i=>(h.ml i).1) hb i j,(h.ml j).2⟩⟩
theorem PI.ends(ao:AOk A)(h:PI A k s) (es:List EV):PI A k (zG6 s es):=by
 have h2:PI A k (zQd s 2):=by
  unfold zQd
  rw[if_neg (by omega),if_neg (by omega)]
  refine (h.sent 0 (zQf ((h.uo 0 (by omega)).len (ao.is 0 (by omega))))).sent 1 (zQf ((h.uo 1 (by omega)).len (ao.is 1 (by omega))))
 unfold zG6 zSs
 refine⟨h2.uo,⟨h2.fo.o0,h2.fo.ol,h2.fo.pl⟩,h2.rk,h2.ek,h2.rn,fun j=>⟨Nat.zero_le _,?_⟩⟩
 show (zEB _ _ _ j).length≤100000
 unfold zEB
 split
 ·exact Nat.zero_le _
 ·rw[zRP]
  exact (h2.ml _).1
theorem zDB {r:RLS}(h:ROk r) (ht:r.now+1≤100000):ROk (zDA r (r.now+1))∧(zDA r (r.now+1)).ep=r.ep∧(zDA r (r.now+1)).now=r.now+1:=by
 have n0:=h.n0
 have a0:=h.a0
 have e0:=h.e0
 have l0:=h.l0
 unfold zDA
 rw[if_neg (by omega)]
 split
 ·exact⟨⟨by simp only[goRL]; omega,by simp only[goRL]; omega,by simp only[goRL]; omega,l0⟩,rfl,rfl⟩
 ·exact⟨⟨by simp only; omega,by simp only; omega,by simp only; omega,l0⟩,rfl,rfl⟩
noncomputable def begS (s:PS):PS:=zQn (setN s (s.now+1)) (zDA s.r (s.now+1))
structure PI' (A:PLc) (k:Int) (s:PS) (b:Nat):Prop where
 uo:∀ i,i<2→UOk (A.l i) (if i<b then s.now else s.now - 1) (s.u i)
 fo:FOk s
 rk:ROk s.r
 ek:s.r.ep≤2*s.r.now - k
 rn:s.r.now=s.now
 ml:∀ i,(s.snt i).length≤100000∧(s.cam i).length≤100000
theorem PI.beg(h:PI A 0 s) (ht:s.now+1≤100000):PI' A 2 (begS s) 0:=by
 have hn:=h.rn
 obtain⟨h1,h2,h3⟩:=zDB h.rk (by omega)
 rw[hn] at h1 h2 h3
 refine⟨fun i hi=>?_,⟨h.fo.o0,h.fo.ol,h.fo.pl⟩,h1,?_,h3,h.ml⟩
 ·rw[if_neg (by omega)]
  show UOk (A.l i) (s.now+1 - 1) (s.u i)
  rw[show s.now+1 - 1=s.now by omega]
  exact h.uo i hi
 ·show (zDA s.r (s.now+1)).ep≤2*(zDA s.r (s.now+1)).now - 2
  rw[h2,h3]
  have:=h.ek
  omega
theorem PI'.setu{b:Nat}(h:PI' A k s b)(hu:i<2→UOk (A.l i) (if i<b then s.now else s.now - 1) u):PI' A k (setU s i u) b:=by
 refine⟨fun j hj=>?_,⟨h.fo.o0,h.fo.ol,h.fo.pl⟩,h.rk,h.ek,h.rn,h.ml⟩
 simp only[setU,upF]
 by_cases e:j=i
 ·subst e
  rw[if_pos rfl]
  exact hu hj
 ·rw[if_neg e]
  exact h.uo j hj
theorem PI'.hap{b:Nat}(h:PI' A k s b) (e:EV):PI' A k (hapF A s e) b:=by
 unfold hapF
 split
 ·split
  ·exact h.setu fun hi=>(h.uo _ hi).crash
  ·exact h
 ·split
  ·split
   ·exact h.setu fun hi=>(h.uo _ hi).start
   ·exact h
  ·split
   ·exact⟨h.uo,h.fo.field (zSo _ _) rfl,h.rk,h.ek,h.rn,h.ml⟩
   ·split
    ·exact⟨h.uo,h.fo.field rfl (zRg _ _),h.rk,h.ek,h.rn,h.ml⟩
    ·exact h
open Classical in
noncomputable def zSY (A:PLc) (es:List EV) (s:PS) (i:Nat):PS:=
 setU (setL (setU s i (zSg (A.l i) (s.u i) (dec (Has es 3 (i:Int))))) s.snt (upF s.cam i [])) i (zIh (A.l i) (zSg (A.l i) (s.u i) (dec (Has es 3 (i:Int)))) (s.cam i))
noncomputable def thS (A:PLc) (es:List EV) (s:PS):Nat→PS
 | 0=>s
 | i+1=>zSY A es (thS A es s i) i
theorem PI'.th(h:PI' A k s i) (es:List EV) (hi:i<2):PI' A k (zSY A es s i) (i+1):=by
 have hu:=h.uo i hi
 rw[if_neg (by omega)] at hu
 have ht:=hu.tick (dec (Has es 3 (i:Int)))
 rw[show s.now - 1+1=s.now by omega] at ht
 refine⟨fun j hj=>?_,⟨h.fo.o0,h.fo.ol,h.fo.pl⟩,h.rk,h.ek,h.rn,fun j=>⟨(h.ml j).1,zS8 (fun i=>(h.ml i).2) (Nat.zero_le _) i j⟩⟩
 simp only[zSY,setU,setL,upF]
 by_cases e:j=i
 ·subst e
  rw[if_pos rfl,if_pos (by omega)]
  exact ht.hear _
 ·rw[if_neg e,if_neg e]
  have:=h.uo j hj
  by_cases h1:j<i
  ·rw[if_pos h1] at this
   rw[if_pos (by omega)]
   exact this
  ·rw[if_neg h1] at this
   rw[if_neg (by omega)]
   exact this
theorem PI'.full(h:PI' A k s 2):PI A k s:=⟨fun i hi=>by
 have:=h.uo i hi
 rw[if_pos hi] at this
 exact this,h.fo,h.rk,h.ek,h.rn,h.ml⟩
noncomputable def zIc (A:PLc) (s:PS) (es:List EV):PS:=es.foldl (hapF A) s
theorem zId(hi:i<es.length):zIc A s (es.take (i+1))=hapF A (zIc A s (es.take i)) (nth es i):=by
 rw[List.take_add_one,List.getElem?_eq_getElem hi]
 unfold zIc
 rw[List.foldl_append]
 simp[nth,List.getD_eq_getElem?_getD,List.getElem?_eq_getElem hi]
structure IH0 (P:Nat) (A:PLc) (k:Int) (cc:Nat→Nat) (H0:PT HB) (n0:Nat) (s:PS) (v:IV) (es:List EV) (i:Nat) (st:St):Prop where
 c0:st.T.get 0=some (.ptr P 0 0)
 c1:st.T.get 1=some (.imm v)
 b4:BoxD st 4 [.imm .nils,.imm .nils]
 c37:st.T.get 37=some (.imm v)
 c38:st.T.get 38=some (.imm (.int .i64 (es.length:Int)))
 c39:st.T.get 39=some (.imm (.int .i64 (i:Int)))
 pr:PR P A cc H0 n0 (zIc A s (es.take i)) st.H st.n
 pi:PI' A k (zIc A s (es.take i)) 0
theorem zKs {d:Nat}(hd:10≤d){P:Nat}(ao:AOk A)(hv:Sl 5 v (es.map ivE)) (hl:es.length≤1000){st:St}(h:IH0 P A k cc H0 n0 s v es 0 st){ks:List Kf}{Q:Ex→St→Prop}
  (hk:∀ s',IH0 P A k cc H0 n0 s v es es.length s'→Bk DG (K DG (d+12)) 0 (.exit 0) ks s' Q):Wp DG (K DG (d+12)) 0 D.l12_0 ks st Q:=by
 have hlr:es.length≤reachBytes:=by have:=rb3; omega
 refine zGt (N:=es.length) (zRH hlr) (fun i st=>IH0 P A k cc H0 n0 s v es i st) (fun e s'=>e=.exit 0∧IH0 P A k cc H0 n0 s v es es.length s') (fun i st hle hI=>?_) h (fun e s' h=>by
  obtain⟨rfl,h⟩:=h
  exact hk s' h)
 obtain⟨c0,c1,⟨i4,b4,L4⟩,c37,c38,c39,⟨hn,c',hp,hc,hf⟩,pi⟩:=hI
 have vs:=hv.scal
 by_cases hi:i<es.length
 ·have hi1:(i:Int)<es.length:=by omega
  have hi':=zI3 hi1
  have hw8:IntKind.i64.wrap ((i:Int)+1)=(i:Int)+1:=zTX hi hlr
  have ix:=zIu hv hi1
  simp only[Int.toNat_natCast] at ix
  have su:=zId (A:=A) (s:=s) hi
  generalize zIc A s (es.take i)=a at *
  generalize nth es i=y at *
  have hp1:=hp.mono (c':=c') (n':=st.n+1) (by omega) (fun _ _=>rfl) (fun _ _ _=>rfl)
  obtain⟨v2,H2,n2,e2,r2⟩:=zIb (d:=d+8) (by omega) hp1 ao pi.fo.o0 y
  have pr2:=PR.comp hn hc hf (PR.comp (show st.n≤st.n+1 by omega) (fun _ _=>rfl) (fun _ _ _=>rfl) r2)
  have pi2:=pi.hap y
  rw[← su] at pr2 pi2
  obtain⟨k1,u,z,y1,y2⟩:=y
  simp only[evD] at e2
  generalize hQ:(fun (e:Ex) (s':St)=>_)=Q'
  simp only[D.l12_0b]
  simp[c0,c1,b4,L4,c37,c38,c39,vs,hi',hw8,ix,ivE,imms,e2,B6,B7]
  subst hQ
  exact .inl ⟨rfl,hi,by simp[gP,c0],by simp[gP,c1],⟨i4,by simp[gP,b4],by simp[gP,L4]⟩,by simp[gP,c37],by simp[gP,c38],by simp[gP],pr2,pi2⟩
 ·obtain rfl:i=es.length:=by omega
  generalize hQ:(fun (e:Ex) (s':St)=>_)=Q'
  simp only[D.l12_0b]
  simp[c0,c1,b4,L4,c37,c38,c39,vs,zI2,B6,B7]
  subst hQ
  exact .inr ⟨nofun,rfl,by simp[gP,c0],by simp[gP,c1],⟨i4,by simp[gP,b4],by simp[gP,L4]⟩,by simp[gP,c37],by simp[gP,c38],by simp[gP,c39],⟨hn,c',hp,hc,hf⟩,pi⟩
structure IH1 (P:Nat) (A:PLc) (k:Int) (cc:Nat→Nat) (H0:PT HB) (n0:Nat) (s:PS) (v:IV) (es:List EV) (i:Nat) (st:St):Prop where
 c0:st.T.get 0=some (.ptr P 0 0)
 c1:st.T.get 1=some (.imm v)
 b4:BoxD st 4 [.imm .nils,.imm .nils]
 c50:st.T.get 50=some (.agg [.ptr (A.a 0) 0 0,.ptr (A.a 1) 0 0])
 c51:st.T.get 51=some (.imm (.int .i64 (i:Int)))
 pr:PR P A cc H0 n0 (thS A es s i) st.H st.n
 pi:PI' A k (thS A es s i) i
theorem zKt {d:Nat}(hd:10≤d){P:Nat}(ao:AOk A)(hv:Sl 5 v (es.map ivE)) (hl:es.length≤1000){st:St}(h:IH1 P A k cc H0 n0 s v es 0 st){ks:List Kf}{Q:Ex→St→Prop}
  (hk:∀ s',IH1 P A k cc H0 n0 s v es 2 s'→Bk DG (K DG (d+12)) 0 (.exit 2) ks s' Q):Wp DG (K DG (d+12)) 0 D.l12_1 ks st Q:=by
 have hlr:es.length≤reachBytes:=by have:=rb3; omega
 refine zGt (N:=2) (zRH (by have:=rb3; omega)) (fun i st=>IH1 P A k cc H0 n0 s v es i st) (fun e s'=>e=.exit 2∧IH1 P A k cc H0 n0 s v es 2 s') (fun i st hle hI=>?_) h (fun e s' h=>by
  obtain⟨rfl,h⟩:=h
  exact hk s' h)
 obtain⟨c0,c1,⟨i4,b4,L4⟩,c50,c51,⟨hn,c',hp,hc,hf⟩,pi⟩:=hI
 have vs:=hv.scal
 have i12:IntKind.i64.wrap 1=1:=rfl
 have i22:IntKind.i64.wrap 2=2:=rfl
 by_cases hi:i<2
 ·have su:thS A es s (i+1)=zSY A es (thS A es s i) i:=rfl
  have pi2:=pi.th es hi
  generalize thS A es s i=a at *
  have of3:=zM1 (D:=d+12) (by omega) hv hlr 3 (i:Int)
  have uo:=pi.uo i hi
  rw[if_neg (by omega)] at uo
  have tk:=uo.tk
  have rn:=pi.rn
  have n0':=pi.rk.n0
  obtain⟨v2,H2,n2,e2,r2⟩:=zBj (d:=d+8) (by omega) (ao.ok i hi) (ao.is i hi) (hp.ui hi) (fun j hj=>zOV hj) tk.1 (by omega) (dec (Has es 3 (i:Int)))
  obtain⟨hn2,c2,p2,q2,f2⟩:=hp.setu_pr hi r2
  obtain⟨w,H3,n3,e3,⟨ws,w',hws,hw⟩,r3⟩:=zBg (d:=d+10) p2 hi
  obtain⟨hn3,c3,p3,q3,f3⟩:=r3
  have huo:=uo.tick (dec (Has es 3 (i:Int)))
  have e4u:∀ T:US,(setL (setU a i T) (setU a i T).snt (upF (setU a i T).cam i [])).u i=T:=fun T=>by simp[setL,setU,upF]
  have e4:=e4u (zSg (A.l i) (a.u i) (dec (Has es 3 (i:Int))))
  have hi3:=p3.ui hi
  rw[e4] at hi3
  obtain⟨v4,H4,n4,e4,r4⟩:=zAk (d:=d) (ao.ok i hi) (ao.is i hi) hi3 (fun j hj=>zOV hj) huo.inv ws.1 hws hw (pi.ml i).2
  have pr4:PR P A cc H0 n0 (zSY A es a i) H4 n4:=PR.comp hn hc hf (PR.comp hn2 q2 f2 (PR.comp hn3 q3 f3 (p3.setu_pr hi r4)))
  rw[← su] at pr4 pi2
  have hb:=hp.blk
  have hb2:=p2.blk
  simp only[zPQ] at hb hb2
  obtain rfl | rfl:i=0∨i=1:=by omega
  ·rw[show ((0:Nat):Int)=0 from rfl] at c51 of3 e2 e3
   generalize hQ:(fun (e:Ex) (s':St)=>_)=Q'
   simp only[D.l12_1b]
   simp[c0,c1,b4,L4,c50,c51,vs,hb,hb2,il02,i12,of3,e2,e3,e4,ws,B6,B7]
   subst hQ
   exact .inl ⟨rfl,by omega,by simp[gP,c0],by simp[gP,c1],⟨i4,by simp[gP,b4],by simp[gP,L4]⟩,by simp[gP,c50],by simp[gP],pr4,pi2⟩
  ·rw[show ((1:Nat):Int)=1 from rfl] at c51 of3 e2 e3
   generalize hQ:(fun (e:Ex) (s':St)=>_)=Q'
   simp only[D.l12_1b]
   simp[c0,c1,b4,L4,c50,c51,vs,hb,hb2,il12,i22,of3,e2,e3,e4,ws,B6,B7]
   subst hQ
   exact .inl ⟨rfl,by omega,by simp[gP,c0],by simp[gP,c1],⟨i4,by simp[gP,b4],by simp[gP,L4]⟩,by simp[gP,c50],by simp[gP],pr4,pi2⟩
 ·obtain rfl:i=2:=by omega
  rw[show ((2:Nat):Int)=2 from rfl] at c51
  generalize hQ:(fun (e:Ex) (s':St)=>_)=Q'
  simp only[D.l12_1b]
  simp[c0,c1,b4,L4,c50,c51,vs,zI2,B6,B7]
  subst hQ
  exact .inr ⟨nofun,rfl,by simp[gP,c0],by simp[gP,c1],⟨i4,by simp[gP,b4],by simp[gP,L4]⟩,by simp[gP,c50],by simp[gP,c51],⟨hn,c',hp,hc,hf⟩,pi⟩
def oIx (f i:Nat):Nat:=if i=0 then f else 1 - f
noncomputable def zCv (A:PLc) (es:List EV) (f:Nat) (s:PS):Nat→PS
 | 0=>s
 | i+1=>askF A (zCv A es f s i) (oIx f i) (dec (Has es 4 (oIx f i:Nat)))
structure IH2 (P:Nat) (A:PLc) (f:Nat) (cc:Nat→Nat) (H0:PT HB) (n0:Nat) (s:PS) (v:IV) (es:List EV) (i:Nat) (st:St):Prop where
 c0:st.T.get 0=some (.ptr P 0 0)
 c1:st.T.get 1=some (.imm v)
 b4:BoxD st 4 [.imm .nils,.imm .nils]
 c81:∃ b,st.T.get 81=some (.imm (.lst b 1 ([(f:Int),((1 - f:Nat):Int)].map ivI)))
 c82:st.T.get 82=some (.imm (.int .i64 2))
 c83:st.T.get 83=some (.imm (.int .i64 (i:Int)))
 pr:PR P A cc H0 n0 (zCv A es f s i) st.H st.n
 pi:PI A (2 - (i:Int)) (zCv A es f s i)
theorem zKu {d:Nat}(hd:10≤d){P:Nat}(ao:AOk A){f:Nat}(hf1:f≤1)(hv:Sl 5 v (es.map ivE)) (hl:es.length≤1000){st:St}(h:IH2 P A f cc H0 n0 s v es 0 st){ks:List Kf}{Q:Ex→St→Prop}
  (hk:∀ s',IH2 P A f cc H0 n0 s v es 2 s'→Bk DG (K DG (d+12)) 0 (.exit 4) ks s' Q):Wp DG (K DG (d+12)) 0 D.l12_2 ks st Q:=by
 have hlr:es.length≤reachBytes:=by have:=rb3; omega
 refine zGt (N:=2) (zRH (by have:=rb3; omega)) (fun i st=>IH2 P A f cc H0 n0 s v es i st) (fun e s'=>e=.exit 4∧IH2 P A f cc H0 n0 s v es 2 s') (fun i st hle hI=>?_) h (fun e s' h=>by
  obtain⟨rfl,h⟩:=h
  exact hk s' h)
 obtain⟨c0,c1,⟨i4,b4,L4⟩,⟨b,c81⟩,c82,c83,⟨hn,c',hp,hc,hf⟩,pi⟩:=hI
 have vs:=hv.scal
 have i12:IntKind.i64.wrap 1=1:=rfl
 have i22:IntKind.i64.wrap 2=2:=rfl
 by_cases hi:i<2
 ·have su:zCv A es f s (i+1)=askF A (zCv A es f s i) (oIx f i) (dec (Has es 4 (oIx f i:Nat))):=rfl
  have oi2:oIx f i<2:=by unfold oIx; split <;> omega
  have pi2:=pi.ask (by omega) oi2 (dec (Has es 4 (oIx f i:Nat)))
  generalize zCv A es f s i=a at *
  have of3:=zM1 (D:=d+12) (by omega) hv hlr 4 (oIx f i:Nat)
  have rn:=pi.rn
  have n0':=pi.rk.n0
  obtain⟨v2,H2,n2,e2,r2⟩:=zCw (d:=d+7) (by omega) ao hp pi.rk oi2 (by omega) (pi.uo _ oi2) (dec (Has es 4 (oIx f i:Nat)))
  have pr2:PR P A cc H0 n0 _ H2 n2:=PR.comp hn hc hf r2
  rw[← su] at pr2 pi2
  rw[show (2:Int) - (i:Int) - 1=2 - ((i+1:Nat):Int) by omega] at pi2
  have hs:Sl 1 (.lst b 1 ([(f:Int),((1 - f:Nat):Int)].map ivI)) ([(f:Int),((1 - f:Nat):Int)].map ivI):=.inr ⟨b,rfl⟩
  have ix:=fun {h:Nat→Option HB}{n:Nat}=>zIy (h:=h) (n:=n) hs (by omega) (k:=.i64) (z:=(i:Int)) (by omega) (by simp; omega)
  have hnt:nth [(f:Int),((1 - f:Nat):Int)] i=((oIx f i:Nat):Int):=by
   obtain rfl | rfl:i=0∨i=1:=by omega
   ·rfl
   ·rfl
  simp only[Int.toNat_natCast,hnt] at ix
  generalize hL:([(f:Int),((1 - f:Nat):Int)].map ivI)=L at *
  generalize hoi:((oIx f i:Nat):Int)=o at *
  obtain rfl | rfl:i=0∨i=1:=by omega
  ·rw[show ((0:Nat):Int)=0 from rfl] at c83 ix
   generalize hQ:(fun (e:Ex) (s':St)=>_)=Q'
   simp only[D.l12_2b]
   simp[c0,c1,b4,L4,c81,c82,c83,vs,il02,i12,ix,of3,e2,ivI,B6,B7]
   subst hQ
   exact .inl ⟨rfl,by omega,by simp[gP,c0],by simp[gP,c1],⟨i4,by simp[gP,b4],by simp[gP,L4]⟩,⟨b,by rw[hL]; simp[gP,c81]⟩,by simp[gP,c82],by simp[gP],pr2,pi2⟩
  ·rw[show ((1:Nat):Int)=1 from rfl] at c83 ix
   generalize hQ:(fun (e:Ex) (s':St)=>_)=Q'
   simp only[D.l12_2b]
   simp[c0,c1,b4,L4,c81,c82,c83,vs,il12,i22,ix,of3,e2,ivI,B6,B7]
   subst hQ
   exact .inl ⟨rfl,by omega,by simp[gP,c0],by simp[gP,c1],⟨i4,by simp[gP,b4],by simp[gP,L4]⟩,⟨b,by rw[hL]; simp[gP,c81]⟩,by simp[gP,c82],by simp[gP],pr2,pi2⟩
 ·obtain rfl:i=2:=by omega
  rw[show ((2:Nat):Int)=2 from rfl] at c83
  generalize hQ:(fun (e:Ex) (s':St)=>_)=Q'
  simp only[D.l12_2b]
  simp[c0,c1,b4,L4,c81,c82,c83,vs,zI2,B6,B7]
  subst hQ
  exact .inr ⟨nofun,rfl,by simp[gP,c0],by simp[gP,c1],⟨i4,by simp[gP,b4],by simp[gP,L4]⟩,⟨b,by simp[gP,c81]⟩,by simp[gP,c82],by simp[gP,c83],⟨hn,c',hp,hc,hf⟩,pi⟩
def fstN (t:Int):Nat:=((t+1) % 2).toNat
noncomputable def cy3 (A:PLc) (s:PS) (es:List EV):PS:=thS A es (zIc A (begS s) es) 2
noncomputable def cy5 (A:PLc) (s:PS) (es:List EV):PS:=zCv A es (fstN (s.now+1)) (zTi A (cy3 A s es) es) 2
noncomputable def cyO (A:PLc) (s:PS) (es:List EV):List Int×List Bool:=outI A (cy5 A s es) es 2
noncomputable def cy7 (A:PLc) (s:PS) (es:List EV):PS:=setF (zSQ A (cy5 A s es) es 2) (cy5 A s es).occ (stp (cy5 A s es).pts (cyO A s es).1 (cy5 A s es).pts.length)
noncomputable def cycS (A:PLc) (s:PS) (es:List EV):PS:=zG6 (cy7 A s es) es
theorem zIa (A:PLc) (s:PS) (e:EV):(hapF A s e).now=s.now:=by
 unfold hapF
 repeat' split
 all_goals rfl
theorem zIf (A:PLc):∀ (es:List EV) (s:PS),(zIc A s es).now=s.now
 | [],s=>rfl
 | e::es,s=>(zIf A es (hapF A s e)).trans (zIa A s e)
theorem zTh (A:PLc) (s:PS) (e:EV):(yldF A s e).now=s.now:=by
 unfold yldF
 split <;> rfl
theorem zTl (A:PLc):∀ (es:List EV) (s:PS),(zTi A s es).now=s.now
 | [],s=>rfl
 | e::es,s=>(zTl A es (yldF A s e)).trans (zTh A s e)
theorem zFI (A:PLc) (s:PS) (es:List EV):(cy3 A s es).now=s.now+1:=zIf A es (begS s)
theorem zBI {d:Nat}(hd:10≤d) {P:Nat}(ao:AOk A)(h:PAt c H n P A s) (pi:PI A 0 s) (ht:s.now+1≤100000)(hv:Sl 5 v (es.map ivE)) (hel:es.length≤reachBytes) :
  Fe (K DG (d+13) 12 [.ptr P 0 0,.imm v] H n 0) (fun v' H' n'=>PR P A c H n (cycS A s (es.take 8)) H' n'∧OutD H'.get n n' v' (cyO A s (es.take 8)).1 (cyO A s (es.take 8)).2∧PI A 0 (cycS A s (es.take 8))):=by
 obtain⟨v1,j,sl,hv1,hmn⟩:∃ (v1:IV) (j:Int),(∀ {h:Nat→Option HB}{n:Nat},zQ7 h n 5 (.imm v) none (some (.imm (.int .i64 j))) none=some { v:=.imm v1,n':=n })∧Sl 5 v1 ((es.take 8).map ivE)∧(if (8:Int)<(es.length:Int) then 8 else (es.length:Int))=j:=by
  by_cases h8:8<es.length
  ·refine⟨zR9 v 8,8,fun {h n}=>zQ6 (h:=h) (n:=n) hv (i:=8) (by omega),zSA hv 8,if_pos (by omega)⟩
  ·refine⟨zR9 v es.length,es.length,fun {h n}=>zQ6 (h:=h) (n:=n) hv (i:=es.length) (by omega),?_,if_neg (by omega)⟩
   rw[List.take_of_length_le (show es.length≤8 by omega)]
   have:=zSA hv es.length
   rwa [List.take_length] at this
 have hel8:(es.take 8).length≤1000:=by simp; omega
 have vs:=hv.scal
 have vl:=hv.len
 simp only[List.length_map] at vl
 have vs1:=hv1.scal
 have vl1:=hv1.len
 simp only[List.length_map] at vl1
 generalize es.take 8=fs at *
 have hb:=h.blk
 have hn0:=pi.rk.n0
 have hrn:=pi.rn
 have w1:IntKind.i64.wrap (s.now+1)=s.now+1:=zTW (by omega) (by omega)
 simp only[zPQ] at hb
 obtain⟨H1,hH1⟩:∃ H1,H1=H.put P (some ⟨7,[[.ptr (A.a 0) 0 0,.ptr (A.a 1) 0 0,.ptr A.rl 0 0,.ptr A.lk 0 0,.ptr A.fd 0 0,.ptr A.kk 0 0,.imm (.int .i64 (s.now+1))]]⟩):=⟨_,rfl⟩
 obtain⟨hn1,c1,p1,q1,f1⟩:=h.setn (H':=H1) (n':=n+1) (t:=s.now+1) (by omega) (by rw[hH1]; simp[gP,zPQ]) (fun j hj=>by rw[hH1]; simp[gP,hj])
 obtain⟨v2,H2,n2,e2,hn2,g2,f2⟩:=zOe (d:=d+10) (n:=n+1) p1.rl pi.rk.ok (t:=s.now+1) (by show s.r.now<_; omega) (by omega)
 have pr2:PR P A c H n (begS s) H2 n2:=PR.comp hn1 q1 f1 (p1.setr hn2 g2 f2)
 have pi2:=pi.beg ht
 have hb1:=p1.blk
 simp only[zPQ,setN] at hb1
 rw[kX 12 D.f12 rfl]
 refine zHy rfl ?_
 simp[vs,vl,hmn,sl,vs1,hb,w1,← hH1,hb1,e2,vl1,B6,B7]
 refine zKs (P:=P) (A:=A) (k:=2) (cc:=c) (H0:=H) (n0:=n) (s:=begS s) (es:=fs) hd ao hv1 hel8 ⟨by simp[gP],by simp[gP],⟨n,by simp[gP],by simp[gP,imms]⟩,by simp[gP],by simp[gP],by simp[gP],(by exact pr2),(by exact pi2)⟩ (fun s3 hI=>?_)
 obtain⟨c0,c1',⟨i4,b4,L4⟩,-,-,-,⟨hn3,c3,p3,q3,f3⟩,pi3⟩:=hI
 rw[List.take_length] at p3 pi3
 have hb3:=p3.blk
 simp only[zPQ] at hb3
 simp[c0,c1',b4,L4,hb3,vs1,B6,B7]
 refine zKt (P:=P) (A:=A) (k:=2) (cc:=c) (H0:=H) (n0:=n) (s:=zIc A (begS s) fs) (es:=fs) hd ao hv1 hel8 ⟨by simp[gP,c0],by simp[gP,c1'],⟨i4,by simp[gP,b4],by simp[gP,L4]⟩,by simp[gP],by simp[gP],(by exact⟨hn3,c3,p3,q3,f3⟩),(by exact pi3)⟩ (fun s4 hI=>?_)
 obtain⟨c0,c1',⟨i4,b4,L4⟩,-,-,⟨hn4,c4,p4,q4,f4⟩,pi4⟩:=hI
 have hc3:thS A fs (zIc A (begS s) fs) 2=cy3 A s fs:=rfl
 rw[hc3] at p4 pi4
 obtain⟨v5,H5,n5,e5,r5⟩:=zTf (d:=d+7) (by omega) ao p4 pi4.rk hv1 (by have:=rb3; omega)
 obtain⟨hn5,c5,p5,q5,f5⟩:=r5
 have pi5:=PI.ylds fs pi4.full
 have nq:(zTi A (cy3 A s fs) fs).now=s.now+1:=(zTl A fs _).trans (zFI A s fs)
 have hb5:=p5.blk
 simp only[zPQ] at hb5
 obtain⟨q,hq⟩:∃ q,q=(zTi A (cy3 A s fs) fs).now:=⟨_,rfl⟩
 rw[← hq] at hb5
 have hq1:q=s.now+1:=hq.trans nq
 obtain⟨f,hf⟩:∃ f,f=fstN (s.now+1):=⟨_,rfl⟩
 have hf1:f≤1:=by rw[hf]; unfold fstN; omega
 have wq:IntKind.i64.wrap (q+1)=q+1:=zTW (by omega) (by omega)
 have br:∀ a:Int,zDM .rem .i64 a 2=some (.int .i64 (a.tmod 2)):=fun _=>rfl
 have tq:(q+1).tmod 2=(f:Int):=by
  rw[Int.tmod_eq_emod_of_nonneg (by omega),hf]
  unfold fstN
  omega
 have wf:IntKind.i64.wrap (1 - (f:Int))=((1 - f:Nat):Int):=by
  rw[zTW (by omega) (by omega)]
  omega
 simp[c0,c1',b4,L4,vs1,e5,hb5,wq,br,tq,wf,zHH,lay,zS4,zS2,mapO,zPT,B6,B7]
 refine zKu (P:=P) (A:=A) (f:=f) (cc:=c) (H0:=H) (n0:=n) (s:=zTi A (cy3 A s fs) fs) (es:=fs) hd ao hf1 hv1 hel8 ⟨by simp[gP,c0],by simp[gP,c1'],⟨i4,by simp[gP,b4],by simp[gP,L4]⟩,⟨_,by simp[gP,ivI]; rfl⟩,by simp[gP],by simp[gP],(by exact PR.comp hn4 q4 f4 ⟨hn5,c5,p5,q5,f5⟩),(by exact pi5)⟩ (fun s6 hI=>?_)
 obtain⟨c0,c1',⟨i4,b4,L4⟩,-,-,-,⟨hn6,c6,p6,q6,f6⟩,pi6⟩:=hI
 rw[hf] at p6 pi6
 have hc5:zCv A fs (fstN (s.now+1)) (zTi A (cy3 A s fs) fs) 2=cy5 A s fs:=rfl
 rw[hc5] at p6 pi6
 have pi6:PI A 0 (cy5 A s fs):=pi6
 obtain⟨v7,H7,n7,e7,hn7,p7,f7,o7⟩:=zSU (d:=d+7) (by omega) ao p6 pi6.uo pi6.fo hv1 hel8
 have hb7:=p7.blk
 simp only[zPQ] at hb7
 have pi7:=pi6.tell ao fs (i:=2)
 obtain⟨-,to,tp,-,-,-⟩:=zSR A (cy5 A s fs) fs 2
 have fd7:=p7.fd
 rw[to,tp] at fd7
 have co:outI A (cy5 A s fs) fs 2=cyO A s fs:=rfl
 rw[co] at o7
 obtain⟨y,z,rfl,oy,oz⟩:=o7
 have ys:=oy.scal
 have zs:=oz.scal
 obtain⟨ids,hd8,hid⟩:∃ ids,Drv H7 y (cyO A s fs).1 ids∧∀ i∈ids,i∉A.fd::A.fo:=by
  rcases oy with⟨w,rfl,hw⟩ | ⟨id,⟨g1,g2⟩,rfl,hh⟩
  ·rcases hw with⟨rfl,hw⟩ | ⟨b,rfl⟩
   ·have:(cyO A s fs).1=[]:=by simpa using hw
    rw[this]
    exact⟨[],.nil,nofun⟩
   ·exact⟨[],.lst b _,nofun⟩
  ·refine⟨[id],?_,fun i hi hm=>?_⟩
   ·have:=Drv.sl (H:=H7) (id:=id) (ds:=(cyO A s fs).1) (by rw[hh,zPJ])
    simpa using this
   ·obtain rfl:i=id:=by simpa using hi
    have:=(p7.cf i hm).1
    rw[zOV g1] at this
    omega
 obtain⟨H8,n8,e8,fd8,hn8,f8⟩:=zRb DG (d+10) fd7 hd8 hid (by have:=pi6.fo.pl; exact this) (n7+1)
 obtain⟨hn8',c8,p8,q8,f8'⟩:=p7.setf (n':=n8) (by omega) fd8 f8
 have hc7:setF (zSQ A (cy5 A s fs) fs 2) (cy5 A s fs).occ (stp (cy5 A s fs).pts (cyO A s fs).1 (cy5 A s fs).pts.length)=cy7 A s fs:=rfl
 rw[hc7] at p8
 have pi8:PI A 0 (cy7 A s fs):=by
  refine⟨pi7.uo,pi7.fo.field (by rw[to]) (by rw[zRn,tp]),pi7.rk,pi7.ek,pi7.rn,pi7.ml⟩
 have hb8:=p8.blk
 simp only[zPQ] at hb8
 obtain⟨v9,H9,n9,e9,r9⟩:=zG7 (d:=d+5) p8 (fun i hi=>(pi8.uo i hi).len (ao.is i hi)) hv1 (by have:=rb3; omega)
 have pi9:=pi8.ends ao fs
 obtain⟨hn9,c9,p9,q9,f9⟩:=r9
 have fin:PR P A c H n (cycS A s fs) H9 n9:=PR.comp hn6 q6 f6 (PR.comp hn7 (fun j hj=>zOW hj) f7 (PR.comp hn8' q8 f8' ⟨hn9,c9,p9,q9,f9⟩))
 have keep:∀ j,s6.n≤j→j<n7→H9.get j=H7.get j:=fun j h1 h2=>by
  have e:rc c6 s6.n 7 j=7:=zOV h1
  rw[f9 j (by omega) (by rw[q8 j h2,e]; omega),f8' j h2 (by rw[e]; omega)]
 have oy9:=(oy.keep (n':=n9) (h':=H9.get) (by omega) keep).low hn6
 have oz9:=(oz.keep (n':=n9) (h':=H9.get) (by omega) keep).low hn6
 simp[c0,c1',b4,L4,vs1,e7,hb7,ys.1,ys.2,zs.1,zs.2,e8,hb8,e9,imms,B6,B7]
 exact⟨fin,⟨y,z,rfl,oy9,oz9⟩,pi9⟩
theorem zKL {d:Nat}{Z:Nat→Prop}:Fe (K DG (d+1) 40 [] H n 0) (fun v H' n'=>v=.ptr n 0 0∧n'=n+1∧LnAt Z H' n (fun _=>[]) (fun _=>[])∧∀ j,j≠n→H'.get j=H.get j):=by
 rw[kX 40 D.f40 rfl]
 refine zHy rfl ?_
 have nl:∀ (H:PT HB),Mg (fun j=>Z j∧j≠n) H (.imm .nils) []:=fun _=>.inl ⟨rfl,rfl⟩
 simp +contextual [zHG,lay,zS4,zS2,mapO,B6,B7]
 exact⟨.imm .nils,.imm .nils,.imm .nils,.imm .nils,by simp[gP,imms],nl _,nl _,nl _,nl _,Dj.nil _⟩
def newP (l:Lo):PS:=⟨fun _=>newU l,zMM,fun _=>[],fun _=>[],List.replicate l.secs.length false,List.replicate l.pts.length ⟨1,0,0⟩,0⟩
def zPP (A:PLc) (i:Nat):HB:=⟨7,[[if 0<i then .ptr (A.a 0) 0 0 else .imm .nilp,if 1<i then .ptr (A.a 1) 0 0 else .imm .nilp,.ptr A.rl 0 0,.ptr A.lk 0 0,.ptr A.fd 0 0,.ptr A.kk 0 0,.imm (.int .i64 0)]]⟩
structure PNt (l:Lo) (c:Nat→Nat) (H:PT HB) (n P:Nat) (A:PLc) (i:Nat):Prop where
 blk:H.get P=some (zPP A i)
 u:∀ k,k<i→UI (fun j=>c j=k) (A.l k) H n (A.a k) (newU l)
 ok:∀ k,k<i→LoOk (A.l k)∧LoEq l (A.l k)
 rl:H.get A.rl=some (zPR zMM)
 lk:LnAt (fun j=>c j=4∧j<n) H A.lk (fun _=>[]) (fun _=>[])
 fd:Fd H A.fd A.fo (List.replicate l.secs.length false) (List.replicate l.pts.length ⟨1,0,0⟩)
 kk:∃ rs,LkAt H A.kk A.ko A.ls rs
 oks:LoOk A.ls∧LoEq l A.ls
 cP:c P=2∧P<n
 cr:c A.rl=3∧A.rl<n
 cl:c A.lk=4∧A.lk<n
 cf:∀ i∈A.fd::A.fo,c i=5∧i<n
 ck:∀ i∈A.kk::A.ko,c i=6∧i<n
theorem PNt.step {l:Lo} {P:Nat}(h:PNt l c H n P A i) (hi:i<2) (hn:n≤n'){a:Nat}{l':Lo}(hu:UI (fun j=>c' j=i) l' H' n' a (newU l)) (ok:LoOk l') (eq:LoEq l l') (hc:∀ j,j<n→c' j=c j) (hb:H'.get P=some (zPP ⟨upF A.l i l',A.ls,upF A.a i a,A.rl,A.lk,A.fd,A.kk,A.fo,A.ko⟩ (i+1))) (hf:∀ j,j<n→j≠P→H'.get j=H.get j) :
  PNt l c' H' n' P ⟨upF A.l i l',A.ls,upF A.a i a,A.rl,A.lk,A.fd,A.kk,A.fo,A.ko⟩ (i+1):=by
 obtain⟨blk,u0,ok0,rl,lk,fd,kk,oks,cP,cr,cl,cf,ck⟩:=h
 have hf':∀ j,j<n→c j≠2→H'.get j=H.get j:=fun j hj hc=>hf j hj (fun e=>hc (e▸cP.1))
 refine⟨hb,fun k hk=>?_,fun k hk=>?_,by show H'.get A.rl=_; rw[hf' _ cr.2 (by omega)]; exact rl,?_,fd.mono fun j hj=>hf' j (cf j hj).2 (by have:=(cf j hj).1; omega),?_,oks,?_,?_,?_,fun j hj=>?_,fun j hj=>?_⟩
 ·by_cases e:k=i
  ·subst e
   simp only[upF,if_true]
   exact hu
  ·simp only[upF,if_neg e]
   exact (u0 k (by omega)).mono hn (fun j hj h=>by rw[hc j hj]; exact h) (fun j hj h=>hf' j hj (by omega))
 ·by_cases e:k=i
  ·subst e
   simp only[upF,if_true]
   exact⟨ok,eq⟩
  ·simp only[upF,if_neg e]
   exact ok0 k (by omega)
 ·show LnAt _ H' A.lk _ _
  exact lk.mono (fun j h=>⟨by rw[hc j h.2]; exact h.1,by have:=h.2; show j<n'; omega⟩) (hf' _ cl.2 (by omega)) (fun j h=>hf' j h.2 (by omega))
 ·obtain⟨rs,kk⟩:=kk
  exact⟨rs,kk.mono fun j hj=>hf' j (ck j hj).2 (by have:=(ck j hj).1; omega)⟩
 ·exact⟨by rw[hc _ cP.2]; exact cP.1,by omega⟩
 ·exact⟨(hc _ cr.2).trans cr.1,by have:=cr.2; show A.rl<n'; omega⟩
 ·exact⟨(hc _ cl.2).trans cl.1,by have:=cl.2; show A.lk<n'; omega⟩
 ·have:=cf j hj
  exact⟨by rw[hc _ this.2]; exact this.1,by omega⟩
 ·have:=ck j hj
  exact⟨by rw[hc _ this.2]; exact this.1,by omega⟩
structure IPn (l:Lo) (H0:PT HB) (n0 P:Nat) (i:Nat) (st:St):Prop where
 b1:BoxD st 1 [.imm l.sv,.imm l.pv,.imm l.gv,.imm l.rv]
 c8:st.T.get 8=some (.ptr P 0 0)
 c29:st.T.get 29=some (.imm (.int .i64 (i:Int)))
 pn:∃ A c,PNt l c st.H st.n P A i∧∀ j,j<n0→c j=7
 fr:∀ j,j<n0→st.H.get j=H0.get j
 hn:n0≤st.n∧n0≤P
theorem zMN {l l':Lo}(e:LoEq l l'):newU l'=newU l:=by
 unfold newU rep0
 rw[e.len]
theorem zLM {d:Nat}(hd:8≤d){l:Lo}(ok:LoOk l) (is:ISL l) {P:Nat}{st:St}(h:IPn l H0 n0 P 0 st){ks:List Kf}{Q:Ex→St→Prop}
  (hk:∀ s',IPn l H0 n0 P 2 s'→Bk DG (K DG d) 0 (.exit 0) ks s' Q):Wp DG (K DG d) 0 D.l9_0 ks st Q:=by
 refine zGt (N:=2) (zRH (by have:=rb3; omega)) (fun i st=>IPn l H0 n0 P i st) (fun e s'=>e=.exit 0∧IPn l H0 n0 P 2 s') (fun i st hle hI=>?_) h (fun e s' h=>by
  obtain⟨rfl,h⟩:=h
  exact hk s' h)
 obtain⟨⟨i1,b1,L1⟩,c8,c29,⟨A,c,hp,hc⟩,fr,hn⟩:=hI
 have i12:IntKind.i64.wrap 1=1:=rfl
 have i22:IntKind.i64.wrap 2=2:=rfl
 have ss:=ok.s.scal
 have ps:=ok.p.scal
 have gs:=ok.g.scal
 have rs:=ok.r.scal
 by_cases hi:i<2
 ·obtain⟨d,rfl⟩:∃ d',d=d'+2:=⟨d - 2,by omega⟩
  obtain⟨a,l',H2,n2,e2,hn2,ok',eq,hu,ha,f2⟩:=zBA (d:=d) (by omega) (Z:=fun j=>rc c st.n i j=i) ok is st.H st.n (fun j hj=>zOV hj)
  have hb:=hp.blk
  have hb2:H2.get P=some (zPP A i):=by rw[f2 P hp.cP.2]; exact hb
  rw[zMN eq] at hu
  have pa:¬P=a:=fun e=>by have:=hp.cP.2; omega
  simp only[Lo.dv] at e2
  obtain rfl | rfl:i=0∨i=1:=by omega
  ·rw[show ((0:Nat):Int)=0 from rfl] at c29
   simp only[zPP] at hb2
   have fin:∀ {T:PT DV}{L:PT LV}{H:PT HB}{n:Nat},n2≤n→H=H2.put P (some ⟨7,[[.ptr a 0 0,.imm .nilp,.ptr A.rl 0 0,.ptr A.lk 0 0,.ptr A.fd 0 0,.ptr A.kk 0 0,.imm (.int .i64 0)]]⟩)→(∃ id,T.get 1=some (.lref 1 id 0)∧L.get 1=some (.box id [.imm l.sv,.imm l.pv,.imm l.gv,.imm l.rv]))→T.get 8=some (.ptr P 0 0)→T.get 29=some (.imm (.int .i64 1))→IPn l H0 n0 P (0+1) ⟨T,L,H,n⟩:=fun h1 h2 h3 h4 h5=>by
    subst h2
    have hg:∀ j,j≠P→(H2.put P (some ⟨7,[[.ptr a 0 0,.imm .nilp,.ptr A.rl 0 0,.ptr A.lk 0 0,.ptr A.fd 0 0,.ptr A.kk 0 0,.imm (.int .i64 0)]]⟩)).get j=H2.get j:=fun j hj=>by simp[gP,hj]
    refine⟨h3,h4,h5,⟨_,rc c st.n 0,hp.step (by omega) (Nat.le_trans hn2 h1) (a:=a) (l':=l') (hu.mono h1 (fun _ _ h=>h) (fun j hj hz=>hg j (fun e=>?_))) ok' eq (fun j hj=>zOW hj) (by simp[gP,zPP,upF]) (fun j hj hjP=>(hg j hjP).trans (f2 j hj)),fun j hj=>(zOW (by omega)).trans (hc j hj)⟩,fun j hj=>(hg j (by omega)).trans ((f2 j (by omega)).trans (fr j hj)),⟨Nat.le_trans hn.1 (Nat.le_trans hn2 h1),hn.2⟩⟩
    have hz:rc c st.n 0 j=0:=hz
    rw[e,zOW hp.cP.2,hp.cP.1] at hz
    omega
   generalize hQ:(fun (e:Ex) (s':St)=>_)=Q'
   simp only[D.l9_0b]
   simp[b1,L1,c8,c29,ss,ps,gs,rs,il02,i12,e2,hb2,imms,B6,B7]
   subst hQ
   exact .inl ⟨rfl,by omega,fin (by omega) (by rfl) ⟨i1,by simp[gP,b1],by simp[gP,L1]⟩ (by simp[gP,c8]) (by simp[gP])⟩
  ·rw[show ((1:Nat):Int)=1 from rfl] at c29
   simp only[zPP] at hb2
   have fin:∀ {T:PT DV}{L:PT LV}{H:PT HB}{n:Nat},n2≤n→H=H2.put P (some ⟨7,[[.ptr (A.a 0) 0 0,.ptr a 0 0,.ptr A.rl 0 0,.ptr A.lk 0 0,.ptr A.fd 0 0,.ptr A.kk 0 0,.imm (.int .i64 0)]]⟩)→(∃ id,T.get 1=some (.lref 1 id 0)∧L.get 1=some (.box id [.imm l.sv,.imm l.pv,.imm l.gv,.imm l.rv]))→T.get 8=some (.ptr P 0 0)→T.get 29=some (.imm (.int .i64 2))→IPn l H0 n0 P (1+1) ⟨T,L,H,n⟩:=fun h1 h2 h3 h4 h5=>by
    subst h2
    have hg:∀ j,j≠P→(H2.put P (some ⟨7,[[.ptr (A.a 0) 0 0,.ptr a 0 0,.ptr A.rl 0 0,.ptr A.lk 0 0,.ptr A.fd 0 0,.ptr A.kk 0 0,.imm (.int .i64 0)]]⟩)).get j=H2.get j:=fun j hj=>by simp[gP,hj]
    refine⟨h3,h4,h5,⟨_,rc c st.n 1,hp.step (by omega) (Nat.le_trans hn2 h1) (a:=a) (l':=l') (hu.mono h1 (fun _ _ h=>h) (fun j hj hz=>hg j (fun e=>?_))) ok' eq (fun j hj=>zOW hj) (by simp[gP,zPP,upF]) (fun j hj hjP=>(hg j hjP).trans (f2 j hj)),fun j hj=>(zOW (by omega)).trans (hc j hj)⟩,fun j hj=>(hg j (by omega)).trans ((f2 j (by omega)).trans (fr j hj)),⟨Nat.le_trans hn.1 (Nat.le_trans hn2 h1),hn.2⟩⟩
    have hz:rc c st.n 1 j=1:=hz
    rw[e,zOW hp.cP.2,hp.cP.1] at hz
    omega
   generalize hQ:(fun (e:Ex) (s':St)=>_)=Q'
   simp only[D.l9_0b]
   simp[b1,L1,c8,c29,ss,ps,gs,rs,il12,i22,e2,hb2,imms,B6,B7]
   subst hQ
   exact .inl ⟨rfl,by omega,fin (by omega) (by rfl) ⟨i1,by simp[gP,b1],by simp[gP,L1]⟩ (by simp[gP,c8]) (by simp[gP])⟩
 ·obtain rfl:i=2:=by omega
  rw[show ((2:Nat):Int)=2 from rfl] at c29
  generalize hQ:(fun (e:Ex) (s':St)=>_)=Q'
  simp only[D.l9_0b]
  simp[b1,L1,c8,c29,ss,ps,gs,rs,zI2,B6,B7]
  subst hQ
  exact .inr ⟨nofun,rfl,⟨i1,by simp[gP,b1],by simp[gP,L1]⟩,by simp[gP,c8],by simp[gP,c29],⟨A,c,hp,hc⟩,fr,hn⟩
theorem zBJ {d:Nat}(hd:8≤d){l:Lo}(ok:LoOk l) (is:ISL l) (H:PT HB) (n:Nat) :
  Fe (K DG (d+1) 9 [l.dv] H n 0) (fun v H' n'=>∃ P A c,v=.tup [.ptr P 0 0,.imm (.int .i64 0)]∧n≤P∧AOk A∧(∀ i,i<2→LoEq l (A.l i))∧LoEq l A.ls∧PAt c H' n' P A (newP l)∧(∀ j,j<n→c j=7)∧∀ j,j<n→H'.get j=H.get j):=by
 obtain⟨d,rfl⟩:∃ d',d=d'+1:=⟨d - 1,by omega⟩
 have ss:=ok.s.scal
 have ps:=ok.p.scal
 have gs:=ok.g.scal
 have rs:=ok.r.scal
 obtain⟨v1,H1,n1,e1,p1,o1,l1,rfl,ok1,eq1,lk1,ho1,f1⟩:=zAu (d:=d) (by omega) ok is H (n+1)
 obtain⟨v2,H2,n2,e2,fd,fo,rfl,fd2,ho2,f2⟩:=zBC (d:=d) (by omega) ok is H1 n1
 obtain⟨H3,n3,e3,rfl,g3,f3⟩:=zOh (d:=d) (H:=H2) (n:=n2)
 obtain⟨v4,H4,n4,e4,rfl,rfl,g4,f4⟩:=zKL (d:=d) (Z:=fun _=>False) (H:=H3) (n:=n2+1)
 have a1:=ho1 p1 (by simp)
 have a2:=ho2 fd (by simp)
 have rlen:(List.replicate l.rts.length rs0).length=l1.rts.length:=by simp[eq1.len]
 obtain⟨H5,hH5⟩:∃ H5,H5=H4.put (n2+1+1) (some ⟨7,[[.imm .nilp,.imm .nilp,.ptr n2 0 0,.ptr (n2+1) 0 0,.ptr fd 0 0,.ptr p1 0 0,.imm (.int .i64 0)]]⟩):=⟨_,rfl⟩
 have f5:∀ j,j≠n2+1+1→H5.get j=H4.get j:=fun j hj=>by rw[hH5]; simp[gP,hj]
 have k2:∀ j,j<n2→H5.get j=H2.get j:=fun j hj=>by rw[f5 j (by omega),f4 j (by omega),f3 j (by omega)]
 have k1:∀ j,j<n1→H5.get j=H1.get j:=fun j hj=>by rw[k2 j (by omega),f2 j hj]
 have base:PNt l (rc (rc (rc (rc (rc (fun _=>7) n 6) n1 5) n2 3) (n2+1) 4) (n2+1+1) 2) H5 (n2+1+1+1) (n2+1+1) ⟨fun _=>l,l1,fun _=>0,n2,n2+1,fd,p1,fo,o1⟩ 0:=by
  refine⟨by rw[hH5]; simp[gP,zPP],fun k hk=>by omega,fun k hk=>by omega,by rw[f5 _ (by show n2≠_; omega),f4 _ (by show n2≠_; omega)]; exact g3,?_,fd2.mono fun i hi=>k2 i (ho2 i hi).2,⟨_,lk1.mono fun i hi=>k1 i (ho1 i hi).2⟩,⟨ok1,eq1⟩,?_,?_,?_,fun i hi=>?_,fun i hi=>?_⟩
  ·show LnAt _ H5 (n2+1) _ _
   exact g4.mono (fun j h=>h.elim) (f5 _ (by omega)) (fun j h=>h.elim)
  ·exact⟨zOV (by omega),by omega⟩
  ·exact⟨by show rc _ _ _ n2=3; rw[zOW (by omega),zOW (by omega),zOV (by omega)],by show n2<_; omega⟩
  ·exact⟨by show rc _ _ _ (n2+1)=4; rw[zOW (by omega),zOV (by omega)],by show n2+1<_; omega⟩
  ·have:=ho2 i hi
   exact⟨by rw[zOW (by omega),zOW (by omega),zOW (by omega),zOV (by omega)],by omega⟩
  ·have:=ho1 i hi
   exact⟨by rw[zOW (by omega),zOW (by omega),zOW (by omega),zOW (by omega),zOV (by omega)],by omega⟩
 have bc:∀ j,j<n→(rc (rc (rc (rc (rc (fun _=>7) n 6) n1 5) n2 3) (n2+1) 4) (n2+1+1) 2) j=7:=fun j hj=>by rw[zOW (by omega),zOW (by omega),zOW (by omega),zOW (by omega),zOW (by omega)]
 simp only[Lo.dv] at e1 e2 ⊢
 generalize hPost:(fun (v:DV) (H':PT HB) (n':Nat)=>Exists _)=Post
 rw[kX 9 D.f9 rfl]
 refine zHy rfl ?_
 simp[ss,ps,gs,rs,e1,e2,e3,e4,zHG,lay,zS4,zS2,mapO,imms,B6,B7]
 refine zLM (H0:=H) (n0:=n) (P:=n2+1+1) (by omega) ok is ⟨⟨n,by simp[gP],by simp[gP]⟩,by simp[gP],by simp[gP],⟨_,_,(by rw[← hH5]; exact base),bc⟩,fun j hj=>?_,by simp; omega⟩ (fun s' hI=>?_)
 ·rw[← hH5]
  show H5.get j=_
  rw[k1 j (by omega),f1 j (by omega)]
 obtain⟨b1,c8,c29,⟨A,c,hp,hc⟩,fr,hn⟩:=hI
 simp[c8,B6,B7]
 subst hPost
 refine⟨_,A,c,rfl,by omega,⟨fun i hi=>(hp.ok i hi).1,fun i hi=>(hp.ok i hi).2.is is,hp.oks.1,hp.oks.2.is is⟩,fun i hi=>(hp.ok i hi).2,hp.oks.2,?_,hc,fr⟩
 exact⟨hp.blk,hp.u,hp.rl,hp.lk,hp.fd,hp.kk,hp.cP,hp.cr,hp.cl,hp.cf,hp.ck⟩
def Cal (es:List EV):Prop:=∀ e∈es,e.k=7∨e.k=8∨e.k=10
noncomputable def zHr (f:List Bool×List FPt) (e:EV):List Bool×List FPt:=if e.k=7 then (zSn f.1 e.n,f.2) else if e.k=10 then (f.1,zRf f.2 e.n) else f
noncomputable def fldF (f:List Bool×List FPt) (es:List EV):List Bool×List FPt:=es.foldl zHr f
theorem Cal.haps {A:PLc}:∀ (es:List EV){s:PS},Cal es→zIc A s es=setF s (fldF (s.occ,s.pts) es).1 (fldF (s.occ,s.pts) es).2
 | [],s,_=>rfl
 | e::es,s,h=>by
  have he:hapF A s e=setF s (zHr (s.occ,s.pts) e).1 (zHr (s.occ,s.pts) e).2:=by
   rcases h e (by simp) with k | k | k <;> simp[hapF,zHr,k,setF]
  show zIc A (hapF A s e) es=_
  rw[Cal.haps es (s:=hapF A s e) (fun e he=>h e (by simp[he])),he]
  rfl
theorem Cal.ylds {A:PLc}:∀ (es:List EV){s:PS},Cal es→zTi A s es=s
 | [],s,_=>rfl
 | e::es,s,h=>by
  have he:yldF A s e=s:=by
   unfold yldF
   rw[if_neg]
   rintro⟨k,_⟩
   rcases h e (by simp) with q | q | q <;> omega
  show zTi A (yldF A s e) es=_
  rw[he]
  exact Cal.ylds es (fun e he=>h e (by simp[he]))
theorem Cal.has(h:Cal es) {i:Int}(hk:k<7∨k=9):dec (Has es k i)=false:=zFX (by
 rintro⟨e,he,q,_⟩
 rcases h e he with p | p | p <;> omega)
theorem Cal.ls(h:Cal es):lsF es=(false,-1):=by
 have:∀ (es:List EV) (a:Bool×Int),Cal es→es.foldl stL a=a:=by
  intro es
  induction es with
  | nil=>intro a _; rfl
  | cons e es ih=>
   intro a h
   have he:stL a e=a:=by
    unfold stL
    rcases h e (by simp) with k | k | k <;> simp[k]
   rw[List.foldl_cons,he]
   exact ih a (fun e he=>h e (by simp[he]))
 exact this es _ h
theorem Cal.take(h:Cal es) (n:Nat):Cal (es.take n):=fun e he=>h e (List.mem_of_mem_take he)
theorem zS0:unF []=none:=by
 unfold unF
 exact if_pos (by simp)
theorem zIi (l:Lo) (u:US):zIh l u []=u:=by
 unfold zIh
 rw[zS0]
 split <;> rfl
theorem zFH(h:Cal es):cy3 A s es=⟨fun i=>if i=0∨i=1 then zIh (A.l i) (zSg (A.l i) (s.u i) false) (s.cam i) else s.u i,zDA s.r (s.now+1),s.snt,fun i=>if i=0∨i=1 then [] else s.cam i,(fldF (s.occ,s.pts) es).1,(fldF (s.occ,s.pts) es).2,s.now+1⟩:=by
 unfold cy3
 rw[Cal.haps es h]
 simp only[thS,zSY,h.has (k:=3) (.inl (by omega)),setF,begS,zQn,setN,setU,setL,upF]
 congr 1
 ·funext i
  by_cases h0:i=0
  ·subst h0; simp[upF]
  ·by_cases h1:i=1
   ·subst h1; simp[upF]
   ·simp[upF,h0,h1]
 ·funext i
  by_cases h0:i=0
  ·subst h0; simp[upF]
  ·by_cases h1:i=1
   ·subst h1; simp[upF]
   ·simp[upF,h0,h1]
theorem zCt(ho:¬s.r.own=(i:Int)) (h1:¬s.r.own=-1) (deaf:Bool):askF A s i deaf=s:=by
 have e:zCn s.r i (s.u i).count=(s.r,0,0,8):=by
  unfold zCn
  rw[if_neg ho,if_neg (fun h=>h1 h.1)]
 unfold askF
 rw[e]
 split
 ·rw[if_neg (by simp)]
  rfl
 ·rfl
theorem zCu(ho:s.r.own=(i:Int)) (wk:Wk (s.u i)) (he:(s.u i).ep=s.r.ep):askF A s i false=setU (zQn s ⟨s.r.now,s.r.own,i,s.r.now,s.r.free,s.r.ep,(s.u i).count⟩) i (granted (s.u i) s.r.ep):=by
 have e:zCn s.r i (s.u i).count=(⟨s.r.now,s.r.own,i,s.r.now,s.r.free,s.r.ep,(s.u i).count⟩,s.r.ep,s.r.last,0):=by
  unfold zCn
  rw[if_pos ho]
 unfold askF
 rw[e]
 rw[if_pos ⟨rfl,by unfold As; unfold Wk at wk; omega⟩,if_pos rfl]
 congr 1
 unfold zIV
 rw[if_pos ⟨wk,he⟩]
def u0At (rs:List Rst) (n:Int):US:=⟨rs,1,n+5,true,none,if n<10 then 4 else 3,n,n,if n<10 then 10 - n else 0⟩
theorem zSu (rs:List Rst) (n:Int):Wk (u0At rs n):=by
 unfold Wk u0At
 by_cases h:n<10 <;> simp[h]
structure JC (n:Int) (rs:List Rst) (w:US) (s:PS):Prop where
 u0:s.u 0=u0At rs n
 u1:s.u 1=w
 m1:w.mode=2
 r:s.r=⟨n,0,if 1<n then 0 else -1,n,0,1,n - 1⟩
 snt:s.snt=fun _=>[]
 c0:s.cam 0=[]
 c1:s.cam 1=zQc (u0At rs n)
 nw:s.now=n
def tk1 (u:US):US:=⟨u.rs,u.ep,u.en,u.gr,u.cp,u.mode,u.tick+1,u.count,u.left⟩
theorem zSi {l:Lo}(h:u.mode=2):zSg l u false=tk1 u:=by
 unfold zSg
 rw[if_neg (by omega)]
 show zSh l (tk1 u)=_
 unfold zSh
 rw[if_neg (fun q=>by have:=q.1; simp only[tk1] at this; omega),if_neg (fun q=>by have:=q.1; simp only[Wk,tk1] at this; omega)]
theorem zSj {l:Lo}(wk:Wk u) (hg:u.gr=true) (ht:u.tick+1<u.en):zSg l u false=tk1 u:=by
 have h0:u.mode=3∨u.mode=4:=wk
 unfold zSg
 rw[if_neg (by omega)]
 show zSh l (tk1 u)=_
 unfold zSh
 rw[if_neg (fun q=>by have:=q.1; simp only[tk1] at this; omega),if_neg (fun q=>q.2 ⟨hg,ht⟩)]
theorem zIj (l:Lo) (u:US) (bs:List UInt8):(zIh l u bs).mode=u.mode∧(zIh l u bs).tick=u.tick∧(zIh l u bs).rs=u.rs∧(zIh l u bs).count=u.count∧(zIh l u bs).ep=u.ep:=by
 unfold zIh
 repeat' split
 all_goals exact⟨rfl,rfl,rfl,rfl,rfl⟩
noncomputable def u1F (A:PLc) (u1:US) (bs:List UInt8):US:=zIh (A.l 1) (tk1 u1) bs
variable {rs:List Rst}
theorem zFJ{n:Int}{u1:US}(h:JC n rs u1 s) (hn:1≤n∧n≤1000)(hc:Cal es) :
  cy5 A s es=⟨fun i=>if i=0 then ⟨rs,1,n+1+5,true,none,(u0At rs n).mode,n+1,n,(u0At rs n).left⟩ else if i=1 then u1F A u1 (s.cam 1) else s.u i,⟨n+1,0,0,n+1,0,1,n⟩,s.snt,fun i=>if i=0∨i=1 then [] else s.cam i,(fldF (s.occ,s.pts) es).1,(fldF (s.occ,s.pts) es).2,n+1⟩:=by
 have wk:=zSu rs n
 have b:zDA s.r (s.now+1)=⟨n+1,0,-1,n,0,1,n - 1⟩:=by
  rw[h.r,h.nw]
  unfold zDA
  rw[if_neg (by simp only; omega),if_neg (by simp only; omega)]
 have t0:zIh (A.l 0) (zSg (A.l 0) (s.u 0) false) (s.cam 0)=tk1 (u0At rs n):=by
  rw[h.c0,zIi,h.u0,zSj wk rfl (by simp only[u0At]; omega)]
 have t1:zIh (A.l 1) (zSg (A.l 1) (s.u 1) false) (s.cam 1)=u1F A u1 (s.cam 1):=by
  rw[h.u1,zSi h.m1]
  rfl
 unfold cy5
 rw[Cal.ylds es hc,zFH hc,b]
 generalize hS:(PS.mk _ _ _ _ _ _ _)=S
 have r0:S.r=⟨n+1,0,-1,n,0,1,n - 1⟩:=by rw[← hS]
 have q0:S.u 0=tk1 (u0At rs n):=by rw[← hS]; exact t0
 have q1:S.u 1=u1F A u1 (s.cam 1):=by rw[← hS]; exact t1
 have a0:askF A S 0 false=setU (zQn S ⟨n+1,0,0,n+1,0,1,n⟩) 0 (granted (tk1 (u0At rs n)) 1):=by
  rw[zCu (by rw[r0]; rfl) (by rw[q0]; exact wk) (by rw[q0,r0]; rfl),q0,r0]
  rfl
 have fin:setU (zQn S ⟨n+1,0,0,n+1,0,1,n⟩) 0 (granted (tk1 (u0At rs n)) 1)=⟨fun i=>if i=0 then ⟨rs,1,n+1+5,true,none,(u0At rs n).mode,n+1,n,(u0At rs n).left⟩ else if i=1 then u1F A u1 (s.cam 1) else s.u i,⟨n+1,0,0,n+1,0,1,n⟩,s.snt,fun i=>if i=0∨i=1 then [] else s.cam i,(fldF (s.occ,s.pts) es).1,(fldF (s.occ,s.pts) es).2,n+1⟩:=by
  rw[← hS]
  simp only[setU,zQn,h.nw]
  congr 1
  funext i
  by_cases h0:i=0
  ·subst h0
   simp[upF,granted,tk1,u0At]
  ·by_cases h1:i=1
   ·subst h1
    simp only[upF,h0,if_false,or_true,if_true]
    exact t1
   ·simp[upF,h0,h1]
 have hf:fstN (s.now+1)=0∨fstN (s.now+1)=1:=by
  unfold fstN
  omega
 simp only[zCv,hc.has (k:=4) (.inl (by omega))]
 rcases hf with hf | hf
 ·rw[hf]
  show askF A (askF A S 0 false) 1 false=_
  rw[a0,zCt (by show ¬((0:Int)=((1:Nat):Int)); decide) (by show ¬((0:Int)=-1); decide)]
  exact fin
 ·rw[hf]
  show askF A (askF A S 1 false) 0 false=_
  rw[zCt (s:=S) (i:=1) (by rw[r0]; show ¬((0:Int)=((1:Nat):Int)); decide) (by rw[r0]; show ¬((0:Int)=-1); decide),a0]
  exact fin
theorem zQg(hs:s.snt=fun _=>[]):(zQd s 2).snt 0=zQc (s.u 0)∧(zQd s 2).snt 1=zQc (s.u 1):=by
 unfold zQd
 rw[if_neg (by omega),if_neg (by omega)]
 have e0:(zQh s 0 (zQc (s.u 0))).snt 0=zQc (s.u 0)∧(zQh s 0 (zQc (s.u 0))).snt 1=[]:=by
  unfold zQh
  split
  ·rename_i e; rw[hs,e]; exact⟨rfl,rfl⟩
  ·simp[setL,upF,hs]
 generalize zQh s 0 (zQc (s.u 0))=S at *
 unfold zQh
 split
 ·rename_i e; rw[e]; exact e0
 ·refine⟨?_,by simp[setL,upF]⟩
  simp[setL,upF]
  exact e0.1
noncomputable def zRa (A:PLc) (n:Int) (rs:List Rst) (f:List Bool×List FPt) (es:List EV):List Rst×List Int×List Bool:=
 if n<10 then (rs,List.replicate (A.l 0).pts.length 0,List.replicate (A.l 0).sigs.length false) else cycF (A.l 0) (zEf (A.l 0) f.1 (f.2.map (·.l)) rs (cmF es)) f.1 (f.2.map (·.l))
theorem JC.step{n:Int}{u1:US}(h:JC n rs u1 s) (hn:1≤n∧n≤1000)(hc:Cal es){f:List Bool×List FPt}(hf:f=fldF (s.occ,s.pts) es) :
  JC (n+1) (zRa A n rs f es).1 (u1F A u1 (s.cam 1)) (cycS A s es)∧cyO A s es=(zRa A n rs f es).2∧(cycS A s es).occ=f.1∧(cycS A s es).pts=stp f.2 (zRa A n rs f es).2.1 f.2.length:=by
 have hm:(u1F A u1 (s.cam 1)).mode=2:=(zIj _ _ _).1.trans h.m1
 have e5:=zFJ h hn hc (A:=A)
 rw[← hf] at e5
 have i0:cyI A (cy5 A s es) es 0=(u0At (zRa A n rs f es).1 (n+1),(zRa A n rs f es).2):=by
  rw[e5]
  unfold cyI
  simp only[if_true]
  have d0:decide ((0:Int)=((0:Nat):Int))=true:=by decide
  rw[d0]
  unfold zFN
  rw[if_pos ⟨zSu rs n,rfl,by simp only; omega⟩]
  have ic:incC n=n+1:=if_pos (by omega)
  by_cases h10:n<10
  ·have hm4:(u0At rs n).mode=4:=if_pos h10
   have hl4:(u0At rs n).left=10 - n:=if_pos h10
   rw[if_neg (by rw[hm4]; decide)]
   unfold zRa
   rw[if_pos h10]
   simp only[Prod.mk.injEq,and_true]
   rw[hm4,hl4]
   by_cases h9:n=9
   ·subst h9
    rfl
   ·rw[zH6 (by simp only[setC]; omega)]
    unfold u0At setC
    simp only[ic]
    rw[if_pos (by omega),if_pos (by omega)]
    congr 1
    omega
  ·have hm3:(u0At rs n).mode=3:=if_neg h10
   have hl3:(u0At rs n).left=0:=if_neg h10
   rw[if_pos hm3]
   unfold zRa cyF
   rw[if_neg h10]
   simp only[setC,setR,if_true,ic]
   rw[hm3,hl3]
   unfold u0At
   rw[if_neg (by omega),if_neg (by omega)]
 have i1:cyI A (cy5 A s es) es 1=(u1F A u1 (s.cam 1),List.replicate (A.l 1).pts.length 0,List.replicate (A.l 1).sigs.length false):=by
  have q1:(cy5 A s es).u 1=u1F A u1 (s.cam 1):=by rw[e5]; rfl
  unfold cyI zFN
  rw[q1,if_neg (fun h=>by have:=h.1; unfold Wk at this; omega)]
 have co:cyO A s es=(zRa A n rs f es).2:=by
  unfold cyO outI
  rw[if_pos ⟨by rw[e5],by omega⟩,i0]
 have t2:zSQ A (cy5 A s es) es 2=setU (setU (cy5 A s es) 0 (u0At (zRa A n rs f es).1 (n+1))) 1 (u1F A u1 (s.cam 1)):=by
  unfold zSQ
  rw[if_neg (by omega),if_neg (by omega),i0,i1]
 have u70:(cy7 A s es).u 0=u0At (zRa A n rs f es).1 (n+1):=by
  unfold cy7
  rw[t2]
  rfl
 have u71:(cy7 A s es).u 1=u1F A u1 (s.cam 1):=by
  unfold cy7
  rw[t2]
  rfl
 have s7:(cy7 A s es).snt=fun _=>[]:=by
  unfold cy7
  rw[t2,e5]
  exact h.snt
 have f7:(cy7 A s es).occ=f.1∧(cy7 A s es).pts=stp f.2 (zRa A n rs f es).2.1 f.2.length∧(cy7 A s es).r=⟨n+1,0,0,n+1,0,1,n⟩∧(cy7 A s es).now=n+1:=by
  unfold cy7
  rw[t2,co,e5]
  exact⟨rfl,rfl,rfl,rfl⟩
 obtain⟨g0,g1⟩:=zQg s7
 have su:=zQe (cy7 A s es) 2
 have so:(zQd (cy7 A s es) 2).occ=(cy7 A s es).occ∧(zQd (cy7 A s es) 2).pts=(cy7 A s es).pts∧(zQd (cy7 A s es) 2).r=(cy7 A s es).r:=by
  have:∀ (s:PS) (i:Nat) (bs:List UInt8),(zQh s i bs).occ=s.occ∧(zQh s i bs).pts=s.pts∧(zQh s i bs).r=s.r:=fun s i bs=>by
   unfold zQh
   split <;> exact⟨rfl,rfl,rfl⟩
  unfold zQd
  rw[if_neg (by omega),if_neg (by omega)]
  exact⟨(this _ _ _).1.trans (this _ _ _).1,(this _ _ _).2.1.trans (this _ _ _).2.1,(this _ _ _).2.2.trans (this _ _ _).2.2⟩
 refine⟨⟨?_,?_,hm,?_,rfl,?_,?_,?_⟩,co,?_,?_⟩
 ·show (zQd (cy7 A s es) 2).u 0=_
  rw[su.1,u70]
 ·show (zQd (cy7 A s es) 2).u 1=_
  rw[su.1,u71]
 ·show (zQd (cy7 A s es) 2).r=_
  rw[so.2.2,f7.2.2.1,if_pos (by omega)]
  congr 1
  omega
 ·show zEB (zQd (cy7 A s es) 2).snt (lsF es).1 (lsF es).2 0=[]
  rw[hc.ls]
  show zRO (-1) ((zQd (cy7 A s es) 2).snt 1)=[]
  rw[zRQ (by omega)]
  rw[g1,u71]
  unfold zQc
  rw[if_neg (by omega)]
 ·show zEB (zQd (cy7 A s es) 2).snt (lsF es).1 (lsF es).2 1=_
  rw[hc.ls]
  show zRO (-1) ((zQd (cy7 A s es) 2).snt 0)=_
  rw[zRQ (by omega)]
  rw[g0,u70]
 ·show (zQd (cy7 A s es) 2).now=_
  rw[su.2,f7.2.2.2]
 ·show (zQd (cy7 A s es) 2).occ=_
  rw[so.1,f7.1]
 ·show (zQd (cy7 A s es) 2).pts=_
  rw[so.2.1,f7.2.1]
set_option maxRecDepth 100000
def zPc:Rt:=⟨[114],0,1,.lst true 1 [[.int .i64 0]],.nils,.nils,[0],[],[]⟩
def zKO:Lo:=⟨.lst true 1 [[.str [97]]],.nils,.lst true 1 [[.str [115]],[.str [116]]],.lst true 6 [[.str [114],.int .i64 0,.int .i64 1,.lst true 1 [[.int .i64 0]],.nils,.nils]],[[97]],[],[[115],[116]],[zPc]⟩
theorem zJ4 {d:Nat}:bl (K DG (d+1)) 64 []=some zKO.dv:=by
 have key:Fe (K DG (d+1) 64 [] .lf 0 0) (fun v _ _=>v=zKO.dv):=by
  rw[kX 64 D.f64 rfl]
  refine zHy rfl ?_
  simp[zKO,zHG,zHH,lay,zS4,zS2,mapO,zPT,imms,B6,B7]
 obtain⟨v,H,n,e,rfl⟩:=key
 exact zDf e rfl
theorem zNM:LoOk zKO:=by
 have hrb:=rb3
 refine⟨.inr ⟨true,rfl⟩,.inl ⟨rfl,rfl⟩,.inr ⟨true,rfl⟩,.inr ⟨true,rfl⟩,by simp[zKO]; omega,by simp[zKO],by simp[zKO]; omega,by simp[zKO]; omega,fun x hx=>?_,fun x hx=>?_,fun x hx=>?_,fun x hx=>?_⟩
 ·simp[zKO] at hx; subst hx; simp; omega
 ·simp[zKO] at hx
 ·simp[zKO] at hx; rcases hx with rfl | rfl <;> simp <;> omega
 ·simp[zKO] at hx
  subst hx
  exact⟨.inr ⟨true,rfl⟩,.inl ⟨rfl,rfl⟩,.inl ⟨rfl,rfl⟩,by simp[zPc]; omega,by simp[zPc]; omega,by simp[zPc],by simp[zPc]⟩
theorem nm_a:nm3 [97]=true:=by kernel_rfl
theorem nm_s:nm3 [115]=true:=by kernel_rfl
theorem nm_t:nm3 [116]=true:=by kernel_rfl
theorem nm_r:nm3 [114]=true:=by kernel_rfl
theorem zNL:ISL zKO:=by
 have ne:∀ path w,NE [] [] path w:=fun _ _ i hi=>absurd hi (by simp)
 have one:∀ s:List UInt8,nm3 s=true→NM [s]:=fun s hs i x hi=>by
  cases i with
  | zero=>simp at hi; subst hi; exact⟨hs,by simp⟩
  | succ i=>simp at hi
 refine⟨by simp[zKO],by simp[zKO],by simp[zKO],by simp[zKO],by simp[zKO],by simp[zKO],fun i hi=>by simp[zKO] at hi,one _ nm_a,fun i x hi=>?_,zA6,one _ nm_r,fun i hi=>?_⟩
 ·match i with
  | 0=>simp[zKO] at hi; subst hi; exact⟨nm_s,by simp⟩
  | 1=>simp[zKO] at hi; subst hi; exact⟨nm_t,by simp[zKO]⟩
  | i+2=>simp[zKO] at hi
 ·obtain rfl:i=0:=by simp[zKO] at hi; omega
  exact⟨⟨by simp[zKO,zPc,nth],by simp[zKO,zPc,nth]⟩,⟨by simp[zKO,zPc,nth],by simp[zKO,zPc,nth]⟩,by simp[zKO,zPc,nth],fun i z hz=>by
   cases i with
   | zero=>simp[zKO,zPc,nth] at hz; subst hz; exact⟨⟨by omega,by simp[zKO]⟩,by simp⟩
   | succ i=>simp[zKO,zPc,nth] at hz,by simp[zKO,zPc,nth],by simp[zKO,zPc,nth],ne _ _,ne _ _,rfl⟩
theorem PI.new{l:Lo}(is:ISL l) (eq:∀ i,i<2→LoEq l (A.l i)):PI A 0 (newP l):=by
 have s1:=is.s1
 have s2:=is.s2
 have p2:=is.p2
 refine⟨fun i hi=>?_,⟨fun e=>?_,by simp[newP]; omega,by simp[newP]; omega⟩,⟨by simp[newP,zMM],by simp[newP,zMM],by simp[newP,zMM],by simp[newP,zMM]⟩,by simp[newP,zMM],rfl,fun i=>⟨by simp[newP],by simp[newP]⟩⟩
 ·show UOk (A.l i) 0 (newU l)
  rw[← zMN (eq i hi)]
  exact UOk.new (Int.le_refl _)
 ·have:=congrArg List.length e
  simp[newP] at this
  rw[this] at s1
  simp at s1
theorem JC.first{l:Lo}(hc:Cal es){f:List Bool×List FPt}(hf:f=fldF ((newP l).occ,(newP l).pts) es) :
  JC 1 (rep0 (A.l 0)) (tk1 (newU l)) (cycS A (newP l) es)∧cyO A (newP l) es=(List.replicate A.ls.pts.length 0,List.replicate A.ls.sigs.length false)∧(cycS A (newP l) es).occ=f.1∧(cycS A (newP l) es).pts=stp f.2 (List.replicate A.ls.pts.length 0) f.2.length:=by
 have b:zDA (newP l).r ((newP l).now+1)=⟨1,-1,-1,0,0,0,0⟩:=rfl
 have tk:∀ i,zIh (A.l i) (zSg (A.l i) ((newP l).u i) false) ((newP l).cam i)=tk1 (newU l):=fun i=>by
  show zIh (A.l i) (zSg (A.l i) (newU l) false) []=_
  rw[zIi,zSi (by rfl)]
 have e5:cy5 A (newP l) es=⟨fun i=>if i=0 then ⟨rep0 (A.l 0),1,6,true,none,4,1,0,10⟩ else if i=1 then tk1 (newU l) else newU l,⟨1,0,-1,1,0,1,0⟩,fun _=>[],fun _=>[],f.1,f.2,1⟩:=by
  unfold cy5
  rw[Cal.ylds es hc,zFH hc,b,← hf]
  generalize hS:(PS.mk _ _ _ _ _ _ _)=S
  have r0:S.r=⟨1,-1,-1,0,0,0,0⟩:=by rw[← hS]
  have q0:S.u 0=tk1 (newU l):=by rw[← hS]; exact tk 0
  have q1:S.u 1=tk1 (newU l):=by rw[← hS]; exact tk 1
  have a0:askF A S 0 false=setU (zQn S ⟨1,0,-1,1,0,1,0⟩) 0 ⟨rep0 (A.l 0),1,6,true,none,4,1,0,10⟩:=by
   have e:zCn S.r ((0:Nat):Int) (S.u 0).count=(⟨1,0,-1,1,0,1,0⟩,1,0,0):=by
    rw[r0]
    rfl
   unfold askF
   rw[e,q0,if_pos ⟨rfl,.inl rfl⟩,if_pos rfl]
   congr 1
   unfold zIV
   have nw:¬Wk (tk1 (newU l)):=by simp[Wk,tk1,newU]
   rw[if_neg (fun h=>nw h.1),if_pos (.inr rfl)]
   rfl
  have hf0:fstN ((newP l).now+1)=0:=rfl
  simp only[zCv,hc.has (k:=4) (.inl (by omega))]
  rw[hf0]
  show askF A (askF A S 0 false) 1 false=_
  rw[a0,zCt (by show ¬((0:Int)=((1:Nat):Int)); decide) (by show ¬((0:Int)=-1); decide),← hS]
  simp only[setU,zQn]
  congr 1
  ·funext i
   by_cases h0:i=0
   ·subst h0
    simp[upF]
   ·by_cases h1:i=1
    ·subst h1
     simp only[upF,h0,if_false,or_true,if_true]
     exact tk 1
    ·simp[upF,h0,h1,newP]
  ·funext i
   split <;> rfl
 have i0:cyI A (cy5 A (newP l) es) es 0=(u0At (rep0 (A.l 0)) 1,List.replicate (A.l 0).pts.length 0,List.replicate (A.l 0).sigs.length false):=by
  rw[e5]
  unfold cyI zFN
  simp only[if_true]
  rw[if_pos ⟨.inr rfl,rfl,show (1:Int)<6 by decide⟩,if_neg (show ¬(4:Int)=3 by decide)]
  rfl
 have i1:cyI A (cy5 A (newP l) es) es 1=(tk1 (newU l),List.replicate (A.l 1).pts.length 0,List.replicate (A.l 1).sigs.length false):=by
  have q1:(cy5 A (newP l) es).u 1=tk1 (newU l):=by rw[e5]; rfl
  unfold cyI zFN
  rw[q1,if_neg (fun h=>by have:=h.1; simp[Wk,tk1,newU] at this)]
 have co:cyO A (newP l) es=(List.replicate A.ls.pts.length 0,List.replicate A.ls.sigs.length false):=by
  unfold cyO outI
  rw[if_neg (by rw[e5]; simp),if_neg (by rw[e5]; simp)]
 have t2:zSQ A (cy5 A (newP l) es) es 2=setU (setU (cy5 A (newP l) es) 0 (u0At (rep0 (A.l 0)) 1)) 1 (tk1 (newU l)):=by
  unfold zSQ
  rw[if_neg (by omega),if_neg (by omega),i0,i1]
 have u70:(cy7 A (newP l) es).u 0=u0At (rep0 (A.l 0)) 1:=by
  unfold cy7
  rw[t2]
  rfl
 have u71:(cy7 A (newP l) es).u 1=tk1 (newU l):=by
  unfold cy7
  rw[t2]
  rfl
 have s7:(cy7 A (newP l) es).snt=fun _=>[]:=by
  unfold cy7
  rw[t2,e5]
  rfl
 have f7:(cy7 A (newP l) es).occ=f.1∧(cy7 A (newP l) es).pts=stp f.2 (List.replicate A.ls.pts.length 0) f.2.length∧(cy7 A (newP l) es).r=⟨1,0,-1,1,0,1,0⟩∧(cy7 A (newP l) es).now=1:=by
  unfold cy7
  rw[t2,co,e5]
  exact⟨rfl,rfl,rfl,rfl⟩
 obtain⟨g0,g1⟩:=zQg s7
 have su:=zQe (cy7 A (newP l) es) 2
 have so:(zQd (cy7 A (newP l) es) 2).occ=(cy7 A (newP l) es).occ∧(zQd (cy7 A (newP l) es) 2).pts=(cy7 A (newP l) es).pts∧(zQd (cy7 A (newP l) es) 2).r=(cy7 A (newP l) es).r:=by
  have:∀ (s:PS) (i:Nat) (bs:List UInt8),(zQh s i bs).occ=s.occ∧(zQh s i bs).pts=s.pts∧(zQh s i bs).r=s.r:=fun s i bs=>by
   unfold zQh
   split <;> exact⟨rfl,rfl,rfl⟩
  unfold zQd
  rw[if_neg (by omega),if_neg (by omega)]
  exact⟨(this _ _ _).1.trans (this _ _ _).1,(this _ _ _).2.1.trans (this _ _ _).2.1,(this _ _ _).2.2.trans (this _ _ _).2.2⟩
 refine⟨⟨?_,?_,rfl,?_,rfl,?_,?_,?_⟩,co,?_,?_⟩
 ·show (zQd (cy7 A (newP l) es) 2).u 0=_
  rw[su.1,u70]
 ·show (zQd (cy7 A (newP l) es) 2).u 1=_
  rw[su.1,u71]
 ·show (zQd (cy7 A (newP l) es) 2).r=_
  rw[so.2.2,f7.2.2.1]
  rfl
 ·show zEB (zQd (cy7 A (newP l) es) 2).snt (lsF es).1 (lsF es).2 0=[]
  rw[hc.ls]
  show zRO (-1) ((zQd (cy7 A (newP l) es) 2).snt 1)=[]
  rw[zRQ (by omega)]
  rw[g1,u71]
  rfl
 ·show zEB (zQd (cy7 A (newP l) es) 2).snt (lsF es).1 (lsF es).2 1=_
  rw[hc.ls]
  show zRO (-1) ((zQd (cy7 A (newP l) es) 2).snt 0)=_
  rw[zRQ (by omega)]
  rw[g0,u70]
 ·show (zQd (cy7 A (newP l) es) 2).now=_
  rw[su.2,f7.2.2.2]
 ·show (zQd (cy7 A (newP l) es) 2).occ=_
  rw[so.1,f7.1]
 ·show (zQd (cy7 A (newP l) es) 2).pts=_
  rw[so.2.1,f7.2.1]
structure AtK (l:Lo) (A:PLc) (c:Nat→Nat) (H:PT HB) (n P:Nat) (t:Nat) (s:PS):Prop where
 ao:AOk A
 eq:(∀ i,i<2→LoEq l (A.l i))∧LoEq l A.ls
 pt:PAt c H n P A s
 pi:PI A 0 s
 jc:(t=0∧s=newP l)∨(1≤t∧∃ rs w,JC (t:Int) rs w s)
variable {t:Nat}
theorem AtK.now {l:Lo} {P:Nat}(h:AtK l A c H n P t s):s.now=(t:Int):=by
 rcases h.jc with⟨rfl,rfl⟩ | ⟨_,_,_,j⟩
 ·rfl
 ·exact j.nw
theorem AtK.new {d:Nat}(hd:8≤d){l:Lo}(ok:LoOk l) (is:ISL l) (H:PT HB) (n:Nat) :
  ∃ P A c H' n',K DG (d+1) 9 [l.dv] H n 0=some (.tup [.ptr P 0 0,.imm (.int .i64 0)],H',n')∧AtK l A c H' n' P 0 (newP l)∧(∀ j,j<n→c j=7)∧(∀ j,j<n→H'.get j=H.get j)∧n≤n':=by
 obtain⟨v,H',n',e,P,A,c,rfl,hP,ao,eq,eqs,pt,hc,hf⟩:=zBJ hd ok is H n
 exact⟨P,A,c,H',n',e,⟨ao,⟨eq,eqs⟩,pt,PI.new is eq,.inl ⟨rfl,rfl⟩⟩,hc,hf,by have:=pt.cP.2; omega⟩
theorem AtK.cyc {d:Nat}(hd:10≤d){l:Lo} {P:Nat}(h:AtK l A c H n P t s) (ht:t≤900)(hv:Sl 5 v (es.map ivE)) (hel:es.length≤reachBytes) (hc:Cal es) :
  ∃ v' H' n' c',K DG (d+13) 12 [.ptr P 0 0,.imm v] H n 0=some (v',H',n')∧n≤n'∧AtK l A c' H' n' P (t+1) (cycS A s (es.take 8))∧OutD H'.get n n' v' (cyO A s (es.take 8)).1 (cyO A s (es.take 8)).2∧(∀ j,j<n→c' j=c j)∧∀ j,j<n→6<c j→H'.get j=H.get j:=by
 have hc8:=hc.take 8
 obtain⟨v',H',n',e,⟨hn,c',pt,q,f⟩,o,pi⟩:=zBI hd h.ao h.pt h.pi (by rw[h.now]; omega) hv hel
 refine⟨v',H',n',c',e,hn,⟨h.ao,h.eq,pt,pi,.inr ⟨by omega,?_⟩⟩,o,q,f⟩
 rcases h.jc with⟨rfl,rfl⟩ | ⟨h1,rs,w,j⟩
 ·exact⟨_,_,(JC.first hc8 rfl).1⟩
 ·exact⟨_,_,(j.step (by omega) hc8 rfl).1⟩
theorem zDx:Cal []:=nofun
def Grow (st:St) (M:Nat) (P:Prop):Prop:=∃ m:Nat,st.T.get 3=some (.imm (.int .i64 m))∧m≤M∧(m<3000→P)
def IZ (l:Lo) (k M:Nat) (P:Prop) (C:Nat→Prop) (i:Nat) (st:St):Prop:=Box st 1 l.ivs∧st.T.get k=some (.imm (.int .i64 i))∧Grow st M (P∧∀ j,j<i→C j)
def ZE (l:Lo) (M:Nat) (P:Prop) (st:St):Prop:=Box st 1 l.ivs∧Grow st M P
section
variable {d:Nat}{l:Lo}{M:Nat}{P:Prop}{ks:List Kf}{st:St}{Q:Ex→St→Prop}
theorem zLi (ok:LoOk l) (hM:3000+reachBytes≤M) (hM2:M≤2 ^ 60) (h:IZ l 4 M P (fun j=>(nth l.secs j).length≤3000) 0 st)
  (hk:∀ st',ZE l M (P∧∀ x∈l.secs,x.length≤3000) st'→Bk DG (K DG d) 0 (.exit 0) ks st' Q) :
  Wp DG (K DG d) 0 D.l35_0 ks st Q:=by
 have hrb:=rb3
 refine zGt (N:=l.secs.length) (zRH ok.ls) (IZ l 4 M P (fun j=>(nth l.secs j).length≤3000)) (fun e st'=>e=.exit 0∧ZE l M (P∧∀ x∈l.secs,x.length≤3000) st')
  (fun i st hle hI=>?_) h (fun e s' h=>by rw[h.1]; exact hk s' h.2)
 obtain⟨⟨id,h1,hL⟩,h4,m,h3,hm,hP⟩:=hI
 have ls:=ok.ls
 have sl:=ok.s.len
 simp only[List.length_map] at sl
 by_cases hi:i<l.secs.length
 ·have hi':(i:Int)<l.secs.length:=by omega
  have hj':=zI3 hi'
  by_cases hm3:m<3000
  ·have hj3:ILt (m:Int) 3000=True:=zI3 (by omega)
   have hw8:IntKind.i64.wrap ((i:Int)+1)=(i:Int)+1:=zTX hi ls
   have hlen:=ok.os _ (zMi hi)
   have hwm:IntKind.i64.wrap ((m:Int)+((nth l.secs i).length:Int))=((m+(nth l.secs i).length:Nat):Int):=by rw[zTW (by omega) (by omega)]; omega
   have ix:=zIu ok.s hi'
   have yes:m+(nth l.secs i).length<3000→P∧∀ j,j<i+1→(nth l.secs j).length≤3000:=fun h=>⟨(hP hm3).1,fun j hj=>by
    rcases Nat.lt_or_eq_of_le (Nat.le_of_lt_succ hj) with hj | rfl
    ·exact (hP hm3).2 j hj
    ·omega⟩
   generalize hQ:(fun (e:Ex) (s':St)=>_)=Q'
   simp only[D.l35_0b]
   simp +contextual (maxSteps:=2000000) [h1,h3,h4,hL,hj',hj3,hw8,hwm,ix,sl,ivS,B6,B7]
   subst hQ
   simp
   exact⟨hi,⟨id,by simp[gP],by simp[gP,imms]⟩,by simp[gP],m+(nth l.secs i).length,by simp[gP],by omega,yes⟩
  ·have hj3:ILt (m:Int) 3000=False:=zIz (by omega)
   generalize hQ:(fun (e:Ex) (s':St)=>_)=Q'
   simp only[D.l35_0b]
   simp +contextual (maxSteps:=2000000) [h1,h3,h4,hL,hj',hj3,sl,B6,B7]
   subst hQ
   simp
   exact⟨⟨id,by simp[gP,h1],by simp[gP,hL,imms]⟩,m,by simp[gP,h3],hm,fun h=>absurd h hm3⟩
 ·obtain rfl:i=l.secs.length:=by omega
  generalize hQ:(fun (e:Ex) (s':St)=>_)=Q'
  simp only[D.l35_0b]
  simp[h1,h3,h4,hL,sl,B6,B7]
  subst hQ
  simp
  exact⟨⟨id,by simp[gP,h1],by simp[gP,hL,imms]⟩,m,by simp[gP,h3],hm,fun h=>⟨(hP h).1,fun x hx=>by
   obtain⟨j,hj,rfl⟩:=zL2 hx
   exact (hP h).2 j hj⟩⟩
theorem zLj (ok:LoOk l) (hM:3000+reachBytes≤M) (hM2:M≤2 ^ 60) (h:IZ l 5 M P (fun j=>(nth l.pts j).name.length≤3000) 0 st)
  (hk:∀ st',ZE l M (P∧∀ x∈l.pts,x.name.length≤3000) st'→Bk DG (K DG d) 0 (.exit 2) ks st' Q) :
  Wp DG (K DG d) 0 D.l35_1 ks st Q:=by
 have hrb:=rb3
 refine zGt (N:=l.pts.length) (zRH ok.lp) (IZ l 5 M P (fun j=>(nth l.pts j).name.length≤3000)) (fun e st'=>e=.exit 2∧ZE l M (P∧∀ x∈l.pts,x.name.length≤3000) st')
  (fun i st hle hI=>?_) h (fun e s' h=>by rw[h.1]; exact hk s' h.2)
 obtain⟨⟨id,h1,hL⟩,h4,m,h3,hm,hP⟩:=hI
 have ls:=ok.lp
 have sl:=ok.p.len
 simp only[List.length_map] at sl
 by_cases hi:i<l.pts.length
 ·have hi':(i:Int)<l.pts.length:=by omega
  have hj':=zI3 hi'
  by_cases hm3:m<3000
  ·have hj3:ILt (m:Int) 3000=True:=zI3 (by omega)
   have hw8:IntKind.i64.wrap ((i:Int)+1)=(i:Int)+1:=zTX hi ls
   have hlen:=ok.op _ (zMi hi)
   have hwm:IntKind.i64.wrap ((m:Int)+((nth l.pts i).name.length:Int))=((m+(nth l.pts i).name.length:Nat):Int):=by rw[zTW (by omega) (by omega)]; omega
   have ix:=zIu ok.p hi'
   have yes:m+(nth l.pts i).name.length<3000→P∧∀ j,j<i+1→(nth l.pts j).name.length≤3000:=fun h=>⟨(hP hm3).1,fun j hj=>by
    rcases Nat.lt_or_eq_of_le (Nat.le_of_lt_succ hj) with hj | rfl
    ·exact (hP hm3).2 j hj
    ·omega⟩
   generalize hQ:(fun (e:Ex) (s':St)=>_)=Q'
   simp only[D.l35_1b]
   simp +contextual (maxSteps:=2000000) [h1,h3,h4,hL,hj',hj3,hw8,hwm,ix,sl,ivP,B6,B7]
   subst hQ
   simp
   exact⟨hi,⟨id,by simp[gP],by simp[gP,imms]⟩,by simp[gP],m+(nth l.pts i).name.length,by simp[gP],by omega,yes⟩
  ·have hj3:ILt (m:Int) 3000=False:=zIz (by omega)
   generalize hQ:(fun (e:Ex) (s':St)=>_)=Q'
   simp only[D.l35_1b]
   simp +contextual (maxSteps:=2000000) [h1,h3,h4,hL,hj',hj3,sl,B6,B7]
   subst hQ
   simp
   exact⟨⟨id,by simp[gP,h1],by simp[gP,hL,imms]⟩,m,by simp[gP,h3],hm,fun h=>absurd h hm3⟩
 ·obtain rfl:i=l.pts.length:=by omega
  generalize hQ:(fun (e:Ex) (s':St)=>_)=Q'
  simp only[D.l35_1b]
  simp[h1,h3,h4,hL,sl,B6,B7]
  subst hQ
  simp
  exact⟨⟨id,by simp[gP,h1],by simp[gP,hL,imms]⟩,m,by simp[gP,h3],hm,fun h=>⟨(hP h).1,fun x hx=>by
   obtain⟨j,hj,rfl⟩:=zL2 hx
   exact (hP h).2 j hj⟩⟩
theorem zLk (ok:LoOk l) (hM:3000+reachBytes≤M) (hM2:M≤2 ^ 60) (h:IZ l 6 M P (fun j=>(nth l.sigs j).length≤3000) 0 st)
  (hk:∀ st',ZE l M (P∧∀ x∈l.sigs,x.length≤3000) st'→Bk DG (K DG d) 0 (.exit 4) ks st' Q) :
  Wp DG (K DG d) 0 D.l35_2 ks st Q:=by
 have hrb:=rb3
 refine zGt (N:=l.sigs.length) (zRH ok.lg) (IZ l 6 M P (fun j=>(nth l.sigs j).length≤3000)) (fun e st'=>e=.exit 4∧ZE l M (P∧∀ x∈l.sigs,x.length≤3000) st')
  (fun i st hle hI=>?_) h (fun e s' h=>by rw[h.1]; exact hk s' h.2)
 obtain⟨⟨id,h1,hL⟩,h4,m,h3,hm,hP⟩:=hI
 have ls:=ok.lg
 have sl:=ok.g.len
 simp only[List.length_map] at sl
 by_cases hi:i<l.sigs.length
 ·have hi':(i:Int)<l.sigs.length:=by omega
  have hj':=zI3 hi'
  by_cases hm3:m<3000
  ·have hj3:ILt (m:Int) 3000=True:=zI3 (by omega)
   have hw8:IntKind.i64.wrap ((i:Int)+1)=(i:Int)+1:=zTX hi ls
   have hlen:=ok.og _ (zMi hi)
   have hwm:IntKind.i64.wrap ((m:Int)+((nth l.sigs i).length:Int))=((m+(nth l.sigs i).length:Nat):Int):=by rw[zTW (by omega) (by omega)]; omega
   have ix:=zIu ok.g hi'
   have yes:m+(nth l.sigs i).length<3000→P∧∀ j,j<i+1→(nth l.sigs j).length≤3000:=fun h=>⟨(hP hm3).1,fun j hj=>by
    rcases Nat.lt_or_eq_of_le (Nat.le_of_lt_succ hj) with hj | rfl
    ·exact (hP hm3).2 j hj
    ·omega⟩
   generalize hQ:(fun (e:Ex) (s':St)=>_)=Q'
   simp only[D.l35_2b]
   simp +contextual (maxSteps:=2000000) [h1,h3,h4,hL,hj',hj3,hw8,hwm,ix,sl,ivS,B6,B7]
   subst hQ
   simp
   exact⟨hi,⟨id,by simp[gP],by simp[gP,imms]⟩,by simp[gP],m+(nth l.sigs i).length,by simp[gP],by omega,yes⟩
  ·have hj3:ILt (m:Int) 3000=False:=zIz (by omega)
   generalize hQ:(fun (e:Ex) (s':St)=>_)=Q'
   simp only[D.l35_2b]
   simp +contextual (maxSteps:=2000000) [h1,h3,h4,hL,hj',hj3,sl,B6,B7]
   subst hQ
   simp
   exact⟨⟨id,by simp[gP,h1],by simp[gP,hL,imms]⟩,m,by simp[gP,h3],hm,fun h=>absurd h hm3⟩
 ·obtain rfl:i=l.sigs.length:=by omega
  generalize hQ:(fun (e:Ex) (s':St)=>_)=Q'
  simp only[D.l35_2b]
  simp[h1,h3,h4,hL,sl,B6,B7]
  subst hQ
  simp
  exact⟨⟨id,by simp[gP,h1],by simp[gP,hL,imms]⟩,m,by simp[gP,h3],hm,fun h=>⟨(hP h).1,fun x hx=>by
   obtain⟨j,hj,rfl⟩:=zL2 hx
   exact (hP h).2 j hj⟩⟩
theorem zLl (ok:LoOk l) (hM:3000+4*reachBytes≤M) (hM2:M≤2 ^ 60) (h:IZ l 7 M P (fun j=>(nth l.rts j).name.length≤3000) 0 st)
  (hk:∀ st',ZE l M (P∧∀ x∈l.rts,x.name.length≤3000) st'→Bk DG (K DG d) 0 (.exit 6) ks st' Q) :
  Wp DG (K DG d) 0 D.l35_3 ks st Q:=by
 have hrb:=rb3
 refine zGt (N:=l.rts.length) (zRH ok.lr) (IZ l 7 M P (fun j=>(nth l.rts j).name.length≤3000)) (fun e st'=>e=.exit 6∧ZE l M (P∧∀ x∈l.rts,x.name.length≤3000) st')
  (fun i st hle hI=>?_) h (fun e s' h=>by rw[h.1]; exact hk s' h.2)
 obtain⟨⟨id,h1,hL⟩,h4,m,h3,hm,hP⟩:=hI
 have ls:=ok.lr
 have sl:=ok.r.len
 simp only[List.length_map] at sl
 by_cases hi:i<l.rts.length
 ·have hi':(i:Int)<l.rts.length:=by omega
  have hj':=zI3 hi'
  by_cases hm3:m<3000
  ·have hj3:ILt (m:Int) 3000=True:=zI3 (by omega)
   have hw8:IntKind.i64.wrap ((i:Int)+1)=(i:Int)+1:=zTX hi ls
   have rk:=ok.or _ (zMi hi)
   have r1:=rk.ln
   have r2:=rk.lp
   have r3:=rk.lq
   have r4:=rk.lf
   have v2:=rk.p.len
   have v3:=rk.q.len
   have v4:=rk.f.len
   simp only[List.length_map] at v2 v3 v4
   have hwm1:IntKind.i64.wrap ((m:Int)+((nth l.rts i).name.length:Int))=((m+(nth l.rts i).name.length:Nat):Int):=by rw[zTW (by omega) (by omega)]; omega
   have hwm2:IntKind.i64.wrap (((m+(nth l.rts i).name.length:Nat):Int)+((nth l.rts i).path.length:Int))=((m+(nth l.rts i).name.length+(nth l.rts i).path.length:Nat):Int):=by rw[zTW (by omega) (by omega)]; omega
   have hwm3:IntKind.i64.wrap (((m+(nth l.rts i).name.length+(nth l.rts i).path.length:Nat):Int)+((nth l.rts i).pts.length:Int))=((m+(nth l.rts i).name.length+(nth l.rts i).path.length+(nth l.rts i).pts.length:Nat):Int):=by rw[zTW (by omega) (by omega)]; omega
   have hwm4:IntKind.i64.wrap (((m+(nth l.rts i).name.length+(nth l.rts i).path.length+(nth l.rts i).pts.length:Nat):Int)+((nth l.rts i).flk.length:Int))=((m+(nth l.rts i).name.length+(nth l.rts i).path.length+(nth l.rts i).pts.length+(nth l.rts i).flk.length:Nat):Int):=by rw[zTW (by omega) (by omega)]; omega
   have ix:=zIu ok.r hi'
   generalize hm2:m+(nth l.rts i).name.length=m2 at hwm1 hwm2 hwm3 hwm4
   generalize hm3':m2+(nth l.rts i).path.length=m3 at hwm2 hwm3 hwm4
   generalize hm4:m3+(nth l.rts i).pts.length=m4 at hwm3 hwm4
   generalize hm5:m4+(nth l.rts i).flk.length=m5 at hwm4
   have yes:m5<3000→P∧∀ j,j<i+1→(nth l.rts j).name.length≤3000:=fun h=>⟨(hP hm3).1,fun j hj=>by
    rcases Nat.lt_or_eq_of_le (Nat.le_of_lt_succ hj) with hj | rfl
    ·exact (hP hm3).2 j hj
    ·omega⟩
   generalize hQ:(fun (e:Ex) (s':St)=>_)=Q'
   simp only[D.l35_3b]
   simp +contextual (maxSteps:=2000000) [h1,h3,h4,hL,hj',hj3,hw8,hwm1,hwm2,hwm3,hwm4,v2,v3,v4,rk.p.scal,rk.q.scal,rk.f.scal,ix,sl,ivRt,B6,B7]
   subst hQ
   simp
   exact⟨hi,⟨id,by simp[gP],by simp[gP,imms]⟩,by simp[gP],m5,by simp[gP],by omega,yes⟩
  ·have hj3:ILt (m:Int) 3000=False:=zIz (by omega)
   generalize hQ:(fun (e:Ex) (s':St)=>_)=Q'
   simp only[D.l35_3b]
   simp +contextual (maxSteps:=2000000) [h1,h3,h4,hL,hj',hj3,sl,B6,B7]
   subst hQ
   simp
   exact⟨⟨id,by simp[gP,h1],by simp[gP,hL,imms]⟩,m,by simp[gP,h3],hm,fun h=>absurd h hm3⟩
 ·obtain rfl:i=l.rts.length:=by omega
  generalize hQ:(fun (e:Ex) (s':St)=>_)=Q'
  simp only[D.l35_3b]
  simp[h1,h3,h4,hL,sl,B6,B7]
  subst hQ
  simp
  exact⟨⟨id,by simp[gP,h1],by simp[gP,hL,imms]⟩,m,by simp[gP,h3],hm,fun h=>⟨(hP h).1,fun x hx=>by
   obtain⟨j,hj,rfl⟩:=zL2 hx
   exact (hP h).2 j hj⟩⟩
end
structure LoSz (l:Lo):Prop where
 ls:l.secs.length<3000
 lp:l.pts.length<3000
 lg:l.sigs.length<3000
 lr:l.rts.length<3000
 s:∀ x∈l.secs,x.length≤3000
 p:∀ x∈l.pts,x.name.length≤3000
 g:∀ x∈l.sigs,x.length≤3000
 r:∀ x∈l.rts,x.name.length≤3000
theorem LoSz.sm {l:Lo}(h:LoSz l):LoSm l:=⟨fun x hx=>by have:=h.s x hx; omega,fun x hx=>by have:=h.p x hx; omega,fun x hx=>by have:=h.g x hx; omega,fun x hx=>by have:=h.r x hx; omega⟩
theorem zQ2 {D:Nat}(hD:1≤D){l:Lo}(ok:LoOk l) :
  ∃ m:Nat,bl (K DG D) 35 [l.dv]=some (.imm (.int .i64 m))∧(m<3000→LoSz l):=by
 have hrb:=rb3
 obtain⟨d,rfl⟩:∃ d,D=d+1:=⟨D - 1,by omega⟩
 have key:Fe (K DG (d+1) 35 [l.dv] .lf 0 0) (fun v _ _=>∃ m:Nat,v=.imm (.int .i64 m)∧(m<3000→LoSz l)):=by
  rw[kX 35 D.f35 rfl]
  refine zHy rfl ?_
  have sl:=ok.s.len
  have gl:=ok.g.len
  have pl:=ok.p.len
  have rl:=ok.r.len
  simp only[List.length_map] at sl gl pl rl
  have ls:=ok.ls
  have lp:=ok.lp
  have lg:=ok.lg
  have lr:=ok.lr
  have w1:IntKind.i64.wrap ((l.secs.length:Int)+(l.pts.length:Int))=((l.secs.length+l.pts.length:Nat):Int):=by rw[zTW (by omega) (by omega)]; omega
  have w2:IntKind.i64.wrap (((l.secs.length+l.pts.length:Nat):Int)+(l.sigs.length:Int))=((l.secs.length+l.pts.length+l.sigs.length:Nat):Int):=by rw[zTW (by omega) (by omega)]; omega
  have w3:IntKind.i64.wrap (((l.secs.length+l.pts.length+l.sigs.length:Nat):Int)+(l.rts.length:Int))=((l.secs.length+l.pts.length+l.sigs.length+l.rts.length:Nat):Int):=by rw[zTW (by omega) (by omega)]; omega
  generalize h2:l.secs.length+l.pts.length=m2 at w1 w2 w3
  generalize h3:m2+l.sigs.length=m3 at w2 w3
  generalize h4:m3+l.rts.length=m4 at w3
  simp (config:={maxSteps:=2000000}) [ok.sc,sl,gl,pl,rl,w1,w2,w3,B6,B7]
  refine zLi (l:=l) (M:=8*reachBytes) (P:=l.secs.length<3000∧l.pts.length<3000∧l.sigs.length<3000∧l.rts.length<3000) ok (by omega) (by omega) ⟨⟨0,by simp[gP],by simp[gP,imms]⟩,by simp[gP],m4,by simp[gP],by omega,fun h=>⟨by omega,fun j hj=>by omega⟩⟩ ?_
  rintro st1 ⟨⟨i1,b1,b2⟩,m1,b3,b4,b5⟩
  simp[b1,b2,b3,B6,B7]
  refine zLj (l:=l) (M:=8*reachBytes) ok (by omega) (by omega) ⟨⟨i1,by simp[gP,b1],by simp[gP,b2,imms]⟩,by simp[gP],m1,by simp[gP,b3],b4,fun h=>⟨b5 h,fun j hj=>by omega⟩⟩ ?_
  rintro st2 ⟨⟨i2,c1,c2⟩,m5,c3,c4,c5⟩
  simp[c1,c2,c3,B6,B7]
  refine zLk (l:=l) (M:=8*reachBytes) ok (by omega) (by omega) ⟨⟨i2,by simp[gP,c1],by simp[gP,c2,imms]⟩,by simp[gP],m5,by simp[gP,c3],c4,fun h=>⟨c5 h,fun j hj=>by omega⟩⟩ ?_
  rintro st3 ⟨⟨i3,e1,e2⟩,m6,e3,e4,e5⟩
  simp[e1,e2,e3,B6,B7]
  refine zLl (l:=l) (M:=8*reachBytes) ok (by omega) (by omega) ⟨⟨i3,by simp[gP,e1],by simp[gP,e2,imms]⟩,by simp[gP],m6,by simp[gP,e3],e4,fun h=>⟨e5 h,fun j hj=>by omega⟩⟩ ?_
  rintro st4 ⟨⟨i4,f1,f2⟩,m7,f3,f4,f5⟩
  simp[f1,f2,f3,B6,B7]
  refine⟨m7,rfl,fun h=>?_⟩
  obtain⟨⟨⟨⟨g0,g1⟩,g2⟩,g3⟩,g4⟩:=f5 h
  exact⟨g0.1,g0.2.1,g0.2.2.1,g0.2.2.2,g1,g2,g3,g4⟩
 obtain⟨v,H,n,e,m,rfl,hm⟩:=key
 exact⟨m,zDe e,hm⟩
abbrev kdEv:List Kd:=[.i .i64,.i .i64,.i .i64,.i .i64,.i .i64]
theorem zHO {iv:IV}(h:FitK (.sl kdEv) iv):∃ xs:List EV,Sl 5 iv (xs.map ivE)∧xs.length≤reachBytes∧∀ x∈xs,True:=
 zPZ h ivE _ fun e hl hk=>by
  match e,hl with
  | [c0,c1,c2,c3,c4],_=>
   have f0:=hk 0 _ _ rfl rfl
   have f1:=hk 1 _ _ rfl rfl
   have f2:=hk 2 _ _ rfl rfl
   have f3:=hk 3 _ _ rfl rfl
   have f4:=hk 4 _ _ rfl rfl
   cases f0; cases f1; cases f2; cases f3; cases f4
   exact⟨⟨_,_,_,_,_⟩,rfl,trivial⟩
structure EvOk (x:IV×List EV):Prop where
 ev:Sl 5 x.1 (x.2.map ivE)
 ln:x.2.length≤reachBytes
def ivV (x:IV×List EV):List IV:=[x.1]
theorem zHS {iv:IV}(h:FitK (.sl [.sl kdEv]) iv):∃ xs:List (IV×List EV),Sl 1 iv (xs.map ivV)∧xs.length≤reachBytes∧∀ x∈xs,EvOk x:=
 zPZ h ivV _ fun e hl hk=>by
  match e,hl with
  | [c0],_=>
   have f0:=hk 0 _ _ rfl rfl
   obtain⟨es,h1,h2,_⟩:=zHO f0
   exact⟨(c0,es),rfl,h1,h2⟩
theorem zHQ {D:Nat}(hD:1≤D){xs:List (IV×List EV)}(hv:Sl 1 v (xs.map ivV)) (hl:xs.length≤reachBytes) (hx:∀ x∈xs,EvOk x):∃ b:Bool,bl (K DG D) 36 [.imm v]=some (.imm (.bool b)):=by
 obtain⟨d,rfl⟩:∃ d,D=d+1:=⟨D - 1,by omega⟩
 have vs:=hv.scal
 have vl:=hv.len
 simp only[List.length_map] at vl
 have key:Fe (K DG (d+1) 36 [.imm v] .lf 0 0) (fun v' _ _=>∃ b:Bool,v'=.imm (.bool b)):=by
  rw[kX 36 D.f36 rfl]
  refine zHy rfl ?_
  simp[B6,B7]
  refine zGt (N:=xs.length) (zRH hl) (fun i st=>st.T.get 0=some (.imm v)∧(∃ z:Int,st.T.get 3=some (.imm (.int .i64 z)))∧st.T.get 4=some (.imm (.int .i64 (i:Int)))) (fun e st'=>(e=.exit 0)∨(e=.ret∧∃ b:Bool,st'.T.get 2=some (.imm (.bool b)))) (fun i st hle hI=>?_) ⟨by simp[gP],⟨0,by simp[gP]⟩,by simp[gP]⟩ ?_
  ·obtain⟨c0,⟨z,c3⟩,c4⟩:=hI
   by_cases hi:i<xs.length
   ·have hi1:(i:Int)<xs.length:=by omega
    have hi':=zI3 hi1
    have hw8:IntKind.i64.wrap ((i:Int)+1)=(i:Int)+1:=zTX hi hl
    have ix:=zIu hv hi1
    simp only[Int.toNat_natCast] at ix
    have ex:=hx _ (zMi hi)
    have es:=ex.ev.scal
    have el:=ex.ev.len
    simp only[List.length_map] at el
    generalize nth xs i=x at *
    by_cases h90:(i:Int)<90
    ·have i90:=zI3 h90
     rcases Classical.em (ILt 2000 (IntKind.i64.wrap (z+(x.2.length:Int)))) with g | g
     ·have g:=eq_true g
      generalize hQ:(fun (e:Ex) (s':St)=>_)=Q'
      simp only[D.l36_0b]
      simp[c0,c3,c4,vl,hi',i90,hw8,ix,es,el,g,ivV,B6,B7]
      subst hQ
      simp[gP]
     ·have g:=eq_false g
      generalize hQ:(fun (e:Ex) (s':St)=>_)=Q'
      simp only[D.l36_0b]
      simp[c0,c3,c4,vl,hi',i90,hw8,ix,es,el,g,ivV,B6,B7]
      subst hQ
      exact .inl ⟨rfl,hi,by simp[gP,c0],⟨_,by simp[gP]; rfl⟩,by simp[gP]⟩
    ·have i90:=zIz (Int.not_lt.1 h90)
     generalize hQ:(fun (e:Ex) (s':St)=>_)=Q'
     simp only[D.l36_0b]
     simp[c0,c3,c4,vl,hi',i90,B6,B7]
     subst hQ
     simp
   ·obtain rfl:i=xs.length:=by omega
    generalize hQ:(fun (e:Ex) (s':St)=>_)=Q'
    simp only[D.l36_0b]
    simp[c0,c3,c4,vl,zI2,B6,B7]
    subst hQ
    simp
  ·rintro e s2 (rfl | ⟨rfl,b,h⟩)
   ·simp[B6,B7]
   ·simp[h,B6,B7]
 obtain⟨x,H,n,e,b,rfl⟩:=key
 exact⟨b,zDf e rfl⟩
theorem zHd {D:Nat}(hD:12≤D){l:Lo}(ok:LoOk l){xs:List (IV×List EV)}(hv:Sl 1 v (xs.map ivV)) (hl:xs.length≤reachBytes) (hx:∀ x∈xs,EvOk x):∃ b:Bool,bl (K DG D) 8 [l.dv,.imm v]=some (.imm (.bool b))∧(b=true→ISL l∧LoSm l):=by
 obtain⟨d,rfl⟩:∃ d,D=d+1:=⟨D - 1,by omega⟩
 have hrb:=rb3
 obtain⟨m,hm,hs⟩:=zQ2 (D:=d) (by omega) ok
 obtain⟨be,e3⟩:=zHQ (D:=d) (by omega) hv hl hx
 have vs:=hv.scal
 have key:Fe (K DG (d+1) 8 [l.dv,.imm v] .lf 0 0) (fun v' _ _=>∃ b:Bool,v'=.imm (.bool b)∧(b=true→ISL l∧LoSm l)):=by
  have ss:=ok.s.scal
  have ps:=ok.p.scal
  have gs:=ok.g.scal
  have rs:=ok.r.scal
  rw[kX 8 D.f8 rfl]
  refine zHy rfl ?_
  by_cases hm3:m<3000
  ·have hj3:ILt (m:Int) 3000=True:=zI3 (by omega)
   have ei:=zAo (D:=d) (by omega) ok (hs hm3).sm
   simp only[Lo.dv] at hm ei ⊢
   by_cases is:ISL l
   ·rw[zFd is] at ei
    have sm:=(hs hm3).sm
    simp[ss,ps,gs,rs,vs,hm,hj3,ei,e3,is,sm,zHG,lay,imms,B6,B7]
   ·rw[zFX is] at ei
    simp[ss,ps,gs,rs,vs,hm,hj3,ei,zHG,lay,imms,B6,B7]
  ·have hj3:ILt (m:Int) 3000=False:=zIz (by omega)
   simp only[Lo.dv] at hm ⊢
   simp[ss,ps,gs,rs,vs,hm,hj3,B6,B7]
 obtain⟨x,H,n,e,b,rfl,h⟩:=key
 exact⟨b,zDf e rfl,h⟩
theorem zCr (A:PLc) (s:PS) (i:Nat) (b:Bool):(askF A s i b).now=s.now:=by
 unfold askF
 repeat' split
 all_goals rfl
theorem zFM (A:PLc) (s:PS) (es:List EV):(cycS A s es).now=s.now+1:=by
 show (zQd (cy7 A s es) 2).now=_
 rw[(zQe _ _).2]
 show (zSQ A (cy5 A s es) es 2).now=_
 rw[(zSR A (cy5 A s es) es 2).2.2.2.1]
 show (askF A (askF A _ _ _) _ _).now=_
 rw[zCr]
 show (askF A (zTi A (cy3 A s es) es) _ _).now=_
 rw[zCr,zTl,zFI]
structure Any (l:Lo) (A:PLc) (c:Nat→Nat) (H:PT HB) (n P:Nat) (t:Nat) (s:PS):Prop where
 ao:AOk A
 eq:(∀ i,i<2→LoEq l (A.l i))∧LoEq l A.ls
 pt:PAt c H n P A s
 pi:PI A 0 s
 nw:s.now=(t:Int)
theorem Any.new {d:Nat}(hd:8≤d){l:Lo}(ok:LoOk l) (is:ISL l) (H:PT HB) (n:Nat) :
  ∃ P A c H' n',K DG (d+1) 9 [l.dv] H n 0=some (.tup [.ptr P 0 0,.imm (.int .i64 0)],H',n')∧Any l A c H' n' P 0 (newP l)∧(∀ j,j<n→c j=7)∧(∀ j,j<n→H'.get j=H.get j)∧n≤n':=by
 obtain⟨v,H',n',e,P,A,c,rfl,hP,ao,eq,eqs,pt,hc,hf⟩:=zBJ hd ok is H n
 exact⟨P,A,c,H',n',e,⟨ao,⟨eq,eqs⟩,pt,PI.new is eq,rfl⟩,hc,hf,by have:=pt.cP.2; omega⟩
theorem Any.mono {l:Lo} {P:Nat}(h:Any l A c H n P t s) (hn:n≤n') (hc:∀ j,j<n→c' j=c j) (hf:∀ j,j<n→c j≤6→H'.get j=H.get j):Any l A c' H' n' P t s:=⟨h.ao,h.eq,h.pt.mono hn hc hf,h.pi,h.nw⟩
theorem Any.cyc {d:Nat}(hd:10≤d){l:Lo} {P:Nat}(h:Any l A c H n P t s) (ht:t≤900)(hv:Sl 5 v (es.map ivE)) (hel:es.length≤reachBytes) :
  ∃ v' H' n' c',K DG (d+13) 12 [.ptr P 0 0,.imm v] H n 0=some (v',H',n')∧n≤n'∧Any l A c' H' n' P (t+1) (cycS A s (es.take 8))∧OutD H'.get n n' v' (cyO A s (es.take 8)).1 (cyO A s (es.take 8)).2∧(∀ j,j<n→c' j=c j)∧∀ j,j<n→6<c j→H'.get j=H.get j:=by
 obtain⟨v',H',n',e,⟨hn,c',pt,q,f⟩,o,pi⟩:=zBI hd h.ao h.pt h.pi (by rw[h.nw]; omega) hv hel
 exact⟨v',H',n',c',e,hn,⟨h.ao,h.eq,pt,pi,by rw[zFM,h.nw]; omega⟩,o,q,f⟩
theorem zMU:Sl 5 .nils (([]:List EV).map ivE):=.inl ⟨rfl,rfl⟩
theorem zJo {D:Nat}(hD:29≤D):bl (K DG D) 19 []=some (.imm (.bool true)):=by
 obtain⟨d,rfl⟩:∃ d,D=d+29:=⟨D - 29,by omega⟩
 have key:Fe (K DG (d+29) 19 [] .lf 0 0) (fun v _ _=>v=.imm (.bool true)):=by
  have o1:=zJ4 (d:=d+27)
  obtain⟨P,A,c,H1,n1,e1,h1,-,-,-⟩:=AtK.new (d:=d+27) (by omega) zNM zNL .lf 0
  obtain⟨v2,H2,n2,c2,e2,hn2,h2,-,-,-⟩:=h1.cyc (d:=d+15) (by omega) (by omega) zMU (by simp) zDx
  have nw:=h2.now
  obtain⟨k3,g3,hk3⟩:=zBH h2.pt (d:=d+26) (m:=n2) (lo:=0)
  obtain⟨k4,g4,hk4⟩:=zBK h2.pt (d:=d+27) (m:=k3) (lo:=0)
  have hc:(cycS A (newP zKO) (List.take 8 [])).r.con=-1:=by
   rcases h2.jc with⟨h,_⟩ | ⟨_,rs,w,j⟩
   ·omega
   ·rw[j.r]; rfl
  rw[hc] at g3
  rw[nw] at g4
  rw[kX 19 D.f19 rfl]
  refine zHy rfl ?_
  simp[o1,e1,e2,g3,g4,B6,B7]
 obtain⟨v,H,n,e,rfl⟩:=key
 exact zDf e rfl
def Rx (H:PT HB) (v:DV) (rows:List (List DV)) (ids:List Nat):Prop:=(rows=[]∧ids=[])∨∃ id,ids=[id]∧v=.sl id 0 rows.length rows.length∧H.get id=some ⟨1,rows⟩
theorem Rx.mono{v:DV}{rows:List (List DV)}{ids:List Nat}(h:Rx H v rows ids) (hf:∀ i∈ids,H'.get i=H.get i):Rx H' v rows ids:=by
 rcases h with h | ⟨id,rfl,h1,h2⟩
 ·exact .inl h
 ·exact .inr ⟨id,rfl,h1,by rw[hf id (by simp)]; exact h2⟩
def rL (p:FPt):List DV:=rowI p.l
def rT (p:FPt):List DV:=rowI p.t
def rS (p:FPt):List DV:=rowI p.s
structure X6 (H:PT HB) (g:Nat) (o a b c:List Nat) (occ:List Bool) (pts:List FPt):Prop where
 h:∃ vo vl vt vd,H.get g=some ⟨4,[[vo,vl,vt,vd]]⟩∧SlV H 1 vo (occ.map zPH) o∧SlV H 1 vl (pts.map rL) a∧Rx H vt (pts.map rT) b∧Rx H vd (pts.map rS) c
 nd:(g::(o++(a++(b++c)))).Nodup
variable {a b o:List Nat} {g:Nat}
theorem X6.mono {c:List Nat}(h:X6 H g o a b c occ pts) (hf:∀ i∈g::(o++(a++(b++c))),H'.get i=H.get i):X6 H' g o a b c occ pts:=by
 obtain⟨⟨vo,vl,vt,vd,h1,h2,h3,h4,h5⟩,nd⟩:=h
 exact⟨⟨vo,vl,vt,vd,by rw[hf g (by simp)]; exact h1,h2.mono fun i hi=>hf i (by simp[hi]),h3.mono fun i hi=>hf i (by simp[hi]),h4.mono fun i hi=>hf i (by simp[hi]),h5.mono fun i hi=>hf i (by simp[hi])⟩,nd⟩
theorem zBk {d:Nat} {c:List Nat}(hx:X6 H g o a b c occ pts) (h0:occ≠[]) (k:Int) (n:Nat) :
  Fe (K DG (d+1) 42 [.ptr g 0 0,.imm (.int .i64 k)] H n 0) (fun v H' n'=>n'=n∧(∀ j,j∉o→H'.get j=H.get j)∧
   ((InR k occ.length∧v=.imm (.int .i64 0)∧X6 H' g o a b c (zHt occ k) pts)∨(¬InR k occ.length∧v=.imm (.int .i64 5)∧X6 H' g o a b c occ pts))):=by
 have hx0:=hx
 obtain⟨⟨vo,vl,vt,vd,h1,h2,h3,h4,h5⟩,nd⟩:=hx
 generalize hro:occ.map zPH=ros at h2
 have hrol:ros.length=occ.length:=by rw[← hro]; simp
 have hro0:ros≠[]:=fun e=>by rw[e] at hro; simp at hro; exact h0 hro
 cases h2 with
 | nil=>exact absurd rfl hro0
 | sl ho hro1=>
 rename_i io
 have hgi:¬g=io:=fun e=>by subst e; simp at nd
 rw[kX 42 D.f42 rfl]
 refine zHy rfl ?_
 by_cases hk:InR k occ.length
 ·obtain⟨k0,k1⟩:=hk
  have j0:ILt k 0=False:=zIz k0
  have j1:ILt k ros.length=True:=zI3 (by omega)
  have hkn:k.toNat<occ.length:=by omega
  have hrow:ros[k.toNat]?=some (zPH (nth occ k.toNat)):=by rw[← hro,List.getElem?_map,zMh hkn]; rfl
  have ix:=fun {n:Nat}=>zIs (h:=H.get) (n:=n) (id:=io) (row:=0) (len:=ros.length) (cap:=ros.length) ho rfl (k:=.i64) (z:=k) k0 (by omega)
  simp only[zPH] at hrow
  simp[h1,ho,j0,j1,ix,hrow,B6,B7]
  refine⟨fun j hj hj2=>absurd hj2 hj,⟨k0,k1⟩,⟨⟨.sl io 0 ros.length ros.length,vl,vt,vd,?_,?_,h3.mono fun i hi=>?_,h4.mono fun i hi=>?_,h5.mono fun i hi=>?_⟩,nd⟩⟩
  ·simp[gP,hgi,h1]
  ·have e1:(zHt occ k).map zPH=ros.set k.toNat (zPH (!nth occ k.toNat)):=by rw[zHt,List.map_set,hro]
   have:=SlV.sl (sz:=1) (H:=H.put io (some ⟨1,ros.set k.toNat (zPH (!nth occ k.toNat))⟩)) (id:=io) (rows:=(zHt occ k).map zPH) (by rw[e1]; simp[gP]) (fun e=>by
    have:=congrArg List.length e
    simp[zHt] at this
    exact h0 this)
   simpa [zHt,hrol,zPH] using this
  ·have:¬i=io:=fun e=>by subst e; simp at nd; exact nd.2.1.1 hi
   simp[gP,this]
  ·have:¬i=io:=fun e=>by subst e; simp at nd; exact nd.2.1.2.1 hi
   simp[gP,this]
  ·have:¬i=io:=fun e=>by subst e; simp at nd; exact nd.2.1.2.2 hi
   simp[gP,this]
 ·have nk:¬InR k occ.length:=hk
  by_cases k0:k<0
  ·have j0:ILt k 0=True:=zI3 k0
   simp[h1,j0,B6,B7]
   exact⟨nk,hx0⟩
  ·have j0:ILt k 0=False:=zIz (by omega)
   have j1:ILt k ros.length=False:=zIz (by unfold InR at nk; omega)
   simp[h1,j0,j1,B6,B7]
   exact⟨nk,hx0⟩
theorem X6.rows {c:List Nat}(hx:X6 H g o a b c occ pts) (h0:pts≠[]) :
  ∃ vo x y z,a=[x]∧b=[y]∧c=[z]∧H.get g=some ⟨4,[[vo,.sl x 0 pts.length pts.length,.sl y 0 pts.length pts.length,.sl z 0 pts.length pts.length]]⟩∧SlV H 1 vo (occ.map zPH) o∧H.get x=some ⟨1,pts.map rL⟩∧H.get y=some ⟨1,pts.map rT⟩∧H.get z=some ⟨1,pts.map rS⟩∧
   ¬g=x∧¬g=y∧¬g=z∧¬x=y∧¬x=z∧¬y=z∧x∉o∧y∉o∧z∉o:=by
 obtain⟨⟨vo,vl,vt,vd,h1,h2,h3,h4,h5⟩,nd⟩:=hx
 rcases h4 with⟨e,_⟩ | ⟨y,rfl,rfl,hy⟩
 ·simp at e; exact absurd e h0
 rcases h5 with⟨e,_⟩ | ⟨z,rfl,rfl,hz⟩
 ·simp at e; exact absurd e h0
 generalize hr:pts.map rL=rows at h3
 have hl:rows.length=pts.length:=by rw[← hr]; simp
 cases h3 with
 | nil=>simp at hr; exact absurd hr h0
 | sl hx hne=>
  rename_i x
  rw[hl] at h1
  simp only[List.length_map] at h1
  simp[List.nodup_append] at nd
  refine⟨vo,x,y,z,rfl,rfl,rfl,h1,h2,hx,hy,hz,?_⟩
  grind
variable {vo:DV} {y z:Nat}
theorem X6.mk' {x:Nat}(h0:pts≠[]) (h1:H.get g=some ⟨4,[[vo,.sl x 0 pts.length pts.length,.sl y 0 pts.length pts.length,.sl z 0 pts.length pts.length]]⟩) (h2:SlV H 1 vo (occ.map zPH) o) (hx:H.get x=some ⟨1,pts.map rL⟩) (hy:H.get y=some ⟨1,pts.map rT⟩) (hz:H.get z=some ⟨1,pts.map rS⟩)
  (nd:(g::(o++([x]++([y]++[z])))).Nodup):X6 H g o [x] [y] [z] occ pts:=by
 refine⟨⟨vo,_,_,_,h1,h2,?_,.inr ⟨y,rfl,by simp,hy⟩,.inr ⟨z,rfl,by simp,hz⟩⟩,nd⟩
 have:=SlV.sl hx (by simpa using h0)
 simpa using this
theorem zBe {d:Nat} {c:List Nat}(hx:X6 H g o a b c occ pts) (k:Int) (n:Nat) :
  Fe (K DG (d+1) 43 [.ptr g 0 0,.imm (.int .i64 k)] H n 0) (fun v H' n'=>n'=n∧(∀ j,j∉a++(b++c)→H'.get j=H.get j)∧
   ((InR k pts.length∧v=.imm (.int .i64 0)∧X6 H' g o a b c occ (pts.set k.toNat ⟨0,0,0⟩))∨(¬InR k pts.length∧v=.imm (.int .i64 5)∧X6 H' g o a b c occ pts))):=by
 have hx0:=hx
 by_cases hk:InR k pts.length
 ·obtain⟨k0,k1⟩:=hk
  have hkn:k.toNat<pts.length:=by omega
  have hne:pts≠[]:=fun e=>by subst e; simp at hkn
  have hnd:=hx.nd
  obtain⟨vo,x,y,z,rfl,rfl,rfl,h1,h2,hx,hy,hz,n1,n2,n3,n4,n5,n6,m1,m2,m3⟩:=hx.rows hne
  have j0:ILt k 0=False:=zIz k0
  have j1:ILt k pts.length=True:=zI3 k1
  have n4':¬y=x:=fun e=>n4 e.symm
  have n5':¬z=x:=fun e=>n5 e.symm
  have n6':¬z=y:=fun e=>n6 e.symm
  have ixx:=fun {h:Nat→Option HB}{n:Nat} {r}(hh:h x=some ⟨1,r⟩)=>zIs (h:=h) (n:=n) (id:=x) (row:=0) (len:=pts.length) (cap:=pts.length) hh rfl (k:=.i64) (z:=k) k0 (by omega)
  have ixy:=fun {h:Nat→Option HB}{n:Nat} {r}(hh:h y=some ⟨1,r⟩)=>zIs (h:=h) (n:=n) (id:=y) (row:=0) (len:=pts.length) (cap:=pts.length) hh rfl (k:=.i64) (z:=k) k0 (by omega)
  have ixz:=fun {h:Nat→Option HB}{n:Nat} {r}(hh:h z=some ⟨1,r⟩)=>zIs (h:=h) (n:=n) (id:=z) (row:=0) (len:=pts.length) (cap:=pts.length) hh rfl (k:=.i64) (z:=k) k0 (by omega)
  have rx:(pts.map rL)[k.toNat]?=some (rL (nthP pts k.toNat)):=by rw[List.getElem?_map]; simp[nthP,hkn]
  have ry:(pts.map rT)[k.toNat]?=some (rT (nthP pts k.toNat)):=by rw[List.getElem?_map]; simp[nthP,hkn]
  have rz:(pts.map rS)[k.toNat]?=some (rS (nthP pts k.toNat)):=by rw[List.getElem?_map]; simp[nthP,hkn]
  have ex:(pts.map rL).set k.toNat (rowI 0)=(pts.set k.toNat ⟨0,0,0⟩).map rL:=by rw[List.map_set]; rfl
  have ey:(pts.map rT).set k.toNat (rowI 0)=(pts.set k.toNat ⟨0,0,0⟩).map rT:=by rw[List.map_set]; rfl
  have ez:(pts.map rS).set k.toNat (rowI 0)=(pts.set k.toNat ⟨0,0,0⟩).map rS:=by rw[List.map_set]; rfl
  have hne':pts.set k.toNat ⟨0,0,0⟩≠[]:=fun e=>by
   have:=congrArg List.length e
   simp at this; exact hne this
  have hl':(pts.set k.toNat ⟨0,0,0⟩).length=pts.length:=by simp
  generalize pts.set k.toNat ⟨0,0,0⟩=qs at *
  generalize hrx:pts.map rL=rwx at *
  generalize hry:pts.map rT=rwy at *
  generalize hrz:pts.map rS=rwz at *
  simp only[rL,rT,rS,rowI] at rx ry rz
  have i1:=fun {n:Nat}=>ixx (h:=H.get) (n:=n) hx
  have i2:=fun {n:Nat} {v}=>ixy (h:=(H.put x v).get) (n:=n) (r:=rwy) (by simp[gP,n4',hy])
  have i3:=fun {n:Nat} {v w}=>ixz (h:=((H.put x v).put y w).get) (n:=n) (r:=rwz) (by simp[gP,n5',n6',hz])
  simp only[Nat.zero_add] at i1 i2 i3
  rw[kX 43 D.f43 rfl]
  refine zHy rfl ?_
  simp[h1,j0,j1,i1,i2,i3,hx,hy,hz,n4',n5',n6',rx,ry,rz,B6,B7]
  refine⟨fun j a1 a2 a3=>by simp[a1,a2,a3],⟨k0,k1⟩,?_⟩
  have q:=X6.mk' (H:=((H.put x (some ⟨1,rwx.set k.toNat (rowI 0)⟩)).put y (some ⟨1,rwy.set k.toNat (rowI 0)⟩)).put z (some ⟨1,rwz.set k.toNat (rowI 0)⟩)) (g:=g) (x:=x) (y:=y) (z:=z) (o:=o) (vo:=vo) (occ:=occ) (pts:=qs) hne' (by rw[hl']; simp[gP,n1,n2,n3,h1]) (h2.mono fun i hi=>by
   have a1:¬i=x:=fun e=>m1 (e▸hi)
   have a2:¬i=y:=fun e=>m2 (e▸hi)
   have a3:¬i=z:=fun e=>m3 (e▸hi)
   simp[gP,a1,a2,a3]) (by simp[gP,n4,n5,ex]) (by simp[gP,n6,ey]) (by simp[gP,ez]) hnd
  simpa [rowI] using q
 ·obtain⟨⟨vo,vl,vt,vd,h1,h2,h3,h4,h5⟩,nd⟩:=hx
  have vll:=h3.len
  rw[List.length_map] at vll
  have nk:¬InR k pts.length:=hk
  rw[kX 43 D.f43 rfl]
  refine zHy rfl ?_
  by_cases k0:k<0
  ·have j0:ILt k 0=True:=zI3 k0
   simp[h1,j0,B6,B7]
   exact⟨nk,hx0⟩
  ·have j0:ILt k 0=False:=zIz (by omega)
   have j1:ILt k pts.length=False:=zIz (by unfold InR at nk; omega)
   simp[h1,vll,j0,j1,B6,B7]
   exact⟨nk,hx0⟩
theorem zIt {s id row len cap:Nat}{k:IntKind}(hi:i<len) (hh:(h id).map HB.sz=some s) :
  idxE h n s (some (.sl id row len cap)) (some (.imm (.int k (i:Int))))=some { v:=.ptr id (row+i) 0,n':=n,acc:=[.rX id] }:=by
 cases e:h id with
 | none=>rw[e] at hh; cases hh
 | some b=>
  rw[e] at hh
  have:=zIs (n:=n) (row:=row) (len:=len) (cap:=cap) e (Option.some.inj hh) (k:=k) (z:=(i:Int)) (by omega) (by omega)
  simpa using this
theorem zQq {α:Type}{xs:List α}{y:α}(h:xs[i]?=some y):xs.set i y=xs:=by
 refine List.ext_getElem? fun k=>?_
 rw[List.getElem?_set]
 split
 ·rename_i e; subst e
  have hi:i<xs.length:=(List.getElem?_eq_some_iff.1 h).1
  rw[if_pos hi,h]
 ·rfl
theorem zQr {α:Type}{xs:List α}{y:α}(h:i<xs.length):(xs.set i y)[i]?=some y:=by simp[h]
def PBd (pts:List FPt):Prop:=∀ p∈pts,0≤p.s∧p.s≤2
theorem wr12 {s:Int}(h:0≤s∧s≤2):IntKind.i64.wrap (s+1)=s+1:=zTW (by omega) (by omega)
theorem zGj {p:FPt}(h:0≤p.s∧p.s≤2) (d:Int):0≤(zGc p d).s∧(zGc p d).s≤2:=by
 have w1:IntKind.i64.wrap (0+1)=1:=by decide
 unfold zGc
 by_cases c:d=0∨d=p.l
 ·rw[if_pos c]; exact⟨by simp,by simp⟩
 ·rw[if_neg c]
  by_cases e:d=p.t
  ·rw[if_pos e,wr12 h]
   split
   ·exact⟨by simp,by simp⟩
   ·exact⟨by simp; omega,by simp; omega⟩
  ·rw[if_neg e,w1]
   exact⟨by simp,by simp⟩
def DvA (H:PT HB) (x:DV) (ds:List Int):Prop:=(∃ w,x=.imm w∧Sl 1 w (ds.map ivI))∨∃ id,x=.sl id 0 ds.length ds.length∧H.get id=some ⟨1,(ds.map ivI).map imms⟩
variable {ds:List Int}
theorem DvA.mono(h:DvA H x ds) (hf:∀ id a b c,x=.sl id a b c→H'.get id=H.get id):DvA H' x ds:=by
 rcases h with h | ⟨id,rfl,h2⟩
 ·exact .inl h
 ·exact .inr ⟨id,rfl,by rw[hf id _ _ _ rfl]; exact h2⟩
theorem DvA.ix(h:DvA H x ds)(hi:i<ds.length) :
  ∃ P A B,(∀ n,idxE H.get n 1 (some x) (some (.imm (.int .i64 (i:Int))))=some { v:=P,n':=n,acc:=A })∧∀ L n,zKP L H.get n 1 false P=some { v:=.imm (.int .i64 (nth ds i)),n':=n,acc:=B }:=by
 rcases h with⟨w,rfl,hw⟩ | ⟨id,rfl,h2⟩
 ·refine⟨_,[],[],fun n=>zIy hw (by omega) (by omega) (by omega),fun L n=>?_⟩
  simp[zKP,ivI,imms,cut,zMy]
 ·refine⟨_,[.rX id],[.rX id],fun n=>zIs h2 rfl (by omega) (by omega),fun L n=>?_⟩
  have:((ds.map ivI).map imms)[i]?=some [.imm (.int .i64 (nth ds i))]:=by
   rw[List.getElem?_map,List.getElem?_map,zMh hi]
   rfl
  generalize (ds.map ivI).map imms=R at *
  simp[zKP,h2,this,cut,zMy]
structure IWs (H0:PT HB) (n0 g x y z:Nat) (vo:DV) (dv:DV) (pts:List FPt) (ds:List Int) (i:Nat) (st:St):Prop where
 h0:st.T.get 0=some (.ptr g 0 0)
 h1:st.T.get 1=some dv
 h4:st.T.get 4=some (.imm (.int .i64 i))
 hg:st.H.get g=some ⟨4,[[vo,.sl x 0 pts.length pts.length,.sl y 0 pts.length pts.length,.sl z 0 pts.length pts.length]]⟩
 hx:st.H.get x=some ⟨1,(stp pts ds i).map rL⟩
 hy:st.H.get y=some ⟨1,(stp pts ds i).map rT⟩
 hz:st.H.get z=some ⟨1,(stp pts ds i).map rS⟩
 fr:∀ j,¬j=x→¬j=y→¬j=z→st.H.get j=H0.get j
 hn:n0≤st.n
theorem zLd {d:Nat} {x:Nat} {dv:DV}(hb:PBd pts)(hd:DvA H0 dv ds) (hdi:∀ id a b c,dv=.sl id a b c→¬id=x∧¬id=y∧¬id=z) (hl:ds.length=pts.length) (hp:pts.length≤1000) (n1:¬g=x) (n2:¬g=y) (n3:¬g=z) (n4:¬x=y) (n5:¬x=z) (n6:¬y=z){ks:List Kf}{st:St}{Q:Ex→St→Prop}
  (h:IWs H0 n0 g x y z vo dv pts ds 0 st) (hk:∀ st',IWs H0 n0 g x y z vo dv pts ds pts.length st'→Bk DG (K DG d) 0 (.exit 0) ks st' Q):Wp DG (K DG d) 0 D.l18_0 ks st Q:=by
 have hrb:=rb3
 refine zGt (N:=pts.length) (zRH (by omega)) (IWs H0 n0 g x y z vo dv pts ds) (fun e st'=>e=.exit 0∧IWs H0 n0 g x y z vo dv pts ds pts.length st') (fun i st hle hI=>?_) h (fun e s' h=>by rw[h.1]; exact hk s' h.2)
 obtain⟨g0,g1,g4,hg,hx,hy,hz,fr,hn⟩:=hI
 have n4':¬y=x:=fun e=>n4 e.symm
 have n5':¬z=x:=fun e=>n5 e.symm
 have n6':¬z=y:=fun e=>n6 e.symm
 by_cases hi:i<pts.length
 ·have hi1:(i:Int)<pts.length:=by omega
  have hi':=zI3 hi1
  have hw8:IntKind.i64.wrap ((i:Int)+1)=(i:Int)+1:=zTX hi (by omega)
  obtain⟨PX,AX,BX,ix,lx'⟩:=(hd.mono (H':=st.H) fun id a b c e=>fr id (hdi id a b c e).1 (hdi id a b c e).2.1 (hdi id a b c e).2.2).ix (i:=i) (by omega)
  have hds:ds[i]?=some (nth ds i):=zMh (by omega)
  have hpi:pts[i]?=some (nthP pts i):=by simp[nthP,hi]
  have hps:=hb _ (List.mem_of_getElem? hpi)
  have hq:(stp pts ds i)[i]?=some (nthP pts i):=by rw[zRm]; exact hpi
  have hs:=zRo pts ds i _ _ hpi hds
  have ql:i<(stp pts ds i).length:=by rw[zRn]; exact hi
  have ex:(stp pts ds (i+1)).map rL=((stp pts ds i).map rL).set i (rL (zGc (nthP pts i) (nth ds i))):=by rw[← hs,List.map_set]
  have ey:(stp pts ds (i+1)).map rT=((stp pts ds i).map rT).set i (rT (zGc (nthP pts i) (nth ds i))):=by rw[← hs,List.map_set]
  have ez:(stp pts ds (i+1)).map rS=((stp pts ds i).map rS).set i (rS (zGc (nthP pts i) (nth ds i))):=by rw[← hs,List.map_set]
  have rx:((stp pts ds i).map rL)[i]?=some (rL (nthP pts i)):=by rw[List.getElem?_map,hq]; rfl
  have ry:((stp pts ds i).map rT)[i]?=some (rT (nthP pts i)):=by rw[List.getElem?_map,hq]; rfl
  have rz:((stp pts ds i).map rS)[i]?=some (rS (nthP pts i)):=by rw[List.getElem?_map,hq]; rfl
  have lx:i<((stp pts ds i).map rL).length:=by rw[List.length_map]; exact ql
  have ly:i<((stp pts ds i).map rT).length:=by rw[List.length_map]; exact ql
  have lz:i<((stp pts ds i).map rS).length:=by rw[List.length_map]; exact ql
  have ihx:=fun {h:Nat→Option HB}{n:Nat} hh=>zIt (h:=h) (n:=n) (id:=x) (row:=0) (cap:=pts.length) (s:=1) (k:=.i64) hi hh
  have ihy:=fun {h:Nat→Option HB}{n:Nat} hh=>zIt (h:=h) (n:=n) (id:=y) (row:=0) (cap:=pts.length) (s:=1) (k:=.i64) hi hh
  have ihz:=fun {h:Nat→Option HB}{n:Nat} hh=>zIt (h:=h) (n:=n) (id:=z) (row:=0) (cap:=pts.length) (s:=1) (k:=.i64) hi hh
  simp only[Nat.zero_add] at ihx ihy ihz
  generalize nthP pts i=p at *
  generalize nth ds i=dd at *
  generalize (stp pts ds i).map rL=wx at *
  generalize (stp pts ds i).map rT=wy at *
  generalize (stp pts ds i).map rS=wz at *
  have sx:=fun v:List DV=>zQr (y:=v) lx
  have sy:=fun v:List DV=>zQr (y:=v) ly
  have sz:=fun v:List DV=>zQr (y:=v) lz
  have mx:=zQq rx
  have my:=zQq ry
  have mz:=zQq rz
  have fin:∀ s2:St,s2.T.get 0=some (.ptr g 0 0)→s2.T.get 1=some dv→s2.T.get 4=some (.imm (.int .i64 ((i+1:Nat):Int)))→n0≤s2.n→s2.H.get x=some ⟨1,wx.set i (rL (zGc p dd))⟩→s2.H.get y=some ⟨1,wy.set i (rT (zGc p dd))⟩→s2.H.get z=some ⟨1,wz.set i (rS (zGc p dd))⟩→(∀ j,¬j=x→¬j=y→¬j=z→s2.H.get j=st.H.get j)→IWs H0 n0 g x y z vo dv pts ds (i+1) s2:=
   fun s2 a1 a2 a3 a4 a5 a6 a7 a8=>⟨a1,a2,a3,by rw[a8 g n1 n2 n3]; exact hg,by rw[ex]; exact a5,by rw[ey]; exact a6,by rw[ez]; exact a7,fun j b1 b2 b3=>by rw[a8 j b1 b2 b3]; exact fr j b1 b2 b3,a4⟩
  clear ex ey ez hs
  simp only[rL,rT,rS,rowI] at rx ry rz fin mx my mz
  obtain⟨pl,pt,ps⟩:=p
  simp only at rx ry rz mx my mz hps
  have w1:IntKind.i64.wrap (0+1)=1:=by decide
  have w1':IntKind.i64.wrap 1=1:=by decide
  have wps:=wr12 hps
  generalize hQ:(fun (e:Ex) (s':St)=>_)=Q'
  simp only[D.l18_0b]
  by_cases c0:dd=0
  ·have e:zGc ⟨pl,pt,ps⟩ dd=⟨pl,0,0⟩:=by unfold zGc; rw[if_pos (.inl c0)]
   rw[e] at fin
   subst c0
   simp[g0,g1,g4,hg,hx,hy,hz,hi',hw8,ix,lx',ihx,ihy,ihz,rx,ry,rz,n1,n2,n3,n4,n5,n6,n4',n5',n6',ivI,lenOf,B6,B7]
   subst hQ
   refine .inl ⟨rfl,hi,fin _ (by simp[gP]) (by simp[gP]) (by simp[gP]) (by simp; omega) ?_ ?_ ?_ ?_⟩
   ·simp[gP,n4,n5,hx,mx]
   ·simp[gP,n6]
   ·simp[gP]
   ·intro j b1 b2 b3; simp[gP,b1,b2,b3]
  by_cases c1:dd=pl
  ·have e:zGc ⟨pl,pt,ps⟩ dd=⟨pl,0,0⟩:=by unfold zGc; rw[if_pos (.inr c1)]
   rw[e] at fin
   subst c1
   simp[g0,g1,g4,hg,hx,hy,hz,hi',hw8,ix,lx',ihx,ihy,ihz,rx,ry,rz,c0,n1,n2,n3,n4,n5,n6,n4',n5',n6',ivI,lenOf,B6,B7]
   subst hQ
   refine .inl ⟨rfl,hi,fin _ (by simp[gP]) (by simp[gP]) (by simp[gP]) (by simp; omega) ?_ ?_ ?_ ?_⟩
   ·simp[gP,n4,n5,hx,mx]
   ·simp[gP,n6]
   ·simp[gP]
   ·intro j b1 b2 b3; simp[gP,b1,b2,b3]
  by_cases c2:dd=pt
  ·subst c2
   by_cases c3:ps=2
   ·have e:zGc ⟨pl,dd,ps⟩ dd=⟨dd,0,0⟩:=by
     unfold zGc
     rw[if_neg (by simp[c0,c1])]
     simp only[if_true]
     rw[if_pos (by rw[wps]; omega)]
    rw[e] at fin
    subst c3
    have w3:IntKind.i64.wrap (2+1)=3:=by decide
    have w3':IntKind.i64.wrap 3=3:=by decide
    simp[g0,g1,g4,hg,hx,hy,hz,hi',hw8,ix,lx',ihx,ihy,ihz,rx,ry,rz,sx,sy,sz,List.set_set,w3,w3',c0,c1,n1,n2,n3,n4,n5,n6,n4',n5',n6',ivI,lenOf,B6,B7]
    subst hQ
    refine .inl ⟨rfl,hi,fin _ (by simp[gP]) (by simp[gP]) (by simp[gP]) (by simp; omega) ?_ ?_ ?_ ?_⟩
    ·simp[gP,n4,n5]
    ·simp[gP,n6]
    ·simp[gP]
    ·intro j b1 b2 b3; simp[gP,b1,b2,b3]
   ·have e:zGc ⟨pl,dd,ps⟩ dd=⟨0,dd,ps+1⟩:=by
     unfold zGc
     rw[if_neg (by simp[c0,c1])]
     simp only[if_true]
     rw[if_neg (by rw[wps]; omega),wps]
    rw[e] at fin
    have c4:¬ps+1=3:=by omega
    simp[g0,g1,g4,hg,hx,hy,hz,hi',hw8,ix,lx',ihx,ihy,ihz,rx,ry,rz,sx,sy,sz,List.set_set,wps,c0,c1,c4,n1,n2,n3,n4,n5,n6,n4',n5',n6',ivI,lenOf,B6,B7]
    subst hQ
    refine .inl ⟨rfl,hi,fin _ (by simp[gP]) (by simp[gP]) (by simp[gP]) (by simp; omega) ?_ ?_ ?_ ?_⟩
    ·simp[gP]
    ·simp[gP,n4',n6,hy,my]
    ·simp[gP,n5']
    ·intro j b1 b2 b3; simp[gP,b1,b2,b3]
  ·have e:zGc ⟨pl,pt,ps⟩ dd=⟨0,dd,1⟩:=by
    unfold zGc
    rw[if_neg (by simp[c0,c1])]
    simp only[c2,if_false]
    rw[if_neg (by rw[w1]; omega),w1]
   rw[e] at fin
   have c2':¬pt=dd:=fun e=>c2 e.symm
   simp[g0,g1,g4,hg,hx,hy,hz,hi',hw8,ix,lx',ihx,ihy,ihz,rx,ry,rz,sx,sy,sz,List.set_set,w1,w1',c0,c1,c2',n1,n2,n3,n4,n5,n6,n4',n5',n6',ivI,lenOf,B6,B7]
   subst hQ
   refine .inl ⟨rfl,hi,fin _ (by simp[gP]) (by simp[gP]) (by simp[gP]) (by simp; omega) ?_ ?_ ?_ ?_⟩
   ·simp[gP]
   ·simp[gP,n4',n6]
   ·simp[gP,n5']
   ·intro j b1 b2 b3; simp[gP,b1,b2,b3]
 ·obtain rfl:i=pts.length:=by omega
  generalize hQ:(fun (e:Ex) (s':St)=>_)=Q'
  simp only[D.l18_0b]
  simp[g0,g1,g4,hg,hx,hy,hz,lenOf,B6,B7]
  subst hQ
  exact .inr ⟨nofun,rfl,by simp[gP,g0],by simp[gP,g1],by simp[gP,g4],hg,hx,hy,hz,fr,hn⟩
theorem zBd {d:Nat} {c:List Nat}(hx:X6 H g o a b c occ pts) (hb:PBd pts){dv:DV}(hd:DvA H dv ds) (hdi:∀ id a' b' c',dv=.sl id a' b' c'→id∉g::(o++(a++(b++c)))) (hl:ds.length=pts.length) (hp:pts.length≤1000) (n:Nat) :
  ∃ v H' n',K DG (d+1) 18 [.ptr g 0 0,dv] H n 0=some (v,H',n')∧X6 H' g o a b c occ (stp pts ds pts.length)∧n≤n'∧∀ j,j∉a++(b++c)→H'.get j=H.get j:=by
 suffices key:Fe (K DG (d+1) 18 [.ptr g 0 0,dv] H n 0) (fun v H' n'=>X6 H' g o a b c occ (stp pts ds pts.length)∧n≤n'∧∀ j,j∉a++(b++c)→H'.get j=H.get j) by
  obtain⟨v,H',n',e,h⟩:=key
  exact⟨v,H',n',e,h⟩
 have hrb:=rb3
 have hds:dv.scal=true∧dv.out=true:=by
  rcases hd with⟨w,rfl,hw⟩ | ⟨id,rfl,_⟩
  ·exact⟨hw.scal,rfl⟩
  ·exact⟨rfl,rfl⟩
 rw[kX 18 D.f18 rfl]
 refine zHy rfl ?_
 by_cases h0:pts=[]
 ·subst h0
  have hx0:=hx
  obtain⟨⟨vo,vl,vt,vd,h1,h2,h3,h4,h5⟩,nd⟩:=hx
  have vll:=h3.len
  simp only[List.map_nil,List.length_nil] at vll
  simp[B6,B7]
  refine zGt (N:=0) (zRH (by omega)) (fun i st=>st.T.get 0=some (.ptr g 0 0)∧st.T.get 4=some (.imm (.int .i64 (0:Nat)))∧st.H=H∧n≤st.n) (fun e st'=>e=.exit 0∧st'.H=H∧n≤st'.n) (fun i st hle hI=>?_) ⟨by simp[gP],by simp[gP],rfl,by simp⟩ (fun e s' h=>?_)
  ·obtain⟨g0,g4,hH,hn⟩:=hI
   generalize hQ:(fun (e:Ex) (s':St)=>_)=Q'
   simp only[D.l18_0b]
   simp[g0,g4,hH,h1,vll,B6,B7]
   subst hQ
   exact .inr ⟨nofun,rfl,rfl,hn⟩
  ·obtain⟨rfl,hH,hn⟩:=h
   simp[hH,hn,B6,B7]
   exact hx0
 ·have hnd:=hx.nd
  obtain⟨vo,x,y,z,rfl,rfl,rfl,h1,h2,hx,hy,hz,n1,n2,n3,n4,n5,n6,m1,m2,m3⟩:=hx.rows h0
  simp[B6,B7]
  refine zLd (H0:=H) (n0:=n) (vo:=vo) hb hd (fun id a' b' c' e=>by
   have:=hdi id a' b' c' e
   simp at this
   exact⟨this.2.2.1,this.2.2.2.1,this.2.2.2.2⟩) hl hp n1 n2 n3 n4 n5 n6 ⟨by simp[gP],by simp[gP],by simp[gP],h1,by rw[zRq]; exact hx,by rw[zRq]; exact hy,by rw[zRq]; exact hz,fun j _ _ _=>rfl,by simp⟩ ?_
  rintro s2 ⟨g0,g1,g4,gg,gx,gy,gz,fr,gn⟩
  have h0':stp pts ds pts.length≠[]:=fun e=>by
   have:=congrArg List.length e
   rw[zRn] at this
   exact h0 (List.eq_nil_of_length_eq_zero this)
  simp[B6,B7]
  refine⟨X6.mk' h0' (by rw[zRn]; exact gg) (h2.mono fun i hi=>?_) gx gy gz hnd,gn,fun j b1 b2 b3=>fr j b1 b2 b3⟩
  exact fr i (fun e=>m1 (e▸hi)) (fun e=>m2 (e▸hi)) (fun e=>m3 (e▸hi))
abbrev ln0:List DV:=[.imm (.int .i64 1)]
def LnX (H:PT HB) (f:Nat) (vp:DV) (i:Nat):Prop:=(vp=.imm .nils∧i=0)∨∃ ip,0<i∧f<ip∧vp=.sl ip 0 i i∧H.get ip=some ⟨1,List.replicate i ln0⟩
structure INx (H0:PT HB) (n0:Nat) (l:Lo) (g y z io k N:Nat) (i:Nat) (st:St):Prop where
 b1:Box st 1 l.ivs
 h4:st.T.get 4=some (.ptr g 0 0)
 h5:st.T.get 5=some (.imm (.int .i64 i))
 h:∃ vp,st.H.get g=some ⟨4,[[.sl io 0 k k,vp,.sl y 0 N N,.sl z 0 N N]]⟩∧LnX st.H io vp i∧∀ ip r a c,vp=.sl ip r a c→ip<st.n
 hio:st.H.get io=some ⟨1,List.replicate k [.imm (.bool false)]⟩
 hy:st.H.get y=some ⟨1,List.replicate N [.imm (.int .i64 0)]⟩
 hz:st.H.get z=some ⟨1,List.replicate N [.imm (.int .i64 0)]⟩
 hn:io<st.n
 fr:∀ j,j<n0→st.H.get j=H0.get j
theorem zLD {d:Nat}{l:Lo}(ok:LoOk l) {io k:Nat}(h1:n0≤y) (h2:y<z) (h3:z<g) (h4:g<io) (hN:l.pts.length≤100){ks:List Kf}{st:St}{Q:Ex→St→Prop}(h:INx H0 n0 l g y z io k l.pts.length 0 st)
  (hk:∀ st',INx H0 n0 l g y z io k l.pts.length l.pts.length st'→Bk DG (K DG d) 0 (.exit 0) ks st' Q):Wp DG (K DG d) 0 D.l10_0 ks st Q:=by
 have hrb:=rb3
 have pl:=ok.p.len
 simp only[List.length_map] at pl
 refine zGt (N:=l.pts.length) (zRH (by omega)) (INx H0 n0 l g y z io k l.pts.length) (fun e st'=>e=.exit 0∧INx H0 n0 l g y z io k l.pts.length l.pts.length st') (fun i st hle hI=>?_) h (fun e s' h=>by rw[h.1]; exact hk s' h.2)
 obtain⟨⟨i1,g1,L1⟩,g4,g5,⟨vp,hg,hp,hlt⟩,hio,hy,hz,hn,hfr⟩:=hI
 by_cases hi:i<l.pts.length
 ·have hi':(i:Int)<l.pts.length:=by omega
  have hj':=zI3 hi'
  have hw8:IntKind.i64.wrap ((i:Int)+1)=(i:Int)+1:=zTX hi (by omega)
  have e1:¬g=st.n:=by omega
  have e2:¬io=st.n:=by omega
  have e3:¬g=st.n+1:=by omega
  have e4:¬io=st.n+1:=by omega
  have e5:¬io=g:=by omega
  have y1:¬y=st.n:=by omega
  have y2:¬y=st.n+1:=by omega
  have y3:¬y=g:=by omega
  have z1:¬z=st.n:=by omega
  have z2:¬z=st.n+1:=by omega
  have z3:¬z=g:=by omega
  rcases hp with⟨rfl,h0i⟩ | ⟨ip,hi0,hfi,rfl,hip⟩
  ·have p1:=fun {h:Nat→Option HB}{n y:Nat} hy=>zCS (s:=1) (bytes:=8) (h:=h) (n:=n) (y:=y) (e:=ln0) hy (by omega) (by omega)
   generalize hQ:(fun (e:Ex) (s':St)=>_)=Q'
   simp only[D.l10_0b]
   simp[g1,L1,g4,g5,hg,pl,hj',hw8,p1,e1,e3,imms,zHG,zHH,lay,zPT,B6,B7]
   subst hQ
   subst h0i
   refine .inl ⟨rfl,hi,⟨⟨i1,by simp[gP],by simp[gP,imms]⟩,by simp[gP],by simp[gP],⟨_,by simp[gP],.inr ⟨st.n+1,by omega,by omega,rfl,?_⟩,(fun ip r l c h=>(by cases h; simp))⟩,by simp[gP,hio,e2,e4,e5],by simp[gP,hy,y1,y2,y3],by simp[gP,hz,z1,z2,z3],by simp; omega,fun j hlt=>?_⟩⟩
   ·have:¬st.n+1=g:=by omega
    simp[gP,this]
   ·have a1:¬j=g:=by omega
    have a2:¬j=st.n:=by omega
    have a3:¬j=st.n+1:=by omega
    simp[gP,a1,a2,a3,hfr j hlt]
  ·have hipn:=hlt _ _ _ _ rfl
   have e6:¬ip=st.n:=by omega
   have e7:¬st.n=ip:=by omega
   have e8:¬g=ip:=by omega
   have e9:¬io=ip:=by omega
   have y4:¬y=ip:=by omega
   have z4:¬z=ip:=by omega
   have p1:=fun {h:Nat→Option HB}{n:Nat} hy hx=>zCT (s:=1) (bytes:=8) (h:=h) (n:=n) (y:=st.n) (id:=ip) (e:=ln0) (rows:=List.replicate i ln0) hy hx e7 (by omega) (by omega) (by simp; omega)
   simp only[List.length_replicate] at p1
   generalize hQ:(fun (e:Ex) (s':St)=>_)=Q'
   simp only[D.l10_0b]
   simp[g1,L1,g4,g5,hg,hip,pl,hj',hw8,p1,e1,e3,e6,e8,imms,zHG,zHH,lay,zPT,B6,B7]
   subst hQ
   refine .inl ⟨rfl,hi,⟨⟨i1,by simp[gP],by simp[gP,imms]⟩,by simp[gP],by simp[gP],⟨_,by simp[gP],.inr ⟨st.n+1,by omega,by omega,rfl,?_⟩,(fun ip r l c h=>(by cases h; simp))⟩,by simp[gP,hio,e2,e4,e5,e9],by simp[gP,hy,y1,y2,y3,y4],by simp[gP,hz,z1,z2,z3,z4],by simp; omega,fun j hlt=>?_⟩⟩
   ·have:¬st.n+1=g:=by omega
    simp[gP,this,List.replicate_succ']
   ·have a1:¬j=g:=by omega
    have a2:¬j=st.n:=by omega
    have a3:¬j=st.n+1:=by omega
    have a4:¬j=ip:=by omega
    simp[gP,a1,a2,a3,a4,hfr j hlt]
 ·obtain rfl:i=l.pts.length:=by omega
  generalize hQ:(fun (e:Ex) (s':St)=>_)=Q'
  simp only[D.l10_0b]
  simp[g1,L1,g4,g5,pl,imms,B6,B7]
  subst hQ
  exact .inr ⟨nofun,rfl,⟨⟨i1,by simp[gP,g1],by simp[gP,L1,imms]⟩,by simp[gP,g4],by simp[gP,g5],⟨vp,hg,hp,hlt⟩,hio,hy,hz,hn,hfr⟩⟩
theorem zA9 {d:Nat}{l:Lo}(ok:LoOk l) (is:ISL l) (e4:bl (K DG d) 28 [l.dv]=some (.imm (.bool true))) (H:PT HB) (n:Nat) :
  Fe (K DG (d+1) 10 [l.dv] H n 0) (fun v H' n'=>∃ g o a b c,v=.tup [.ptr g 0 0,.imm (.int .i64 0)]∧X6 H' g o a b c (List.replicate l.secs.length false) (List.replicate l.pts.length ⟨1,0,0⟩)∧
   (∀ i∈g::(o++(a++(b++c))),n≤i∧i<n')∧∀ j,j<n→H'.get j=H.get j):=by
 have sl:=ok.s.len
 have pl:=ok.p.len
 simp only[List.length_map] at sl pl
 have s1:=is.s1
 have s2:=is.s2
 have p2:=is.p2
 have a1:l.secs.length≤zCJ:=by unfold zCJ; omega
 have a2:l.pts.length≤zCJ:=by unfold zCJ; omega
 have a3:l.pts.length*8≤zCJ:=by unfold zCJ; omega
 rw[kX 10 D.f10 rfl]
 refine zHy rfl ?_
 simp[ok.sc,e4,sl,pl,a1,a2,a3,zHG,lay,imms,B6,B7]
 refine zLD (H0:=H) (n0:=n) (g:=n+3) (y:=n+1) (z:=n+2) (io:=n+4) (k:=l.secs.length) ok (by omega) (by omega) (by omega) (by omega) (by omega) ⟨⟨n,by simp[gP],by simp[gP,imms]⟩,by simp[gP],by simp[gP],⟨_,by simp[gP],.inl ⟨rfl,rfl⟩,(fun _ _ _ _ h=>(by cases h))⟩,by simp[gP],by simp[gP],by simp[gP],by simp,fun j hj=>?_⟩ ?_
 ·have b1:¬j=n+1:=by omega
  have b2:¬j=n+2:=by omega
  have b3:¬j=n+3:=by omega
  have b4:¬j=n+4:=by omega
  simp[gP,b1,b2,b3,b4]
 rintro st' ⟨⟨i1,g1,L1⟩,g4,g5,⟨vp,hg,hp,hlt⟩,hio,hy,hz,hn,hfr⟩
 simp[g4,B6,B7]
 have hso:SlV st'.H 1 (.sl (n+4) 0 l.secs.length l.secs.length) ((List.replicate l.secs.length false).map zPH) [n+4]:=by
  have h0:(List.replicate l.secs.length false).map zPH≠[]:=fun e=>by
   have:=congrArg List.length e
   rw[List.length_map,List.length_replicate] at this
   exact absurd this (by show ¬_=0; omega)
  have:=SlV.sl (sz:=1) (H:=st'.H) (id:=n+4) (rows:=(List.replicate l.secs.length false).map zPH) (by rw[hio]; simp[zPH]) h0
  simpa using this
 have hry:Rx st'.H (.sl (n+1) 0 l.pts.length l.pts.length) ((List.replicate l.pts.length (⟨1,0,0⟩:FPt)).map rT) [n+1]:=.inr ⟨n+1,rfl,by simp,by rw[hy]; simp[rT,rowI]⟩
 have hrz:Rx st'.H (.sl (n+2) 0 l.pts.length l.pts.length) ((List.replicate l.pts.length (⟨1,0,0⟩:FPt)).map rS) [n+2]:=.inr ⟨n+2,rfl,by simp,by rw[hz]; simp[rS,rowI]⟩
 rcases hp with⟨rfl,h0⟩ | ⟨ip,hi0,hfi,rfl,hip⟩
 ·refine⟨[n+4],[],[n+1],[n+2],⟨⟨_,_,_,_,hg,hso,?_,hry,hrz⟩,by simp⟩,?_,hfr⟩
  ·rw[h0]; exact .nil
  ·simp; omega
 ·have hipn:=hlt _ _ _ _ rfl
  refine⟨[n+4],[ip],[n+1],[n+2],⟨⟨_,_,_,_,hg,hso,?_,hry,hrz⟩,by simp; omega⟩,?_,hfr⟩
  ·have h0:(List.replicate l.pts.length (⟨1,0,0⟩:FPt)).map rL≠[]:=fun e=>by
    have:=congrArg List.length e
    rw[List.length_map,List.length_replicate] at this
    exact absurd this (by show ¬_=0; omega)
   have:=SlV.sl (sz:=1) (H:=st'.H) (id:=ip) (rows:=(List.replicate l.pts.length (⟨1,0,0⟩:FPt)).map rL) (by rw[hip]; simp[rL,rowI]) h0
   simpa using this
  ·simp; omega
def en (l:Lo) (s:Int) (i:Nat):List Int:=((List.range i).filter fun r=>decide ((nth l.rts r).fr=s)).map fun r:Nat=>(r:Int)
theorem zG2 {l:Lo}{s:Int}{i:Nat}(h:(nth l.rts i).fr=s):en l s (i+1)=en l s i++[(i:Int)]:=by simp[en,List.range_succ,List.filter_append,h]
theorem zG5 {l:Lo}{s:Int}{i:Nat}(h:¬(nth l.rts i).fr=s):en l s (i+1)=en l s i:=by simp[en,List.range_succ,List.filter_append,h]
theorem zG3 {l:Lo}{s:Int}{i:Nat}:(en l s i).length≤i:=by
 simp only[en,List.length_map]
 exact Nat.le_trans (List.length_filter_le ..) (by simp)
def IE4 (l:Lo) (s:Int) (i:Nat) (st:St):Prop:=∃ x,st.T.get 1=some (.imm (.int .i64 s))∧Box st 2 l.ivs∧st.T.get 5=some x∧st.T.get 6=some (.imm (.int .i64 i))∧AtS 1 x st.H st.n ((en l s i).map ivI)
theorem zKm {d:Nat}{l:Lo}(ok:LoOk l) (h6:l.rts.length≤1000){s:Int}{ks:List Kf}{st:St}{Q:Ex→St→Prop}(h:IE4 l s 0 st)
  (hk:∀ st',IE4 l s l.rts.length st'→Bk DG (K DG d) 0 (.exit 0) ks st' Q):Wp DG (K DG d) 0 D.l143_0 ks st Q:=by
 refine zGt (N:=l.rts.length) (zRH ok.lr) (IE4 l s) (fun e st'=>e=.exit 0∧IE4 l s l.rts.length st') (fun i st hle hI=>?_) h (fun e s' h=>by rw[h.1]; exact hk s' h.2)
 obtain⟨x,h1,⟨id,h2,hL⟩,h5,h6',hat⟩:=hI
 have rl:=ok.r.len
 simp only[List.length_map] at rl
 by_cases hi:i<l.rts.length
 ·have hi':(i:Int)<l.rts.length:=by omega
  have hj':=zI3 hi'
  have hw8:IntKind.i64.wrap ((i:Int)+1)=(i:Int)+1:=zTX hi ok.lr
  have ix:=zIu ok.r hi'
  obtain⟨x',hw,acc,p1,p2,_⟩:=zCb (bytes:=8) hat (by omega) (by have:=@zG3 l s i; simp; omega) (by omega) (ivI (i:Int))
  have e1:=@zG2 l s i
  have e2:=@zG5 l s i
  simp only[ivI] at p1
  generalize hQ:(fun (e:Ex) (s':St)=>_)=Q'
  simp only[D.l143_0b]
  simp +contextual (maxSteps:=2000000) [h1,h2,h5,h6',hL,rl,hj',hw8,ix,p1,ivRt,zHG,zHH,lay,zS4,zS2,mapO,zPT,B6,B7]
  subst hQ
  refine⟨fun a=>.inl ⟨rfl,hi,x',by simp[gP,a],⟨id,by simp[gP],by simp[gP,imms]⟩,by simp[gP],by simp[gP],?_⟩,fun a=>.inl ⟨rfl,hi,x,by simp[gP],⟨id,by simp[gP],by simp[gP,imms]⟩,by simp[gP],by simp[gP],?_⟩⟩
  ·rw[e1 a]; simpa using p2
  ·rw[e2 a]; exact hat
 ·obtain rfl:i=l.rts.length:=by omega
  generalize hQ:(fun (e:Ex) (s':St)=>_)=Q'
  simp only[D.l143_0b]
  simp[h1,h2,h5,h6',hL,rl,B6,B7]
  subst hQ
  exact .inr ⟨nofun,rfl,x,by simp[gP],⟨id,by simp[gP,h2],by simp[gP,hL,imms]⟩,by simp[gP],by simp[gP],hat⟩
theorem zAg {D:Nat}(hD:1≤D){l:Lo}(ok:LoOk l) (h6:l.rts.length≤1000) (s:Int) :
  ∃ v,bl (K DG D) 143 [l.dv,.imm (.int .i64 s)]=some (.imm v)∧Sl 1 v ((en l s l.rts.length).map ivI):=by
 obtain⟨d,rfl⟩:∃ d,D=d+1:=⟨D - 1,by omega⟩
 have key:Fe (K DG (d+1) 143 [l.dv,.imm (.int .i64 s)] .lf 0 0) (fun x H n=>AtS 1 x H n ((en l s l.rts.length).map ivI)):=by
  rw[kX 143 D.f143 rfl]
  refine zHy rfl ?_
  simp[ok.sc,B6,B7]
  refine zKm (l:=l) (s:=s) ok h6 ⟨_,by simp[gP],⟨0,by simp[gP],by simp[gP,imms]⟩,by simp[gP],by simp[gP],.inl ⟨rfl,by simp[en]⟩⟩ ?_
  rintro st' ⟨x,g1,⟨id,g2,gL⟩,g5,g6,gat⟩
  simp[g5,gat.out,B6,B7]
  exact gat
 obtain⟨x,H,n,e,hat⟩:=key
 obtain⟨v,e2,hv⟩:=zIE hat
 exact⟨v,zDf e e2,hv⟩
variable {path:List Int}
theorem zA0 {pts:List Pt}{xs:List Need}{w:Bool}(h:NE pts xs path w):∀ {i j:Nat},i<j→j<xs.length→(nth xs i).pt<(nth xs j).pt:=by
 intro i j
 induction j with
 | zero=>intro h0; omega
 | succ j ih=>
  intro hi hj
  have h1:=(h (j+1) hj).2.1 (by omega)
  simp only[Nat.add_sub_cancel] at h1
  by_cases e:i=j
  ·subst e; exact h1
  ·have:=ih (by omega) (by omega)
   omega
theorem zA3 {pts:List Pt}{xs:List Need}{w:Bool}(h:NE pts xs path w){x y:Need}(hx:x∈xs) (hy:y∈xs) (e:x.pt=y.pt):x=y:=by
 obtain⟨i,hi,rfl⟩:=zL2 hx
 obtain⟨j,hj,rfl⟩:=zL2 hy
 rcases Nat.lt_trichotomy i j with q | rfl | q
 ·have:=zA0 h q hj; omega
 ·rfl
 ·have:=zA0 h q hi; omega
theorem zA2 {pts:List Pt}{xs:List Need}{w:Bool}(h:NE pts xs path w){x:Need}(hx:x∈xs):(nth pts x.pt.toNat).sec∈path↔w=true:=by
 obtain⟨i,hi,rfl⟩:=zL2 hx
 exact (h i hi).2.2
theorem zMH {l:Lo}{r:Rt}(rt:RT l r){x y:Need}(hx:x∈nd r) (hy:y∈nd r) (e:x.pt=y.pt):x=y:=by
 have cross:∀ {x y:Need},x∈r.pts→y∈r.flk→x.pt=y.pt→False:=fun h1 h2 e=>by
  have a:=(zA2 rt.np h1).2 rfl
  rw[e] at a
  have:=(zA2 rt.nf h2).1 a
  cases this
 rcases List.mem_append.1 hx with h1 | h1 <;> rcases List.mem_append.1 hy with h2 | h2
 ·exact zA3 rt.np h1 h2 e
 ·exact (cross h1 h2 e).elim
 ·exact (cross h2 h1 e.symm).elim
 ·exact zA3 rt.nf h1 h2 e
theorem zG4 {l:Lo}{s:Int}{z:Int}:z∈en l s l.rts.length↔∃ r:Nat,r<l.rts.length∧(nth l.rts r).fr=s∧z=(r:Int):=by
 unfold en
 simp only[List.mem_map,List.mem_filter,List.mem_range,decide_eq_true_eq]
 constructor
 ·rintro⟨r,⟨h1,h2⟩,rfl⟩
  exact⟨r,h1,h2,rfl⟩
 ·rintro⟨r,h1,h2,rfl⟩
  exact⟨r,⟨h1,h2⟩,rfl⟩
theorem zN5 (x:Need):pos x=1∨pos x=2:=by
 unfold pos
 split
 ·exact .inr rfl
 ·exact .inl rfl
structure Told (l:Lo) (qs:List Rst) (os:List Bool) (ls:List Int) (zs:List Int) (bs:List Bool):Prop where
 zl:zs.length=l.pts.length
 bl:bs.length=l.sigs.length
 dr:∀ q,q<l.pts.length→nth zs q=0∨(MI l os ls∧INV l qs∧DrAt l qs os ls q (nth zs q))
 pr:∀ s,s<l.sigs.length→nth bs s=true→(MI l os ls∧INV l qs∧PrAt l qs os ls s)
theorem Told.none {l:Lo}{qs:List Rst}{os:List Bool}{ls:List Int}:Told l qs os ls (List.replicate l.pts.length 0) (List.replicate l.sigs.length false):=
 ⟨by simp,by simp,fun q hq=>.inl (by simp[nth,hq]),fun s hs h=>by simp[nth,hs] at h⟩
variable {bs:List Bool}
theorem Told.rng {l:Lo}{qs:List Rst}{os:List Bool}{ls:List Int}{zs:List Int}(h:Told l qs os ls zs bs):∀ z∈zs,0≤z∧z≤2:=fun z hz=>by
 obtain⟨q,hq,rfl⟩:=zL2 hz
 rcases h.dr q (by rw[← h.zl]; exact hq) with e | ⟨_,_,r,x,_,_,_,_,e,_⟩
 ·omega
 ·have:=zN5 x
  omega
theorem Told.cyc {l:Lo}(is:ISL l)(inv:INV l rs){os:List Bool}{ls:List Int}:Told l (cycF l rs os ls).1 os ls (cycF l rs os ls).2.1 (cycF l rs os ls).2.2:=by
 unfold cycF
 by_cases mi:MI l os ls
 ·rw[zFd mi]
  have iq:=inv.stp is (os:=os) (ls:=ls)
  have d:=zGV is (rs:=stpF l os ls rs) (os:=os) (ls:=ls)
  have p:=zN8 is (rs:=stpF l os ls rs) (os:=os) (ls:=ls)
  exact⟨d.1,p.1,fun q hq=>(d.2 q hq).imp id fun h=>⟨mi,iq,h⟩,fun s hs h=>⟨mi,iq,p.2 s hs h⟩⟩
 ·rw[zFX mi]
  exact Told.none
theorem Told.held {l:Lo}(is:ISL l){qs:List Rst}{os:List Bool}{ls:List Int}{zs:List Int}(h:Told l qs os ls zs bs){q:Nat}(hq:q<l.pts.length) (hd:¬nth zs q=0)(hi:i<l.rts.length){z:Int}(hz:(z=0∧∀ x∈nd (nth l.rts i),¬x.pt=(q:Int))∨∃ x∈nd (nth l.rts i),x.pt=(q:Int)∧z=pos x) :
  (((nth qs i).mode=2∨(nth qs i).mode=3∨(nth qs i).mode=4)→z=0∨z=nth zs q)∧((nth l.pts q).sec∈hld l qs i→z=nth zs q):=by
 obtain⟨mi,inv,r,x,hr,hm,hx,hxq,e,hl,ho,hh⟩:=(h.dr q hq).resolve_left hd
 refine⟨fun m=>?_,fun m=>?_⟩
 ·rcases hz with⟨rfl,_⟩ | ⟨y,hy,hyq,rfl⟩
  ·exact .inl rfl
  ·right
   refine Classical.byContradiction fun hn=>?_
   have hri:r≠i:=fun e=>by rw[e] at hm; omega
   refine inv.nc r i hr hi hri (by omega) (by omega) (.inr (.inr (.inr ⟨x,hx,?_⟩)))
   have:(⟨x.pt,!x.rev⟩:Need)=y:=by
    obtain⟨yp,yr⟩:=y
    simp only at hyq
    subst hyq
    rw[hxq]
    congr 1
    rw[e] at hn
    unfold pos at hn
    cases hxr:x.rev <;> cases yr <;> simp[hxr] at hn ⊢
   rw[this]
   exact hy
 ·have hir:i=r:=by
   rcases hh with h0 | h0
   ·exact absurd m (zIo.1 h0 i hi)
   ·exact inv.apart hi hr m (zIn h0)
  subst hir
  rcases hz with⟨rfl,hn⟩ | ⟨y,hy,hyq,rfl⟩
  ·exact absurd hxq (hn x hx)
  ·rw[zMH (is.rr i hr) hy hx (by omega),e]
theorem zSl {l:Lo} {P:Nat}(h:Any l A c H n P t s) (is:ISL l) (es:List EV) (pi5:PI A 0 (cy5 A s es)):Told l (if (cycS A s es).r.con=1 then ((cycS A s es).u 1).rs else ((cycS A s es).u 0).rs) (cy5 A s es).occ ((cy5 A s es).pts.map (·.l)) (cyO A s es).1 (cyO A s es).2∧((cycS A s es).r.con=(cy5 A s es).r.con)∧(cyO A s es≠(List.replicate l.pts.length 0,List.replicate l.sigs.length false)→(cycS A s es).r.con=0∨(cycS A s es).r.con=1):=by
 have eq:=h.eq
 have con:(cycS A s es).r.con=(cy5 A s es).r.con:=by
  show (zQd (cy7 A s es) 2).r.con=_
  have:(zQd (cy7 A s es) 2).r=(cy7 A s es).r:=by
   have:∀ (s:PS) (i:Nat) (bs:List UInt8),(zQh s i bs).r=s.r:=fun s i bs=>by
    unfold zQh
    split <;> rfl
   unfold zQd
   rw[if_neg (by omega),if_neg (by omega)]
   exact (this _ _ _).trans (this _ _ _)
  rw[this]
  show (zSQ A (cy5 A s es) es 2).r.con=_
  rw[(zSR A (cy5 A s es) es 2).1]
 have us:∀ i,i<2→(cycS A s es).u i=(cyI A (cy5 A s es) es i).1:=fun i hi=>by
  show (zQd (cy7 A s es) 2).u i=_
  rw[(zQe _ _).1]
  show (zSQ A (cy5 A s es) es 2).u i=_
  obtain rfl | rfl:i=0∨i=1:=by omega
  ·simp[zSQ,setU,upF]
  ·simp[zSQ,setU,upF]
 have key:∀ i:Nat,i<2→(cy5 A s es).r.con=(i:Int)→Told l ((cyI A (cy5 A s es) es i).1).rs (cy5 A s es).occ ((cy5 A s es).pts.map (·.l)) (cyI A (cy5 A s es) es i).2.1 (cyI A (cy5 A s es) es i).2.2:=fun i hi hc=>by
  have e:=eq.1 i hi
  have uo:=pi5.uo i hi
  have inv:INV l ((cy5 A s es).u i).rs:=e.inv uo.inv
  have np:(A.l i).pts.length=l.pts.length:=by rw[e.pts]
  have ng:(A.l i).sigs.length=l.sigs.length:=by rw[e.sigs]
  unfold cyI
  rw[hc,decide_eq_true rfl]
  unfold zFN
  split
  ·split
   ·unfold cyF
    simp only[if_true]
    have cm:zEf (A.l i) (cy5 A s es).occ ((cy5 A s es).pts.map (·.l)) (setC ((cy5 A s es).u i) (incC ((cy5 A s es).u i).count)).rs (cmF es)=zEf l (cy5 A s es).occ ((cy5 A s es).pts.map (·.l)) ((cy5 A s es).u i).rs (cmF es):=by
     unfold zEf
     congr 1
     funext r c
     rw[e.cmd]
    rw[cm,e.cyc]
    exact Told.cyc is (INV.cmds _ inv)
   ·simp only
    rw[np,ng]
    exact Told.none
  ·simp only
   rw[np,ng]
   exact Told.none
 refine⟨?_,con,fun hne=>?_⟩
 ·rw[con]
  unfold cyO outI
  by_cases h0:(cy5 A s es).r.con=0
  ·rw[if_neg (show ¬(cy5 A s es).r.con=1 by omega),if_pos (show (cy5 A s es).r.con=0∧1≤2 from ⟨h0,by omega⟩),us 0 (by omega)]
   exact key 0 (by omega) h0
  ·rw[if_neg (show ¬((cy5 A s es).r.con=0∧1≤2) from fun q=>h0 q.1)]
   by_cases h1:(cy5 A s es).r.con=1
   ·rw[if_pos h1,if_pos (show (cy5 A s es).r.con=1∧2≤2 from ⟨h1,by omega⟩),us 1 (by omega)]
    exact key 1 (by omega) h1
   ·rw[if_neg h1,if_neg (show ¬((cy5 A s es).r.con=1∧2≤2) from fun q=>h1 q.1),eq.2.pts,eq.2.sigs]
    exact Told.none
 ·rw[con]
  refine Classical.byContradiction fun hn=>hne ?_
  unfold cyO outI
  rw[if_neg (show ¬((cy5 A s es).r.con=0∧1≤2) from fun q=>hn (.inl q.1)),if_neg (show ¬((cy5 A s es).r.con=1∧2≤2) from fun q=>hn (.inr q.1)),eq.2.pts,eq.2.sigs]
theorem PI'.haps {A:PLc}{k:Int}{b:Nat}:∀ (es:List EV){s:PS},PI' A k s b→PI' A k (zIc A s es) b
 | [],s,h=>h
 | e::es,s,h=>PI'.haps es (s:=hapF A s e) (h.hap e)
theorem PI.cy5(h:PI A 0 s) (ht:s.now+1≤100000) (es:List EV):PI A 0 (cy5 A s es):=by
 have h3:=PI'.haps es (h.beg ht)
 have h4:=((h3.th es (by omega)).th es (i:=1) (by omega)).full
 have h5:=PI.ylds es h4
 have hf:fstN (s.now+1)≤1:=by unfold fstN; omega
 have i0:oIx (fstN (s.now+1)) 0<2:=by unfold oIx; split <;> omega
 have i1:oIx (fstN (s.now+1)) 1<2:=by unfold oIx; split <;> omega
 exact (h5.ask (by omega) i0 _).ask (by omega) i1 _
theorem zIe {A:PLc}:∀ (es:List EV){s:PS},((zIc A s es).occ,(zIc A s es).pts)=fldF (s.occ,s.pts) es
 | [],s=>rfl
 | e::es,s=>by
  have he:((hapF A s e).occ,(hapF A s e).pts)=zHr (s.occ,s.pts) e:=by
   unfold hapF zHr
   by_cases k1:e.k=1
   ·rw[if_pos k1,if_neg (show ¬e.k=7 by omega),if_neg (show ¬e.k=10 by omega)]
    split <;> rfl
   ·rw[if_neg k1]
    by_cases k2:e.k=2
    ·rw[if_pos k2,if_neg (show ¬e.k=7 by omega),if_neg (show ¬e.k=10 by omega)]
     split <;> rfl
    ·rw[if_neg k2]
     split
     ·rfl
     ·split <;> rfl
  have:=zIe (A:=A) es (s:=hapF A s e)
  rw[he] at this
  exact this
theorem zTg {A:PLc}:∀ (es:List EV){s:PS},(zTi A s es).occ=s.occ∧(zTi A s es).pts=s.pts
 | [],s=>⟨rfl,rfl⟩
 | e::es,s=>by
  have he:(yldF A s e).occ=s.occ∧(yldF A s e).pts=s.pts:=by
   unfold yldF
   split <;> exact⟨rfl,rfl⟩
  have:=zTg (A:=A) es (s:=yldF A s e)
  exact⟨this.1.trans he.1,this.2.trans he.2⟩
theorem zCq (A:PLc) (s:PS) (i:Nat) (b:Bool):(askF A s i b).occ=s.occ∧(askF A s i b).pts=s.pts:=by
 unfold askF
 repeat' split
 all_goals exact⟨rfl,rfl⟩
theorem zFK (A:PLc) (s:PS) (es:List EV):((cy5 A s es).occ,(cy5 A s es).pts)=fldF (s.occ,s.pts) es:=by
 have h1:=zCq A (askF A (zTi A (cy3 A s es) es) (oIx (fstN (s.now+1)) 0) (dec (Has es 4 (oIx (fstN (s.now+1)) 0:Nat)))) (oIx (fstN (s.now+1)) 1) (dec (Has es 4 (oIx (fstN (s.now+1)) 1:Nat)))
 have h2:=zCq A (zTi A (cy3 A s es) es) (oIx (fstN (s.now+1)) 0) (dec (Has es 4 (oIx (fstN (s.now+1)) 0:Nat)))
 have h3:=zTg (A:=A) es (s:=cy3 A s es)
 have h4:=zIe (A:=A) es (s:=begS s)
 rw[← show ((cy3 A s es).occ,(cy3 A s es).pts)=fldF (s.occ,s.pts) es from h4]
 show ((askF A (askF A (zTi A (cy3 A s es) es) (oIx (fstN (s.now+1)) 0) _) (oIx (fstN (s.now+1)) 1) _).occ,(askF A (askF A (zTi A (cy3 A s es) es) (oIx (fstN (s.now+1)) 0) _) (oIx (fstN (s.now+1)) 1) _).pts)=_
 rw[h1.1,h1.2,h2.1,h2.2,h3.1,h3.2]
theorem zFL (A:PLc) (s:PS) (es:List EV):(cycS A s es).occ=(cy5 A s es).occ∧(cycS A s es).pts=stp (cy5 A s es).pts (cyO A s es).1 (cy5 A s es).pts.length:=by
 have so:(zQd (cy7 A s es) 2).occ=(cy7 A s es).occ∧(zQd (cy7 A s es) 2).pts=(cy7 A s es).pts:=by
  have:∀ (s:PS) (i:Nat) (bs:List UInt8),(zQh s i bs).occ=s.occ∧(zQh s i bs).pts=s.pts:=fun s i bs=>by
   unfold zQh
   split <;> exact⟨rfl,rfl⟩
  unfold zQd
  rw[if_neg (by omega),if_neg (by omega)]
  exact⟨(this _ _ _).1.trans (this _ _ _).1,(this _ _ _).2.trans (this _ _ _).2⟩
 exact⟨so.1,so.2⟩
structure FI (l:Lo) (occ:List Bool) (pts:List FPt):Prop where
 ol:occ.length=l.secs.length
 pl:pts.length=l.pts.length
 pb:∀ p∈pts,(0≤p.l∧p.l≤2)∧0≤p.s∧p.s≤2
theorem FI.new {l:Lo}:FI l (newP l).occ (newP l).pts:=⟨by simp[newP],by simp[newP],fun p hp=>by
 simp only[newP,List.mem_replicate] at hp
 rw[hp.2]
 simp⟩
theorem FI.step {l:Lo}{f:List Bool×List FPt}(h:FI l f.1 f.2) (e:EV):FI l (zHr f e).1 (zHr f e).2:=by
 unfold zHr
 split
 ·exact⟨by rw[zSo]; exact h.ol,h.pl,h.pb⟩
 ·split
  ·refine⟨h.ol,by rw[zRg]; exact h.pl,fun p hp=>?_⟩
   simp only[zRf] at hp
   split at hp
   ·rcases List.mem_or_eq_of_mem_set hp with hp | rfl
    ·exact h.pb p hp
    ·simp
   ·exact h.pb p hp
  ·exact h
theorem FI.fld {l:Lo}:∀ (es:List EV){f:List Bool×List FPt},FI l f.1 f.2→FI l (fldF f es).1 (fldF f es).2
 | [],f,h=>h
 | e::es,f,h=>FI.fld es (f:=zHr f e) (h.step e)
theorem FI.stp {l:Lo}(h:FI l occ pts)(hd:∀ z∈ds,0≤z∧z≤2) (i:Nat):FI l occ (stp pts ds i):=by
 refine⟨h.ol,by rw[zRn]; exact h.pl,fun p hp=>?_⟩
 obtain⟨j,hj⟩:=List.getElem?_of_mem hp
 simp only[D.stp,List.getElem?_mapIdx,Option.map_eq_some_iff] at hj
 obtain⟨q,hq,rfl⟩:=hj
 have hm:=h.pb q (List.mem_of_getElem? hq)
 split
 ·split
  ·rename_i d hdj
   have dm:=hd d (List.mem_of_getElem? hdj)
   refine⟨?_,zGj hm.2 d⟩
   unfold zGc
   split
   ·exact hm.1
   ·repeat' split
    all_goals first | exact dm | simp
  ·exact hm
 ·exact hm
theorem FI.mi {l:Lo}(h:FI l occ pts):MI l occ (pts.map (·.l)):=by
 refine⟨h.ol,by simpa using h.pl,?_⟩
 rintro⟨z,hz,hn⟩
 obtain⟨p,hp,rfl⟩:=List.mem_map.1 hz
 have:=(h.pb p hp).1
 omega
variable {lo:Nat}
theorem zCO {sz bytes:Nat} {id:Nat}{rows:List (List DV)}(hh:h id=some ⟨sz,rows⟩) (he:rows≠[]) (hs:0<sz) (hl:rows.length≤100000) (hb:bytes≤100) :
  zCK h n lo sz bytes (.imm (.lst true sz [])) (.sl id 0 rows.length rows.length)=some { v:=.sl n 0 rows.length rows.length,hw:=[(n,some ⟨sz,rows⟩)],n':=n+1,acc:=[.wX n,.rX id] }:=by
 have a1:rows.length≤zCJ:=by unfold zCJ; omega
 have a2:rows.length*bytes≤zCJ:=by
  have:=Nat.mul_le_mul hl hb
  unfold zCJ; omega
 simp[zCK,zRS,zPV,hh,he,hs,a1,a2,zOS]
theorem zAL {d:Nat} {vl:DV}(ho:SlV H 1 vo (occ.map zPH) o) (hp:SlV H 1 vl (pts.map rL) a) (ol:occ.length≤1000) (pl:pts.length≤1000)(hm:∀ j∈o++a,j<m) :
  ∃ A B k,zDz (K DG (d+1)) .ro 44 [.agg [vo,vl]] H m lo=some ⟨.agg [.imm A,.imm B],H,k,[.rA]⟩∧m≤k∧InOk A B occ (pts.map (·.l)):=by
 have hrb:=rb3
 have sc:∀ {v rows ids},SlV H 1 v rows ids→v.scal=true∧v.out=true:=fun h=>by cases h <;> exact⟨rfl,rfl⟩
 have s1:=sc ho
 have s2:=sc hp
 have rb:occ.map zPH=(occ.map ivB).map imms:=zPI occ
 have rl:pts.map rL=((pts.map (·.l)).map ivI).map imms:=by
  rw[← zPJ]
  simp[rL,Function.comp_def]
 have key:Fe (K DG (d+1) 44 [.agg [vo,vl]] H m m) (fun v' H' n'=>m≤n'∧∃ A B,frz H'.get m v'=some (.agg [.imm A,.imm B])∧Sl 1 A (occ.map ivB)∧Sl 1 B ((pts.map (·.l)).map ivI)):=by
  have fz:∀ {H':PT HB}{id k:Nat}{es:List (List IV)},H'.get id=some ⟨1,es.map imms⟩→es.length=k→m≤id→frz H'.get m (.sl id 0 k k)=some (.imm (.lst false 1 es)):=fun h1 h2 h3=>zIH h1 h2 h3
  have fn:∀ {H':PT HB}{v:IV},frz H'.get m (.imm v)=some (.imm v):=fun {H' v}=>rfl
  have fin:∀ {H':PT HB}{x y:DV}{A B:IV},frz H'.get m x=some (.imm A)→frz H'.get m y=some (.imm B)→frz H'.get m (.agg [x,y])=some (.agg [.imm A,.imm B]):=fun h1 h2=>by
   show (frz.frzs _ m _).map DV.agg=_
   simp only[frz.frzs,h1,h2]
   rfl
  generalize hP:(fun (v':DV) (H':PT HB) (n':Nat)=>_∧_)=Post
  rw[kX 44 D.f44 rfl]
  refine zHy rfl ?_
  generalize hR1:occ.map zPH=R1 at ho rb
  generalize hR2:pts.map rL=R2 at hp rl
  have l1:R1.length=occ.length:=by rw[← hR1]; simp
  have l2:R2.length=pts.length:=by rw[← hR2]; simp
  cases ho with
  | nil=>
   have e1:occ.map ivB=[]:=by
    have:=l1.symm
    simp at this
    simp[this]
   have p1:∀ {h:Nat→Option HB}{n:Nat},zCK h n m 1 1 (.imm (.lst true 1 [])) (.imm .nils)=some { v:=.imm (.lst true 1 []),n':=n,acc:=[] }:=fun {h n}=>by simp[zCK,zRS,zPV,zOS]
   cases hp with
   | nil=>
    have e2:(pts.map (·.l)).map ivI=[]:=by
     have:=l2.symm
     simp at this
     simp[this]
    have p2:∀ {h:Nat→Option HB}{n:Nat},zCK h n m 1 8 (.imm (.lst true 1 [])) (.imm .nils)=some { v:=.imm (.lst true 1 []),n':=n,acc:=[] }:=fun {h n}=>by simp[zCK,zRS,zPV,zOS]
    simp[p1,p2,zHG,zHH,lay,zS4,zS2,mapO,zPT,B6,B7]
    subst hP
    exact⟨by first | omega | (simp; omega),_,_,fin fn fn,.inr ⟨true,by rw[e1]⟩,.inr ⟨true,by rw[e2]⟩⟩
   | sl h2 n2=>
    rename_i i2
    have p2:=fun {h:Nat→Option HB}{n:Nat} hh=>zCO (sz:=1) (h:=h) (n:=n) (id:=i2) (lo:=m) (bytes:=8) hh n2 (by omega) (by omega) (by omega)
    simp[p1,p2,h2,zHG,zHH,lay,zS4,zS2,mapO,zPT,B6,B7]
    subst hP
    exact⟨by first | omega | (simp; omega),_,_,fin fn (fz (es:=(pts.map (·.l)).map ivI) (by rw[← rl]; simp[gP]) (by simp[l2]) (by omega)),.inr ⟨true,by rw[e1]⟩,.inr ⟨false,rfl⟩⟩
  | sl h1 n1=>
   rename_i i1
   have g1:=hm i1 (by simp)
   have p1:=fun {h:Nat→Option HB}{n:Nat} hh=>zCO (sz:=1) (h:=h) (n:=n) (id:=i1) (lo:=m) (bytes:=1) hh n1 (by omega) (by omega) (by omega)
   cases hp with
   | nil=>
    have e2:(pts.map (·.l)).map ivI=[]:=by
     have:=l2.symm
     simp at this
     simp[this]
    have p2:∀ {h:Nat→Option HB}{n:Nat},zCK h n m 1 8 (.imm (.lst true 1 [])) (.imm .nils)=some { v:=.imm (.lst true 1 []),n':=n,acc:=[] }:=fun {h n}=>by simp[zCK,zRS,zPV,zOS]
    simp[p1,p2,h1,zHG,zHH,lay,zS4,zS2,mapO,zPT,B6,B7]
    subst hP
    exact⟨by first | omega | (simp; omega),_,_,fin (fz (es:=occ.map ivB) (by rw[← rb]; simp[gP]) (by simp[l1]) (by omega)) fn,.inr ⟨false,rfl⟩,.inr ⟨true,by rw[e2]⟩⟩
   | sl h2 n2=>
    rename_i i2
    have g2:=hm i2 (by simp)
    have p2:=fun {h:Nat→Option HB}{n:Nat} hh=>zCO (sz:=1) (h:=h) (n:=n) (id:=i2) (lo:=m) (bytes:=8) hh n2 (by omega) (by omega) (by omega)
    have b1:¬i2=m+1+1:=by omega
    have b2:¬i2=m+1+1+1:=by omega
    simp[p1,p2,h1,h2,b1,b2,zHG,zHH,lay,zS4,zS2,mapO,zPT,B6,B7]
    subst hP
    exact⟨by first | omega | (simp; omega),_,_,fin (fz (es:=occ.map ivB) (by rw[← rb]; simp[gP]) (by simp[l1]) (by omega)) (fz (es:=(pts.map (·.l)).map ivI) (by rw[← rl]; simp[gP]) (by simp[l2]) (by omega)),.inr ⟨false,rfl⟩,.inr ⟨false,rfl⟩⟩
 obtain⟨v',H',n',e,hn,A,B,hz,sA,sB⟩:=key
 refine⟨A,B,n',?_,hn,sA,sB,by omega,by simp; omega⟩
 rw[zD3,if_pos (by simp[DV.out.outs,DV.out,s1.2,s2.2]),e]
 simp only[hz]
 rfl
def gids (g:Nat) (o a b c:List Nat):List Nat:=g::(o++(a++(b++c)))
structure IFe (g:Nat) (o a b c:List Nat) (v:IV) (H0:PT HB) (n0:Nat) (f0:List Bool×List FPt) (es:List EV) (i:Nat) (st:St):Prop where
 c0:st.T.get 0=some (.ptr g 0 0)
 c1:st.T.get 1=some (.imm v)
 b4:BoxD st 4 [.imm .nils,.imm .nils]
 c5:st.T.get 5=some (.imm (.int .i64 (i:Int)))
 x:X6 st.H g o a b c (fldF f0 (es.take i)).1 (fldF f0 (es.take i)).2
 fr:∀ j,j∉gids g o a b c→st.H.get j=H0.get j
 hn:n0≤st.n
theorem zHq {f:List Bool×List FPt}(hi:i<es.length):fldF f (es.take (i+1))=zHr (fldF f (es.take i)) (nth es i):=by
 rw[List.take_add_one,List.getElem?_eq_getElem hi]
 unfold fldF
 rw[List.foldl_append]
 simp[nth,List.getD_eq_getElem?_getD,List.getElem?_eq_getElem hi]
theorem zHp {f:List Bool×List FPt}(es:List EV) (h:f.1≠[]):(fldF f es).1≠[]:=by
 have key:∀ (es:List EV) (f:List Bool×List FPt),(fldF f es).1.length=f.1.length:=by
  intro es
  induction es with
  | nil=>intro f; rfl
  | cons e es ih=>
   intro f
   have:=ih (zHr f e)
   refine Eq.trans this ?_
   unfold zHr
   split
   ·exact zSo _ _
   ·split <;> rfl
 intro e
 have:=key es f
 rw[e] at this
 exact h (List.length_eq_zero_iff.1 this.symm)
theorem zSm {d:Nat} {c:List Nat}(hx:X6 H g o a b c occ pts) (h0:occ≠[]) (k:Int) (n:Nat) :
  ∃ v H',K DG (d+1) 42 [.ptr g 0 0,.imm (.int .i64 k)] H n 0=some (v,H',n)∧(∀ j,j∉gids g o a b c→H'.get j=H.get j)∧X6 H' g o a b c (zSn occ k) pts:=by
 obtain⟨v,H',n',e,rfl,f,hc⟩:=zBk (d:=d) hx h0 k n
 refine⟨v,H',e,fun j hj=>f j (fun q=>hj (by simp[gids,q])),?_⟩
 rcases hc with⟨g1,_,g2⟩ | ⟨g1,_,g2⟩
 ·unfold zSn; rw[if_pos g1]; exact g2
 ·unfold zSn; rw[if_neg g1]; exact g2
theorem zRe {d:Nat} {c:List Nat}(hx:X6 H g o a b c occ pts) (k:Int) (n:Nat) :
  ∃ v H',K DG (d+1) 43 [.ptr g 0 0,.imm (.int .i64 k)] H n 0=some (v,H',n)∧(∀ j,j∉gids g o a b c→H'.get j=H.get j)∧X6 H' g o a b c occ (zRf pts k):=by
 obtain⟨v,H',n',e,rfl,f,hc⟩:=zBe (d:=d) hx k n
 refine⟨v,H',e,fun j hj=>f j (fun q=>hj (by simp[gids] at q ⊢; rcases q with q | q | q <;> simp[q])),?_⟩
 rcases hc with⟨g1,_,g2⟩ | ⟨g1,_,g2⟩
 ·unfold zRf; rw[if_pos g1]; exact g2
 ·unfold zRf; rw[if_neg g1]; exact g2
theorem zKp {d:Nat} {c:List Nat}{f0:List Bool×List FPt}(h0:f0.1≠[]) (hv:Sl 5 v (es.map ivE)) (hl:es.length≤reachBytes){st:St}(h:IFe g o a b c v H0 n0 f0 es 0 st){ks:List Kf}{Q:Ex→St→Prop}
  (hk:∀ s' i,i=min es.length 8→IFe g o a b c v H0 n0 f0 es i s'→Bk DG (K DG (d+1)) 0 (.exit 0) ks s' Q):Wp DG (K DG (d+1)) 0 D.l11_0 ks st Q:=by
 have hrb:=rb3
 refine zGt (N:=es.length) (zRH hl) (fun i st=>i≤8∧IFe g o a b c v H0 n0 f0 es i st) (fun e s'=>e=.exit 0∧∃ i,i=min es.length 8∧IFe g o a b c v H0 n0 f0 es i s') (fun i st hle hI=>?_) ⟨by omega,h⟩ (fun e s' h=>by
  obtain⟨rfl,i,hi,h⟩:=h
  exact hk s' i hi h)
 obtain⟨h8,c0,c1,⟨i4,b4,L4⟩,c5,hx,fr,hn⟩:=hI
 have vs:=hv.scal
 have vl:=hv.len
 simp only[List.length_map] at vl
 by_cases hi:i<es.length
 ·have hi1:(i:Int)<es.length:=by omega
  have hi':=zI3 hi1
  by_cases hi8:(i:Int)<8
  ·have j8:=zI3 hi8
   have hw8:IntKind.i64.wrap ((i:Int)+1)=(i:Int)+1:=zTX hi hl
   have ix:=zIu hv hi1
   simp only[Int.toNat_natCast] at ix
   have su:=zHq (f:=f0) hi
   have ne:=zHp (f:=f0) (es.take i) h0
   generalize fldF f0 (es.take i)=f at *
   generalize nth es i=y at *
   obtain⟨k,u,z,y1,y2⟩:=y
   have fin:∀ {T:PT DV}{L:PT LV}{H:PT HB}{n:Nat},T.get 0=some (.ptr g 0 0)→T.get 1=some (.imm v)→(∃ id,T.get 4=some (.lref 4 id 0)∧L.get 4=some (.box id [.imm .nils,.imm .nils]))→T.get 5=some (.imm (.int .i64 ((i:Int)+1)))→X6 H g o a b c (fldF f0 (es.take (i+1))).1 (fldF f0 (es.take (i+1))).2→(∀ j,j∉gids g o a b c→H.get j=st.H.get j)→n0≤n→i+1≤8∧IFe g o a b c v H0 n0 f0 es (i+1) ⟨T,L,H,n⟩:=fun t0 t1 t4 t5 hx hf hn=>⟨by omega,t0,t1,t4,t5,hx,fun j hj=>(hf j hj).trans (fr j hj),hn⟩
   generalize hQ:(fun (e:Ex) (s':St)=>_)=Q'
   simp only[D.l11_0b]
   by_cases k7:k=7
   ·subst k7
    obtain⟨v1,H1,e1,f1,x1⟩:=zSm (d:=d) hx ne z st.n
    rw[show zHr f ⟨7,u,z,y1,y2⟩=(zSn f.1 z,f.2) by simp[zHr]] at su
    simp[c0,c1,b4,L4,c5,vs,vl,hi',j8,hw8,ix,ivE,imms,e1,B6,B7]
    subst hQ
    exact .inl ⟨rfl,hi,fin (by simp[gP,c0]) (by simp[gP,c1]) ⟨i4,by simp[gP,b4],by simp[gP,L4]⟩ (by simp[gP]) (by rw[su]; exact x1) f1 (by omega)⟩
   ·by_cases k10:k=10
    ·subst k10
     obtain⟨v1,H1,e1,f1,x1⟩:=zRe (d:=d) hx z st.n
     simp[c0,c1,b4,L4,c5,vs,vl,hi',j8,hw8,ix,ivE,imms,e1,B6,B7]
     subst hQ
     exact .inl ⟨rfl,hi,fin (by simp[gP,c0]) (by simp[gP,c1]) ⟨i4,by simp[gP,b4],by simp[gP,L4]⟩ (by simp[gP]) (by rw[su]; simpa [zHr] using x1) f1 (by omega)⟩
    ·simp[c0,c1,b4,L4,c5,vs,vl,hi',j8,hw8,ix,k7,k10,ivE,imms,B6,B7]
     subst hQ
     exact .inl ⟨rfl,hi,fin (by simp[gP,c0]) (by simp[gP,c1]) ⟨i4,by simp[gP,b4],by simp[gP,L4]⟩ (by simp[gP]) (by rw[su]; simpa [zHr,k7,k10] using hx) (fun _ _=>rfl) (by omega)⟩
  ·have j8:=zIz (Int.not_lt.1 hi8)
   generalize hQ:(fun (e:Ex) (s':St)=>_)=Q'
   simp only[D.l11_0b]
   simp[c0,c1,b4,L4,c5,vl,hi',j8,B6,B7]
   subst hQ
   exact .inr ⟨nofun,rfl,i,by omega,by simp[gP,c0],by simp[gP,c1],⟨i4,by simp[gP,b4],by simp[gP,L4]⟩,by simp[gP,c5],hx,fr,hn⟩
 ·obtain rfl:i=es.length:=by omega
  generalize hQ:(fun (e:Ex) (s':St)=>_)=Q'
  simp only[D.l11_0b]
  simp[c0,c1,b4,L4,c5,vl,zI2,B6,B7]
  subst hQ
  exact .inr ⟨nofun,rfl,es.length,by omega,by simp[gP,c0],by simp[gP,c1],⟨i4,by simp[gP,b4],by simp[gP,L4]⟩,by simp[gP,c5],hx,fr,hn⟩
theorem zHY {d:Nat} {c:List Nat}(hx:X6 H g o a b c occ pts){l:Lo}(is:ISL l) (fi:FI l occ pts)(hv:Sl 5 v (es.map ivE)) (hl:es.length≤reachBytes)(hlt:∀ j∈gids g o a b c,j<n) :
  Fe (K DG (d+2) 11 [.ptr g 0 0,.imm v] H n 0) (fun v' H' n'=>∃ A B,v'=.agg [.imm A,.imm B]∧InOk A B (fldF (occ,pts) (es.take 8)).1 ((fldF (occ,pts) (es.take 8)).2.map (·.l))∧X6 H' g o a b c (fldF (occ,pts) (es.take 8)).1 (fldF (occ,pts) (es.take 8)).2∧(∀ j,j∉gids g o a b c→H'.get j=H.get j)∧n≤n'):=by
 have s1:=is.s1
 have s2:=is.s2
 have p2:=is.p2
 have h0:occ≠[]:=fun e=>by
  have:=fi.ol
  rw[e] at this
  simp at this
  omega
 rw[kX 11 D.f11 rfl]
 refine zHy rfl ?_
 simp[B6,B7]
 refine zKp (H0:=H) (n0:=n) (f0:=(occ,pts)) h0 hv hl ⟨by simp[gP],by simp[gP],⟨n,by simp[gP],by simp[gP,imms]⟩,by simp[gP],hx,fun _ _=>rfl,by simp⟩ (fun s1 i hi hI=>?_)
 obtain⟨c0,c1,⟨i4,b4,L4⟩,c5,x1,fr,hn⟩:=hI
 have ht:es.take i=es.take 8:=by
  rw[hi]
  by_cases h:es.length≤8
  ·rw[Nat.min_eq_left h,List.take_length,List.take_of_length_le h]
  ·rw[Nat.min_eq_right (by omega)]
 rw[ht] at x1
 have f1:=FI.fld (es.take 8) (f:=(occ,pts)) fi
 generalize fldF (occ,pts) (es.take 8)=f at *
 have x0:=x1
 obtain⟨⟨vo,vl,vt,vd,g1,g2,g3,g4,g5⟩,nd⟩:=x1
 obtain⟨A,B,k,e,hk,io⟩:=zAL (d:=d) g2 g3 (by have:=f1.ol; omega) (by have:=f1.pl; omega) (m:=s1.n) (lo:=0) (fun j hj=>by
  have:=hlt j (by simp[gids] at hj ⊢; rcases hj with q | q <;> simp[q])
  omega)
 have sc:∀ {v rows ids},SlV s1.H 1 v rows ids→v.scal=true∧v.out=true:=fun h=>by cases h <;> exact⟨rfl,rfl⟩
 simp[c0,c1,b4,L4,g1,(sc g2).1,(sc g3).1,(sc g2).2,(sc g3).2,e,io.sc,imms,B6,B7]
 exact⟨A,B,⟨rfl,rfl⟩,io,x0,fr,by omega⟩
theorem zBa {D:Nat}(hD:1≤D) (a:Int) (b:Bool):bl (K DG D) 72 [.agg [.imm (.int .i64 a),.imm (.bool b)]]=some (.imm (.int .i64 (pos ⟨a,b⟩))):=by
 obtain⟨d,rfl⟩:∃ d,D=d+1:=⟨D - 1,by omega⟩
 have key:Fe (K DG (d+1) 72 [.agg [.imm (.int .i64 a),.imm (.bool b)]] .lf 0 0) (fun v _ _=>v=.imm (.int .i64 (pos ⟨a,b⟩))):=by
  rw[kX 72 D.f72 rfl]
  refine zHy rfl ?_
  cases b <;> simp[pos,B6,B7]
 obtain⟨v,H,n,e,rfl⟩:=key
 exact zDf e rfl
variable {r:Nat}
theorem zAH {D:Nat}(hD:1≤D){l:Lo}(ok:LoOk l) (is:ISL l){ov lv:IV}{os:List Bool}{ls:List Int}(io:InOk ov lv os ls) (mi:MI l os ls)(hr:r<l.rts.length) :
  bl (K DG D) 73 [l.dv,.imm (.int .i64 r),inD ov lv]=some (.imm (.bool (dec (¬∃ z∈(nth l.rts r).path,nth os z.toNat=true)))):=by
 obtain⟨d,rfl⟩:∃ d,D=d+1:=⟨D - 1,by omega⟩
 have hrb:=rb3
 have p5:=is.p5 r hr
 have rk:=ok.or _ (zMi hr)
 have pl:=rk.p.len
 simp only[List.length_map] at pl
 have ixr:=fun {h:Nat→Option HB}{n:Nat}=>zIy (h:=h) (n:=n) ok.r (by omega) (k:=.i64) (z:=(r:Int)) (by omega) (show (r:Int)<l.rts.length by omega)
 simp only[Int.toNat_natCast] at ixr
 obtain⟨P,hP⟩:∃ P:Prop,P↔¬∃ z∈(nth l.rts r).path,nth os z.toNat=true:=⟨_,Iff.rfl⟩
 rw[← zFV hP]
 refine zDd ?_
 rw[kX 73 D.f73 rfl]
 refine zHy rfl ?_
 simp[ok.sc,io.sc,B6,B7]
 refine zGt (N:=(nth l.rts r).path.length) (zRH (by omega)) (fun i st=>st.T.get 1=some (.imm (.int .i64 r))∧Box st 3 l.ivs∧Box st 5 [ov,lv]∧st.T.get 7=some (.imm (.int .i64 i))∧∀ j,j<i→nth os (nth (nth l.rts r).path j).toNat=false)
  (fun e st'=>(e=.ret∧st'.T.get 6=some (.imm (.bool false))∧∃ z∈(nth l.rts r).path,nth os z.toNat=true)∨(e=.exit 0∧¬∃ z∈(nth l.rts r).path,nth os z.toNat=true)) (fun i st hle hI=>?_) ⟨by simp[gP],⟨0,by simp[gP],by simp[gP,imms]⟩,⟨1,by simp[gP],by simp[gP,imms]⟩,by simp[gP],fun j hj=>by omega⟩ ?_
 ·obtain⟨h1,⟨i3,h3,L3⟩,⟨i5,h5,L5⟩,h7,hall⟩:=hI
  by_cases hi:i<(nth l.rts r).path.length
  ·have hi1:(i:Int)<(nth l.rts r).path.length:=by omega
   have hi':=zI3 hi1
   have hw8:IntKind.i64.wrap ((i:Int)+1)=(i:Int)+1:=zTX hi (by omega)
   have ip:=zIu rk.p hi1
   have hz:=zMi hi
   have io':=fun {h:Nat→Option HB}{n:Nat}=>zIv (h:=h) (n:=n) io.o (by omega) (k:=.i64) (z:=nth (nth l.rts r).path i) (by rw[mi.1]; exact zNw is hr hz)
   simp only[Int.toNat_natCast] at ip
   generalize hQ:(fun (e:Ex) (s':St)=>_)=Q'
   simp only[D.l73_0b]
   cases ho:nth os (nth (nth l.rts r).path i).toNat with
   | false=>
    simp[h1,h3,L3,h5,L5,h7,hi',hw8,ixr,ip,io',ho,pl,ivRt,ivI,ivB1,imms,B6,B7]
    subst hQ
    refine .inl ⟨rfl,hi,by simp[gP],⟨i3,by simp[gP],by simp[gP,imms]⟩,⟨i5,by simp[gP],by simp[gP,imms]⟩,by simp[gP],fun j hj=>?_⟩
    rcases Nat.lt_or_eq_of_le (Nat.le_of_lt_succ hj) with hj | rfl
    ·exact hall j hj
    ·exact ho
   | true=>
    simp[h1,h3,L3,h5,L5,h7,hi',hw8,ixr,ip,io',ho,pl,ivRt,ivI,ivB1,imms,B6,B7]
    subst hQ
    exact .inr ⟨nofun,.inl ⟨rfl,by simp[gP],_,hz,ho⟩⟩
  ·obtain rfl:i=(nth l.rts r).path.length:=by omega
   generalize hQ:(fun (e:Ex) (s':St)=>_)=Q'
   simp only[D.l73_0b]
   simp[h1,h3,L3,h5,L5,h7,ixr,pl,ivRt,ivI,imms,B6,B7]
   subst hQ
   refine .inr ⟨nofun,.inr ⟨rfl,fun ⟨z,hz,ht⟩=>?_⟩⟩
   obtain⟨j,hj,rfl⟩:=zL2 hz
   rw[hall j hj] at ht; cases ht
 ·rintro e st' (⟨rfl,h6,hx⟩ | ⟨rfl,hx⟩)
  ·rw[zFX fun h=>hP.1 h hx]
   simp[h6,B6,B7]
  ·rw[zFd (hP.2 hx)]
   simp[B6,B7]
theorem zBT {D:Nat}(hD:3≤D){l:Lo}(ok:LoOk l) (is:ISL l){ov lv:IV}{os:List Bool}{ls:List Int}(io:InOk ov lv os ls) (mi:MI l os ls)(hr:r<l.rts.length) :
  bl (K DG D) 74 [l.dv,.imm (.int .i64 r),inD ov lv]=some (.imm (.bool (dec (Lie l ls r)))):=by
 obtain⟨d,rfl⟩:∃ d,D=d+1:=⟨D - 1,by omega⟩
 have hrb:=rb3
 obtain⟨w,en,hv⟩:=zA7 (D:=d) (by omega) ok hr (is.few r hr).1 (is.few r hr).2
 have hnl:(nd (nth l.rts r)).length≤reachBytes:=by have:=is.few r hr; simp[nd]; omega
 have vl:=hv.len
 simp only[List.length_map] at vl
 refine zDd ?_
 rw[kX 74 D.f74 rfl]
 refine zHy rfl ?_
 simp[ok.sc,io.sc,en,B6,B7]
 refine zGt (N:=(nd (nth l.rts r)).length) (zRH hnl) (fun i st=>Box st 5 [ov,lv]∧st.T.get 7=some (.imm w)∧st.T.get 8=some (.imm (.int .i64 i))∧∀ j,j<i→nth ls (nth (nd (nth l.rts r)) j).pt.toNat=pos (nth (nd (nth l.rts r)) j))
  (fun e st'=>(e=.ret∧st'.T.get 6=some (.imm (.bool false))∧¬Lie l ls r)∨(e=.exit 0∧Lie l ls r)) (fun i st hle hI=>?_) ⟨⟨1,by simp[gP],by simp[gP,imms]⟩,by simp[gP],by simp[gP],fun j hj=>by omega⟩ ?_
 ·obtain⟨⟨i5,h5,L5⟩,h7,h8,hall⟩:=hI
  by_cases hi:i<(nd (nth l.rts r)).length
  ·have hi1:(i:Int)<(nd (nth l.rts r)).length:=by omega
   have hi':=zI3 hi1
   have hw8:IntKind.i64.wrap ((i:Int)+1)=(i:Int)+1:=zTX hi hnl
   have ix:=zIu hv hi1
   have hmem:=zMi hi
   simp only[Int.toNat_natCast] at ix
   generalize hgx:nth (nd (nth l.rts r)) i=y at *
   have hpt:=zMG is hr hmem
   have il:=fun {h:Nat→Option HB}{n:Nat}=>zIv (h:=h) (n:=n) io.l (by omega) (k:=.i64) (z:=y.pt) (by rw[mi.2.1]; exact hpt)
   have hs:=zBa (D:=d) (by omega) y.pt y.rev
   generalize hQ:(fun (e:Ex) (s':St)=>_)=Q'
   simp only[D.l74_0b]
   by_cases hp:nth ls y.pt.toNat=pos y
   ·simp[h5,L5,h7,h8,hi',hw8,vl,ix,il,hs,hp,ivN,ivI,imms,B6,B7]
    subst hQ
    refine .inl ⟨rfl,hi,⟨i5,by simp[gP],by simp[gP,imms]⟩,by simp[gP],by simp[gP],fun j hj=>?_⟩
    rcases Nat.lt_or_eq_of_le (Nat.le_of_lt_succ hj) with hj | rfl
    ·exact hall j hj
    ·rw[hgx]; exact hp
   ·simp[h5,L5,h7,h8,hi',hw8,vl,ix,il,hs,hp,ivN,ivI,imms,B6,B7]
    subst hQ
    exact .inr ⟨nofun,.inl ⟨rfl,by simp[gP],fun h=>hp (h y hmem)⟩⟩
  ·obtain rfl:i=(nd (nth l.rts r)).length:=by omega
   generalize hQ:(fun (e:Ex) (s':St)=>_)=Q'
   simp only[D.l74_0b]
   simp[h5,L5,h7,h8,vl,imms,B6,B7]
   subst hQ
   refine .inr ⟨nofun,.inr ⟨rfl,fun x hx=>?_⟩⟩
   obtain⟨j,hj,rfl⟩:=zL2 hx
   exact hall j hj
 ·rintro e st' (⟨rfl,h6,hx⟩ | ⟨rfl,hx⟩)
  ·rw[zFX hx]
   simp[h6,B6,B7]
  ·rw[zFd hx]
   simp[B6,B7]
mutual
theorem zRJ {h:Nat→Option HB}:∀ (v:DV),v.pure=true→snap h v=some v
 | .imm _,_=>rfl
 | .fnc f [],_=>rfl
 | .agg cs,hp=>by
  show (snap.snaps h cs).map DV.agg=_
  rw[zRN cs (by simpa [DV.pure] using hp)]
  rfl
 | .ptr ..,hp=>by simp[DV.pure] at hp
 | .sl ..,hp=>by simp[DV.pure] at hp
 | .tup _,hp=>by simp[DV.pure] at hp
 | .fnc _ (_::_),hp=>by simp[DV.pure] at hp
 | .lref ..,hp=>by simp[DV.pure] at hp
theorem zRN {h:Nat→Option HB}:∀ (cs:List DV),DV.pure.pures cs=true→snap.snaps h cs=some cs
 | [],_=>rfl
 | c::cs,hq=>by
  simp only[DV.pure.pures,Bool.and_eq_true] at hq
  simp only[snap.snaps,zRJ c hq.1,zRN cs hq.2]
end
theorem zDb {K:Go.PM.Callee}{f:FuncId}{args args':List DV}{b:Bool}(hs:snap.snaps H.get args=some args') (hb:bl K f args'=some (.imm (.bool b))):∃ acc,zDz K .blind f args H m lo=some ⟨.imm (.bool b),H,m,acc⟩:=by
 by_cases hp:DV.pure.pures args=true
 ·have:=zRN (h:=H.get) args hp
  rw[this] at hs
  cases hs
  exact⟨[],by rw[zD0 hp,hb]; rfl⟩
 ·exact⟨[.rA],zD6 (by simpa using hp) hs hb⟩
theorem OutD.snap{v:DV}{ps:List Bool}(o:OutD h n0 n' v ds ps):∃ x y a b,v=.agg [x,y]∧PM.snap h v=some (.agg [.imm a,.imm b])∧Sl 1 a (ds.map ivI)∧Sl 1 b (ps.map ivB1):=by
 have one:∀ {x es},OutAt h n0 n' x es→∃ a,PM.snap h x=some (.imm a)∧Sl 1 a es:=fun {x es} o=>by
  rcases o with⟨w,rfl,hw⟩ | ⟨id,_,rfl,hh⟩
  ·exact⟨w,rfl,hw⟩
  ·refine⟨.lst false 1 es,?_,.inr ⟨false,rfl⟩⟩
   have:=zIF (lo:=0) hh (Nat.zero_le _)
   have e:frz h 0 (.sl id 0 es.length es.length)=if id<0 then some (.sl id 0 es.length es.length) else (frzI h 0 zH8 (.sl id 0 es.length es.length)).map .imm:=rfl
   rw[e,if_neg (Nat.not_lt_zero _)] at this
   exact this
 obtain⟨x,y,rfl,o1,o2⟩:=o
 obtain⟨a,e1,s1⟩:=one o1
 obtain⟨b,e2,s2⟩:=one o2
 refine⟨x,y,a,b,rfl,?_,s1,s2⟩
 show (snap.snaps h [x,y]).map DV.agg=_
 simp only[snap.snaps,e1,e2]
 rfl
theorem zTV {D:Nat}(hD:1≤D){l:Lo}(ok:LoOk l){a b:IV}{zs:List Int}(ha:Sl 1 a (zs.map ivI)) (hb:Sl 1 b (bs.map ivB1)) (hl:zs.length=l.pts.length) (hl':bs.length=l.sigs.length) (hz:∀ z∈zs,0≤z∧z≤2) (h5:zs.length≤1000) :
  bl (K DG D) 13 [l.dv,.agg [.imm a,.imm b]]=some (.imm (.bool true)):=by
 obtain⟨d,rfl⟩:∃ d,D=d+1:=⟨D - 1,by omega⟩
 have hrb:=rb3
 have al:=ha.len
 have bl':=hb.len
 have pl:=ok.p.len
 have gl:=ok.g.len
 simp only[List.length_map] at al bl' pl gl
 refine zDd ?_
 rw[kX 13 D.f13 rfl]
 refine zHy rfl ?_
 simp[ok.sc,ha.scal,hb.scal,B6,B7]
 refine zGt (N:=zs.length) (zRH (by omega)) (fun i st=>Box st 2 l.ivs∧Box st 3 [a,b]∧st.T.get 5=some (.imm (.int .i64 (i:Int)))) (fun e st'=>e=.exit 0∧Box st' 2 l.ivs∧Box st' 3 [a,b]) (fun i st hle hI=>?_) ⟨⟨0,by simp[gP],by simp[gP,Lo.ivs,imms]⟩,⟨1,by simp[gP],by simp[gP,imms]⟩,by simp[gP]⟩ ?_
 ·obtain⟨⟨i2,h2,L2⟩,⟨i3,h3,L3⟩,c5⟩:=hI
  by_cases hi:i<zs.length
  ·have hi1:(i:Int)<zs.length:=by omega
   have hi':=zI3 hi1
   have hw8:IntKind.i64.wrap ((i:Int)+1)=(i:Int)+1:=zTX hi (by omega)
   have ix:=zIu ha hi1
   simp only[Int.toNat_natCast] at ix
   have zz:=hz _ (zMi hi)
   have j0:=zIz zz.1
   have j2:=zIz zz.2
   generalize hQ:(fun (e:Ex) (s':St)=>_)=Q'
   simp only[D.l13_0b]
   simp[h2,L2,h3,L3,c5,al,hi',hw8,ix,j0,j2,ivI,B6,B7]
   subst hQ
   exact .inl ⟨rfl,hi,⟨i2,by simp[gP,h2],by simp[gP,L2,imms]⟩,⟨i3,by simp[gP],by simp[gP,imms]⟩,by simp[gP]⟩
  ·obtain rfl:i=zs.length:=by omega
   generalize hQ:(fun (e:Ex) (s':St)=>_)=Q'
   simp only[D.l13_0b]
   simp[h2,L2,h3,L3,c5,al,zI2,B6,B7]
   subst hQ
   exact .inr ⟨nofun,rfl,⟨i2,by simp[gP,h2],by simp[gP,L2,imms]⟩,⟨i3,by simp[gP,h3],by simp[gP,L3,imms]⟩⟩
 ·rintro e s2 ⟨rfl,⟨i2,h2,L2⟩,⟨i3,h3,L3⟩⟩
  simp[h2,L2,h3,L3,Lo.ivs,imms,al,bl',pl,gl,hl,hl',B6,B7]
theorem zTU {D:Nat}(hD:2≤D){l:Lo}(ok:LoOk l){ov lv a b:IV}{os:List Bool}{ls zs:List Int}(io:InOk ov lv os ls) (mi:MI l os ls) (ha:Sl 1 a (zs.map ivI)) (hb:Sl 1 b (bs.map ivB1)) (hl:zs.length=l.pts.length) (hl':bs.length=l.sigs.length) :
  bl (K DG D) 109 [l.dv,inD ov lv,.agg [.imm a,.imm b]]=some (.imm (.bool true)):=by
 obtain⟨d,rfl⟩:∃ d,D=d+1:=⟨D - 1,by omega⟩
 have al:=ha.len
 have bl':=hb.len
 have pl:=ok.p.len
 have gl:=ok.g.len
 simp only[List.length_map] at al bl' pl gl
 have em:=zAv (D:=d) (by omega) ok io
 rw[zFd mi] at em
 simp only[Lo.dv,inD] at em ⊢
 refine zDd ?_
 rw[kX 109 D.f109 rfl]
 refine zHy rfl ?_
 simp[ok.sc,ha.scal,hb.scal,io.sc,em,al,bl',pl,gl,hl,hl',zHG,lay,imms,B6,B7]
def NdAt (r:Rt) (p:Int) (z:Int):Prop:=(z=0∧∀ x∈nd r,¬x.pt=p)∨∃ x∈nd r,x.pt=p∧z=pos x
theorem zMI {D:Nat}(hD:3≤D){l:Lo}(ok:LoOk l) (is:ISL l)(hr:r<l.rts.length) (p:Int):∃ z,bl (K DG D) 62 [l.dv,.imm (.int .i64 (r:Int)),.imm (.int .i64 p)]=some (.imm (.int .i64 z))∧NdAt (nth l.rts r) p z:=by
 obtain⟨d,rfl⟩:∃ d,D=d+1:=⟨D - 1,by omega⟩
 have hrb:=rb3
 obtain⟨w,en,hv⟩:=zA7 (D:=d) (by omega) ok hr (is.few r hr).1 (is.few r hr).2
 have hn:(nd (nth l.rts r)).length≤200:=by
  have:=is.few r hr
  unfold nd
  rw[List.length_append]
  omega
 have vl:=hv.len
 simp only[List.length_map] at vl
 have vs:=hv.scal
 have key:Fe (K DG (d+1) 62 [l.dv,.imm (.int .i64 (r:Int)),.imm (.int .i64 p)] .lf 0 0) (fun v _ _=>∃ z,v=.imm (.int .i64 z)∧NdAt (nth l.rts r) p z):=by
  simp only[Lo.dv] at en ⊢
  rw[kX 62 D.f62 rfl]
  refine zHy rfl ?_
  generalize hP:(fun (v:DV) (_:PT HB) (_:Nat)=>Exists _)=Post
  simp[ok.sc,en,vs,zHG,lay,imms,B6,B7]
  refine zGt (N:=(nd (nth l.rts r)).length) (zRH (by omega)) (fun i st=>st.T.get 2=some (.imm (.int .i64 p))∧st.T.get 7=some (.imm w)∧st.T.get 8=some (.imm (.int .i64 (i:Int)))∧∀ j,j<i→¬(nth (nd (nth l.rts r)) j).pt=p) (fun e st'=>(e=.exit 0∧NdAt (nth l.rts r) p 0)∨(e=.ret∧∃ z,st'.T.get 6=some (.imm (.int .i64 z))∧NdAt (nth l.rts r) p z)) (fun i st hle hI=>?_) ⟨by simp[gP],by simp[gP],by simp[gP],fun j hj=>by omega⟩ ?_
  ·obtain⟨c2,c7,c8,hall⟩:=hI
   by_cases hi:i<(nd (nth l.rts r)).length
   ·have hi1:(i:Int)<(nd (nth l.rts r)).length:=by omega
    have hi':=zI3 hi1
    have hw8:IntKind.i64.wrap ((i:Int)+1)=(i:Int)+1:=zTX hi (by omega)
    have ix:=zIu hv hi1
    simp only[Int.toNat_natCast] at ix
    have hm:=zMi hi
    have es:=zBa (D:=d) (by omega) (nth (nd (nth l.rts r)) i).pt (nth (nd (nth l.rts r)) i).rev
    have fin:(nth (nd (nth l.rts r)) i).pt=p→NdAt (nth l.rts r) p (pos (nth (nd (nth l.rts r)) i)):=fun e=>.inr ⟨_,hm,e,rfl⟩
    generalize hx:nth (nd (nth l.rts r)) i=x at *
    obtain⟨xp,xr⟩:=x
    simp only at es fin
    by_cases hp:xp=p
    ·have fin:=fin hp
     subst hp
     generalize hQ:(fun (e:Ex) (s':St)=>_)=Q'
     simp only[D.l62_0b]
     simp[c2,c7,c8,vl,hi',hw8,ix,es,ivN,B6,B7]
     subst hQ
     simp[gP]
     exact fin
    ·generalize hQ:(fun (e:Ex) (s':St)=>_)=Q'
     simp only[D.l62_0b]
     simp[c2,c7,c8,vl,hi',hw8,ix,hp,ivN,B6,B7]
     subst hQ
     exact .inl ⟨rfl,hi,by simp[gP,c2],by simp[gP],by simp[gP],fun j hj=>by
      rcases Nat.lt_or_eq_of_le (Nat.le_of_lt_succ hj) with hj | rfl
      ·exact hall j hj
      ·rw[hx]; exact hp⟩
   ·obtain rfl:i=(nd (nth l.rts r)).length:=by omega
    have fin:NdAt (nth l.rts r) p 0:=.inl ⟨rfl,fun x hx=>by
     obtain⟨j,hj,rfl⟩:=zL2 hx
     exact hall j hj⟩
    generalize hQ:(fun (e:Ex) (s':St)=>_)=Q'
    simp only[D.l62_0b]
    simp[c2,c7,c8,vl,zI2,B6,B7]
    subst hQ
    simp
    exact fin
  ·rintro e s2 (⟨rfl,hz⟩ | ⟨rfl,z,h6,hz⟩)
   ·simp[B6,B7]
    subst hP
    exact⟨0,rfl,hz⟩
   ·simp[h6,B6,B7]
    subst hP
    exact⟨z,rfl,hz⟩
 obtain⟨v,H,n,e,z,rfl,hz⟩:=key
 exact⟨z,zDf e rfl,hz⟩
def Cn (k:Int):Prop:=k=-1∨k=0∨k=1
theorem zIg {A:PLc}:∀ (es:List EV){s:PS},(zIc A s es).r=s.r
 | [],s=>rfl
 | e::es,s=>by
  have he:(hapF A s e).r=s.r:=by
   unfold hapF
   repeat' split
   all_goals rfl
  exact (zIg (A:=A) es (s:=hapF A s e)).trans he
theorem zTk {A:PLc}:∀ (es:List EV){s:PS},Cn s.r.con→Cn (zTi A s es).r.con
 | [],s,h=>h
 | e::es,s,h=>zTk (A:=A) es (s:=yldF A s e) (by
  unfold yldF
  split
  ·show Cn (zTc s.r e.u).con
   unfold zTc
   split
   ·exact h
   ·exact .inl rfl
  ·exact h)
theorem zCo(h:Cn s.r.con)(hi:i<2) (b:Bool):Cn (askF A s i b).r.con:=by
 have key:Cn (zCn s.r i (s.u i).count).1.con:=by
  unfold zCn
  split
  ·show Cn (i:Int)
   unfold Cn
   omega
  ·split
   ·first | exact .inl rfl | exact h
   ·exact h
 unfold askF
 split
 ·split
  ·exact key
  ·exact key
 ·exact h
theorem con5(h:PI A 0 s) (ht:s.now+1≤100000) (es:List EV):Cn (cy5 A s es).r.con:=by
 have hn:=h.rn
 have h0:(begS s).r.con=-1:=by
  show (zDA s.r (s.now+1)).con=-1
  unfold zDA
  rw[if_neg (by omega)]
  split <;> rfl
 have h3:Cn (cy3 A s es).r.con:=by
  show Cn (zIc A (begS s) es).r.con
  rw[zIg,h0]
  exact .inl rfl
 have h4:=zTk (A:=A) es h3
 have hf:fstN (s.now+1)≤1:=by unfold fstN; omega
 have i0:oIx (fstN (s.now+1)) 0<2:=by unfold oIx; split <;> omega
 have i1:oIx (fstN (s.now+1)) 1<2:=by unfold oIx; split <;> omega
 exact zCo (zCo h4 i0 _) i1 _
structure Fel (l:Lo) (A:PLc) (c:Nat→Nat) (H:PT HB) (n P g:Nat) (o a b d:List Nat) (t:Nat) (s:PS):Prop where
 an:Any l A c H n P t s
 fi:FI l s.occ s.pts
 x:X6 H g o a b d s.occ s.pts
 own:∀ j∈gids g o a b d,c j=7∧j<n
theorem Fel.mono {l:Lo} {P:Nat} {d:List Nat}(h:Fel l A c H n P g o a b d t s) (hn:n≤n') (hc:∀ j,j<n→c' j=c j) (hf:∀ j,j<n→H'.get j=H.get j):Fel l A c' H' n' P g o a b d t s:=
 ⟨h.an.mono hn hc (fun j h1 _=>hf j h1),h.fi,h.x.mono fun i hi=>hf i (h.own i hi).2,fun j hj=>by
  have:=h.own j hj
  exact⟨by rw[hc j this.2]; exact this.1,by omega⟩⟩
theorem Fel.new {D:Nat}(hD:16≤D){l:Lo}(ok:LoOk l) (is:ISL l) (sm:LoSm l) {P:Nat}(h:Any l A c H n P 0 (newP l)) :
  ∃ g o a b d c' H' n',K DG (D+1) 10 [l.dv] H n 0=some (.tup [.ptr g 0 0,.imm (.int .i64 0)],H',n')∧Fel l A c' H' n' P g o a b d 0 (newP l):=by
 have e4:=zAo (D:=D) (by omega) ok sm
 rw[zFd is] at e4
 obtain⟨v,H',n',e,g,o,a,b,d,rfl,hx,hl,hf⟩:=zA9 (d:=D) ok is e4 H n
 have hn:n≤n':=by
  have:=hl g (by simp)
  omega
 refine⟨g,o,a,b,d,rc c n 7,H',n',e,h.mono hn (fun j hj=>zOW hj) (fun j hj _=>hf j hj),FI.new,hx,fun j hj=>?_⟩
 have:=hl j hj
 exact⟨zOV this.1,this.2⟩
theorem OutAt.dva(h:OutAt H.get n0 n' x (ds.map ivI)):DvA H x ds∧∀ id a b c,x=.sl id a b c→n0≤id:=by
 rcases h with⟨w,rfl,hw⟩ | ⟨id,⟨h1,h2⟩,rfl,h3⟩
 ·exact⟨.inl ⟨w,rfl,hw⟩,fun _ _ _ _=>nofun⟩
 ·refine⟨.inr ⟨id,by simp,h3⟩,fun i a b c e=>?_⟩
  simp only[DV.sl.injEq] at e
  omega
theorem Fel.cyc {D:Nat}(hD:23≤D){l:Lo}(ok:LoOk l) (is:ISL l) {P:Nat} {d:List Nat}(h:Fel l A c H n P g o a b d t s) (ht:t≤900){w:IV}(hv:Sl 5 w (es.map ivE)) (hel:es.length≤reachBytes) :
  ∃ Ov Lv H1 n1,K DG D 11 [.ptr g 0 0,.imm w] H n 0=some (.agg [.imm Ov,.imm Lv],H1,n1)∧n≤n1∧
   InOk Ov Lv (cy5 A s (es.take 8)).occ ((cy5 A s (es.take 8)).pts.map (·.l))∧MI l (cy5 A s (es.take 8)).occ ((cy5 A s (es.take 8)).pts.map (·.l))∧
   ∀ m,n1≤m→∃ x y H2 n2 c2 oa ob qs,K DG D 12 [.ptr P 0 0,.imm w] H1 m 0=some (.agg [x,y],H2,n2)∧m≤n2∧
   PM.snap H2.get (.agg [x,y])=some (.agg [.imm oa,.imm ob])∧Sl 1 oa ((cyO A s (es.take 8)).1.map ivI)∧Sl 1 ob ((cyO A s (es.take 8)).2.map ivB1)∧(x.scal=true∧x.out=true)∧(y.scal=true∧y.out=true)∧
   Told l qs (cy5 A s (es.take 8)).occ ((cy5 A s (es.take 8)).pts.map (·.l)) (cyO A s (es.take 8)).1 (cyO A s (es.take 8)).2∧
   Any l A c2 H2 n2 P (t+1) (cycS A s (es.take 8))∧Cn (cycS A s (es.take 8)).r.con∧(∀ i:Nat,(cycS A s (es.take 8)).r.con=(i:Int)→i<2∧qs=((cycS A s (es.take 8)).u i).rs∧INV l qs)∧
   ∀ n3,n2≤n3→∃ v4 H4 n4 c4,K DG D 18 [.ptr g 0 0,x] H2 n3 0=some (v4,H4,n4)∧n3≤n4∧Fel l A c4 H4 n4 P g o a b d (t+1) (cycS A s (es.take 8)):=by
 obtain⟨v1,H1,n1,e1,Ov,Lv,rfl,io,x1,f1,hn1⟩:=zHY (d:=D - 2) h.x is h.fi hv hel (n:=n) (fun j hj=>(h.own j hj).2)
 rw[show D - 2+2=D by omega] at e1
 have hnow:s.now+1≤100000:=by rw[h.an.nw]; omega
 have pi5:=h.an.pi.cy5 hnow (es.take 8)
 obtain⟨td,tc,_⟩:=zSl h.an is (es.take 8) pi5
 have cn:=con5 h.an.pi hnow (es.take 8)
 have fl:=zFK A s (es.take 8)
 have f5:FI l (cy5 A s (es.take 8)).occ (cy5 A s (es.take 8)).pts:=by
  have:=FI.fld (es.take 8) (f:=(s.occ,s.pts)) h.fi
  rw[← fl] at this
  exact this
 rw[← fl] at io x1
 obtain⟨so,sp⟩:=zFL A s (es.take 8)
 refine⟨Ov,Lv,H1,n1,e1,hn1,io,f5.mi,fun m hm=>?_⟩
 have h1:Any l A (rc c n 7) H1 m P t s:=h.an.mono (by omega) (fun j hj=>zOW hj) (fun j hj hc=>f1 j fun q=>by
  have:=(h.own j q).1
  omega)
 obtain⟨v2,H2,n2,c2,e2,hn2,h2,o2,q2,f2⟩:=h1.cyc (d:=D - 13) (by omega) ht hv hel
 rw[show D - 13+13=D by omega] at e2
 obtain⟨x,y,oa,ob,rfl,sn,sa,sb⟩:=o2.snap
 have oxy:=o2
 obtain⟨x',y',exy,ox,oy⟩:=oxy
 cases exy
 obtain⟨dv,di⟩:=ox.dva
 have hp2:=is.p2
 refine⟨x,y,H2,n2,c2,oa,ob,_,e2,hn2,sn,sa,sb,ox.scal,oy.scal,td,h2,by rw[tc]; exact cn,fun i hi=>?_,fun n3 hn3=>?_⟩
 ·have hi2:i<2:=by
   rw[tc] at hi
   rcases cn with q | q | q <;> omega
  refine⟨hi2,?_,?_⟩
  ·obtain rfl | rfl:i=0∨i=1:=by omega
   ·rw[if_neg (by omega)]
   ·rw[if_pos (by omega)]
  ·split
   ·exact (h2.eq.1 1 (by omega)).inv (h2.pi.uo 1 (by omega)).inv
   ·exact (h2.eq.1 0 (by omega)).inv (h2.pi.uo 0 (by omega)).inv
 ·have gn1:∀ j∈gids g o a b d,j<m:=fun j hj=>by have:=(h.own j hj).2; omega
  have x3:X6 H2 g o a b d (cy5 A s (es.take 8)).occ (cy5 A s (es.take 8)).pts:=x1.mono fun j hj=>by
   have:=h.own j hj
   rw[f2 j (by omega) (by rw[zOW this.2,this.1]; omega)]
  obtain⟨v4,H4,n4,e4,x4,hn4,f4⟩:=zBd (d:=D - 1) x3 (fun p hp=>(f5.pb p hp).2) dv (fun id a' b' c' e q=>by
   have:=di id a' b' c' e
   have:=gn1 id q
   omega) (by rw[td.zl,f5.pl]) (by have:=f5.pl; omega) n3
  rw[show D - 1+1=D by omega] at e4
  have own2:∀ j∈gids g o a b d,rc c2 n2 7 j=7∧j<n4:=fun j hj=>by
   have:=h.own j hj
   have:=gn1 j hj
   refine⟨?_,by omega⟩
   rw[zOW (by omega),q2 j this,zOW (by omega)]
   exact (h.own j hj).1
  refine⟨v4,H4,n4,rc c2 n2 7,e4,hn4,h2.mono (by omega) (fun j hj=>zOW hj) (fun j hj hc=>?_),?_,?_,own2⟩
  ·rw[f4 j fun q=>?_]
   have hg:j∈gids g o a b d:=by simp[gids] at q ⊢; rcases q with q | q | q <;> simp[q]
   have:=(own2 j hg).1
   rw[zOW hj] at this
   omega
  ·rw[so,sp]
   exact f5.stp td.rng _
  ·rw[so,sp]
   exact x4
theorem zCR {sz bytes:Nat} {id:Nat}{rows:List (List DV)}{es:List (List IV)}(hh:h id=some ⟨sz,rows⟩) (hi:lo≤id) (he:es≠[]) (hs:0<sz) (hl:rows.length≤100000) (hel:es.length≤100000) (hb:bytes≤100) :
  zCK h n lo sz bytes (.sl id 0 rows.length rows.length) (.imm (.lst true sz es))=some { v:=.sl n 0 (rows.length+es.length) (rows.length+es.length),hw:=[(id,none),(n,some ⟨sz,rows++es.map imms⟩)],n':=n+1,acc:=[.wX id,.wX n] }:=by
 have h0:0<es.length:=List.length_pos_iff.2 he
 have a1:¬rows.length+es.length≤rows.length:=by omega
 have a2:rows.length+es.length≤zCJ:=by unfold zCJ; omega
 have a3:(rows.length+es.length)*bytes≤zCJ:=by
  have:=Nat.mul_le_mul (show rows.length+es.length≤200000 by omega) hb
  unfold zCJ; omega
 simp[zCK,zRS,zPV,zOS,hh,hi,he,hs,a1,a2,a3]
section
variable {l:Lo}{ov lv oa ob:IV}{os:List Bool}{ls zs:List Int}{ps:List Bool}
structure Way (l:Lo) (os:List Bool) (ls:List Int) (ps:List Bool) (ρ:Nat→Nat):Prop where
 lt:∀ s,s<l.sigs.length→nth ps s=true→ρ s<l.rts.length∧(nth l.rts (ρ s)).fr=(s:Int)∧(¬∃ z∈(nth l.rts (ρ s)).path,nth os z.toNat=true)∧Lie l ls (ρ s)
 cf:∀ s t,s<l.sigs.length→t<l.sigs.length→s≠t→nth ps s=true→nth ps t=true→¬CF l (ρ s) (ρ t)
def Gud (ps:List Bool) (ρ:Nat→Nat) (s:Nat) (cs:List Int):Prop:=∀ c∈cs,∃ t,t<s∧nth ps t=true∧c=(ρ t:Int)
def RIn (l:Lo) (cs:List Int):Prop:=cs.length≤100∧∀ c∈cs,0≤c∧c<l.rts.length
structure IWy (l:Lo) (ov lv oa ob w ev:IV) (s i:Nat) (st:St):Prop where
 c3:st.T.get 3=some (.imm (.int .i64 (s:Int)))
 c4:st.T.get 4=some (.imm w)
 b5:Box st 5 l.ivs
 b6:Box st 6 [ov,lv]
 b7:Box st 7 [oa,ob]
 c11:st.T.get 11=some (.imm ev)
 c12:st.T.get 12=some (.imm (.int .i64 (i:Int)))
structure IWz (l:Lo) (ov lv oa ob w ev:IV) (s i k:Nat) (b:Bool) (st:St):Prop where
 y:IWy l ov lv oa ob w ev s i st
 c13:st.T.get 13=some (.imm (.bool b))
 c14:st.T.get 14=some (.imm (.int .i64 (k:Int)))
variable {cs:List Int}
theorem zLf {d:Nat}(hd:4≤d) (ok:LoOk l) (is:ISL l){w ev:IV} {es:List Int}(hw:Sl 1 w (cs.map ivI)) (hc:RIn l cs) (he:Sl 1 ev (es.map ivI)) {s:Nat}(hi:i<es.length) (hr:r<l.rts.length) (hri:nth es i=(r:Int)){b0:Bool}{st:St}(h:IWz l ov lv oa ob w ev s i 0 b0 st){ks:List Kf}{Q:Ex→St→Prop}
  (hk:∀ s' b,IWz l ov lv oa ob w ev s i cs.length b s'→(b=true↔b0=true∧∀ c∈cs,¬CF l r c.toNat)→Bk DG (K DG d) 0 (.exit 2) ks s' Q):Wp DG (K DG d) 0 D.l110_1 ks st Q:=by
 have hrb:=rb3
 refine zGt (N:=cs.length) (zRH (by have:=hc.1; omega)) (fun k st=>∃ b,IWz l ov lv oa ob w ev s i k b st∧(b=true↔b0=true∧∀ j,j<k→¬CF l r (nth cs j).toNat)) (fun e s'=>e=.exit 2∧∃ b,IWz l ov lv oa ob w ev s i cs.length b s'∧(b=true↔b0=true∧∀ c∈cs,¬CF l r c.toNat)) (fun k st hle hI=>?_) ⟨b0,h,by simp⟩ (fun e s' h=>by
  obtain⟨rfl,b,h1,h2⟩:=h
  exact hk s' b h1 h2)
 obtain⟨b,⟨⟨c3,c4,⟨i5,b5,L5⟩,⟨i6,b6,L6⟩,⟨i7,b7,L7⟩,c11,c12⟩,c13,c14⟩,hall⟩:=hI
 have wl:=hw.len
 simp only[List.length_map] at wl
 by_cases hk:k<cs.length
 ·have hk1:(k:Int)<cs.length:=by omega
  have hk':=zI3 hk1
  have hw8:IntKind.i64.wrap ((k:Int)+1)=(k:Int)+1:=zTX hk (by have:=hc.1; omega)
  have hi1:(i:Int)<es.length:=by omega
  have ix:=zIu he hi1
  have iy:=zIu hw hk1
  simp only[Int.toNat_natCast,hri] at ix iy
  have cm:=hc.2 _ (zMi hk)
  have ec:=zAJ (D:=d) (by omega) ok is.few hr (s:=(nth cs k).toNat) (by omega)
  rw[show (((nth cs k).toNat:Nat):Int)=nth cs k by omega] at ec
  have all':∀ b',(b'=true↔b=true∧¬CF l r (nth cs k).toNat)→(b'=true↔b0=true∧∀ j,j<k+1→¬CF l r (nth cs j).toNat):=fun b' hb=>by
   rw[hb,hall]
   refine⟨fun h=>⟨h.1.1,fun j hj=>?_⟩,fun h=>⟨⟨h.1,fun j hj=>h.2 j (by omega)⟩,h.2 k (by omega)⟩⟩
   rcases Nat.lt_or_eq_of_le (Nat.le_of_lt_succ hj) with hj | rfl
   ·exact h.1.2 j hj
   ·exact h.2
  have fin:∀ {T:PT DV}{L:PT LV}{H:PT HB}{n:Nat}(b':Bool),(b'=true↔b=true∧¬CF l r (nth cs k).toNat)→T.get 3=some (.imm (.int .i64 (s:Int)))→T.get 4=some (.imm w)→(∃ id,T.get 5=some (.lref 5 id 0)∧L.get 5=some (.box id (imms l.ivs)))→(∃ id,T.get 6=some (.lref 6 id 0)∧L.get 6=some (.box id (imms [ov,lv])))→(∃ id,T.get 7=some (.lref 7 id 0)∧L.get 7=some (.box id (imms [oa,ob])))→T.get 11=some (.imm ev)→T.get 12=some (.imm (.int .i64 (i:Int)))→T.get 13=some (.imm (.bool b'))→T.get 14=some (.imm (.int .i64 ((k:Int)+1)))→∃ b,IWz l ov lv oa ob w ev s i (k+1) b ⟨T,L,H,n⟩∧(b=true↔b0=true∧∀ j,j<k+1→¬CF l r (nth cs j).toNat):=fun b' hb t3 t4 t5 t6 t7 t11 t12 t13 t14=>⟨b',⟨⟨t3,t4,t5,t6,t7,t11,t12⟩,t13,t14⟩,all' b' hb⟩
  simp only[Lo.dv] at ec
  generalize nth cs k=c at *
  generalize hQ:(fun (e:Ex) (s':St)=>_)=Q'
  simp only[D.l110_1b]
  cases b with
  | false=>
   simp[c3,c4,b5,L5,b6,L6,b7,L7,c11,c12,c13,c14,wl,hk',hw8,hw.scal,he.scal,B6,B7]
   subst hQ
   exact .inl ⟨rfl,hk,fin false (by simp) (by simp[gP,c3]) (by simp[gP,c4]) ⟨i5,by simp[gP,b5],by simp[gP,L5,imms]⟩ ⟨i6,by simp[gP,b6],by simp[gP,L6,imms]⟩ ⟨i7,by simp[gP,b7],by simp[gP,L7,imms]⟩ (by simp[gP,c11]) (by simp[gP,c12]) (by simp[gP]) (by simp[gP])⟩
  | true=>
   by_cases hcf:CF l r c.toNat
   ·rw[zFd hcf] at ec
    simp[c3,c4,b5,L5,b6,L6,b7,L7,c11,c12,c13,c14,wl,hk',hw8,hw.scal,he.scal,ix,iy,ivI,ec,Lo.ivs,imms,ok.sc,B6,B7]
    subst hQ
    exact .inl ⟨rfl,hk,fin false (by simp[hcf]) (by simp[gP,c3]) (by simp[gP,c4]) ⟨i5,by simp[gP,b5],by simp[gP,L5,imms]⟩ ⟨i6,by simp[gP,b6],by simp[gP,L6,imms]⟩ ⟨i7,by simp[gP,b7],by simp[gP,L7,imms]⟩ (by simp[gP,c11]) (by simp[gP,c12]) (by simp[gP]) (by simp[gP])⟩
   ·rw[zFX hcf] at ec
    simp[c3,c4,b5,L5,b6,L6,b7,L7,c11,c12,c13,c14,wl,hk',hw8,hw.scal,he.scal,ix,iy,ivI,ec,Lo.ivs,imms,ok.sc,B6,B7]
    subst hQ
    exact .inl ⟨rfl,hk,fin true (by simp[hcf]) (by simp[gP,c3]) (by simp[gP,c4]) ⟨i5,by simp[gP,b5],by simp[gP,L5,imms]⟩ ⟨i6,by simp[gP,b6],by simp[gP,L6,imms]⟩ ⟨i7,by simp[gP,b7],by simp[gP,L7,imms]⟩ (by simp[gP,c11]) (by simp[gP,c12]) (by simp[gP]) (by simp[gP])⟩
 ·obtain rfl:k=cs.length:=by omega
  generalize hQ:(fun (e:Ex) (s':St)=>_)=Q'
  simp only[D.l110_1b]
  simp[c3,c4,b5,L5,b6,L6,b7,L7,c11,c12,c13,c14,wl,zI2,hw.scal,he.scal,B6,B7]
  subst hQ
  exact .inr ⟨nofun,rfl,b,⟨⟨by simp[gP,c3],by simp[gP,c4],⟨i5,by simp[gP,b5],by simp[gP,L5,imms]⟩,⟨i6,by simp[gP,b6],by simp[gP,L6,imms]⟩,⟨i7,by simp[gP,b7],by simp[gP,L7,imms]⟩,by simp[gP,c11],by simp[gP,c12]⟩,by simp[gP,c13],by simp[gP,c14]⟩,by
   rw[hall]
   refine⟨fun h=>⟨h.1,fun c hm=>?_⟩,fun h=>⟨h.1,fun j hj=>h.2 _ (zMi hj)⟩⟩
   obtain⟨j,hj,rfl⟩:=zL2 hm
   exact h.2 j hj⟩
theorem zTR {K':Go.PM.Callee}{f:FuncId}{a b c d:DV}(ha:a.pure=true) (hb:b.pure=true) (hc:c.pure=true) (hd:d.pure=true){r:Bool}(hr:bl K' f [a,b,c,d,.imm (.lst false 1 (cs.map ivI))]=some (.imm (.bool r))) {id k:Nat}(hk:k=cs.length) (hh:H.get id=some ⟨1,(cs.map ivI).map imms⟩) :
  zDz K' .blind f [a,b,c,d,.sl id 0 k k] H m 0=some ⟨.imm (.bool r),H,m,[.rA]⟩:=by
 have sn:snap.snaps H.get [a,b,c,d,.sl id 0 k k]=some [a,b,c,d,.imm (.lst false 1 (cs.map ivI))]:=by
  simp only[snap.snaps,zRJ a ha,zRJ b hb,zRJ c hc,zRJ d hd,zRL hh (k:=k) (by simp[hk])]
 exact zD6 (by simp[DV.pure.pures,DV.pure]) sn hr
def WyP (l:Lo) (ov lv oa ob:IV) (ps:List Bool) (ρ:Nat→Nat) (D s:Nat):Prop:=∀ cs w,Sl 1 w (cs.map ivI)→RIn l cs→cs.length≤s→∃ r:Bool,bl (K DG D) 110 [l.dv,inD ov lv,.agg [.imm oa,.imm ob],.imm (.int .i64 (s:Int)),.imm w]=some (.imm (.bool r))∧(Gud ps ρ s cs→r=true)
theorem zLe {d:Nat}(hd:4≤d) (ok:LoOk l) (is:ISL l) (io:InOk ov lv os ls) (mi:MI l os ls) (sa:(DV.imm oa).scal=true) (sb:(DV.imm ob).scal=true){ρ:Nat→Nat}(wy:Way l os ls ps ρ){s:Nat}(hs:s<l.sigs.length) (hps:nth ps s=true) (ih:WyP l ov lv oa ob ps ρ d (s+1)){w ev:IV}(hw:Sl 1 w (cs.map ivI)) (hc:RIn l cs) (hcs:cs.length≤s) (he:Sl 1 ev ((en l s l.rts.length).map ivI)){st:St}(h:IWy l ov lv oa ob w ev s 0 st){ks:List Kf}{Q:Ex→St→Prop}
  (hk:∀ e s',(e=.ret∧s'.T.get 10=some (.imm (.bool true)))∨(e=.exit 0∧¬Gud ps ρ s cs)→Bk DG (K DG d) 0 e ks s' Q):Wp DG (K DG d) 0 D.l110_0 ks st Q:=by
 have hrb:=rb3
 have g6:=is.g2
 have r6:=is.r2
 have nel:=@zG3 l s l.rts.length
 have w0:=wy.lt s hs hps
 have ρm:((ρ s:Nat):Int)∈en l s l.rts.length:=zG4.2 ⟨ρ s,w0.1,w0.2.1,rfl⟩
 have em:∀ i,i<(en l s l.rts.length).length→∃ r:Nat,r<l.rts.length∧nth (en l s l.rts.length) i=(r:Int):=fun i hi=>by
  obtain⟨r,h1,_,h3⟩:=zG4.1 (zMi hi)
  exact⟨r,h1,h3⟩
 generalize en l s l.rts.length=es at *
 refine zGt (N:=es.length) (zRH (by omega)) (fun i st=>IWy l ov lv oa ob w ev s i st∧(Gud ps ρ s cs→∀ j,j<i→nth es j≠(ρ s:Int))) (fun e s'=>(e=.ret∧s'.T.get 10=some (.imm (.bool true)))∨(e=.exit 0∧¬Gud ps ρ s cs)) (fun i st hle hI=>?_) ⟨h,fun _ j hj=>by omega⟩ (fun e s' h=>hk e s' h)
 obtain⟨⟨c3,c4,⟨i5,b5,L5⟩,⟨i6,b6,L6⟩,⟨i7,b7,L7⟩,c11,c12⟩,hall⟩:=hI
 have el:=he.len
 have wl:=hw.len
 simp only[List.length_map] at el wl
 by_cases hi:i<es.length
 ·have hi1:(i:Int)<es.length:=by omega
  have hi':=zI3 hi1
  have hw8:IntKind.i64.wrap ((i:Int)+1)=(i:Int)+1:=zTX hi (by omega)
  have ws8:IntKind.i64.wrap ((s:Int)+1)=(s:Int)+1:=zTW (by omega) (by omega)
  have cst:((s+1:Nat):Int)=(s:Int)+1:=by omega
  have ix:=zIu he hi1
  obtain⟨r,hr,hri⟩:=em i hi
  simp only[Int.toNat_natCast,hri] at ix
  have e1:=zAH (D:=d) (by omega) ok is io mi hr
  have e2:=zBT (D:=d) (by omega) ok is io mi hr
  obtain⟨q1,hq1⟩:∃ b,b=dec (¬∃ z∈(nth l.rts r).path,nth os z.toNat=true):=⟨_,rfl⟩
  obtain⟨q2,hq2⟩:∃ b,b=dec (Lie l ls r):=⟨_,rfl⟩
  rw[← hq1] at e1
  rw[← hq2] at e2
  have mine:nth es i=(ρ s:Int)→Gud ps ρ s cs→r=ρ s∧q1=true∧q2=true∧∀ c∈cs,¬CF l r c.toNat:=fun e g=>by
   have e1:r=ρ s:=by omega
   subst e1
   refine⟨rfl,by rw[hq1,zFd w0.2.2.1],by rw[hq2,zFd w0.2.2.2],fun c hm=>?_⟩
   obtain⟨t,ht,hpt,rfl⟩:=g c hm
   rw[Int.toNat_natCast]
   exact wy.cf s t hs (by omega) (by omega) hps hpt
  have hrc:(0:Int)≤(r:Int)∧(r:Int)<l.rts.length:=by omega
  have hc':RIn l (cs++[(r:Int)]):=⟨by have:=hc.1; simp; omega,fun c hm=>by
   rcases List.mem_append.1 hm with h | h
   ·exact hc.2 c h
   ·rw[List.mem_singleton.1 h]; exact hrc⟩
  obtain⟨q3,e3,g3⟩:=ih (cs++[(r:Int)]) (.lst false 1 ((cs++[(r:Int)]).map ivI)) (.inr ⟨false,rfl⟩) hc' (by simp; omega)
  rw[cst] at e3
  have e4:=fun {H:PT HB}{m id k:Nat}(hk:k=(cs++[(r:Int)]).length) (hh:H.get id=some ⟨1,((cs++[(r:Int)]).map ivI).map imms⟩)=>zTR (K':=K DG d) (f:=110) (a:=l.dv) (b:=inD ov lv) (c:=.agg [.imm oa,.imm ob]) (d:=.imm (.int .i64 ((s:Int)+1))) rfl rfl rfl rfl (cs:=cs++[(r:Int)]) (r:=q3) e3 (m:=m) hk hh
  have nxt:∀ {P:Prop},(nth es i=(ρ s:Int)→Gud ps ρ s cs→False)→(Gud ps ρ s cs→∀ j,j<i+1→nth es j≠(ρ s:Int))∨P:=fun {P} h=>.inl fun g j hj=>by
   rcases Nat.lt_or_eq_of_le (Nat.le_of_lt_succ hj) with hj | rfl
   ·exact hall g j hj
   ·exact fun e=>h e g
  have fin:∀ {T:PT DV}{L:PT LV}{H:PT HB}{n:Nat},(nth es i=(ρ s:Int)→Gud ps ρ s cs→False)→T.get 3=some (.imm (.int .i64 (s:Int)))→T.get 4=some (.imm w)→(∃ id,T.get 5=some (.lref 5 id 0)∧L.get 5=some (.box id (imms l.ivs)))→(∃ id,T.get 6=some (.lref 6 id 0)∧L.get 6=some (.box id (imms [ov,lv])))→(∃ id,T.get 7=some (.lref 7 id 0)∧L.get 7=some (.box id (imms [oa,ob])))→T.get 11=some (.imm ev)→T.get 12=some (.imm (.int .i64 ((i:Int)+1)))→IWy l ov lv oa ob w ev s (i+1) ⟨T,L,H,n⟩∧(Gud ps ρ s cs→∀ j,j<i+1→nth es j≠(ρ s:Int)):=fun h t3 t4 t5 t6 t7 t11 t12=>⟨⟨t3,t4,t5,t6,t7,t11,t12⟩,(nxt (P:=False) h).resolve_right id⟩
  simp only[Lo.dv,inD] at e1 e2 e4
  generalize hQ:(fun (e:Ex) (s':St)=>_)=Q'
  simp only[D.l110_0b]
  obtain⟨bb,hbb⟩:∃ bb,bb=(q1&&q2):=⟨_,rfl⟩
  cases q1 <;> cases q2 <;>
  ·simp[c3,c4,b5,L5,b6,L6,b7,L7,c11,c12,el,hi',hw8,ix,hw.scal,he.scal,io.sc,sa,sb,ivI,e1,e2,Lo.ivs,imms,ok.sc,B6,B7]
   refine zLf (ov:=ov) (lv:=lv) (oa:=oa) (ob:=ob) (s:=s) (b0:=bb) hd ok is hw hc he hi hr hri ⟨⟨by simp[gP,c3],by simp[gP,c4],⟨i5,by simp[gP,b5],by simp[gP,L5,imms]⟩,⟨i6,by simp[gP,b6],by simp[gP,L6,imms]⟩,⟨i7,by simp[gP,b7],by simp[gP,L7,imms]⟩,by simp[gP,c11],by simp[gP,c12]⟩,by simp[gP,hbb],by simp[gP]⟩ (fun s2 b hI hb=>?_)
   obtain⟨⟨d3,d4,⟨k5,a5,M5⟩,⟨k6,a6,M6⟩,⟨k7,a7,M7⟩,d11,d12⟩,d13,d14⟩:=hI
   cases b with
   | false=>
    have no:nth es i=(ρ s:Int)→Gud ps ρ s cs→False:=fun e g=>by
     obtain⟨_,m1,m2,m3⟩:=mine e g
     first
      | exact Bool.noConfusion m1
      | exact Bool.noConfusion m2
      | exact absurd (hb.2 ⟨hbb,m3⟩) (by simp)
    simp[d3,d4,a5,M5,a6,M6,a7,M7,d11,d12,d13,d14,hw8,hw.scal,he.scal,B6,B7]
    subst hQ
    exact .inl ⟨rfl,hi,fin no (by simp[gP,d3]) (by simp[gP,d4]) ⟨k5,by simp[gP,a5],by simp[gP,M5,imms]⟩ ⟨k6,by simp[gP,a6],by simp[gP,M6,imms]⟩ ⟨k7,by simp[gP,a7],by simp[gP,M7,imms]⟩ (by simp[gP,d11]) (by simp[gP])⟩
   | true=>
    try (exfalso; have hq:=(hb.1 rfl).1; rw[hbb] at hq; exact Bool.noConfusion hq)
    all_goals
     have g4:nth es i=(ρ s:Int)→Gud ps ρ s cs→q3=true:=fun e g=>g3 fun c hm=>by
      rcases List.mem_append.1 hm with h | h
      ·obtain⟨t,h1,h2,h3⟩:=g c h
       exact⟨t,by omega,h2,h3⟩
      ·rw[List.mem_singleton.1 h]
       exact⟨s,by omega,hps,by rw[(mine e g).1]⟩
     by_cases c0:cs=[]
     ·subst c0
      have p1:=fun {h:Nat→Option HB}{n:Nat}=>zCX (sz:=1) (bytes:=8) (h:=h) (n:=n) (x:=.imm (.lst true 1 [])) (.inr (.inl rfl)) hw
      have p2:=fun {h:Nat→Option HB}{n:Nat}=>zCW (sz:=1) (bytes:=8) (h:=h) (n:=n) (v:=.lst true 1 [[.int .i64 (r:Int)]]) (.inr ⟨true,rfl⟩) (by simp) (by omega) (by simp) (by omega)
      simp only[List.nil_append,List.map_cons,List.map_nil,List.length_cons,List.length_nil,ivI] at e4 p2
      cases q3 with
      | true=>
       simp[d3,d4,a5,M5,a6,M6,a7,M7,d11,d12,d13,d14,hw8,ws8,hw.scal,he.scal,io.sc,sa,sb,ix,ivI,p1,p2,e4,Lo.ivs,imms,ok.sc,zHH,lay,zS4,zS2,mapO,zPT,B6,B7]
       subst hQ
       simp[gP]
      | false=>
       have no:nth es i=(ρ s:Int)→Gud ps ρ s []→False:=fun e g=>by cases g4 e g
       simp[d3,d4,a5,M5,a6,M6,a7,M7,d11,d12,d13,d14,hw8,ws8,hw.scal,he.scal,io.sc,sa,sb,ix,ivI,p1,p2,e4,Lo.ivs,imms,ok.sc,zHH,lay,zS4,zS2,mapO,zPT,B6,B7]
       subst hQ
       exact .inl ⟨rfl,hi,fin no (by simp[gP,d3]) (by simp[gP,d4]) ⟨k5,by simp[gP,a5],by simp[gP,M5,imms]⟩ ⟨k6,by simp[gP,a6],by simp[gP,M6,imms]⟩ ⟨k7,by simp[gP,a7],by simp[gP,M7,imms]⟩ (by simp[gP,d11]) (by simp[gP])⟩
     ·have p1:=fun {h:Nat→Option HB}{n:Nat}=>zCW (sz:=1) (bytes:=8) (h:=h) (n:=n) hw (by simpa using c0) (by omega) (by have:=hc.1; simp; omega) (by omega)
      have p2:=fun {h:Nat→Option HB}{n id:Nat} hh=>zCR (sz:=1) (bytes:=8) (lo:=0) (h:=h) (n:=n) (id:=id) (rows:=(cs.map ivI).map imms) (es:=[[.int .i64 (r:Int)]]) hh (Nat.zero_le _) (by simp) (by omega) (by have:=hc.1; simp; omega) (by simp) (by omega)
      simp only[List.length_map,List.length_cons,List.length_nil,List.length_append,List.map_append,List.map_cons,List.map_nil,ivI] at e4 p1 p2
      generalize (cs.map fun z=>[IV.int .i64 z]).map imms=R at *
      cases q3 with
      | true=>
       simp[d3,d4,a5,M5,a6,M6,a7,M7,d11,d12,d13,d14,hw8,ws8,hw.scal,he.scal,io.sc,sa,sb,ix,ivI,p1,p2,e4,Lo.ivs,imms,ok.sc,zHH,lay,zS4,zS2,mapO,zPT,B6,B7]
       subst hQ
       simp[gP]
      | false=>
       have no:nth es i=(ρ s:Int)→Gud ps ρ s cs→False:=fun e g=>by cases g4 e g
       simp[d3,d4,a5,M5,a6,M6,a7,M7,d11,d12,d13,d14,hw8,ws8,hw.scal,he.scal,io.sc,sa,sb,ix,ivI,p1,p2,e4,Lo.ivs,imms,ok.sc,zHH,lay,zS4,zS2,mapO,zPT,B6,B7]
       subst hQ
       exact .inl ⟨rfl,hi,fin no (by simp[gP,d3]) (by simp[gP,d4]) ⟨k5,by simp[gP,a5],by simp[gP,M5,imms]⟩ ⟨k6,by simp[gP,a6],by simp[gP,M6,imms]⟩ ⟨k7,by simp[gP,a7],by simp[gP,M7,imms]⟩ (by simp[gP,d11]) (by simp[gP])⟩
 ·obtain rfl:i=es.length:=by omega
  have no:¬Gud ps ρ s cs:=fun g=>by
   obtain⟨j,hj,e⟩:=zL2 ρm
   exact hall g j hj e
  generalize hQ:(fun (e:Ex) (s':St)=>_)=Q'
  simp only[D.l110_0b]
  simp[c3,c4,b5,L5,b6,L6,b7,L7,c11,c12,el,zI2,hw.scal,he.scal,B6,B7]
  subst hQ
  simp
  exact no
theorem zTQ (ok:LoOk l) (is:ISL l) (io:InOk ov lv os ls) (mi:MI l os ls) (ha:Sl 1 oa (zs.map ivI)) (hb:Sl 1 ob (ps.map ivB1)) (hl:ps.length=l.sigs.length){ρ:Nat→Nat}(wy:Way l os ls ps ρ):∀ (k s:Nat),s+k=l.sigs.length→∀ D,5+k≤D→WyP l ov lv oa ob ps ρ D s:=by
 have gl:=ok.g.len
 have g6:=is.g2
 have hrb:=rb3
 simp only[List.length_map] at gl
 have sa:=ha.scal
 have sb:=hb.scal
 intro k
 induction k with
 | zero=>
  intro s hs D hD cs w hw hc hcs
  obtain⟨d,rfl⟩:∃ d,D=d+1:=⟨D - 1,by omega⟩
  refine⟨true,zDd ?_,fun _=>rfl⟩
  rw[kX 110 D.f110 rfl]
  refine zHy rfl ?_
  have il:ILt (s:Int) (l.sigs.length:Int)=False:=zIz (by omega)
  simp[gl,il,hw.scal,sa,sb,io.sc,ok.sc,Lo.ivs,imms,B6,B7]
 | succ k ih=>
  intro s hs D hD cs w hw hc hcs
  obtain⟨d,rfl⟩:∃ d,D=d+1:=⟨D - 1,by omega⟩
  have ih:=ih (s+1) (by omega) d (by omega)
  have hsl:s<ps.length:=by omega
  have hs1:(s:Int)<ps.length:=by omega
  have il:ILt (s:Int) (l.sigs.length:Int)=True:=zI3 (by omega)
  have ix:=zIu hb hs1
  simp only[Int.toNat_natCast] at ix
  have ws8:IntKind.i64.wrap ((s:Int)+1)=(s:Int)+1:=zTW (by omega) (by omega)
  have cst:((s+1:Nat):Int)=(s:Int)+1:=by omega
  obtain⟨p,hp⟩:∃ p,p=nth ps s:=⟨_,rfl⟩
  rw[← hp] at ix
  cases p with
  | false=>
   obtain⟨r,e,g⟩:=ih cs w hw hc (by omega)
   rw[cst] at e
   refine⟨r,zDd ?_,fun h=>g fun c hm=>?_⟩
   ·simp only[Lo.dv,inD] at e ⊢
    rw[kX 110 D.f110 rfl]
    refine zHy rfl ?_
    simp[gl,il,ix,ws8,e,ivB1,hw.scal,sa,sb,io.sc,ok.sc,Lo.ivs,imms,B6,B7]
   ·obtain⟨t,h1,h2,h3⟩:=h c hm
    exact⟨t,by omega,h2,h3⟩
  | true=>
   obtain⟨ev,ee,he⟩:=zAg (D:=d) (by omega) ok (by have:=is.r2; omega) (s:Int)
   have es:=he.scal
   have key:Fe (K DG (d+1) 110 [l.dv,inD ov lv,.agg [.imm oa,.imm ob],.imm (.int .i64 (s:Int)),.imm w] .lf 0 0) (fun v _ _=>∃ r:Bool,v=.imm (.bool r)∧(Gud ps ρ s cs→r=true)):=by
    simp only[Lo.dv,inD] at ee ⊢
    rw[kX 110 D.f110 rfl]
    refine zHy rfl ?_
    generalize hP:(fun (v:DV) (_:PT HB) (_:Nat)=>Exists _)=Post
    simp[gl,il,ix,ee,es,ivB1,hw.scal,sa,sb,io.sc,ok.sc,Lo.ivs,imms,B6,B7]
    refine zLe (by omega) ok is io mi sa sb wy (by omega) hp.symm ih hw hc hcs he ⟨by simp[gP],by simp[gP],⟨0,by simp[gP],by simp[gP,Lo.ivs,imms]⟩,⟨1,by simp[gP],by simp[gP,imms]⟩,⟨2,by simp[gP],by simp[gP,imms]⟩,by simp[gP],by simp[gP]⟩ (fun e s2 hq=>?_)
    rcases hq with⟨rfl,h10⟩ | ⟨rfl,hn⟩
    ·simp[h10,B6,B7]
     subst hP
     exact⟨true,rfl,fun _=>rfl⟩
    ·simp[B6,B7]
     subst hP
     exact⟨false,rfl,fun h=>absurd h hn⟩
   obtain⟨v,H,n,e,r,rfl,g⟩:=key
   exact⟨r,zDf e rfl,g⟩
theorem Told.way {qs:List Rst}(h:Told l qs os ls zs ps):∃ ρ,Way l os ls ps ρ∧∀ s,s<l.sigs.length→nth ps s=true→(nth qs (ρ s)).mode=2:=by
 classical
 have key:∀ s,∃ r,s<l.sigs.length→nth ps s=true→r<l.rts.length∧(nth l.rts r).fr=(s:Int)∧(¬∃ z∈(nth l.rts r).path,nth os z.toNat=true)∧Lie l ls r∧(nth qs r).mode=2∧INV l qs:=fun s=>by
  by_cases hs:s<l.sigs.length
  ·by_cases hp:nth ps s=true
   ·obtain⟨_,inv,r,h1,h2,h3,h4,h5⟩:=h.pr s hs hp
    exact⟨r,fun _ _=>⟨h1,h3,h4,h5,h2,inv⟩⟩
   ·exact⟨0,fun _ q=>absurd q hp⟩
  ·exact⟨0,fun q _=>absurd q hs⟩
 obtain⟨ρ,hρ⟩:=Classical.axiomOfChoice key
 refine⟨ρ,⟨fun s hs hp=>?_,fun s t hs ht hst hp hq=>?_⟩,fun s hs hp=>(hρ s hs hp).2.2.2.2.1⟩
 ·obtain⟨h1,h2,h3,h4,_⟩:=hρ s hs hp
  exact⟨h1,h2,h3,h4⟩
 ·obtain⟨h1,h2,_,_,h5,inv⟩:=hρ s hs hp
  obtain⟨g1,g2,_,_,g5,_⟩:=hρ t ht hq
  refine inv.nc _ _ h1 g1 (fun e=>?_) (by omega) (by omega)
  rw[e,g2] at h2
  omega
theorem zBV {D:Nat}(hD:13≤D) (ok:LoOk l) (is:ISL l) (io:InOk ov lv os ls) (mi:MI l os ls) (ha:Sl 1 oa (zs.map ivI)) (hb:Sl 1 ob (ps.map ivB1)){qs:List Rst}(h:Told l qs os ls zs ps) :
  bl (K DG D) 61 [l.dv,inD ov lv,.agg [.imm oa,.imm ob]]=some (.imm (.bool true)):=by
 obtain⟨d,rfl⟩:∃ d,D=d+1:=⟨D - 1,by omega⟩
 have hrb:=rb3
 have p2:=is.p2
 have g2:=is.g2
 have hzl:=h.zl
 have al:=ha.len
 have pl:=ok.p.len
 simp only[List.length_map] at al pl
 have e1:=zTU (D:=d) (by omega) ok io mi ha hb h.zl h.bl
 obtain⟨ρ,wy,_⟩:=h.way
 obtain⟨r,e2,g⟩:=zTQ ok is io mi ha hb h.bl wy l.sigs.length 0 (by omega) d (by omega) [] .nils (.inl ⟨rfl,rfl⟩) ⟨by simp,nofun⟩ (by simp)
 rw[g (fun c hc=>nomatch hc)] at e2
 simp only[Lo.dv,inD] at e1 e2 ⊢
 rw[show ((0:Nat):Int)=0 from rfl] at e2
 refine zDd ?_
 rw[kX 61 D.f61 rfl]
 refine zHy rfl ?_
 simp[e1,ha.scal,hb.scal,io.sc,ok.sc,imms,B6,B7]
 refine zGt (N:=zs.length) (zRH (by omega)) (fun i st=>Box st 3 l.ivs∧Box st 4 [ov,lv]∧Box st 5 [oa,ob]∧st.T.get 7=some (.imm (.int .i64 (i:Int)))) (fun e s'=>e=.exit 0∧Box s' 3 l.ivs∧Box s' 4 [ov,lv]∧Box s' 5 [oa,ob]) (fun i st hle hI=>?_) ⟨⟨0,by simp[gP],by simp[gP,Lo.ivs,imms]⟩,⟨1,by simp[gP],by simp[gP,imms]⟩,⟨2,by simp[gP],by simp[gP,imms]⟩,by simp[gP]⟩ ?_
 ·obtain⟨⟨i3,b3,L3⟩,⟨i4,b4,L4⟩,⟨i5,b5,L5⟩,c7⟩:=hI
  by_cases hi:i<zs.length
  ·have hi1:(i:Int)<zs.length:=by omega
   have hi':=zI3 hi1
   have hw8:IntKind.i64.wrap ((i:Int)+1)=(i:Int)+1:=zTX hi (by omega)
   have ix:=zIu ha hi1
   have hip:i<l.pts.length:=by omega
   have hip1:(i:Int)<l.pts.length:=by omega
   have iy:=zIu ok.p hip1
   simp only[Int.toNat_natCast] at ix iy
   generalize hQ:(fun (e:Ex) (s':St)=>_)=Q'
   simp only[D.l61_0b]
   by_cases h0:nth zs i=0
   ·rw[h0] at ix
    simp[b3,L3,b4,L4,b5,L5,c7,al,hi',hw8,ix,ivI,B6,B7]
    subst hQ
    exact .inl ⟨rfl,hi,⟨i3,by simp[gP,b3],by simp[gP,L3,imms]⟩,⟨i4,by simp[gP,b4],by simp[gP,L4,imms]⟩,⟨i5,by simp[gP,b5],by simp[gP,L5,imms]⟩,by simp[gP]⟩
   ·obtain⟨_,inv,r,x,_,_,_,_,_,_,ho,_⟩:=(h.dr i hip).resolve_left h0
    have sc:=is.ps i hip
    have iz:=fun {h:Nat→Option HB}{n:Nat}=>zIy (h:=h) (n:=n) io.o (by omega) (k:=.i64) (z:=(nth l.pts i).sec) sc.1 (by rw[mi.1]; exact sc.2)
    rw[ho] at iz
    generalize nth zs i=z at *
    simp[b3,L3,b4,L4,b5,L5,c7,al,pl,hi',hw8,ix,iy,iz,h0,ivI,ivB1,ivP,B6,B7]
    subst hQ
    exact .inl ⟨rfl,hi,⟨i3,by simp[gP,b3],by simp[gP,L3,imms]⟩,⟨i4,by simp[gP,b4],by simp[gP,L4,imms]⟩,⟨i5,by simp[gP,b5],by simp[gP,L5,imms]⟩,by simp[gP]⟩
  ·obtain rfl:i=zs.length:=by omega
   generalize hQ:(fun (e:Ex) (s':St)=>_)=Q'
   simp only[D.l61_0b]
   simp[b3,L3,b4,L4,b5,L5,c7,al,zI2,B6,B7]
   subst hQ
   exact .inr ⟨nofun,rfl,⟨i3,by simp[gP,b3],by simp[gP,L3,imms]⟩,⟨i4,by simp[gP,b4],by simp[gP,L4,imms]⟩,⟨i5,by simp[gP,b5],by simp[gP,L5,imms]⟩⟩
 ·rintro e s2 ⟨rfl,⟨i3,b3,L3⟩,⟨i4,b4,L4⟩,⟨i5,b5,L5⟩⟩
  simp[b3,L3,b4,L4,b5,L5,e2,ha.scal,hb.scal,io.sc,ok.sc,Lo.ivs,imms,B6,B7]
end
section
variable {l:Lo}{ov lv oa ob w:IV}{os:List Bool}{ls zs:List Int}{ps:List Bool}{qs:List Rst}
structure IHd (l:Lo) (oa ob w:IV) (k:Nat) (i:Nat) (st:St):Prop where
 c3:st.T.get 3=some (.imm w)
 b4:Box st 4 l.ivs
 b6:Box st 6 [oa,ob]
 ck:st.T.get k=some (.imm (.int .i64 (i:Int)))
theorem zKw {d:Nat}(ok:LoOk l) (is:ISL l) (hw:Sl 4 w (qs.map ivRS)) (hql:qs.length=l.rts.length){s:Nat}{b0:Bool}{st:St}(h:IHd l oa ob w 9 s st∧st.T.get 10=some (.imm (.bool b0))∧st.T.get 11=some (.imm (.int .i64 0))){ks:List Kf}{Q:Ex→St→Prop}
  (hk:∀ s' b,IHd l oa ob w 9 s s'→s'.T.get 10=some (.imm (.bool b))→(b=true↔b0=true∨∃ j,j<l.rts.length∧(nth qs j).mode=2∧(nth l.rts j).fr=(s:Int))→Bk DG (K DG d) 0 (.exit 2) ks s' Q):Wp DG (K DG d) 0 D.l17_1 ks st Q:=by
 have hrb:=rb3
 have r6:=is.r2
 have wl:=hw.len
 simp only[List.length_map] at wl
 refine zGt (N:=l.rts.length) (zRH (by omega)) (fun i st=>IHd l oa ob w 9 s st∧st.T.get 11=some (.imm (.int .i64 (i:Int)))∧∃ b,st.T.get 10=some (.imm (.bool b))∧(b=true↔b0=true∨∃ j,j<i∧(nth qs j).mode=2∧(nth l.rts j).fr=(s:Int))) (fun e s'=>e=.exit 2∧IHd l oa ob w 9 s s'∧∃ b,s'.T.get 10=some (.imm (.bool b))∧(b=true↔b0=true∨∃ j,j<l.rts.length∧(nth qs j).mode=2∧(nth l.rts j).fr=(s:Int))) (fun i st hle hI=>?_) ⟨h.1,h.2.2,b0,h.2.1,by simp⟩ (fun e s' h=>by
  obtain⟨rfl,h1,b,h2,h3⟩:=h
  exact hk s' b h1 h2 h3)
 obtain⟨⟨c3,⟨i4,b4,L4⟩,⟨i6,b6,L6⟩,c9⟩,c11,b,c10,hall⟩:=hI
 by_cases hi:i<l.rts.length
 ·have hiq:i<qs.length:=by omega
  have hi1:(i:Int)<qs.length:=by omega
  have hi2:(i:Int)<l.rts.length:=by omega
  have hi':=zI3 hi1
  have hw8:IntKind.i64.wrap ((i:Int)+1)=(i:Int)+1:=zTX hi (by omega)
  have ix:=zIu hw hi1
  have iy:=zIu ok.r hi2
  simp only[Int.toNat_natCast] at ix iy
  have all':∀ b',(b'=true↔b=true∨(nth qs i).mode=2∧(nth l.rts i).fr=(s:Int))→(b'=true↔b0=true∨∃ j,j<i+1∧(nth qs j).mode=2∧(nth l.rts j).fr=(s:Int)):=fun b' hb=>by
   rw[hb,hall]
   constructor
   ·rintro ((h | ⟨j,h1,h2⟩) | h)
    ·exact .inl h
    ·exact .inr ⟨j,by omega,h2⟩
    ·exact .inr ⟨i,by omega,h⟩
   ·rintro (h | ⟨j,h1,h2⟩)
    ·exact .inl (.inl h)
    ·rcases Nat.lt_or_eq_of_le (Nat.le_of_lt_succ h1) with hj | rfl
     ·exact .inl (.inr ⟨j,hj,h2⟩)
     ·exact .inr h2
  have rk:=ok.or _ (zMi hi)
  generalize nth qs i=x at *
  obtain⟨xm,xt,xg,xs⟩:=x
  generalize nth l.rts i=r at *
  simp only at all'
  generalize hQ:(fun (e:Ex) (s':St)=>_)=Q'
  simp only[D.l17_1b]
  cases b with
  | true=>
   simp[c3,b4,L4,b6,L6,c9,c10,c11,wl,hi',hw8,hw.scal,B6,B7]
   subst hQ
   exact .inl ⟨rfl,hi,⟨by simp[gP,c3],⟨i4,by simp[gP,b4],by simp[gP,L4,imms]⟩,⟨i6,by simp[gP,b6],by simp[gP,L6,imms]⟩,by simp[gP,c9]⟩,by simp[gP],true,by simp[gP],all' _ (by simp)⟩
  | false=>
   by_cases hm:xm=2
   ·subst hm
    by_cases hf:r.fr=(s:Int)
    ·simp[c3,b4,L4,b6,L6,c9,c10,c11,wl,hi',hw8,hw.scal,ix,iy,ivRS,ivRt,hf,Lo.ivs,imms,rk.p.scal,rk.q.scal,rk.f.scal,ok.r.scal,B6,B7]
     subst hQ
     exact .inl ⟨rfl,hi,⟨by simp[gP,c3],⟨i4,by simp[gP,b4],by simp[gP,L4,imms]⟩,⟨i6,by simp[gP,b6],by simp[gP,L6,imms]⟩,by simp[gP,c9]⟩,by simp[gP],true,by simp[gP],all' _ (by simp[hf])⟩
    ·simp[c3,b4,L4,b6,L6,c9,c10,c11,wl,hi',hw8,hw.scal,ix,iy,ivRS,ivRt,hf,Lo.ivs,imms,rk.p.scal,rk.q.scal,rk.f.scal,ok.r.scal,B6,B7]
     subst hQ
     exact .inl ⟨rfl,hi,⟨by simp[gP,c3],⟨i4,by simp[gP,b4],by simp[gP,L4,imms]⟩,⟨i6,by simp[gP,b6],by simp[gP,L6,imms]⟩,by simp[gP,c9]⟩,by simp[gP],false,by simp[gP],all' _ (by simp[hf])⟩
   ·simp[c3,b4,L4,b6,L6,c9,c10,c11,wl,hi',hw8,hw.scal,ix,ivRS,hm,imms,B6,B7]
    subst hQ
    exact .inl ⟨rfl,hi,⟨by simp[gP,c3],⟨i4,by simp[gP,b4],by simp[gP,L4,imms]⟩,⟨i6,by simp[gP,b6],by simp[gP,L6,imms]⟩,by simp[gP,c9]⟩,by simp[gP],false,by simp[gP],all' _ (by simp[hm])⟩
 ·obtain rfl:i=l.rts.length:=by omega
  have il:ILt (l.rts.length:Int) (qs.length:Int)=False:=zIz (by omega)
  generalize hQ:(fun (e:Ex) (s':St)=>_)=Q'
  simp only[D.l17_1b]
  simp[c3,b4,L4,b6,L6,c9,c10,c11,wl,il,hw.scal,B6,B7]
  subst hQ
  exact .inr ⟨nofun,rfl,⟨by simp[gP,c3],⟨i4,by simp[gP,b4],by simp[gP,L4,imms]⟩,⟨i6,by simp[gP,b6],by simp[gP,L6,imms]⟩,by simp[gP,c9]⟩,b,by simp[gP,c10],hall⟩
theorem zKv {d:Nat}(ok:LoOk l) (is:ISL l) (hw:Sl 4 w (qs.map ivRS)) (hql:qs.length=l.rts.length) (hb:Sl 1 ob (ps.map ivB1)) (h:Told l qs os ls zs ps){st:St}(hI:IHd l oa ob w 9 0 st){ks:List Kf}{Q:Ex→St→Prop}
  (hk:∀ s',IHd l oa ob w 9 l.sigs.length s'→Bk DG (K DG d) 0 (.exit 0) ks s' Q):Wp DG (K DG d) 0 D.l17_0 ks st Q:=by
 have hrb:=rb3
 have g6:=is.g2
 have hbl:=h.bl
 have gl:=ok.g.len
 simp only[List.length_map] at gl
 obtain⟨ρ,wy,hρ⟩:=h.way
 refine zGt (N:=l.sigs.length) (zRH (by omega)) (fun i st=>IHd l oa ob w 9 i st) (fun e s'=>e=.exit 0∧IHd l oa ob w 9 l.sigs.length s') (fun i st hle hI=>?_) hI (fun e s' h=>by
  obtain⟨rfl,h⟩:=h
  exact hk s' h)
 obtain⟨c3,⟨i4,b4,L4⟩,⟨i6,b6,L6⟩,c9⟩:=hI
 by_cases hi:i<l.sigs.length
 ·have hip:i<ps.length:=by omega
  have hi1:(i:Int)<ps.length:=by omega
  have hi2:(i:Int)<l.sigs.length:=by omega
  have hi':=zI3 hi2
  have hw8:IntKind.i64.wrap ((i:Int)+1)=(i:Int)+1:=zTX hi (by omega)
  have ix:=zIu hb hi1
  simp only[Int.toNat_natCast] at ix
  have yes:∀ b,(b=true↔(!nth ps i)=true∨∃ j,j<l.rts.length∧(nth qs j).mode=2∧(nth l.rts j).fr=(i:Int))→b=true:=fun b hb=>by
   rw[hb]
   cases hp:nth ps i with
   | false=>exact .inl rfl
   | true=>exact .inr ⟨ρ i,(wy.lt i hi hp).1,hρ i hi hp,(wy.lt i hi hp).2.1⟩
  generalize nth ps i=p at *
  generalize hQ:(fun (e:Ex) (s':St)=>_)=Q'
  simp only[D.l17_0b]
  simp[c3,b4,L4,b6,L6,c9,gl,hi',ix,ivB1,imms,B6,B7]
  refine zKw (oa:=oa) (ob:=ob) (s:=i) (b0:=!p) ok is hw hql ⟨⟨by simp[gP,c3],⟨i4,by simp[gP,b4],by simp[gP,L4,imms]⟩,⟨i6,by simp[gP,b6],by simp[gP,L6,imms]⟩,by simp[gP,c9]⟩,by simp[gP],by simp[gP]⟩ (fun s2 b h2 h10 hb=>?_)
  obtain rfl:=yes b hb
  obtain⟨d3,⟨j4,a4,M4⟩,⟨j6,a6,M6⟩,d9⟩:=h2
  simp[d3,a4,M4,a6,M6,d9,h10,hw8,B6,B7]
  subst hQ
  exact .inl ⟨rfl,hi,by simp[gP,d3],⟨j4,by simp[gP,a4],by simp[gP,M4,imms]⟩,⟨j6,by simp[gP,a6],by simp[gP,M6,imms]⟩,by simp[gP]⟩
 ·obtain rfl:i=l.sigs.length:=by omega
  generalize hQ:(fun (e:Ex) (s':St)=>_)=Q'
  simp only[D.l17_0b]
  simp[c3,b4,L4,b6,L6,c9,gl,zI2,imms,B6,B7]
  subst hQ
  exact .inr ⟨nofun,rfl,by simp[gP,c3],⟨i4,by simp[gP,b4],by simp[gP,L4,imms]⟩,⟨i6,by simp[gP,b6],by simp[gP,L6,imms]⟩,by simp[gP,c9]⟩
theorem zKy {d:Nat}(hd:3≤d) (ok:LoOk l) (is:ISL l) (go:zAi l qs) (hw:Sl 4 w (qs.map ivRS)) (hql:qs.length=l.rts.length) (h:Told l qs os ls zs ps){p:Nat}(hp:p<l.pts.length){st:St}(hI:IHd l oa ob w 12 p st∧st.T.get 13=some (.imm (.int .i64 (nth zs p)))∧st.T.get 14=some (.imm (.int .i64 0))){ks:List Kf}{Q:Ex→St→Prop}
  (hk:∀ s',IHd l oa ob w 12 p s'→Bk DG (K DG d) 0 (.exit 6) ks s' Q):Wp DG (K DG d) 0 D.l17_3 ks st Q:=by
 have hrb:=rb3
 have r6:=is.r2
 have wl:=hw.len
 have pl:=ok.p.len
 simp only[List.length_map] at wl pl
 refine zGt (N:=l.rts.length) (zRH (by omega)) (fun i st=>IHd l oa ob w 12 p st∧st.T.get 13=some (.imm (.int .i64 (nth zs p)))∧st.T.get 14=some (.imm (.int .i64 (i:Int)))) (fun e s'=>e=.exit 6∧IHd l oa ob w 12 p s') (fun i st hle hI=>?_) ⟨hI.1,hI.2.1,hI.2.2⟩ (fun e s' h=>by
  obtain⟨rfl,h⟩:=h
  exact hk s' h)
 obtain⟨⟨c3,⟨i4,b4,L4⟩,⟨i6,b6,L6⟩,c12⟩,c13,c14⟩:=hI
 by_cases hi:i<l.rts.length
 ·have hiq:i<qs.length:=by omega
  have hi1:(i:Int)<qs.length:=by omega
  have hi':=zI3 hi1
  have hp1:(p:Int)<l.pts.length:=by omega
  have hw8:IntKind.i64.wrap ((i:Int)+1)=(i:Int)+1:=zTX hi (by omega)
  have ix:=zIu hw hi1
  have iy:=zIu ok.p hp1
  simp only[Int.toNat_natCast] at ix iy
  by_cases hz:nth zs p=0
  ·rw[hz] at c13
   generalize hQ:(fun (e:Ex) (s':St)=>_)=Q'
   simp only[D.l17_3b]
   simp[c3,b4,L4,b6,L6,c12,c13,c14,wl,hi',hw.scal,B6,B7]
   subst hQ
   exact .inr ⟨nofun,rfl,by simp[gP,c3],⟨i4,by simp[gP,b4],by simp[gP,L4,imms]⟩,⟨i6,by simp[gP,b6],by simp[gP,L6,imms]⟩,by simp[gP,c12]⟩
  ·obtain⟨z,en,nz⟩:=zMI (D:=d) hd ok is hi (p:Int)
   have hh:=h.held is hp hz hi nz
   have eh:=zAn (D:=d) (by omega) ok is go hi (nth l.pts p).sec
   have hld':decide ((nth l.pts p).sec∈hld l qs i)=true→z=nth zs p:=fun q=>hh.2 (by simpa using q)
   have hm:=hh.1
   generalize decide ((nth l.pts p).sec∈hld l qs i)=hb at *
   generalize nth zs p=dd at *
   generalize nth qs i=x at *
   generalize nth l.pts p=pt at *
   obtain⟨xm,xt,xg,xs⟩:=x
   simp only[Lo.dv,zPS] at en eh hm
   have fin:∀ {T:PT DV}{L:PT LV}{H:PT HB}{n:Nat},T.get 3=some (.imm w)→(∃ id,T.get 4=some (.lref 4 id 0)∧L.get 4=some (.box id (imms l.ivs)))→(∃ id,T.get 6=some (.lref 6 id 0)∧L.get 6=some (.box id (imms [oa,ob])))→T.get 12=some (.imm (.int .i64 (p:Int)))→T.get 13=some (.imm (.int .i64 dd))→T.get 14=some (.imm (.int .i64 ((i:Int)+1)))→IHd l oa ob w 12 p ⟨T,L,H,n⟩∧PT.get T 13=some (.imm (.int .i64 dd))∧PT.get T 14=some (.imm (.int .i64 ((i+1:Nat):Int))):=fun t3 t4 t6 t12 t13 t14=>⟨⟨t3,t4,t6,t12⟩,t13,by rw[t14]; rfl⟩
   generalize hQ:(fun (e:Ex) (s':St)=>_)=Q'
   simp only[D.l17_3b]
   have ft:∀ P:Prop,P=True∨P=False:=fun P=>(Classical.em P).imp eq_true eq_false
   by_cases e1:z=dd
   ·subst e1
    rcases ft (xm=2) with f2 | f2 <;> rcases ft (xm=3) with f3 | f3 <;> rcases ft (xm=4) with f4 | f4 <;> cases hb <;>
    ·simp[c3,b4,L4,b6,L6,c12,c13,c14,wl,pl,hi',hw8,hz,f2,f3,f4,hw.scal,ix,iy,en,eh,ivRS,ivP,Lo.ivs,imms,ok.sc,B6,B7]
     subst hQ
     exact .inl ⟨rfl,hi,fin (by simp[gP,c3]) ⟨i4,by simp[gP,b4],by simp[gP,L4,imms]⟩ ⟨i6,by simp[gP,b6],by simp[gP,L6,imms]⟩ (by simp[gP,c12]) (by simp[gP,c13]) (by simp[gP])⟩
   ·have e2:hb=false:=by
     cases hb with
     | true=>exact absurd (hld' rfl) e1
     | false=>rfl
    subst e2
    by_cases mi:xm=2∨xm=3∨xm=4
    ·obtain rfl:=(hm mi).resolve_right e1
     rcases ft (xm=2) with f2 | f2 <;> rcases ft (xm=3) with f3 | f3 <;> rcases ft (xm=4) with f4 | f4 <;>
     ·simp[c3,b4,L4,b6,L6,c12,c13,c14,wl,pl,hi',hw8,hz,e1,f2,f3,f4,hw.scal,ix,iy,en,eh,ivRS,ivP,Lo.ivs,imms,ok.sc,B6,B7]
      subst hQ
      exact .inl ⟨rfl,hi,fin (by simp[gP,c3]) ⟨i4,by simp[gP,b4],by simp[gP,L4,imms]⟩ ⟨i6,by simp[gP,b6],by simp[gP,L6,imms]⟩ (by simp[gP,c12]) (by simp[gP,c13]) (by simp[gP])⟩
    ·have f2:(xm=2)=False:=eq_false fun q=>mi (.inl q)
     have f3:(xm=3)=False:=eq_false fun q=>mi (.inr (.inl q))
     have f4:(xm=4)=False:=eq_false fun q=>mi (.inr (.inr q))
     simp[c3,b4,L4,b6,L6,c12,c13,c14,wl,pl,hi',hw8,hz,e1,f2,f3,f4,hw.scal,ix,iy,en,eh,ivRS,ivP,Lo.ivs,imms,ok.sc,B6,B7]
     subst hQ
     exact .inl ⟨rfl,hi,fin (by simp[gP,c3]) ⟨i4,by simp[gP,b4],by simp[gP,L4,imms]⟩ ⟨i6,by simp[gP,b6],by simp[gP,L6,imms]⟩ (by simp[gP,c12]) (by simp[gP,c13]) (by simp[gP])⟩
 ·obtain rfl:i=l.rts.length:=by omega
  have il:ILt (l.rts.length:Int) (qs.length:Int)=False:=zIz (by omega)
  generalize hQ:(fun (e:Ex) (s':St)=>_)=Q'
  simp only[D.l17_3b]
  simp[c3,b4,L4,b6,L6,c12,c13,c14,wl,il,hw.scal,B6,B7]
  subst hQ
  exact .inr ⟨nofun,rfl,by simp[gP,c3],⟨i4,by simp[gP,b4],by simp[gP,L4,imms]⟩,⟨i6,by simp[gP,b6],by simp[gP,L6,imms]⟩,by simp[gP,c12]⟩
theorem zKx {d:Nat}(hd:3≤d) (ok:LoOk l) (is:ISL l) (go:zAi l qs) (hw:Sl 4 w (qs.map ivRS)) (hql:qs.length=l.rts.length) (ha:Sl 1 oa (zs.map ivI)) (h:Told l qs os ls zs ps){st:St}(hI:IHd l oa ob w 12 0 st){ks:List Kf}{Q:Ex→St→Prop}
  (hk:∀ s',Bk DG (K DG d) 0 (.exit 4) ks s' Q):Wp DG (K DG d) 0 D.l17_2 ks st Q:=by
 have hrb:=rb3
 have p5:=is.p2
 have hzl:=h.zl
 have al:=ha.len
 simp only[List.length_map] at al
 refine zGt (N:=zs.length) (zRH (by omega)) (fun i st=>IHd l oa ob w 12 i st) (fun e s'=>e=.exit 4) (fun i st hle hI=>?_) hI (fun e s' h=>by
  rw[h]
  exact hk s')
 obtain⟨c3,⟨i4,b4,L4⟩,⟨i6,b6,L6⟩,c12⟩:=hI
 by_cases hi:i<zs.length
 ·have hi1:(i:Int)<zs.length:=by omega
  have hi':=zI3 hi1
  have hw8:IntKind.i64.wrap ((i:Int)+1)=(i:Int)+1:=zTX hi (by omega)
  have ix:=zIu ha hi1
  simp only[Int.toNat_natCast] at ix
  generalize hQ:(fun (e:Ex) (s':St)=>_)=Q'
  simp only[D.l17_2b]
  simp[c3,b4,L4,b6,L6,c12,al,hi',ix,ivI,imms,B6,B7]
  refine zKy (oa:=oa) (ob:=ob) (p:=i) hd ok is go hw hql h (by omega) ⟨⟨by simp[gP,c3],⟨i4,by simp[gP,b4],by simp[gP,L4,imms]⟩,⟨i6,by simp[gP,b6],by simp[gP,L6,imms]⟩,by simp[gP,c12]⟩,by simp[gP],by simp[gP]⟩ (fun s2 h2=>?_)
  obtain⟨d3,⟨j4,a4,M4⟩,⟨j6,a6,M6⟩,d12⟩:=h2
  simp[d3,a4,M4,a6,M6,d12,hw8,B6,B7]
  subst hQ
  exact .inl ⟨rfl,hi,by simp[gP,d3],⟨j4,by simp[gP,a4],by simp[gP,M4,imms]⟩,⟨j6,by simp[gP,a6],by simp[gP,M6,imms]⟩,by simp[gP]⟩
 ·obtain rfl:i=zs.length:=by omega
  generalize hQ:(fun (e:Ex) (s':St)=>_)=Q'
  simp only[D.l17_2b]
  simp[c3,b4,L4,b6,L6,c12,al,zI2,imms,B6,B7]
  subst hQ
  simp
theorem zAl {D:Nat}(hD:14≤D) (ok:LoOk l) (is:ISL l) (io:InOk ov lv os ls) (mi:MI l os ls) (ha:Sl 1 oa (zs.map ivI)) (hb:Sl 1 ob (ps.map ivB1)) (hw:Sl 4 w (qs.map ivRS)) (inv:INV l qs) (h:Told l qs os ls zs ps) :
  bl (K DG D) 17 [l.dv,inD ov lv,.agg [.imm oa,.imm ob],.imm w]=some (.imm (.bool true)):=by
 obtain⟨d,rfl⟩:∃ d,D=d+1:=⟨D - 1,by omega⟩
 have wl:=hw.len
 have rl:=ok.r.len
 simp only[List.length_map] at wl rl
 have hql:=inv.ln
 have e1:=zBV (D:=d) (by omega) ok is io mi ha hb h
 simp only[Lo.dv,inD] at e1 ⊢
 refine zDd ?_
 rw[kX 17 D.f17 rfl]
 refine zHy rfl ?_
 simp[e1,wl,rl,hql,ha.scal,hb.scal,hw.scal,io.sc,ok.sc,imms,B6,B7]
 refine zKv (oa:=oa) (ob:=ob) ok is hw hql hb h ⟨by simp[gP],⟨0,by simp[gP],by simp[gP,Lo.ivs,imms]⟩,⟨2,by simp[gP],by simp[gP,imms]⟩,by simp[gP]⟩ (fun s2 h2=>?_)
 obtain⟨d3,⟨j4,a4,M4⟩,⟨j6,a6,M6⟩,d9⟩:=h2
 simp[d3,a4,M4,a6,M6,d9,B6,B7]
 refine zKx (oa:=oa) (ob:=ob) (by omega) ok is (zIT inv.ro) hw hql ha h ⟨by simp[gP,d3],⟨j4,by simp[gP,a4],by simp[gP,M4,imms]⟩,⟨j6,by simp[gP,a6],by simp[gP,M6,imms]⟩,by simp[gP]⟩ (fun s3=>?_)
 simp[B6,B7]
end
end Go.Proofs.YtlknjgmhfimhbaaGreatDoor.D
