/- TopHeld: the law. -/
import Derived.Test.YtlknjgmhfimhbaaGreatDoorX3
set_option maxHeartbeats 16000000
set_option maxRecDepth 100000
namespace Go.Proofs.YtlknjgmhfimhbaaGreatDoor.D
open Go Go.PM Go.Lib
def ss_TopHeld:List (Bool×List Kd):=[(true,kdL),(false,[.sl [.sl kdEv]])]
structure ITH (l:Lo) (P g:Nat) (v:IV) (k:Nat) (st:St):Prop where
 c1:st.T.get 1=some (.imm v)
 b2:Box st 2 l.ivs
 c5:st.T.get 5=some (.ptr P 0 0)
 c7:st.T.get 7=some (.ptr g 0 0)
 c9:st.T.get 9=some (.imm (.int .i64 (k:Int)))
 fe:∃ A c s o a b d,Fel l A c st.H st.n P g o a b d k s
theorem zLZ {l:Lo}(ok:LoOk l) (is:ISL l){P g:Nat}{v:IV}{xs:List (IV×List EV)}(hv:Sl 1 v (xs.map ivV)) (hl:xs.length≤reachBytes) (hx:∀ x∈xs,EvOk x){st:St}(h:ITH l P g v 0 st){ks:List Kf}{Q:Ex→St→Prop}
  (hk:∀ s',Bk DG (K DG 29) 0 (.exit 0) ks s' Q):Wp DG (K DG 29) 0 D.l3_0 ks st Q:=by
 have hrb:=rb3
 refine zGt (N:=xs.length) (zRH hl) (ITH l P g v) (fun e s'=>e=.exit 0) (fun k st hle hI=>?_) h (fun e s' h=>h▸hk s')
 obtain⟨c1,⟨i2,b2,L2⟩,c5,c7,c9,A,c,s,o,a,b,d,hf⟩:=hI
 have vl:=hv.len
 simp only[List.length_map] at vl
 by_cases hi:k<xs.length
 ·have hi1:(k:Int)<xs.length:=by omega
  have hi':=zI3 hi1
  by_cases h90:(k:Int)<90
  ·have i90:=zI3 h90
   have hw8:=zTX hi hl
   have ix:=zIu hv hi1
   simp only[Int.toNat_natCast] at ix
   have ex:=hx _ (zMi hi)
   generalize nth xs k=x at *
   obtain⟨Ov,Lv,H1,n1,e1,hn1,io,mi,hc⟩:=hf.cyc (D:=29) (by omega) ok is (by omega) ex.ev ex.ln
   obtain⟨y1,y2,H2,n2,c2,oa,ob,qs,e2,hn2,sn,sa,sb,s1,s2,td,an,cn,hcon,hstep⟩:=hc (n1+1) (by omega)
   have wh:=zTV (D:=29) (by omega) ok sa sb td.zl td.bl td.rng (by have:=td.zl; have:=is.p2; omega)
   have snw:snap.snaps H2.get [l.dv,.agg [y1,y2]]=some [l.dv,.agg [.imm oa,.imm ob]]:=by
    simp only[snap.snaps,sn]
    rfl
   obtain⟨acw,ew⟩:=zDb (m:=n2+1) (lo:=0) snw wh
   obtain⟨k3,g3,hk3⟩:=zBH an.pt (d:=27) (m:=n2+1) (lo:=0)
   have fin:∀ {H:PT HB}{T:PT DV}{L:PT LV}{n n4:Nat},(∃ c4,Fel l A c4 H n4 P g o a b d (k+1) (cycS A s (x.2.take 8)))→n4≤n→T.get 1=some (.imm v)→Box ⟨T,L,H,n⟩ 2 l.ivs→T.get 5=some (.ptr P 0 0)→T.get 7=some (.ptr g 0 0)→T.get 9=some (.imm (.int .i64 ((k:Int)+1)))→ITH l P g v (k+1) ⟨T,L,H,n⟩:=fun ⟨c4,h4⟩ hn t1 t2 t5 t7 t9=>⟨t1,t2,t5,t7,t9,A,c4,_,o,a,b,d,h4.mono hn (fun _ _=>rfl) (fun _ _=>rfl)⟩
   simp only[Lo.dv] at ew
   by_cases hc0:(cycS A s (x.2.take 8)).r.con<0
   ·have ilc:=zI3 hc0
    obtain⟨v4,H4,n4,c4,e4,hn4,h4⟩:=hstep k3 (by omega)
    generalize (cycS A s (x.2.take 8)).r.con=con at *
    generalize hQ:(fun (e:Ex) (s':St)=>_)=Q'
    simp only[D.l3_0b]
    simp[c1,b2,L2,c5,c7,c9,vl,hi',i90,hw8,ix,e1,io.sc,e2,s1.1,s1.2,s2.1,ew,g3,ilc,e4,ivV,Lo.ivs,imms,B6,B7]
    subst hQ
    exact .inl ⟨rfl,hi,fin ⟨_,h4⟩ (Nat.le_refl _) (by simp[gP]) ⟨i2,by simp[gP],by simp[gP,imms]⟩ (by simp[gP]) (by simp[gP]) (by simp[gP])⟩
   ·have ilc:=zIz (Int.not_lt.1 hc0)
    obtain⟨i,hic⟩:=Int.eq_ofNat_of_zero_le (Int.not_lt.1 hc0)
    obtain⟨hi2,rfl,inv⟩:=hcon i hic
    obtain⟨w,k5,e5,hk5,hw⟩:=zBL an.pt hi2 (by have:=(an.pi.uo i hi2).len (an.ao.is i hi2); omega) (d:=27) (m:=k3) (lo:=0) (by omega) (by omega)
    have em:=zAx (D:=29) (by omega) ok is inv.ro inv.nc inv.ln hw
    have eh:=zAl (D:=29) (by omega) ok is io mi sa sb hw inv td
    have snh:snap.snaps H2.get [l.dv,inD Ov Lv,.agg [y1,y2],.imm w]=some [l.dv,inD Ov Lv,.agg [.imm oa,.imm ob],.imm w]:=by
     simp only[snap.snaps,sn]
     rfl
    obtain⟨ach,eh'⟩:=zDb (m:=k5) (lo:=0) snh eh
    obtain⟨v4,H4,n4,c4,e4,hn4,h4⟩:=hstep k5 (by omega)
    simp only[Lo.dv,inD] at em eh'
    rw[hic] at ilc g3
    generalize hQ:(fun (e:Ex) (s':St)=>_)=Q'
    simp only[D.l3_0b]
    simp[c1,b2,L2,c5,c7,c9,vl,hi',i90,hw8,ix,e1,io.sc,e2,s1.1,s1.2,s2.1,ew,g3,ilc,e5,em,eh',e4,ivV,Lo.ivs,imms,B6,B7]
    subst hQ
    exact .inl ⟨rfl,hi,fin ⟨_,h4⟩ (Nat.le_refl _) (by simp[gP]) ⟨i2,by simp[gP],by simp[gP,imms]⟩ (by simp[gP]) (by simp[gP]) (by simp[gP])⟩
  ·have i90:=zIz (Int.not_lt.1 h90)
   generalize hQ:(fun (e:Ex) (s':St)=>_)=Q'
   simp only[D.l3_0b]
   simp[c1,b2,L2,c5,c7,c9,vl,hi',i90,B6,B7]
   subst hQ
   simp
 ·obtain rfl:k=xs.length:=by omega
  generalize hQ:(fun (e:Ex) (s':St)=>_)=Q'
  simp only[D.l3_0b]
  simp[c1,b2,L2,c5,c7,c9,vl,zI2,B6,B7]
  subst hQ
  simp
theorem pure_TopHeld:∀ cs,zAD ss_TopHeld cs→∃ H' n',K (zFj 0 1) 30 3 cs .lf 0 0=some (.imm (.bool true),H',n'):=fun cs h=>by
 obtain⟨d,ds,rfl,h1,h2⟩:=zHi h
 obtain⟨l,rfl,ok⟩:=lay_of h1
 obtain⟨d1,r1,rfl,g1,h3⟩:=zHi h2
 obtain⟨iv,rfl,hf⟩:=zHj g1
 obtain⟨xs,hv,hl,hx⟩:=zHS hf
 cases fit0 (r:=[]) h3
 suffices key:Fe (K DG 30 3 [l.dv,.imm iv] .lf 0 0) (fun v _ _=>v=.imm (.bool true)) by
  obtain⟨v,H,n,e,rfl⟩:=key
  exact⟨H,n,e⟩
 obtain⟨b,ef,hb⟩:=zHd (D:=29) (by omega) ok hv hl hx
 rw[kX 3 D.f3 rfl]
 refine zHy rfl ?_
 simp only[Lo.dv] at ef ⊢
 cases b with
 | false=>simp[ok.sc,ef,B6,B7]
 | true=>
  obtain⟨is,sm⟩:=hb rfl
  obtain⟨P,A,c,H1,n1,e1,h1,-,-,-⟩:=Any.new (d:=28) (by omega) ok is .lf 1
  obtain⟨g,o,a,b,d,c2,H2,n2,e2,h2⟩:=Fel.new (D:=28) (by omega) ok is sm h1
  simp only[Lo.dv] at e1 e2
  have kn:=zJo (D:=29) (by omega)
  simp[ok.sc,ef,e1,e2,B6,B7]
  refine zLZ ok is (P:=P) (g:=g) hv hl hx ⟨by simp[gP],⟨0,by simp[gP],by simp[gP,Lo.ivs,imms]⟩,by simp[gP],by simp[gP],by simp[gP],A,c2,_,o,a,b,d,h2⟩ (fun s2=>?_)
  simp[kn,B6,B7]
end Go.Proofs.YtlknjgmhfimhbaaGreatDoor.D
