/-
  TopHeld: what its functions compute, and the law (part 1).
-/
import Derived.Test.YtlknjgmhfimhbaaGreatDoorX0
import Derived.Test.YtlknjgmhfimhbaaGreatDoorFn
import Derived.Test.YtlknjgmhfimhbaaGreatDoorDoor
import Derived.Test.YtlknjgmhfimhbaaGreatDoorWp
set_option linter.unusedVariables false
set_option linter.unusedSimpArgs false
set_option maxHeartbeats 16000000
namespace Go.Proofs.YtlknjgmhfimhbaaGreatDoor.D
open Go Go.PM Go.Lib
def zGf (v:IV) (i:Nat):IV:=match v with
 | .lst full sz es=>.lst (full&&decide (es.length=es.length)) sz ((es.take es.length).drop i)
 | v=>v
variable {s:Nat} {v:IV}
theorem zGg {α:Type}{xs:List α}{f:α→List IV}(hv:Sl s v (xs.map f)) (i:Nat):Sl s (zGf v i) ((xs.drop i).map f):=by
 rcases hv with⟨rfl,hn⟩ | ⟨g,rfl⟩
 ·have:xs=[]:=by simpa using hn
  subst this
  exact .inl ⟨rfl,by simp⟩
 ·refine .inr ⟨g&&decide ((xs.map f).length=(xs.map f).length),?_⟩
  simp only[zGf]
  rw[List.take_length,List.map_drop]
variable {h:Nat→Option HB} {n:Nat} {z:Int}
theorem zQ4 {α:Type}{xs:List α}{f:α→List IV}(hv:Sl s v (xs.map f))(h0:0≤z) (hz:z≤xs.length) :
  zQ7 h n s (.imm v) (some (.imm (.int .i64 z))) none none=some { v:=.imm (zGf v z.toNat),n':=n }:=by
 rcases hv with⟨rfl,hn⟩ | ⟨g,rfl⟩
 ·have:xs=[]:=by simpa using hn
  subst this
  have:z=0:=by simp at hz; omega
  subst this
  rfl
 ·have h1:zMF (some (.imm (.int .i64 z))) 0=some z.toNat:=by simp[zMF,zCl,h0]
  have h2:z.toNat≤(xs.map f).length:=by simp; omega
  have h3:zMF none (xs.map f).length=some (xs.map f).length:=rfl
  simp only[zQ7,h1,h3,zGf,if_true]
  rw[if_pos ⟨h2,Nat.le_refl _⟩]
def hld (l:Lo) (rs:List Rst) (r:Nat):List Int:=
 if (nth rs r).mode=1∨(nth rs r).mode=2∨(nth rs r).mode=4 then (nth l.rts r).path else if (nth rs r).mode=3 then (nth l.rts r).path.drop (nth rs r).gone.toNat else []
def zAi (l:Lo) (rs:List Rst):Prop:=∀ r,r<l.rts.length→(nth rs r).mode=3→0≤(nth rs r).gone∧(nth rs r).gone≤(nth l.rts r).path.length
variable {l:Lo} {r:Nat} {rs:List Rst}
theorem zIm(h:z∈hld l rs r):z∈(nth l.rts r).path:=by
 unfold hld at h
 split at h
 ·exact h
 ·split at h
  ·exact List.mem_of_mem_drop h
  ·cases h
variable {H:PT HB} {own:List Nat} {x:DV}
theorem RsAt.sl(h:RsAt H x own rs) (h0:0<rs.length):∃ id,own=[id]∧x=.sl id 0 rs.length rs.length∧H.get id=some ⟨4,rs.map zPS⟩:=by
 rcases h with⟨rfl,_⟩ | h
 ·simp at h0
 ·exact h
theorem RsAt.len(h:RsAt H x own rs):lenOf x=some rs.length:=by
 rcases h with⟨rfl,_,v,rfl,hv⟩ | ⟨id,_,rfl,_⟩
 ·exact hv.len
 ·rfl
variable {d lo p:Nat}
theorem zIl(ok:LoOk l) (lk:LkAt H p own l rs) (go:zAi l rs)(hr:r<l.rts.length) :
  ∃ u n',K DG (d+1) 203 [.ptr p 0 0,.imm (.int .i64 r)] H n lo=some (.imm u,H,n')∧n≤n'∧Sl 1 u ((hld l rs r).map ivI):=by
 obtain⟨x,h1,h2,h3,h4⟩:=lk
 obtain⟨id,rfl,rfl,hrs⟩:=h2.sl (by omega)
 have rk:=ok.or _ (zMi hr)
 have hr1:(r:Int)<l.rts.length:=by omega
 have ix:=zIu ok.r hr1
 have iy:=fun {n:Nat}=>zIs (h:=H.get) (n:=n) (id:=id) (row:=0) (len:=rs.length) (cap:=rs.length) hrs rfl (k:=.i64) (z:=(r:Int)) (by omega) (by omega)
 have hrow:(rs.map zPS)[r]?=some (zPS (nth rs r)):=by rw[List.getElem?_map,zMh (by omega)]; rfl
 generalize hrr:rs.map zPS=rows at hrs hrow
 simp only[Int.toNat_natCast,Nat.zero_add] at iy
 have key:Fe (K DG (d+1) 203 [.ptr p 0 0,.imm (.int .i64 r)] H n lo) (fun v H' n'=>H'=H∧n≤n'∧∃ u,v=.imm u∧Sl 1 u ((hld l rs r).map ivI)):=by
  rw[kX 203 D.f203 rfl]
  refine zHy rfl ?_
  have hpne:¬id=p:=fun e=>by subst e; simp at h3
  by_cases m1:(nth rs r).mode=1
  ·have e:hld l rs r=(nth l.rts r).path:=by simp[hld,m1]
   rw[e]
   simp[h1,hrs,ix,iy,hrow,m1,ivRt,B6,B7]
   exact rk.p
  ·by_cases m2:(nth rs r).mode=2
   ·have e:hld l rs r=(nth l.rts r).path:=by simp[hld,m2]
    rw[e]
    simp[h1,hrs,ix,iy,hrow,m1,m2,ivRt,B6,B7]
    exact rk.p
   ·by_cases m4:(nth rs r).mode=4
    ·have e:hld l rs r=(nth l.rts r).path:=by simp[hld,m4]
     rw[e]
     simp[h1,hrs,ix,iy,hrow,m1,m2,m4,ivRt,B6,B7]
     exact rk.p
    ·by_cases m3:(nth rs r).mode=3
     ·have e:hld l rs r=(nth l.rts r).path.drop (nth rs r).gone.toNat:=by simp[hld,m3]
      obtain⟨g0,g1⟩:=go r hr m3
      have sc:=fun {h:Nat→Option HB}{n:Nat}=>zQ4 (h:=h) (n:=n) rk.p g0 g1
      rw[e]
      simp[h1,hrs,ix,iy,hrow,m1,m2,m3,m4,sc,ivRt,B6,B7]
      have:=zGg rk.p (nth rs r).gone.toNat
      simpa [List.map_drop] using this
     ·have e:hld l rs r=[]:=by simp[hld,m1,m2,m3,m4]
      rw[e]
      simp[h1,hrs,ix,iy,hrow,m1,m2,m3,m4,ivRt,B6,B7]
      exact .inl ⟨rfl,rfl⟩
 obtain⟨v,H',n',e,rfl,hn,u,rfl,hu⟩:=key
 exact⟨u,n',e,hn,hu⟩
noncomputable def hol (l:Lo) (rs:List Rst) (z:Int):Int:=match (List.range l.rts.length).find? (fun r=>decide (z∈hld l rs r)) with
 | some r=>(r:Int)
 | none=>-1
theorem zIp(h:∀ j,j<l.rts.length→z∉hld l rs j):hol l rs z=-1:=by
 have:(List.range l.rts.length).find? (fun r=>decide (z∈hld l rs r))=none:=List.find?_eq_none.2 fun r hr=>by simpa using h r (List.mem_range.1 hr)
 simp only[hol,this]
variable {i:Nat}
theorem zIq(hi:i<l.rts.length) (hm:z∈hld l rs i) (h:∀ j,j<i→z∉hld l rs j):hol l rs z=(i:Int):=by
 have:(List.range l.rts.length).find? (fun r=>decide (z∈hld l rs r))=some i:=by
  rw[List.find?_range_eq_some]
  exact⟨by simpa using hm,List.mem_range.2 hi,fun j hj=>by simpa using h j hj⟩
 simp only[hol,this]
theorem zIo:hol l rs z<0↔∀ j,j<l.rts.length→z∉hld l rs j:=by
 constructor
 ·intro h j hj hm
  unfold hol at h
  cases e:(List.range l.rts.length).find? (fun r=>decide (z∈hld l rs r)) with
  | none=>have:=List.find?_eq_none.1 e j (List.mem_range.2 hj); simp[hm] at this
  | some r=>rw[e] at h; simp at h; omega
 ·intro h; rw[zIp h]; decide
def IHo (p:Nat) (l:Lo) (rs:List Rst) (H:PT HB) (n0:Nat) (z:Int) (i:Nat) (st:St):Prop:=st.T.get 0=some (.ptr p 0 0)∧st.T.get 1=some (.imm (.int .i64 z))∧st.T.get 12=some (.imm (.int .i64 l.rts.length))∧st.T.get 13=some (.imm (.int .i64 i))∧st.H=H∧n0≤st.n∧∀ j,j<i→z∉hld l rs j
variable {Q:Ex→St→Prop} {ks:List Kf} {n0:Nat} {st:St}
theorem zKz(hd:2≤d)(ok:LoOk l) (lk:LkAt H p own l rs) (go:zAi l rs) (hp:∀ r,r<l.rts.length→(nth l.rts r).path.length≤100)(h:IHo p l rs H n0 z 0 st)
  (hk:∀ e st',st'.H=H→n0≤st'.n→(e=.ret∧∃ i,st'.T.get 4=some (.imm (.int .i64 i))∧i=hol l rs z)∨(e=.exit 0∧hol l rs z=-1)→Bk DG (K DG d) lo e ks st' Q):Wp DG (K DG d) lo D.l197_0 ks st Q:=by
 have hrb:=rb3
 obtain⟨d,rfl⟩:∃ d',d=d'+1:=⟨d - 1,by omega⟩
 refine zGt (N:=l.rts.length) (zRH ok.lr) (IHo p l rs H n0 z) (fun e st'=>st'.H=H∧n0≤st'.n∧((e=.ret∧∃ i,st'.T.get 4=some (.imm (.int .i64 i))∧i=hol l rs z)∨(e=.exit 0∧hol l rs z=-1))) (fun i st hle hI=>?_) h (fun e s' h=>hk e s' h.1 h.2.1 h.2.2)
 obtain⟨h0,h1,h12,h13,hH,hn,hall⟩:=hI
 by_cases hi:i<l.rts.length
 ·have hi1:(i:Int)<l.rts.length:=by omega
  have hi':=zI3 hi1
  have hw8:IntKind.i64.wrap ((i:Int)+1)=(i:Int)+1:=zTX hi ok.lr
  obtain⟨u,n1,e1,hn1,hu⟩:=zIl (d:=d) ok lk go hi (n:=st.n) (lo:=st.n)
  have hlen:(hld l rs i).length≤reachBytes:=by
   have:(hld l rs i).length≤(nth l.rts i).path.length:=by
    unfold hld
    split
    ·omega
    ·split <;> simp
   have:=hp i hi
   omega
  have hc:=zEq DG (D:=d+1) (by omega) hu hlen z
  generalize hQ:(fun (e:Ex) (s':St)=>_)=Q'
  simp only[D.l197_0b]
  by_cases hm:z∈hld l rs i
  ·simp[h0,h1,h12,h13,hH,hi',e1,hc,hm,B6,B7]
   subst hQ
   exact .inr ⟨nofun,rfl,by simp; omega,.inl ⟨rfl,(i:Int),by simp[gP],(zIq hi hm hall).symm⟩⟩
  ·simp[h0,h1,h12,h13,hH,hi',hw8,e1,hc,hm,B6,B7]
   subst hQ
   refine .inl ⟨rfl,hi,by simp[gP],by simp[gP],by simp[gP],by simp[gP],rfl,by simp; omega,fun j hj=>?_⟩
   rcases Nat.lt_or_eq_of_le (Nat.le_of_lt_succ hj) with hj | rfl
   ·exact hall j hj
   ·exact hm
 ·obtain rfl:i=l.rts.length:=by omega
  generalize hQ:(fun (e:Ex) (s':St)=>_)=Q'
  simp only[D.l197_0b]
  simp[h0,h1,h12,h13,hH,B6,B7]
  subst hQ
  exact .inr ⟨nofun,rfl,hn,.inr ⟨rfl,zIp hall⟩⟩
theorem zAm(hd:2≤d)(ok:LoOk l) (lk:LkAt H p own l rs) (go:zAi l rs) (hp:∀ r,r<l.rts.length→(nth l.rts r).path.length≤100) (z:Int) :
  ∃ n',K DG (d+1) 197 [.ptr p 0 0,.imm (.int .i64 z)] H n lo=some (.imm (.int .i64 (hol l rs z)),H,n')∧n≤n':=by
 have lk0:=lk
 obtain⟨x,h1,h2,h3,h4⟩:=lk
 have xl:=h2.len
 rw[h4] at xl
 have key:Fe (K DG (d+1) 197 [.ptr p 0 0,.imm (.int .i64 z)] H n lo) (fun v H' n'=>v=.imm (.int .i64 (hol l rs z))∧H'=H∧n≤n'):=by
  rw[kX 197 D.f197 rfl]
  refine zHy rfl ?_
  simp[h1,xl,B6,B7]
  refine zKz (l:=l) (rs:=rs) (z:=z) hd ok lk0 go hp ⟨by simp[gP],by simp[gP],by simp[gP],by simp[gP],rfl,Nat.le_refl _,fun j hj=>by omega⟩ ?_
  rintro e st' hH hn (⟨rfl,i,h4,rfl⟩ | ⟨rfl,he⟩)
  ·simp[h4,hH,hn,B6,B7]
  ·simp[he,hH,hn,B6,B7]
 obtain⟨v,H',n',e,rfl,rfl,hn⟩:=key
 exact⟨n',e,hn⟩
def pos (x:Need):Int:=if x.rev then 2 else 1
theorem zN6 {D:Nat}(hD:1≤D) (a:Int) (b:Bool):bl (K DG D) 199 [.agg [.imm (.int .i64 a),.imm (.bool b)]]=some (.imm (.int .i64 (pos ⟨a,b⟩))):=by
 obtain⟨d,rfl⟩:∃ d,D=d+1:=⟨D - 1,by omega⟩
 refine zDd ?_
 rw[kX 199 D.f199 rfl]
 refine zHy rfl ?_
 cases b <;> simp[pos,B6,B7]
variable {lv ov:IV} {os:List Bool}
theorem zKK {D:Nat}(hD:2≤D){ls:List Int}(io:InOk ov lv os ls){x:Need}(hx:InR x.pt ls.length) :
  bl (K DG D) 198 [inD ov lv,.agg [.imm (.int .i64 x.pt),.imm (.bool x.rev)]]=some (.imm (.bool (dec (nth ls x.pt.toNat=pos x)))):=by
 obtain⟨d,rfl⟩:∃ d,D=d+1:=⟨D - 1,by omega⟩
 have e:=zN6 (D:=d) (by omega) x.pt x.rev
 have ix:=fun {h:Nat→Option HB}{n:Nat}=>zIy (h:=h) (n:=n) io.l (by omega) (k:=.i64) (z:=x.pt) hx.1 hx.2
 refine zDd ?_
 rw[kX 198 D.f198 rfl]
 refine zHy rfl ?_
 simp[io.sc,e,ix,ivI,B6,B7]
 exact zFW
variable {a:Nat}
theorem zQQ(hd:1≤d){ls:List Int}(io:InOk ov lv os ls)(ha:H.get a=some ⟨2,[[.imm ov,.imm lv]]⟩){path:List Int}(hp:∀ z∈path,InR z os.length) :
  Says d 200 [.ptr a 0 0] H n0 (fun z:Int=>.imm (.int .i64 z)) (fun z=>nth os z.toNat=true) (fun z=>z∈path):=fun z hz n hn=>by
 obtain⟨d,rfl⟩:∃ d',d=d'+1:=⟨d - 1,by omega⟩
 have ix:=fun {h:Nat→Option HB}{n:Nat}=>zIy (h:=h) (n:=n) io.o (by omega) (k:=.i64) (z:=z) (hp z hz).1 (hp z hz).2
 have key:Fe (K DG (d+1) 200 [.imm (.int .i64 z),.ptr a 0 0] H n n) (fun x _ n'=>n≤n'∧x=.imm (.bool (dec (nth os z.toNat=true)))):=by
  rw[kX 200 D.f200 rfl]
  refine zHy rfl ?_
  simp[ha,ix,ivB1,B6,B7]
  cases nth os z.toNat with
  | true=>exact (zFd rfl).symm
  | false=>exact (zFX (by simp)).symm
 obtain⟨x,H1,n1,e,h1,rfl⟩:=key
 exact⟨H1,n1,e,h1⟩
theorem zJT {D:Nat}(hD:4≤D){ls:List Int}(io:InOk ov lv os ls){pv:IV}{path:List Int}(hv:Sl 1 pv (path.map ivI)) (hl:path.length≤reachBytes) (hp:∀ z∈path,InR z os.length) :
  bl (K DG D) 188 [inD ov lv,.imm pv]=some (.imm (.bool (dec (∃ z∈path,nth os z.toNat=true)))):=by
 obtain⟨d,rfl⟩:∃ d,D=d+3:=⟨D - 3,by omega⟩
 obtain⟨x1,H1,n1,e1,hn1,rfl⟩:=zEo (d:=d) (n:=1) (H:=PT.lf.put 0 (some ⟨2,[[.imm ov,.imm lv]]⟩)) (f:=200) (caps:=[.ptr 0 0 0]) rfl (zQQ (by omega) io (by simp[gP]) hp) hv hl 1
 generalize (∃ z∈path,nth os z.toNat=true)=P at e1 ⊢
 refine zDd ?_
 rw[kX 188 D.f188 rfl]
 refine zHy rfl ?_
 simp[io.sc,e1,B6,B7]
theorem ISL.p5(h:ISL l):∀ r,r<l.rts.length→(nth l.rts r).path.length≤100:=fun r hr=>by have:=(h.rr r hr).p5; omega
theorem zMG(is:ISL l)(hr:r<l.rts.length){x:Need}(hx:x∈nd (nth l.rts r)):InR x.pt l.pts.length:=by
 rcases List.mem_append.1 hx with h | h
 ·obtain⟨i,hi,rfl⟩:=zL2 h
  exact ((is.rr r hr).np i hi).1
 ·obtain⟨i,hi,rfl⟩:=zL2 h
  exact ((is.rr r hr).nf i hi).1
def zQa (l:Lo) (x:Need):Int:=(nth l.pts x.pt.toNat).sec
theorem zQb(is:ISL l)(hr:r<l.rts.length){x:Need}(hx:x∈nd (nth l.rts r)):InR (zQa l x) l.secs.length:=by
 have h:=zMG is hr hx
 exact is.ps _ (by have:=h.1; have:=h.2; omega)
theorem zNw(is:ISL l)(hr:r<l.rts.length)(hz:z∈(nth l.rts r).path):InR z l.secs.length:=by
 obtain⟨i,hi,rfl⟩:=zL2 hz
 exact (zBG.1 (is.rr r hr).pa i hi).1
def zA5 (l:Lo) (rs:List Rst) (os:List Bool) (ls:List Int) (x:Need):Prop:=nth ls x.pt.toNat=pos x∨(nth os (zQa l x).toNat=false∧hol l rs (zQa l x)<0)
structure FRE (l:Lo) (rs:List Rst) (os:List Bool) (ls:List Int) (r:Nat):Prop where
 cf:∀ s,s<l.rts.length→(nth rs s).mode≠0→¬CF l r s
 nf:∀ i,i<(nd (nth l.rts r)).length→zA5 l rs os ls (nth (nd (nth l.rts r)) i)
 oc:¬∃ z∈(nth l.rts r).path,nth os z.toNat=true
structure IF0 (H:PT HB) (p n0:Nat) (x:DV) (ov lv:IV) (l:Lo) (rs:List Rst) (r:Nat) (i:Nat) (st:St):Prop where
 h0:st.T.get 0=some (.ptr p 0 0)
 h2:st.T.get 2=some (.imm (.int .i64 r))
 b4:Box st 4 [ov,lv]
 h15:st.T.get 15=some x
 h16:st.T.get 16=some (.imm (.int .i64 l.rts.length))
 h17:st.T.get 17=some (.imm (.int .i64 i))
 hh:st.H=H
 hn:n0≤st.n
 all:∀ s,s<i→(nth rs s).mode≠0→¬CF l r s
theorem zKn(hd:9≤d)(ok:LoOk l) (is:ISL l) (h1:H.get p=some ⟨5,[[.imm l.sv,.imm l.pv,.imm l.gv,.imm l.rv,x]]⟩) (h2:RsAt H x own rs) (h4:rs.length=l.rts.length)(hr:r<l.rts.length){ls:List Int}
  (h:IF0 H p n0 x ov lv l rs r 0 st) (hk:∀ e st',(e=.ret∧st'.H=H∧n0≤st'.n∧st'.T.get 6=some (.imm (.bool false))∧¬FRE l rs os ls r)∨(e=.exit 0∧IF0 H p n0 x ov lv l rs r l.rts.length st')→Bk DG (K DG d) lo e ks st' Q) :
  Wp DG (K DG d) lo D.l194_0 ks st Q:=by
 refine zGt (N:=l.rts.length) (zRH ok.lr) (IF0 H p n0 x ov lv l rs r) (fun e st'=>(e=.ret∧st'.H=H∧n0≤st'.n∧st'.T.get 6=some (.imm (.bool false))∧¬FRE l rs os ls r)∨(e=.exit 0∧IF0 H p n0 x ov lv l rs r l.rts.length st')) (fun i st hle hI=>?_) h (fun e s' h=>hk e s' h)
 obtain⟨g0,g2,⟨i4,g4,L4⟩,g15,g16,g17,hH,hn,hall⟩:=hI
 by_cases hi:i<l.rts.length
 ·have hi1:(i:Int)<l.rts.length:=by omega
  have hi':=zI3 hi1
  have hw8:IntKind.i64.wrap ((i:Int)+1)=(i:Int)+1:=zTX hi ok.lr
  obtain⟨id,rfl,rfl,hrs⟩:=h2.sl (by omega)
  have iy:=fun {n:Nat}=>zIs (h:=H.get) (n:=n) (id:=id) (row:=0) (len:=rs.length) (cap:=rs.length) hrs rfl (k:=.i64) (z:=(i:Int)) (by omega) (by omega)
  have hrow:(rs.map zPS)[i]?=some (zPS (nth rs i)):=by rw[List.getElem?_map,zMh (by omega)]; rfl
  generalize hrr:rs.map zPS=rows at hrs hrow
  simp only[Int.toNat_natCast,Nat.zero_add] at iy
  have hc:=zAK (D:=d) hd ok is.few hr hi
  have no:(nth rs i).mode≠0→CF l r i→¬FRE l rs os ls r:=fun a b h=>h.cf i hi a b
  generalize hQ:(fun (e:Ex) (s':St)=>_)=Q'
  simp only[D.l194_0b]
  by_cases hm:(nth rs i).mode=0
  ·simp[g0,g2,g4,L4,g15,g16,g17,hH,hi',hw8,iy,hrs,hrow,hm,B6,B7]
   subst hQ
   refine .inl ⟨rfl,hi,by simp[gP],by simp[gP],⟨i4,by simp[gP],by simp[gP,imms]⟩,by simp[gP],by simp[gP],by simp[gP],rfl,by simp; omega,fun s hs=>?_⟩
   rcases Nat.lt_or_eq_of_le (Nat.le_of_lt_succ hs) with hs | rfl
   ·exact hall s hs
   ·exact fun h=>absurd hm h
  ·by_cases hcf:CF l r i
   ·rw[zFd hcf] at hc
    simp[g0,g2,g4,L4,g15,g16,g17,hH,hi',hw8,iy,hrs,hrow,hm,h1,hc,B6,B7]
    subst hQ
    exact .inr ⟨nofun,.inl ⟨rfl,rfl,by simp; omega,by simp[gP],no hm hcf⟩⟩
   ·rw[zFX hcf] at hc
    simp[g0,g2,g4,L4,g15,g16,g17,hH,hi',hw8,iy,hrs,hrow,hm,h1,hc,B6,B7]
    subst hQ
    refine .inl ⟨rfl,hi,by simp[gP],by simp[gP],⟨i4,by simp[gP],by simp[gP,imms]⟩,by simp[gP],by simp[gP],by simp[gP],rfl,by simp; omega,fun s hs=>?_⟩
    rcases Nat.lt_or_eq_of_le (Nat.le_of_lt_succ hs) with hs | rfl
    ·exact hall s hs
    ·exact fun _=>hcf
 ·obtain rfl:i=l.rts.length:=by omega
  generalize hQ:(fun (e:Ex) (s':St)=>_)=Q'
  simp only[D.l194_0b]
  simp[g0,g2,g4,L4,g15,g16,g17,hH,B6,B7]
  subst hQ
  exact .inr ⟨nofun,.inr ⟨rfl,by simp[gP],by simp[gP],⟨i4,by simp[gP,g4],by simp[gP,L4,imms]⟩,by simp[gP],by simp[gP],by simp[gP],rfl,hn,hall⟩⟩
structure IF1 (H:PT HB) (p n0:Nat) (nv ov lv:IV) (l:Lo) (rs:List Rst) (os:List Bool) (ls:List Int) (r:Nat) (i:Nat) (st:St):Prop where
 h0:st.T.get 0=some (.ptr p 0 0)
 h2:st.T.get 2=some (.imm (.int .i64 r))
 b4:Box st 4 [ov,lv]
 h40:st.T.get 40=some (.imm nv)
 h41:st.T.get 41=some (.imm (.int .i64 (nd (nth l.rts r)).length))
 h42:st.T.get 42=some (.imm (.int .i64 i))
 hh:st.H=H
 hn:n0≤st.n
 all:∀ j,j<i→zA5 l rs os ls (nth (nd (nth l.rts r)) j)
theorem zKo(hd:9≤d)(ok:LoOk l) (is:ISL l) (lk:LkAt H p own l rs) (go:zAi l rs){ls:List Int}(io:InOk ov lv os ls) (mi:MI l os ls)(hr:r<l.rts.length){nv:IV}(hv:Sl 2 nv ((nd (nth l.rts r)).map ivN))
  (h:IF1 H p n0 nv ov lv l rs os ls r 0 st) (hk:∀ e st',(e=.ret∧st'.H=H∧n0≤st'.n∧st'.T.get 6=some (.imm (.bool false))∧¬FRE l rs os ls r)∨(e=.exit 2∧IF1 H p n0 nv ov lv l rs os ls r (nd (nth l.rts r)).length st')→Bk DG (K DG d) lo e ks st' Q) :
  Wp DG (K DG d) lo D.l194_1 ks st Q:=by
 have hrb:=rb3
 obtain⟨d,rfl⟩:∃ d',d=d'+1:=⟨d - 1,by omega⟩
 have hnl:(nd (nth l.rts r)).length≤reachBytes:=by have:=is.few r hr; simp[nd]; omega
 refine zGt (N:=(nd (nth l.rts r)).length) (zRH hnl) (IF1 H p n0 nv ov lv l rs os ls r) (fun e st'=>(e=.ret∧st'.H=H∧n0≤st'.n∧st'.T.get 6=some (.imm (.bool false))∧¬FRE l rs os ls r)∨(e=.exit 2∧IF1 H p n0 nv ov lv l rs os ls r (nd (nth l.rts r)).length st')) (fun i st hle hI=>?_) h (fun e s' h=>hk e s' h)
 obtain⟨g0,g2,⟨i4,g4,L4⟩,g40,g41,g42,hH,hn,hall⟩:=hI
 have lk0:=lk
 obtain⟨x,h1,h2,h3,h4⟩:=lk
 by_cases hi:i<(nd (nth l.rts r)).length
 ·have hi1:(i:Int)<(nd (nth l.rts r)).length:=by omega
  have hi':=zI3 hi1
  have hw8:IntKind.i64.wrap ((i:Int)+1)=(i:Int)+1:=zTX hi hnl
  have ix:=zIu hv hi1
  have no:¬zA5 l rs os ls (nth (nd (nth l.rts r)) i)→¬FRE l rs os ls r:=fun a h=>a (h.nf i hi)
  have hmem:=zMi hi
  have yes:zA5 l rs os ls (nth (nd (nth l.rts r)) i)→∀ j,j<i+1→zA5 l rs os ls (nth (nd (nth l.rts r)) j):=fun h j hj=>by
   rcases Nat.lt_or_eq_of_le (Nat.le_of_lt_succ hj) with hj | rfl
   ·exact hall j hj
   ·exact h
  simp only[Int.toNat_natCast] at ix
  generalize hgx:nth (nd (nth l.rts r)) i=y at *
  have hpt:=zMG is hr hmem
  have hsec:=zQb is hr hmem
  have ip:=fun {h:Nat→Option HB}{n:Nat}=>zIv (h:=h) (n:=n) ok.p (by omega) (k:=.i64) (z:=y.pt) hpt
  have io':=fun {h:Nat→Option HB}{n:Nat}=>zIv (h:=h) (n:=n) io.o (by omega) (k:=.i64) (z:=zQa l y) (by rw[mi.1]; exact hsec)
  have hl:=zKK (D:=d+1) (by omega) io (x:=y) (by rw[mi.2.1]; exact hpt)
  have ho:=fun n lo=>zAm (d:=d) (by omega) ok lk0 go is.p5 (zQa l y) (n:=n) (lo:=lo)
  have nfr:zA5 l rs os ls y↔(nth ls y.pt.toNat=pos y∨(nth os (zQa l y).toNat=false∧hol l rs (zQa l y)<0)):=Iff.rfl
  simp only[zQa] at io' ho nfr
  generalize hQ:(fun (e:Ex) (s':St)=>_)=Q'
  simp only[D.l194_1b]
  by_cases hly:nth ls y.pt.toNat=pos y
  ·rw[zFd hly] at hl
   simp[g0,g2,g4,L4,g40,g41,g42,hH,hi',hw8,ix,ip,h1,hl,ivN,ivP,B6,B7]
   subst hQ
   exact .inl ⟨rfl,hi,by simp[gP],by simp[gP],⟨i4,by simp[gP],by simp[gP,imms]⟩,by simp[gP],by simp[gP],by simp[gP],rfl,by simp; omega,yes (.inl hly)⟩
  ·rw[zFX hly] at hl
   cases hoc:nth os (nth l.pts y.pt.toNat).sec.toNat with
   | true=>
    simp[g0,g2,g4,L4,g40,g41,g42,hH,hi',hw8,ix,ip,io',hoc,h1,hl,ivN,ivP,ivB1,B6,B7]
    subst hQ
    exact .inr ⟨nofun,.inl ⟨rfl,rfl,by simp; omega,by simp[gP],no fun h=>(nfr.1 h).elim hly fun h=>by rw[hoc] at h; cases h.1⟩⟩
   | false=>
    obtain⟨n2,e2,hn2⟩:=ho (st.n+1) (st.n+1)
    by_cases hho:hol l rs (nth l.pts y.pt.toNat).sec<0
    ·have hj:=zI3 hho
     simp[g0,g2,g4,L4,g40,g41,g42,hH,hi',hw8,ix,ip,io',hoc,h1,hl,e2,hj,ivN,ivP,ivB1,B6,B7]
     subst hQ
     exact .inl ⟨rfl,hi,by simp[gP],by simp[gP],⟨i4,by simp[gP],by simp[gP,imms]⟩,by simp[gP],by simp[gP],by simp[gP],rfl,by simp; omega,yes (.inr ⟨hoc,hho⟩)⟩
    ·have hj:=zIz (show 0≤hol l rs (nth l.pts y.pt.toNat).sec by omega)
     simp[g0,g2,g4,L4,g40,g41,g42,hH,hi',hw8,ix,ip,io',hoc,h1,hl,e2,hj,ivN,ivP,ivB1,B6,B7]
     subst hQ
     exact .inr ⟨nofun,.inl ⟨rfl,rfl,by simp; omega,by simp[gP],no fun h=>(nfr.1 h).elim hly fun h=>hho h.2⟩⟩
 ·obtain rfl:i=(nd (nth l.rts r)).length:=by omega
  generalize hQ:(fun (e:Ex) (s':St)=>_)=Q'
  simp only[D.l194_1b]
  simp[g0,g2,g4,L4,g40,g41,g42,hH,B6,B7]
  subst hQ
  exact .inr ⟨nofun,.inr ⟨rfl,by simp[gP],by simp[gP],⟨i4,by simp[gP,g4],by simp[gP,L4,imms]⟩,by simp[gP],by simp[gP],by simp[gP],rfl,hn,hall⟩⟩
theorem zJM(hd:9≤d)(ok:LoOk l) (is:ISL l) (lk:LkAt H p own l rs) (go:zAi l rs){ls:List Int}(io:InOk ov lv os ls) (mi:MI l os ls)(hr:r<l.rts.length) :
  ∃ n',K DG (d+1) 194 [.ptr p 0 0,inD ov lv,.imm (.int .i64 r)] H n lo=some (.imm (.bool (dec (FRE l rs os ls r))),H,n')∧n≤n':=by
 have lk0:=lk
 obtain⟨x,h1,h2,h3,h4⟩:=lk
 have xl:=h2.len
 rw[h4] at xl
 have rk:=ok.or _ (zMi hr)
 obtain⟨nv,en,hv⟩:=zA8 (D:=d) (by omega) ok hr (is.few r hr).1 (is.few r hr).2
 have vl:=hv.len
 simp only[List.length_map] at vl
 have oc:=zJT (D:=d) (by omega) io rk.p rk.lp fun z hz=>by rw[mi.1]; exact zNw is hr hz
 have ix:=fun {h:Nat→Option HB}{n:Nat}=>zIy (h:=h) (n:=n) ok.r (by omega) (k:=.i64) (z:=(r:Int)) (by omega) (show (r:Int)<l.rts.length by omega)
 have key:Fe (K DG (d+1) 194 [.ptr p 0 0,inD ov lv,.imm (.int .i64 r)] H n lo) (fun v H' n'=>v=.imm (.bool (dec (FRE l rs os ls r)))∧H'=H∧n≤n'):=by
  rw[kX 194 D.f194 rfl]
  refine zHy rfl ?_
  simp[io.sc,h1,xl,B6,B7]
  refine zKn (n0:=n) (os:=os) (ls:=ls) (ov:=ov) (lv:=lv) (r:=r) hd ok is h1 h2 h4 hr ⟨by simp[gP],by simp[gP],⟨n,by simp[gP],by simp[gP,imms]⟩,by simp[gP],by simp[gP],by simp[gP],rfl,by simp,fun s hs=>by omega⟩ ?_
  rintro e st' (⟨rfl,hH,hn,g6,hno⟩ | ⟨rfl,g0,g2,⟨i4,g4,L4⟩,g15,g16,g17,hH,hn,hcf⟩)
  ·simp[g6,hH,hn,hno,B6,B7]
  simp[g0,g2,g4,L4,hH,h1,en,vl,B6,B7]
  refine zKo (n0:=n) hd ok is lk0 go io mi hr hv ⟨by simp[gP,g0],by simp[gP,g2],⟨i4,by simp[gP,g4],by simp[gP,L4,imms]⟩,by simp[gP],by simp[gP],by simp[gP],rfl,by simp; omega,fun j hj=>by omega⟩ ?_
  rintro e st2 (⟨rfl,hH2,hn2,g6,hno⟩ | ⟨rfl,f0,f2,⟨i5,f4,M4⟩,f40,f41,f42,hH2,hn2,hnf⟩)
  ·simp[g6,hH2,hn2,hno,B6,B7]
  have hct:FRE l rs os ls r↔¬∃ z∈(nth l.rts r).path,nth os z.toNat=true:=⟨fun h=>h.oc,fun h=>⟨hcf,hnf,h⟩⟩
  rw[zFV hct]
  generalize (∃ z∈(nth l.rts r).path,nth os z.toNat=true)=P at oc ⊢
  simp[f0,f2,f4,M4,hH2,h1,ix,oc,hn2,ivRt,B6,B7]
  by_cases hP:P
  ·simp[hP,zFe,zFY]
  ·simp[hP,zFe,zFY]
 obtain⟨v,H',n',e,rfl,rfl,hn⟩:=key
 exact⟨n',e,hn⟩
noncomputable def zDy (l:Lo) (rs:List Rst) (os:List Bool) (ls:List Int) (r:Nat):Int×List Rst:=
 bif dec ((nth rs r).mode=0) then (bif dec (FRE l rs os ls r) then (0,rs.set r ⟨1,0,0,false⟩) else (8,rs)) else (7,rs)
noncomputable def zEC (rs:List Rst) (r:Nat):Int×List Rst:=
 bif dec ((nth rs r).mode=1) then (0,rs.set r rs0) else bif dec ((nth rs r).mode=2) then (0,rs.set r ⟨4,0,0,false⟩) else (7,rs)
noncomputable def cmdF (l:Lo) (rs:List Rst) (os:List Bool) (ls:List Int) (c r:Int):Int×List Rst:=
 bif dec (¬MI l os ls∨(c≠1∧c≠2)) then (1,rs) else bif dec (InR r l.rts.length) then (bif dec (c=1) then zDy l rs os ls r.toNat else zEC rs r.toNat) else (5,rs)
def Does (K:Option (DV×PT HB×Nat)) (H:PT HB) (n:Nat) (p:Nat) (own:List Nat) (l:Lo) (v:DV) (rs':List Rst):Prop:=∃ H' n',K=some (v,H',n')∧LkAt H' p own l rs'∧n≤n'∧∀ j,j∉own→H'.get j=H.get j
theorem zQp {id:Nat}(h1:H.get p=some ⟨5,[[.imm l.sv,.imm l.pv,.imm l.gv,.imm l.rv,.sl id 0 rs.length rs.length]]⟩) (h3:p∉[id]) (h4:rs.length=l.rts.length)(hr:r<rs.length) (y:Rst) :
  LkAt (H.put id (some ⟨4,(rs.map zPS).set r (zPS y)⟩)) p [id] l (rs.set r y):=by
 have hp:¬p=id:=fun e=>h3 (by simp[e])
 refine⟨.sl id 0 rs.length rs.length,by simp[gP,hp,h1],.inr ⟨id,rfl,by simp,?_⟩,h3,by simp[h4]⟩
 simp[gP,List.map_set]
theorem zD5(hd:10≤d)(ok:LoOk l) (is:ISL l) (lk:LkAt H p own l rs) (go:zAi l rs){ls:List Int}(io:InOk ov lv os ls) (mi:MI l os ls)(hr:r<l.rts.length) :
  Does (K DG (d+1) 184 [.ptr p 0 0,inD ov lv,.imm (.int .i64 r)] H n 0) H n p own l (.imm (.int .i64 (zDy l rs os ls r).1)) (zDy l rs os ls r).2:=by
 obtain⟨d,rfl⟩:∃ d',d=d'+1:=⟨d - 1,by omega⟩
 have lk0:=lk
 obtain⟨x,h1,h2,h3,h4⟩:=lk
 obtain⟨id,rfl,rfl,hrs⟩:=h2.sl (by omega)
 have hrl:r<rs.length:=by omega
 have iy:=fun {n:Nat}=>zIs (h:=H.get) (n:=n) (id:=id) (row:=0) (len:=rs.length) (cap:=rs.length) hrs rfl (k:=.i64) (z:=(r:Int)) (by omega) (by omega)
 have hrow:(rs.map zPS)[r]?=some (zPS (nth rs r)):=by rw[List.getElem?_map,zMh (by omega)]; rfl
 have hset:=zQp h1 h3 h4 hrl ⟨1,0,0,false⟩
 obtain⟨n1,e1,hn1⟩:=zJM (d:=d) (by omega) ok is lk0 go io mi hr (n:=n+1) (lo:=n+1)
 generalize hrr:rs.map zPS=rows at hrs hrow hset
 simp only[Int.toNat_natCast,Nat.zero_add] at iy
 have hid:∀ j,j∉[id]→¬j=id:=fun j hj e=>hj (by simp[e])
 have key:Fe (K DG (d+1+1) 184 [.ptr p 0 0,inD ov lv,.imm (.int .i64 r)] H n 0) (fun v H' n'=>v=.imm (.int .i64 (zDy l rs os ls r).1)∧LkAt H' p [id] l (zDy l rs os ls r).2∧n≤n'∧∀ j,j∉[id]→H'.get j=H.get j):=by
  rw[kX 184 D.f184 rfl]
  refine zHy rfl ?_
  by_cases hm:(nth rs r).mode=0
  ·by_cases hf:FRE l rs os ls r
   ·have ec:zDy l rs os ls r=(0,rs.set r ⟨1,0,0,false⟩):=by simp[zDy,zFd hm,zFd hf]
    rw[zFd hf] at e1
    rw[ec]
    simp[io.sc,h1,hrs,iy,hrow,hm,e1,zHG,lay,B6,B7]
    refine⟨hset,by omega,fun j hj=>by simp[gP,hj]⟩
   ·have ec:zDy l rs os ls r=(8,rs):=by simp[zDy,zFd hm,zFX hf]
    rw[zFX hf] at e1
    rw[ec]
    simp[io.sc,h1,hrs,iy,hrow,hm,e1,B6,B7]
    exact⟨lk0,by omega⟩
  ·have ec:zDy l rs os ls r=(7,rs):=by simp[zDy,zFX hm]
   rw[ec]
   simp[io.sc,h1,hrs,iy,hrow,hm,B6,B7]
   exact lk0
 obtain⟨v,H',n',e,rfl,a,b,c⟩:=key
 exact⟨H',n',e,a,b,c⟩
theorem zED(lk:LkAt H p own l rs)(hr:r<l.rts.length) :
  Does (K DG (d+1) 185 [.ptr p 0 0,.imm (.int .i64 r)] H n 0) H n p own l (.imm (.int .i64 (zEC rs r).1)) (zEC rs r).2:=by
 have lk0:=lk
 obtain⟨x,h1,h2,h3,h4⟩:=lk
 obtain⟨id,rfl,rfl,hrs⟩:=h2.sl (by omega)
 have hrl:r<rs.length:=by omega
 have iy:=fun {n:Nat}=>zIs (h:=H.get) (n:=n) (id:=id) (row:=0) (len:=rs.length) (cap:=rs.length) hrs rfl (k:=.i64) (z:=(r:Int)) (by omega) (by omega)
 have hrow:(rs.map zPS)[r]?=some (zPS (nth rs r)):=by rw[List.getElem?_map,zMh (by omega)]; rfl
 have hset:=zQp h1 h3 h4 hrl rs0
 have hset4:=zQp h1 h3 h4 hrl ⟨4,0,0,false⟩
 generalize hrr:rs.map zPS=rows at hrs hrow hset hset4
 simp only[Int.toNat_natCast,Nat.zero_add] at iy
 have key:Fe (K DG (d+1) 185 [.ptr p 0 0,.imm (.int .i64 r)] H n 0) (fun v H' n'=>v=.imm (.int .i64 (zEC rs r).1)∧LkAt H' p [id] l (zEC rs r).2∧n≤n'∧∀ j,j∉[id]→H'.get j=H.get j):=by
  rw[kX 185 D.f185 rfl]
  refine zHy rfl ?_
  by_cases m1:(nth rs r).mode=1
  ·have ec:zEC rs r=(0,rs.set r rs0):=by simp[zEC,zFd m1]
   rw[ec]
   simp[h1,hrs,iy,hrow,m1,zHG,lay,B6,B7]
   exact⟨hset,fun j hj=>by simp[gP,hj]⟩
  ·by_cases m2:(nth rs r).mode=2
   ·have ec:zEC rs r=(0,rs.set r ⟨4,0,0,false⟩):=by simp[zEC,zFX m1,zFd m2]
    rw[ec]
    simp[h1,hrs,iy,hrow,m1,m2,zHG,lay,B6,B7]
    exact⟨hset4,fun j hj=>by simp[gP,hj]⟩
   ·have ec:zEC rs r=(7,rs):=by simp[zEC,zFX m1,zFX m2]
    rw[ec]
    simp[h1,hrs,iy,hrow,m1,m2,B6,B7]
    exact lk0
 obtain⟨v,H',n',e,rfl,a,b,c⟩:=key
 exact⟨H',n',e,a,b,c⟩
theorem zAI(hd:11≤d)(ok:LoOk l) (is:ISL l) (lk:LkAt H p own l rs) (go:zAi l rs){ls:List Int}(io:InOk ov lv os ls) (c r:Int) :
  Does (K DG (d+1) 165 [.ptr p 0 0,inD ov lv,.agg [.imm (.int .i64 c),.imm (.int .i64 r)]] H n 0) H n p own l (.imm (.int .i64 (cmdF l rs os ls c r).1)) (cmdF l rs os ls c r).2:=by
 obtain⟨d,rfl⟩:∃ d',d=d'+1:=⟨d - 1,by omega⟩
 have lk0:=lk
 obtain⟨x,h1,h2,h3,h4⟩:=lk
 have xl:=h2.len
 rw[h4] at xl
 have e:=zAw (D:=d+1) (by omega) ok io
 have key:Fe (K DG (d+1+1) 165 [.ptr p 0 0,inD ov lv,.agg [.imm (.int .i64 c),.imm (.int .i64 r)]] H n 0) (fun v H' n'=>v=.imm (.int .i64 (cmdF l rs os ls c r).1)∧LkAt H' p own l (cmdF l rs os ls c r).2∧n≤n'∧∀ j,j∉own→H'.get j=H.get j):=by
  rw[kX 165 D.f165 rfl]
  refine zHy rfl ?_
  by_cases mi:MI l os ls
  ·rw[zFd mi] at e
   by_cases hc:c=1∨c=2
   ·have n1:¬(¬MI l os ls∨(c≠1∧c≠2)):=by
     rintro (h | h)
     ·exact h mi
     ·omega
    by_cases hr:InR r l.rts.length
    ·have hrl:r.toNat<l.rts.length:=by have:=hr.1; have:=hr.2; omega
     have er:((r.toNat:Nat):Int)=r:=by have:=hr.1; omega
     have j0:ILt r 0=False:=zIz hr.1
     have j1:ILt r l.rts.length=True:=zI3 hr.2
     rcases hc with rfl | rfl
     ·have ec:cmdF l rs os ls 1 r=zDy l rs os ls r.toNat:=by simp only[cmdF,zFX n1,zFd hr,zFe,cond_true,cond_false]
      obtain⟨H',n',e1,a1,a2,a3⟩:=zD5 (d:=d) (by omega) ok is lk0 go io mi hrl (n:=n+2)
      rw[er] at e1
      rw[ec]
      simp[io.sc,h1,e,xl,j0,j1,e1,B6,B7]
      exact⟨a1,by omega,a3⟩
     ·have ec:cmdF l rs os ls 2 r=zEC rs r.toNat:=by simp only[cmdF,zFX n1,zFd hr,zFX (show ¬(2:Int)=1 by decide),cond_true,cond_false]
      obtain⟨H',n',e1,a1,a2,a3⟩:=zED (d:=d) lk0 hrl (n:=n+2)
      rw[er] at e1
      rw[ec]
      simp[io.sc,h1,e,xl,j0,j1,e1,B6,B7]
      exact⟨a1,by omega,a3⟩
    ·have ec:cmdF l rs os ls c r=(5,rs):=by simp only[cmdF,zFX n1,zFX hr,cond_false]
     rw[ec]
     by_cases r0:r<0
     ·have j0:ILt r 0=True:=zI3 r0
      rcases hc with rfl | rfl
      ·simp[io.sc,h1,e,xl,j0,B6,B7]
       exact⟨lk0,by omega⟩
      ·simp[io.sc,h1,e,xl,j0,B6,B7]
       exact⟨lk0,by omega⟩
     ·have j0:ILt r 0=False:=zIz (by omega)
      have j1:ILt r l.rts.length=False:=zIz (by unfold InR at hr; omega)
      rcases hc with rfl | rfl
      ·simp[io.sc,h1,e,xl,j0,j1,B6,B7]
       exact⟨lk0,by omega⟩
      ·simp[io.sc,h1,e,xl,j0,j1,B6,B7]
       exact⟨lk0,by omega⟩
   ·have n1:¬MI l os ls∨(c≠1∧c≠2):=.inr (by omega)
    have ec:cmdF l rs os ls c r=(1,rs):=by simp only[cmdF,zFd n1,cond_true]
    have c1:¬c=1:=by omega
    have c2:¬c=2:=by omega
    rw[ec]
    simp[io.sc,h1,e,c1,c2,B6,B7]
    exact⟨lk0,by omega⟩
  ·have n1:¬MI l os ls∨(c≠1∧c≠2):=.inl mi
   have ec:cmdF l rs os ls c r=(1,rs):=by simp only[cmdF,zFd n1,cond_true]
   rw[zFX mi] at e
   rw[ec]
   simp[io.sc,h1,e,B6,B7]
   exact⟨lk0,by omega⟩
 obtain⟨v,H',n',e,rfl,a,b,c⟩:=key
 exact⟨H',n',e,a,b,c⟩
def Lie (l:Lo) (ls:List Int) (r:Nat):Prop:=∀ x∈nd (nth l.rts r),nth ls x.pt.toNat=pos x
theorem zQO(hd:3≤d){ls:List Int}(io:InOk ov lv os ls)(ha:H.get a=some ⟨2,[[.imm ov,.imm lv]]⟩){xs:List Need}(hx:∀ x∈xs,InR x.pt ls.length) :
  Says d 201 [.ptr a 0 0] H n0 (fun x:Need=>.agg [.imm (.int .i64 x.pt),.imm (.bool x.rev)]) (fun x=>¬nth ls x.pt.toNat=pos x) (fun x=>x∈xs):=fun x hm n hn=>by
 obtain⟨d,rfl⟩:∃ d',d=d'+1:=⟨d - 1,by omega⟩
 have hl:=zKK (D:=d) (by omega) io (hx x hm)
 have key:Fe (K DG (d+1) 201 [.agg [.imm (.int .i64 x.pt),.imm (.bool x.rev)],.ptr a 0 0] H n n) (fun y _ n'=>n≤n'∧y=.imm (.bool (dec (¬nth ls x.pt.toNat=pos x)))):=by
  rw[kX 201 D.f201 rfl]
  refine zHy rfl ?_
  by_cases h:nth ls x.pt.toNat=pos x
  ·rw[zFd h] at hl
   simp[ha,hl,h,zFe,zFY,B6,B7]
  ·rw[zFX h] at hl
   simp[ha,hl,h,zFe,zFY,B6,B7]
 obtain⟨y,H1,n1,e,h1,rfl⟩:=key
 exact⟨H1,n1,e,h1⟩
theorem zB9(hd:6≤d)(ok:LoOk l) (is:ISL l) (lk:LkAt H p own l rs){ls:List Int}(io:InOk ov lv os ls) (mi:MI l os ls)(hr:r<l.rts.length)(hpn:p<n) :
  ∃ n' H',K DG (d+1) 189 [.ptr p 0 0,inD ov lv,.imm (.int .i64 r)] H n lo=some (.imm (.bool (dec (Lie l ls r))),H',n')∧n≤n':=by
 obtain⟨d,rfl⟩:∃ d',d=d'+2:=⟨d - 2,by omega⟩
 obtain⟨x,h1,h2,h3,h4⟩:=lk
 have hrb:=rb3
 obtain⟨nv,en,hv⟩:=zA8 (D:=d+2) (by omega) ok hr (is.few r hr).1 (is.few r hr).2
 have hnl:(nd (nth l.rts r)).length≤reachBytes:=by have:=is.few r hr; simp[nd]; omega
 have hpn':¬p=n:=by omega
 obtain⟨x1,H1,n1,e1,hn1,rfl⟩:=zEp (d:=d) (n:=n+1) (H:=H.put n (some ⟨2,[[.imm ov,.imm lv]]⟩)) (f:=201) (caps:=[.ptr n 0 0]) rfl (zQO (by omega) io (by simp[gP]) fun x hx=>by rw[mi.2.1]; exact zMG is hr hx) hv hnl (n+1)
 have hL:Lie l ls r↔¬∃ x∈nd (nth l.rts r),¬nth ls x.pt.toNat=pos x:=⟨fun h ⟨x,hx,hn⟩=>hn (h x hx),fun h x hx=>Classical.byContradiction fun hn=>h ⟨x,hx,hn⟩⟩
 rw[zFV hL]
 generalize (∃ x∈nd (nth l.rts r),¬nth ls x.pt.toNat=pos x)=P at e1 ⊢
 have key:Fe (K DG (d+2+1) 189 [.ptr p 0 0,inD ov lv,.imm (.int .i64 r)] H n lo) (fun v H' n'=>v=.imm (.bool (dec (¬P)))∧n≤n'):=by
  rw[kX 189 D.f189 rfl]
  refine zHy rfl ?_
  simp[io.sc,hpn',h1,en,e1,B6,B7]
  by_cases hP:P
  ·simp[hP,zFe,zFY]; omega
  ·simp[hP,zFe,zFY]; omega
 obtain⟨v,H',n',e,rfl,hn⟩:=key
 exact⟨n',H',e,hn⟩
structure RsOk (l:Lo) (r:Nat) (x:Rst):Prop where
 md:0≤x.mode∧x.mode≤4
 t0:0≤x.timer
 t8:x.mode=1→x.timer≤8
 t6:x.mode=4→x.timer<6
 tz:¬x.mode=1→¬x.mode=4→x.timer=0
 g3:x.mode=3→0≤x.gone∧x.gone<(nth l.rts r).path.length
 gz:¬x.mode=3→x.gone=0∧x.seen=false
noncomputable def zJ1 (x:Rst) (m:Int):Rst:=bif dec (m<x.timer+1) then rs0 else ⟨x.mode,x.timer+1,x.gone,x.seen⟩
noncomputable def zTJ (l:Lo) (os:List Bool) (r:Nat) (x:Rst):Rst:=
 bif nth os (nth (nth l.rts r).path x.gone.toNat).toNat then ⟨x.mode,x.timer,x.gone,true⟩
 else bif x.seen then (bif dec (x.gone+1<(nth l.rts r).path.length) then ⟨x.mode,x.timer,x.gone+1,false⟩ else rs0) else x
noncomputable def zRZ (l:Lo) (os:List Bool) (ls:List Int) (r:Nat) (x:Rst):Rst:=
 bif dec (x.mode=1) then (bif dec (Lie l ls r) then ⟨2,0,0,false⟩ else zJ1 x 8)
 else bif dec (x.mode=2∨x.mode=4) then (bif nth os (nth (nth l.rts r).path 0).toNat then ⟨3,0,0,true⟩ else bif dec (x.mode=4) then zJ1 x 5 else x)
 else bif dec (x.mode=3) then zTJ l os r x else x
theorem zJ2 {D:Nat}(hD:1≤D) (x:Rst) (h0:0≤x.timer) (h1:x.timer≤100) (m:Int):bl (K DG D) 195 [.agg (zPS x),.imm (.int .i64 m)]=some (.agg (zPS (zJ1 x m))):=by
 obtain⟨d,rfl⟩:∃ d,D=d+1:=⟨D - 1,by omega⟩
 have hw:IntKind.i64.wrap (x.timer+1)=x.timer+1:=zTW (by omega) (by omega)
 have key:Fe (K DG (d+1) 195 [.agg (zPS x),.imm (.int .i64 m)] .lf 0 0) (fun v _ _=>v=.agg (zPS (zJ1 x m))):=by
  rw[kX 195 D.f195 rfl]
  refine zHy rfl ?_
  by_cases h:m<x.timer+1
  ·have e:zJ1 x m=rs0:=by simp[zJ1,zFd h]
   rw[e]
   simp[hw,zI3 h,zHG,lay,B6,B7]
  ·have e:zJ1 x m=⟨x.mode,x.timer+1,x.gone,x.seen⟩:=by simp[zJ1,zFX h]
   rw[e]
   simp[hw,zIz (show x.timer+1≤m by omega),zHG,lay,B6,B7]
 obtain⟨v,H,n,e,rfl⟩:=key
 exact zDf e rfl
theorem zTK(ok:LoOk l) (is:ISL l) (lk:LkAt H p own l rs){ls:List Int}(io:InOk ov lv os ls) (mi:MI l os ls)(hr:r<l.rts.length) (ro:RsOk l r (nth rs r)) (h3':(nth rs r).mode=3) :
  ∃ n',K DG (d+1) 196 [.ptr p 0 0,inD ov lv,.imm (.int .i64 r)] H n lo=some (.agg (zPS (zTJ l os r (nth rs r))),H,n')∧n≤n':=by
 obtain⟨x,h1,h2,h3,h4⟩:=lk
 obtain⟨id,rfl,rfl,hrs⟩:=h2.sl (by omega)
 have rk:=ok.or _ (zMi hr)
 have pl:=rk.p.len
 simp only[List.length_map] at pl
 have hr1:(r:Int)<l.rts.length:=by omega
 have ix:=zIu ok.r hr1
 have iy:=fun {n:Nat}=>zIs (h:=H.get) (n:=n) (id:=id) (row:=0) (len:=rs.length) (cap:=rs.length) hrs rfl (k:=.i64) (z:=(r:Int)) (by omega) (by omega)
 have hrow:(rs.map zPS)[r]?=some (zPS (nth rs r)):=by rw[List.getElem?_map,zMh (by omega)]; rfl
 generalize hrr:rs.map zPS=rows at hrs hrow
 generalize nth rs r=y at *
 simp only[Int.toNat_natCast,Nat.zero_add] at iy
 obtain⟨g0,g1⟩:=ro.g3 h3'
 have p5:=is.p5 r hr
 have ip:=fun {h:Nat→Option HB}{n:Nat}=>zIy (h:=h) (n:=n) rk.p (by omega) (k:=.i64) (z:=y.gone) g0 g1
 have hpin:=zNw is hr (zMi (xs:=(nth l.rts r).path) (i:=y.gone.toNat) (by omega))
 have io':=fun {h:Nat→Option HB}{n:Nat}=>zIv (h:=h) (n:=n) io.o (by omega) (k:=.i64) (z:=nth (nth l.rts r).path y.gone.toNat) (by rw[mi.1]; exact hpin)
 have hw:IntKind.i64.wrap (y.gone+1)=y.gone+1:=zTW (by omega) (by omega)
 have j1:=zI3 g1
 have key:Fe (K DG (d+1) 196 [.ptr p 0 0,inD ov lv,.imm (.int .i64 r)] H n lo) (fun v H' n'=>v=.agg (zPS (zTJ l os r y))∧H'=H∧n≤n'):=by
  rw[kX 196 D.f196 rfl]
  refine zHy rfl ?_
  cases ho:nth os (nth (nth l.rts r).path y.gone.toNat).toNat with
  | true=>
   have e:zTJ l os r y=⟨y.mode,y.timer,y.gone,true⟩:=by simp[zTJ,ho]
   rw[e]
   simp[io.sc,h1,hrs,ix,iy,ip,io',hrow,ho,j1,pl,ivRt,ivI,ivB1,zHG,lay,B6,B7]
   omega
  | false=>
   cases hse:y.seen with
   | true=>
    by_cases hg:y.gone+1<(nth l.rts r).path.length
    ·have e:zTJ l os r y=⟨y.mode,y.timer,y.gone+1,false⟩:=by simp[zTJ,ho,hse,zFd hg]
     rw[e]
     simp[io.sc,h1,hrs,ix,iy,ip,io',hrow,ho,hse,hw,zI3 hg,pl,ivRt,ivI,ivB1,zHG,lay,B6,B7]
     omega
    ·have e:zTJ l os r y=rs0:=by simp[zTJ,ho,hse,zFX hg]
     rw[e]
     simp[io.sc,h1,hrs,ix,iy,ip,io',hrow,ho,hse,hw,zIz (show ((nth l.rts r).path.length:Int)≤y.gone+1 by omega),pl,ivRt,ivI,ivB1,zHG,lay,B6,B7]
     omega
   | false=>
    have e:zTJ l os r y=y:=by simp[zTJ,ho,hse]
    rw[e]
    simp[io.sc,h1,hrs,ix,iy,ip,io',hrow,ho,hse,j1,pl,ivRt,ivI,ivB1,zHG,lay,B6,B7]
    omega
 obtain⟨v,H',n',e,rfl,rfl,hn⟩:=key
 exact⟨n',e,hn⟩
theorem zRd(hd:8≤d)(ok:LoOk l) (is:ISL l) (lk:LkAt H p own l rs){ls:List Int}(io:InOk ov lv os ls) (mi:MI l os ls)(hr:r<l.rts.length) (ro:RsOk l r (nth rs r))(hpn:p<n) :
  ∃ n',K DG (d+1) 186 [.ptr p 0 0,inD ov lv,.imm (.int .i64 r)] H n lo=some (.agg (zPS (zRZ l os ls r (nth rs r))),H,n')∧n≤n':=by
 obtain⟨d,rfl⟩:∃ d',d=d'+1:=⟨d - 1,by omega⟩
 have lk0:=lk
 obtain⟨x,h1,h2,h3,h4⟩:=lk
 obtain⟨id,rfl,rfl,hrs⟩:=h2.sl (by omega)
 have rk:=ok.or _ (zMi hr)
 have pl:=rk.p.len
 simp only[List.length_map] at pl
 have hr1:(r:Int)<l.rts.length:=by omega
 have hr2:(r:Int)<(rs.length:Int):=by omega
 have p1:=(is.rr r hr).p1
 have ix:=zIu ok.r hr1
 have iy:=fun {n:Nat}=>zIs (h:=H.get) (n:=n) (id:=id) (row:=0) (len:=rs.length) (cap:=rs.length) hrs rfl (k:=.i64) (z:=(r:Int)) (by omega) (by omega)
 have ip:=fun {h:Nat→Option HB}{n:Nat}=>zIy (h:=h) (n:=n) rk.p (by omega) (k:=.i64) (z:=(0:Int)) (by omega) (by omega)
 have hpin:=zNw is hr (zMi (xs:=(nth l.rts r).path) (i:=0) (by omega))
 have io':=fun {h:Nat→Option HB}{n:Nat}=>zIv (h:=h) (n:=n) io.o (by omega) (k:=.i64) (z:=nth (nth l.rts r).path 0) (by rw[mi.1]; exact hpin)
 obtain⟨na,Ha,ea,hna⟩:=zB9 (d:=d) (by omega) ok is lk0 io mi hr (n:=n+1+1+1) (lo:=n+1+1+1) (by omega)
 have lt:=zJ2 (D:=d+1) (by omega) (nth rs r) ro.t0 (by
  by_cases m1:(nth rs r).mode=1
  ·have:=ro.t8 m1; omega
  by_cases m4:(nth rs r).mode=4
  ·have:=ro.t6 m4; omega
  have:=ro.tz m1 m4; omega)
 have us:=fun (h:(nth rs r).mode=3)=>zTK (d:=d) ok is lk0 io mi hr ro h (n:=n+1+1+1) (lo:=n+1+1+1)
 have hrow:(rs.map zPS)[r]?=some (zPS (nth rs r)):=by rw[List.getElem?_map,zMh (by omega)]; rfl
 have hmd:=ro.md
 generalize hrr:rs.map zPS=rows at hrs hrow
 generalize nth rs r=y at *
 simp only[Int.toNat_natCast,Nat.zero_add] at iy
 have key:Fe (K DG (d+1+1) 186 [.ptr p 0 0,inD ov lv,.imm (.int .i64 r)] H n lo) (fun v H' n'=>v=.agg (zPS (zRZ l os ls r y))∧H'=H∧n≤n'):=by
  rw[kX 186 D.f186 rfl]
  refine zHy rfl ?_
  obtain⟨ym,yt,yg,ys⟩:=y
  simp only at hmd
  have hc:ym=0∨ym=1∨ym=2∨ym=3∨ym=4:=by omega
  rcases hc with rfl | rfl | rfl | rfl | rfl
  ·have e:zRZ l os ls r ⟨0,yt,yg,ys⟩=⟨0,yt,yg,ys⟩:=by simp[zRZ,zFY]
   rw[e]
   simp[io.sc,h1,hrs,ix,iy,ip,io',hrow,pl,ivRt,ivI,ivB1,zHG,lay,B6,B7]
   omega
  ·by_cases hL:Lie l ls r
   ·rw[zFd hL] at ea
    have e:zRZ l os ls r ⟨1,yt,yg,ys⟩=⟨2,0,0,false⟩:=by simp[zRZ,zFe,zFd hL]
    rw[e]
    simp[io.sc,h1,hrs,ix,iy,ip,io',hrow,pl,ea,ivRt,ivI,ivB1,zHG,lay,zPS,B6,B7]
    omega
   ·rw[zFX hL] at ea
    have e:zRZ l os ls r ⟨1,yt,yg,ys⟩=zJ1 ⟨1,yt,yg,ys⟩ 8:=by simp[zRZ,zFe,zFX hL]
    rw[e]
    simp[io.sc,h1,hrs,ix,iy,ip,io',hrow,pl,ea,lt,ivRt,ivI,ivB1,zHG,lay,B6,B7]
    omega
  ·cases ho:nth os (nth (nth l.rts r).path 0).toNat with
   | true=>
    have e:zRZ l os ls r ⟨2,yt,yg,ys⟩=⟨3,0,0,true⟩:=by simp[zRZ,zFe,zFY,ho]
    rw[e]
    simp[io.sc,h1,hrs,ix,iy,ip,io',hrow,ho,pl,ivRt,ivI,ivB1,zHG,lay,B6,B7]
    omega
   | false=>
    have e:zRZ l os ls r ⟨2,yt,yg,ys⟩=⟨2,yt,yg,ys⟩:=by simp[zRZ,zFe,zFY,ho]
    rw[e]
    simp[io.sc,h1,hrs,ix,iy,ip,io',hrow,ho,pl,ivRt,ivI,ivB1,zHG,lay,B6,B7]
    omega
  ·obtain⟨nu,eu,hnu⟩:=us rfl
   have e:zRZ l os ls r ⟨3,yt,yg,ys⟩=zTJ l os r ⟨3,yt,yg,ys⟩:=by simp[zRZ,zFe,zFY]
   rw[e]
   simp[io.sc,h1,hrs,ix,iy,ip,io',hrow,pl,eu,ivRt,ivI,ivB1,zHG,lay,B6,B7]
   omega
  ·cases ho:nth os (nth (nth l.rts r).path 0).toNat with
   | true=>
    have e:zRZ l os ls r ⟨4,yt,yg,ys⟩=⟨3,0,0,true⟩:=by simp[zRZ,zFe,zFY,ho]
    rw[e]
    simp[io.sc,h1,hrs,ix,iy,ip,io',hrow,ho,pl,ivRt,ivI,ivB1,zHG,lay,B6,B7]
    omega
   | false=>
    have e:zRZ l os ls r ⟨4,yt,yg,ys⟩=zJ1 ⟨4,yt,yg,ys⟩ 5:=by simp[zRZ,zFe,zFY,ho]
    rw[e]
    simp[io.sc,h1,hrs,ix,iy,ip,io',hrow,ho,pl,lt,ivRt,ivI,ivB1,zHG,lay,B6,B7]
    omega
 obtain⟨v,H',n',e,rfl,rfl,hn⟩:=key
 exact⟨n',e,hn⟩
structure ICy (p:Nat) (own:List Nat) (l:Lo) (os:List Bool) (ls:List Int) (rs:List Rst) (ov lv:IV) (us:List DV) (H1:PT HB) (n1:Nat) (i:Nat) (qs:List Rst) (st:St):Prop where
 h0:st.T.get 0=some (.ptr p 0 0)
 h28:st.T.get 28=some (.imm (.int .i64 l.rts.length))
 h29:st.T.get 29=some (.imm (.int .i64 i))
 b3:BoxD st 3 [.imm ov,.imm lv]
 b4:BoxD st 4 [.imm .nils,.imm .nils]
 b5:BoxD st 5 us
 lk:LkAt st.H p own l qs
 fr:∀ j,j∉own→st.H.get j=H1.get j
 hn:n1≤st.n
 al:∀ j,j<l.rts.length→nth qs j=if j<i then zRZ l os ls j (nth rs j) else nth rs j
variable {H1:PT HB}
theorem zKg(hd:9≤d){ls:List Int}(ok:LoOk l) (is:ISL l)(io:InOk ov lv os ls) (mi:MI l os ls) (ro:∀ r,r<l.rts.length→RsOk l r (nth rs r))
  {us:List DV}{n1:Nat}(hpn:p<n1)(h:ICy p own l os ls rs ov lv us H1 n1 0 rs st)
  (hk:∀ st' qs,ICy p own l os ls rs ov lv us H1 n1 l.rts.length qs st'→Bk DG (K DG d) 0 (.exit 0) ks st' Q):Wp DG (K DG d) 0 D.l166_0 ks st Q:=by
 have hrb:=rb3
 obtain⟨d,rfl⟩:∃ d',d=d'+1:=⟨d - 1,by omega⟩
 refine zGt (N:=l.rts.length) (zRH ok.lr) (fun i st=>∃ qs,ICy p own l os ls rs ov lv us H1 n1 i qs st) (fun e st'=>e=.exit 0∧∃ qs,ICy p own l os ls rs ov lv us H1 n1 l.rts.length qs st') (fun i st hle hI=>?_) ⟨rs,h⟩ (fun e s' h=>by obtain⟨rfl,qs,h⟩:=h; exact hk s' qs h)
 obtain⟨qs,h0,h28,h29,⟨i3,h3,L3⟩,⟨i4,h4,L4⟩,⟨i5,h5,L5⟩,lk,fr,hn,al⟩:=hI
 by_cases hi:i<l.rts.length
 ·have hi1:(i:Int)<l.rts.length:=by omega
  have hi':=zI3 hi1
  have hw8:IntKind.i64.wrap ((i:Int)+1)=(i:Int)+1:=zTX hi ok.lr
  have eqi:nth qs i=nth rs i:=by rw[al i hi,if_neg (by omega)]
  obtain⟨n2,e2,hn2⟩:=zRd (d:=d) (by omega) ok is lk io mi hi (by rw[eqi]; exact ro i hi) (n:=st.n) (lo:=st.n) (by omega)
  obtain⟨x,k1,k2,k3,k4⟩:=lk
  obtain⟨id,rfl,rfl,hrs⟩:=k2.sl (by omega)
  have iy:=fun {n:Nat}=>zIs (h:=st.H.get) (n:=n) (id:=id) (row:=0) (len:=qs.length) (cap:=qs.length) hrs rfl (k:=.i64) (z:=(i:Int)) (by omega) (by omega)
  have hrow:(qs.map zPS)[i]?=some (zPS (nth qs i)):=by rw[List.getElem?_map,zMh (by omega)]; rfl
  have hset:=zQp k1 k3 k4 (by omega) (zRZ l os ls i (nth qs i)) (r:=i)
  have hal:∀ j,j<l.rts.length→nth (qs.set i (zRZ l os ls i (nth qs i))) j=if j<i+1 then zRZ l os ls j (nth rs j) else nth rs j:=fun j hj=>by
   by_cases hij:i=j
   ·subst hij
    rw[if_pos (by omega),← eqi]
    simp[nth,k4,hi]
   ·have:nth (qs.set i (zRZ l os ls i (nth qs i))) j=nth qs j:=by simp[nth,List.getD,List.getElem?_set,hij]
    rw[this,al j hj]
    by_cases hji:j<i
    ·rw[if_pos hji,if_pos (by omega)]
    ·rw[if_neg hji,if_neg (by omega)]
  generalize qs.set i (zRZ l os ls i (nth qs i))=ws at hset hal
  generalize hrr:qs.map zPS=rows at hrs hrow hset
  generalize zRZ l os ls i (nth qs i)=y at *
  generalize nth qs i=w at *
  simp only[Int.toNat_natCast,Nat.zero_add] at iy
  generalize hQ:(fun (e:Ex) (s':St)=>_)=Q'
  simp only[D.l166_0b]
  simp[h0,h28,h29,h3,L3,h4,L4,h5,L5,hi',hw8,e2,k1,hrs,iy,hrow,zPS,io.sc,zHG,lay,B6,B7]
  subst hQ
  refine .inl ⟨rfl,hi,ws,by simp[gP],by simp[gP],by simp[gP],⟨i3,by simp[gP],by simp[gP]⟩,⟨i4,by simp[gP],by simp[gP]⟩,⟨i5,by simp[gP],by simp[gP]⟩,hset,fun j hj=>?_,by simp; omega,hal⟩
  have:=fr j hj
  simp at hj
  simp[gP,hj,this]
 ·obtain rfl:i=l.rts.length:=by omega
  generalize hQ:(fun (e:Ex) (s':St)=>_)=Q'
  simp only[D.l166_0b]
  simp[h0,h28,h29,h3,L3,h4,L4,h5,L5,B6,B7]
  subst hQ
  exact .inr ⟨nofun,rfl,qs,by simp[gP,h0],by simp[gP,h28],by simp[gP,h29],⟨i3,by simp[gP,h3],by simp[gP,L3]⟩,⟨i4,by simp[gP,h4],by simp[gP,L4]⟩,⟨i5,by simp[gP,h5],by simp[gP,L5]⟩,lk,fr,hn,al⟩
def rowI (z:Int):List DV:=[.imm (.int .i64 z)]
def DrAt (l:Lo) (rs:List Rst) (os:List Bool) (ls:List Int) (q:Nat) (z:Int):Prop:=
 ∃ r x,r<l.rts.length∧(nth rs r).mode=1∧x∈nd (nth l.rts r)∧x.pt=(q:Int)∧z=pos x∧¬nth ls q=z∧nth os (nth l.pts q).sec.toNat=false∧(hol l rs (nth l.pts q).sec<0∨hol l rs (nth l.pts q).sec=(r:Int))
def DrOk (l:Lo) (rs:List Rst) (os:List Bool) (ls:List Int) (zs:List Int):Prop:=zs.length=l.pts.length∧∀ q,q<l.pts.length→nth zs q=0∨DrAt l rs os ls q (nth zs q)
variable {q:Nat}
theorem DrOk.put{ls zs:List Int}(h:DrOk l rs os ls zs)(hz:DrAt l rs os ls q z):DrOk l rs os ls (zs.set q z):=by
 refine⟨by simp[h.1],fun k hk=>?_⟩
 by_cases hq:q=k
 ·subst hq
  right
  have:nth (zs.set q z) q=z:=by simp[nth,h.1,hk]
  rw[this]; exact hz
 ·have:nth (zs.set q z) k=nth zs k:=by simp[nth,List.getD,List.getElem?_set,hq]
  rw[this]; exact h.2 k hk
def it {α:Type}(f:Nat→α→α) (z:α):Nat→α
 | 0=>z
 | i+1=>f i (it f z i)
theorem zJd {α:Type}{f:Nat→α→α}{z:α}{P:α→Prop}(h0:P z):∀ n,(∀ i x,i<n→P x→P (f i x))→P (it f z n)
 | 0,_=>h0
 | n+1,h=>h n _ (by omega) (zJd h0 n fun i x hi=>h i x (by omega))
theorem zJc {α:Type}{f g:Nat→α→α}{z:α}:∀ n,(∀ i x,i<n→f i x=g i x)→it f z n=it g z n
 | 0,_=>rfl
 | n+1,h=>by
  show f n (it f z n)=g n (it g z n)
  rw[zJc n fun i x hi=>h i x (by omega),h n _ (by omega)]
def drC (l:Lo) (rs:List Rst) (os:List Bool) (ls:List Int) (r:Nat) (x:Need):Prop:=¬nth ls x.pt.toNat=pos x∧nth os (nth l.pts x.pt.toNat).sec.toNat=false∧(hol l rs (nth l.pts x.pt.toNat).sec<0∨hol l rs (nth l.pts x.pt.toNat).sec=(r:Int))
noncomputable def drN (l:Lo) (rs:List Rst) (os:List Bool) (ls:List Int) (r:Nat) (i:Nat) (zs:List Int):List Int:=bif dec (drC l rs os ls r (nth (nd (nth l.rts r)) i)) then zs.set (nth (nd (nth l.rts r)) i).pt.toNat (pos (nth (nd (nth l.rts r)) i)) else zs
noncomputable def drR (l:Lo) (rs:List Rst) (os:List Bool) (ls:List Int) (r:Nat) (zs:List Int):List Int:=bif dec ((nth rs r).mode=1) then it (drN l rs os ls r) zs (nd (nth l.rts r)).length else zs
noncomputable def drF (l:Lo) (rs:List Rst) (os:List Bool) (ls:List Int):List Int:=it (drR l rs os ls) (List.replicate l.pts.length 0) l.rts.length
theorem zGV(is:ISL l){ls:List Int}:DrOk l rs os ls (drF l rs os ls):=by
 refine zJd (P:=DrOk l rs os ls) ⟨by simp,fun q hq=>.inl (by simp[nth,hq])⟩ _ fun r x hr hx=>?_
 unfold drR
 by_cases hm:(nth rs r).mode=1
 ·rw[zFd hm]
  refine zJd (P:=DrOk l rs os ls) hx _ fun i y hi hy=>?_
  unfold drN
  have hmem:=zMi hi
  generalize nth (nd (nth l.rts r)) i=w at *
  by_cases hc:drC l rs os ls r w
  ·rw[zFd hc]
   obtain⟨e1,e2,e3⟩:=hc
   exact hy.put ⟨r,w,hr,hm,hmem,by have:=(zMG is hr hmem).1; omega,rfl,e1,e2,e3⟩
  ·rw[zFX hc]; exact hy
 ·rw[zFX hm]; exact hx
structure ID1 (p:Nat) (l:Lo) (rs:List Rst) (os:List Bool) (ls:List Int) (ov lv nv:IV) (sb xr:DV) (a:Nat) (H1:PT HB) (n0 r:Nat) (z0:List Int) (i:Nat) (zs:List Int) (st:St):Prop where
 h0:st.T.get 0=some (.ptr p 0 0)
 b4:BoxD st 4 [.imm ov,.imm lv]
 b5:BoxD st 5 [.sl a 0 l.pts.length l.pts.length,sb]
 h6:st.T.get 6=some (.imm (.int .i64 r))
 h15:st.T.get 15=some xr
 h16:st.T.get 16=some (.imm (.int .i64 l.rts.length))
 h17:st.T.get 17=some (.imm (.int .i64 r))
 h30:st.T.get 30=some (.imm nv)
 h31:st.T.get 31=some (.imm (.int .i64 (nd (nth l.rts r)).length))
 h32:st.T.get 32=some (.imm (.int .i64 i))
 ha:st.H.get a=some ⟨1,zs.map rowI⟩
 fr:∀ j,j≠a→st.H.get j=H1.get j
 hn:n0≤st.n
 dr:zs.length=l.pts.length∧zs=it (drN l rs os ls r) z0 i
variable {xr:DV}
theorem zKj(hd:9≤d)(ok:LoOk l) (is:ISL l)(lk:LkAt H1 p own l rs) (go:zAi l rs){ls:List Int}(io:InOk ov lv os ls) (mi:MI l os ls)(hna:a∉p::own){sb:DV}
 (hr:r<l.rts.length) (hm:(nth rs r).mode=1){nv:IV}(hv:Sl 2 nv ((nd (nth l.rts r)).map ivN)){z0:List Int}(h:ID1 p l rs os ls ov lv nv sb xr a H1 n0 r z0 0 z0 st)
  (hk:∀ st' zs',ID1 p l rs os ls ov lv nv sb xr a H1 n0 r z0 (nd (nth l.rts r)).length zs' st'→Bk DG (K DG d) 0 (.exit 2) ks st' Q):Wp DG (K DG d) 0 D.l187_1 ks st Q:=by
 have hrb:=rb3
 obtain⟨d,rfl⟩:∃ d',d=d'+1:=⟨d - 1,by omega⟩
 have hnl:(nd (nth l.rts r)).length≤reachBytes:=by have:=is.few r hr; simp[nd]; omega
 have p5:=is.p2
 refine zGt (N:=(nd (nth l.rts r)).length) (zRH hnl) (fun i st=>∃ ws,ID1 p l rs os ls ov lv nv sb xr a H1 n0 r z0 i ws st) (fun e st'=>e=.exit 2∧∃ ws,ID1 p l rs os ls ov lv nv sb xr a H1 n0 r z0 (nd (nth l.rts r)).length ws st') (fun i st hle hI=>?_) ⟨z0,h⟩ (fun e s' h=>by obtain⟨rfl,zs,h⟩:=h; exact hk s' zs h)
 obtain⟨zs,g0,⟨i4,g4,L4⟩,⟨i5,g5,L5⟩,g6,g15,g16,g17,g30,g31,g32,ha,fr,hn,dr⟩:=hI
 have lk1:LkAt st.H p own l rs:=lk.mono fun j hj=>fr j fun e=>hna (e▸hj)
 have lk0:=lk1
 obtain⟨x,h1,h2,h3,h4⟩:=lk1
 by_cases hi:i<(nd (nth l.rts r)).length
 ·have hi1:(i:Int)<(nd (nth l.rts r)).length:=by omega
  have hi':=zI3 hi1
  have hw8:IntKind.i64.wrap ((i:Int)+1)=(i:Int)+1:=zTX hi hnl
  have ix:=zIu hv hi1
  have hmem:=zMi hi
  simp only[Int.toNat_natCast] at ix
  generalize hgx:nth (nd (nth l.rts r)) i=y at *
  have hpt:=zMG is hr hmem
  have hsec:=zQb is hr hmem
  have ip:=fun {h:Nat→Option HB}{n:Nat}=>zIv (h:=h) (n:=n) ok.p (by omega) (k:=.i64) (z:=y.pt) hpt
  have io':=fun {h:Nat→Option HB}{n:Nat}=>zIv (h:=h) (n:=n) io.o (by omega) (k:=.i64) (z:=zQa l y) (by rw[mi.1]; exact hsec)
  have hl:=zKK (D:=d+1) (by omega) io (x:=y) (by rw[mi.2.1]; exact hpt)
  have hpo:=zN6 (D:=d+1) (by omega) y.pt y.rev
  have ho:=fun n lo=>zAm (d:=d) (by omega) ok lk0 go is.p5 (zQa l y) (n:=n) (lo:=lo)
  have iy:=fun {n:Nat}=>zIs (h:=st.H.get) (n:=n) (id:=a) (row:=0) (len:=l.pts.length) (cap:=l.pts.length) ha rfl (k:=.i64) (z:=y.pt) hpt.1 hpt.2
  have hlt:y.pt.toNat<(zs.map rowI).length:=by have:=hpt.1; have:=hpt.2; simp[dr.1]; omega
  have hrow:(zs.map rowI)[y.pt.toNat]?=some (rowI (nth zs y.pt.toNat)):=by
   rw[List.getElem?_map,zMh (by simpa using hlt)]; rfl
  have hset:(zs.map rowI).set y.pt.toNat (rowI (pos y))=(zs.set y.pt.toNat (pos y)).map rowI:=by simp[List.map_set]
  have dr':=dr
  have hput:drC l rs os ls r y→(zs.set y.pt.toNat (pos y)).length=l.pts.length∧zs.set y.pt.toNat (pos y)=it (drN l rs os ls r) z0 (i+1):=fun e=>
   ⟨by simp[dr.1],by show _=drN l rs os ls r i (it (drN l rs os ls r) z0 i); rw[← dr.2]; unfold drN; rw[hgx,zFd e]; rfl⟩
  have hkeep:¬drC l rs os ls r y→zs.length=l.pts.length∧zs=it (drN l rs os ls r) z0 (i+1):=fun e=>
   ⟨dr.1,by show _=drN l rs os ls r i (it (drN l rs os ls r) z0 i); rw[← dr.2]; unfold drN; rw[hgx,zFX e]; rfl⟩
  generalize hws:zs.set y.pt.toNat (pos y)=ws at hset hput
  obtain⟨n2,e2,hn2⟩:=ho (st.n+1) (st.n+1)
  simp only[zQa] at io' e2
  generalize hrr:zs.map rowI=rows at ha hrow hlt hset
  simp only[Nat.zero_add] at iy
  generalize hQ:(fun (e:Ex) (s':St)=>_)=Q'
  simp only[D.l187_1b]
  by_cases hly:nth ls y.pt.toNat=pos y
  ·rw[zFd hly] at hl
   have dr:=hkeep fun e=>e.1 hly
   simp[g0,g4,L4,g5,L5,g6,g15,g16,g17,g30,g31,g32,hi',hw8,ix,ip,h1,hl,e2,ivN,ivP,io.sc,B6,B7]
   subst hQ
   exact .inl ⟨rfl,hi,zs,by simp[gP],⟨i4,by simp[gP],by simp[gP]⟩,⟨i5,by simp[gP],by simp[gP]⟩,by simp[gP],by simp[gP],by simp[gP],by simp[gP],by simp[gP],by simp[gP],by simp[gP],by rw[hrr]; exact ha,fr,by simp; omega,dr⟩
  ·rw[zFX hly] at hl
   cases hoc:nth os (nth l.pts y.pt.toNat).sec.toNat with
   | true=>
    have dr:=hkeep fun e=>by rw[e.2.1] at hoc; cases hoc
    simp[g0,g4,L4,g5,L5,g6,g15,g16,g17,g30,g31,g32,hi',hw8,ix,ip,io',hoc,h1,hl,e2,ivN,ivP,ivB1,io.sc,B6,B7]
    subst hQ
    exact .inl ⟨rfl,hi,zs,by simp[gP],⟨i4,by simp[gP],by simp[gP]⟩,⟨i5,by simp[gP],by simp[gP]⟩,by simp[gP],by simp[gP],by simp[gP],by simp[gP],by simp[gP],by simp[gP],by simp[gP],by rw[hrr]; exact ha,fr,by simp; omega,dr⟩
   | false=>
    by_cases hho:hol l rs (nth l.pts y.pt.toNat).sec<0
    ·have hj:=zI3 hho
     have hd:=hput ⟨hly,hoc,.inl hho⟩
     simp[g0,g4,L4,g5,L5,g6,g15,g16,g17,g30,g31,g32,hi',hw8,ix,ip,io',iy,ha,hrow,hpo,hoc,h1,hl,e2,hj,ivN,ivP,ivB1,rowI,io.sc,zHG,lay,B6,B7]
     subst hQ
     refine .inl ⟨rfl,hi,ws,by simp[gP],⟨i4,by simp[gP],by simp[gP]⟩,⟨i5,by simp[gP],by simp[gP]⟩,by simp[gP],by simp[gP],by simp[gP],by simp[gP],by simp[gP],by simp[gP],by simp[gP],?_,?_,by simp; omega,hd⟩
     ·rw[← hset]; simp[gP,rowI]
     ·intro j hj; simp[gP,hj]; exact fr j hj
    ·have hj:=zIz (show 0≤hol l rs (nth l.pts y.pt.toNat).sec by omega)
     by_cases hhr:hol l rs (nth l.pts y.pt.toNat).sec=(r:Int)
     ·have hd:=hput ⟨hly,hoc,.inr hhr⟩
      simp[g0,g4,L4,g5,L5,g6,g15,g16,g17,g30,g31,g32,hi',hw8,ix,ip,io',iy,ha,hrow,hpo,hoc,h1,hl,e2,hj,hhr,ivN,ivP,ivB1,rowI,io.sc,zHG,lay,B6,B7]
      subst hQ
      refine .inl ⟨rfl,hi,ws,by simp[gP],⟨i4,by simp[gP],by simp[gP]⟩,⟨i5,by simp[gP],by simp[gP]⟩,by simp[gP],by simp[gP],by simp[gP],by simp[gP],by simp[gP],by simp[gP],by simp[gP],?_,?_,by simp; omega,hd⟩
      ·rw[← hset]; simp[gP,rowI]
      ·intro j hj; simp[gP,hj]; exact fr j hj
     ·have dr:=hkeep fun e=>e.2.2.elim hho hhr
      simp[g0,g4,L4,g5,L5,g6,g15,g16,g17,g30,g31,g32,hi',hw8,ix,ip,io',hoc,h1,hl,e2,hj,hhr,ivN,ivP,ivB1,io.sc,B6,B7]
      subst hQ
      exact .inl ⟨rfl,hi,zs,by simp[gP],⟨i4,by simp[gP],by simp[gP]⟩,⟨i5,by simp[gP],by simp[gP]⟩,by simp[gP],by simp[gP],by simp[gP],by simp[gP],by simp[gP],by simp[gP],by simp[gP],by rw[hrr]; exact ha,fr,by simp; omega,dr⟩
 ·obtain rfl:i=(nd (nth l.rts r)).length:=by omega
  generalize hQ:(fun (e:Ex) (s':St)=>_)=Q'
  simp only[D.l187_1b]
  simp[g0,g4,L4,g5,L5,g6,g15,g16,g17,g30,g31,g32,B6,B7]
  subst hQ
  exact .inr ⟨nofun,rfl,zs,by simp[gP,g0],⟨i4,by simp[gP,g4],by simp[gP,L4]⟩,⟨i5,by simp[gP,g5],by simp[gP,L5]⟩,by simp[gP,g6],by simp[gP,g15],by simp[gP,g16],by simp[gP,g17],by simp[gP,g30],by simp[gP,g31],by simp[gP,g32],ha,fr,hn,dr⟩
structure ID0 (p:Nat) (l:Lo) (rs:List Rst) (os:List Bool) (ls:List Int) (ov lv:IV) (sb xr:DV) (a:Nat) (H1:PT HB) (n0:Nat) (i:Nat) (zs:List Int) (st:St):Prop where
 h0:st.T.get 0=some (.ptr p 0 0)
 b4:BoxD st 4 [.imm ov,.imm lv]
 b5:BoxD st 5 [.sl a 0 l.pts.length l.pts.length,sb]
 h15:st.T.get 15=some xr
 h16:st.T.get 16=some (.imm (.int .i64 l.rts.length))
 h17:st.T.get 17=some (.imm (.int .i64 i))
 ha:st.H.get a=some ⟨1,zs.map rowI⟩
 fr:∀ j,j≠a→st.H.get j=H1.get j
 hn:n0≤st.n
 dr:zs.length=l.pts.length∧zs=it (drR l rs os ls) (List.replicate l.pts.length 0) i
theorem zKi(hd:9≤d)(ok:LoOk l) (is:ISL l)(hp:H1.get p=some ⟨5,[[.imm l.sv,.imm l.pv,.imm l.gv,.imm l.rv,xr]]⟩) (hr0:RsAt H1 xr own rs) (hpo:p∉own) (hrl:rs.length=l.rts.length) (go:zAi l rs){ls:List Int}(io:InOk ov lv os ls) (mi:MI l os ls)(hna:a∉p::own){sb:DV}
  {zs:List Int}(h:ID0 p l rs os ls ov lv sb xr a H1 n0 0 zs st)
  (hk:∀ st' zs',ID0 p l rs os ls ov lv sb xr a H1 n0 l.rts.length zs' st'→Bk DG (K DG d) 0 (.exit 0) ks st' Q):Wp DG (K DG d) 0 D.l187_0 ks st Q:=by
 have hrb:=rb3
 have lk:LkAt H1 p own l rs:=⟨xr,hp,hr0,hpo,hrl⟩
 refine zGt (N:=l.rts.length) (zRH ok.lr) (fun i st=>∃ zs,ID0 p l rs os ls ov lv sb xr a H1 n0 i zs st) (fun e st'=>e=.exit 0∧∃ zs,ID0 p l rs os ls ov lv sb xr a H1 n0 l.rts.length zs st') (fun i st hle hI=>?_) ⟨zs,h⟩ (fun e s' h=>by obtain⟨rfl,zs,h⟩:=h; exact hk s' zs h)
 obtain⟨zs,g0,⟨i4,g4,L4⟩,⟨i5,g5,L5⟩,g15,g16,g17,ha,fr,hn,dr⟩:=hI
 by_cases hi:i<l.rts.length
 ·have hi1:(i:Int)<l.rts.length:=by omega
  have hi':=zI3 hi1
  have hw8:IntKind.i64.wrap ((i:Int)+1)=(i:Int)+1:=zTX hi ok.lr
  obtain⟨id,rfl,rfl,hrs⟩:=hr0.sl (by omega)
  have hap:¬p=a:=fun e=>hna (by simp[e])
  have hia:¬id=a:=fun e=>hna (by simp[e])
  have hrs':st.H.get id=some ⟨4,rs.map zPS⟩:=by rw[fr id hia]; exact hrs
  have hp':=hp
  rw[← fr p hap] at hp'
  obtain⟨nv,en,hv⟩:=zA8 (D:=d) (by omega) ok hi (is.few i hi).1 (is.few i hi).2
  have vl:=hv.len
  simp only[List.length_map] at vl
  have iy:=fun {n:Nat}=>zIs (h:=st.H.get) (n:=n) (id:=id) (row:=0) (len:=rs.length) (cap:=rs.length) hrs' rfl (k:=.i64) (z:=(i:Int)) (by omega) (by omega)
  have hrow:(rs.map zPS)[i]?=some (zPS (nth rs i)):=by rw[List.getElem?_map,zMh (by omega)]; rfl
  generalize hrr:rs.map zPS=rows at hrs' hrow
  simp only[Int.toNat_natCast,Nat.zero_add] at iy
  generalize hQ:(fun (e:Ex) (s':St)=>_)=Q'
  simp only[D.l187_0b]
  by_cases hm:(nth rs i).mode=1
  ·simp[g0,g4,L4,g5,L5,g15,g16,g17,hi',hw8,iy,hp',hrs',hrow,hm,en,vl,zPS,zHG,lay,B6,B7]
   refine zKj (n0:=n0) (H1:=H1) (nv:=nv) (ov:=ov) (lv:=lv) (sb:=sb) (a:=a) (xr:=.sl id 0 rs.length rs.length) (z0:=zs) hd ok is lk go io mi hna hi hm hv ⟨by simp[gP],⟨i4,by simp[gP],by simp[gP]⟩,⟨i5,by simp[gP],by simp[gP]⟩,by simp[gP],by simp[gP],by simp[gP],by simp[gP],by simp[gP],by simp[gP],by simp[gP],ha,fr,by simp; omega,dr.1,rfl⟩ ?_
   rintro s2 ws ⟨f0,⟨j4,f4,M4⟩,⟨j5,f5,M5⟩,f6,f15,f16,f17,f30,f31,f32,fa,ffr,fn,fdr⟩
   simp[f0,f4,M4,f5,M5,f6,f15,f16,f17,f30,f31,f32,hw8,B6,B7]
   subst hQ
   exact .inl ⟨rfl,hi,ws,by simp[gP,f0],⟨j4,by simp[gP,f4],by simp[gP,M4]⟩,⟨j5,by simp[gP,f5],by simp[gP,M5]⟩,by simp[gP,f15],by simp[gP,f16],by simp[gP],fa,ffr,fn,fdr.1,by show _=drR l rs os ls i (it (drR l rs os ls) _ i); rw[← dr.2]; unfold drR; rw[zFd hm]; exact fdr.2⟩
  ·simp[g0,g4,L4,g5,L5,g15,g16,g17,hi',hw8,iy,hp',hrs',hrow,hm,zPS,zHG,lay,B6,B7]
   subst hQ
   exact .inl ⟨rfl,hi,zs,by simp[gP],⟨i4,by simp[gP],by simp[gP]⟩,⟨i5,by simp[gP],by simp[gP]⟩,by simp[gP],by simp[gP],by simp[gP],ha,fr,by simp; omega,dr.1,by show _=drR l rs os ls i (it (drR l rs os ls) _ i); rw[← dr.2]; unfold drR; rw[zFX hm]; rfl⟩
 ·obtain rfl:i=l.rts.length:=by omega
  generalize hQ:(fun (e:Ex) (s':St)=>_)=Q'
  simp only[D.l187_0b]
  simp[g0,g4,L4,g5,L5,g15,g16,g17,B6,B7]
  subst hQ
  exact .inr ⟨nofun,rfl,zs,by simp[gP,g0],⟨i4,by simp[gP,g4],by simp[gP,L4]⟩,⟨i5,by simp[gP,g5],by simp[gP,L5]⟩,by simp[gP,g15],by simp[gP,g16],by simp[gP,g17],ha,fr,hn,dr⟩
theorem zGe(hd:9≤d)(ok:LoOk l) (is:ISL l) (lk:LkAt H p own l rs) (go:zAi l rs){ls:List Int}(io:InOk ov lv os ls) (mi:MI l os ls) {b c:Nat}(hna:a∉p::own) (ha:H.get a=some ⟨1,(List.replicate l.pts.length 0).map rowI⟩) :
  Fe (K DG (d+1) 187 [.ptr p 0 0,inD ov lv,.agg [.sl a 0 l.pts.length l.pts.length,.sl b 0 c c]] H n 0) (fun v H' n'=>n≤n'∧(∀ j,j≠a→H'.get j=H.get j)∧H'.get a=some ⟨1,(drF l rs os ls).map rowI⟩):=by
 obtain⟨x,h1,h2,h3,h4⟩:=lk
 have xl:=h2.len
 rw[h4] at xl
 rw[kX 187 D.f187 rfl]
 refine zHy rfl ?_
 simp[io.sc,h1,xl,B6,B7]
 refine zKi (n0:=n) (H1:=H) (ov:=ov) (lv:=lv) (sb:=.sl b 0 c c) (a:=a) (xr:=x) (zs:=List.replicate l.pts.length 0) hd ok is h1 h2 h3 h4 go io mi hna ⟨by simp[gP],⟨n,by simp[gP],by simp[gP]⟩,⟨n+1,by simp[gP],by simp[gP]⟩,by simp[gP],by simp[gP],by simp[gP],ha,fun j hj=>rfl,by simp; omega,by simp,rfl⟩ ?_
 rintro s2 ws ⟨f0,⟨j4,f4,M4⟩,⟨j5,f5,M5⟩,f15,f16,f17,fa,ffr,fn,fdr⟩
 simp[f0,f4,M4,f5,M5,f15,f16,f17,B6,B7]
 exact⟨fn,fun j hj=>ffr j hj,by rw[fdr.2] at fa; exact fa⟩
def rowB (z:Bool):List DV:=[.imm (.bool z)]
def PrAt (l:Lo) (rs:List Rst) (os:List Bool) (ls:List Int) (s:Nat):Prop:=∃ r,r<l.rts.length∧(nth rs r).mode=2∧(nth l.rts r).fr=(s:Int)∧(¬∃ z∈(nth l.rts r).path,nth os z.toNat=true)∧Lie l ls r
def PrOk (l:Lo) (rs:List Rst) (os:List Bool) (ls:List Int) (bs:List Bool):Prop:=bs.length=l.sigs.length∧∀ s,s<l.sigs.length→nth bs s=true→PrAt l rs os ls s
theorem PrOk.put{ls:List Int}{bs:List Bool}(h:PrOk l rs os ls bs)(hz:PrAt l rs os ls q):PrOk l rs os ls (bs.set q true):=by
 refine⟨by simp[h.1],fun k hk ht=>?_⟩
 by_cases hq:q=k
 ·subst hq; exact hz
 ·have:nth (bs.set q true) k=nth bs k:=by simp[nth,List.getD,List.getElem?_set,hq]
  rw[this] at ht
  exact h.2 k hk ht
def prC (l:Lo) (rs:List Rst) (os:List Bool) (ls:List Int) (r:Nat):Prop:=(nth rs r).mode=2∧(¬∃ z∈(nth l.rts r).path,nth os z.toNat=true)∧Lie l ls r
noncomputable def prR (l:Lo) (rs:List Rst) (os:List Bool) (ls:List Int) (r:Nat) (bs:List Bool):List Bool:=bif dec (prC l rs os ls r) then bs.set (nth l.rts r).fr.toNat true else bs
noncomputable def prF (l:Lo) (rs:List Rst) (os:List Bool) (ls:List Int):List Bool:=it (prR l rs os ls) (List.replicate l.sigs.length false) l.rts.length
theorem zN8(is:ISL l){ls:List Int}:PrOk l rs os ls (prF l rs os ls):=by
 refine zJd (P:=PrOk l rs os ls) ⟨by simp,fun s hs h=>by simp[nth,hs] at h⟩ _ fun r x hr hx=>?_
 unfold prR
 by_cases hm:prC l rs os ls r
 ·rw[zFd hm]
  have hfr:=(is.rr r hr).fr
  exact hx.put ⟨r,hr,hm.1,by have:=hfr.1; omega,hm.2.1,hm.2.2⟩
 ·rw[zFX hm]; exact hx
structure ICp (p:Nat) (l:Lo) (rs:List Rst) (os:List Bool) (ls:List Int) (ov lv:IV) (sa xr:DV) (b:Nat) (H1:PT HB) (n0:Nat) (i:Nat) (bs:List Bool) (st:St):Prop where
 h0:st.T.get 0=some (.ptr p 0 0)
 b3:BoxD st 3 [.imm ov,.imm lv]
 b4:BoxD st 4 [.imm .nils,.imm .nils]
 b5:BoxD st 5 [sa,.sl b 0 l.sigs.length l.sigs.length]
 h50:st.T.get 50=some xr
 h51:st.T.get 51=some (.imm (.int .i64 l.rts.length))
 h52:st.T.get 52=some (.imm (.int .i64 i))
 hb:st.H.get b=some ⟨1,bs.map rowB⟩
 fr:∀ j,j≠b→st.H.get j=H1.get j
 hn:n0≤st.n
 pr:bs.length=l.sigs.length∧bs=it (prR l rs os ls) (List.replicate l.sigs.length false) i
theorem zKh(hd:9≤d)(ok:LoOk l) (is:ISL l)(hp:H1.get p=some ⟨5,[[.imm l.sv,.imm l.pv,.imm l.gv,.imm l.rv,xr]]⟩) (hr0:RsAt H1 xr own rs) (hpo:p∉own) (hrl:rs.length=l.rts.length){ls:List Int}(io:InOk ov lv os ls) (mi:MI l os ls) {b:Nat}(hnb:b∉p::own) (hpn:p<n0) {c:Nat}
  {bs:List Bool}(h:ICp p l rs os ls ov lv (.sl a 0 c c) xr b H1 n0 0 bs st)
  (hk:∀ st' bs',ICp p l rs os ls ov lv (.sl a 0 c c) xr b H1 n0 l.rts.length bs' st'→Bk DG (K DG d) 0 (.exit 2) ks st' Q):Wp DG (K DG d) 0 D.l166_1 ks st Q:=by
 have hrb:=rb3
 obtain⟨d,rfl⟩:∃ d',d=d'+1:=⟨d - 1,by omega⟩
 have g6:=is.g2
 refine zGt (N:=l.rts.length) (zRH ok.lr) (fun i st=>∃ bs,ICp p l rs os ls ov lv (.sl a 0 c c) xr b H1 n0 i bs st) (fun e st'=>e=.exit 2∧∃ bs,ICp p l rs os ls ov lv (.sl a 0 c c) xr b H1 n0 l.rts.length bs st') (fun i st hle hI=>?_) ⟨bs,h⟩ (fun e s' h=>by obtain⟨rfl,bs,h⟩:=h; exact hk s' bs h)
 obtain⟨bs,g0,⟨i3,g3,L3⟩,⟨i4,g4,L4⟩,⟨i5,g5,L5⟩,g50,g51,g52,hb,fr,hn,pr⟩:=hI
 by_cases hi:i<l.rts.length
 ·have hi1:(i:Int)<l.rts.length:=by omega
  have hi':=zI3 hi1
  have hw8:IntKind.i64.wrap ((i:Int)+1)=(i:Int)+1:=zTX hi ok.lr
  have lk:LkAt H1 p own l rs:=⟨xr,hp,hr0,hpo,hrl⟩
  have lk1:LkAt st.H p own l rs:=lk.mono fun j hj=>fr j fun e=>hnb (e▸hj)
  obtain⟨id,rfl,rfl,hrs⟩:=hr0.sl (by omega)
  have hbp:¬p=b:=fun e=>hnb (by simp[e])
  have hib:¬id=b:=fun e=>hnb (by simp[e])
  have hrs':st.H.get id=some ⟨4,rs.map zPS⟩:=by rw[fr id hib]; exact hrs
  have hp':=hp
  rw[← fr p hbp] at hp'
  have rk:=ok.or _ (zMi hi)
  have hfr:=(is.rr i hi).fr
  obtain⟨n2,Ha,ea,hn2⟩:=zB9 (d:=d) (by omega) ok is lk1 io mi hi (n:=st.n+1+1) (lo:=st.n+1+1) (by omega)
  have oc:=zJT (D:=d+1) (by omega) io rk.p rk.lp fun z hz=>by rw[mi.1]; exact zNw is hi hz
  have ix:=zIu ok.r hi1
  have iy:=fun {n:Nat}=>zIs (h:=st.H.get) (n:=n) (id:=id) (row:=0) (len:=rs.length) (cap:=rs.length) hrs' rfl (k:=.i64) (z:=(i:Int)) (by omega) (by omega)
  have hrow:(rs.map zPS)[i]?=some (zPS (nth rs i)):=by rw[List.getElem?_map,zMh (by omega)]; rfl
  have iz:=fun {n:Nat}=>zIs (h:=st.H.get) (n:=n) (id:=b) (row:=0) (len:=l.sigs.length) (cap:=l.sigs.length) hb rfl (k:=.i64) (z:=(nth l.rts i).fr) hfr.1 hfr.2
  have hlt:(nth l.rts i).fr.toNat<bs.length:=by have:=hfr.1; have:=hfr.2; rw[pr.1]; omega
  have hrob:(bs.map rowB)[(nth l.rts i).fr.toNat]?=some (rowB (nth bs (nth l.rts i).fr.toNat)):=by
   rw[List.getElem?_map,zMh hlt]; rfl
  have hset:(bs.map rowB).set (nth l.rts i).fr.toNat (rowB true)=(bs.set (nth l.rts i).fr.toNat true).map rowB:=by simp[List.map_set]
  have hput:(nth rs i).mode=2→(¬∃ z∈(nth l.rts i).path,nth os z.toNat=true)→Lie l ls i→(bs.set (nth l.rts i).fr.toNat true).length=l.sigs.length∧bs.set (nth l.rts i).fr.toNat true=it (prR l rs os ls) (List.replicate l.sigs.length false) (i+1):=fun e1 e2 e3=>
   ⟨by simp[pr.1],by show _=prR l rs os ls i (it (prR l rs os ls) _ i); rw[← pr.2]; unfold prR; rw[zFd ⟨e1,e2,e3⟩]; rfl⟩
  have hkeep:¬((nth rs i).mode=2∧(¬∃ z∈(nth l.rts i).path,nth os z.toNat=true)∧Lie l ls i)→bs=it (prR l rs os ls) (List.replicate l.sigs.length false) (i+1):=fun e=>by
   show _=prR l rs os ls i (it (prR l rs os ls) _ i); rw[← pr.2]; unfold prR; rw[zFX (p:=prC l rs os ls i) e]; rfl
  generalize bs.set (nth l.rts i).fr.toNat true=ws at hset hput
  generalize (∃ z∈(nth l.rts i).path,nth os z.toNat=true)=P at oc hput hkeep
  generalize Lie l ls i=R at ea hput hkeep
  generalize hrr:rs.map zPS=rows at hrs' hrow
  generalize hrb:bs.map rowB=rowb at hb hrob hset
  simp only[Int.toNat_natCast,Nat.zero_add] at iy iz ix
  generalize hQ:(fun (e:Ex) (s':St)=>_)=Q'
  simp only[D.l166_1b]
  have old:∀ s2:St,s2.T.get 0=some (.ptr p 0 0)→BoxD s2 3 [.imm ov,.imm lv]→BoxD s2 4 [.imm .nils,.imm .nils]→BoxD s2 5 [.sl a 0 c c,.sl b 0 l.sigs.length l.sigs.length]→s2.T.get 50=some (.sl id 0 rs.length rs.length)→s2.T.get 51=some (.imm (.int .i64 l.rts.length))→s2.T.get 52=some (.imm (.int .i64 ((i+1:Nat):Int)))→s2.H=st.H→n0≤s2.n→¬((nth rs i).mode=2∧(¬P)∧R)→∃ bs,ICp p l rs os ls ov lv (.sl a 0 c c) (.sl id 0 rs.length rs.length) b H1 n0 (i+1) bs s2:=fun s2 a1 a2 a3 a4 a5 a6 a7 a8 a9 b1=>
   ⟨bs,a1,a2,a3,a4,a5,a6,a7,by rw[a8,hrb]; exact hb,by rw[a8]; exact fr,a9,pr.1,hkeep b1⟩
  by_cases hm:(nth rs i).mode=2
  ·by_cases hP:P
   ·rw[zFd hP] at oc
    simp[g0,g3,L3,g4,L4,g5,L5,g50,g51,g52,hi',hw8,ix,iy,hp',hrs',hrow,hm,oc,zPS,ivRt,io.sc,rk.p.scal,rk.q.scal,rk.f.scal,zHG,lay,B6,B7]
    subst hQ
    exact .inl ⟨rfl,hi,old _ (by simp[gP]) ⟨i3,by simp[gP],by simp[gP]⟩ ⟨i4,by simp[gP],by simp[gP]⟩ ⟨i5,by simp[gP],by simp[gP]⟩ (by simp[gP]) (by simp[gP]) (by simp[gP]) rfl (by simp; omega) (fun e=>e.2.1 hP)⟩
   ·rw[zFX hP] at oc
    by_cases hR:R
    ·rw[zFd hR] at ea
     have hd:=hput hm hP hR
     simp[g0,g3,L3,g4,L4,g5,L5,g50,g51,g52,hi',hw8,ix,iy,iz,hp',hrs',hrow,hb,hrob,hm,oc,ea,zPS,rowB,ivRt,io.sc,rk.p.scal,rk.q.scal,rk.f.scal,zHG,lay,B6,B7]
     subst hQ
     refine .inl ⟨rfl,hi,ws,by simp[gP],⟨i3,by simp[gP],by simp[gP]⟩,⟨i4,by simp[gP],by simp[gP]⟩,⟨i5,by simp[gP],by simp[gP]⟩,by simp[gP],by simp[gP],by simp[gP],?_,?_,by simp; omega,hd⟩
     ·rw[← hset]; simp[gP,rowB]
     ·intro j hj; simp[gP,hj]; exact fr j hj
    ·rw[zFX hR] at ea
     simp[g0,g3,L3,g4,L4,g5,L5,g50,g51,g52,hi',hw8,ix,iy,hp',hrs',hrow,hm,oc,ea,zPS,ivRt,io.sc,rk.p.scal,rk.q.scal,rk.f.scal,zHG,lay,B6,B7]
     subst hQ
     exact .inl ⟨rfl,hi,old _ (by simp[gP]) ⟨i3,by simp[gP],by simp[gP]⟩ ⟨i4,by simp[gP],by simp[gP]⟩ ⟨i5,by simp[gP],by simp[gP]⟩ (by simp[gP]) (by simp[gP]) (by simp[gP]) rfl (by simp; omega) (fun e=>hR e.2.2)⟩
  ·simp[g0,g3,L3,g4,L4,g5,L5,g50,g51,g52,hi',hw8,ix,iy,hp',hrs',hrow,hm,zPS,ivRt,io.sc,rk.p.scal,rk.q.scal,rk.f.scal,zHG,lay,B6,B7]
   subst hQ
   exact .inl ⟨rfl,hi,old _ (by simp[gP]) ⟨i3,by simp[gP],by simp[gP]⟩ ⟨i4,by simp[gP],by simp[gP]⟩ ⟨i5,by simp[gP],by simp[gP]⟩ (by simp[gP]) (by simp[gP]) (by simp[gP]) rfl (by simp; omega) (fun e=>hm e.1)⟩
 ·obtain rfl:i=l.rts.length:=by omega
  generalize hQ:(fun (e:Ex) (s':St)=>_)=Q'
  simp only[D.l166_1b]
  simp[g0,g3,L3,g4,L4,g5,L5,g50,g51,g52,B6,B7]
  subst hQ
  exact .inr ⟨nofun,rfl,bs,by simp[gP,g0],⟨i3,by simp[gP,g3],by simp[gP,L3]⟩,⟨i4,by simp[gP,g4],by simp[gP,L4]⟩,⟨i5,by simp[gP,g5],by simp[gP,L5]⟩,by simp[gP,g50],by simp[gP,g51],by simp[gP,g52],hb,fr,hn,pr⟩
theorem RsOk.idle:RsOk l r rs0:=⟨by simp[rs0],by simp[rs0],by simp[rs0],by simp[rs0],by simp[rs0],by simp[rs0],by simp[rs0]⟩
theorem RsOk.step(is:ISL l){ls:List Int}(hr:r<l.rts.length){x:Rst}(h:RsOk l r x):RsOk l r (zRZ l os ls r x):=by
 have p1:=(is.rr r hr).p1
 obtain⟨md,t0,t8,t6,tz,g3,gz⟩:=h
 obtain⟨m,t,g,s⟩:=x
 simp only at *
 have hc:m=0∨m=1∨m=2∨m=3∨m=4:=by omega
 rcases hc with rfl | rfl | rfl | rfl | rfl
 ·have e:zRZ l os ls r ⟨0,t,g,s⟩=⟨0,t,g,s⟩:=by simp[zRZ,zFY]
  rw[e]; exact⟨md,t0,t8,t6,tz,g3,gz⟩
 ·by_cases hL:Lie l ls r
  ·have e:zRZ l os ls r ⟨1,t,g,s⟩=⟨2,0,0,false⟩:=by simp[zRZ,zFe,zFd hL]
   rw[e]; exact⟨by simp,by simp,by simp,by simp,by simp,by simp,by simp⟩
  ·have e:zRZ l os ls r ⟨1,t,g,s⟩=zJ1 ⟨1,t,g,s⟩ 8:=by simp[zRZ,zFe,zFX hL]
   rw[e]
   by_cases ht:8<t+1
   ·have:zJ1 ⟨1,t,g,s⟩ 8=rs0:=by simp[zJ1,zFd ht]
    rw[this]; exact RsOk.idle
   ·have:zJ1 ⟨1,t,g,s⟩ 8=⟨1,t+1,g,s⟩:=by simp[zJ1,zFX ht]
    rw[this]
    exact⟨by simp,by simp; omega,by simp; omega,by simp,by simp,by simp,by simpa using gz⟩
 ·cases ho:nth os (nth (nth l.rts r).path 0).toNat with
  | true=>
   have e:zRZ l os ls r ⟨2,t,g,s⟩=⟨3,0,0,true⟩:=by simp[zRZ,zFe,zFY,ho]
   rw[e]; exact⟨by simp,by simp,by simp,by simp,by simp,by simp; omega,by simp⟩
  | false=>
   have e:zRZ l os ls r ⟨2,t,g,s⟩=⟨2,t,g,s⟩:=by simp[zRZ,zFe,zFY,ho]
   rw[e]; exact⟨md,t0,t8,t6,tz,g3,gz⟩
 ·have e:zRZ l os ls r ⟨3,t,g,s⟩=zTJ l os r ⟨3,t,g,s⟩:=by simp[zRZ,zFe,zFY]
  rw[e]
  have hz:=tz (by omega) (by omega)
  have hg:=g3 rfl
  cases ho:nth os (nth (nth l.rts r).path g.toNat).toNat with
  | true=>
   have e:zTJ l os r ⟨3,t,g,s⟩=⟨3,t,g,true⟩:=by simp[zTJ,ho]
   rw[e]; exact⟨by simp,by simp; omega,by simp,by simp,by simp[hz],by simpa using hg,by simp⟩
  | false=>
   cases s with
   | true=>
    by_cases hl:g+1<(nth l.rts r).path.length
    ·have e:zTJ l os r ⟨3,t,g,true⟩=⟨3,t,g+1,false⟩:=by simp[zTJ,ho,zFd hl]
     rw[e]; exact⟨by simp,by simp; omega,by simp,by simp,by simp[hz],by simp; omega,by simp⟩
    ·have e:zTJ l os r ⟨3,t,g,true⟩=rs0:=by simp[zTJ,ho,zFX hl]
     rw[e]; exact RsOk.idle
   | false=>
    have e:zTJ l os r ⟨3,t,g,false⟩=⟨3,t,g,false⟩:=by simp[zTJ,ho]
    rw[e]; exact⟨md,t0,t8,t6,tz,g3,gz⟩
 ·cases ho:nth os (nth (nth l.rts r).path 0).toNat with
  | true=>
   have e:zRZ l os ls r ⟨4,t,g,s⟩=⟨3,0,0,true⟩:=by simp[zRZ,zFe,zFY,ho]
   rw[e]; exact⟨by simp,by simp,by simp,by simp,by simp,by simp; omega,by simp⟩
  | false=>
   have e:zRZ l os ls r ⟨4,t,g,s⟩=zJ1 ⟨4,t,g,s⟩ 5:=by simp[zRZ,zFe,zFY,ho]
   rw[e]
   by_cases ht:5<t+1
   ·have:zJ1 ⟨4,t,g,s⟩ 5=rs0:=by simp[zJ1,zFd ht]
    rw[this]; exact RsOk.idle
   ·have:zJ1 ⟨4,t,g,s⟩ 5=⟨4,t+1,g,s⟩:=by simp[zJ1,zFX ht]
    rw[this]
    exact⟨by simp,by simp; omega,by simp,by simp; omega,by simp,by simp,by simpa using gz⟩
variable {k:Nat}
theorem zMj {α:Type}[Inhabited α]{x:α}(h:i<k):nth (List.replicate k x) i=x:=by simp[nth,h]
theorem zIT(h:∀ r,r<l.rts.length→RsOk l r (nth rs r)):zAi l rs:=fun r hr hm=>by
 have:=(h r hr).g3 hm
 exact⟨this.1,by omega⟩
theorem zAe(hd:11≤d)(ok:LoOk l) (is:ISL l) (lk:LkAt H p own l rs) (ro:∀ r,r<l.rts.length→RsOk l r (nth rs r)){ls:List Int}(io:InOk ov lv os ls) (mi:MI l os ls)(hpn:∀ i∈p::own,i<n) :
  Fe (K DG (d+1) 166 [.ptr p 0 0,inD ov lv] H n 0) (fun v H' n'=>v=.agg [.sl (n+2+1) 0 l.pts.length l.pts.length,.sl (n+2+2) 0 l.sigs.length l.sigs.length]∧n+5≤n'∧(∀ j,j∉own→j<n→H'.get j=H.get j)∧
   ∃ qs,LkAt H' p own l qs∧(∀ j,j<l.rts.length→nth qs j=zRZ l os ls j (nth rs j))∧H'.get (n+2+1)=some ⟨1,(drF l qs os ls).map rowI⟩∧H'.get (n+2+2)=some ⟨1,(prF l qs os ls).map rowB⟩):=by
 have hp:=hpn p (by simp)
 obtain⟨d,rfl⟩:∃ d',d=d'+1:=⟨d - 1,by omega⟩
 have p5:=is.p2
 have g6:=is.g2
 obtain⟨v,H1,n1,e1,rfl,rfl,hH1⟩:=zBX (d:=d) ok p5 g6 lk (n:=n+2) (lo:=0) (by omega)
 have e:=zAw (D:=d+1) (by omega) ok io
 rw[zFd mi] at e
 have lk1:LkAt H1 p own l rs:=lk.mono fun j hj=>by
  have:=hpn j hj
  have b1:¬j=n+2+1:=by omega
  have b2:¬j=n+2+2:=by omega
  rw[hH1]; simp[gP,b1,b2]
 have hz1:H1.get (n+2+1)=some ⟨1,(List.replicate l.pts.length (0:Int)).map rowI⟩:=by
  have b1:¬n+2+1=n+2+2:=by omega
  rw[hH1]; simp[gP,b1,rowI,imms]
 have hz2:H1.get (n+2+2)=some ⟨1,(List.replicate l.sigs.length false).map rowB⟩:=by
  rw[hH1]; simp[gP,rowB,imms]
 have hfr1:∀ j,j<n→H1.get j=H.get j:=fun j hj=>by
  have b1:¬j=n+2+1:=by omega
  have b2:¬j=n+2+2:=by omega
  rw[hH1]; simp[gP,b1,b2]
 clear hH1
 have lk1':=lk1
 obtain⟨x,h1,h2,h3,h4⟩:=lk1
 have xl:=h2.len
 rw[h4] at xl
 rw[kX 166 D.f166 rfl]
 refine zHy rfl ?_
 simp[io.sc,e1,h1,e,xl,B6,B7]
 refine zKg (own:=own) (os:=os) (ls:=ls) (rs:=rs) (ov:=ov) (lv:=lv) (us:=[.sl (n+2+1) 0 l.pts.length l.pts.length,.sl (n+2+2) 0 l.sigs.length l.sigs.length]) (H1:=H1) (n1:=n+2+3) (by omega) ok is io mi ro (by omega) ⟨by simp[gP],by simp[gP],by simp[gP],⟨n,by simp[gP],by simp[gP]⟩,⟨n+1,by simp[gP],by simp[gP]⟩,⟨n+2+3,by simp[gP],by simp[gP]⟩,lk1',fun j hj=>rfl,by simp,fun j hj=>by simp⟩ ?_
 rintro s2 qs ⟨f0,f28,f29,⟨i3,f3,M3⟩,⟨i4,f4,M4⟩,⟨i5,f5,M5⟩,lk2,fr2,fn2,al⟩
 have hq:∀ j,j<l.rts.length→nth qs j=zRZ l os ls j (nth rs j):=fun j hj=>by rw[al j hj,if_pos hj]
 have roq:∀ j,j<l.rts.length→RsOk l j (nth qs j):=fun j hj=>by rw[hq j hj]; exact (ro j hj).step is hj
 have ha:n+2+1∉p::own:=fun h=>by have:=hpn _ h; omega
 have hb:n+2+2∉p::own:=fun h=>by have:=hpn _ h; omega
 obtain⟨v3,H3,n3,e3,hn3,fr3,hz3⟩:=zGe (d:=d) (by omega) ok is lk2 (zIT roq) io mi (a:=n+2+1) (b:=n+2+2) (c:=l.sigs.length) (n:=s2.n) ha (by rw[fr2 _ (fun h=>ha (by simp[h]))]; exact hz1)
 have lk3:LkAt H3 p own l qs:=lk2.mono fun j hj=>fr3 j fun h=>ha (h▸hj)
 have lk3':=lk3
 have hz4:H3.get (n+2+2)=some ⟨1,(List.replicate l.sigs.length false).map rowB⟩:=by
  rw[fr3 _ (by omega),fr2 _ (fun h=>hb (by simp[h]))]; exact hz2
 obtain⟨y,k1,k2,k3,k4⟩:=lk3
 have yl:=k2.len
 rw[k4] at yl
 simp[f0,f28,f29,f3,M3,f4,M4,f5,M5,io.sc,e3,k1,yl,B6,B7]
 refine zKh (own:=own) (os:=os) (ls:=ls) (rs:=qs) (ov:=ov) (lv:=lv) (a:=n+2+1) (c:=l.pts.length) (b:=n+2+2) (H1:=H3) (xr:=y) (n0:=n+2+3) (bs:=List.replicate l.sigs.length false) (by omega) ok is k1 k2 k3 k4 io mi hb (by omega) ⟨by simp[gP,f0],⟨i3,by simp[gP,f3],by simp[gP,M3]⟩,⟨i4,by simp[gP,f4],by simp[gP,M4]⟩,⟨i5,by simp[gP,f5],by simp[gP,M5]⟩,by simp[gP],by simp[gP],by simp[gP],hz4,fun j hj=>rfl,by simp; omega,by simp,rfl⟩ ?_
 rintro s4 bs ⟨t0,⟨j3,t3,N3⟩,⟨j4,t4,N4⟩,⟨j5,t5,N5⟩,t50,t51,t52,tb,tfr,tn,pr⟩
 simp[t0,t3,N3,t4,N4,t5,N5,B6,B7]
 refine⟨by omega,fun j hj hjn=>?_,qs,lk3'.mono fun j hj=>tfr j fun h=>hb (h▸hj),hq,?_,by rw[pr.2] at tb; exact tb⟩
 ·rw[tfr j (by omega),fr3 j (by omega),fr2 j hj,hfr1 j hjn]
 ·rw[tfr _ (by omega)]; exact hz3
theorem zA7 {D:Nat}(hD:1≤D)(ok:LoOk l)(hr:r<l.rts.length) (hq:(nth l.rts r).pts.length≤100) (hf:(nth l.rts r).flk.length≤100) :
  ∃ v,bl (K DG D) 70 [l.dv,.imm (.int .i64 r)]=some (.imm v)∧Sl 2 v ((nd (nth l.rts r)).map ivN):=by
 obtain⟨d,rfl⟩:∃ d,D=d+1:=⟨D - 1,by omega⟩
 have rk:=ok.or _ (zMi hr)
 have hr':(r:Int)<l.rts.length:=by omega
 have ix:=zIu ok.r hr'
 have key:Fe (K DG (d+1) 70 [l.dv,.imm (.int .i64 r)] .lf 0 0) (fun x H n=>(x=.imm (.lst true 2 [])∧(nd (nth l.rts r)).map ivN=[])∨AtS 2 x H n ((nd (nth l.rts r)).map ivN)):=by
  rw[kX 70 D.f70 rfl]
  refine zHy rfl ?_
  have hQ:=rk.q
  have hF:=rk.f
  simp only[nd,List.map_append]
  generalize hxs:(nth l.rts r).pts.map ivN=xs at hQ ⊢
  generalize hys:(nth l.rts r).flk.map ivN=ys at hF ⊢
  have lx:xs.length≤100:=by rw[← hxs]; simpa using hq
  have ly:ys.length≤100:=by rw[← hys]; simpa using hf
  by_cases hx:xs=[]
  ·subst hx
   have p1:=fun {h:Nat→Option HB}{n:Nat}{x:DV} hx=>zCX (bytes:=16) (h:=h) (n:=n) (x:=x) hx hQ
   by_cases hy:ys=[]
   ·subst hy
    have p2:=fun {h:Nat→Option HB}{n:Nat}{x:DV} hx=>zCX (bytes:=16) (h:=h) (n:=n) (x:=x) hx hF
    simp[ok.sc,ix,ivRt,p1,p2,zHH,lay,zS4,zS2,mapO,zPT,B6,B7]
   ·have p2:=fun {h:Nat→Option HB}{n:Nat}=>zCW (bytes:=16) (h:=h) (n:=n) hF hy (by omega) (by omega) (by omega)
    simp[ok.sc,ix,ivRt,p1,p2,zHH,lay,zS4,zS2,mapO,zPT,B6,B7]
    exact .inr ⟨1,by omega,by simp,by simp[gP]⟩
  ·have p1:=fun {h:Nat→Option HB}{n:Nat}=>zCW (bytes:=16) (h:=h) (n:=n) hQ hx (by omega) (by omega) (by omega)
   by_cases hy:ys=[]
   ·subst hy
    have p2:=fun {h:Nat→Option HB}{n:Nat}{x:DV} hx=>zCX (bytes:=16) (h:=h) (n:=n) (x:=x) hx hF
    simp[ok.sc,ix,ivRt,p1,p2,zHH,lay,zS4,zS2,mapO,zPT,B6,B7]
    exact .inr ⟨1,by omega,by simp,by simp[gP]⟩
   ·have p2:=fun {h:Nat→Option HB}{n:Nat}{id:Nat} hh=>zCQ (bytes:=16) (h:=h) (n:=n) (id:=id) (rows:=xs) hF hy (by omega) (by omega) (by omega) hh
    simp[ok.sc,ix,ivRt,p1,p2,zHH,lay,zS4,zS2,mapO,zPT,B6,B7]
    exact .inr ⟨2,by omega,by simp,by simp[gP]⟩
 obtain⟨x,H,n,e,hx⟩:=key
 rcases hx with⟨rfl,h0⟩ | hat
 ·rw[h0]
  exact⟨_,zDe e,.inr ⟨_,rfl⟩⟩
 ·obtain⟨v,e2,hv⟩:=zIE hat
  exact⟨v,zDf e e2,hv⟩
def IC0 (l:Lo) (r s:Nat) (i:Nat) (st:St):Prop:=st.T.get 1=some (.imm (.int .i64 r))∧st.T.get 2=some (.imm (.int .i64 s))∧Box st 3 l.ivs∧Box st 7 (ivRt (nth l.rts r))∧Box st 8 (ivRt (nth l.rts s))∧st.T.get 9=some (.imm (.int .i64 i))∧
 st.H=.lf∧∀ j,j<i→nth (nth l.rts r).path j∉(nth l.rts s).path
theorem zKX(hd:1≤d)(ok:LoOk l)(hr:r<l.rts.length) (hs:s<l.rts.length)(h:IC0 l r s 0 st)
  (hk:∀ e st',(e=.ret∧st'.T.get 6=some (.imm (.bool true))∧(∃ z∈(nth l.rts r).path,z∈(nth l.rts s).path))∨(e=.exit 0∧IC0 l r s (nth l.rts r).path.length st')→Bk DG (K DG d) 0 e ks st' Q) :
  Wp DG (K DG d) 0 D.l60_0 ks st Q:=by
 have rk:=ok.or _ (zMi hr)
 have sk:=ok.or _ (zMi hs)
 refine zGt (N:=(nth l.rts r).path.length) (zRH rk.lp) (IC0 l r s) (fun e st'=>(e=.ret∧st'.T.get 6=some (.imm (.bool true))∧(∃ z∈(nth l.rts r).path,z∈(nth l.rts s).path))∨(e=.exit 0∧IC0 l r s (nth l.rts r).path.length st'))
  (fun i st hle hI=>?_) h (fun e s' h=>hk e s' h)
 obtain⟨h1,h2,⟨i3,h3,L3⟩,⟨i7,h7,L7⟩,⟨i8,h8,L8⟩,h9,hH,hall⟩:=hI
 have pl:=rk.p.len
 simp only[List.length_map] at pl
 by_cases hi:i<(nth l.rts r).path.length
 ·have hi':(i:Int)<(nth l.rts r).path.length:=by omega
  have hj':=zI3 hi'
  have hw8:IntKind.i64.wrap ((i:Int)+1)=(i:Int)+1:=zTX hi rk.lp
  have ix:=zIu rk.p hi'
  have hc:=fun z=>zI7 (D:=d) (by omega) sk.p sk.lp z
  have no:nth (nth l.rts r).path i∉(nth l.rts s).path→∀ j,j<i+1→nth (nth l.rts r).path j∉(nth l.rts s).path:=fun h j hj=>by
   rcases Nat.lt_or_eq_of_le (Nat.le_of_lt_succ hj) with hj | rfl
   ·exact hall j hj
   ·exact h
  generalize hQ:(fun (e:Ex) (s':St)=>_)=Q'
  simp only[D.l60_0b]
  simp +contextual (maxSteps:=2000000) [h1,h2,h3,h7,h8,h9,L3,L7,L8,hH,hj',hw8,ix,hc,pl,ivI,ivRt,B6,B7]
  subst hQ
  refine⟨fun a=>.inr ⟨nofun,.inl ⟨rfl,by simp[gP],_,zMi hi,a⟩⟩,fun a=>.inl ⟨rfl,hi,by simp[gP],by simp[gP],⟨i3,by simp[gP],by simp[gP,imms]⟩,⟨i7,by simp[gP],by simp[gP,imms,ivRt]⟩,⟨i8,by simp[gP],by simp[gP,imms,ivRt]⟩,by simp[gP],rfl,no a⟩⟩
 ·obtain rfl:i=(nth l.rts r).path.length:=by omega
  generalize hQ:(fun (e:Ex) (s':St)=>_)=Q'
  simp only[D.l60_0b]
  simp[h1,h2,h3,h7,h8,h9,L3,L7,L8,hH,pl,ivRt,B6,B7]
  subst hQ
  exact .inr ⟨nofun,.inr ⟨rfl,by simp[gP],by simp[gP],⟨i3,by simp[gP,h3],by simp[gP,L3,imms]⟩,⟨i7,by simp[gP,h7],by simp[gP,L7,imms,ivRt]⟩,⟨i8,by simp[gP,h8],by simp[gP,L8,imms,ivRt]⟩,by simp[gP],rfl,hall⟩⟩
def ICV (v w:IV) (i:Nat) (st:St):Prop:=st.T.get 10=some (.imm v)∧st.T.get 11=some (.imm w)∧st.T.get 12=some (.imm (.int .i64 i))
def IC2 (v w:IV) (i:Nat) (x:Need) (ys:List Need) (k:Nat) (st:St):Prop:=ICV v w i st∧st.T.get 13=some (.imm (.int .i64 k))∧∀ j,j<k→(⟨x.pt,!x.rev⟩:Need)≠nth ys j
theorem zKZ {w:IV}{xs ys:List Need}(hi:i<xs.length) (hv:Sl 2 v (xs.map ivN)) (hw:Sl 2 w (ys.map ivN)) (hl:ys.length≤reachBytes)(h:IC2 v w i (nth xs i) ys 0 st)
  (hk:∀ e st',(e=.ret∧st'.T.get 6=some (.imm (.bool true))∧(⟨(nth xs i).pt,!(nth xs i).rev⟩:Need)∈ys)∨(e=.exit 4∧ICV v w i st'∧(⟨(nth xs i).pt,!(nth xs i).rev⟩:Need)∉ys)→Bk DG (K DG d) 0 e ks st' Q) :
  Wp DG (K DG d) 0 D.l60_2 ks st Q:=by
 refine zGt (N:=ys.length) (zRH hl) (IC2 v w i (nth xs i) ys) (fun e st'=>(e=.ret∧st'.T.get 6=some (.imm (.bool true))∧(⟨(nth xs i).pt,!(nth xs i).rev⟩:Need)∈ys)∨(e=.exit 4∧ICV v w i st'∧(⟨(nth xs i).pt,!(nth xs i).rev⟩:Need)∉ys))
  (fun k st hle hI=>?_) h (fun e s' h=>hk e s' h)
 obtain⟨⟨h10,h11,h12⟩,h13,hall⟩:=hI
 have wl:=hw.len
 simp only[List.length_map] at wl
 by_cases hk':k<ys.length
 ·have hkk:(k:Int)<ys.length:=by omega
  have hii:(i:Int)<xs.length:=by omega
  have hj':=zI3 hkk
  have hw8:IntKind.i64.wrap ((k:Int)+1)=(k:Int)+1:=zTX hk' hl
  have ix:=zIu hv hii
  have iy:=zIu hw hkk
  have hm:=zMi hk'
  have no:(⟨(nth xs i).pt,!(nth xs i).rev⟩:Need)≠nth ys k→∀ j,j<k+1→(⟨(nth xs i).pt,!(nth xs i).rev⟩:Need)≠nth ys j:=fun h j hj=>by
   rcases Nat.lt_or_eq_of_le (Nat.le_of_lt_succ hj) with hj | rfl
   ·exact hall j hj
   ·exact h
  generalize hgx:nth xs i=x at *
  generalize hgy:nth ys k=y at *
  obtain⟨a,b⟩:=x
  obtain⟨a',b'⟩:=y
  by_cases ha:a=a'
  ·subst ha
   cases b <;> cases b'
   ·generalize hQ:(fun (e:Ex) (s':St)=>_)=Q'
    simp only[D.l60_2b]
    simp[h10,h11,h12,h13,wl,hj',hw8,ix,iy,hgx,hgy,ivN,B6,B7]
    subst hQ
    exact .inl ⟨rfl,hk',⟨by simp[gP],by simp[gP],by simp[gP]⟩,by simp[gP],no (by simp)⟩
   ·generalize hQ:(fun (e:Ex) (s':St)=>_)=Q'
    simp only[D.l60_2b]
    simp[h10,h11,h12,h13,wl,hj',hw8,ix,iy,hgx,hgy,ivN,B6,B7]
    subst hQ
    exact .inr ⟨nofun,.inl ⟨rfl,by simp[gP],hm⟩⟩
   ·generalize hQ:(fun (e:Ex) (s':St)=>_)=Q'
    simp only[D.l60_2b]
    simp[h10,h11,h12,h13,wl,hj',hw8,ix,iy,hgx,hgy,ivN,B6,B7]
    subst hQ
    exact .inr ⟨nofun,.inl ⟨rfl,by simp[gP],hm⟩⟩
   ·generalize hQ:(fun (e:Ex) (s':St)=>_)=Q'
    simp only[D.l60_2b]
    simp[h10,h11,h12,h13,wl,hj',hw8,ix,iy,hgx,hgy,ivN,B6,B7]
    subst hQ
    exact .inl ⟨rfl,hk',⟨by simp[gP],by simp[gP],by simp[gP]⟩,by simp[gP],no (by simp)⟩
  ·generalize hQ:(fun (e:Ex) (s':St)=>_)=Q'
   simp only[D.l60_2b]
   simp[h10,h11,h12,h13,wl,hj',hw8,ix,iy,hgx,hgy,ha,ivN,B6,B7]
   subst hQ
   exact .inl ⟨rfl,hk',⟨by simp[gP],by simp[gP],by simp[gP]⟩,by simp[gP],no (by simp[ha])⟩
 ·obtain rfl:k=ys.length:=by omega
  generalize hQ:(fun (e:Ex) (s':St)=>_)=Q'
  simp only[D.l60_2b]
  simp[h10,h11,h12,h13,wl,B6,B7]
  subst hQ
  refine .inr ⟨nofun,.inr ⟨rfl,⟨by simp[gP],by simp[gP],by simp[gP]⟩,fun hm=>?_⟩⟩
  obtain⟨j,hj,e⟩:=zL2 hm
  exact hall j hj e.symm
def IC1 (v w:IV) (xs ys:List Need) (i:Nat) (st:St):Prop:=ICV v w i st∧∀ j,j<i→(⟨(nth xs j).pt,!(nth xs j).rev⟩:Need)∉ys
theorem zKY {w:IV}{xs ys:List Need}(hv:Sl 2 v (xs.map ivN)) (hw:Sl 2 w (ys.map ivN)) (hlx:xs.length≤reachBytes) (hl:ys.length≤reachBytes)(h:IC1 v w xs ys 0 st)
  (hk:∀ e st',(e=.ret∧st'.T.get 6=some (.imm (.bool true))∧(∃ x∈xs,(⟨x.pt,!x.rev⟩:Need)∈ys))∨(e=.exit 2∧¬∃ x∈xs,(⟨x.pt,!x.rev⟩:Need)∈ys)→Bk DG (K DG d) 0 e ks st' Q) :
  Wp DG (K DG d) 0 D.l60_1 ks st Q:=by
 refine zGt (N:=xs.length) (zRH hlx) (IC1 v w xs ys) (fun e st'=>(e=.ret∧st'.T.get 6=some (.imm (.bool true))∧(∃ x∈xs,(⟨x.pt,!x.rev⟩:Need)∈ys))∨(e=.exit 2∧¬∃ x∈xs,(⟨x.pt,!x.rev⟩:Need)∈ys))
  (fun i st hle hI=>?_) h (fun e s' h=>hk e s' h)
 obtain⟨⟨h10,h11,h12⟩,hall⟩:=hI
 have vl:=hv.len
 simp only[List.length_map] at vl
 by_cases hi:i<xs.length
 ·have hii:(i:Int)<xs.length:=by omega
  have hj':=zI3 hii
  have hw8:IntKind.i64.wrap ((i:Int)+1)=(i:Int)+1:=zTX hi hlx
  generalize hQ:(fun (e:Ex) (s':St)=>_)=Q'
  simp only[D.l60_1b]
  simp[h10,h11,h12,vl,hj',B6,B7]
  refine zKZ (xs:=xs) hi hv hw hl ⟨⟨by simp[gP],by simp[gP],by simp[gP]⟩,by simp[gP],fun j hj=>by omega⟩ ?_
  rintro e st' (⟨rfl,g6,hm⟩ | ⟨rfl,⟨g10,g11,g12⟩,hm⟩)
  ·simp[B6,B7]
   subst hQ
   exact .inr ⟨nofun,.inl ⟨rfl,g6,_,zMi hi,hm⟩⟩
  ·simp[g10,g11,g12,hw8,B6,B7]
   subst hQ
   refine .inl ⟨rfl,hi,⟨by simp[gP,g10],by simp[gP,g11],by simp[gP]⟩,fun j hj=>?_⟩
   rcases Nat.lt_or_eq_of_le (Nat.le_of_lt_succ hj) with hj | rfl
   ·exact hall j hj
   ·exact hm
 ·obtain rfl:i=xs.length:=by omega
  generalize hQ:(fun (e:Ex) (s':St)=>_)=Q'
  simp only[D.l60_1b]
  simp[h10,h11,h12,vl,B6,B7]
  subst hQ
  refine .inr ⟨nofun,.inr ⟨rfl,fun ⟨x,hx,hm⟩=>?_⟩⟩
  obtain⟨j,hj,e⟩:=zL2 hx
  exact hall j hj (e▸hm)
theorem zAJ {D:Nat}(hD:3≤D)(ok:LoOk l) (fw:Few l)(hr:r<l.rts.length) (hs:s<l.rts.length) :
  bl (K DG D) 60 [l.dv,.imm (.int .i64 r),.imm (.int .i64 s)]=some (.imm (.bool (dec (CF l r s)))):=by
 obtain⟨d,rfl⟩:∃ d,D=d+1:=⟨D - 1,by omega⟩
 have hrb:=rb3
 have rk:=ok.or _ (zMi hr)
 have sk:=ok.or _ (zMi hs)
 have hr':(r:Int)<l.rts.length:=by omega
 have hs':(s:Int)<l.rts.length:=by omega
 have ix:=zIu ok.r hr'
 have iy:=zIu ok.r hs'
 obtain⟨vr,er,hvr⟩:=zA7 (D:=d) (by omega) ok hr (fw r hr).1 (fw r hr).2
 obtain⟨vs,es,hvs⟩:=zA7 (D:=d) (by omega) ok hs (fw s hs).1 (fw s hs).2
 have hlr:(nd (nth l.rts r)).length≤reachBytes:=by have:=fw r hr; simp[nd]; omega
 have hls:(nd (nth l.rts s)).length≤reachBytes:=by have:=fw s hs; simp[nd]; omega
 have i0:((r:Int)=(s:Int))=(r=s):=propext ⟨fun h=>by omega,fun h=>by omega⟩
 have y1:r=s→CF l r s:=.inl
 have y2:(nth l.rts r).fr=(nth l.rts s).fr→CF l r s:=fun h=>.inr (.inl h)
 refine zDd ?_
 rw[kX 60 D.f60 rfl]
 refine zHy rfl ?_
 generalize hQ:Fin _ _=Q
 simp +contextual (maxSteps:=2000000) [ok.sc,rk.p.scal,rk.q.scal,rk.f.scal,sk.p.scal,sk.q.scal,sk.f.scal,ix,iy,i0,ivRt,B6,B7]
 subst hQ
 simp +contextual [y1,y2,B6,B7]
 refine⟨fun h=>.inl rfl,fun n1 n2=>?_⟩
 refine zKX (l:=l) (r:=r) (s:=s) (by omega) ok hr hs ⟨by simp[gP],by simp[gP],⟨0,by simp[gP],by simp[gP,imms]⟩,⟨1,by simp[gP],by simp[gP,imms,ivRt]⟩,⟨2,by simp[gP],by simp[gP,imms,ivRt]⟩,by simp[gP],rfl,fun j hj=>by omega⟩ ?_
 rintro e st' (⟨rfl,g6,hm⟩ | ⟨rfl,g1,g2,⟨i3,g3,L3⟩,⟨i7,g7,L7⟩,⟨i8,g8,L8⟩,g9,gH,hall⟩)
 ·have:CF l r s:=.inr (.inr (.inl hm))
  simp[g6,this,B6,B7]
 have n3:¬∃ z∈(nth l.rts r).path,z∈(nth l.rts s).path:=fun ⟨z,hz,hm⟩=>by
  obtain⟨j,hj,e⟩:=zL2 hz
  exact hall j hj (e▸hm)
 simp[g1,g2,g3,L3,gH,er,es,B6,B7]
 refine zKY hvr hvs hlr hls ⟨⟨by simp[gP],by simp[gP],by simp[gP]⟩,fun j hj=>by omega⟩ ?_
 rintro e st2 (⟨rfl,f6,hm⟩ | ⟨rfl,hm⟩)
 ·have:CF l r s:=.inr (.inr (.inr hm))
  simp[f6,this,B6,B7]
 ·have:¬CF l r s:=fun h=>by
   rcases h with h | h | h | h
   ·exact n1 h
   ·exact n2 h
   ·exact n3 h
   ·exact hm h
  simp[this,B6,B7]
def ivRS (x:Rst):List IV:=[.int .i64 x.mode,.int .i64 x.timer,.int .i64 x.gone,.bool x.seen]
def NC (l:Lo) (rs:List Rst):Prop:=∀ i j,i<l.rts.length→j<l.rts.length→i≠j→(nth rs i).mode≠0→(nth rs j).mode≠0→¬CF l i j
theorem zNK {D:Nat}(hD:1≤D){x:Rst}(h:RsOk l r x){pv:IV}(hv:Sl 1 pv ((nth l.rts r).path.map ivI)) :
  bl (K DG D) 59 [.agg (zPS x),.imm pv]=some (.imm (.bool true)):=by
 obtain⟨d,rfl⟩:∃ d,D=d+1:=⟨D - 1,by omega⟩
 have pl:=hv.len
 simp only[List.length_map] at pl
 obtain⟨md,t0,t8,t6,tz,g3,gz⟩:=h
 obtain⟨m,t,g,s⟩:=x
 simp only at *
 have key:Fe (K DG (d+1) 59 [.agg (zPS ⟨m,t,g,s⟩),.imm pv] .lf 0 0) (fun v _ _=>v=.imm (.bool true)):=by
  rw[kX 59 D.f59 rfl]
  refine zHy rfl ?_
  have hc:m=0∨m=1∨m=2∨m=3∨m=4:=by omega
  rcases hc with rfl | rfl | rfl | rfl | rfl
  ·obtain⟨rfl,rfl⟩:=gz (by omega)
   obtain rfl:=tz (by omega) (by omega)
   simp[hv.scal,zPS,zHG,lay,B6,B7]
  ·obtain⟨rfl,rfl⟩:=gz (by omega)
   have j1:=zIz t0
   have j2:=zIz (t8 rfl)
   simp[hv.scal,zPS,j1,j2,zHG,lay,B6,B7]
  ·obtain⟨rfl,rfl⟩:=gz (by omega)
   obtain rfl:=tz (by omega) (by omega)
   simp[hv.scal,zPS,zHG,lay,B6,B7]
  ·obtain rfl:=tz (by omega) (by omega)
   have j1:=zIz (g3 rfl).1
   have j2:=zI3 (g3 rfl).2
   simp[hv.scal,zPS,j1,j2,pl,zHG,lay,B6,B7]
  ·obtain⟨rfl,rfl⟩:=gz (by omega)
   have j1:=zIz t0
   have j2:=zI3 (t6 rfl)
   simp[hv.scal,zPS,j1,j2,zHG,lay,B6,B7]
 obtain⟨v,H,n,e,rfl⟩:=key
 exact zDf e rfl
theorem zAn {D:Nat}(hD:2≤D)(ok:LoOk l) (is:ISL l)(go:zAi l rs)(hr:r<l.rts.length) (z:Int) :
  bl (K DG D) 63 [l.dv,.imm (.int .i64 r),.agg (zPS (nth rs r)),.imm (.int .i64 z)]=some (.imm (.bool (decide (z∈hld l rs r)))):=by
 obtain⟨d,rfl⟩:∃ d,D=d+1:=⟨D - 1,by omega⟩
 have rk:=ok.or _ (zMi hr)
 have hr1:(r:Int)<l.rts.length:=by omega
 have p5:=is.p5 r hr
 have hrb:=rb3
 have ix:=zIu ok.r hr1
 have i1:=zI7 (D:=d) (by omega) rk.p (by omega) z
 simp only[Int.toNat_natCast] at ix
 have key:Fe (K DG (d+1) 63 [l.dv,.imm (.int .i64 r),.agg (zPS (nth rs r)),.imm (.int .i64 z)] .lf 0 0) (fun v _ _=>v=.imm (.bool (decide (z∈hld l rs r)))):=by
  rw[kX 63 D.f63 rfl]
  refine zHy rfl ?_
  by_cases m1:(nth rs r).mode=1
  ·have e:hld l rs r=(nth l.rts r).path:=by simp[hld,m1]
   rw[e]
   simp[ok.sc,ix,i1,zPS,m1,ivRt,zHG,lay,B6,B7]
  ·by_cases m2:(nth rs r).mode=2
   ·have e:hld l rs r=(nth l.rts r).path:=by simp[hld,m2]
    rw[e]
    simp[ok.sc,ix,i1,zPS,m2,ivRt,zHG,lay,B6,B7]
   ·by_cases m4:(nth rs r).mode=4
    ·have e:hld l rs r=(nth l.rts r).path:=by simp[hld,m4]
     rw[e]
     simp[ok.sc,ix,i1,zPS,m4,ivRt,zHG,lay,B6,B7]
    ·by_cases m3:(nth rs r).mode=3
     ·have e:hld l rs r=(nth l.rts r).path.drop (nth rs r).gone.toNat:=by simp[hld,m3]
      obtain⟨g0,g1⟩:=go r hr m3
      have sc:=fun {h:Nat→Option HB}{n:Nat}=>zQ4 (h:=h) (n:=n) rk.p g0 g1
      have hd:=zGg rk.p (nth rs r).gone.toNat
      have i2:=zI7 (D:=d) (by omega) (v:=zGf (nth l.rts r).pv (nth rs r).gone.toNat) (zs:=(nth l.rts r).path.drop (nth rs r).gone.toNat) (by simpa [List.map_drop] using hd) (by simp; omega) z
      rw[e]
      simp[ok.sc,ix,i2,sc,zPS,m3,ivRt,zHG,lay,B6,B7]
     ·have e:hld l rs r=[]:=by simp[hld,m1,m2,m3,m4]
      rw[e]
      simp[ok.sc,ix,zPS,m1,m2,m3,m4,ivRt,zHG,lay,B6,B7]
 obtain⟨v,H,n,e,rfl⟩:=key
 exact zDf e rfl
def IM1 (l:Lo) (w:IV) (i j:Nat) (st:St):Prop:=st.T.get 1=some (.imm w)∧Box st 2 l.ivs∧st.T.get 5=some (.imm (.int .i64 i))∧st.T.get 6=some (.imm (.int .i64 j))
theorem zLA(hd:3≤d)(ok:LoOk l) (is:ISL l)(nc:NC l rs) (hrl:rs.length=l.rts.length){w:IV}(hw:Sl 4 w (rs.map ivRS))(hi:i<l.rts.length)(h:IM1 l w i 0 st)
  (hk:∀ st',IM1 l w i i st'→Bk DG (K DG d) 0 (.exit 2) ks st' Q):Wp DG (K DG d) 0 D.l16_1 ks st Q:=by
 have hrb:=rb3
 have hl6:=is.r2
 have hi1:(i:Int)<rs.length:=by omega
 refine zGt (N:=i) (zRH (by omega)) (IM1 l w i) (fun e st'=>e=.exit 2∧IM1 l w i i st') (fun j st hle hI=>?_) h (fun e s' h=>by obtain⟨rfl,h⟩:=h; exact hk s' h)
 obtain⟨h1,⟨i2,h2,L2⟩,h5,h6⟩:=hI
 by_cases hj:j<i
 ·have hj':=zI3 (show (j:Int)<(i:Int) by omega)
  have hw8:IntKind.i64.wrap ((j:Int)+1)=(j:Int)+1:=zTX hj (by omega)
  have ixi:=zIu hw hi1
  have ixj:=zIu hw (i:=j) (by omega)
  have hc:=zAJ (D:=d) (by omega) ok is.few hi (show j<l.rts.length by omega)
  have hnc:=nc i j hi (by omega) (by omega)
  simp only[Int.toNat_natCast] at ixi ixj
  generalize hQ:(fun (e:Ex) (s':St)=>_)=Q'
  simp only[D.l16_1b]
  have done:∀ s2:St,s2.T.get 1=some (.imm w)→Box s2 2 l.ivs→s2.T.get 5=some (.imm (.int .i64 i))→s2.T.get 6=some (.imm (.int .i64 ((j+1:Nat):Int)))→IM1 l w i (j+1) s2:=fun s2 a b c d=>⟨a,b,c,d⟩
  by_cases a:(nth rs i).mode=0
  ·simp[h1,h2,L2,h5,h6,hj',hw8,ixi,a,ivRS,ok.sc,zHG,lay,imms,B6,B7]
   subst hQ
   exact .inl ⟨rfl,hj,done _ (by simp[gP]) ⟨i2,by simp[gP],by simp[gP,imms]⟩ (by simp[gP]) (by simp[gP])⟩
  ·by_cases b:(nth rs j).mode=0
   ·simp[h1,h2,L2,h5,h6,hj',hw8,ixi,ixj,a,b,ivRS,ok.sc,zHG,lay,imms,B6,B7]
    subst hQ
    exact .inl ⟨rfl,hj,done _ (by simp[gP]) ⟨i2,by simp[gP],by simp[gP,imms]⟩ (by simp[gP]) (by simp[gP])⟩
   ·rw[zFX (hnc a b)] at hc
    simp[h1,h2,L2,h5,h6,hj',hw8,ixi,ixj,a,b,hc,ivRS,ok.sc,zHG,lay,imms,B6,B7]
    subst hQ
    exact .inl ⟨rfl,hj,done _ (by simp[gP]) ⟨i2,by simp[gP],by simp[gP,imms]⟩ (by simp[gP]) (by simp[gP])⟩
 ·obtain rfl:j=i:=by omega
  generalize hQ:(fun (e:Ex) (s':St)=>_)=Q'
  simp only[D.l16_1b]
  simp[h1,h2,L2,h5,h6,imms,B6,B7]
  subst hQ
  exact .inr ⟨nofun,rfl,by simp[gP],⟨i2,by simp[gP],by simp[gP,imms]⟩,by simp[gP],by simp[gP]⟩
def IM0 (l:Lo) (w:IV) (i:Nat) (st:St):Prop:=st.T.get 1=some (.imm w)∧Box st 2 l.ivs∧st.T.get 5=some (.imm (.int .i64 i))
theorem zK9(hd:3≤d)(ok:LoOk l) (is:ISL l)(ro:∀ r,r<l.rts.length→RsOk l r (nth rs r)) (nc:NC l rs) (hrl:rs.length=l.rts.length){w:IV}(hw:Sl 4 w (rs.map ivRS))(h:IM0 l w 0 st)
  (hk:∀ st',IM0 l w l.rts.length st'→Bk DG (K DG d) 0 (.exit 0) ks st' Q):Wp DG (K DG d) 0 D.l16_0 ks st Q:=by
 have hrb:=rb3
 have hl6:=is.r2
 have wl:=hw.len
 simp only[List.length_map,hrl] at wl
 refine zGt (N:=l.rts.length) (zRH ok.lr) (IM0 l w) (fun e st'=>e=.exit 0∧IM0 l w l.rts.length st') (fun i st hle hI=>?_) h (fun e s' h=>by obtain⟨rfl,h⟩:=h; exact hk s' h)
 obtain⟨h1,⟨i2,h2,L2⟩,h5⟩:=hI
 by_cases hi:i<l.rts.length
 ·have hi1:(i:Int)<l.rts.length:=by omega
  have hi':=zI3 hi1
  have hw8:IntKind.i64.wrap ((i:Int)+1)=(i:Int)+1:=zTX hi ok.lr
  have rk:=ok.or _ (zMi hi)
  have ixi:=zIu hw (i:=i) (by omega)
  have ixr:=zIu ok.r hi1
  have ho:=zNK (D:=d) (by omega) (ro i hi) rk.p
  simp only[Int.toNat_natCast] at ixi ixr
  simp only[zPS] at ho
  generalize hQ:(fun (e:Ex) (s':St)=>_)=Q'
  simp only[D.l16_0b]
  simp[h1,h2,L2,h5,hi',wl,ixi,ixr,ho,ivRS,ivRt,ok.sc,zHG,lay,imms,B6,B7]
  refine zLA (rs:=rs) hd ok is nc hrl hw hi ⟨by simp[gP],⟨i2,by simp[gP],by simp[gP,imms]⟩,by simp[gP],by simp[gP]⟩ ?_
  rintro s2 ⟨f1,⟨j2,f2,M2⟩,f5,f6⟩
  simp[f1,f2,M2,f5,f6,hw8,imms,B6,B7]
  subst hQ
  exact .inl ⟨rfl,hi,by simp[gP,f1],⟨j2,by simp[gP,f2],by simp[gP,M2,imms]⟩,by simp[gP]⟩
 ·obtain rfl:i=l.rts.length:=by omega
  generalize hQ:(fun (e:Ex) (s':St)=>_)=Q'
  simp only[D.l16_0b]
  simp[h1,h2,L2,h5,wl,imms,B6,B7]
  subst hQ
  exact .inr ⟨nofun,rfl,by simp[gP],⟨i2,by simp[gP],by simp[gP,imms]⟩,by simp[gP]⟩
theorem zAx {D:Nat}(hD:4≤D)(ok:LoOk l) (is:ISL l)(ro:∀ r,r<l.rts.length→RsOk l r (nth rs r)) (nc:NC l rs) (hrl:rs.length=l.rts.length){w:IV}(hw:Sl 4 w (rs.map ivRS)) :
  bl (K DG D) 16 [l.dv,.imm w]=some (.imm (.bool true)):=by
 obtain⟨d,rfl⟩:∃ d,D=d+1:=⟨D - 1,by omega⟩
 have wl:=hw.len
 have rl:=ok.r.len
 simp only[List.length_map,hrl] at wl rl
 have key:Fe (K DG (d+1) 16 [l.dv,.imm w] .lf 0 0) (fun v _ _=>v=.imm (.bool true)):=by
  rw[kX 16 D.f16 rfl]
  refine zHy rfl ?_
  simp[ok.sc,wl,rl,hw.scal,B6,B7]
  refine zK9 (by omega) ok is ro nc hrl hw ⟨by simp[gP],⟨0,by simp[gP],by simp[gP,imms]⟩,by simp[gP]⟩ ?_
  rintro s2 ⟨f1,⟨j2,f2,M2⟩,f5⟩
  simp[f1,f2,M2,f5,B6,B7]
 obtain⟨v,H,n,e,rfl⟩:=key
 exact zDf e rfl
structure INV (l:Lo) (rs:List Rst):Prop where
 ln:rs.length=l.rts.length
 ro:∀ r,r<l.rts.length→RsOk l r (nth rs r)
 nc:NC l rs
theorem zAE(h:CF l r s):CF l s r:=by
 rcases h with h | h | ⟨z,h1,h2⟩ | ⟨x,h1,h2⟩
 ·exact .inl h.symm
 ·exact .inr (.inl h.symm)
 ·exact .inr (.inr (.inl ⟨z,h2,h1⟩))
 ·exact .inr (.inr (.inr ⟨_,h2,by simpa using h1⟩))
variable {j:Nat}
theorem zMk {α:Type}[Inhabited α] {xs:List α}{y:α}(hi:i<xs.length):nth (xs.set i y) j=if i=j then y else nth xs j:=by
 simp only[nth,List.getD,List.getElem?_set]
 by_cases h:i=j
 ·subst h; simp[hi]
 ·simp[h]
theorem INV.new:INV l (List.replicate l.rts.length rs0):=
 ⟨by simp,fun r hr=>by rw[zMj hr]; exact RsOk.idle,fun i j hi hj _ hm=>by rw[zMj hi] at hm; exact absurd rfl hm⟩
theorem INV.set(h:INV l rs)(hr:r<l.rts.length){y:Rst}(hy:RsOk l r y) (hc:y.mode≠0→∀ s,s<l.rts.length→s≠r→(nth rs s).mode≠0→¬CF l r s):INV l (rs.set r y):=by
 have hl:=h.ln
 refine⟨by simp[hl],fun s hs=>?_,fun i j hi hj hij mi mj=>?_⟩
 ·rw[zMk (by omega)]
  split
  ·rename_i e; subst e; exact hy
  ·exact h.ro s hs
 ·rw[zMk (by omega)] at mi mj
  by_cases h1:r=i
  ·subst h1
   rw[if_pos rfl] at mi
   rw[if_neg hij] at mj
   exact hc mi j hj (fun e=>hij e.symm) mj
  ·rw[if_neg h1] at mi
   by_cases h2:r=j
   ·subst h2
    rw[if_pos rfl] at mj
    exact fun e=>hc mj i hi hij mi (zAE e)
   ·rw[if_neg h2] at mj
    exact h.nc i j hi hj hij mi mj
theorem INV.call(h:INV l rs){ls:List Int}(hr:r<l.rts.length):INV l (zDy l rs os ls r).2:=by
 by_cases m0:(nth rs r).mode=0
 ·by_cases hf:FRE l rs os ls r
  ·have e:zDy l rs os ls r=(0,rs.set r ⟨1,0,0,false⟩):=by simp[zDy,zFd m0,zFd hf]
   rw[e]
   exact h.set hr ⟨by simp,by simp,by simp,by simp,by simp,by simp,by simp⟩ fun _ s hs _ hm=>hf.cf s hs hm
  ·have e:zDy l rs os ls r=(8,rs):=by simp[zDy,zFd m0,zFX hf]
   rw[e]; exact h
 ·have e:zDy l rs os ls r=(7,rs):=by simp[zDy,zFX m0]
  rw[e]; exact h
theorem INV.cancel(h:INV l rs)(hr:r<l.rts.length):INV l (zEC rs r).2:=by
 by_cases m1:(nth rs r).mode=1
 ·have e:zEC rs r=(0,rs.set r rs0):=by simp[zEC,zFd m1]
  rw[e]
  exact h.set hr RsOk.idle fun h0=>absurd rfl h0
 ·by_cases m2:(nth rs r).mode=2
  ·have e:zEC rs r=(0,rs.set r ⟨4,0,0,false⟩):=by simp[zEC,zFX m1,zFd m2]
   rw[e]
   exact h.set hr ⟨by simp,by simp,by simp,by simp,by simp,by simp,by simp⟩ fun _ s hs hsr hm=>h.nc r s hr hs (fun e=>hsr e.symm) (by omega) hm
  ·have e:zEC rs r=(7,rs):=by simp[zEC,zFX m1,zFX m2]
   rw[e]; exact h
variable {c:Int}
theorem INV.cmd(h:INV l rs){ls:List Int} {r:Int}:INV l (cmdF l rs os ls c r).2:=by
 by_cases h1:¬MI l os ls∨(c≠1∧c≠2)
 ·have e:cmdF l rs os ls c r=(1,rs):=by simp only[cmdF,zFd h1,cond_true]
  rw[e]; exact h
 ·by_cases hr:InR r l.rts.length
  ·have hn:r.toNat<l.rts.length:=by have:=hr.1; have:=hr.2; omega
   by_cases hc:c=1
   ·have e:cmdF l rs os ls c r=zDy l rs os ls r.toNat:=by simp only[cmdF,zFX h1,zFd hr,zFd hc,cond_true,cond_false]
    rw[e]; exact h.call hn
   ·have e:cmdF l rs os ls c r=zEC rs r.toNat:=by simp only[cmdF,zFX h1,zFd hr,zFX hc,cond_true,cond_false]
    rw[e]; exact h.cancel hn
  ·have e:cmdF l rs os ls c r=(5,rs):=by simp only[cmdF,zFX h1,zFX hr,cond_true,cond_false]
   rw[e]; exact h
theorem zRc{ls:List Int}{x:Rst}(h:x.mode=0):zRZ l os ls r x=x:=by
 obtain⟨m,t,g,s⟩:=x
 simp only at h
 subst h
 simp[zRZ,zFY]
variable {qs:List Rst}
theorem INV.step(is:ISL l)(h:INV l rs){ls:List Int}(hl:qs.length=l.rts.length) (hq:∀ j,j<l.rts.length→nth qs j=zRZ l os ls j (nth rs j)):INV l qs:=
 ⟨hl,fun r hr=>by rw[hq r hr]; exact (h.ro r hr).step is hr,fun i j hi hj hij mi mj=>h.nc i j hi hj hij
  (fun e=>mi (by rw[hq i hi,zRc e]; exact e)) (fun e=>mj (by rw[hq j hj,zRc e]; exact e))⟩
theorem INV.apart(h:INV l rs)(hi:i<l.rts.length) (hj:j<l.rts.length)(ai:z∈hld l rs i) (aj:z∈hld l rs j):i=j:=by
 refine Classical.byContradiction fun hij=>?_
 have stands:∀ {k:Nat},z∈hld l rs k→(nth rs k).mode≠0:=fun {k} hk e=>by simp[hld,e] at hk
 exact h.nc i j hi hj hij (stands ai) (stands aj) (.inr (.inr (.inl ⟨z,zIm ai,zIm aj⟩)))
theorem zIn(h:hol l rs z=(r:Int)):z∈hld l rs r:=by
 unfold hol at h
 split at h
 ·rename_i k hk
  have:=List.find?_some hk
  have hkr:k=r:=by omega
  subst hkr
  simpa using this
 ·omega
structure Acv where
 kind:Int
 ov:IV
 lv:IV
 c:Int
 r:Int
 rv:IV
 os:List Bool
 ls:List Int
 rs:List Rst
instance:Inhabited Acv:=⟨⟨0,.nils,.nils,0,0,.nils,[],[],[]⟩⟩
structure AcOk (x:Acv):Prop where
 io:InOk x.ov x.lv x.os x.ls
 rv:Sl 4 x.rv (x.rs.map ivRS)
 lr:x.rs.length≤reachBytes
abbrev kdRS:List Kd:=[.i .i64,.i .i64,.i .i64,.b]
abbrev kdAc:List Kd:=[.i .i64,.sl [.b],.sl [.i .i64],.i .i64,.i .i64,.sl kdRS]
theorem zCU {id:Nat}{rows:List (List DV)}(hh:h id=some ⟨4,rows⟩) (he:rows≠[]) (hl:rows.length≤2 ^ 20) :
  zCK h n lo 4 32 (.imm (.lst true 4 [])) (.sl id 0 rows.length rows.length)=some { v:=.sl n 0 rows.length rows.length,hw:=[(n,some ⟨4,rows⟩)],n':=n+1,acc:=[.wX n,.rX id] }:=by
 have a1:rows.length≤zCJ:=by unfold zCJ; omega
 have a2:rows.length*32≤zCJ:=by unfold zCJ; omega
 simp[zCK,zRS,zPV,hh,he,a1,a2,zOS]
theorem zCV {id:Nat}(hh:h id=some ⟨4,[]⟩) :
  zCK h n lo 4 32 (.imm (.lst true 4 [])) (.sl id 0 0 0)=some { v:=.imm (.lst true 4 []),n':=n,acc:=[.rX id] }:=by
 simp[zCK,zRS,zPV,hh,zOS]
theorem zL0 (rs:List Rst):rs.map zPS=(rs.map ivRS).map imms:=by
 induction rs with
 | nil=>rfl
 | cons x xs ih=>simp[zPS,ivRS,imms] at *
variable {sz:Nat}
theorem zIF {id:Nat}{xs:List (List IV)}(hb:h id=some ⟨sz,xs.map imms⟩) (hlo:lo≤id):frz h lo (.sl id 0 xs.length xs.length)=some (.imm (.lst false sz xs)):=by
 have ht:(xs.map imms).take xs.length=xs.map imms:=List.take_of_length_le (by simp)
 have h1:¬id<lo:=by omega
 simp only[frz,if_neg h1,zH8,frzI,if_pos hlo,hb]
 simp[ht,zLp]
variable {m:Nat}
theorem zIH{es:List (List IV)}(h:H.get m=some ⟨sz,es.map imms⟩) (hk:es.length=k) (hlo:lo≤m):frz H.get lo (.sl m 0 k k)=some (.imm (.lst false sz es)):=by
 subst hk
 exact zIF h hlo
theorem zEU(h:RsAt H x own rs) (hl:rs.length≤1000)(hlo:lo≤n) :
  Fe (K DG (d+1) 134 [x] H n lo) (fun v H' n'=>n≤n'∧v.out=true∧∃ w,frz H'.get lo v=some (.imm w)∧Sl 4 w (rs.map ivRS)):=by
 rw[kX 134 D.f134 rfl]
 refine zHy rfl ?_
 rcases h with⟨rfl,rfl,v,rfl,hv⟩ | ⟨id,rfl,rfl,hh⟩
 ·have hv0:=hv
  rcases hv with⟨rfl,_⟩ | ⟨f,rfl⟩
  ·simp[B6,B7]
   first | exact .inl ⟨rfl,rfl⟩ | exact⟨rfl,.inl ⟨rfl,rfl⟩⟩
  ·have p1:=fun {h:Nat→Option HB}{n:Nat}{x:DV} hx=>zCX (bytes:=32) (h:=h) (n:=n) (x:=x) hx hv0
   simp[p1,zHH,lay,zS4,zS2,mapO,zPT,zCK,zRS,zPV,zOS,B6,B7]
   first | exact .inr ⟨_,rfl⟩ | exact⟨rfl,.inr ⟨_,rfl⟩⟩
 ·cases rs with
  | nil=>
   have p0:=fun {n:Nat}=>zCV (h:=H.get) (n:=n) (lo:=lo) (id:=id) (by simpa using hh)
   simp[hh,p0,zHH,lay,zS4,zS2,mapO,zPT,B6,B7]
   first | exact .inr ⟨_,rfl⟩ | exact⟨rfl,.inr ⟨_,rfl⟩⟩
  | cons y ys=>
   have hlen:((y::ys).map zPS).length=(y::ys).length:=by simp
   have p1:=fun {n:Nat}=>zCU (h:=H.get) (n:=n) (lo:=lo) hh (by simp) (by rw[hlen]; omega)
   have hes:=zL0 (y::ys)
   have hel:((y::ys).map ivRS).length=(y::ys).length:=by simp
   rw[hlen] at p1
   generalize (y::ys).map ivRS=es at hes hel ⊢
   generalize (y::ys).map zPS=rows at hh p1 hes
   generalize (y::ys).length=k at hh p1 hel ⊢
   simp[hh,p1,zHH,lay,zS4,zS2,mapO,zPT,B6,B7]
   first | exact⟨_,zIH (by simp[gP,hes]) hel hlo,.inr ⟨_,rfl⟩⟩ | exact⟨rfl,_,zIH (by simp[gP,hes]) hel hlo,.inr ⟨_,rfl⟩⟩
theorem zBU(hd:1≤d)(hl:rs.length≤1000) (lk:LkAt H p own l rs) :
  ∃ w m,zDz (K DG (d+1)) .ro 94 [.ptr p 0 0] H n lo=some ⟨.imm w,H,m,[.rA]⟩∧n≤m∧Sl 4 w (rs.map ivRS):=by
 obtain⟨d,rfl⟩:∃ d',d=d'+1:=⟨d - 1,by omega⟩
 obtain⟨x,h1,h2,h3,h4⟩:=lk
 obtain⟨v,H1,n1,e1,hn1,vo,w,hf,hw⟩:=zEU (d:=d) h2 hl (n:=n) (lo:=n) (Nat.le_refl _)
 have xo:x.out=true:=by
  rcases h2 with⟨_,_,u,rfl,hu⟩ | ⟨id,_,rfl,_⟩
  ·rfl
  ·rfl
 have key:Fe (K DG (d+1+1) 94 [.ptr p 0 0] H n n) (fun v' H' n'=>v'=v∧H'=H1∧n'=n1):=by
  rw[kX 94 D.f94 rfl]
  refine zHy rfl ?_
  simp[h1,e1,xo,vo,B6,B7]
 obtain⟨v',H',n',e,rfl,rfl,rfl⟩:=key
 have ho:DV.out.outs [DV.ptr p 0 0]=true:=rfl
 refine⟨w,n',?_,hn1,hw⟩
 rw[zD3,if_pos ho,e]
 simp only[hf]
 rfl
variable {l':Lo}
theorem LoEq.hld(e:LoEq l l')(hr:r<l.rts.length):hld l' rs r=hld l rs r:=by
 simp only[D.hld,(e.rts r hr).path]
theorem zHc {p q:Nat→Bool}:∀ xs:List Nat,(∀ x∈xs,p x=q x)→xs.find? p=xs.find? q
 | [],_=>rfl
 | x::xs,h=>by
  simp only[List.find?_cons,h x (by simp),zHc xs fun y hy=>h y (by simp[hy])]
theorem LoEq.hol(e:LoEq l l'):hol l' rs z=hol l rs z:=by
 have:(List.range l'.rts.length).find? (fun r=>decide (z∈D.hld l' rs r))=(List.range l.rts.length).find? (fun r=>decide (z∈D.hld l rs r)):=by
  rw[e.len]
  refine zHc _ fun x hx=>?_
  rw[e.hld (List.mem_range.1 hx)]
 simp only[D.hol,this]
theorem LoEq.nd(e:LoEq l l')(hr:r<l.rts.length):nd (nth l'.rts r)=nd (nth l.rts r):=by
 simp only[D.nd,(e.rts r hr).pts,(e.rts r hr).flk]
theorem LoEq.lie(e:LoEq l l'){ls:List Int}(hr:r<l.rts.length):Lie l' ls r↔Lie l ls r:=by
 simp only[Lie,e.nd hr]
theorem LoEq.mi'(e:LoEq l l'){ls:List Int}:MI l' os ls↔MI l os ls:=by simp only[MI,e.secs,e.pts]
theorem LoEq.ro(e:LoEq l l')(hr:r<l.rts.length){x:Rst}(h:RsOk l' r x):RsOk l r x:=
 ⟨h.md,h.t0,h.t8,h.t6,h.tz,fun m=>by have:=h.g3 m; rw[(e.rts r hr).path] at this; exact this,h.gz⟩
theorem LoEq.inv(e:LoEq l l')(h:INV l' rs):INV l rs:=
 ⟨by rw[h.ln,e.len],fun r hr=>e.ro hr (h.ro r (by rw[e.len]; exact hr)),fun i j hi hj hij mi mj=>by
  have:=h.nc i j (by rw[e.len]; exact hi) (by rw[e.len]; exact hj) hij mi mj
  rw[e.cf hi hj] at this
  exact this⟩
theorem zRL{es:List (List IV)}(h:H.get m=some ⟨sz,es.map imms⟩) (hk:es.length=k):snap H.get (.sl m 0 k k)=some (.imm (.lst false sz es)):=by
 subst hk
 have ht:(es.map imms).take es.length=es.map imms:=List.take_of_length_le (by simp)
 have hf:frzI H.get 0 zH8 (.sl m 0 es.length es.length)=some (.lst false sz es):=by
  simp only[zH8,frzI,if_pos (Nat.zero_le m),h]
  simp[ht,zLp]
 show (frzI H.get 0 zH8 (.sl m 0 es.length es.length)).map DV.imm=_
 rw[hf]
 rfl
theorem zG9 {a b a' b' c':Int}{e e':Bool}:eqSt [.i,.i,.i,.b] [.imm (.int .i64 a),.imm (.int .i64 b),.imm (.int .i64 c),.imm (.bool e)] [.imm (.int .i64 a'),.imm (.int .i64 b'),.imm (.int .i64 c'),.imm (.bool e')]=some (dec ((⟨a,b,c,e⟩:Rst)=⟨a',b',c',e'⟩)):=by
 have:((⟨a,b,c,e⟩:Rst)=⟨a',b',c',e'⟩)↔((a==a')&&((b==b')&&((c==c')&&((e==e')&&true))))=true:=by simp[Rst.mk.injEq]
 rw[zFV this]
 simp only[eqSt,eqSc,if_true]
 cases h:((a==a')&&((b==b')&&((c==c')&&((e==e')&&true)))) with
 | true=>rw[zFd rfl]
 | false=>rw[zFX nofun]
theorem zJY(ok:LoOk l) (is:ISL l) (lk:LkAt H p own l rs)(hr:r<l.rts.length) (x:Rst) :
  ∃ n',K DG (d+1) 135 [.ptr p 0 0,.imm (.int .i64 r),.agg (zPS x)] H n lo=some (.imm (.bool (dec (RsOk l r x))),H,n')∧n≤n':=by
 obtain⟨y,h1,h2,h3,h4⟩:=lk
 have rk:=ok.or _ (zMi hr)
 have pl:=rk.p.len
 simp only[List.length_map] at pl
 have p5:=is.p5 r hr
 have p1:=(is.rr r hr).p1
 have hr1:(r:Int)<l.rts.length:=by omega
 have ix:=zIu ok.r hr1
 have hw:IntKind.i64.wrap (((nth l.rts r).path.length:Int) - 1)=((nth l.rts r).path.length:Int) - 1:=zTW (by omega) (by omega)
 simp only[Int.toNat_natCast] at ix
 obtain⟨m,t,g,s⟩:=x
 have key:Fe (K DG (d+1) 135 [.ptr p 0 0,.imm (.int .i64 r),.agg (zPS ⟨m,t,g,s⟩)] H n lo) (fun v H' n'=>v=.imm (.bool (dec (RsOk l r ⟨m,t,g,s⟩)))∧H'=H∧n≤n'):=by
  rw[kX 135 D.f135 rfl]
  refine zHy rfl ?_
  by_cases m0:m=0
  ·subst m0
   have e:RsOk l r ⟨0,t,g,s⟩↔(⟨0,t,g,s⟩:Rst)=⟨0,0,0,false⟩:=by
    rw[Rst.mk.injEq]
    exact⟨fun h=>⟨rfl,h.tz (by simp) (by simp),h.gz (by simp)⟩,fun ⟨_,h1,h2,h3⟩=>by subst h1; subst h2; subst h3; exact RsOk.idle⟩
   rw[zFV e]
   simp[h1,zG9,zHG,lay,B6,B7]
   omega
  by_cases m2:m=2
  ·subst m2
   have e:RsOk l r ⟨2,t,g,s⟩↔(⟨2,t,g,s⟩:Rst)=⟨2,0,0,false⟩:=by
    rw[Rst.mk.injEq]
    exact⟨fun h=>⟨rfl,h.tz (by simp) (by simp),h.gz (by simp)⟩,fun ⟨_,h1,h2,h3⟩=>by subst h1; subst h2; subst h3; exact⟨by simp,by simp,by simp,by simp,by simp,by simp,by simp⟩⟩
   rw[zFV e]
   simp[h1,zG9,zHG,lay,B6,B7]
   omega
  by_cases m1:m=1
  ·subst m1
   generalize hz:(if 8<(if t<0 then 0 else t) then 8 else (if t<0 then 0 else t))=z
   have e:RsOk l r ⟨1,t,g,s⟩↔(⟨1,t,g,s⟩:Rst)=⟨1,z,0,false⟩:=by
    rw[Rst.mk.injEq]
    refine⟨fun h=>⟨rfl,?_,h.gz (by simp)⟩,fun ⟨_,h1,h2,h3⟩=>?_⟩
    ·have a1:=h.t0
     have a2:=h.t8 rfl
     simp only at a1 a2
     subst hz
     repeat' split
     all_goals omega
    ·subst h2; subst h3
     have hb:0≤t∧t≤8:=by
      subst hz
      revert h1
      repeat' split
      all_goals omega
     exact⟨by simp,by simp <;> omega,by simp <;> omega,by simp <;> omega,by simp,by simp,by simp⟩
   rw[zFV e]
   simp[h1,zG9,zHG,lay,B6,B7]
   subst hz
   exact⟨rfl,by omega⟩
  by_cases m4:m=4
  ·subst m4
   generalize hz:(if 5<(if t<0 then 0 else t) then 5 else (if t<0 then 0 else t))=z
   have e:RsOk l r ⟨4,t,g,s⟩↔(⟨4,t,g,s⟩:Rst)=⟨4,z,0,false⟩:=by
    rw[Rst.mk.injEq]
    refine⟨fun h=>⟨rfl,?_,h.gz (by simp)⟩,fun ⟨_,h1,h2,h3⟩=>?_⟩
    ·have a1:=h.t0
     have a2:=h.t6 rfl
     simp only at a1 a2
     subst hz
     repeat' split
     all_goals omega
    ·subst h2; subst h3
     have hb:0≤t∧t≤5:=by
      subst hz
      revert h1
      repeat' split
      all_goals omega
     exact⟨by simp,by simp <;> omega,by simp <;> omega,by simp <;> omega,by simp,by simp,by simp⟩
   rw[zFV e]
   simp[h1,zG9,zHG,lay,B6,B7]
   subst hz
   exact⟨rfl,by omega⟩
  by_cases m3:m=3
  ·subst m3
   generalize hz:(if ((nth l.rts r).path.length:Int) - 1<(if g<0 then 0 else g) then ((nth l.rts r).path.length:Int) - 1 else (if g<0 then 0 else g))=z
   have e:RsOk l r ⟨3,t,g,s⟩↔(⟨3,t,g,s⟩:Rst)=⟨3,0,z,s⟩:=by
    rw[Rst.mk.injEq]
    refine⟨fun h=>⟨rfl,h.tz (by simp) (by simp),?_,rfl⟩,fun ⟨_,h1,h2,h3⟩=>?_⟩
    ·have a1:=h.g3 rfl
     simp only at a1
     subst hz
     repeat' split
     all_goals omega
    ·subst h1
     have hb:0≤g∧g<(nth l.rts r).path.length:=by
      subst hz
      revert h2
      repeat' split
      all_goals omega
     exact⟨by simp,by simp,by simp,by simp,by simp,fun _=>hb,by simp⟩
   rw[zFV e]
   simp[h1,ix,pl,hw,ivRt,zG9,zHG,lay,B6,B7]
   subst hz
   exact⟨rfl,by omega⟩
  ·have e:¬RsOk l r ⟨m,t,g,s⟩:=fun h=>by have:=h.md; simp only at this; omega
   rw[zFX e]
   simp[h1,m0,m1,m2,m3,m4,zG9,zHG,lay,B6,B7]
   omega
 obtain⟨v,H',n',e,rfl,rfl,hn⟩:=key
 exact⟨n',e,hn⟩
def Bad (l:Lo) (qs:List Rst) (i s:Nat):Prop:=(nth qs i).mode≠0∧(nth qs s).mode≠0∧CF l i s
structure IQ1 (p:Nat) (w:IV) (H:PT HB) (n0 i k:Nat) (x:Rst) (j:Nat) (st:St):Prop where
 h0:st.T.get 0=some (.ptr p 0 0)
 h1:st.T.get 1=some (.imm w)
 h5:st.T.get 5=some (.imm (.int .i64 i))
 b6:BoxD st 6 (zPS x)
 h21:st.T.get 21=some (.imm w)
 h22:st.T.get 22=some (.imm (.int .i64 k))
 h23:st.T.get 23=some (.imm (.int .i64 i))
 h35:st.T.get 35=some (.imm (zR9 w i))
 h36:st.T.get 36=some (.imm (.int .i64 i))
 h37:st.T.get 37=some (.imm (.int .i64 j))
 hH:st.H=H
 hn:n0≤st.n
theorem zMl {α:Type}[Inhabited α] {xs:List α}(h:j<i):nth (xs.take i) j=nth xs j:=by simp[nth,List.getD,List.getElem?_take,h]
theorem zLO(hd:9≤d)(ok:LoOk l) (is:ISL l) (lk:LkAt H p own l rs){w:IV}(hw:Sl 4 w (qs.map ivRS)) (hq:qs.length=l.rts.length)(hi:i<l.rts.length)(h:IQ1 p w H n0 i k (nth qs i) 0 st)
  (h1:∀ st',st'.T.get 4=some (.imm (.bool false))→st'.H=H→n0≤st'.n→(∃ s,s<i∧Bad l qs i s)→Bk DG (K DG d) 0 .ret ks st' Q)
  (h2:∀ st',IQ1 p w H n0 i k (nth qs i) i st'→(∀ s,s<i→¬Bad l qs i s)→Bk DG (K DG d) 0 (.exit 2) ks st' Q):Wp DG (K DG d) 0 D.l95_1 ks st Q:=by
 have hrb:=rb3
 have lr:=ok.lr
 obtain⟨y,k1,k2,k3,k4⟩:=lk
 have vt:=zSA hw i
 have vtl:=vt.len
 simp only[List.length_map,List.length_take] at vtl
 refine zGt (N:=i) (zRH (by omega)) (fun j st=>IQ1 p w H n0 i k (nth qs i) j st∧∀ s,s<j→¬Bad l qs i s) (fun e st'=>(e=.ret∧st'.T.get 4=some (.imm (.bool false))∧st'.H=H∧n0≤st'.n∧∃ s,s<i∧Bad l qs i s)∨(e=.exit 2∧IQ1 p w H n0 i k (nth qs i) i st'∧∀ s,s<i→¬Bad l qs i s)) (fun j st hle hI=>?_) ⟨h,fun s hs=>absurd hs (by omega)⟩ (fun e s' h=>by
  rcases h with⟨rfl,a1,a2,a3,a4⟩ | ⟨rfl,a1,a2⟩
  ·exact h1 s' a1 a2 a3 a4
  ·exact h2 s' a1 a2)
 obtain⟨⟨g0,g1,g5,⟨i6,g6,L6⟩,g21,g22,g23,g35,g36,g37,hH,hn⟩,al⟩:=hI
 by_cases hj:j<i
 ·have hj1:(j:Int)<i:=by omega
  have hj':=zI3 hj1
  have hw8:IntKind.i64.wrap ((j:Int)+1)=(j:Int)+1:=zTX hj (by omega)
  have ix:=fun {h:Nat→Option HB}{n:Nat}=>zIy (h:=h) (n:=n) vt (by omega) (k:=.i64) (z:=(j:Int)) (by omega) (by simp; omega)
  simp only[Int.toNat_natCast,zMl hj] at ix
  have cf:=zAK (D:=d) (by omega) ok is.few hi (s:=j) (by omega)
  have bad:Bad l qs i j↔(nth qs i).mode≠0∧(nth qs j).mode≠0∧CF l i j:=Iff.rfl
  have nx:¬Bad l qs i j→∀ s,s<j+1→¬Bad l qs i s:=fun hb s hs=>by
   by_cases e:s=j
   ·subst e; exact hb
   ·exact al s (by omega)
  generalize nth qs i=x at *
  generalize nth qs j=y at *
  generalize hQ:(fun (e:Ex) (s':St)=>_)=Q'
  simp only[D.l95_1b]
  by_cases mx:x.mode=0
  ·have nb:=nx fun e=>(bad.1 e).1 mx
   simp[g0,g1,g5,g6,L6,g21,g22,g23,g35,g36,g37,hj',hw8,ix,hH,k1,mx,ivRS,zHG,lay,B6,B7]
   subst hQ
   exact .inl ⟨rfl,hj,⟨by simp[gP],by simp[gP],by simp[gP],⟨i6,by simp[gP],by simp[gP,mx]⟩,by simp[gP],by simp[gP],by simp[gP],by simp[gP],by simp[gP],by simp[gP],rfl,by simp; omega⟩,nb⟩
  by_cases my:y.mode=0
  ·have nb:=nx fun e=>(bad.1 e).2.1 my
   simp[g0,g1,g5,g6,L6,g21,g22,g23,g35,g36,g37,hj',hw8,ix,hH,k1,mx,my,ivRS,zHG,lay,B6,B7]
   subst hQ
   exact .inl ⟨rfl,hj,⟨by simp[gP],by simp[gP],by simp[gP],⟨i6,by simp[gP],by simp[gP]⟩,by simp[gP],by simp[gP],by simp[gP],by simp[gP],by simp[gP],by simp[gP],rfl,by simp; omega⟩,nb⟩
  by_cases hc:CF l i j
  ·rw[zFd hc] at cf
   simp[g0,g1,g5,g6,L6,g21,g22,g23,g35,g36,g37,hj',hw8,ix,hH,k1,mx,my,cf,ok.sc,ivRS,zHG,lay,B6,B7]
   subst hQ
   exact .inr ⟨nofun,.inl ⟨rfl,by simp[gP],rfl,by simp; omega,j,hj,bad.2 ⟨mx,my,hc⟩⟩⟩
  ·rw[zFX hc] at cf
   have nb:=nx fun e=>hc (bad.1 e).2.2
   simp[g0,g1,g5,g6,L6,g21,g22,g23,g35,g36,g37,hj',hw8,ix,hH,k1,mx,my,cf,ok.sc,ivRS,zHG,lay,B6,B7]
   subst hQ
   exact .inl ⟨rfl,hj,⟨by simp[gP],by simp[gP],by simp[gP],⟨i6,by simp[gP],by simp[gP]⟩,by simp[gP],by simp[gP],by simp[gP],by simp[gP],by simp[gP],by simp[gP],rfl,by simp; omega⟩,nb⟩
 ·obtain rfl:j=i:=by omega
  generalize hQ:(fun (e:Ex) (s':St)=>_)=Q'
  simp only[D.l95_1b]
  simp[g0,g1,g5,g6,L6,g21,g22,g23,g35,g36,g37,hH,B6,B7]
  subst hQ
  exact .inr ⟨nofun,.inr ⟨rfl,⟨by simp[gP,g0],by simp[gP,g1],by simp[gP,g5],⟨i6,by simp[gP,g6],by simp[gP,L6]⟩,by simp[gP,g21],by simp[gP,g22],by simp[gP,g23],by simp[gP,g35],by simp[gP,g36],by simp[gP,g37],rfl,hn⟩,al⟩⟩
structure IQ0 (p:Nat) (w:IV) (H:PT HB) (n0 k i:Nat) (st:St):Prop where
 h0:st.T.get 0=some (.ptr p 0 0)
 h1:st.T.get 1=some (.imm w)
 h21:st.T.get 21=some (.imm w)
 h22:st.T.get 22=some (.imm (.int .i64 k))
 h23:st.T.get 23=some (.imm (.int .i64 i))
 hH:st.H=H
 hn:n0≤st.n
def Good (l:Lo) (qs:List Rst) (r:Nat):Prop:=RsOk l r (nth qs r)∧∀ s,s<r→¬Bad l qs r s
theorem zIU(hq:qs.length=l.rts.length):(∀ r,r<l.rts.length→Good l qs r)↔INV l qs:=by
 refine⟨fun h=>⟨hq,fun r hr=>(h r hr).1,fun i j hi hj hij mi mj hc=>?_⟩,fun h r hr=>⟨h.ro r hr,fun s hs hb=>h.nc r s hr (by omega) (by omega) hb.1 hb.2.1 hb.2.2⟩⟩
 rcases Nat.lt_or_gt_of_ne hij with hlt | hlt
 ·exact (h j hj).2 i hlt ⟨mj,mi,zAE hc⟩
 ·exact (h i hi).2 j hlt ⟨mi,mj,hc⟩
theorem zLN(hd:10≤d)(ok:LoOk l) (is:ISL l) (lk:LkAt H p own l rs){w:IV}(hw:Sl 4 w (qs.map ivRS)) (hq:qs.length=l.rts.length)(h:IQ0 p w H n0 l.rts.length 0 st)
  (h1:∀ st',st'.T.get 4=some (.imm (.bool false))→st'.H=H→n0≤st'.n→¬(∀ r,r<l.rts.length→Good l qs r)→Bk DG (K DG d) 0 .ret ks st' Q)
  (h2:∀ st',IQ0 p w H n0 l.rts.length l.rts.length st'→(∀ r,r<l.rts.length→Good l qs r)→Bk DG (K DG d) 0 (.exit 0) ks st' Q):Wp DG (K DG d) 0 D.l95_0 ks st Q:=by
 have hrb:=rb3
 have lr:=ok.lr
 obtain⟨d,rfl⟩:∃ d',d=d'+1:=⟨d - 1,by omega⟩
 refine zGt (N:=l.rts.length) (zRH lr) (fun i st=>IQ0 p w H n0 l.rts.length i st∧∀ r,r<i→Good l qs r) (fun e st'=>(e=.ret∧st'.T.get 4=some (.imm (.bool false))∧st'.H=H∧n0≤st'.n∧¬∀ r,r<l.rts.length→Good l qs r)∨(e=.exit 0∧IQ0 p w H n0 l.rts.length l.rts.length st'∧∀ r,r<l.rts.length→Good l qs r)) (fun i st hle hI=>?_) ⟨h,fun s hs=>absurd hs (by omega)⟩ (fun e s' h=>by
  rcases h with⟨rfl,a1,a2,a3,a4⟩ | ⟨rfl,a1,a2⟩
  ·exact h1 s' a1 a2 a3 a4
  ·exact h2 s' a1 a2)
 obtain⟨⟨g0,g1,g21,g22,g23,hH,hn⟩,al⟩:=hI
 by_cases hi:i<l.rts.length
 ·have hi1:(i:Int)<l.rts.length:=by omega
  have hi':=zI3 hi1
  have hw8:IntKind.i64.wrap ((i:Int)+1)=(i:Int)+1:=zTX hi lr
  have ix:=zIu hw (i:=i) (by omega)
  simp only[Int.toNat_natCast] at ix
  have sl:=fun {h:Nat→Option HB}{n:Nat}=>zQ6 (h:=h) (n:=n) hw (i:=i) (by omega)
  have vt:=(zSA hw i).len
  simp only[List.length_map,List.length_take,Nat.min_eq_left (show i≤qs.length by omega)] at vt
  obtain⟨n2,e2,hn2⟩:=zJY (d:=d) ok is lk hi (nth qs i) (n:=st.n+1) (lo:=st.n+1)
  subst hH
  have loop:=fun {ks st Q}=>zLO (d:=d+1) (n0:=n0) (k:=l.rts.length) (ks:=ks) (st:=st) (Q:=Q) (by omega) ok is lk hw hq hi
  have gd:RsOk l i (nth qs i)→(∀ s,s<i→¬Bad l qs i s)→∀ r,r<i+1→Good l qs r:=fun a b r hr=>by
   by_cases e:r=i
   ·subst e; exact⟨a,b⟩
   ·exact al r (by omega)
  have nb:(∃ s,s<i∧Bad l qs i s)→¬∀ r,r<l.rts.length→Good l qs r:=fun ⟨s,hs,hb⟩ h=>(h i hi).2 s hs hb
  have ns:¬RsOk l i (nth qs i)→¬∀ r,r<l.rts.length→Good l qs r:=fun hs h=>hs (h i hi).1
  generalize nth qs i=x at *
  generalize hQ:(fun (e:Ex) (s':St)=>_)=Q'
  simp only[D.l95_0b]
  by_cases ho:RsOk l i x
  ·rw[zFd ho] at e2
   simp[g0,g1,g21,g22,g23,hi',hw8,ix,sl,vt,e2,ivRS,zHG,lay,B6,B7]
   refine loop ⟨by simp[gP],by simp[gP],by simp[gP],⟨st.n,by simp[gP],by simp[gP]⟩,by simp[gP],by simp[gP],by simp[gP],by simp[gP],by simp[gP],by simp[gP],rfl,by simp; omega⟩ (fun s2 f4 fH fn hb=>?_) (fun s2 f hb=>?_)
   ·simp[f4,B6,B7]
    subst hQ
    exact .inr ⟨nofun,.inl ⟨rfl,f4,fH,fn,nb hb⟩⟩
   ·obtain⟨f0,f1,f5,⟨j6,f6,M6⟩,f21,f22,f23,f35,f36,f37,fH,fn⟩:=f
    simp[f0,f1,f5,f6,M6,f21,f22,f23,hw8,B6,B7]
    subst hQ
    exact .inl ⟨rfl,hi,⟨by simp[gP,f0],by simp[gP,f1],by simp[gP,f21],by simp[gP,f22],by simp[gP],fH,fn⟩,gd ho hb⟩
  ·rw[zFX ho] at e2
   simp[g0,g1,g21,g22,g23,hi',hw8,ix,sl,vt,e2,ivRS,zHG,lay,B6,B7]
   subst hQ
   exact .inr ⟨nofun,.inl ⟨rfl,by simp[gP],rfl,by simp; omega,ns ho⟩⟩
 ·obtain rfl:i=l.rts.length:=by omega
  generalize hQ:(fun (e:Ex) (s':St)=>_)=Q'
  simp only[D.l95_0b]
  simp[g0,g1,g21,g22,g23,hH,B6,B7]
  subst hQ
  exact .inr ⟨nofun,.inr ⟨rfl,⟨by simp[gP,g0],by simp[gP,g1],by simp[gP,g21],by simp[gP,g22],by simp[gP,g23],rfl,hn⟩,al⟩⟩
theorem zEY{w:IV}(hw:Sl 4 w (qs.map ivRS)) (hl:qs.length≤1000) (H:PT HB) (n:Nat) :
  Fe (K DG (d+1) 134 [.imm w] H n 0) (fun x H' n'=>n≤n'∧((qs=[]∧H'=H∧∃ u,x=.imm u∧Sl 4 u [])∨(qs≠[]∧x=.sl n 0 qs.length qs.length∧H'=H.put n (some ⟨4,qs.map zPS⟩)∧n'=n+1))):=by
 have hes:=zL0 qs
 have hel:(qs.map ivRS).length=qs.length:=by simp
 have hq0:qs.map ivRS=[]↔qs=[]:=by simp
 rw[← hq0,hes,← hel]
 rw[← hel] at hl
 generalize qs.map ivRS=es at *
 have hv0:=hw
 rw[kX 134 D.f134 rfl]
 refine zHy rfl ?_
 rcases hw with⟨rfl,rfl⟩ | ⟨f,rfl⟩
 ·simp[B6,B7]
  exact .inl ⟨rfl,rfl⟩
 ·by_cases he:es=[]
  ·have p1:=fun {h:Nat→Option HB}{n:Nat}{x:DV} hx=>zCX (bytes:=32) (h:=h) (n:=n) (x:=x) hx (he▸hv0)
   subst he
   simp[p1,zHH,lay,zS4,zS2,mapO,zPT,B6,B7]
   exact .inr ⟨_,rfl⟩
  ·have p1:=fun {h:Nat→Option HB}{n:Nat}=>zCW (bytes:=32) (h:=h) (n:=n) hv0 he (by omega) (by omega) (by omega)
   simp[p1,he,zHH,lay,zS4,zS2,mapO,zPT,B6,B7]
   exact fun e=>he (hq0.2 e)
theorem zBZ(hd:10≤d)(ok:LoOk l) (is:ISL l) (lk:LkAt H p own l rs){w:IV}(hw:Sl 4 w (qs.map ivRS)) (hl:qs.length≤reachBytes)(hpn:∀ i∈p::own,i<n) :
  Fe (K DG (d+1) 95 [.ptr p 0 0,.imm w] H n 0) (fun v H' n'=>n≤n'∧v=.imm (.bool (dec (INV l qs)))∧(∀ j,j≠p→j<n→H'.get j=H.get j)∧
   ((INV l qs∧∃ own',LkAt H' p own' l qs∧∀ i∈own',n≤i∧i<n')∨(¬INV l qs∧LkAt H' p own l rs))):=by
 have hrb:=rb3
 have lk0:=lk
 obtain⟨x,h1,h2,h3,h4⟩:=lk
 have xl:=h2.len
 have wl:=hw.len
 simp only[List.length_map] at wl
 have hp:=hpn p (by simp)
 obtain⟨d,rfl⟩:∃ d',d=d'+1:=⟨d - 1,by omega⟩
 rw[kX 95 D.f95 rfl]
 refine zHy rfl ?_
 by_cases hq:qs.length=rs.length
 ·have hq':qs.length=l.rts.length:=by omega
  rw[h4] at xl
  rw[hq'] at wl
  simp[h1,xl,wl,B6,B7]
  refine zLN (n0:=n) (by omega) ok is lk0 hw hq' ⟨by simp[gP],by simp[gP],by simp[gP],by simp[gP],by simp[gP],rfl,by simp⟩ (fun s2 f4 fH fn hb=>?_) (fun s2 f hb=>?_)
  ·rw[zIU hq'] at hb
   simp[f4,B6,B7]
   exact⟨fn,hb,fun j hj hjn=>by rw[fH],.inr ⟨hb,by rw[fH]; exact lk0⟩⟩
  ·rw[zIU hq'] at hb
   obtain⟨f0,f1,f21,f22,f23,fH,fn⟩:=f
   obtain⟨v,H1,n1,e1,hn1,hc⟩:=zEY (d:=d) hw (by have:=is.r2; omega) H s2.n
   subst fH
   rcases hc with⟨rfl,rfl,u,rfl,hu⟩ | ⟨hne,rfl,rfl,rfl⟩
   ·simp[f0,f1,e1,h1,hu.scal,B6,B7]
    exact⟨by omega,hb,fun j hj hjn=>by simp[gP,hj],.inl ⟨hb,[],⟨_,by simp[gP],.inl ⟨rfl,rfl,u,rfl,hu⟩,by simp,hq'⟩,by simp⟩⟩
   ·have hpn':¬p=s2.n:=by omega
    have hnp:¬s2.n=p:=by omega
    simp[f0,f1,e1,h1,hpn',B6,B7]
    refine⟨by omega,hb,fun j hj hjn=>?_,.inl ⟨hb,[s2.n],⟨_,by simp[gP],.inr ⟨s2.n,rfl,rfl,by simp[gP,hnp]⟩,by simp; omega,hq'⟩,by simp; omega⟩⟩
    have:¬j=s2.n:=by omega
    simp[gP,hj,this]
 ·have hni:¬INV l qs:=fun h=>hq (by have:=h.ln; omega)
  have hq2:¬(qs.length:Int)=(rs.length:Int):=by omega
  simp[h1,xl,wl,hq2,B6,B7]
  exact⟨hni,.inr ⟨hni,lk0⟩⟩
def LkI (H:PT HB) (n p:Nat) (l:Lo):Prop:=∃ own rs,LkAt H p own l rs∧INV l rs∧∀ j∈p::own,j<n
variable {args:List DV} {f:FuncId}
theorem zDc {K:Go.PM.Callee}{b:Bool}(hb:bl K f args=some (.imm (.bool b))):∃ H1 n1,K f args .lf 0 0=some (.imm (.bool b),H1,n1):=by
 unfold bl at hb
 cases hK:K f args .lf 0 0 with
 | none=>rw[hK] at hb; cases hb
 | some r=>
  obtain⟨v,H1,n1⟩:=r
  rw[hK] at hb
  have:v=.imm (.bool b):=by
   cases v with
   | imm v=>exact Option.some.inj hb
   | ptr=>simp[frz] at hb
   | sl id' row len cap=>
    have e:frz H1.get 0 (.sl id' row len cap)=if id'<0 then some (.sl id' row len cap) else (frzI H1.get 0 zH8 (.sl id' row len cap)).map .imm:=rfl
    have hb2:frz H1.get 0 (.sl id' row len cap)=some (.imm (.bool b)):=hb
    rw[e,if_neg (Nat.not_lt_zero _)] at hb2
    simp only[Option.map_eq_some_iff] at hb2
    obtain⟨q,q1,q2⟩:=hb2
    cases q2
    simp[frzI,zH8] at q1
    split at q1
    ·split at q1
     ·simp at q1
     ·cases q1
    ·cases q1
   | agg cs=>
    have hb2:(frz.frzs H1.get 0 cs).map DV.agg=some (.imm (.bool b)):=hb
    simp at hb2
   | tup cs=>
    have hb2:(frz.frzs H1.get 0 cs).map DV.tup=some (.imm (.bool b)):=hb
    simp at hb2
   | fnc=>cases hb
   | lref=>cases hb
  exact⟨H1,n1,by rw[this]⟩
theorem zD6 {K:Go.PM.Callee} {args':List DV}{b:Bool}(hp:DV.pure.pures args=false) (hs:snap.snaps H.get args=some args') (hb:bl K f args'=some (.imm (.bool b))) :
  zDz K .blind f args H m lo=some ⟨.imm (.bool b),H,m,[.rA]⟩:=by
 obtain⟨H1,n1,e⟩:=zDc hb
 simp only[zDz,hp,hs,e]
 rfl
theorem RtEq.symm {r r':Rt}(h:RtEq r r'):RtEq r' r:=⟨h.name.symm,h.fr.symm,h.to.symm,h.path.symm,h.pts.symm,h.flk.symm⟩
theorem LoEq.symm(e:LoEq l l'):LoEq l' l:=⟨e.secs.symm,e.pts.symm,e.sigs.symm,e.len.symm,fun i hi=>(e.rts i (by rw[← e.len]; exact hi)).symm⟩
theorem LoEq.fre(e:LoEq l l'){ls:List Int}(hr:r<l.rts.length) (h:FRE l rs os ls r):FRE l' rs os ls r:=by
 refine⟨fun s hs hm=>?_,fun i hi=>?_,?_⟩
 ·have hs':s<l.rts.length:=by rw[← e.len]; exact hs
  rw[e.cf hr hs']; exact h.cf s hs' hm
 ·rw[e.nd hr] at hi ⊢
  have:=h.nf i hi
  unfold zA5 zQa at *
  rw[e.pts,e.hol]; exact this
 ·rw[(e.rts r hr).path]; exact h.oc
theorem LoEq.cmd(e:LoEq l l'){ls:List Int} {r:Int}:cmdF l' rs os ls c r=cmdF l rs os ls c r:=by
 unfold cmdF
 rw[zFV (show (¬MI l' os ls∨(c≠1∧c≠2))↔(¬MI l os ls∨(c≠1∧c≠2)) by rw[e.mi']),e.len]
 by_cases hr:InR r l.rts.length
 ·have hn:r.toNat<l.rts.length:=by have:=hr.1; have:=hr.2; omega
  have:zDy l' rs os ls r.toNat=zDy l rs os ls r.toNat:=by
   unfold zDy
   rw[zFV (show FRE l' rs os ls r.toNat↔FRE l rs os ls r.toNat from ⟨fun h=>e.symm.fre (by rw[e.len]; exact hn) h,fun h=>e.fre hn h⟩)]
  rw[this]
 ·rw[zFX hr]; rfl
theorem LoEq.stp(e:LoEq l l'){ls:List Int}(hr:r<l.rts.length){x:Rst}:zRZ l' os ls r x=zRZ l os ls r x:=by
 unfold zRZ zTJ
 rw[zFV (e.lie hr),(e.rts r hr).path]
theorem LoEq.drF(e:LoEq l l'){ls:List Int}:D.drF l' rs os ls=D.drF l rs os ls:=by
 unfold D.drF
 rw[e.len,e.pts]
 refine zJc _ fun r x hr=>?_
 unfold drR
 rw[e.nd hr]
 congr 1
 refine zJc _ fun i y hi=>?_
 unfold drN drC
 rw[e.nd hr,e.pts,e.hol]
theorem LoEq.prF(e:LoEq l l'){ls:List Int}:D.prF l' rs os ls=D.prF l rs os ls:=by
 unfold D.prF
 rw[e.len,e.sigs]
 refine zJc _ fun r x hr=>?_
 unfold prR
 rw[zFV (show prC l' rs os ls r↔prC l rs os ls r by unfold prC; rw[(e.rts r hr).path,e.lie hr]),(e.rts r hr).fr]
noncomputable def stpF (l:Lo) (os:List Bool) (ls:List Int) (rs:List Rst):List Rst:=(List.range l.rts.length).map fun r=>zRZ l os ls r (nth rs r)
theorem zRl{ls:List Int}(hl:qs.length=l.rts.length) (hq:∀ j,j<l.rts.length→nth qs j=zRZ l os ls j (nth rs j)):qs=stpF l os ls rs:=by
 refine List.ext_getElem (by simp[stpF,hl]) fun i h1 h2=>?_
 have hi:i<l.rts.length:=by omega
 have:=hq i hi
 simp only[nth,List.getD,List.getElem?_eq_getElem h1,Option.getD_some] at this
 rw[this]
 simp[stpF,nth]
theorem LoEq.stpF(e:LoEq l l'){ls:List Int}:D.stpF l' os ls rs=D.stpF l os ls rs:=by
 unfold D.stpF
 rw[e.len]
 refine List.map_congr_left fun r hr=>?_
 exact e.stp (List.mem_range.1 hr)
theorem INV.stp(is:ISL l)(h:INV l rs){ls:List Int}:INV l (stpF l os ls rs):=
 h.step is (os:=os) (ls:=ls) (by simp[stpF]) fun j hj=>by simp[stpF,nth,hj]
noncomputable def cycF (l:Lo) (rs:List Rst) (os:List Bool) (ls:List Int):List Rst×List Int×List Bool:=
 bif dec (MI l os ls) then (stpF l os ls rs,drF l (stpF l os ls rs) os ls,prF l (stpF l os ls rs) os ls) else (rs,List.replicate l.pts.length 0,List.replicate l.sigs.length false)
theorem LoEq.cyc(e:LoEq l l'){ls:List Int}:cycF l' rs os ls=cycF l rs os ls:=by
 unfold cycF
 rw[zFV e.mi',e.stpF,e.drF,e.prF,e.pts,e.sigs]
theorem INV.cyc(is:ISL l)(h:INV l rs){ls:List Int}:INV l (cycF l rs os ls).1:=by
 unfold cycF
 cases dec (MI l os ls) with
 | true=>exact h.stp is
 | false=>exact h
theorem zGU(is:ISL l){ls:List Int}:(drF l rs os ls).length=l.pts.length:=(zGV is).1
theorem zN7(is:ISL l){ls:List Int}:(prF l rs os ls).length=l.sigs.length:=(zN8 is).1
theorem zAc(hd:11≤d)(ok:LoOk l) (is:ISL l) (lk:LkAt H p own l rs) (inv:INV l rs){ls:List Int}(io:InOk ov lv os ls)(hpn:∀ i∈p::own,i<n) :
  ∃ H' n',K DG (d+1) 166 [.ptr p 0 0,inD ov lv] H n 0=some (.agg [.sl (n+2+1) 0 l.pts.length l.pts.length,.sl (n+2+2) 0 l.sigs.length l.sigs.length],H',n')∧n+5≤n'∧(∀ j,j∉own→j<n→H'.get j=H.get j)∧
   LkAt H' p own l (cycF l rs os ls).1∧H'.get (n+2+1)=some ⟨1,(cycF l rs os ls).2.1.map rowI⟩∧H'.get (n+2+2)=some ⟨1,(cycF l rs os ls).2.2.map rowB⟩∧(cycF l rs os ls).2.1.length=l.pts.length∧(cycF l rs os ls).2.2.length=l.sigs.length:=by
 by_cases mi:MI l os ls
 ·obtain⟨v,H',n',e,rfl,hn,fr,qs,lk',hq,h1,h2⟩:=zAe hd ok is lk inv.ro io mi hpn
  obtain rfl:=zRl (by obtain⟨_,_,_,_,h⟩:=lk'; exact h) hq
  refine⟨H',n',e,hn,fr,?_⟩
  unfold cycF
  rw[zFd mi]
  exact⟨lk',h1,h2,zGU is,zN7 is⟩
 ·obtain⟨v,H',n',e,rfl,hn,hH⟩:=zAd (d:=d) (by omega) ok is.p2 is.g2 lk io mi hpn
  have hf:∀ j,j<n→H'.get j=H.get j:=fun j hj=>by
   have b1:¬j=n+2+1:=by omega
   have b2:¬j=n+2+2:=by omega
   rw[hH]; simp[gP,b1,b2]
  refine⟨H',n',e,by omega,fun j _ hj=>hf j hj,?_⟩
  unfold cycF
  rw[zFX mi]
  refine⟨lk.mono fun i hi=>hf i (hpn i hi),?_,?_,by simp,by simp⟩
  ·have:¬n+2+1=n+2+2:=by omega
   rw[hH]; simp[gP,this,rowI,imms]
  ·rw[hH]; simp[gP,rowB,imms]
def Two (H:PT HB) (n p q:Nat) (l k:Lo) (rs qs:List Rst):Prop:=∃ o o',LkAt H p o l rs∧LkAt H q o' k qs∧(∀ j∈p::o,j<n)∧(∀ j∈q::o',j<n)∧∀ j∈p::o,j∉q::o'
def rowL (e t:Int) (g:Bool):HB:=⟨3,[[.imm (.int .i64 e),.imm (.int .i64 t),.imm (.bool g)]]⟩
theorem zKA(hlo:lo≤n):∃ n' H',K DG (d+1) 80 [] H n lo=some (.ptr n 0 0,H',n')∧n'=n+1∧H'=H.put n (some (rowL 0 0 false)):=by
 have key:Fe (K DG (d+1) 80 [] H n lo) (fun v H' n'=>v=.ptr n 0 0∧n'=n+1∧H'=H.put n (some (rowL 0 0 false))):=by
  rw[kX 80 D.f80 rfl]
  refine zHy rfl ?_
  simp[hlo,rowL,zHG,lay,zS4,zS2,mapO,B6,B7]
 obtain⟨v,H',n',e,rfl,r⟩:=key
 exact⟨n',H',e,r⟩
variable {e t:Int} {g:Bool}
theorem zJ8(h:H.get q=some (rowL e t g)) (e' k:Int) (h0:0≤k) (h1:k≤1000000) :
  ∃ v H',K DG (d+1) 138 [.ptr q 0 0,.imm (.int .i64 e'),.imm (.int .i64 k)] H n 0=some (v,H',n)∧H'.get q=some (rowL e' (k+5) true)∧∀ j,j≠q→H'.get j=H.get j:=by
 have w1:IntKind.i64.wrap (k+8)=k+8:=zTW (by omega) (by omega)
 have w2:IntKind.i64.wrap (k+8 - 3)=k+8 - 3:=zTW (by omega) (by omega)
 have w3:IntKind.i64.wrap (k+5)=k+5:=zTW (by omega) (by omega)
 have key:Fe (K DG (d+1) 138 [.ptr q 0 0,.imm (.int .i64 e'),.imm (.int .i64 k)] H n 0) (fun v H' n'=>n'=n∧H'.get q=some (rowL e' (k+5) true)∧∀ j,j≠q→H'.get j=H.get j):=by
  unfold rowL at h
  rw[kX 138 D.f138 rfl]
  refine zHy rfl ?_
  simp +contextual [h,w1,w2,w3,rowL,B6,B7]
  omega
 obtain⟨v,H',n',e,rfl,r⟩:=key
 exact⟨v,H',e,r⟩
theorem zJ6(h:H.get q=some (rowL e t g)) :
  ∃ v H',K DG (d+1) 123 [.ptr q 0 0] H n 0=some (v,H',n)∧H'.get q=some (rowL e t false)∧∀ j,j≠q→H'.get j=H.get j:=by
 have key:Fe (K DG (d+1) 123 [.ptr q 0 0] H n 0) (fun v H' n'=>n'=n∧H'.get q=some (rowL e t false)∧∀ j,j≠q→H'.get j=H.get j):=by
  unfold rowL at h
  rw[kX 123 D.f123 rfl]
  refine zHy rfl ?_
  simp +contextual [h,rowL,B6,B7]
 obtain⟨v,H',n',e,rfl,r⟩:=key
 exact⟨v,H',e,r⟩
theorem zO8 {K:Go.PM.Callee}(ho:DV.out.outs args=true) (h:Fe (K f args H n n) (fun v' H' n'=>n≤n'∧v'=.imm v)) :
  ∃ m,zDz K .ro f args H n lo=some ⟨.imm v,H,m,[.rA]⟩∧n≤m:=by
 obtain⟨v',H',n',e,h1,rfl⟩:=h
 exact⟨n',by rw[zD3,if_pos ho,e]; rfl,h1⟩
theorem zJ9(h:H.get q=some (rowL e t g)) (k:Int) :
  ∃ m,zDz (K DG (d+1)) .ro 87 [.ptr q 0 0,.imm (.int .i64 k)] H n lo=some ⟨.imm (.bool (dec (g=true∧k<t))),H,m,[.rA]⟩∧n≤m:=by
 refine zO8 rfl ?_
 unfold rowL at h
 rw[kX 87 D.f87 rfl]
 refine zHy rfl ?_
 cases g with
 | false=>
  have e1:dec (false=true∧k<t)=false:=zFX (by simp)
  simp[h,e1,B6,B7]
 | true=>
  by_cases hk:k<t
  ·have e1:dec (true=true∧k<t)=true:=zFd ⟨rfl,hk⟩
   simp[h,e1,zI3 hk,B6,B7]
   exact hk
  ·have e1:dec (true=true∧k<t)=false:=zFX (fun h=>hk h.2)
   simp[h,e1,zIz (Int.not_lt.1 hk),B6,B7]
   omega
theorem zJ7(h:H.get q=some (rowL e t g)) :
  ∃ m,zDz (K DG (d+1)) .ro 137 [.ptr q 0 0] H n lo=some ⟨.imm (.int .i64 e),H,m,[.rA]⟩∧n≤m:=by
 refine zO8 rfl ?_
 unfold rowL at h
 rw[kX 137 D.f137 rfl]
 refine zHy rfl ?_
 simp[h,B6,B7]
structure US where
 rs:List Rst
 ep:Int
 en:Int
 gr:Bool
 cp:Option (Int×Int×List Rst)
 mode:Int
 tick:Int
 count:Int
 left:Int
def CpAt (Z:Nat→Prop) (H:PT HB) (n:Nat) (bad:List Nat) (x:DV):Option (Int×Int×List Rst)→Prop
 | none=>x=.imm .nilp
 | some (e,c,qs)=>∃ m w,x=.ptr m 0 0∧(m∉bad∧m<n∧Z m)∧H.get m=some ⟨3,[[.imm (.int .i64 e),.imm (.int .i64 c),.imm w]]⟩∧Sl 4 w (qs.map ivRS)
def rowU (p q:Nat) (x:DV) (mode tick count left:Int):HB:=⟨7,[[.ptr p 0 0,.ptr q 0 0,x,.imm (.int .i64 mode),.imm (.int .i64 tick),.imm (.int .i64 count),.imm (.int .i64 left)]]⟩
structure UAt (Z:Nat→Prop) (l:Lo) (H:PT HB) (n a p q:Nat) (own:List Nat) (x:DV) (u:US):Prop where
 blk:H.get a=some (rowU p q x u.mode u.tick u.count u.left)
 lk:LkAt H p own l u.rs
 le:H.get q=some (rowL u.ep u.en u.gr)
 cp:CpAt Z H n (a::p::q::own) x u.cp
 ap:a≠p
 aq:a≠q
 pq:p≠q
 ao:a∉own
 qo:q∉own
 lt:∀ j∈a::p::q::own,j<n∧Z j
def UI (Z:Nat→Prop) (l:Lo) (H:PT HB) (n a:Nat) (u:US):Prop:=∃ p q own x,UAt Z l H n a p q own x u
variable {H':PT HB} {Z Z':Nat→Prop} {n':Nat}
theorem CpAt.mono{bad bad':List Nat}{c:Option (Int×Int×List Rst)}(h:CpAt Z H n bad x c) (hn:n≤n') (hz:∀ j,j<n→Z j→Z' j) (hb:∀ j∈bad',j<n→j∈bad) (hf:∀ j,j<n→Z j→j∉bad→H'.get j=H.get j):CpAt Z' H' n' bad' x c:=by
 rcases c with _ | ⟨e,c,qs⟩
 ·exact h
 ·obtain⟨m,w,h1,⟨h2,h3,h4⟩,h5,h6⟩:=h
  exact⟨m,w,h1,⟨fun h=>h2 (hb m h h3),by omega,hz m h3 h4⟩,by rw[hf m h3 h4 h2]; exact h5,h6⟩
variable {u:US}
theorem UAt.mono(h:UAt Z l H n a p q own x u) (hn:n≤n') (hz:∀ j,j<n→Z j→Z' j) (hf:∀ j,j<n→Z j→H'.get j=H.get j):UAt Z' l H' n' a p q own x u:=by
 obtain⟨blk,lk,le,cp,ap,aq,pq,ao,qo,lt⟩:=h
 have hg:∀ j∈a::p::q::own,H'.get j=H.get j:=fun j hj=>hf j (lt j hj).1 (lt j hj).2
 refine⟨by rw[hg a (by simp)]; exact blk,lk.mono fun i hi=>hg i (by simp at hi ⊢; rcases hi with h | h <;> simp[h]),by rw[hg q (by simp)]; exact le,cp.mono hn hz (fun j hj _=>hj) (fun j h1 h2 _=>hf j h1 h2),ap,aq,pq,ao,qo,fun j hj=>⟨by have:=(lt j hj).1; omega,hz j (lt j hj).1 (lt j hj).2⟩⟩
theorem UI.mono(h:UI Z l H n a u) (hn:n≤n') (hz:∀ j,j<n→Z j→Z' j) (hf:∀ j,j<n→Z j→H'.get j=H.get j):UI Z' l H' n' a u:=by
 obtain⟨p,q,own,x,h⟩:=h
 exact⟨p,q,own,x,h.mono hn hz hf⟩
theorem UAt.upd {x':DV}(h:UAt Z l H n a p q own x u) (hn:n≤n'){c:Option (Int×Int×List Rst)} {m k:Int}
  (hb:H'.get a=some (rowU p q x' m t k z)) (hc:CpAt Z H' n' (a::p::q::own) x' c) (hf:∀ j,j≠a→j<n→H'.get j=H.get j):UAt Z l H' n' a p q own x' ⟨u.rs,u.ep,u.en,u.gr,c,m,t,k,z⟩:=by
 obtain⟨blk,lk,le,cp,ap,aq,pq,ao,qo,lt⟩:=h
 refine⟨hb,lk.mono fun i hi=>hf i ?_ ?_,by rw[hf q aq.symm (lt q (by simp)).1]; exact le,hc,ap,aq,pq,ao,qo,fun j hj=>⟨by have:=(lt j hj).1; omega,(lt j hj).2⟩⟩
 ·rcases List.mem_cons.1 hi with rfl | hi
  ·exact ap.symm
  ·exact fun e=>ao (e▸hi)
 ·exact (lt i (by simp at hi ⊢; rcases hi with h | h <;> simp[h])).1
theorem UAt.updq(h:UAt Z l H n a p q own x u) (hn:n≤n')
  (hb:H'.get q=some (rowL e t g)) (hf:∀ j,j≠q→j<n→H'.get j=H.get j):UAt Z l H' n' a p q own x ⟨u.rs,e,t,g,u.cp,u.mode,u.tick,u.count,u.left⟩:=by
 obtain⟨blk,lk,le,cp,ap,aq,pq,ao,qo,lt⟩:=h
 refine⟨by rw[hf a aq (lt a (by simp)).1]; exact blk,lk.mono fun i hi=>hf i ?_ ?_,hb,cp.mono hn (fun j _ h=>h) (fun j hj _=>hj) (fun j h1 h2 h3=>hf j (fun e=>h3 (by simp[e])) h1),ap,aq,pq,ao,qo,fun j hj=>⟨by have:=(lt j hj).1; omega,(lt j hj).2⟩⟩
 ·rcases List.mem_cons.1 hi with rfl | hi
  ·exact pq
  ·exact fun e=>qo (e▸hi)
 ·exact (lt i (by simp at hi ⊢; rcases hi with h | h <;> simp[h])).1
theorem UAt.newq {q':Nat} {x':DV}(h:UAt Z l H n a p q own x u) (hz:∀ j,n≤j→Z j) (hn:n≤n') (hq:n≤q'∧q'<n'){c:Option (Int×Int×List Rst)} {m y k:Int}
  (hb:H'.get q'=some (rowL e t g)) (ha:H'.get a=some (rowU p q' x' m y k z)) (hc:CpAt Z H' n' (a::p::q'::own) x' c) (hf:∀ j,j≠a→j<n→H'.get j=H.get j):UAt Z l H' n' a p q' own x' ⟨u.rs,e,t,g,c,m,y,k,z⟩:=by
 obtain⟨blk,lk,le,cp,ap,aq,pq,ao,qo,lt⟩:=h
 refine⟨ha,lk.mono fun i hi=>hf i ?_ ?_,hb,hc,ap,fun e=>by have:=(lt a (by simp)).1; omega,fun e=>by have:=(lt p (by simp)).1; omega,ao,fun e=>by have:=(lt q' (by simp[e])).1; omega,fun j hj=>?_⟩
 ·rcases List.mem_cons.1 hi with rfl | hi
  ·exact ap.symm
  ·exact fun e=>ao (e▸hi)
 ·exact (lt i (by simp at hi ⊢; rcases hi with h | h <;> simp[h])).1
 ·simp at hj
  rcases hj with rfl | rfl | rfl | hj
  ·exact⟨by have:=(lt j (by simp)).1; omega,(lt j (by simp)).2⟩
  ·exact⟨by have:=(lt j (by simp)).1; omega,(lt j (by simp)).2⟩
  ·exact⟨by omega,hz _ hq.1⟩
  ·exact⟨by have:=(lt j (by simp[hj])).1; omega,(lt j (by simp[hj])).2⟩
theorem UAt.lock {own':List Nat}(h:UAt Z l H n a p q own x u) (hz:∀ j,n≤j→Z j) (hn:n≤n')
  (hl:LkAt H' p own' l qs) (ho:∀ j∈own',j∈own∨(n≤j∧j<n')) (hf:∀ j,j≠p→j∉own→j<n→H'.get j=H.get j):UAt Z l H' n' a p q own' x ⟨qs,u.ep,u.en,u.gr,u.cp,u.mode,u.tick,u.count,u.left⟩:=by
 obtain⟨blk,lk,le,cp,ap,aq,pq,ao,qo,lt⟩:=h
 have la:=(lt a (by simp)).1
 have lq:=(lt q (by simp)).1
 refine⟨by rw[hf a ap ao la]; exact blk,hl,by rw[hf q pq.symm qo lq]; exact le,cp.mono hn (fun j _ h=>h) (fun j hj hlt=>?_) (fun j h1 h2 h3=>hf j (fun e=>h3 (by simp[e])) (fun e=>h3 (by simp[e])) h1),ap,aq,pq,fun e=>?_,fun e=>?_,fun j hj=>?_⟩
 ·simp at hj ⊢
  rcases hj with h | h | h | h
  ·simp[h]
  ·simp[h]
  ·simp[h]
  ·rcases ho j h with h | h
   ·simp[h]
   ·omega
 ·rcases ho a e with h | h
  ·exact ao h
  ·omega
 ·rcases ho q e with h | h
  ·exact qo h
  ·omega
 ·simp at hj
  rcases hj with rfl | rfl | rfl | hj
  ·exact⟨by have:=(lt j (by simp)).1; omega,(lt j (by simp)).2⟩
  ·exact⟨by have:=(lt j (by simp)).1; omega,(lt j (by simp)).2⟩
  ·exact⟨by have:=(lt j (by simp)).1; omega,(lt j (by simp)).2⟩
  ·rcases ho j hj with h | h
   ·exact⟨by have:=(lt j (by simp[h])).1; omega,(lt j (by simp[h])).2⟩
   ·exact⟨by omega,hz _ h.1⟩
def UR (Z:Nat→Prop) (l:Lo) (H:PT HB) (n a:Nat) (u:US) (H':PT HB) (n':Nat):Prop:=n≤n'∧UI Z l H' n' a u∧∀ j,j<n→¬Z j→H'.get j=H.get j
theorem zSw(h:UAt Z l H n a p q own x u) :
  ∃ k,zDz (K DG (d+1)) .ro 65 [.ptr a 0 0] H m lo=some ⟨.imm (.int .i64 u.mode),H,k,[.rA]⟩∧m≤k:=by
 have hb:=h.blk
 unfold rowU at hb
 refine zO8 rfl ?_
 rw[kX 65 D.f65 rfl]
 refine zHy rfl ?_
 simp[hb,B6,B7]
theorem zSv(h:UAt Z l H n a p q own x u) :
  ∃ k,zDz (K DG (d+1)) .ro 100 [.ptr a 0 0] H m lo=some ⟨.imm (.int .i64 u.count),H,k,[.rA]⟩∧m≤k:=by
 have hb:=h.blk
 unfold rowU at hb
 refine zO8 rfl ?_
 rw[kX 100 D.f100 rfl]
 refine zHy rfl ?_
 simp[hb,B6,B7]
def Wk (u:US):Prop:=u.mode=3∨u.mode=4
theorem zSy(h:UAt Z l H n a p q own x u) :
  ∃ k,zDz (K DG (d+1)) .ro 86 [.ptr a 0 0] H m lo=some ⟨.imm (.bool (dec (Wk u))),H,k,[.rA]⟩∧m≤k:=by
 have hb:=h.blk
 unfold rowU at hb
 refine zO8 rfl ?_
 rw[kX 86 D.f86 rfl]
 refine zHy rfl ?_
 unfold Wk
 by_cases h3:u.mode=3
 ·have e:dec (u.mode=3∨u.mode=4)=true:=zFd (.inl h3)
  rw[e]
  rw[h3] at hb
  simp[hb,B6,B7]
 ·by_cases h4:u.mode=4
  ·have e:dec (u.mode=3∨u.mode=4)=true:=zFd (.inr h4)
   rw[e]
   rw[h4] at hb
   simp[hb,B6,B7]
  ·have e:dec (u.mode=3∨u.mode=4)=false:=zFX (by simp[h3,h4])
   rw[e]
   simp[hb,h3,h4,B6,B7]
theorem zSx(h:UAt Z l H n a p q own x u) (hl:u.rs.length≤1000)(hd:2≤d) :
  ∃ w k,zDz (K DG (d+1)) .ro 58 [.ptr a 0 0] H m lo=some ⟨.imm w,H,k,[.rA]⟩∧m≤k∧Sl 4 w (u.rs.map ivRS):=by
 obtain⟨d,rfl⟩:∃ d',d=d'+1:=⟨d - 1,by omega⟩
 have hb:=h.blk
 unfold rowU at hb
 obtain⟨w,k,e,hk,hw⟩:=zBU (d:=d) (by omega) hl h.lk (n:=m) (lo:=m)
 have key:Fe (K DG (d+1+1) 58 [.ptr a 0 0] H m m) (fun v' H' n'=>m≤n'∧v'=.imm w):=by
  rw[kX 58 D.f58 rfl]
  refine zHy rfl ?_
  have ws:=hw.scal
  simp[hb,e,ws,B6,B7]
  omega
 obtain⟨k',e',hk'⟩:=zO8 (lo:=lo) rfl key
 exact⟨w,k',e',hk',hw⟩
theorem UAt.set(hd:10≤d)(ok:LoOk l) (is:ISL l) (h:UAt Z l H n a p q own x u) (hz:∀ j,n≤j→Z j){w:IV}(hw:Sl 4 w (qs.map ivRS)) (hl:qs.length≤reachBytes)(hm:n≤m) :
  ∃ H' n' own',K DG (d+1) 95 [.ptr p 0 0,.imm w] H m 0=some (.imm (.bool (dec (INV l qs))),H',n')∧m≤n'∧UAt Z l H' n' a p q own' x ⟨bif dec (INV l qs) then qs else u.rs,u.ep,u.en,u.gr,u.cp,u.mode,u.tick,u.count,u.left⟩∧(∀ j,j≠p→j<m→H'.get j=H.get j)∧∀ j∈own',j∈own∨m≤j:=by
 have lt:=h.lt
 have hp:=lt p (by simp)
 obtain⟨v,H',n',e,hn,rfl,fr,hc⟩:=zBZ hd ok is h.lk hw hl (n:=m) (fun i hi=>by
  have:=(lt i (by simp at hi ⊢; rcases hi with h | h <;> simp[h])).1
  omega)
 rcases hc with⟨iq,own',lk',ho⟩ | ⟨niq,lk'⟩
 ·refine⟨H',n',own',e,hn,?_,fr,fun j hj=>.inr (ho j hj).1⟩
  rw[zFd iq]
  exact h.lock hz (by omega) lk' (fun j hj=>.inr ⟨by have:=ho j hj; omega,(ho j hj).2⟩) (fun j h1 h2 h3=>fr j h1 (by omega))
 ·refine⟨H',n',own,e,hn,?_,fr,fun j hj=>.inl hj⟩
  rw[zFX niq]
  exact h.lock hz (by omega) lk' (fun j hj=>.inl hj) (fun j h1 h2 h3=>fr j h1 (by omega))
def rep0 (l:Lo):List Rst:=List.replicate l.rts.length rs0
theorem zOx(hd:10≤d)(ok:LoOk l) (is:ISL l) (h:UAt Z l H n a p q own x u) (hz:∀ j,n≤j→Z j) :
  ∃ v H' n' own',K DG (d+2) 122 [.ptr a 0 0] H n 0=some (v,H',n')∧n≤n'∧UAt Z l H' n' a p q own' x ⟨rep0 l,u.ep,u.en,u.gr,u.cp,u.mode,u.tick,u.count,u.left⟩∧∀ j,j≠p→j<n→H'.get j=H.get j:=by
 have hb:=h.blk
 unfold rowU at hb
 have hrl:u.rs.length=l.rts.length:=by obtain⟨_,_,_,_,h⟩:=h.lk; exact h
 have r6:=is.r2
 obtain⟨w,k,e1,hk,hw⟩:=zBU (d:=d) (by omega) (by omega) h.lk (n:=n) (lo:=0)
 have wl:=hw.len
 simp only[List.length_map,hrl] at wl
 have ws:=hw.scal
 have a1:l.rts.length≤zCJ:=by unfold zCJ; omega
 have a2:l.rts.length*32≤zCJ:=by unfold zCJ; omega
 obtain⟨H',n',own',e2,hn,hu,fz,_⟩:=UAt.set (d:=d) (by omega) ok is h hz (w:=.lst true 4 (List.replicate l.rts.length [.int .i64 0,.int .i64 0,.int .i64 0,.bool false])) (qs:=rep0 l) (.inr ⟨true,by simp[rep0,ivRS]⟩) (by simp[rep0]; have:=rb3; omega) hk
 rw[zFd (show INV l (rep0 l) from INV.new)] at hu e2
 have key:Fe (K DG (d+1+1) 122 [.ptr a 0 0] H n 0) (fun v H2 n2=>H2=H'∧n2=n'):=by
  rw[kX 122 D.f122 rfl]
  refine zHy rfl ?_
  simp[hb,e1,wl,ws,a1,a2,e2,B6,B7]
 obtain⟨v,H2,n2,e,h1,h2⟩:=key
 rw[h1,h2] at e
 exact⟨v,H',n',own',e,by omega,hu,fun j h1 h2=>fz j h1 (by omega)⟩
theorem zKC(hd:10≤d)(ok:LoOk l) (is:ISL l) (h:UAt Z l H n a p q own x u) (hz:∀ j,n≤j→Z j) :
  ∃ v H' n' own',K DG (d+3) 88 [.ptr a 0 0] H n 0=some (v,H',n')∧n≤n'∧UAt Z l H' n' a p q own' (.imm .nilp) ⟨rep0 l,u.ep,u.en,false,none,2,u.tick,u.count,u.left⟩∧∀ j,j<n→¬Z j→H'.get j=H.get j:=by
 obtain⟨v1,H1,n1,own1,e1,hn1,hu,fz⟩:=zOx (d:=d) hd ok is h hz
 have hb:=hu.blk
 simp only[rowU] at hb
 have hqg:=hu.le
 have haq:=hu.aq
 have hqa:¬q=a:=fun e=>haq e.symm
 obtain⟨HA,hHA⟩:∃ HA,HA=(H1.put a (some ⟨7,[[.ptr p 0 0,.ptr q 0 0,x,.imm (.int .i64 2),.imm (.int .i64 u.tick),.imm (.int .i64 u.count),.imm (.int .i64 u.left)]]⟩)).put a (some ⟨7,[[.ptr p 0 0,.ptr q 0 0,.imm .nilp,.imm (.int .i64 2),.imm (.int .i64 u.tick),.imm (.int .i64 u.count),.imm (.int .i64 u.left)]]⟩):=⟨_,rfl⟩
 have ga:HA.get a=some (rowU p q (.imm .nilp) 2 u.tick u.count u.left):=by rw[hHA]; simp[gP,rowU]
 have gf:∀ j,j≠a→HA.get j=H1.get j:=fun j hj=>by rw[hHA]; simp[gP,hj]
 obtain⟨v2,H2,e2,g2,f2⟩:=zJ6 (d:=d+1) (n:=n1) ((gf q hqa).trans hqg)
 simp only at e2 g2
 have xs:x.scal=true:=by
  have:=h.cp
  cases hc:u.cp with
  | none=>rw[hc] at this; rw[show x=.imm .nilp from this]; rfl
  | some c=>rw[hc] at this; obtain⟨m,w,rfl,_⟩:=this; rfl
 have key:Fe (K DG (d+2+1) 88 [.ptr a 0 0] H n 0) (fun v H' n'=>n'=n1∧H'.get a=some (rowU p q (.imm .nilp) 2 u.tick u.count u.left)∧H'.get q=some (rowL u.ep u.en false)∧∀ j,j≠a→j≠q→H'.get j=H1.get j):=by
  rw[kX 88 D.f88 rfl]
  refine zHy rfl ?_
  simp[e1,hb,xs,← hHA,ga,rowU,e2,B6,B7]
  exact⟨by rw[f2 a haq]; exact ga,g2,fun j h1 h2=>(f2 j h2).trans (gf j h1)⟩
 obtain⟨v,H',n',e,rfl,k1,k2,k3⟩:=key
 have ha:=hu.lt a (by simp)
 have hq:=hu.lt q (by simp)
 refine⟨v,H',n',own1,e,hn1,?_,fun j hj hzj=>by rw[k3 j (fun e=>hzj (e▸ha.2)) (fun e=>hzj (e▸hq.2))]; exact fz j (fun e=>hzj (e▸(hu.lt p (by simp)).2)) hj⟩
 obtain⟨blk,lk,le,cp,ap,aq,pq,ao,qo,lt⟩:=hu
 exact⟨k1,lk.mono fun i hi=>k3 i (by
  rcases List.mem_cons.1 hi with rfl | hi
  ·exact ap.symm
  ·exact fun e=>ao (e▸hi)) (by
  rcases List.mem_cons.1 hi with rfl | hi
  ·exact pq
  ·exact fun e=>qo (e▸hi)),k2,rfl,ap,aq,pq,ao,qo,lt⟩
noncomputable def zKB (l:Lo) (u:US):US:=⟨rep0 l,u.ep,u.en,false,none,2,u.tick,u.count,u.left⟩
noncomputable def zEv (l:Lo) (u:US):US:=⟨rep0 l,0,0,false,none,0,u.tick,0,u.left⟩
theorem zAb(hd:10≤d)(ok:LoOk l) (is:ISL l) (h:UI Z l H n a u) (hz:∀ j,n≤j→Z j) :
  ∃ v H' n',K DG (d+3) 82 [.ptr a 0 0] H n 0=some (v,H',n')∧UR Z l H n a (zEv l u) H' n':=by
 obtain⟨p,q,own,x,h⟩:=h
 obtain⟨v1,H1,n1,own1,e1,hn1,hu,fz⟩:=zOx (d:=d) hd ok is h hz
 have hb:=hu.blk
 simp only[rowU] at hb
 have la:=hu.lt a (by simp)
 obtain⟨HA,hHA⟩:∃ HA,HA=(H1.put a (some ⟨7,[[.ptr p 0 0,.ptr q 0 0,x,.imm (.int .i64 0),.imm (.int .i64 u.tick),.imm (.int .i64 u.count),.imm (.int .i64 u.left)]]⟩)):=⟨_,rfl⟩
 obtain⟨n2,H2,e2,g2,f2⟩:=zKA (d:=d+1) (H:=H1) (n:=n1) (lo:=0) (by omega)
 have xs:x.scal=true:=by
  have:=h.cp
  cases hc:u.cp with
  | none=>rw[hc] at this; rw[show x=.imm .nilp from this]; rfl
  | some c=>rw[hc] at this; obtain⟨m,w,rfl,_⟩:=this; rfl
 have ha1:¬a=n1:=by omega
 have ha2:¬n1=a:=by omega
 have key:Fe (K DG (d+2+1) 82 [.ptr a 0 0] H n 0) (fun v H' n'=>n'=n1+1∧H'.get a=some (rowU p n1 (.imm .nilp) 0 u.tick 0 u.left)∧H'.get n1=some (rowL 0 0 false)∧∀ j,j≠a→j<n1→H'.get j=H1.get j):=by
  rw[kX 82 D.f82 rfl]
  refine zHy rfl ?_
  simp +contextual [e1,hb,xs,e2,g2,f2,ha1,ha2,rowU,B6,B7]
  intro j _ h2 h3
  omega
 obtain⟨v,H',n',e,rfl,k1,k2,k3⟩:=key
 exact⟨v,H',_,e,by omega,⟨p,n1,own1,_,hu.newq (fun j hj=>hz j (by omega)) (by omega) ⟨Nat.le_refl _,by omega⟩ k2 k1 rfl k3⟩,fun j hj hzj=>by rw[k3 j (fun e=>hzj (e▸la.2)) (by omega)]; exact fz j (fun e=>hzj (e▸(hu.lt p (by simp)).2)) hj⟩
def zRX (u:US):US:=if u.mode=0 then ⟨u.rs,u.ep,u.en,u.gr,u.cp,1,0,u.count,u.left⟩ else u
theorem zBc(h:UI Z l H n a u) :
  ∃ v H' n',K DG (d+1) 83 [.ptr a 0 0] H n 0=some (v,H',n')∧v=.imm (.int .i64 (if u.mode=0 then 0 else 7))∧UR Z l H n a (zRX u) H' n':=by
 obtain⟨p,q,own,x,h⟩:=h
 have hb:=h.blk
 unfold rowU at hb
 have la:=h.lt a (by simp)
 by_cases h0:u.mode=0
 ·have key:Fe (K DG (d+1) 83 [.ptr a 0 0] H n 0) (fun v H' n'=>v=.imm (.int .i64 0)∧n≤n'∧H'.get a=some (rowU p q x 1 0 u.count u.left)∧∀ j,j≠a→H'.get j=H.get j):=by
   rw[kX 83 D.f83 rfl]
   refine zHy rfl ?_
   rw[h0] at hb
   have cs:x.scal=true:=by
    have:=h.cp
    cases hc:u.cp with
    | none=>rw[hc] at this; rw[show x=.imm .nilp from this]; rfl
    | some c=>rw[hc] at this; obtain⟨m,w,rfl,_⟩:=this; rfl
   simp[hb,cs,gP,rowU,B6,B7]
   intro j hj
   simp[gP,hj]
  obtain⟨v,H',n',e,rfl,hn,k1,k3⟩:=key
  refine⟨_,H',n',e,by simp[h0],hn,⟨p,q,own,x,?_⟩,fun j hj hzj=>k3 j (fun e=>hzj (e▸la.2))⟩
  unfold zRX
  rw[if_pos h0]
  exact h.upd hn k1 (h.cp.mono hn (fun _ _ h=>h) (fun _ h _=>h) fun j _ _ hj=>k3 j (fun e=>hj (by simp[e]))) (fun j hj _=>k3 j hj)
 ·have key:Fe (K DG (d+1) 83 [.ptr a 0 0] H n 0) (fun v H' n'=>v=.imm (.int .i64 7)∧n≤n'∧H'=H):=by
   rw[kX 83 D.f83 rfl]
   refine zHy rfl ?_
   simp[hb,h0,B6,B7]
  obtain⟨v,H',n',e,rfl,hn,rfl⟩:=key
  refine⟨_,_,n',e,by simp[h0],hn,?_,fun j _ _=>rfl⟩
  unfold zRX
  rw[if_neg h0]
  exact⟨p,q,own,x,h.mono hn (fun _ _ h=>h) fun _ _ _=>rfl⟩
theorem UAt.xs(h:UAt Z l H n a p q own x u):x.scal=true∧x.out=true:=by
 have:=h.cp
 cases hc:u.cp with
 | none=>rw[hc] at this; rw[show x=.imm .nilp from this]; exact⟨rfl,rfl⟩
 | some c=>rw[hc] at this; obtain⟨m,w,rfl,_⟩:=this; exact⟨rfl,rfl⟩
theorem UAt.num(h:UAt Z l H n a p q own x u) (m t k z:Int) :
  UAt Z l (H.put a (some ⟨7,[[.ptr p 0 0,.ptr q 0 0,x,.imm (.int .i64 m),.imm (.int .i64 t),.imm (.int .i64 k),.imm (.int .i64 z)]]⟩)) n a p q own x ⟨u.rs,u.ep,u.en,u.gr,u.cp,m,t,k,z⟩:=by
 have f:∀ j,j≠a→(H.put a (some ⟨7,[[.ptr p 0 0,.ptr q 0 0,x,.imm (.int .i64 m),.imm (.int .i64 t),.imm (.int .i64 k),.imm (.int .i64 z)]]⟩)).get j=H.get j:=fun j hj=>by simp[gP,hj]
 exact h.upd (Nat.le_refl _) (by simp[gP,rowU]) (h.cp.mono (Nat.le_refl _) (fun _ _ h=>h) (fun _ h _=>h) fun j _ _ hj=>f j (fun e=>hj (by simp[e]))) (fun j hj _=>f j hj)
noncomputable def zSh (l:Lo) (u:US):US:=@ite _ (u.mode=1∧3≤u.tick) (Classical.propDecidable _) ⟨u.rs,u.ep,u.en,u.gr,u.cp,2,u.tick,u.count,u.left⟩
 (@ite _ (Wk u∧¬(u.gr=true∧u.tick<u.en)) (Classical.propDecidable _) (zKB l u) u)
noncomputable def zSg (l:Lo) (u:US) (slow:Bool):US:=if u.mode=0 then u else zSh l (if slow then u else ⟨u.rs,u.ep,u.en,u.gr,u.cp,u.mode,u.tick+1,u.count,u.left⟩)
theorem zBj(hd:10≤d)(ok:LoOk l) (is:ISL l) (h:UI Z l H n a u) (hz:∀ j,n≤j→Z j) (t0:0≤u.tick) (t1:u.tick≤999999) (slow:Bool) :
  ∃ v H' n',K DG (d+4) 47 [.ptr a 0 0,.imm (.bool slow)] H n 0=some (v,H',n')∧UR Z l H n a (zSg l u slow) H' n':=by
 obtain⟨p,q,own,x,h⟩:=h
 have hb:=h.blk
 have xs:=h.xs.1
 have la:=h.lt a (by simp)
 unfold rowU at hb
 by_cases h0:u.mode=0
 ·have key:Fe (K DG (d+3+1) 47 [.ptr a 0 0,.imm (.bool slow)] H n 0) (fun v H' n'=>H'=H∧n≤n'):=by
   rw[kX 47 D.f47 rfl]
   refine zHy rfl ?_
   rw[h0] at hb
   simp[hb,xs,B6,B7]
  obtain⟨v,H',n',e,rfl,hn⟩:=key
  unfold zSg
  rw[if_pos h0]
  exact⟨v,_,n',e,hn,⟨p,q,own,x,h.mono hn (fun _ _ h=>h) fun _ _ _=>rfl⟩,fun _ _ _=>rfl⟩
 have w1:IntKind.i64.wrap (u.tick+1)=u.tick+1:=zTW (by omega) (by omega)
 unfold zSg
 rw[if_neg h0]
 cases slow with
 | true=>
  simp only[if_true]
  generalize hv:u=v at *
  have hT:=h
  have fT:∀ j,j≠a→H.get j=H.get j:=fun _ _=>rfl
  have hbT:=hT.blk
  unfold rowU at hbT
  obtain⟨k1,e1,hk1⟩:=zSy hT (d:=d+2) (m:=n) (lo:=0)
  obtain⟨k2,e2,hk2⟩:=zJ9 hT.le v.tick (d:=d+2) (n:=k1) (lo:=0)
  obtain⟨v3,H3,n3,own3,e3,hn3,hu3,fz3⟩:=zKC (d:=d) hd ok is (hT.mono (n':=k2) (by omega) (fun _ _ h=>h) (fun _ _ _=>rfl)) (fun j hj=>hz j (by omega))
  have fz:∀ j,j<n→¬Z j→H.get j=H.get j:=fun j _ hzj=>by
   exact fT j (fun e=>hzj (e▸la.2))
  refine (fun (hq:Fe (K DG (d+3+1) 47 [.ptr a 0 0,.imm (.bool true)] H n 0) fun _ H' n'=>UR Z l H n a (zSh l v) H' n')=>by
   obtain⟨v',H',n',e,r⟩:=hq
   exact⟨v',H',n',e,r⟩) ?_
  rw[kX 47 D.f47 rfl]
  refine zHy rfl ?_
  unfold zSh
  by_cases h1:v.mode=1
  ·by_cases h3:3≤v.tick
   ·rw[if_pos ⟨h1,h3⟩]
    have i3:ILt v.tick 3=False:=zIz h3
    have hU:=hT.num 2 v.tick v.count v.left
    have fin:∀ n',n≤n'→UR Z l H n a ⟨v.rs,v.ep,v.en,v.gr,v.cp,2,v.tick,v.count,v.left⟩ (H.put a (some ⟨7,[[.ptr p 0 0,.ptr q 0 0,x,.imm (.int .i64 2),.imm (.int .i64 v.tick),.imm (.int .i64 v.count),.imm (.int .i64 v.left)]]⟩)) n':=fun n' hn'=>⟨hn',⟨p,q,own,x,hU.mono hn' (fun _ _ h=>h) fun _ _ _=>rfl⟩,fun j hj hzj=>by
     have:¬j=a:=fun e=>hzj (e▸la.2)
     simp[gP,this] <;> exact fz j hj hzj⟩
    rw[h1] at hb hbT
    simp[hb,xs,i3,hbT,e1,B6,B7]
    exact fin _ (by omega)
   ·have i3:ILt v.tick 3=True:=zI3 (by omega)
    have nwk:¬Wk v:=by unfold Wk; omega
    rw[if_neg (fun h=>h3 h.2),if_neg (fun h=>nwk h.1)]
    rw[zFX nwk] at e1
    have fin:∀ n',n≤n'→UR Z l H n a v H n':=fun n' hn'=>⟨hn',⟨p,q,own,x,hT.mono hn' (fun _ _ h=>h) fun _ _ _=>rfl⟩,fz⟩
    rw[h1] at hb hbT
    simp[hb,xs,i3,hbT,e1,B6,B7]
    exact fin _ (by omega)
  ·rw[if_neg (fun h=>h1 h.1)]
   by_cases wk:Wk v
   ·rw[zFd wk] at e1
    by_cases lv:v.gr=true∧v.tick<v.en
    ·rw[zFd lv] at e2
     rw[if_neg (fun h=>h.2 lv)]
     have fin:∀ n',n≤n'→UR Z l H n a v H n':=fun n' hn'=>⟨hn',⟨p,q,own,x,hT.mono hn' (fun _ _ h=>h) fun _ _ _=>rfl⟩,fz⟩
     simp[hb,xs,h0,h1,hbT,e1,e2,B6,B7]
     exact fin _ (by omega)
    ·rw[zFX lv] at e2
     rw[if_pos ⟨wk,lv⟩]
     simp[hb,xs,h0,h1,hbT,e1,e2,e3,B6,B7]
     exact⟨by omega,⟨p,q,own3,_,hu3⟩,fun j hj hzj=>(fz3 j (by omega) hzj).trans (fz j hj hzj)⟩
   ·rw[zFX wk] at e1
    rw[if_neg (fun h=>wk h.1)]
    have fin:∀ n',n≤n'→UR Z l H n a v H n':=fun n' hn'=>⟨hn',⟨p,q,own,x,hT.mono hn' (fun _ _ h=>h) fun _ _ _=>rfl⟩,fz⟩
    simp[hb,xs,h0,h1,hbT,e1,B6,B7]
    exact fin _ (by omega)
 | false=>
  have hT:=h.num u.mode (u.tick+1) u.count u.left
  have fT:∀ j,j≠a→(H.put a (some ⟨7,[[.ptr p 0 0,.ptr q 0 0,x,.imm (.int .i64 u.mode),.imm (.int .i64 (u.tick+1)),.imm (.int .i64 u.count),.imm (.int .i64 u.left)]]⟩)).get j=H.get j:=fun j hj=>by simp[gP,hj]
  simp only[Bool.false_eq_true,if_false]
  obtain⟨v,hv⟩:∃ v:US,v=⟨u.rs,u.ep,u.en,u.gr,u.cp,u.mode,u.tick+1,u.count,u.left⟩:=⟨_,rfl⟩
  have vm:u.mode=v.mode:=by rw[hv]
  have vt:u.tick+1=v.tick:=by rw[hv]
  have vc:u.count=v.count:=by rw[hv]
  have vl:u.left=v.left:=by rw[hv]
  rw[← hv] at hT ⊢
  rw[vm,vt,vc,vl] at hT fT
  rw[vt] at w1
  rw[vm] at h0
  rw[vm,vc,vl] at hb
  obtain⟨HT,hHT⟩:∃ HT,HT=(H.put a (some ⟨7,[[.ptr p 0 0,.ptr q 0 0,x,.imm (.int .i64 v.mode),.imm (.int .i64 v.tick),.imm (.int .i64 v.count),.imm (.int .i64 v.left)]]⟩)):=⟨_,rfl⟩
  rw[← hHT] at hT
  have hbT:=hT.blk
  unfold rowU at hbT
  obtain⟨k1,e1,hk1⟩:=zSy hT (d:=d+2) (m:=n) (lo:=0)
  obtain⟨k2,e2,hk2⟩:=zJ9 hT.le v.tick (d:=d+2) (n:=k1) (lo:=0)
  obtain⟨v3,H3,n3,own3,e3,hn3,hu3,fz3⟩:=zKC (d:=d) hd ok is (hT.mono (n':=k2) (by omega) (fun _ _ h=>h) (fun _ _ _=>rfl)) (fun j hj=>hz j (by omega))
  have fz:∀ j,j<n→¬Z j→HT.get j=H.get j:=fun j _ hzj=>by
   rw[hHT]
   exact fT j (fun e=>hzj (e▸la.2))
  refine (fun (hq:Fe (K DG (d+3+1) 47 [.ptr a 0 0,.imm (.bool false)] H n 0) fun _ H' n'=>UR Z l H n a (zSh l v) H' n')=>by
   obtain⟨v',H',n',e,r⟩:=hq
   exact⟨v',H',n',e,r⟩) ?_
  rw[kX 47 D.f47 rfl]
  refine zHy rfl ?_
  unfold zSh
  by_cases h1:v.mode=1
  ·by_cases h3:3≤v.tick
   ·rw[if_pos ⟨h1,h3⟩]
    have i3:ILt v.tick 3=False:=zIz h3
    have hU:=hT.num 2 v.tick v.count v.left
    have fin:∀ n',n≤n'→UR Z l H n a ⟨v.rs,v.ep,v.en,v.gr,v.cp,2,v.tick,v.count,v.left⟩ (HT.put a (some ⟨7,[[.ptr p 0 0,.ptr q 0 0,x,.imm (.int .i64 2),.imm (.int .i64 v.tick),.imm (.int .i64 v.count),.imm (.int .i64 v.left)]]⟩)) n':=fun n' hn'=>⟨hn',⟨p,q,own,x,hU.mono hn' (fun _ _ h=>h) fun _ _ _=>rfl⟩,fun j hj hzj=>by
     have:¬j=a:=fun e=>hzj (e▸la.2)
     simp[gP,this] <;> exact fz j hj hzj⟩
    rw[h1] at hb hbT hHT
    simp[hb,xs,w1,vt,i3,← hHT,hbT,e1,B6,B7]
    exact fin _ (by omega)
   ·have i3:ILt v.tick 3=True:=zI3 (by omega)
    have nwk:¬Wk v:=by unfold Wk; omega
    rw[if_neg (fun h=>h3 h.2),if_neg (fun h=>nwk h.1)]
    rw[zFX nwk] at e1
    have fin:∀ n',n≤n'→UR Z l H n a v HT n':=fun n' hn'=>⟨hn',⟨p,q,own,x,hT.mono hn' (fun _ _ h=>h) fun _ _ _=>rfl⟩,fz⟩
    rw[h1] at hb hbT hHT
    simp[hb,xs,w1,vt,i3,← hHT,hbT,e1,B6,B7]
    exact fin _ (by omega)
  ·rw[if_neg (fun h=>h1 h.1)]
   by_cases wk:Wk v
   ·rw[zFd wk] at e1
    by_cases lv:v.gr=true∧v.tick<v.en
    ·rw[zFd lv] at e2
     rw[if_neg (fun h=>h.2 lv)]
     have fin:∀ n',n≤n'→UR Z l H n a v HT n':=fun n' hn'=>⟨hn',⟨p,q,own,x,hT.mono hn' (fun _ _ h=>h) fun _ _ _=>rfl⟩,fz⟩
     simp[hb,xs,w1,vt,h0,h1,← hHT,hbT,e1,e2,B6,B7]
     exact fin _ (by omega)
    ·rw[zFX lv] at e2
     rw[if_pos ⟨wk,lv⟩]
     simp[hb,xs,w1,vt,h0,h1,← hHT,hbT,e1,e2,e3,B6,B7]
     exact⟨by omega,⟨p,q,own3,_,hu3⟩,fun j hj hzj=>(fz3 j (by omega) hzj).trans (fz j hj hzj)⟩
   ·rw[zFX wk] at e1
    rw[if_neg (fun h=>wk h.1)]
    have fin:∀ n',n≤n'→UR Z l H n a v HT n':=fun n' hn'=>⟨hn',⟨p,q,own,x,hT.mono hn' (fun _ _ h=>h) fun _ _ _=>rfl⟩,fz⟩
    simp[hb,xs,w1,vt,h0,h1,← hHT,hbT,e1,B6,B7]
    exact fin _ (by omega)
theorem zBs(hd:10≤d)(ok:LoOk l) (is:ISL l) (h:UI Z l H n a u) (hz:∀ j,n≤j→Z j) :
  ∃ H' n',K DG (d+4) 97 [.ptr a 0 0] H n 0=some (.imm (.bool (decide (u.mode=3))),H',n')∧UR Z l H n a (if u.mode=3 then zKB l u else u) H' n':=by
 obtain⟨p,q,own,x,h⟩:=h
 have hb:=h.blk
 unfold rowU at hb
 by_cases h3:u.mode=3
 ·obtain⟨v3,H3,n3,own3,e3,hn3,hu3,fz3⟩:=zKC (d:=d) hd ok is h hz
  have key:Fe (K DG (d+3+1) 97 [.ptr a 0 0] H n 0) (fun v H' n'=>v=.imm (.bool true)∧H'=H3∧n'=n3):=by
   rw[kX 97 D.f97 rfl]
   refine zHy rfl ?_
   rw[h3] at hb
   simp[hb,e3,B6,B7]
  obtain⟨v,_,_,e,rfl,rfl,rfl⟩:=key
  refine⟨_,_,by simpa [h3] using e,?_⟩
  rw[if_pos h3]
  exact⟨hn3,⟨p,q,own3,_,hu3⟩,fz3⟩
 ·have key:Fe (K DG (d+3+1) 97 [.ptr a 0 0] H n 0) (fun v H' n'=>v=.imm (.bool false)∧H'=H∧n≤n'):=by
   rw[kX 97 D.f97 rfl]
   refine zHy rfl ?_
   simp[hb,h3,B6,B7]
  obtain⟨v,_,n',e,rfl,rfl,hn⟩:=key
  refine⟨_,n',by simpa [h3] using e,?_⟩
  rw[if_neg h3]
  exact⟨hn,⟨p,q,own,x,h.mono hn (fun _ _ h=>h) fun _ _ _=>rfl⟩,fun _ _ _=>rfl⟩
noncomputable def begF (l:Lo) (u:US) (e k:Int):US:=match u.cp with
 | some (e',c,qs)=>if u.mode=2∧e'=e - 1∧k≤c then ⟨qs,u.ep,u.en,u.gr,u.cp,3,u.tick,c,u.left⟩ else ⟨rep0 l,u.ep,u.en,u.gr,u.cp,4,u.tick,k,10⟩
 | none=>⟨rep0 l,u.ep,u.en,u.gr,u.cp,4,u.tick,k,10⟩
def CpOk (l:Lo) (u:US):Prop:=∀ e c qs,u.cp=some (e,c,qs)→INV l qs
theorem zDC(hd:10≤d)(ok:LoOk l) (is:ISL l) (h:UAt Z l H n a p q own x u) (hz:∀ j,n≤j→Z j) (co:CpOk l u) {k:Int}(he:0≤e∧e≤1099511627776) :
  ∃ v H' n' own',K DG (d+3) 139 [.ptr a 0 0,.imm (.int .i64 e),.imm (.int .i64 k)] H n 0=some (v,H',n')∧n≤n'∧UAt Z l H' n' a p q own' x (begF l u e k)∧∀ j,j<n→¬Z j→H'.get j=H.get j:=by
 have hb:=h.blk
 have xs:=h.xs.1
 have la:=h.lt a (by simp)
 have lp:=h.lt p (by simp)
 unfold rowU at hb
 have w1:IntKind.i64.wrap (e - 1)=e - 1:=zTW (by omega) (by omega)
 obtain⟨v3,H3,n3,own3,e3,hn3,hu3,fz3⟩:=zOx (d:=d) hd ok is h hz
 have hb3:=hu3.blk
 unfold rowU at hb3
 have hF:=hu3.num 4 u.tick k 10
 have fF:∀ j,j<n→¬Z j→(H3.put a (some ⟨7,[[.ptr p 0 0,.ptr q 0 0,x,.imm (.int .i64 4),.imm (.int .i64 u.tick),.imm (.int .i64 k),.imm (.int .i64 10)]]⟩)).get j=H.get j:=fun j hj hzj=>by
  have:¬j=a:=fun e=>hzj (e▸la.2)
  simp[gP,this]
  exact fz3 j (fun e=>hzj (e▸lp.2)) hj
 have up:∀ {H' n' own'}{w:US},Fe (K DG (d+2+1) 139 [.ptr a 0 0,.imm (.int .i64 e),.imm (.int .i64 k)] H n 0) (fun _ H2 n2=>n2=n'∧∀ j,H2.get j=H'.get j)→n≤n'→UAt Z l H' n' a p q own' x w→(∀ j,j<n→¬Z j→H'.get j=H.get j)→∃ v H' n' own',K DG (d+3) 139 [.ptr a 0 0,.imm (.int .i64 e),.imm (.int .i64 k)] H n 0=some (v,H',n')∧n≤n'∧UAt Z l H' n' a p q own' x w∧∀ j,j<n→¬Z j→H'.get j=H.get j:=by
  rintro H' n' own' w ⟨v,H2,n2,e,rfl,r⟩ hn hu hf
  exact⟨v,H2,n2,own',e,hn,hu.mono (Nat.le_refl _) (fun _ _ h=>h) (fun j _ _=>r j),fun j h1 h2=>by rw[r j]; exact hf j h1 h2⟩
 have frc:begF l u e k=⟨rep0 l,u.ep,u.en,u.gr,u.cp,4,u.tick,k,10⟩→Fe (K DG (d+2+1) 139 [.ptr a 0 0,.imm (.int .i64 e),.imm (.int .i64 k)] H n 0) (fun _ H2 n2=>n2=n3∧∀ j,H2.get j=(H3.put a (some ⟨7,[[.ptr p 0 0,.ptr q 0 0,x,.imm (.int .i64 4),.imm (.int .i64 u.tick),.imm (.int .i64 k),.imm (.int .i64 10)]]⟩)).get j)→∃ v H' n' own',K DG (d+3) 139 [.ptr a 0 0,.imm (.int .i64 e),.imm (.int .i64 k)] H n 0=some (v,H',n')∧n≤n'∧UAt Z l H' n' a p q own' x (begF l u e k)∧∀ j,j<n→¬Z j→H'.get j=H.get j:=fun h1 h2=>by
  rw[h1]
  exact up h2 hn3 hF fF
 rw[kX 139 D.f139 rfl] at frc up
 by_cases h2:u.mode=2
 ·cases hc:u.cp with
  | none=>
   have hx:x=.imm .nilp:=by have:=h.cp; rw[hc] at this; exact this
   refine frc (by unfold begF; rw[hc]) ?_
   refine zHy rfl ?_
   rw[h2] at hb
   rw[hx] at hb hb3 ⊢
   simp[hb,e3,hb3,gP,B6,B7]
   intro j
   by_cases hj:j=a <;> simp[hj]
  | some c=>
   obtain⟨e',c,qs⟩:=c
   have hx:=h.cp
   rw[hc] at hx
   obtain⟨m,w,rfl,⟨m1,m2,m3⟩,hm,hw⟩:=hx
   have iq:=co e' c qs hc
   have hql:=iq.ln
   have r6:=is.r2
   obtain⟨H4,n4,own4,e4,hn4,hu4,fz4,_⟩:=UAt.set (d:=d+1) (by omega) ok is h hz hw (by have:=rb3; omega) (Nat.le_refl _)
   rw[zFd iq] at e4 hu4
   have hb4:=hu4.blk
   unfold rowU at hb4
   have ws:=hw.scal
   have hma:¬m=a:=fun e=>m1 (by simp[e])
   have hm4:H4.get m=H.get m:=fz4 m (fun e=>m1 (by simp[e])) m2
   rw[hm] at hm4
   have iv1:¬c<k→ILt c k=False:=fun h=>zIz (by omega)
   by_cases h5:e'=e - 1
   ·by_cases h6:k≤c
    ·have i0:ILt c k=False:=zIz h6
     have hG:=hu4.num 3 u.tick c u.left
     have e9:begF l u e k=⟨qs,u.ep,u.en,u.gr,u.cp,3,u.tick,c,u.left⟩:=by unfold begF; rw[hc]; exact if_pos ⟨h2,h5,h6⟩
     have fG:∀ j,j<n→¬Z j→(H4.put a (some ⟨7,[[.ptr p 0 0,.ptr q 0 0,.ptr m 0 0,.imm (.int .i64 3),.imm (.int .i64 u.tick),.imm (.int .i64 c),.imm (.int .i64 u.left)]]⟩)).get j=H.get j:=fun j hj hzj=>by
      have:¬j=a:=fun e=>hzj (e▸la.2)
      simp[gP,this]
      exact fz4 j (fun e=>hzj (e▸lp.2)) hj
     have fin:=up (H':=H4.put a (some ⟨7,[[.ptr p 0 0,.ptr q 0 0,.ptr m 0 0,.imm (.int .i64 3),.imm (.int .i64 u.tick),.imm (.int .i64 c),.imm (.int .i64 u.left)]]⟩)) (n':=n4) (own':=own4) (w:=begF l u e k)
     rw[e9] at fin ⊢
     refine fin ?_ hn4 hG fG
     refine zHy rfl ?_
     rw[h2] at hb hb4
     simp[hb,hm,hm4,hma,w1,h5,i0,ws,e4,hb4,gP,B6,B7]
     intro j
     by_cases hj:j=a <;> simp[hj]
    ·have i0:ILt c k=True:=zI3 (by omega)
     refine frc (by unfold begF; rw[hc]; exact if_neg (fun h=>h6 h.2.2)) ?_
     refine zHy rfl ?_
     rw[h2] at hb hb3
     simp[hb,hm,hma,w1,h5,i0,ws,e3,hb3,gP,B6,B7]
     intro j
     by_cases hj:j=a <;> simp[hj]
   ·refine frc (by unfold begF; rw[hc]; exact if_neg (fun h=>h5 h.2.1)) ?_
    refine zHy rfl ?_
    rw[h2] at hb hb3
    simp[hb,hm,hma,w1,h5,ws,e3,hb3,gP,B6,B7]
    intro j
    by_cases hj:j=a <;> simp[hj]
 ·refine frc (by unfold begF; split <;> simp[h2]) ?_
  refine zHy rfl ?_
  simp[hb,xs,h2,e3,hb3,gP,B6,B7]
  intro j
  by_cases hj:j=a <;> simp[hj]
def granted (u:US) (e:Int):US:=⟨u.rs,e,u.tick+5,true,u.cp,u.mode,u.tick,u.count,u.left⟩
def noCp (w:US):US:=⟨w.rs,w.ep,w.en,w.gr,none,w.mode,w.tick,w.count,w.left⟩
open Classical in
noncomputable def zIV (l:Lo) (u:US) (e k:Int):US:=
 if Wk u∧u.ep=e then granted u e
 else if Wk u∨u.mode=2 then noCp (begF l (granted u e) e k)
 else u
theorem zIW(h:UAt Z l H n a p q own x u) (t0:0≤u.tick) (t1:u.tick≤1000000) (e:Int)(hm:n≤m) :
  ∃ v H',K DG (d+1) 138 [.ptr q 0 0,.imm (.int .i64 e),.imm (.int .i64 u.tick)] H m 0=some (v,H',m)∧UAt Z l H' m a p q own x (granted u e)∧∀ j,j<n→¬Z j→H'.get j=H.get j:=by
 obtain⟨v,H',e1,g,f⟩:=zJ8 (d:=d) (n:=m) h.le e u.tick t0 t1
 exact⟨v,H',e1,h.updq hm g (fun j hj _=>f j hj),fun j _ hz=>f j (fun e=>hz (e▸(h.lt q (by simp)).2))⟩
theorem zAj(hd:10≤d)(ok:LoOk l) (is:ISL l) (h:UI Z l H n a u) (hz:∀ j,n≤j→Z j) (co:CpOk l u) {k:Int}(he:0≤e∧e≤1099511627776) (t0:0≤u.tick) (t1:u.tick≤1000000) :
  ∃ v H' n',K DG (d+4) 101 [.ptr a 0 0,.imm (.int .i64 e),.imm (.int .i64 k)] H n 0=some (v,H',n')∧UR Z l H n a (zIV l u e k) H' n':=by
 obtain⟨p,q,own,x,h⟩:=h
 have hb:=h.blk
 have xs:=h.xs.1
 have la:=h.lt a (by simp)
 simp only[rowU] at hb
 refine (fun (hq:Fe (K DG (d+3+1) 101 [.ptr a 0 0,.imm (.int .i64 e),.imm (.int .i64 k)] H n 0) fun _ H' n'=>UR Z l H n a (zIV l u e k) H' n')=>by
  obtain⟨v',H',n',e,r⟩:=hq
  exact⟨v',H',n',e,r⟩) ?_
 have both:∀ m,n≤m→∃ v1 H1,K DG (d+3) 138 [.ptr q 0 0,.imm (.int .i64 e),.imm (.int .i64 u.tick)] H m 0=some (v1,H1,m)∧∃ v2 H2 n2,K DG (d+3) 139 [.ptr a 0 0,.imm (.int .i64 e),.imm (.int .i64 k)] H1 m 0=some (v2,H2,n2)∧
   ∃ x2 own2,H2.get a=some (rowU p q x2 (begF l (granted u e) e k).mode (begF l (granted u e) e k).tick (begF l (granted u e) e k).count (begF l (granted u e) e k).left)∧x2.scal=true∧
   UR Z l H n a (noCp (begF l (granted u e) e k)) (H2.put a (some (rowU p q (.imm .nilp) (begF l (granted u e) e k).mode (begF l (granted u e) e k).tick (begF l (granted u e) e k).count (begF l (granted u e) e k).left))) n2:=fun m hm=>by
  obtain⟨v1,H1,e1,h1,f1⟩:=zIW (d:=d+2) h t0 t1 e hm
  obtain⟨v2,H2,n2,own2,e2,hn2,h2,f2⟩:=zDC (d:=d) hd ok is h1 (fun j hj=>hz j (by omega)) co he (k:=k)
  refine⟨v1,H1,e1,v2,H2,n2,e2,x,own2,h2.blk,xs,by omega,⟨p,q,own2,.imm .nilp,?_⟩,fun j hj hzj=>?_⟩
  ·generalize begF l (granted u e) e k=w at *
   have:=h2.upd (Nat.le_refl _) (H':=H2.put a (some (rowU p q (.imm .nilp) w.mode w.tick w.count w.left))) (c:=none) (x':=.imm .nilp) (m:=w.mode) (t:=w.tick) (k:=w.count) (z:=w.left) (by simp[gP]) rfl (fun j hj _=>by simp[gP,hj])
   exact this
  ·have:¬j=a:=fun e=>hzj (e▸la.2)
   simp[gP,this]
   rw[f2 j (by omega) hzj,f1 j hj hzj]
 rw[kX 101 D.f101 rfl]
 refine zHy rfl ?_
 unfold zIV
 obtain⟨k1,e1,hk1⟩:=zSy h (d:=d+2) (m:=n) (lo:=0)
 by_cases wk:Wk u
 ·rw[zFd wk] at e1
  obtain⟨k2,e2,hk2⟩:=zJ7 h.le (d:=d+2) (n:=k1) (lo:=0)
  by_cases hp:u.ep=e
  ·rw[if_pos ⟨wk,hp⟩]
   obtain⟨v3,H3,e3,h3,f3⟩:=zIW (d:=d+2) h t0 t1 e (m:=k2) (by omega)
   simp[hb,xs,e1,e2,hp,e3,B6,B7]
   exact⟨by omega,⟨p,q,own,x,h3⟩,f3⟩
  ·rw[if_neg (fun h=>hp h.2),if_pos (.inl wk)]
   obtain⟨k3,e3,hk3⟩:=zSy h (d:=d+2) (m:=k2) (lo:=0)
   rw[zFd wk] at e3
   obtain⟨v4,H4,e4,v5,H5,n5,e5,x5,own5,b5,s5,fin⟩:=both k3 (by omega)
   generalize begF l (granted u e) e k=w at *
   simp only[rowU] at b5 fin
   simp[hb,xs,e1,e2,hp,e3,e4,e5,b5,s5,B6,B7]
   exact fin
 ·rw[zFX wk] at e1
  rw[if_neg (fun h=>wk h.1)]
  obtain⟨k3,e3,hk3⟩:=zSy h (d:=d+2) (m:=k1) (lo:=0)
  rw[zFX wk] at e3
  by_cases h2:u.mode=2
  ·rw[if_pos (.inr h2)]
   obtain⟨v4,H4,e4,v5,H5,n5,e5,x5,own5,b5,s5,fin⟩:=both k3 (by omega)
   generalize begF l (granted u e) e k=w at *
   simp only[rowU] at b5 fin
   simp[hb,xs,e1,e3,h2,e4,e5,b5,s5,B6,B7]
   exact fin
  ·rw[if_neg (by simp[wk,h2])]
   simp[hb,xs,e1,e3,h2,B6,B7]
   exact⟨by omega,⟨p,q,own,x,h.mono (by omega) (fun _ _ h=>h) fun _ _ _=>rfl⟩,fun _ _ _=>rfl⟩
def OldP (u:US) (e c:Int):Prop:=∃ e' c' qs,u.cp=some (e',c',qs)∧(e<e'∨(e=e'∧c≤c'))
theorem zJU(h:UAt Z l H n a p q own x u) (e c:Int){w:IV}(hw:(DV.imm w).scal=true)(hm:n≤m) :
  ∃ k,zDz (K DG (d+1)) .ro 93 [.ptr a 0 0,.agg [.imm (.int .i64 e),.imm (.int .i64 c),.imm w]] H m lo=some ⟨.imm (.bool (dec (OldP u e c))),H,k,[.rA]⟩∧m≤k:=by
 have hb:=h.blk
 simp only[rowU] at hb
 refine zO8 rfl ?_
 rw[kX 93 D.f93 rfl]
 refine zHy rfl ?_
 have hx:=h.cp
 cases hc:u.cp with
 | none=>
  rw[hc] at hx
  rw[show x=.imm .nilp from hx] at hb
  have e1:dec (OldP u e c)=false:=zFX (fun ⟨_,_,_,h,_⟩=>by rw[hc] at h; cases h)
  rw[e1]
  simp[hb,hw,B6,B7]
 | some y=>
  obtain⟨e',c',qs⟩:=y
  rw[hc] at hx
  obtain⟨k,w',rfl,⟨m1,m2,m3⟩,hk,hw'⟩:=hx
  by_cases h1:e<e'
  ·have e1:dec (OldP u e c)=true:=zFd ⟨e',c',qs,hc,.inl h1⟩
   rw[e1]
   simp[hb,hw,hk,zI3 h1,B6,B7]
  ·by_cases h2:e=e'
   ·by_cases h3:c≤c'
    ·have e1:dec (OldP u e c)=true:=zFd ⟨e',c',qs,hc,.inr ⟨h2,h3⟩⟩
     rw[e1]
     subst h2
     simp[hb,hw,hk,zIz (Int.not_lt.1 h1),zIz h3,B6,B7]
    ·have e1:dec (OldP u e c)=false:=zFX (fun ⟨_,_,_,h,h'⟩=>by rw[hc] at h; cases h; omega)
     rw[e1]
     subst h2
     simp[hb,hw,hk,zIz (Int.not_lt.1 h1),zI3 (show c'<c by omega),B6,B7]
   ·have e1:dec (OldP u e c)=false:=zFX (fun ⟨_,_,_,h,h'⟩=>by rw[hc] at h; cases h; omega)
    rw[e1]
    simp[hb,hw,hk,zIz (Int.not_lt.1 h1),h2,B6,B7]
inductive Th where
 | int (z:Int)
 | text (s:List UInt8)
 | bool (b:Bool)
def thI:Th→IV
 | .int z=>.iface 3 (.int .i64 z)
 | .text s=>.iface 9 (.str s)
 | .bool b=>.iface 4 (.bool b)
def rowT (t:Th):List DV:=[.imm (thI t)]
def CrAt (H:PT HB) (w n a:Nat) (ts:List Th):Prop:=(w≤a∧a<n)∧((H.get a=some ⟨1,[[.imm .nils]]⟩∧ts=[])∨
 ∃ b,(w≤b∧b<n)∧b≠a∧H.get a=some ⟨1,[[.sl b 0 ts.length ts.length]]⟩∧H.get b=some ⟨1,ts.map rowT⟩)
theorem zSX (t:Th):(DV.imm (thI t)).scal=true:=by cases t <;> rfl
theorem zAX:Fe (K (zFj 0 1) (d+1) 125 [] H n lo) (fun v H' n'=>v=.ptr n 0 0∧n'=n+1∧CrAt H' n n' n []∧∀ j,j<n→H'.get j=H.get j):=by
 rw[kX 125 D.f125 rfl]
 refine zHy rfl ?_
 simp +contextual [CrAt,zHG,lay,zS4,zS2,mapO,B6,B7]
 intro j h e
 omega
variable {w:Nat}
theorem zAM{ts:List Th}(hlo:lo≤w) (h:CrAt H w n a ts) (hl:ts.length≤100) (t:Th) :
  Fe (K (zFj 0 1) (d+1) 174 [.ptr a 0 0,.imm (thI t)] H n lo) (fun v H' n'=>v=.imm (.bool (decide (ts.length<100)))∧n≤n'∧CrAt H' w n' a (if ts.length<100 then ts++[t] else ts)∧∀ j,j<w→H'.get j=H.get j):=by
 obtain⟨⟨hwa,ha⟩,h⟩:=h
 have hs:=zSX t
 rw[kX 174 D.f174 rfl]
 refine zHy rfl ?_
 rcases h with⟨h1,rfl⟩ | ⟨b,⟨hwb,hb⟩,hba,h1,h2⟩
 ·have a2:16≤zCJ:=by unfold zCJ; omega
  have a0:1≤zCJ:=by unfold zCJ; omega
  have i0:ILt 0 100=True:=zI3 (by omega)
  have e1:¬a=n:=by omega
  have l1:lo≤a:=by omega
  have l3:lo≤n:=by omega
  have e2:¬n=a:=by omega
  simp +contextual [CrAt,h1,hs,l1,l3,e1,e2,ha,i0,zHH,lay,zS4,zS2,mapO,zPT,zCK,zRS,zPV,zOS,a0,a2,rowT,B6,B7]
  exact⟨⟨by omega,n,by omega,e2,rfl,by simp[e2]⟩,fun j hj=>by
   have h3:¬j=n:=by omega
   have h4:¬j=a:=by omega
   simp[h3,h4]⟩
 ·have hab:¬a=b:=fun e=>hba e.symm
  have a1:¬ts.length+1≤ts.length:=by omega
  have a2:ts.length+1≤zCJ:=by unfold zCJ; omega
  have a3:(ts.length+1)*16≤zCJ:=by unfold zCJ; omega
  have e1:¬a=n:=by omega
  have l1:lo≤a:=by omega
  have l3:lo≤n:=by omega
  have e2:¬n=a:=by omega
  have e3:¬b=n:=by omega
  have l2:lo≤b:=by omega
  have e4:¬n=b:=by omega
  by_cases hlt:ts.length<100
  ·have i0:ILt (ts.length:Int) 100=True:=zI3 (by omega)
   simp +contextual [CrAt,h1,h2,hs,l1,l2,l3,hba,hab,e1,e2,e3,e4,ha,hlt,i0,zHH,lay,zS4,zS2,mapO,zPT,zCK,zRS,zPV,zOS,a1,a2,a3,rowT,B6,B7]
   exact⟨⟨by omega,n,by omega,e2,rfl,by simp[e2]⟩,fun j hj=>by
    have h3:¬j=n:=by omega
    have h4:¬j=b:=by omega
    have h5:¬j=a:=by omega
    simp[h3,h4,h5]⟩
  ·have i0:ILt (ts.length:Int) 100=False:=zIz (by omega)
   simp +contextual [CrAt,h1,h2,hs,l1,l2,l3,hba,hab,e1,e2,e3,e4,ha,hlt,i0,B6,B7]
   exact⟨hwa,b,⟨hwb,hb⟩,hba,rfl,h2⟩
theorem zO7 {K:Go.PM.Callee}{v:DV}(ho:DV.out.outs args=true) (h:Fe (K f args H n n) (fun v' H' n'=>n≤n'∧frz H'.get n v'=some v)) :
  ∃ m,zDz K .ro f args H n lo=some ⟨v,H,m,[.rA]⟩∧n≤m:=by
 obtain⟨v',H',n',e,h1,h2⟩:=h
 exact⟨n',by rw[zD3,if_pos ho,e]; simp only[h2]; rfl,h1⟩
def crX (H:PT HB) (a:Nat):DV:=match H.get a with
 | some ⟨_,[[x]]⟩=>x
 | _=>.imm .nils
theorem zAR{ts:List Th}(h:CrAt H w n a ts) (lo:Nat) :
  ∃ m,zDz (K (zFj 0 1) (d+1)) .ro 156 [.ptr a 0 0] H n lo=some ⟨crX H a,H,m,[.rA]⟩∧n≤m:=by
 obtain⟨⟨hwa,ha⟩,h⟩:=h
 refine zO7 rfl ?_
 rw[kX 156 D.f156 rfl]
 refine zHy rfl ?_
 rcases h with⟨h1,rfl⟩ | ⟨b,⟨hwb,hb⟩,hba,h1,h2⟩
 ·simp[h1,crX,B6,B7]
 ·simp[h1,crX,hb,B6,B7]
def atI (ts:List Th) (i:Int):IV:=if 0≤i∧i<ts.length then thI (ts.getD i.toNat (.int 0)) else .nili
theorem zAS{ts:List Th}(h:CrAt H w n a ts) (i:Int) (lo:Nat) :
  ∃ m,zDz (K (zFj 0 1) (d+2)) .ro 157 [.ptr a 0 0,.imm (.int .i64 i)] H n lo=some ⟨.imm (atI ts i),H,m,[.rA]⟩∧n≤m:=by
 obtain⟨m,e,hm⟩:=zAR (d:=d) h n
 obtain⟨⟨hwa,ha⟩,h⟩:=h
 refine zO7 rfl ?_
 rw[kX 157 D.f157 rfl]
 refine zHy rfl ?_
 rcases h with⟨h1,rfl⟩ | ⟨b,⟨hwb,hb⟩,hba,h1,h2⟩
 ·simp[h1,crX] at e
  by_cases h0:(0:Int)≤i
  ·have q0:ILt i 0=False:=zIz h0
   have q2:¬i<0:=by omega
   simp[e,h0,q0,q2,hm,atI,B6,B7]
  ·have q0:ILt i 0=True:=zI3 (by omega)
   simp[e,h0,q0,hm,atI,B6,B7]
 ·simp[h1,crX] at e
  by_cases h0:(0:Int)≤i
  ·have q0:ILt i 0=False:=zIz h0
   by_cases h3:i<ts.length
   ·have q1:ILt i ts.length=True:=zI3 h3
    obtain⟨k,rfl⟩:∃ k:Nat,i=k:=⟨i.toNat,by omega⟩
    have h4:k<ts.length:=by omega
    have e5:=zIs (h:=H.get) (n:=m) (row:=0) (cap:=ts.length) (k:=.i64) h2 rfl h0 h3
    have e6:¬(k:Int)<0:=by omega
    simp[e,h0,h3,h4,e6,q0,q1,e5,h2,hm,atI,rowT,B6,B7]
   ·have q1:ILt i ts.length=False:=zIz (by omega)
    simp[e,h0,h3,q0,q1,hm,atI,B6,B7]
  ·have q0:ILt i 0=True:=zI3 (by omega)
   simp[e,h0,q0,hm,atI,B6,B7]
theorem zAW{ts:List Th}(h:CrAt H w n a ts) (lo:Nat) :
  ∃ m,zDz (K (zFj 0 1) (d+2)) .ro 130 [.ptr a 0 0] H n lo=some ⟨.imm (.int .i64 ts.length),H,m,[.rA]⟩∧n≤m:=by
 obtain⟨m,e,hm⟩:=zAR (d:=d) h n
 obtain⟨⟨hwa,ha⟩,h⟩:=h
 refine zO7 rfl ?_
 rw[kX 130 D.f130 rfl]
 refine zHy rfl ?_
 rcases h with⟨h1,rfl⟩ | ⟨b,⟨hwb,hb⟩,hba,h1,h2⟩
 ·simp[h1,crX] at e
  simp[e,hm,B6,B7]
 ·simp[h1,crX] at e
  simp[e,hm,B6,B7]
def intOf:IV→Option Int
 | .iface 3 (.int .i64 z)=>some z
 | _=>none
def zSV:IV→Option (List UInt8)
 | .iface 9 (.str z)=>some z
 | _=>none
def zDm:IV→Option Bool
 | .iface 4 (.bool z)=>some z
 | _=>none
theorem zAV{ts:List Th}(h:CrAt H w n a ts) (i:Int) (lo:Nat) :
  ∃ m,zDz (K (zFj 0 1) (d+3)) .ro 131 [.ptr a 0 0,.imm (.int .i64 i)] H n lo=some ⟨.tup [.imm (.int .i64 ((intOf (atI ts i)).getD 0)),.imm (.bool (intOf (atI ts i)).isSome)],H,m,[.rA]⟩∧n≤m:=by
 obtain⟨m,e,hm⟩:=zAS (d:=d) h i n
 refine zO7 rfl ?_
 rw[kX 131 D.f131 rfl]
 refine zHy rfl ?_
 rcases hv:(if 0≤i∧i<ts.length then some (ts.getD i.toNat (.int 0)) else none) with _ | ⟨_ | _ | _⟩
 all_goals
  have hq:atI ts i=(match (if 0≤i∧i<ts.length then some (ts.getD i.toNat (.int 0)) else none) with | some t=>thI t | none=>.nili):=by
   unfold atI
   split <;> rfl
  rw[hv] at hq
  simp only[hq] at e ⊢
  simp[e,hm,thI,intOf,B6,B7]
theorem zAa{ts:List Th}(h:CrAt H w n a ts) (i:Int) (lo:Nat) :
  ∃ m,zDz (K (zFj 0 1) (d+3)) .ro 132 [.ptr a 0 0,.imm (.int .i64 i)] H n lo=some ⟨.tup [.imm (.str ((zSV (atI ts i)).getD [])),.imm (.bool (zSV (atI ts i)).isSome)],H,m,[.rA]⟩∧n≤m:=by
 obtain⟨m,e,hm⟩:=zAS (d:=d) h i n
 refine zO7 rfl ?_
 rw[kX 132 D.f132 rfl]
 refine zHy rfl ?_
 rcases hv:(if 0≤i∧i<ts.length then some (ts.getD i.toNat (.int 0)) else none) with _ | ⟨_ | _ | _⟩
 all_goals
  have hq:atI ts i=(match (if 0≤i∧i<ts.length then some (ts.getD i.toNat (.int 0)) else none) with | some t=>thI t | none=>.nili):=by
   unfold atI
   split <;> rfl
  rw[hv] at hq
  simp only[hq] at e ⊢
  simp[e,hm,thI,zSV,B6,B7]
theorem zAT{ts:List Th}(h:CrAt H w n a ts) (i:Int) (lo:Nat) :
  ∃ m,zDz (K (zFj 0 1) (d+3)) .ro 175 [.ptr a 0 0,.imm (.int .i64 i)] H n lo=some ⟨.tup [.imm (.bool ((zDm (atI ts i)).getD false)),.imm (.bool (zDm (atI ts i)).isSome)],H,m,[.rA]⟩∧n≤m:=by
 obtain⟨m,e,hm⟩:=zAS (d:=d) h i n
 refine zO7 rfl ?_
 rw[kX 175 D.f175 rfl]
 refine zHy rfl ?_
 rcases hv:(if 0≤i∧i<ts.length then some (ts.getD i.toNat (.int 0)) else none) with _ | ⟨_ | _ | _⟩
 all_goals
  have hq:atI ts i=(match (if 0≤i∧i<ts.length then some (ts.getD i.toNat (.int 0)) else none) with | some t=>thI t | none=>.nili):=by
   unfold atI
   split <;> rfl
  rw[hv] at hq
  simp only[hq] at e ⊢
  simp[e,hm,thI,zDm,B6,B7]
theorem zAO{ts:List Th}(hlo:lo≤w) (h:CrAt H w n a ts) (hl:ts.length≤100) (z:Int) :
  Fe (K (zFj 0 1) (d+2) 150 [.ptr a 0 0,.imm (.int .i64 z)] H n lo) (fun v H' n'=>v=.imm (.bool (decide (ts.length<100)))∧n≤n'∧CrAt H' w n' a (if ts.length<100 then ts++[.int z] else ts)∧∀ j,j<w→H'.get j=H.get j):=by
 obtain⟨v,H',n',e,rfl,r⟩:=zAM (d:=d) (lo:=lo) hlo h hl (.int z)
 simp only[thI] at e
 rw[kX 150 D.f150 rfl]
 refine zHy rfl ?_
 simp[e,B6,B7]
 exact r
theorem zAP{ts:List Th}(hlo:lo≤w) (h:CrAt H w n a ts) (hl:ts.length≤100) (z:List UInt8) :
  Fe (K (zFj 0 1) (d+2) 151 [.ptr a 0 0,.imm (.str z)] H n lo) (fun v H' n'=>v=.imm (.bool (decide (ts.length<100)))∧n≤n'∧CrAt H' w n' a (if ts.length<100 then ts++[.text z] else ts)∧∀ j,j<w→H'.get j=H.get j):=by
 obtain⟨v,H',n',e,rfl,r⟩:=zAM (d:=d) (lo:=lo) hlo h hl (.text z)
 simp only[thI] at e
 rw[kX 151 D.f151 rfl]
 refine zHy rfl ?_
 simp[e,B6,B7]
 exact r
theorem zAN{ts:List Th}(hlo:lo≤w) (h:CrAt H w n a ts) (hl:ts.length≤100) (z:Bool) :
  Fe (K (zFj 0 1) (d+2) 152 [.ptr a 0 0,.imm (.bool z)] H n lo) (fun v H' n'=>v=.imm (.bool (decide (ts.length<100)))∧n≤n'∧CrAt H' w n' a (if ts.length<100 then ts++[.bool z] else ts)∧∀ j,j<w→H'.get j=H.get j):=by
 obtain⟨v,H',n',e,rfl,r⟩:=zAM (d:=d) (lo:=lo) hlo h hl (.bool z)
 simp only[thI] at e
 rw[kX 152 D.f152 rfl]
 refine zHy rfl ?_
 simp[e,B6,B7]
 exact r
def ivY (b:UInt8):List IV:=[.int .u8 (b.toNat:Int)]
def rowY (b:UInt8):List DV:=[.imm (.int .u8 (b.toNat:Int))]
theorem zI6 (b:UInt8):imms (ivY b)=rowY b:=rfl
def Yw (H:PT HB) (w n:Nat) (x:DV) (bs:List UInt8):Prop:=(x=.imm .nils∧bs=[])∨(x=.imm (.lst true 1 (bs.map ivY)))∨
 ∃ id,(w≤id∧id<n)∧x=.sl id 0 bs.length bs.length∧H.get id=some ⟨1,bs.map rowY⟩
variable {bs:List UInt8}
theorem Yw.sc(h:Yw H w n x bs):x.scal=true:=by
 rcases h with⟨rfl,_⟩ | rfl | ⟨id,_,rfl,_⟩ <;> rfl
theorem Yw.len(h:Yw H w n x bs):lenOf x=some bs.length:=by
 rcases h with⟨rfl,rfl⟩ | rfl | ⟨id,_,rfl,_⟩ <;> simp[lenOf]
theorem Yw.out(h:Yw H w n x bs):x.out=true:=by
 rcases h with⟨rfl,_⟩ | rfl | ⟨id,_,rfl,_⟩ <;> rfl
theorem Yw.up(h:Yw H w n x bs) (hm:n≤m):Yw H w m x bs:=by
 rcases h with h | h | ⟨id,⟨h1,h2⟩,h3⟩
 ·exact .inl h
 ·exact .inr (.inl h)
 ·exact .inr (.inr ⟨id,⟨h1,by omega⟩,h3⟩)
theorem zCd {y:DV} {cs:List UInt8}(hlo:lo≤w) (hwn:w≤n) (h:Yw H w n x bs){src:Option Nat}(hs:zRS H.get y=some (src,1,cs.map rowY)) (hne:∀ id a b,x=.sl id 0 a b→src≠some id) (hb:bs.length+cs.length≤1000000) :
  ∃ x' hw n' acc,zCK H.get n lo 1 1 x y=some { v:=x',hw:=hw,n':=n',acc:=acc }∧n≤n'∧Yw (putH H hw) w n' x' (bs++cs)∧(∀ j,j<w→(putH H hw).get j=H.get j)∧(∀ j,j<n→(∀ a b,x≠.sl j 0 a b)→(putH H hw).get j=H.get j)∧(∀ id a b,x'=.sl id 0 a b→(x=.sl id 0 a b∧cs=[])∨n≤id)∧(cs≠[]→∃ id a b,x'=.sl id 0 a b):=by
 have am:1000000≤zCJ:=by unfold zCJ; omega
 by_cases hc:cs=[]
 ·subst hc
  rcases h with⟨rfl,rfl⟩ | rfl | ⟨id,⟨h1,h2⟩,rfl,h3⟩
  ·exact⟨.imm .nils,[],n,zOS src,by simp[zCK,hs],Nat.le_refl _,.inl ⟨rfl,rfl⟩,fun _ _=>rfl,fun _ _ _=>rfl,fun id a b e=>(nomatch e),fun h=>absurd rfl h⟩
  ·exact⟨.imm (.lst true 1 (bs.map ivY)),[],n,zOS src,by simp[zCK,hs],Nat.le_refl _,.inr (.inl (by simp)),fun _ _=>rfl,fun _ _ _=>rfl,fun id a b e=>(by cases e),fun h=>absurd rfl h⟩
  ·exact⟨.sl id 0 bs.length bs.length,[],n,zOS src,by simp[zCK,hs],Nat.le_refl _,.inr (.inr ⟨id,⟨h1,h2⟩,by simp,by simpa [putH] using h3⟩),fun _ _=>rfl,fun _ _ _=>rfl,fun id' a b e=>.inl ⟨e,rfl⟩,fun h=>absurd rfl h⟩
 ·have hcl:0<cs.length:=List.length_pos_iff.2 hc
  have hc0:¬cs.map rowY=[]:=by simpa using hc
  rcases h with⟨rfl,rfl⟩ | rfl | ⟨id,⟨h1,h2⟩,rfl,h3⟩
  ·simp only[List.length_nil,Nat.zero_add] at hb
   have a1:cs.length≤zCJ:=by omega
   refine⟨.sl n 0 cs.length cs.length,[(n,some ⟨1,cs.map rowY⟩)],n+1,.wX n::zOS src,by simp[zCK,hs,hc,a1],by omega,.inr (.inr ⟨n,⟨hwn,by omega⟩,by simp,by simp[putH,gP]⟩),fun j hj=>?_,fun j hj _=>?_,fun id a b e=>?_,fun _=>⟨_,_,_,rfl⟩⟩
   ·have:¬j=n:=by omega
    simp[putH,gP,this]
   ·have:¬j=n:=by omega
    simp[putH,gP,this]
   ·cases e; exact .inr (Nat.le_refl _)
  ·have a1:bs.length+cs.length≤zCJ:=by omega
   refine⟨.sl n 0 (bs.length+cs.length) (bs.length+cs.length),[(n,some ⟨1,(bs++cs).map rowY⟩)],n+1,.wX n::zOS src,by simp[zCK,hs,hc,a1,Function.comp_def,zI6],by omega,.inr (.inr ⟨n,⟨hwn,by omega⟩,by simp,by simp[putH,gP]⟩),fun j hj=>?_,fun j hj _=>?_,fun id a b e=>?_,fun _=>⟨_,_,_,rfl⟩⟩
   ·have:¬j=n:=by omega
    simp[putH,gP,this]
   ·have:¬j=n:=by omega
    simp[putH,gP,this]
   ·cases e; exact .inr (Nat.le_refl _)
  ·have a1:bs.length+cs.length≤zCJ:=by omega
   have a2:¬bs.length+cs.length≤bs.length:=by omega
   have a3:lo≤id:=by omega
   have a4:¬src=some id:=hne id _ _ rfl
   refine⟨.sl n 0 (bs.length+cs.length) (bs.length+cs.length),[(id,none),(n,some ⟨1,(bs++cs).map rowY⟩)],n+1,.wX id::.wX n::zOS src,by simp[zCK,hs,hc,a1,a2,a3,a4,h3],by omega,.inr (.inr ⟨n,⟨hwn,by omega⟩,by simp,by simp[putH,gP]⟩),fun j hj=>?_,fun j hj hx=>?_,fun id a b e=>?_,fun _=>⟨_,_,_,rfl⟩⟩
   ·have e1:¬j=n:=by omega
    have e2:¬j=id:=by omega
    simp[putH,gP,e1,e2]
   ·have e1:¬j=n:=by omega
    have e2:¬j=id:=fun e=>hx _ _ (by rw[e])
    simp[putH,gP,e1,e2]
   ·cases e; exact .inr (Nat.le_refl _)
def numY (m:Nat):Nat→List UInt8
 | 0=>[]
 | k+1=>UInt8.ofNat (m / 256 ^ k)::numY m k
theorem zMq (m:Nat):∀ k,(numY m k).length=k
 | 0=>rfl
 | k+1=>by rw[numY,List.length_cons,zMq m k]
theorem zMp (m:Nat):∀ k,numL m k=(numY m k).map rowY
 | 0=>rfl
 | k+1=>by
  rw[zMo,zMp m k,numY,List.map_cons,rowY,UInt8.toNat_ofNat']
theorem zMw(hlo:lo≤w) (hwn:w≤n) (h:Yw H w n x bs) (hx:∀ es,x≠.imm (.lst true 1 es))(hm:m<2 ^ 64) (hk:1≤k) (hk8:k≤8) (hb:bs.length≤100000) :
  ∃ x' H' n',K (zFj 0 1) (d+1) 154 [x,.imm (.int .u64 (m:Int)),.imm (.int .i64 (k:Int))] H n lo=some (x',H',n')∧n≤n'∧Yw H' w n' x' (bs++numY m k)∧(∀ j,j<w→H'.get j=H.get j)∧(∀ j,j<n→(∀ a b,x≠.sl j 0 a b)→H'.get j=H.get j)∧∃ id a b,x'=.sl id 0 a b∧n≤id:=by
 have q1:Nat.ble 1 k=true:=Nat.ble_eq_true_of_le hk
 have q2:Nat.ble k 8=true:=Nat.ble_eq_true_of_le hk8
 have q3:Nat.ble m 18446744073709551615=true:=Nat.ble_eq_true_of_le (by omega)
 have q4:Nat.ble lo n=true:=Nat.ble_eq_true_of_le (by omega)
 rw[D.k154]
 have hl:=zMq m k
 rcases h with⟨rfl,rfl⟩ | rfl | ⟨id,⟨h1,h2⟩,rfl,h3⟩
 ·refine⟨.sl (n+k - 1) 0 k k,H.put (n+k - 1) (some ⟨1,numL m k⟩),n+k,?_,by omega,.inr (.inr ⟨n+k - 1,⟨by omega,by omega⟩,by simp[hl],by simp[gP,zMp]⟩),fun j hj=>?_,fun j hj _=>?_,_,_,_,rfl,by omega⟩
  ·show zOA [.imm .nils,.imm (.int .u64 (.ofNat m)),.imm (.int .i64 (.ofNat k))] H n lo=_
   unfold zOA
   simp only[q1,q2,q3,q4,Bool.and_self,cond_true]
  ·have:¬j=n+k - 1:=by omega
   simp[gP,this]
  ·have:¬j=n+k - 1:=by omega
   simp[gP,this]
 ·exact absurd rfl (hx _)
 ·have q5:Nat.beq bs.length (bs.map rowY).length=true:=by simp
  have q6:Nat.beq bs.length bs.length=true:=by simp
  have q7:Nat.ble lo id=true:=Nat.ble_eq_true_of_le (by omega)
  have q8:Nat.ble bs.length 1000000=true:=Nat.ble_eq_true_of_le (by omega)
  refine⟨.sl (n+k - 1) 0 (bs.length+k) (bs.length+k),(H.put id none).put (n+k - 1) (some ⟨1,bs.map rowY++numL m k⟩),n+k,?_,by omega,.inr (.inr ⟨n+k - 1,⟨by omega,by omega⟩,by simp[hl],by simp[gP,zMp]⟩),fun j hj=>?_,fun j hj hx=>?_,_,_,_,rfl,by omega⟩
  ·show zOA [.sl id 0 bs.length bs.length,.imm (.int .u64 (.ofNat m)),.imm (.int .i64 (.ofNat k))] H n lo=_
   unfold zOA
   simp only[q1,q2,q3,q4,q5,q6,q7,q8,h3,Bool.and_self,cond_true]
   rfl
  ·have e1:¬j=n+k - 1:=by omega
   have e2:¬j=id:=by omega
   simp[gP,e1,e2]
  ·have e1:¬j=n+k - 1:=by omega
   have e2:¬j=id:=fun e=>hx _ _ (by rw[e])
   simp[gP,e1,e2]
theorem CrAt.mono {v:Nat}{ts:List Th}(h:CrAt H v w a ts) (hn:w≤n') (hf:∀ j,j<w→H'.get j=H.get j):CrAt H' v n' a ts:=by
 obtain⟨⟨h1,h2⟩,h⟩:=h
 refine⟨⟨h1,by omega⟩,?_⟩
 rcases h with⟨h3,rfl⟩ | ⟨b,⟨h4,h5⟩,h6,h7,h8⟩
 ·exact .inl ⟨by rw[hf a h2]; exact h3,rfl⟩
 ·exact .inr ⟨b,⟨h4,by omega⟩,h6,by rw[hf a h2]; exact h7,by rw[hf b h5]; exact h8⟩
def thB:Th→List UInt8
 | .int z=>1::numY (z % 2 ^ 64).toNat 8
 | .text s=>2::UInt8.ofNat s.length::s
 | .bool b=>[3,if b then 1 else 0]
def thOk:Th→Bool
 | .text s=>decide (s.length≤200)
 | _=>true
theorem zCy {ts:List Th}(hi:i<ts.length):atI ts i=thI ts[i]:=by
 unfold atI
 rw[if_pos (by omega)]
 simp[hi]
theorem zSr(b:Bool):bl (K (zFj 0 1) (d+1)) 176 [.imm (.bool b)]=some (.imm (.int .u8 (if b then 1 else 0))):=by
 refine zDd ?_
 rw[kX 176 D.f176 rfl]
 refine zHy rfl ?_
 cases b <;> simp[B6,B7]
theorem wz64 (z:Int):∃ m:Nat,m<2 ^ 64∧IntKind.u64.wrap z=(m:Int)∧(z % 2 ^ 64).toNat=m:=by
 refine⟨(z % 2 ^ 64).toNat,by omega,?_,rfl⟩
 simp only[IntKind.wrap,IntKind.bits,IntKind.signed]
 simp
 omega
theorem zSd(hlo:lo≤w) (hwn:w≤n) (h:Yw H w n x bs){ts:List Th}(hc:CrAt H 0 w a ts)(hi:i<ts.length) (hb:bs.length≤90000) (hts:∀ s,ts[i]=.text s→s.length≤9000) :
  ∃ x' H' n',K (zFj 0 1) (d+4) 153 [x,.ptr a 0 0,.imm (.int .i64 (i:Int))] H n lo=some (.tup [x',.imm (.bool (thOk ts[i]))],H',n')∧n≤n'∧Yw H' w n' x' (bs++thB ts[i])∧(∀ j,j<w→H'.get j=H.get j):=by
 have hc0:CrAt H 0 n a ts:=hc.mono hwn fun _ _=>rfl
 obtain⟨m1,e1,hm1⟩:=zAV (d:=d) hc0 i lo
 have hc1:CrAt H 0 m1 a ts:=hc.mono (by omega) fun _ _=>rfl
 obtain⟨m2,e2,hm2⟩:=zAa (d:=d) hc1 i lo
 have hc2:CrAt H 0 m2 a ts:=hc.mono (by omega) fun _ _=>rfl
 obtain⟨m3,e3,hm3⟩:=zAT (d:=d) hc2 i lo
 rw[zCy hi] at e1 e2 e3
 generalize ts[i]=t at *
 have hx:=h.sc
 refine (fun (hq:Fe (K (zFj 0 1) (d+4) 153 [x,.ptr a 0 0,.imm (.int .i64 (i:Int))] H n lo) fun v H' n'=>∃ x',v=.tup [x',.imm (.bool (thOk t))]∧n≤n'∧Yw H' w n' x' (bs++thB t)∧∀ j,j<w→H'.get j=H.get j)=>?_) ?_
 ·obtain⟨v,H',n',e,x',rfl,r⟩:=hq
  exact⟨x',H',n',e,r⟩
 rw[kX 153 D.f153 rfl]
 refine zHy rfl ?_
 cases t with
 | int z=>
  obtain⟨x1,hw,n1,acc,p1,p2,p3,p4,p5,p6,p7⟩:=zCd (y:=.imm (.lst true 1 [[.int .u8 1]])) (cs:=[1]) hlo (by omega) (h.up hm1) (src:=none) rfl (fun _ _ _ _=>by simp) (by simp; omega)
  obtain⟨m,hm,wz,mz⟩:=wz64 z
  obtain⟨x2,H2,n2,r1,r2,r3,r4,r5,r6⟩:=zMw (d:=d+2) (m:=m) (k:=8) hlo (by omega) p3 (fun es e=>by obtain⟨_,_,_,e'⟩:=p7 (by simp); rw[e] at e'; cases e') hm (by omega) (by omega) (by simp; omega)
  have r1':K (zFj 0 1) (d+3) 154 [x1,.imm (.int .u64 (m:Int)),.imm (.int .i64 8)] (putH H hw) n1 lo=some (x2,H2,n2):=r1
  simp only[thI,intOf,Option.getD_some,Option.isSome_some] at e1
  have xo:=p3.out
  have xs:=r3.sc
  have x2o:=r3.out
  simp[e1,hx,p1,r1',xo,xs,x2o,wz,thOk,zHH,lay,zS4,zS2,mapO,zPT,B6,B7]
  exact⟨by omega,by
   have e9:thB (.int z)=1::numY m 8:=by
    show 1::numY (z % 2 ^ 64).toNat 8=_
    rw[mz]
   rw[e9]
   simpa using r3,fun j hj=>(r4 j hj).trans (p4 j hj)⟩
 | text s=>
  have hsl:=hts s rfl
  have w8:IntKind.u8.wrap (s.length:Int)=((UInt8.ofNat s.length).toNat:Int):=by
   rw[UInt8.toNat_ofNat']
   simp only[IntKind.wrap,IntKind.bits,IntKind.signed]
   simp
  generalize hk:UInt8.ofNat s.length=k at w8
  obtain⟨x1,hw,n1,acc,p1,p2,p3,p4,p5,p6,p7⟩:=zCd (y:=.imm (.lst true 1 [[.int .u8 2],[.int .u8 (k.toNat:Int)]])) (cs:=[2,k]) hlo (by omega) (h.up (show n≤m2 by omega)) (src:=none) rfl (fun _ _ _ _=>by simp) (by simp; omega)
  obtain⟨x2,hw2,n2,acc2,q1,q2,q3,q4,q5,q6,q7⟩:=zCd (y:=.imm (.str s)) (cs:=s) hlo (by omega) p3 (src:=none) rfl (fun _ _ _ _=>by simp) (by simp; omega)
  simp only[thI,intOf,zSV,Option.getD_some,Option.isSome_some,Option.getD_none,Option.isSome_none] at e1 e2
  have xo:=p3.out
  have x1s:=p3.sc
  have xs:=q3.sc
  have x2o:=q3.out
  by_cases h200:s.length≤200
  ·have i0:ILt 200 (s.length:Int)=False:=zIz (by omega)
   simp[e1,e2,hx,p1,q1,xo,x1s,xs,x2o,w8,i0,h200,thOk,zHH,lay,zS4,zS2,mapO,zPT,B6,B7]
   exact⟨by omega,by
    have e9:thB (.text s)=2::k::s:=by
     rw[← hk]
     rfl
    rw[e9]
    simpa using q3,fun j hj=>(q4 j hj).trans (p4 j hj)⟩
  ·have i0:ILt 200 (s.length:Int)=True:=zI3 (by omega)
   simp[e1,e2,hx,p1,q1,xo,x1s,xs,x2o,w8,i0,h200,thOk,zHH,lay,zS4,zS2,mapO,zPT,B6,B7]
   exact⟨by omega,by
    have e9:thB (.text s)=2::k::s:=by
     rw[← hk]
     rfl
    rw[e9]
    simpa using q3,fun j hj=>(q4 j hj).trans (p4 j hj)⟩
 | bool b=>
  have et:=zSr (d:=d+2) b
  have he:(if b then (1:Int) else 0)=((if b then (1:UInt8) else 0).toNat:Int):=by cases b <;> rfl
  rw[he] at et
  generalize hk:(if b then (1:UInt8) else 0)=k at et he
  obtain⟨x1,hw,n1,acc,p1,p2,p3,p4,p5,p6,p7⟩:=zCd (y:=.imm (.lst true 1 [[.int .u8 3],[.int .u8 (k.toNat:Int)]])) (cs:=[3,k]) hlo (by omega) (h.up (show n≤m3 by omega)) (src:=none) rfl (fun _ _ _ _=>by simp) (by simp; omega)
  simp only[thI,intOf,zSV,zDm,Option.getD_some,Option.isSome_some,Option.getD_none,Option.isSome_none] at e1 e2 e3
  have xo:=p3.out
  have x1s:=p3.sc
  simp[e1,e2,e3,et,hx,p1,xo,x1s,thOk,zHH,lay,zS4,zS2,mapO,zPT,B6,B7]
  exact⟨by omega,by
   have e9:thB (.bool b)=[3,k]:=by
    rw[← hk]
    rfl
   rw[e9]
   exact p3,p4⟩
def thsB (ts:List Th):List UInt8:=ts.flatMap thB
theorem zSe {ts:List Th}(h:∀ t∈ts,(thB t).length≤300):(thsB ts).length≤300*ts.length:=by
 induction ts with
 | nil=>simp[thsB]
 | cons t ts ih=>
  have h1:=h t (by simp)
  have h2:=ih fun u hu=>h u (by simp[hu])
  simp only[thsB,List.flatMap_cons,List.length_append,List.length_cons] at *
  omega
theorem zSf {ts:List Th}(hi:i<ts.length):thsB (ts.take (i+1))=thsB (ts.take i)++thB ts[i]:=by
 rw[List.take_add_one,List.getElem?_eq_getElem hi]
 simp only[Option.toList_some,thsB,List.flatMap_append,List.flatMap_cons,List.flatMap_nil,List.append_nil]
theorem rbW:1000000≤reachBytes:=by decide
structure IPk (H0:PT HB) (w a:Nat) (ts:List Th) (b0:List UInt8) (i:Nat) (st:St):Prop where
 c0:st.T.get 0=some (.ptr a 0 0)
 c16:st.T.get 16=some (.imm (.int .i64 (ts.length:Int)))
 c17:st.T.get 17=some (.imm (.int .i64 (i:Int)))
 y:∃ x,st.T.get 4=some x∧Yw st.H w st.n x (b0++thsB (ts.take i))
 fr:∀ j,j<w→st.H.get j=H0.get j
 hn:w≤st.n
 ok:∀ t∈ts.take i,thOk t=true
theorem zLL{H0:PT HB}{ts:List Th}{b0:List UInt8}(hlo:lo≤w) (hc:CrAt H0 0 w a ts) (hl:ts.length≤100) (hts:∀ t∈ts,(thB t).length≤300) (hb0:b0.length≤10)
 (h:IPk H0 w a ts b0 0 st)
  (hk:∀ s',IPk H0 w a ts b0 ts.length s'→Bk (zFj 0 1) (K (zFj 0 1) (d+4)) lo (.exit 0) ks s' Q)
  (hr:∀ s',(∃ t∈ts,thOk t=false)→s'.T.get 2=some (.imm .nils)→s'.T.get 3=some (.imm (.int .i64 1))→(∀ j,j<w→s'.H.get j=H0.get j)→w≤s'.n→Bk (zFj 0 1) (K (zFj 0 1) (d+4)) lo .ret ks s' Q) :
  Wp (zFj 0 1) (K (zFj 0 1) (d+4)) lo D.l128_0 ks st Q:=by
 refine zGt (N:=ts.length) (zRH (by have:=rbW; omega)) (fun i st=>IPk H0 w a ts b0 i st) (fun e s'=>(e=.exit 0∧IPk H0 w a ts b0 ts.length s')∨(e=.ret∧(∃ t∈ts,thOk t=false)∧s'.T.get 2=some (.imm .nils)∧s'.T.get 3=some (.imm (.int .i64 1))∧(∀ j,j<w→s'.H.get j=H0.get j)∧w≤s'.n)) (fun i st hle hI=>?_) h (fun e s' h=>by
  rcases h with⟨rfl,h⟩ | ⟨rfl,h1,h2,h3,h4,h5⟩
  ·exact hk s' h
  ·exact hr s' h1 h2 h3 h4 h5)
 obtain⟨c0,c16,c17,⟨x,c4,hy⟩,fr,hn,ok⟩:=hI
 by_cases hi:i<ts.length
 ·have hi':ILt (i:Int) ts.length=True:=zI3 (by omega)
  have hw8:IntKind.i64.wrap ((i:Int)+1)=(i:Int)+1:=zTX hi (by have:=rbW; omega)
  have hlen:(b0++thsB (ts.take i)).length≤90000:=by
   have:=zSe (ts:=ts.take i) fun t ht=>hts t (List.mem_of_mem_take ht)
   simp only[List.length_append,List.length_take] at *
   omega
  have hc1:CrAt st.H 0 w a ts:=hc.mono (Nat.le_refl _) fr
  obtain⟨x',H',n',e,r1,r2,r3⟩:=zSd (d:=d) hlo hn hy hc1 hi hlen (fun s hs=>by
   have:=hts _ (List.getElem_mem hi)
   rw[hs] at this
   simp[thB] at this
   omega)
  have xo:=hy.out
  have xs:=hy.sc
  have x2:=r2.sc
  generalize hQ:(fun (e:Ex) (s':St)=>_)=Q'
  simp only[D.l128_0b]
  cases hok:thOk ts[i] with
  | true=>
   rw[hok] at e
   simp[c0,c16,c17,c4,hi',hw8,e,xo,xs,x2,B6,B7]
   subst hQ
   refine .inl ⟨rfl,hi,by simp[gP],by simp[gP],by simp[gP],⟨x',by simp[gP],?_⟩,fun j hj=>(r3 j hj).trans (fr j hj),by simp; omega,fun t ht=>?_⟩
   ·rw[zSf hi,← List.append_assoc]
    exact r2
   ·rw[List.take_add_one,List.getElem?_eq_getElem hi] at ht
    rcases List.mem_append.1 ht with ht | ht
    ·exact ok t ht
    ·simp at ht
     rw[ht]
     exact hok
  | false=>
   rw[hok] at e
   simp[c0,c16,c17,c4,hi',hw8,e,xo,xs,x2,B6,B7]
   subst hQ
   exact .inr ⟨nofun,.inr ⟨rfl,⟨ts[i],List.getElem_mem hi,hok⟩,by simp[gP],by simp[gP],fun j hj=>(r3 j hj).trans (fr j hj),by simp; omega⟩⟩
 ·obtain rfl:i=ts.length:=by omega
  generalize hQ:(fun (e:Ex) (s':St)=>_)=Q'
  simp only[D.l128_0b]
  simp[c0,c16,c17,c4,B6,B7]
  subst hQ
  exact .inr ⟨nofun,.inl ⟨rfl,by simp[gP,c0],by simp[gP,c16],by simp[gP,c17],⟨x,by simp[gP,c4],hy⟩,fr,hn,ok⟩⟩
noncomputable def crcS (bs:List UInt8) (s:Nat):Nat:=bs.foldl (fun s b=>zE3 s b.toNat) s
theorem zFB:∀ (bs:List UInt8){s:Nat},s<2 ^ 32→crcS bs s<2 ^ 32
 | [],s,h=>h
 | b::bs,s,h=>zFB bs (zE5 h b.toNat_lt)
theorem zFA:∀ (bs:List UInt8) (s:Nat),zE7 (bs.map ivY) s=some (crcS bs s)
 | [],s=>rfl
 | b::bs,s=>by
  have h1:zE7 ((b::bs).map ivY) s=zFC (ivY b) s (zE7 (bs.map ivY)):=rfl
  have h2:zFC (ivY b) s (zE7 (bs.map ivY))=bif Nat.ble b.toNat 255 then fN (zE3 s b.toNat) (zE7 (bs.map ivY)) else none:=rfl
  have h3:Nat.ble b.toNat 255=true:=Nat.ble_eq_true_of_le (by have:=b.toNat_lt; omega)
  rw[h1,h2,h3,cond_true,zHU,zFA bs]
  rfl
noncomputable def crcF (bs:List UInt8):Nat:=Nat.xor (crcS bs 4294967295) 4294967295
theorem zE6 (bs:List UInt8):crcF bs<2 ^ 32:=Nat.xor_lt_two_pow (zFB bs (by decide)) (by decide)
theorem zRv {f:Bool}(hb:bs.length≤1000000) :
  K (zFj 0 1) (d+1) 155 [.imm (.lst g 1 [[.lst f 1 (bs.map ivY)]])] H n lo=some (.imm (.int .u32 (crcF bs:Int)),H,n):=by
 rw[D.k155]
 show zOB [.imm (.lst f 1 (bs.map ivY))] H n lo=_
 unfold zOB
 simp only[List.length_map]
 rw[Nat.ble_eq_true_of_le hb,cond_true,zFA]
 rfl
theorem zRt {f:Bool}(hb:bs.length≤1000000) :
  bl (K (zFj 0 1) (d+1)) 155 [.imm (.lst g 1 [[.lst f 1 (bs.map ivY)]])]=some (.imm (.int .u32 (crcF bs:Int))):=
 zDd ⟨_,_,_,zRv hb,rfl⟩
theorem zH9:frzI h lo d (.imm v)=some v:=by cases d <;> rfl
theorem zLw {h:Nat→Option HB}{lo d:Nat}:∀ bs:List UInt8,mapO (mapO (frzI h lo d)) (bs.map rowY)=some (bs.map ivY)
 | []=>rfl
 | b::bs=>by
  have h1:=zLw (h:=h) (lo:=lo) (d:=d) bs
  simp[mapO,rowY,zH9,ivY] at h1 ⊢
  rw[h1]
theorem zD8 {id:Nat}(hb:bs.length≤1000000) (h1:H.get m=some ⟨1,[[.sl id 0 bs.length bs.length]]⟩) (h2:H.get id=some ⟨1,bs.map rowY⟩) :
  zDz (K (zFj 0 1) (d+1)) .blind 155 [.sl m 0 1 1] H n lo=some ⟨.imm (.int .u32 (crcF bs:Int)),H,n,[.rA]⟩:=by
 have hl:(bs.map rowY).length=bs.length:=by simp
 have e1:frzI H.get 0 3 (.sl id 0 bs.length bs.length)=some (.lst false 1 (bs.map ivY)):=by
  show (if 0≤id then _ else none)=_
  rw[if_pos (Nat.zero_le _),h2]
  show (if 0+bs.length≤(bs.map rowY).length then _ else none)=_
  rw[if_pos (by omega)]
  show (mapO (mapO (frzI H.get 0 2)) (((bs.map rowY).drop 0).take bs.length)).map _=_
  rw[List.drop_zero,List.take_of_length_le (by omega),zLw]
  rfl
 have e2:snap.snaps H.get [.sl m 0 1 1]=some [.imm (.lst false 1 [[.lst false 1 (bs.map ivY)]])]:=by
  have e3:frzI H.get 0 4 (.sl m 0 1 1)=some (.lst false 1 [[.lst false 1 (bs.map ivY)]]):=by
   show (if 0≤m then _ else none)=_
   rw[if_pos (Nat.zero_le _),h1]
   show (mapO (mapO (frzI H.get 0 3)) [[.sl id 0 bs.length bs.length]]).map _=_
   simp[mapO,e1]
  show (match (frzI H.get 0 4 (.sl m 0 1 1)).map DV.imm,some [] with
   | some v',some vs'=>some (v'::vs')
   | _,_=>none)=_
  rw[e3]
  rfl
 have e4:DV.pure.pures [.sl m 0 1 1]=false:=rfl
 unfold zDz
 simp only[e4,e2,zRv hb]
 rfl
def zDl (ts:List Th):List UInt8:=UInt8.ofNat ts.length::thsB ts
noncomputable def zSO (b:List UInt8):List UInt8:=numY (crcF b) 4++numY b.length 2++b
theorem zPa{id:Nat}(h:H.get id=some ⟨1,bs.map rowY⟩):zRS H.get (.sl id 0 bs.length bs.length)=some (some id,1,bs.map rowY):=by
 simp[zRS,zPV,h]
 exact List.take_of_length_le (by simp)
theorem zTZ {x:Nat}(h:x<2 ^ 64):IntKind.u64.wrap (x:Int)=x:=by
 simp only[IntKind.wrap,IntKind.bits,IntKind.signed]
 simp
 omega
theorem zBM{ts:List Th}(hlo:lo≤n) (hc:CrAt H 0 n a ts) (hl:ts.length≤100) (hts:∀ t∈ts,(thB t).length≤300) :
  Fe (K (zFj 0 1) (d+5) 128 [.ptr a 0 0] H n lo) (fun v H' n'=>n≤n'∧(∀ j,j<n→H'.get j=H.get j)∧(((¬((∀ t∈ts,thOk t=true)∧(zDl ts).length≤4000))∧v=.tup [.imm .nils,.imm (.int .i64 1)])∨
   (((∀ t∈ts,thOk t=true)∧(zDl ts).length≤4000)∧∃ x',v=.tup [x',.imm (.int .i64 0)]∧Yw H' n n' x' (zSO (zDl ts))))):=by
 obtain⟨m1,e1,hm1⟩:=zAW (d:=d+2) hc lo
 have hc1:CrAt H 0 m1 a ts:=hc.mono (by omega) fun _ _=>rfl
 obtain⟨m2,e2,hm2⟩:=zAW (d:=d+2) hc1 lo
 have w8:IntKind.u8.wrap (ts.length:Int)=((UInt8.ofNat ts.length).toNat:Int):=by
  rw[UInt8.toNat_ofNat']
  simp only[IntKind.wrap,IntKind.bits,IntKind.signed]
  simp
 have hbl:=zSe hts
 generalize hk:UInt8.ofNat ts.length=k at w8
 rw[kX 128 D.f128 rfl]
 refine zHy rfl ?_
 simp[e1,e2,w8,zHH,lay,zS4,zS2,mapO,zPT,B6,B7]
 refine zLL (w:=n) (b0:=[k]) (H0:=H) hlo hc hl hts (by simp) ⟨by simp[gP],by simp[gP],by simp[gP],⟨.imm (.lst true 1 (([k]++thsB (ts.take 0)).map ivY)),by simp[gP]; exact⟨rfl,rfl⟩,.inr (.inl rfl)⟩,fun _ _=>rfl,by simp; omega,by simp⟩ (fun s' hI=>?_) (fun s' h1 h2 h3 h4 h5=>?_)
 ·obtain⟨c0,c16,c17,⟨x,c4,hy⟩,fr,hn,ok⟩:=hI
  rw[List.take_length] at hy ok
  have hbd:[k]++thsB ts=zDl ts:=by rw[← hk]; rfl
  rw[hbd] at hy
  have hbl2:(zDl ts).length≤100000:=by simp[zDl]; omega
  generalize zDl ts=b at *
  have xs:=hy.sc
  have xl:=hy.len
  have hbn:b≠[]:=by rw[← hbd]; simp
  by_cases h4:b.length≤4000
  ·have i0:ILt 4000 (b.length:Int)=False:=zIz (by omega)
   have wl:=zTZ (x:=b.length) (by omega)
   have hcr:=zE6 b
   have wc:=zTZ (x:=crcF b) (by omega)
   have xo:=hy.out
   rcases hy with⟨rfl,h0⟩ | rfl | ⟨id,⟨g1,g2⟩,rfl,g3⟩
   ·exact absurd h0 hbn
   ·have es:=zRt (d:=d+3) (f:=true) (g:=true) (bs:=b) (by omega)
    obtain⟨x1,H1,n1,p1,p2,p3,p4,p5,id1,u1,u2,rfl,p7⟩:=zMw (d:=d+3) (H:=s'.H) (w:=n) (n:=s'.n) (lo:=lo) (x:=.imm .nils) (bs:=[]) (m:=crcF b) (k:=4) hlo (by omega) (.inl ⟨rfl,rfl⟩) (fun _ e=>by cases e) (by omega) (by omega) (by omega) (by simp)
    obtain⟨x2,H2,n2,q1,q2,q3,q4,q5,id2,v1,v2,rfl,q7⟩:=zMw (d:=d+3) (m:=b.length) (k:=2) hlo (by omega) p3 (fun _ e=>by cases e) (by omega) (by omega) (by omega) (by simp[zMq])
    obtain⟨x3,hw,n3,acc,r1,r2,r3,r4,r5,r6,r7⟩:=zCd (y:=.imm (.lst true 1 (b.map ivY))) (cs:=b) hlo (by omega) q3 (src:=none) (by simp[zRS,zPV,Function.comp_def,zI6]) (fun _ _ _ _=>by simp) (by simp[zMq]; omega)
    have p1':K (zFj 0 1) (d+4) 154 [.imm .nils,.imm (.int .u64 (crcF b:Int)),.imm (.int .i64 4)] s'.H s'.n lo=some (.sl id1 0 u1 u2,H1,n1):=p1
    have q1':K (zFj 0 1) (d+4) 154 [.sl id1 0 u1 u2,.imm (.int .u64 (b.length:Int)),.imm (.int .i64 2)] H1 n1 lo=some (.sl id2 0 v1 v2,H2,n2):=q1
    have r3s:=r3.sc
    have r3o:=r3.out
    simp[c0,c16,c17,c4,xs,xl,i0,es,wc,wl,p1',q1',r1,r3s,r3o,zHH,lay,zS4,zS2,mapO,zPT,B6,B7]
    exact⟨by omega,fun j hj=>by rw[r4 j hj,q4 j hj,p4 j hj,fr j hj],⟨ok,h4⟩,by simpa [zSO] using r3⟩
   ·obtain⟨m,hm⟩:∃ m,m=s'.n:=⟨_,rfl⟩
    have hH:∀ j,j<m→(s'.H.put m (some ⟨1,[[.sl id 0 b.length b.length]]⟩)).get j=s'.H.get j:=fun j hj=>by
     have:¬j=m:=by omega
     simp[gP,this]
    have es:=fun n lo=>zD8 (d:=d+3) (H:=s'.H.put m (some ⟨1,[[.sl id 0 b.length b.length]]⟩)) (n:=n) (lo:=lo) (m:=m) (id:=id) (bs:=b) (by omega) (by simp[gP]) (by rw[hH id (by omega)]; exact g3)
    obtain⟨x1,H1,n1,p1,p2,p3,p4,p5,id1,u1,u2,rfl,p7⟩:=zMw (d:=d+3) (H:=s'.H.put m (some ⟨1,[[.sl id 0 b.length b.length]]⟩)) (w:=n) (n:=m+1) (lo:=lo) (x:=.imm .nils) (bs:=[]) (m:=crcF b) (k:=4) hlo (by omega) (.inl ⟨rfl,rfl⟩) (fun _ e=>by cases e) (by omega) (by omega) (by omega) (by simp)
    obtain⟨x2,H2,n2,q1,q2,q3,q4,q5,id2,v1,v2,rfl,q7⟩:=zMw (d:=d+3) (m:=b.length) (k:=2) hlo (by omega) p3 (fun _ e=>by cases e) (by omega) (by omega) (by omega) (by simp[zMq])
    have f1:H2.get id=some ⟨1,b.map rowY⟩:=by
     rw[q5 id (by omega) (fun a b e=>by cases e; omega),p5 id (by omega) (fun _ _ e=>by cases e),hH id (by omega)]
     exact g3
    obtain⟨x3,hw,n3,acc,r1,r2,r3,r4,r5,r6,r7⟩:=zCd (y:=.sl id 0 b.length b.length) (cs:=b) hlo (by omega) q3 (src:=some id) (zPa f1) (fun _ _ _ e=>by cases e; simp; omega) (by simp[zMq]; omega)
    have p1':K (zFj 0 1) (d+4) 154 [.imm .nils,.imm (.int .u64 (crcF b:Int)),.imm (.int .i64 4)] (s'.H.put m (some ⟨1,[[.sl id 0 b.length b.length]]⟩)) (m+1) lo=some (.sl id1 0 u1 u2,H1,n1):=p1
    have q1':K (zFj 0 1) (d+4) 154 [.sl id1 0 u1 u2,.imm (.int .u64 (b.length:Int)),.imm (.int .i64 2)] H1 n1 lo=some (.sl id2 0 v1 v2,H2,n2):=q1
    have r3s:=r3.sc
    have r3o:=r3.out
    simp[c0,c16,c17,c4,xs,xl,i0,← hm,es,wc,wl,p1',q1',r1,r3s,r3o,zHH,lay,zS4,zS2,mapO,zPT,B6,B7]
    exact⟨by omega,fun j hj=>by rw[r4 j hj,q4 j hj,p4 j hj,hH j (by omega),fr j hj],⟨ok,h4⟩,by simpa [zSO] using r3⟩
  ·have i0:ILt 4000 (b.length:Int)=True:=zI3 (by omega)
   simp[c0,c16,c17,c4,xs,xl,i0,B6,B7]
   exact⟨hn,fr,fun _=>by omega⟩
 ·simp[h2,h3,B6,B7]
  obtain⟨t,ht,ho⟩:=h1
  exact⟨h5,h4,fun hh=>by rw[hh t ht] at ho; cases ho⟩
end Go.Proofs.YtlknjgmhfimhbaaGreatDoor.D
