/-
  One operation, in D and in the model: the pieces.
-/
import Derived.Test.YtlknjgmhfimhbaaGreatDoorOut
import Derived.Test.YtlknjgmhfimhbaaGreatDoorChk
set_option linter.unusedVariables false
set_option linter.unusedSimpArgs false
namespace Go.PM
theorem zQJ {σ:Sig}:∀ {v:Value}{i:IV},zQI v i=true→RepI σ i v:=by
 intro v i h
 unfold zQI at h
 split at h <;> first
  | (simp at h; subst h; exact .bool)
  | (simp at h; obtain⟨rfl,rfl⟩:=h; exact .int)
  | (simp at h; subst h; exact .str)
  | exact .nilp
  | exact .nils
  | exact .nilf
  | exact .nili
  | exact .undef
  | cases h
theorem zQL {σ:Sig}:∀ {vs:List Value}{is:List IV},zQK vs is=true→vs.length=is.length∧∀ (j:Nat) i,is[j]?=some i→∃ v,vs[j]?=some v∧zQI v i=true
 | [],[],_=>⟨rfl,fun j i h=>by simp at h⟩
 | v::vs,i::is,h=>by
  simp only[zQK,Bool.and_eq_true] at h
  obtain⟨hl,hr⟩:=zQL (σ:=σ) h.2
  refine⟨by simp[hl],fun j x hx=>?_⟩
  cases j with
  | zero=>simp at hx; subst hx; exact⟨v,rfl,h.1⟩
  | succ j=>simp at hx; obtain⟨u,h1,h2⟩:=hr j x hx; exact⟨u,by simpa using h1,h2⟩
 | [],_::_,h=>by cases h
 | _::_,[],h=>by cases h
theorem zNI {v:Value}{i:IV}(h:zQI v i=true) (hu:i≠.undef):v.oneCell'=true:=by
 unfold zQI at h
 split at h <;> first | rfl | (exact absurd rfl hu) | cases h
variable {rv:Value} {v:DV}
theorem RepD.one {φ:Phi}{σ:Sig}(h:RepD φ σ v rv) (hs:v.scal=true):rv.oneCell'=true:=by
 cases h with
 | imm hi=>cases hi <;> first | rfl | (simp[DV.scal] at hs)
 | ptr _=>rfl
 | sl _ _ _ _=>rfl
 | agg _ _=>simp[DV.scal] at hs
 | tup _ _=>simp[DV.scal] at hs
 | fnc _ _=>rfl
 | lref _=>rfl
theorem RepD.cells {φ:Phi}{σ:Sig}(h:RepD φ σ v rv):RepDs φ σ v.cells rv.cells:=by
 have one:∀ {v:DV}{rv:Value},RepD φ σ v rv→RepDs φ σ [v] #[rv]:=fun {v rv} h=>⟨rfl,fun i c u h1 h2=>by
  cases i with
  | zero=>simp at h1 h2; subst h1 h2; exact h
  | succ i=>simp at h1⟩
 cases h with
 | agg hl hr=>exact⟨hl,hr⟩
 | imm hi=>
  have:∀ {y:IV}{x:Value},RepI σ y x→x.cells=#[x]:=fun {y x} hx=>by cases hx <;> rfl
  rw[this hi]; exact one (.imm hi)
 | tup hl hr=>exact one (.tup hl hr)
 | ptr hp=>exact one (.ptr hp)
 | sl hp p1 p2 p3=>exact one (.sl hp p1 p2 p3)
 | fnc hl hr=>exact one (.fnc hl hr)
 | lref hp=>exact one (.lref hp)
theorem RepDs.one {φ:Phi}{σ:Sig}{cs:List DV}{vs:Array Value}(h:RepDs φ σ cs vs) (hs:cs.all DV.scal=true):∀ v∈vs.toList,v.oneCell'=true:=by
 intro v hv
 obtain⟨i,hi⟩:=List.getElem?_of_mem hv
 have hi':vs[i]?=some v:=by simpa using hi
 have hlt:i<cs.length:=by rw[h.1]; exact (Array.getElem?_eq_some_iff.1 hi').1
 have hc:=List.getElem?_eq_getElem hlt
 exact (h.2 i _ v hc hi').one (by have:=List.all_eq_true.1 hs cs[i] (List.getElem_mem hlt); exact this)
def GRel (σ:Sig) (G:Nat→Option (List IV)):Prop:=∀ g cells,G g=some cells→RepI σ (.cref cells) (.pointer (some ⟨g,0,none⟩))
theorem GRel.mono {σ σ':Sig}{G:Nat→Option (List IV)}(h:∀ b o,σ b=some o→σ' b=some o) (hG:GRel σ G):GRel σ' G:=fun g c hc=>(hG g c hc).mono h
section
variable {P:Program}{lo:Nat}{Tch:Nat→Prop}{φ:Phi}{σ:Sig}{G:Nat→Option (List IV)}{T:Nat→Option DV}{L:Nat→Option LV}{h:Nat→Option HB}{a:Act}{w:World}{n:Nat}
theorem zHP (hR:Rel lo Tch φ σ T L h a.tmps w) (hG:GRel σ G){x:Operand}{y:Opd}(hx:zNA x y=true)(hv:ev G T y=some v):RepD φ σ v (a.eval x):=by
 unfold zNA at hx
 split at hx
 ·simp at hx; subst hx
  obtain⟨rv,h1,h2⟩:=hR.tmp _ _ hv
  simp only[Act.eval,Array.getD_eq_getD_getElem?,h1,Option.getD_some]; exact h2
 ·simp at hx; subst hx; simp[ev] at hv; subst hv
  exact .fnc (vs:=#[]) rfl (fun i c v h1 _=>by simp at h1)
 ·simp[ev] at hv; subst hv
  exact .imm (zQJ hx)
 ·simp at hx; subst hx; simp[ev] at hv; subst hv
  exact .fnc (vs:=#[]) rfl (fun i c v h1 _=>by simp at h1)
 ·simp at hx; subst hx
  simp only[ev,Option.map_eq_some_iff] at hv
  obtain⟨c,h1,rfl⟩:=hv
  exact .imm (hG _ _ h1)
 ·cases hx
theorem zHT (hR:Rel lo Tch φ σ T L h a.tmps w) (hG:GRel σ G):∀ {xs:List Operand}{ys:List Opd},zNE xs ys=true→∀ {vs:List DV},evs G T ys=some vs→RepDs φ σ vs (xs.map a.eval).toArray
 | [],[],_,vs,hv=>by simp[evs] at hv; subst hv; exact⟨rfl,fun i c v h1 _=>by simp at h1⟩
 | x::xs,y::ys,hx,vs,hv=>by
  simp only[zNE,Bool.and_eq_true] at hx
  simp only[evs] at hv
  split at hv
  ·rename_i v vs' h1 h2
   cases hv
   obtain⟨hl,hr⟩:=zHT hR hG hx.2 h2
   refine⟨by simpa using hl,fun i c u hc hu=>?_⟩
   cases i with
   | zero=>simp at hc hu; subst hc hu; exact zHP hR hG hx.1 h1
   | succ i=>simp at hc hu; exact hr i c u hc (by simpa using hu)
  ·cases hv
 | [],_::_,hx,_,_=>by cases hx
 | _::_,[],hx,_,_=>by cases hx
variable {k:Nat} {t:TypeId}
theorem zP3(h:szOk P t k=true) (w:World):(sizeOf t).run P w=.ok k w:=by
 unfold szOk at h
 split at h
 ·rename_i i hi
  simp at h; subst h
  simp[sizeOf,typeInfo,hi]
 ·cases h
theorem zP8{i:TypeInfo}(h:P.info? t=some i) (w:World):(typeInfo t).run P w=.ok i w:=by simp[typeInfo,h]
variable {agg:Bool}
theorem zPp(h:zB1 P t agg=true) (w:World):(isAgg t).run P w=.ok agg w:=by
 unfold zB1 at h
 split at h
 ·rename_i hu; simp[isAgg,underlying,hu,h]
 ·rename_i hu; simp[isAgg,underlying,hu,h]
 ·rename_i d h1 h2 hu
  simp at h; subst h
  simp only[isAgg,underlying,Sem.run_bind,run_program,Result.andThen_ok,hu,Sem.run_pure]
 ·cases h
theorem zP9{d:TypeDesc}(h:P.underlying t=some d) (w:World):(underlying t).run P w=.ok d w:=by simp[underlying,h]
theorem zKT {ad:Addr}{cs:List DV}(hcs:∀ (j:Nat) v,cs[j]?=some v→∃ cv,w.cell? (ad.add j)=some cv∧RepD φ σ v cv)
  (hof:zMy agg cs=some v) (hsz:szOk P t cs.length=true) (hagg:zB1 P t agg=true):∃ rv,(loadVar t ad).run P w=.ok rv w∧RepD φ σ v rv:=by
 cases agg with
 | true=>
  simp[zMy] at hof; subst hof
  have:∀ j:Nat,∃ cv,∀ v,cs[j]?=some v→w.cell? (ad.add j)=some cv∧RepD φ σ v cv:=fun j=>by
   cases hj:cs[j]? with
   | none=>exact⟨undef,fun v hv=>by cases hv⟩
   | some v=>obtain⟨cv,h1⟩:=hcs j v hj; exact⟨cv,fun v' hv'=>by cases hv'; exact h1⟩
  obtain⟨cv,hcv⟩:=Classical.axiomOfChoice this
  let vs:List Value:=(List.range cs.length).map cv
  have hget:∀ (j:Nat) u,vs[j]?=some u→j<cs.length∧u=cv j:=fun j u hu=>by
   have hj:j<vs.length:=(List.getElem?_eq_some_iff.1 hu).1
   have hj':j<cs.length:=by simpa [vs] using hj
   refine⟨hj',?_⟩
   have:=(List.getElem?_eq_some_iff.1 hu).2
   rw[← this]; simp[vs]
  have hl:=zPr (P:=P) w ad cs.length vs (by simp[vs]) (fun j u hu=>by
   obtain⟨h1,h2⟩:=hget j u hu
   subst h2
   exact (hcv j _ (List.getElem?_eq_getElem h1)).1)
  refine⟨.agg vs.toArray,by simp[loadVar,zPp hagg,zP3 hsz,hl],.agg (by simp[vs]) (fun i c u hc hu=>?_)⟩
  obtain⟨h1,h2⟩:=hget i u (by simpa using hu)
  subst h2
  exact (hcv i c hc).2
 | false=>
  unfold zMy at hof
  simp at hof
  split at hof
  ·rename_i v'
   cases hof
   obtain⟨cv,h1,h2⟩:=hcs 0 v rfl
   rw[zB0] at h1
   exact⟨cv,by simp[loadVar,zPp hagg,h1],h2⟩
  ·cases hof
variable {off:Nat}
theorem zFD {α:Type}{xs:List α}{r:List α}(hc:cut xs off k=some r):off+k≤xs.length∧r.length=k∧∀ j:Nat,j<k→r[j]?=xs[off+j]?:=by
 unfold cut at hc
 split at hc
 ·rename_i hle
  cases hc
  refine⟨hle,by simp; omega,fun j hj=>?_⟩
  rw[List.getElem?_take,if_pos hj,List.getElem?_drop]
 ·cases hc
theorem zI5 {cs:List IV}{j:Nat}(hv:(imms cs)[j]?=some v):∃ i,cs[j]?=some i∧v=.imm i:=by
 simp[imms] at hv
 obtain⟨i,h1,h2⟩:=hv
 exact⟨i,h1,h2.symm⟩
theorem zKS (hR:Rel lo Tch φ σ T L h a.tmps w){p:DV}{rp:Value}(hp:RepD φ σ p rp){e:Eff}(he:zKP L h n k agg p=some e)
  (hsz:szOk P t k=true) (hagg:zB1 P t agg=true):∃ rv,(Instr.loadAt t rp).run P w=.ok rv w∧RepD φ σ e.v rv∧e.lw=[]∧e.hw=[]∧e.n'=n:=by
 have fin:∀ {ad:Addr}{cs:List DV}{v:DV},rp=.pointer (some ad)→(∀ (j:Nat) v,cs[j]?=some v→∃ cv,w.cell? (ad.add j)=some cv∧RepD φ σ v cv)→cs.length=k→zMy agg cs=some v→
   ∃ rv,(Instr.loadAt t rp).run P w=.ok rv w∧RepD φ σ v rv:=fun {ad cs v} hrp hcs hl hof=>by
  subst hrp; subst hl
  obtain⟨rv,h1,h2⟩:=zKT hcs hof hsz hagg
  exact⟨rv,by simp[Instr.loadAt,Instr.sureAddr,h1],h2⟩
 unfold zKP at he
 split at he
 ·-- a row that nobody writes
  rename_i cs
  split at he
  ·rename_i r hcut
   obtain⟨h1,h2,h3⟩:=zFD hcut
   simp only[Option.map_eq_some_iff] at he
   obtain⟨v,hv,rfl⟩:=he
   cases hp with
   | imm hi=>
    cases hi with
    | cref cv hc hr=>
     rename_i ad
     obtain⟨rv,g1,g2⟩:=fin (ad:=ad) (cs:=imms r) rfl (fun j u hu=>by
      obtain⟨i,hi,rfl⟩:=zI5 hu
      have hj:j<k:=by rw[← h2]; exact (List.getElem?_eq_some_iff.1 hi).1
      rw[h3 j hj,Nat.zero_add] at hi
      exact⟨cv j,zEH hR.sig (hc j i hi),.imm (hr j i hi)⟩) (by simp[imms,h2]) hv
     exact⟨rv,g1,g2,rfl,rfl,rfl⟩
  ·cases he
 ·rename_i id row off
  split at he
  ·rename_i hb hid
   split at he
   ·rename_i r hr
    split at he
    ·rename_i r' hcut
     obtain⟨h1,h2,h3⟩:=zFD hcut
     simp only[Option.map_eq_some_iff] at he
     obtain⟨v,hv,rfl⟩:=he
     cases hp with
     | ptr hbi=>
      rename_i bi
      obtain⟨bi',g1,g2,_⟩:=hR.heap _ _ hid
      rw[hbi] at g1; cases g1
      obtain⟨c,ty,fr,q1,q2,q3,q4,q5⟩:=g2.cells
      obtain⟨rv,r1,r2⟩:=fin (ad:=⟨bi.blk,row*bi.sz+off,none⟩) (cs:=r') rfl (fun j u hu=>by
       have hj:j<k:=by rw[← h2]; exact (List.getElem?_eq_some_iff.1 hu).1
       rw[h3 j hj] at hu
       obtain⟨cv,s1,s2,s3⟩:=q5 row r hr (off+j) u hu
       refine⟨cv,?_,s3⟩
       rw[zBz,zEG q1.1,g2.sz,Nat.add_assoc]; exact s1) h2 hv
      exact⟨rv,r1,r2,rfl,rfl,rfl⟩
    ·cases he
   ·cases he
  ·cases he
 ·rename_i slot id off
  split at he
  ·rename_i id' cells hk
   split at he
   ·rename_i hid
    subst hid
    split at he
    ·rename_i r' hcut
     obtain⟨h1,h2,h3⟩:=zFD hcut
     simp only[Option.map_eq_some_iff] at he
     obtain⟨v,hv,rfl⟩:=he
     cases hp with
     | lref hbi=>
      rename_i bi
      obtain⟨_,bi',g1,g2,_⟩:=hR.locs _ _ hk
      simp only[LV.id] at g1
      rw[hbi] at g1; cases g1
      cases g2 with
      | box free hh hs hc=>
       rename_i c ty
       obtain⟨rv,r1,r2⟩:=fin (ad:=⟨bi.blk,off,none⟩) (cs:=r') rfl (fun j u hu=>by
        have hj:j<k:=by rw[← h2]; exact (List.getElem?_eq_some_iff.1 hu).1
        rw[h3 j hj] at hu
        obtain⟨cv,s1,s2,s3⟩:=hc (off+j) u hu
        refine⟨cv,?_,s3⟩
        rw[zBz,zEG hh]; rw[Nat.zero_add] at s1; exact s1) h2 hv
       exact⟨rv,r1,r2,rfl,rfl,rfl⟩
    ·cases he
   ·cases he
  ·cases he
 ·cases he
theorem zNp {α:Type}{xs ys r:List α}(hc:over xs off ys=some r):off+ys.length≤xs.length∧r.length=xs.length∧
  ∀ j:Nat,r[j]?=if j<off then xs[j]? else if j<off+ys.length then ys[j - off]? else xs[j]?:=by
 unfold over at hc
 split at hc
 ·rename_i hle
  cases hc
  refine⟨hle,by simp; omega,fun j=>?_⟩
  rw[List.append_assoc,List.getElem?_append]
  have hlen:(xs.take off).length=off:=by simp; omega
  rw[hlen]
  split
  ·rename_i h1; rw[List.getElem?_take,if_pos h1]
  ·rename_i h1
   rw[List.getElem?_append]
   split
   ·rename_i h2; rw[if_pos (by omega)]
   ·rename_i h2; rw[if_neg (by omega),List.getElem?_drop]; congr 1; omega
 ·cases hc
theorem zP6 {b:Nat}{c:Array Value} {ty:TypeId}{fr:Nat×Nat}(hh:w.heap[b]?=some (.cells c ty fr)) (hu:Unfr fr c.size) (hk:rv.cells.size=k) (hsz:szOk P t k=true)
  (hle:off+k≤c.size) (h1:∀ v∈rv.cells.toList,v.oneCell'=true) :
  ∃ w',(Instr.storeAt t (.pointer (some ⟨b,off,none⟩)) rv).run P w=.ok () w'∧w'=(if k=0 then w else setBlock w b (.cells (zJx c off rv.cells.toList) ty fr)):=by
 refine⟨_,?_,rfl⟩
 have hs:=zP7 (P:=P) rv.cells.toList w b off 0 c ty fr hh hu (by simp[hk]; omega) h1
 simp only[Instr.storeAt,Instr.sureAddr,Sem.run_bind,Sem.run_pure,Result.andThen_ok,storeVar,zP3 hsz,hk,ne_eq,not_true,if_false,hs,Nat.add_zero]
 congr 1
 by_cases h0:k=0
 ·have:rv.cells.toList=[]:=by
   have:rv.cells.toList.length=0:=by simp[hk,h0]
   exact List.length_eq_zero_iff.1 this
  simp[h0,this]
 ·have:rv.cells.toList≠[]:=fun e=>h0 (by have:=congrArg List.length e; simp[hk] at this; exact this)
  simp[h0]
  intro hc
  exact absurd (by simp[hc]) this
theorem zRk (hR:Rel lo Tch φ σ T L h a.tmps w) {p:DV} {rp:Value}(hp:RepD φ σ p rp) (hv:RepD φ σ v rv){e:Eff}(he:zRh L h n lo k v p=some e)
  (hsz:szOk P t k=true):∃ w',(Instr.storeAt t rp rv).run P w=.ok () w'∧OpOut lo Tch φ σ T L h a.tmps w n e undef w' φ σ:=by
 unfold zRh at he
 split at he
 ·rename_i id row off
  split at he
  ·rename_i hcond
   obtain⟨hlo,hlen,hscal,hout⟩:=hcond
   split at he
   ·rename_i hb hid
    split at he
    ·rename_i r hr
     split at he
     ·rename_i r' hover
      cases he
      obtain⟨o1,o2,o3⟩:=zNp hover
      cases hp with
      | ptr hbi=>
       rename_i bi
       obtain⟨bi',g1,g2,g3⟩:=hR.heap _ _ hid
       rw[hbi] at g1; cases g1
       obtain⟨c,ty,fr,q1,q2,q3,q4,q5⟩:=g2.cells
       have hcl:=hv.cells
       have hrow:row<hb.rows.length:=(List.getElem?_eq_some_iff.1 hr).1
       have hrl:r.length=hb.sz:=q4 r (List.mem_of_getElem? hr)
       have hmul:row*hb.sz+hb.sz≤c.size:=by
        have h1:(row+1)*hb.sz≤hb.rows.length*hb.sz:=Nat.mul_le_mul_right _ hrow
        rw[Nat.add_mul,Nat.one_mul] at h1
        omega
       have hks:rv.cells.size=k:=by rw[← hcl.1]; exact hlen
       obtain⟨w',hw,hw'⟩:=zP6 (P:=P) (off:=row*bi.sz+off) q1.1 q1.2 hks hsz (by rw[g2.sz]; omega) (hcl.one hscal)
       refine⟨w',hw,?_⟩
       have hle:row*bi.sz+off+rv.cells.toList.length≤c.size:=by rw[g2.sz]; simp[hks]; omega
       by_cases hk0:k=0
       ·-- nothing is written
        rw[if_pos hk0] at hw'
        subst hw'
        have hr':r'=r:=by
         apply List.ext_getElem?; intro j; rw[o3 j]
         split
         ·rfl
         ·split
          ·omega
          ·rfl
        refine⟨?_,.refl _ _ _ _ _,.refl _ _,.imm .undef,Nat.le_refl _⟩
        have:upd h id (some { hb with rows:=hb.rows.set row r' })=h:=by
         funext x; unfold upd; split
         ·subst_vars
          rw[hid]
          congr 2
          obtain⟨hx,hy⟩:=List.getElem?_eq_some_iff.1 hr
          rw[← hy]; exact (List.set_getElem_self hx).symm▸rfl
         ·rfl
        simp only[updL,updH,this]
        exact hR
       ·rw[if_neg hk0] at hw'
        subst hw'
        refine⟨?_,.refl _ _ _ _ _,Fr.setBlock (g3 hlo),.imm .undef,Nat.le_refl _⟩
        simp only[updL,updH]
        refine hR.setH hid hbi (by rw[zJ0 hle]; exact q1.2) rfl (by rw[zJ0 hle,q2]) (by simpa using q3) (fun x hx=>?_) (fun i x hx=>?_)
        ·rcases List.mem_or_eq_of_mem_set hx with hx | rfl
         ·exact q4 x hx
         ·rw[o2]; exact hrl
        ·intro j u hu
         show ∃ rv',(zJx c (row*bi.sz+off) rv.cells.toList)[i*hb.sz+j]?=some rv'∧rv'.oneCell'=true∧RepD φ σ u rv'
         rw[zJz hle]
         have hls:rv.cells.toList.length=k:=by simp[hks]
         rw[List.getElem?_set] at hx
         by_cases hi:row=i
         ·subst hi
          rw[if_pos rfl,if_pos hrow] at hx
          cases hx
          rw[o3 j] at hu
          rw[g2.sz]
          have hjr:j<hb.sz:=by
           rcases Nat.lt_or_ge j hb.sz with h | h
           ·exact h
           ·rw[List.getElem?_eq_none (by omega)] at hu
            split at hu
            ·cases hu
            ·split at hu
             ·omega
             ·cases hu
          by_cases c1:j<off
          ·rw[if_pos c1] at hu
           rw[if_pos (by omega)]
           exact q5 row r hr j u hu
          ·rw[if_neg c1] at hu
           rw[if_neg (by omega)]
           by_cases c2:j<off+v.cells.length
           ·rw[if_pos c2] at hu
            rw[if_pos (by simp[hks]; omega)]
            obtain⟨x,hx1,hx2⟩:=hcl.get hu
            refine⟨x,?_,hx2.one ?_,hx2⟩
            ·rw[show row*hb.sz+j - (row*hb.sz+off)=j - off by omega]; simpa using hx1
            ·exact List.all_eq_true.1 hscal u (List.mem_of_getElem? hu)
           ·rw[if_neg c2] at hu
            rw[if_neg (by simp[hks]; omega)]
            exact q5 row r hr j u hu
         ·rw[if_neg hi] at hx
          have hxl:x.length=hb.sz:=q4 x (List.mem_of_getElem? hx)
          have hjx:j<hb.sz:=by rw[← hxl]; exact (List.getElem?_eq_some_iff.1 hu).1
          rw[g2.sz]
          have hsep:i*hb.sz+j<row*hb.sz+off∨row*hb.sz+off+k≤i*hb.sz+j:=by
           rcases Nat.lt_or_gt_of_ne hi with h1 | h1
           ·right
            have:(row+1)*hb.sz≤i*hb.sz:=Nat.mul_le_mul_right _ h1
            rw[Nat.add_mul,Nat.one_mul] at this; omega
           ·left
            have:(i+1)*hb.sz≤row*hb.sz:=Nat.mul_le_mul_right _ h1
            rw[Nat.add_mul,Nat.one_mul] at this; omega
          rcases hsep with h1 | h1
          ·rw[if_pos h1]; exact q5 i x hx j u hu
          ·rw[if_neg (by omega),if_neg (by simp[hks]; omega)]; exact q5 i x hx j u hu
     ·cases he
    ·cases he
   ·cases he
  ·cases he
 ·rename_i slot id off
  split at he
  ·rename_i hcond
   obtain⟨hlen,hscal⟩:=hcond
   split at he
   ·rename_i id' cells hk
    split at he
    ·rename_i hid
     subst hid
     split at he
     ·rename_i cells' hover
      cases he
      obtain⟨o1,o2,o3⟩:=zNp hover
      cases hp with
      | lref hbi=>
       rename_i bi
       obtain⟨_,bi',g1,g2,g3⟩:=hR.locs _ _ hk
       simp only[LV.id] at g1
       rw[hbi] at g1; cases g1
       cases g2 with
       | box free hh hs hc=>
        rename_i c ty
        have hcl:=hv.cells
        have hks:rv.cells.size=k:=by rw[← hcl.1]; exact hlen
        obtain⟨w',hw,hw'⟩:=zP6 (P:=P) (off:=off) hh (.zero _) hks hsz (by omega) (hcl.one hscal)
        refine⟨w',hw,?_⟩
        have hle:off+rv.cells.toList.length≤c.size:=by simp[hks]; omega
        by_cases hk0:k=0
        ·rw[if_pos hk0] at hw'
         subst hw'
         have hr':cells'=cells:=by
          apply List.ext_getElem?; intro j; rw[o3 j]
          split
          ·rfl
          ·split
           ·omega
           ·rfl
         refine⟨?_,.refl _ _ _ _ _,.refl _ _,.imm .undef,Nat.le_refl _⟩
         have:upd L slot (some (.box id cells'))=L:=by
          funext x; unfold upd; split
          ·subst_vars; rw[hk]
          ·rfl
         simp only[updL,updH,this]
         exact hR
        ·rw[if_neg hk0] at hw'
         subst hw'
         refine⟨?_,.refl _ _ _ _ _,Fr.setBlock g3,.imm .undef,Nat.le_refl _⟩
         simp only[updL,updH]
         have hlt:=hR.rng _ _ hbi
         refine hR.setL (lv':=.box id cells') hk hbi rfl (.box (T:=ty) free (by rw[zQj]; simp[hlt]; rfl) (by rw[zJ0 hle]; omega) (fun j u hu=>?_))
         rw[Nat.zero_add,zJz hle]
         rw[o3 j] at hu
         by_cases c1:j<off
         ·rw[if_pos c1] at hu ⊢
          have:=hc j u hu; rwa [Nat.zero_add] at this
         ·rw[if_neg c1] at hu ⊢
          by_cases c2:j<off+v.cells.length
          ·rw[if_pos c2] at hu
           rw[if_pos (by simp[hks]; omega)]
           obtain⟨x,hx1,hx2⟩:=hcl.get hu
           exact⟨x,by simpa using hx1,hx2.one (List.all_eq_true.1 hscal u (List.mem_of_getElem? hu)),hx2⟩
          ·rw[if_neg c2] at hu
           rw[if_neg (by simp[hks]; omega)]
           have:=hc j u hu; rwa [Nat.zero_add] at this
     ·cases he
    ·cases he
   ·cases he
  ·cases he
 ·cases he
end
end Go.PM
