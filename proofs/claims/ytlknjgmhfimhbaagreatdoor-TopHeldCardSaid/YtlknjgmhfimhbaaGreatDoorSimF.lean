/-
  One operation, in D and in the model: addresses, parts, slices, conversions.
  One operation, in D and in the model: what is made.
  One operation, in D and in the model: slices that are made, cut, read as texts.
  One operation, in D and in the model: slices of a made length, slices cut, texts and bytes.
-/
import Derived.Test.YtlknjgmhfimhbaaGreatDoorSimB
import Derived.IntWalk
section
set_option linter.unusedVariables false
set_option linter.unusedSimpArgs false
namespace Go.PM
def Does (P:Program) (lo:Nat) (Tch:Nat→Prop) (φ:Phi) (σ:Sig) (T:Nat→Option DV) (L:Nat→Option LV) (h:Nat→Option HB) (a:Act) (w:World) (n:Nat) (s:Sem Value) (e:Eff):Prop:=
 ∃ rv w' φ' σ',s.run P w=.ok rv w'∧OpOut lo Tch φ σ T L h a.tmps w n e rv w' φ' σ'
section
variable {P:Program}{lo:Nat}{Tch:Nat→Prop}{φ:Phi}{σ:Sig}{G:Nat→Option (List IV)}{T:Nat→Option DV}{L:Nat→Option LV}{h:Nat→Option HB}{a:Act}{w:World}{n:Nat}
variable {rv:Value} {v:DV}
theorem Does.pure (hR:Rel lo Tch φ σ T L h a.tmps w){s:Sem Value}(hs:s.run P w=.ok rv w){acc:List Acc}(hv:RepD φ σ v rv) :
  Does P lo Tch φ σ T L h a w n s { v,n':=n,acc }:=⟨rv,w,φ,σ,hs,OpOut.pure hR hv⟩
theorem zCm{m:Nat}(hm:zCl v=some m)(hv:RepD φ σ v rv):∃ k,rv=.int k (m:Int):=by
 unfold zCl at hm
 split at hm
 ·split at hm
  ·rename_i k i h0
   cases hm
   have:=zOn (zOl hv)
   subst this
   exact⟨k,by rw[Int.toNat_of_nonneg h0]⟩
  ·cases hm
 ·cases hm
theorem zPh (k:IntKind) (m:Int):(asIntOf (.int k m)).run P w=.ok (k,m) w:=rfl
theorem zOp {cells:List IV}{ad:Addr}(cv:Nat→Value) (hc:∀ (j:Nat) c,cells[j]?=some c→σ.cell (ad.add j)=some (cv j))
  (hr:∀ (j:Nat) c,cells[j]?=some c→RepI σ c (cv j)) (off:Nat):RepI σ (.cref (cells.drop off)) (.pointer (some (ad.add off))):=
 .cref (fun j=>cv (off+j)) (fun j c hj=>by rw[zBx]; exact hc _ c (by simpa using hj)) (fun j c hj=>hr _ c (by simpa using hj))
variable {e:Eff} {p:DV} {rp:Value} {t:TypeId}
theorem zHs (hR:Rel lo Tch φ σ T L h a.tmps w)(hp:RepD φ σ p rp){f off:Nat}(hok:zHX P t f off=true)
  (he:(match p with
   | .ptr id r o=>give n (some (.ptr id r (o+off)))
   | .lref s id o=>give n (some (.lref s id (o+off)))
   | .imm (.cref cs)=>if off<cs.length then give n (some (.imm (.cref (cs.drop off)))) else none
   | _=>none)=some e):Does P lo Tch φ σ T L h a w n (Instr.fieldAt t rp f) e:=by
 unfold zHX at hok
 split at hok
 ·rename_i fs hu
  split at hok
  ·rename_i x hx
   simp only[Bool.and_eq_true,beq_iff_eq] at hok
   obtain⟨rfl,hok⟩:=hok
   split at hok
   ·rename_i i hi
    have hne:¬i.size=0:=by simpa using hok
    have run:∀ ad,(Instr.fieldAt t (.pointer (some ad)) f).run P w=.ok (.pointer (some (ad.add x.offset))) w:=fun ad=>by
     simp[Instr.fieldAt,zP9 hu,hx,Instr.sureAddr,fieldPlace,sizeOf,typeInfo,hi,hne]
    cases hp with
    | ptr hb=>
     simp only[give,Option.map_some,Option.some.injEq] at he; subst he
     exact .pure hR (run _) (by rw[zBz,Nat.add_assoc]; exact .ptr hb)
    | lref hb=>
     simp only[give,Option.map_some,Option.some.injEq] at he; subst he
     exact .pure hR (run _) (by rw[zBz]; exact .lref hb)
    | imm hi=>
     cases hi with
     | cref cv hc hr=>
      simp only at he
      split at he
      ·simp only[give,Option.map_some,Option.some.injEq] at he; subst he
       exact .pure hR (run _) (.imm (zOp cv hc hr _))
      ·cases he
     | _=>cases he
    | _=>cases he
   ·cases hok
  ·cases hok
 ·cases hok
theorem zIx (hR:Rel lo Tch φ σ T L h a.tmps w) {i:DV} {ri:Value}(hp:RepD φ σ p rp) (hi:RepD φ σ i ri){s:Nat}(hok:zRA P t s=true){j:Nat}(hj:zCl i=some j)
  (he:(match p with
    | .imm (.lst _ sz es)=>match es[j]? with
     | some e=>if sz=s∧0<s then give n (some (.imm (.cref e))) else none
     | none=>none
    | .sl id row len _=>match h id with
     | some hb=>if j<len∧hb.sz=s then some { v:=.ptr id (row+j) 0,n':=n,acc:=[.rX id] } else none
     | none=>none
    | _=>none)=some e):Does P lo Tch φ σ T L h a w n (Instr.indexAt t rp ri) e:=by
 obtain⟨k,rfl⟩:=zCm hj hi
 unfold zRA at hok
 split at hok
 ·rename_i el hu
  have run:∀ ad len cap,j<len→(Instr.indexAt t (.slice (some ad) len cap) (.int k (j:Int))).run P w=.ok (.pointer (some (ad.add (j*s)))) w:=fun ad len cap hlt=>by
   simp[Instr.indexAt,zPh,zP9 hu,hlt,zP3 hok]
  cases hp with
  | imm hi'=>
   cases hi' with
   | lst cv hcap hfull hsz hc hr=>
    simp only at he
    split at he
    ·rename_i el' hel
     split at he
     ·rename_i hs
      obtain⟨rfl,hs0⟩:=hs
      simp only[give,Option.map_some,Option.some.injEq] at he; subst he
      have hlt:=(List.getElem?_eq_some_iff.1 hel).1
      exact .pure hR (run _ _ _ hlt) (.imm (.cref (fun m=>cv j m) (fun m c hm=>by rw[zBx]; exact (hc j m _ c hel hm).1) (fun m c hm=>hr j m _ c hel hm)))
     ·cases he
    ·cases he
   | _=>cases he
  | sl hbi h1 h2 h3=>
   rename_i id row len cap rcap bi
   simp only at he
   split at he
   ·rename_i hb hid
    split at he
    ·rename_i hs
     obtain⟨hlt,rfl⟩:=hs
     cases he
     obtain⟨bi',g1,g2,_⟩:=hR.heap _ _ hid
     rw[hbi] at g1; cases g1
     refine .pure hR (run _ _ _ hlt) ?_
     rw[zBz]
     have:=RepD.ptr (φ:=φ) (σ:=σ) (row:=row+j) (off:=0) hbi
     rw[Nat.add_mul,Nat.add_zero] at this
     rw[← g2.sz]
     exact this
    ·cases he
   ·cases he
  | _=>cases he
 ·cases hok
theorem zIr (hR:Rel lo Tch φ σ T L h a.tmps w) {i:DV} {ri:Value}(hp:RepD φ σ p rp) (hi:RepD φ σ i ri){s m:Nat}
  (hok:(match P.underlying t with | some (.array k e)=>k==m&&szOk P e s | _=>false)=true){j:Nat}(hj:zCl i=some j)
  (he:(if j<m∧0<s then match p with
     | .ptr id r o=>give n (some (.ptr id r (o+j*s)))
     | .lref sl id o=>give n (some (.lref sl id (o+j*s)))
     | .imm (.cref cs)=>if j*s<cs.length then give n (some (.imm (.cref (cs.drop (j*s))))) else none
     | _=>none
    else none)=some e):Does P lo Tch φ σ T L h a w n (Instr.indexAt t rp ri) e:=by
 obtain⟨k,rfl⟩:=zCm hj hi
 split at hok
 ·rename_i m' el hu
  simp only[Bool.and_eq_true,beq_iff_eq] at hok
  obtain⟨rfl,hok⟩:=hok
  split at he
  ·rename_i hlt
   obtain⟨hlt,hs⟩:=hlt
   have run:∀ ad,(Instr.indexAt t (.pointer (some ad)) (.int k (j:Int))).run P w=.ok (.pointer (some (ad.add (j*s)))) w:=fun ad=>by
    simp[Instr.indexAt,zPh,zP9 hu,Instr.sureAddr,hlt,zP3 hok]
   cases hp with
   | ptr hb=>
    simp only[give,Option.map_some,Option.some.injEq] at he; subst he
    exact .pure hR (run _) (by rw[zBz,Nat.add_assoc]; exact .ptr hb)
   | lref hb=>
    simp only[give,Option.map_some,Option.some.injEq] at he; subst he
    exact .pure hR (run _) (by rw[zBz]; exact .lref hb)
   | imm hi'=>
    cases hi' with
    | cref cv hc hr=>
     simp only at he
     split at he
     ·simp only[give,Option.map_some,Option.some.injEq] at he; subst he
      exact .pure hR (run _) (.imm (zOp cv hc hr _))
     ·cases he
    | _=>cases he
   | _=>cases he
  ·cases he
 ·cases hok
theorem zNr{cs r:List DV}{vs:Array Value}{off k:Nat}{agg:Bool}(hv:RepDs φ σ cs vs) (hsz:szOk P t k=true) (hagg:zB1 P t agg=true) (hcut:cut cs off k=some r)
  (hof:zMy agg r=some v):∃ rv,(part t vs off).run P w=.ok rv w∧RepD φ σ v rv:=by
 obtain⟨h1,h2,h3⟩:=zFD hcut
 cases agg with
 | true=>
  simp[zMy] at hof; subst hof
  refine⟨.agg (vs.extract off (off+k)),by simp[part,zPp hagg,zP3 hsz],.agg ?_ (fun i c u hc hu=>?_)⟩
  ·have:=hv.1; simp; omega
  ·have hi:i<k:=by rw[← h2]; exact (List.getElem?_eq_some_iff.1 hc).1
   rw[h3 i hi] at hc
   rw[Array.getElem?_extract] at hu
   have:=hv.1
   rw[if_pos (by omega)] at hu
   exact hv.2 _ c u hc hu
 | false=>
  unfold zMy at hof
  simp at hof
  split at hof
  ·rename_i v'
   cases hof
   have h0:=h3 0 (by rw[← h2]; simp)
   simp at h0
   obtain⟨u,g1,g2⟩:=hv.get h0.symm
   exact⟨u,by simp[part,zPp hagg,g1],g2⟩
  ·cases hof
theorem zDu:∀ {es:List (List IV)}{bs:List UInt8},bytesOf es=some bs→es.length=bs.length∧∀ (i:Nat) e,es[i]?=some e→∃ b,bs[i]?=some b∧e=[.int .u8 b.toNat]
 | [],bs,h=>by simp[bytesOf] at h; subst h; exact⟨rfl,fun i e he=>by simp at he⟩
 | e::es,bs,h=>by
  unfold bytesOf at h
  split at h
  ·rename_i b bs' hb hbs
   cases h
   obtain⟨h1,h2⟩:=zDu hbs
   refine⟨by simp[h1],fun i x hx=>?_⟩
   cases i with
   | zero=>
    simp at hx; subst hx
    refine⟨b,rfl,?_⟩
    unfold byteOf at hb
    split at hb
    ·rename_i m
     split at hb
     ·rename_i hm
      cases hb
      congr 2
      have:(UInt8.ofNat m.toNat).toNat=m.toNat:=by
       rw[UInt8.toNat_ofNat']; omega
      rw[this]; omega
     ·cases hb
    ·cases hb
   | succ i=>simp at hx; obtain⟨b',g1,g2⟩:=h2 i x hx; exact⟨b',by simpa using g1,g2⟩
  ·cases h
theorem zPX (hR:Rel lo Tch φ σ T L h a.tmps w)(hv:RepD φ σ v rv){src:Option Nat}{sz:Nat}{rows:List (List DV)}(hrow:zPV h v=some (src,sz,rows)) :
  (rv=.slice none 0 0∧rows=[]∧v=.imm .nils)∨
  ∃ ad cap,rv=.slice (some ad) rows.length cap∧rows.length≤cap∧(∀ r∈rows,r.length=sz)∧
   ∀ (i j:Nat) r c,rows[i]?=some r→r[j]?=some c→∃ cv,w.cell? (ad.add (i*sz+j))=some cv∧cv.oneCell'=true∧RepD φ σ c cv:=by
 cases hv with
 | imm hi=>
  cases hi with
  | nils=>simp only[zPV,Option.some.injEq,Prod.mk.injEq] at hrow; obtain⟨_,_,rfl⟩:=hrow; exact .inl ⟨rfl,rfl,rfl⟩
  | lst cv hcap hfull hsz hc hr=>
   rename_i full sz' es ad cap
   simp only[zPV,Option.some.injEq,Prod.mk.injEq] at hrow
   obtain⟨_,rfl,rfl⟩:=hrow
   refine .inr ⟨ad,cap,by simp,by simpa using hcap,fun r hr=>?_,fun i j r c hi hj=>?_⟩
   ·obtain⟨e,he,rfl⟩:=List.mem_map.1 hr
    simp[imms]; exact hsz e he
   ·rw[List.getElem?_map] at hi
    simp only[Option.map_eq_some_iff] at hi
    obtain⟨e,he,rfl⟩:=hi
    obtain⟨x,hx,rfl⟩:=zI5 hj
    obtain⟨hcell,hone⟩:=hc i j e x he hx
    exact⟨cv i j,zEH hR.sig hcell,hone,.imm (hr i j e x he hx)⟩
  | _=>simp[zPV] at hrow
 | sl hbi h1 h2 h3=>
  rename_i id row len cap rcap bi
  simp only[zPV] at hrow
  split at hrow
  ·rename_i hb hid
   split at hrow
   ·rename_i hle
    simp only[Option.some.injEq,Prod.mk.injEq] at hrow
    obtain⟨_,rfl,rfl⟩:=hrow
    obtain⟨bi',g1,g2,_⟩:=hR.heap _ _ hid
    rw[hbi] at g1; cases g1
    obtain⟨c,ty,fr,q1,q2,q3,q4,q5⟩:=g2.cells
    have hlen:((hb.rows.drop row).take len).length=len:=by simp; omega
    refine .inr ⟨⟨bi.blk,row*bi.sz,none⟩,rcap,by rw[hlen],by rw[hlen]; omega,fun r hr=>q4 r (List.mem_of_mem_drop (List.mem_of_mem_take hr)),fun i j r x hi hj=>?_⟩
    have hi':i<len:=by rw[← hlen]; exact (List.getElem?_eq_some_iff.1 hi).1
    rw[List.getElem?_take,if_pos hi',List.getElem?_drop] at hi
    obtain⟨cv,s1,s2,s3⟩:=q5 _ r hi j x hj
    refine⟨cv,?_,s2,s3⟩
    rw[zBz,zEG q1.1,g2.sz,← s1]
    congr 1
    rw[Nat.add_mul]; omega
   ·cases hrow
  ·cases hrow
 | _=>simp[zPV] at hrow
end
end Go.PM
end
section
set_option linter.unusedVariables false
set_option linter.unusedSimpArgs false
namespace Go.PM
section
variable {P:Program}{lo:Nat}{Tch:Nat→Prop}{φ:Phi}{σ:Sig}{G:Nat→Option (List IV)}{T:Nat→Option DV}{L:Nat→Option LV}{h:Nat→Option HB}{a:Act}{w:World}{n:Nat}
def zOM (w:World) (o:Obj):World:={ w with heap:=w.heap.push o }
theorem zOQ (w:World) (o:Obj):(zOM w o).heap.size=w.heap.size+1:=by simp[zOM]
theorem zOO (w:World) (o:Obj):∀ b,b<w.heap.size→(zOM w o).heap[b]?=w.heap[b]?:=fun b hb=>by
 simp only[zOM,Array.getElem?_push,if_neg (show ¬b=w.heap.size by omega)]
theorem zOP (w:World) (o:Obj):(zOM w o).heap[w.heap.size]?=some o:=by
 show (w.heap.push o)[w.heap.size]?=some o
 rw[Array.getElem?_push,if_pos rfl]
theorem zON (w:World) (o:Obj):Fr Tch w (zOM w o):=.push rfl rfl (by rw[zOQ]; omega) (zOO w o)
theorem zPw (t:TypeId) (v:Value):(newVar t v).run P w=.ok ⟨w.heap.size,0,none⟩ (zOM w (.cells v.cells t (0,0))):=by simp[newVar,newRow,zOM]
theorem RepDs.at {cs:List DV}{vs:Array Value}(hr:RepDs φ σ cs vs) (hs:cs.all DV.scal=true):CellsAt φ σ vs 0 cs:=fun j v hj=>by
 obtain⟨rv,h1,h2⟩:=hr.get hj
 exact⟨rv,by rw[Nat.zero_add]; exact h1,h2.one (List.all_eq_true.1 hs v (List.mem_of_getElem? hj)),h2⟩
variable {t:TypeId}
theorem zDp (hR:Rel lo Tch φ σ T L h a.tmps w) (hT:∀ b,w.heap.size≤b→Tch b) (hf:φ n=none){v:DV}{rv:Value}(hv:RepD φ σ v rv) (hs:v.cells.all DV.scal=true) (dst:Nat) :
  Does P lo Tch φ σ T L h a w n (Instr.box t rv) { v:=.lref dst n 0,lw:=[(dst,.box n v.cells)],n':=n+1,acc:=[.wL dst] }:=by
 have hc:=hv.cells
 have hr:=hR.pushL (h:=h) (L:=L) hT hf (o:=.cells rv.cells t (0,0)) (w':=zOM w _) (zOQ _ _) (zOO _ _) (zOP _ _) dst v.cells.length rv.cells.size (.box n v.cells) rfl
  (fun φ' hp=>.box (hR.sigNone (Nat.le_refl _)) (zOP _ _) hc.1.symm ((hc.at hs).mono hp (fun _ _ h=>h)))
 refine⟨.pointer (some ⟨w.heap.size,0,none⟩),_,_,σ,by simp[Instr.box,zPw],hr,zNy hR hf _ _,zON _ _,.lref (bi:=⟨w.heap.size,_,_⟩) (by simp[zNx]; exact⟨rfl,rfl⟩),Nat.le_succ _⟩
theorem zDo (hR:Rel lo Tch φ σ T L h a.tmps w) (hT:∀ b,w.heap.size≤b→Tch b) (hf:φ n=none){v:DV}{rv:Value}(hv:RepD φ σ v rv) (hs:v.cells.all DV.scal=true) (hp:0<v.cells.length) :
  Does P lo Tch φ σ T L h a w n (Instr.box t rv) { v:=.ptr n 0 0,hw:=[(n,some ⟨v.cells.length,[v.cells]⟩)],n':=n+1,acc:=[.wX n] }:=by
 have hc:=hv.cells
 have hr:=hR.pushH (h:=h) hT hf (c:=rv.cells) (t:=t) (w':=zOM w _) (zOQ _ _) (zOO _ _) (zOP _ _) ⟨v.cells.length,[v.cells]⟩ hp (by simp[hc.1]) (by simp) (fun i r hi=>by
  cases i with
  | zero=>simp at hi; subst hi; rw[Nat.zero_mul]; exact hc.at hs
  | succ i=>simp at hi)
 refine⟨.pointer (some ⟨w.heap.size,0,none⟩),_,_,σ,by simp[Instr.box,zPw],hr,zNy hR hf _ _,zON _ _,?_,Nat.le_succ _⟩
 have:=RepD.ptr (φ:=zNx φ n ⟨w.heap.size,v.cells.length,rv.cells.size⟩) (σ:=σ) (id:=n) (row:=0) (off:=0) (bi:=⟨w.heap.size,v.cells.length,rv.cells.size⟩) (by simp[zNx])
 simpa using this
variable {z:List IV}
theorem zTt(hz:zTq P t z=true):∃ i v,P.info? t=some i∧i.zero=some v∧v.cells.size=z.length∧(∀ (j:Nat) x,z[j]?=some x→∃ u,v.cells[j]?=some u∧zQI u x=true):=by
 unfold zTq at hz
 split at hz
 ·rename_i i hi
  split at hz
  ·rename_i v hv
   simp only[Bool.and_eq_true] at hz
   obtain⟨h1,h2⟩:=zQL (σ:=fun _=>none) hz.1
   exact⟨i,v,hi,hv,by simpa using h1,fun j x hx=>by obtain⟨u,g1,g2⟩:=h2 j x hx; exact⟨u,by simpa using g1,g2⟩⟩
  ·cases hz
 ·cases hz
theorem zQA{i:TypeInfo}{v:Value}(hi:P.info? t=some i) (hv:i.zero=some v):(zeroValue t).run P w=.ok v w:=by simp[zeroValue,zP8 hi,hv]
theorem zTr(hz:zTq P t z=true):zMX z=true:=by
 unfold zTq at hz
 split at hz
 ·split at hz
  ·simp only[Bool.and_eq_true] at hz; exact hz.2
  ·cases hz
 ·cases hz
variable {c:Array Value}
theorem zTs(hz:∀ (j:Nat) x,z[j]?=some x→∃ u,c[j]?=some u∧zQI u x=true) (hn:zMX z=true):CellsAt φ σ c 0 (imms z):=fun j v hj=>by
 obtain⟨x,hx,rfl⟩:=zI5 hj
 obtain⟨u,g1,g2⟩:=hz j x hx
 refine⟨u,by rw[Nat.zero_add]; exact g1,zNI g2 (fun e=>?_),.imm (zQJ g2)⟩
 have:=List.all_eq_true.1 hn x (List.mem_of_getElem? hx)
 subst e; cases this
theorem zB8 (hR:Rel lo Tch φ σ T L h a.tmps w) (hT:∀ b,w.heap.size≤b→Tch b) (hf:φ n=none)(hz:zTq P t z=true) (hn:zMX z=true) (dst:Nat) :
  Does P lo Tch φ σ T L h a w n (Instr.alloc t true (.tuple #[])) { v:=.lref dst n 0,lw:=[(dst,.box n (imms z))],n':=n+1,acc:=[.wL dst] }:=by
 obtain⟨i,v,hi,hv,hs,hg⟩:=zTt hz
 have hr:=hR.pushL (h:=h) (L:=L) hT hf (o:=.cells v.cells t (0,0)) (w':=zOM w _) (zOQ _ _) (zOO _ _) (zOP _ _) dst z.length v.cells.size (.box n (imms z)) rfl
  (fun φ' hp=>.box (hR.sigNone (Nat.le_refl _)) (zOP _ _) (by simp[imms,hs]) (zTs hg hn))
 refine⟨.pointer (some ⟨w.heap.size,0,none⟩),_,_,σ,by simp[Instr.alloc,zQA hi hv,zPw],hr,zNy hR hf _ _,zON _ _,.lref (bi:=⟨w.heap.size,_,_⟩) (by simp[zNx]; exact⟨rfl,rfl⟩),Nat.le_succ _⟩
theorem zB7 (hR:Rel lo Tch φ σ T L h a.tmps w) (hT:∀ b,w.heap.size≤b→Tch b) (hf:φ n=none)(hz:zTq P t z=true) (hn:zMX z=true) (hp:0<z.length) :
  Does P lo Tch φ σ T L h a w n (Instr.alloc t true (.tuple #[])) { v:=.ptr n 0 0,hw:=[(n,some ⟨z.length,[imms z]⟩)],n':=n+1,acc:=[.wX n] }:=by
 obtain⟨i,v,hi,hv,hs,hg⟩:=zTt hz
 have hr:=hR.pushH (h:=h) hT hf (c:=v.cells) (t:=t) (w':=zOM w _) (zOQ _ _) (zOO _ _) (zOP _ _) ⟨z.length,[imms z]⟩ hp (by simp[hs]) (by simp[imms]) (fun i r hi=>by
  cases i with
  | zero=>simp at hi; subst hi; rw[Nat.zero_mul]; exact zTs hg hn
  | succ i=>simp at hi)
 refine⟨.pointer (some ⟨w.heap.size,0,none⟩),_,_,σ,by simp[Instr.alloc,zQA hi hv,zPw],hr,zNy hR hf _ _,zON _ _,?_,Nat.le_succ _⟩
 have:=RepD.ptr (φ:=zNx φ n ⟨w.heap.size,z.length,v.cells.size⟩) (σ:=σ) (id:=n) (row:=0) (off:=0) (bi:=⟨w.heap.size,z.length,v.cells.size⟩) (by simp[zNx])
 simpa using this
theorem zH4 (off:Nat):∀ (vs:List Value) (k:Nat) (cs:Array Value),off+k+vs.length≤cs.size→
  (vs.zipIdx k).foldl (fun cs (x:Value×Nat)=>cs.setIfInBounds (off+x.2) x.1) cs=zJx cs (off+k) vs
 | [],k,cs,h=>by simp[zJx]
 | v::vs,k,cs,h=>by
  simp only[List.zipIdx_cons,List.foldl_cons]
  simp at h
  rw[zQm cs (off+k) v (by omega),zH4 off vs (k+1) _ (by rw[zJ0 (by simp; omega)]; omega)]
  rw[show off+(k+1)=off+k+1 by omega,zJy cs (off+k) v vs (by omega)]
theorem zNn {cells cells' p:List DV}{vp:Array Value}{off:Nat}(hc:RepDs φ σ cells c) (hp:RepDs φ σ p vp) (ho:over cells off p=some cells') :
  off+vp.size≤c.size∧RepDs φ σ cells' (zJx c off vp.toList):=by
 obtain⟨h1,h2,h3⟩:=zNp ho
 have hcs:=hc.1
 have hps:=hp.1
 have hle:off+vp.toList.length≤c.size:=by simp; omega
 refine⟨by omega,by rw[h2,hc.1,zJ0 hle],fun i x v hx hv=>?_⟩
 rw[zJz hle] at hv
 rw[h3 i] at hx
 by_cases c1:i<off
 ·rw[if_pos c1] at hx hv; exact hc.2 i x v hx hv
 ·rw[if_neg c1] at hx hv
  by_cases c2:i<off+p.length
  ·rw[if_pos c2] at hx
   rw[if_pos (by simp; omega)] at hv
   exact hp.2 _ x v hx (by simpa using hv)
  ·rw[if_neg c2] at hx
   rw[if_neg (by simp; omega)] at hv
   exact hc.2 i x v hx hv
theorem zHZ {place:Nat→Option (Nat×Nat)}:∀ (rs:List (Nat×Value)) (ps:List (Nat×Nat×DV)) (cells cells':List DV) (c:Array Value),RepDs φ σ cells c→lay cells ps=some cells'→
  rs.length=ps.length→(∀ (j:Nat) r p,rs[j]?=some r→ps[j]?=some p→place r.1=some (p.1,p.2.1)∧RepD φ σ p.2.2 r.2)→
  ∃ c',Instr.fill place c rs=some c'∧RepDs φ σ cells' c'
 | [],[],cells,cells',c,hc,hl,_,_=>by simp[lay] at hl; subst hl; exact⟨c,rfl,hc⟩
 | (i,v)::rs,(off,k,d)::ps,cells,cells',c,hc,hl,hlen,hj=>by
  obtain⟨hp,hr⟩:=hj 0 _ _ rfl rfl
  simp only at hp hr
  simp only[lay] at hl
  split at hl
  ·rename_i hk
   split at hl
   ·rename_i cells1 ho
    have hd:=hr.cells
    obtain⟨h1,h2⟩:=zNn hc hd ho
    obtain⟨c',g1,g2⟩:=zHZ rs ps cells1 cells' _ h2 hl (by simpa using hlen) (fun j r p h1 h2=>hj (j+1) r p (by simpa using h1) (by simpa using h2))
    refine⟨c',?_,g2⟩
    have hsz:v.cells.size=k:=by rw[← hd.1]; exact hk
    unfold Instr.fill
    simp only[hp]
    rw[if_neg (by simp[hsz]; omega)]
    have:=zH4 off v.cells.toList 0 c (by simp; omega)
    rw[Nat.add_zero] at this
    rw[← Array.foldl_toList,Array.toList_zipIdx,this]
    exact g1
   ·cases hl
  ·cases hl
 | [],_::_,_,_,_,_,_,h,_=>by simp at h
 | _::_,[],_,_,_,_,_,h,_=>by simp at h
theorem zHM (hR:Rel lo Tch φ σ T L h a.tmps w) (hG:GRel σ G){fs:Array Field}:∀ {ps:List (Nat×Operand)}{qs:List (Nat×Nat×Opd)},zNu P fs ps qs=true→∀ {vs:List (Nat×Nat×DV)},zHG G T qs=some vs→
  ps.length=vs.length∧∀ (j:Nat) r p,(ps.map fun x=>(x.1,a.eval x.2))[j]?=some r→vs[j]?=some p→
   (∃ f,fs[r.1]?=some f∧f.offset=p.1∧szOk P f.type p.2.1=true)∧RepD φ σ p.2.2 r.2
 | [],[],_,vs,hv=>by simp[zHG] at hv; subst hv; exact⟨rfl,fun j r p h1 _=>by simp at h1⟩
 | (i,x)::ps,(off,k,y)::qs,hok,vs,hv=>by
  simp only[zNu,Bool.and_eq_true] at hok
  obtain⟨⟨h1,h2⟩,h3⟩:=hok
  simp only[zHG] at hv
  split at hv
  ·rename_i v vs' e1 e2
   cases hv
   obtain⟨hl,hr⟩:=zHM hR hG h3 e2
   refine⟨by simp[hl],fun j r p hj hp=>?_⟩
   cases j with
   | zero=>
    simp at hj hp; subst hj hp
    refine⟨?_,zHP hR hG h2 e1⟩
    split at h1
    ·rename_i f hf; simp at h1; exact⟨f,hf,h1.1,h1.2⟩
    ·cases h1
   | succ j=>simp at hj hp; exact hr j r p (by simpa using hj) hp
  ·cases hv
 | [],_::_,hok,_,_=>by simp[zNu] at hok
 | _::_,[],hok,_,_=>by simp[zNu] at hok
theorem zHJ (hR:Rel lo Tch φ σ T L h a.tmps w) (hG:GRel σ G){el:TypeId}{m:Nat}:∀ {ps:List (Nat×Operand)}{qs:List (Nat×Nat×Opd)},zNt el m ps qs=true→∀ {vs:List (Nat×Nat×DV)},zHG G T qs=some vs→
  ps.length=vs.length∧∀ (j:Nat) r p,(ps.map fun x=>(x.1,a.eval x.2))[j]?=some r→vs[j]?=some p→(p.1=r.1*m∧p.2.1=m)∧RepD φ σ p.2.2 r.2
 | [],[],_,vs,hv=>by simp[zHG] at hv; subst hv; exact⟨rfl,fun j r p h1 _=>by simp at h1⟩
 | (i,x)::ps,(off,k,y)::qs,hok,vs,hv=>by
  simp only[zNt,Bool.and_eq_true,beq_iff_eq] at hok
  obtain⟨⟨⟨h1,h1'⟩,h2⟩,h3⟩:=hok
  simp only[zHG] at hv
  split at hv
  ·rename_i v vs' e1 e2
   cases hv
   obtain⟨hl,hr⟩:=zHJ hR hG h3 e2
   refine⟨by simp[hl],fun j r p hj hp=>?_⟩
   cases j with
   | zero=>simp at hj hp; subst hj hp; exact⟨⟨h1,h1'⟩,zHP hR hG h2 e1⟩
   | succ j=>simp at hj hp; exact hr j r p (by simpa using hj) hp
  ·cases hv
 | [],_::_,hok,_,_=>by simp[zNt] at hok
 | _::_,[],hok,_,_=>by simp[zNt] at hok
theorem zHK (hR:Rel lo Tch φ σ T L h a.tmps w) (hG:GRel σ G):∀ {ps:List (Nat×Operand)}{qs:List (Nat×Opd)},zNv ps qs=true→∀ {vs:List (Nat×DV)},zHH G T qs=some vs→
  ps.length=vs.length∧∀ (j:Nat) r p,(ps.map fun x=>(x.1,a.eval x.2))[j]?=some r→vs[j]?=some p→p.1=r.1∧RepD φ σ p.2 r.2
 | [],[],_,vs,hv=>by simp[zHH] at hv; subst hv; exact⟨rfl,fun j r p h1 _=>by simp at h1⟩
 | (i,x)::ps,(k,y)::qs,hok,vs,hv=>by
  simp only[zNv,Bool.and_eq_true,beq_iff_eq] at hok
  obtain⟨⟨h1,h2⟩,h3⟩:=hok
  simp only[zHH] at hv
  split at hv
  ·rename_i v vs' e1 e2
   cases hv
   obtain⟨hl,hr⟩:=zHK hR hG h3 e2
   refine⟨by simp[hl],fun j r p hj hp=>?_⟩
   cases j with
   | zero=>simp at hj hp; subst hj hp; exact⟨h1.symm,zHP hR hG h2 e1⟩
   | succ j=>simp at hj hp; exact hr j r p (by simpa using hj) hp
  ·cases hv
 | [],_::_,hok,_,_=>by simp[zNv] at hok
 | _::_,[],hok,_,_=>by simp[zNv] at hok
theorem zTv(hs:c.size=z.length) (hz:∀ (j:Nat) x,z[j]?=some x→∃ u,c[j]?=some u∧zQI u x=true):RepDs φ σ (imms z) c:=by
 refine⟨by simp[imms,hs],fun i x v hx hv=>?_⟩
 obtain⟨y,hy,rfl⟩:=zI5 hx
 obtain⟨u,g1,g2⟩:=hz i y hy
 rw[g1] at hv; cases hv
 exact .imm (zQJ g2)
theorem zLz (ps:Array (Nat×Operand)):(ps.map fun (i,x)=>(i,a.eval x)).toList=ps.toList.map fun x=>(x.1,a.eval x.2):=by simp
theorem zPy (g:Field→Sem (Nat×Nat)) (hgf:∀ f inf,P.info? f.type=some inf→(g f).run P w=.ok (f.offset,inf.size) w):∀ (l:List Field),(∀ f∈l,(P.info? f.type).isSome=true)→
  (l.mapM g).run P w=.ok (l.map fun f=>(f.offset,((P.info? f.type).map (·.size)).getD 0)) w
 | [],_=>by simp
 | f::l,hall=>by
  obtain⟨inf,hinf⟩:=Option.isSome_iff_exists.1 (hall f (by simp))
  have ih:=zPy g hgf l (fun x hx=>hall x (by simp[hx]))
  rw[List.mapM_cons]
  simp only[Sem.run_bind,hgf f inf hinf,Result.andThen_ok,ih,Sem.run_pure,List.map_cons,hinf,Option.map_some,Option.getD_some]
theorem zPx (fs:Array Field) (h1:zCC P fs=true):(fs.mapM (fun f=>(do pure (f.offset,← sizeOf f.type):Sem (Nat×Nat)))).run P w=.ok (fs.map fun f=>(f.offset,((P.info? f.type).map (·.size)).getD 0)) w:=by
 have:=zPy (P:=P) (w:=w) (fun f=>(do pure (f.offset,← sizeOf f.type):Sem (Nat×Nat))) (fun f inf hinf=>by simp[sizeOf,zP8 hinf]) fs.toList (fun f hf=>by
  have:=Array.all_eq_true_iff_forall_mem.1 h1 f (by simpa using hf); exact this)
 rw[Array.mapM_eq_mapM_toList]
 rw[Sem.run_map,this]
 simp only[Result.andThen_ok]
 congr 1
 apply Array.ext'
 rw[Array.toList_map]
theorem zDt (hR:Rel lo Tch φ σ T L h a.tmps w) (hG:GRel σ G){ps:Array (Nat×Operand)}{qs:List (Nat×Nat×Opd)}(hz:zTq P t z=true)
  (hok:(match P.underlying t with
   | some (.struct fs)=>zCC P fs&&zNu P fs ps.toList qs
   | some (.array _ e)=>(match P.info? e with | some i=>zNt e i.size ps.toList qs | none=>false)
   | _=>false)=true){vs:List (Nat×Nat×DV)}(hvs:zHG G T qs=some vs){e:Eff}(he:give n ((lay (imms z) vs).map .agg)=some e) :
  Does P lo Tch φ σ T L h a w n (Instr.build t (ps.map fun (i,x)=>(i,a.eval x))) e:=by
 obtain⟨i,v,hi,hv,hs,hg⟩:=zTt hz
 simp only[give,Option.map_map,Option.map_eq_some_iff,Function.comp] at he
 obtain⟨cells,hlay,rfl⟩:=he
 have hzr:RepDs φ σ (imms z) v.cells:=zTv hs hg
 split at hok
 ·rename_i fs hu
  simp only[Bool.and_eq_true] at hok
  obtain⟨h1,h2⟩:=hok
  obtain⟨hl,hr⟩:=zHM (P:=P) hR hG h2 hvs
  have hpl:=zPx (w:=w) fs h1
  obtain⟨c',g1,g2⟩:=zHZ (φ:=φ) (σ:=σ) (place:=fun k=>(fs.map fun f=>(f.offset,((P.info? f.type).map (·.size)).getD 0))[k]?) (ps.toList.map fun x=>(x.1,a.eval x.2)) vs (imms z) cells v.cells hzr hlay (by simpa using hl)
   (fun j r p h1 h2=>by
    obtain⟨⟨f,q1,q2,q3⟩,q4⟩:=hr j r p h1 h2
    refine⟨?_,q4⟩
    unfold szOk at q3
    split at q3
    ·rename_i inf hinf
     simp at q3
     simp[q1,q2,hinf,q3]
    ·cases q3)
  refine .pure hR (rv:=.agg c') ?_ (.agg g2.1 g2.2)
  simp only[Instr.build,Sem.run_bind,zQA hi hv,Result.andThen_ok,zP9 hu,hpl,zLz,g1,Sem.run_pure]
 ·rename_i m el hu
  split at hok
  ·rename_i inf hinf
   obtain⟨hl,hr⟩:=zHJ hR hG hok hvs
   obtain⟨c',g1,g2⟩:=zHZ (φ:=φ) (σ:=σ) (place:=fun i=>some (i*inf.size,inf.size)) (ps.toList.map fun x=>(x.1,a.eval x.2)) vs (imms z) cells v.cells hzr hlay (by simpa using hl)
    (fun j r p h1 h2=>by obtain⟨⟨q1,q2⟩,q3⟩:=hr j r p h1 h2; exact⟨by rw[q1,q2],q3⟩)
   refine .pure hR (rv:=.agg c') ?_ (.agg g2.1 g2.2)
   simp only[Instr.build,Sem.run_bind,zQA hi hv,Result.andThen_ok,zP9 hu,sizeOf,zP8 hinf,zLz,g1,Sem.run_pure]
  ·cases hok
 ·cases hok
end
end Go.PM
end
section
set_option linter.unusedVariables false
set_option linter.unusedSimpArgs false
namespace Go.PM
section
variable {P:Program}{lo:Nat}{Tch:Nat→Prop}{φ:Phi}{σ:Sig}{G:Nat→Option (List IV)}{T:Nat→Option DV}{L:Nat→Option LV}{h:Nat→Option HB}{a:Act}{w:World}{n:Nat}
variable {s:Nat} {t:TypeId}
theorem zI4 (hR:Rel lo Tch φ σ T L h a.tmps w){c:Array Value}{fr:Nat×Nat} {cap:Nat}{full:Bool}{rows:List (List IV)}{sm:Sem Value}{w':World}
  (hsz:w'.heap.size=w.heap.size+1) (hget:∀ b,b<w.heap.size→w'.heap[b]?=w.heap[b]?) (hnew:w'.heap[w.heap.size]?=some (.cells c t fr)) (hos:w'.os=w.os) (hout:w'.output=w.output)
  (hrun:sm.run P w=.ok (.slice (some ⟨w.heap.size,0,none⟩) rows.length cap) w') (hcap:rows.length≤cap) (hfull:full=true→cap=rows.length) (hs:∀ r∈rows,r.length=s)
  (hc:∀ (i j:Nat) r x,rows[i]?=some r→r[j]?=some x→∃ u,c[i*s+j]?=some u∧u.oneCell'=true∧RepI σ x u){acc:List Acc} :
  Does P lo Tch φ σ T L h a w n sm { v:=.imm (.lst full s rows),n':=n,acc }:=by
 obtain⟨hr,hg⟩:=hR.pushSig (n:=n) hsz hget hnew
 refine⟨_,w',φ,_,hrun,hr,hg,.push hos hout (by omega) hget,.imm ?_,Nat.le_refl _⟩
 have hch:∀ i j:Nat,∃ u,∀ r x,rows[i]?=some r→r[j]?=some x→c[i*s+j]?=some u∧u.oneCell'=true∧RepI σ x u:=fun i j=>by
  cases hi:rows[i]? with
  | none=>exact⟨undef,fun r x h1 _=>by cases h1⟩
  | some r=>
   cases hj:r[j]? with
   | none=>exact⟨undef,fun r' x h1 h2=>by cases h1; rw[hj] at h2; cases h2⟩
   | some x=>obtain⟨u,hu⟩:=hc i j r x hi hj; exact⟨u,fun r' x' h1 h2=>by cases h1; rw[hj] at h2; cases h2; exact hu⟩
 have h1:∀ i,∃ f:Nat→Value,∀ j r x,rows[i]?=some r→r[j]?=some x→c[i*s+j]?=some (f j)∧(f j).oneCell'=true∧RepI σ x (f j):=fun i=>Classical.axiomOfChoice (hch i)
 obtain⟨cv,hcv⟩:=Classical.axiomOfChoice h1
 refine .lst cv hcap hfull hs (fun i j e x hi hj=>⟨?_,(hcv i j e x hi hj).2.1⟩) (fun i j e x hi hj=>(hcv i j e x hi hj).2.2.mono hg.sg)
 rw[zBz,Nat.zero_add]
 simp only[Sig.cell,zQz,if_pos,Option.isSome_none,Bool.false_eq_true,if_false]
 exact (hcv i j e x hi hj).1
theorem zMB (hR:Rel lo Tch φ σ T L h a.tmps w) (hT:∀ b,w.heap.size≤b→Tch b) (hf:φ n=none){c:Array Value} {cap:Nat}{rows:List (List DV)}{sm:Sem Value}{w':World}
  (hsz:w'.heap.size=w.heap.size+1) (hget:∀ b,b<w.heap.size→w'.heap[b]?=w.heap[b]?) (hnew:w'.heap[w.heap.size]?=some (.cells c t (0,0))) (hos:w'.os=w.os) (hout:w'.output=w.output)
  (hrun:sm.run P w=.ok (.slice (some ⟨w.heap.size,0,none⟩) rows.length cap) w') (hcap:rows.length≤cap) (hcs:cap*s≤c.size) (hpos:0<s) (hs:∀ r∈rows,r.length=s)
  (hc:∀ (i:Nat) r,rows[i]?=some r→CellsAt φ σ c (i*s) r){acc:List Acc} :
  Does P lo Tch φ σ T L h a w n sm { v:=.sl n 0 rows.length rows.length,hw:=[(n,some ⟨s,rows⟩)],n':=n+1,acc }:=by
 have hle:rows.length*s≤c.size:=Nat.le_trans (Nat.mul_le_mul_right _ hcap) hcs
 have hr:=hR.pushH (h:=h) hT hf (w':=w') hsz hget hnew ⟨s,rows⟩ hpos hle hs hc
 refine⟨_,w',_,σ,hrun,hr,zNy hR hf _ _,.push hos hout (by omega) hget,?_,Nat.le_succ _⟩
 have:=RepD.sl (φ:=zNx φ n ⟨w.heap.size,s,c.size⟩) (σ:=σ) (id:=n) (row:=0) (len:=rows.length) (cap:=rows.length) (rcap:=cap) (bi:=⟨w.heap.size,s,c.size⟩) (by simp[zNx]) (Nat.le_refl _) hcap (by simpa using hcs)
 simpa using this
theorem zHl {α:Type}{xs:List α}:∀ (m k:Nat),k<m*xs.length→((List.replicate m xs).flatten)[k]?=xs[k % xs.length]?
 | 0,k,hk=>by simp at hk
 | m+1,k,hk=>by
  rw[List.replicate_succ,List.flatten_cons,List.getElem?_append]
  split
  ·rename_i h1; rw[Nat.mod_eq_of_lt h1]
  ·rename_i h1
   have:xs.length≤k:=by omega
   rw[zHl m (k - xs.length) (by rw[Nat.add_mul,Nat.one_mul] at hk; omega),Nat.mod_eq_sub_mod this]
theorem zHm {α:Type}{xs:List α}(m:Nat):((List.replicate m xs).flatten).length=m*xs.length:=by simp
theorem zOT (z:Array Value) (m k:Nat):((Array.range m).map (fun i=>z[i % z.size]!))[k]?=if k<m then some z[k % z.size]! else none:=by
 simp only[Array.getElem?_map,Array.getElem?_range]
 split <;> simp
theorem zPU {α:Type}(s:Nat):∀ (m:Nat) (xs:List α),xs.length=m*s→(zPT s m xs).length=m∧(∀ r∈zPT s m xs,r.length=s)∧
  ∀ (i j:Nat) r x,(zPT s m xs)[i]?=some r→r[j]?=some x→xs[i*s+j]?=some x
 | 0,xs,_=>⟨rfl,fun r hr=>by simp[zPT] at hr,fun i j r x hi _=>by simp[zPT] at hi⟩
 | m+1,xs,hl=>by
  have hl':(xs.drop s).length=m*s:=by rw[List.length_drop,hl,Nat.add_mul,Nat.one_mul]; omega
  have hle:s≤xs.length:=by rw[hl,Nat.add_mul,Nat.one_mul]; omega
  obtain⟨h1,h2,h3⟩:=zPU s m (xs.drop s) hl'
  refine⟨by simp[zPT,h1],fun r hr=>?_,fun i j r x hi hj=>?_⟩
  ·simp only[zPT,List.mem_cons] at hr
   rcases hr with rfl | hr
   ·simp; omega
   ·exact h2 r hr
  ·cases i with
   | zero=>
    simp only[zPT,List.getElem?_cons_zero,Option.some.injEq] at hi
    subst hi
    rw[List.getElem?_take] at hj
    split at hj
    ·rw[Nat.zero_mul,Nat.zero_add]; exact hj
    ·cases hj
   | succ i=>
    simp only[zPT,List.getElem?_cons_succ] at hi
    have:=h3 i j r x hi hj
    rw[List.getElem?_drop] at this
    rw[← this]; congr 1
    rw[Nat.add_mul,Nat.one_mul]; omega
theorem zLu {α β:Type}{f:α→Option β}:∀ {xs:List α}{ys:List β},mapO f xs=some ys→ys.length=xs.length∧∀ (i:Nat) y,ys[i]?=some y→∃ x,xs[i]?=some x∧f x=some y
 | [],ys,h=>by simp[mapO] at h; subst h; exact⟨rfl,fun i y hy=>by simp at hy⟩
 | x::xs,ys,h=>by
  unfold mapO at h
  split at h
  ·rename_i y ys' h1 h2
   cases h
   obtain⟨g1,g2⟩:=zLu h2
   refine⟨by simp[g1],fun i z hz=>?_⟩
   cases i with
   | zero=>simp at hz; subst hz; exact⟨x,rfl,h1⟩
   | succ i=>simp at hz; obtain⟨u,q1,q2⟩:=g2 i z hz; exact⟨u,by simpa using q1,q2⟩
  ·cases h
theorem zLn {α β:Type}{f:α→Option β}{xs:List α}{ys:List β}(h:mapO f xs=some ys){i:Nat}{x:α}(hx:xs[i]?=some x):∃ y,ys[i]?=some y∧f x=some y:=by
 obtain⟨h1,h2⟩:=zLu h
 have hi:i<ys.length:=by rw[h1]; exact (List.getElem?_eq_some_iff.1 hx).1
 obtain⟨x',q1,q2⟩:=h2 i ys[i] (List.getElem?_eq_getElem hi)
 rw[hx] at q1; cases q1
 exact⟨ys[i],List.getElem?_eq_getElem hi,q2⟩
theorem zS3 {v:DV}{i:IV}(h:zS2 v=some i):v=.imm i:=by
 unfold zS2 at h; split at h
 ·cases h; rfl
 ·cases h
theorem zNo:∀ {ps:List (Nat×Nat×DV)}{cells cells':List DV},lay cells ps=some cells'→cells'.length=cells.length
 | [],_,_,h=>by simp[lay] at h; subst h; rfl
 | (off,k,v)::ps,cells,cells',h=>by
  simp only[lay] at h
  split at h
  ·split at h
   ·rename_i c1 ho
    rw[zNo h,(zNp ho).2.1]
   ·cases h
  ·cases h
theorem zDs (hR:Rel lo Tch φ σ T L h a.tmps w) (hG:GRel σ G) (hT:∀ b,w.heap.size≤b→Tch b){ps:Array (Nat×Operand)}{z:List IV}{qs:List (Nat×Opd)}{mt:Bool} {len:Nat}
  (hok:(match P.underlying t with | some (.slice e)=>szOk P e s&&zTq P e z&&len*s≤2 ^ 24 | _=>false)=true) (hps:zNv ps.toList qs=true)
  {vs:List (Nat×DV)}(hvs:zHH G T qs=some vs){e:Eff}
  (he:(if 0<s∧z.length=s then
    match lay ((List.replicate len (imms z)).flatten) (vs.map fun p=>(p.1*s,s,p.2)) with
    | some cells=>
     if cells.all DV.scal then
      match (if mt then none else zS4 cells) with
      | some us=>giveI n (some (.lst true s (zPT s len us)))
      | none=>if DV.out.outs cells∧0<len then some { v:=.sl n 0 len len,hw:=[(n,some ⟨s,zPT s len cells⟩)],n':=n+1,acc:=[.wX n] } else none
     else none
    | none=>none
   else none)=some e) (hF:zAh φ n e.n'):Does P lo Tch φ σ T L h a w n (Instr.buildSlice t len (ps.map fun (i,x)=>(i,a.eval x))) e:=by
 split at he
 ·rename_i hsz
  obtain⟨hpos,hzl⟩:=hsz
  split at he
  ·rename_i cells hlay
   split at he
   ·rename_i hscal
    split at hok
    ·rename_i el hu
     simp only[Bool.and_eq_true,decide_eq_true_eq] at hok
     obtain⟨⟨h1,h2⟩,h3⟩:=hok
     obtain⟨i,v,hi,hv,hs,hg⟩:=zTt h2
     have hz0:RepDs φ σ ((List.replicate len (imms z)).flatten) ((Array.range (len*s)).map (fun k=>(if len*s=0 then #[] else v.cells)[k % (if len*s=0 then (#[]:Array Value) else v.cells).size]!)):=by
      refine⟨by simp[imms,hzl],fun k c u hk hu=>?_⟩
      have hk':k<len*s:=by
       have:=(List.getElem?_eq_some_iff.1 hk).1
       rw[zHm] at this; simpa [imms,hzl] using this
      have hne:¬len*s=0:=by omega
      rw[zOT,if_pos hk'] at hu
      simp only[hne,if_false,Option.some.injEq] at hu
      rw[zHl len k (by simpa [imms,hzl] using hk')] at hk
      obtain⟨x,hx,rfl⟩:=zI5 hk
      have hlen:(imms z).length=v.cells.size:=by simp[imms,hs]
      rw[hlen] at hx
      obtain⟨y,q1,q2⟩:=hg _ x hx
      rw[getElem!_def,q1] at hu
      subst hu
      exact .imm (zQJ q2)
     obtain⟨hl,hr⟩:=zHK hR hG hps hvs
     obtain⟨c',g1,g2⟩:=zHZ (φ:=φ) (σ:=σ) (place:=fun i=>some (i*s,s)) (ps.toList.map fun x=>(x.1,a.eval x.2)) (vs.map fun p=>(p.1*s,s,p.2)) _ cells _ hz0 hlay (by simpa using hl)
      (fun j r p h1 h2=>by
       rw[List.getElem?_map] at h2
       simp only[Option.map_eq_some_iff] at h2
       obtain⟨q,hq,rfl⟩:=h2
       obtain⟨q1,q2⟩:=hr j r q h1 hq
       exact⟨by rw[q1],q2⟩)
     have hrun:(Instr.buildSlice t len (ps.map fun (i,x)=>(i,a.eval x))).run P w=.ok (.slice (some ⟨w.heap.size,0,none⟩) len len) (zOM w (.cells c' el (0,0))):=by
      simp only[Instr.buildSlice,Sem.run_bind,zP9 hu,Result.andThen_ok,zP3 h1]
      rw[if_neg (by omega)]
      by_cases h0:len*s=0
      ·rw[if_pos h0] at g1
       rw[if_pos h0]
       simp only[Sem.run_bind,Sem.run_pure,Result.andThen_ok,zLz]
       rw[g1]
       simp[newRow,zOM]
      ·rw[if_neg h0] at g1
       rw[if_neg h0]
       simp only[Sem.run_bind,Sem.run_pure,Result.andThen_ok,zQA hi hv,zLz]
       rw[g1]
       simp[newRow,zOM]
     have hclen:cells.length=len*s:=by rw[g2.1]; have:=g2.1; have hfl:=zNo hlay; rw[zHm] at hfl; simp[imms,hzl] at hfl; omega
     split at he
     ·rename_i us hus
      simp only[giveI,Option.map_some,Option.some.injEq] at he; subst he
      have hus':mapO zS2 cells=some us:=by
       split at hus
       ·cases hus
       ·exact hus
      obtain⟨m1,m2⟩:=zLu hus'
      obtain⟨r1,r2,r3⟩:=zPU s len us (by rw[m1,hclen])
      rw[show len=(zPT s len us).length from r1.symm] at hrun
      refine zI4 hR (zOQ _ _) (zOO _ _) (zOP _ _) rfl rfl (by rw[r1] at hrun ⊢; exact hrun) (Nat.le_refl _) (fun _=>rfl) r2 (fun i j r x hi hj=>?_)
      have:=r3 i j r x hi hj
      obtain⟨d,d1,d2⟩:=m2 _ x this
      obtain⟨u,q1,q2⟩:=g2.get d1
      have:=zS3 d2
      subst this
      exact⟨u,q1,q2.one (List.all_eq_true.1 hscal _ (List.mem_of_getElem? d1)),zOl q2⟩
     ·split at he
      ·rename_i ho
       cases he
       obtain⟨r1,r2,r3⟩:=zPU s len cells hclen
       have:=zMB (n:=n) hR hT (hF n (Nat.le_refl _) (Nat.lt_succ_self _)) (rows:=zPT s len cells) (cap:=len) (sm:=Instr.buildSlice t len (ps.map fun (i,x)=>(i,a.eval x))) (zOQ _ _) (zOO _ _) (zOP _ (.cells c' el (0,0))) rfl rfl
        (by rw[r1]; exact hrun) (by rw[r1]; exact Nat.le_refl _) (by rw[← g2.1,hclen]; exact Nat.le_refl _) hpos r2 (fun i r hi j x hj=>by
         have:=r3 i j r x hi hj
         obtain⟨u,q1,q2⟩:=g2.get this
         exact⟨u,q1,q2.one (List.all_eq_true.1 hscal _ (List.mem_of_getElem? this)),q2⟩) (acc:=[.wX n])
       rw[r1] at this
       exact this
      ·cases he
    ·cases hok
   ·cases he
  ·cases he
 ·cases he
end
end Go.PM
end
section
set_option linter.unusedVariables false
set_option linter.unusedSimpArgs false
namespace Go.PM
section
variable {P:Program}{lo:Nat}{Tch:Nat→Prop}{φ:Phi}{σ:Sig}{G:Nat→Option (List IV)}{T:Nat→Option DV}{L:Nat→Option LV}{h:Nat→Option HB}{a:Act}{w:World}{n:Nat}
variable {m s:Nat}
theorem zTu {z:List IV}{v:Value}(hzl:z.length=s) (hs:v.cells.size=z.length) (hg:∀ (j:Nat) x,z[j]?=some x→∃ u,v.cells[j]?=some u∧zQI u x=true) (hn:zMX z=true)
  {i j:Nat}{x:IV}(hi:i<m) (hj:z[j]?=some x) :
  ∃ u,((Array.range (m*s)).map (fun k=>v.cells[k % v.cells.size]!))[i*s+j]?=some u∧u.oneCell'=true∧RepI σ x u:=by
 have hjs:j<s:=by rw[← hzl]; exact (List.getElem?_eq_some_iff.1 hj).1
 have hlt:i*s+j<m*s:=by
  have:(i+1)*s≤m*s:=Nat.mul_le_mul_right _ hi
  rw[Nat.add_mul,Nat.one_mul] at this; omega
 obtain⟨u,q1,q2⟩:=hg j x hj
 refine⟨u,?_,zNI q2 (fun e=>?_),zQJ q2⟩
 ·rw[zOT,if_pos hlt,hs,hzl]
  have:(i*s+j) % s=j:=by rw[Nat.mul_comm,Nat.mul_add_mod]; exact Nat.mod_eq_of_lt hjs
  rw[this,getElem!_def,q1]
 ·have:=List.all_eq_true.1 hn x (List.mem_of_getElem? hj)
  subst e; cases this
theorem zPu {t el:TypeId}{k k':IntKind} {b:Nat}{v:Value}{i:TypeInfo}(hu:P.underlying t=some (.slice el)) (hi:P.info? el=some i) (hs:szOk P el s=true) (hb:i.bytes=b) (hv:i.zero=some v)
  (hm:m≤zCJ) (hmb:m*b≤zCJ) :
  (Instr.makeSlice t (.int k (m:Int)) (.int k' (m:Int))).run P w=.ok (.slice (some ⟨w.heap.size,0,none⟩) m m) (zOM w (.cells ((Array.range (m*s)).map (fun j=>(if m*s=0 then #[] else v.cells)[j % (if m*s=0 then (#[]:Array Value) else v.cells).size]!)) el (0,0))):=by
 have hw:IntKind.i64.wrap (m:Int)=m:=IntWalk.i64_in _ (by unfold zCJ at hm; omega)
 have hbm:¬((b:Int)*(m:Int) > 2 ^ 48):=by
  have:b*m≤zCJ:=by rw[Nat.mul_comm]; exact hmb
  unfold zCJ at this
  have:((b*m:Nat):Int)≤((2 ^ 40:Nat):Int):=by exact_mod_cast this
  rw[Int.natCast_mul] at this
  omega
 have hsz:∀ w,(sizeOf el).run P w=.ok s w:=zP3 hs
 have hdec:(decide ((m:Int)<0)||decide ((b:Int)*(m:Int) > 2 ^ 48))=false:=by
  simp only[Bool.or_eq_false_iff,decide_eq_false_iff_not]
  exact⟨by omega,hbm⟩
 simp only[Instr.makeSlice,Sem.run_bind,zP9 hu,Result.andThen_ok,asInt,zPh,Sem.run_pure,zP8 hi,hb,hw,hdec,Bool.false_or]
 rw[if_neg (by simp)]
 simp only[Sem.run_bind,run_askRoom,Result.andThen_ok,hsz,Int.toNat_natCast]
 by_cases h0:m*s=0
 ·simp only[h0,if_true,Sem.run_bind,Sem.run_pure,Result.andThen_ok]
  simp[newRow,zOM]
 ·simp only[h0,if_false,Sem.run_bind,Sem.run_pure,Result.andThen_ok,zQA hi hv]
  simp[newRow,zOM]
theorem zOU (v:Value) (m s:Nat):(Array.range (m*s)).map (fun j=>(if m*s=0 then #[] else v.cells)[j % (if m*s=0 then (#[]:Array Value) else v.cells).size]!)=(Array.range (m*s)).map (fun j=>v.cells[j % v.cells.size]!):=by
 by_cases h0:m*s=0
 ·rw[h0]; simp
 ·simp only[h0,if_false]
theorem zMA (hR:Rel lo Tch φ σ T L h a.tmps w) (hT:∀ b,w.heap.size≤b→Tch b){t:TypeId} {b:Nat}{z:List IV}{mt:Bool}(hn:zMX z=true)
  (hok:(match P.underlying t with | some (.slice e)=>szOk P e s&&btOk P e b&&zTq P e z | _=>false)=true){d:DV}{rv rv':Value}(hd:RepD φ σ d rv) (hd':RepD φ σ d rv')(hm:zCl d=some m){e:Eff}
  (he:(if 0<s∧z.length=s∧m≤zCJ∧m*b≤zCJ then
     if mt then some { v:=.sl n 0 m m,hw:=[(n,some ⟨s,List.replicate m (imms z)⟩)],n':=n+1,acc:=[.wX n] }
     else giveI n (some (.lst true s (List.replicate m z)))
    else none)=some e) (hF:zAh φ n e.n'):Does P lo Tch φ σ T L h a w n (Instr.makeSlice t rv rv') e:=by
 obtain⟨k,rfl⟩:=zCm hm hd
 obtain⟨k',rfl⟩:=zCm hm hd'
 split at he
 ·rename_i hc
  obtain⟨hpos,hzl,hm1,hm2⟩:=hc
  split at hok
  ·rename_i el hu
   simp only[Bool.and_eq_true] at hok
   obtain⟨⟨h1,h2⟩,h3⟩:=hok
   obtain⟨i,v,hi,hv,hs,hg⟩:=zTt h3
   have hb:i.bytes=b:=by
    unfold btOk at h2; rw[hi] at h2; simpa using h2
   have hrun:=zPu (w:=w) (k:=k) (k':=k') hu hi h1 hb hv hm1 hm2
   rw[zOU] at hrun
   split at he
   ·cases he
    have:=zMB (n:=n) hR hT (hF n (Nat.le_refl _) (Nat.lt_succ_self _)) (rows:=List.replicate m (imms z)) (cap:=m) (s:=s) (sm:=Instr.makeSlice t (.int k (m:Int)) (.int k' (m:Int))) (zOQ _ _) (zOO _ _) (zOP _ _) rfl rfl
     (by rw[List.length_replicate]; exact hrun) (by simp) (by simp) hpos (fun r hr=>by rw[List.eq_of_mem_replicate hr]; simp[imms,hzl]) (fun i' r hi' j x hj=>by
      have hlt:i'<m:=by have:=(List.getElem?_eq_some_iff.1 hi').1; simpa using this
      have:r=imms z:=List.eq_of_mem_replicate (List.mem_of_getElem? hi')
      subst this
      obtain⟨y,hy,rfl⟩:=zI5 hj
      obtain⟨u,q1,q2,q3⟩:=zTu (σ:=σ) (m:=m) hzl hs hg hn hlt hy
      exact⟨u,q1,q2,.imm q3⟩) (acc:=[.wX n])
    rw[List.length_replicate] at this
    exact this
   ·simp only[giveI,Option.map_some,Option.some.injEq] at he; subst he
    refine zI4 hR (zOQ _ _) (zOO _ _) (zOP _ _) rfl rfl (by rw[List.length_replicate]; exact hrun) (by simp) (fun _=>by simp) (fun r hr=>by rw[List.eq_of_mem_replicate hr]; exact hzl) (fun i' j r x hi' hj=>?_)
    have hlt:i'<m:=by have:=(List.getElem?_eq_some_iff.1 hi').1; simpa using this
    have:r=z:=List.eq_of_mem_replicate (List.mem_of_getElem? hi')
    subst this
    exact zTu hzl hs hg hn hlt hj
  ·cases hok
 ·cases he
theorem zHF (hR:Rel lo Tch φ σ T L h a.tmps w) (hG:GRel σ G){x:Option Operand}{y:Option Opd}(hx:zNB x y=true){v:Option DV}(hv:evO G T y=some v) :
  (x=none∧v=none)∨∃ x' v',x=some x'∧v=some v'∧RepD φ σ v' (a.eval x'):=by
 unfold zNB at hx
 split at hx
 ·simp[evO] at hv; subst hv; exact .inl ⟨rfl,rfl⟩
 ·rename_i x' y'
  simp only[evO,Option.map_eq_some_iff] at hv
  obtain⟨v',h1,rfl⟩:=hv
  exact .inr ⟨x',v',rfl,rfl,zHP hR hG hx h1⟩
 ·cases hx
theorem zP5 {k:IntKind} {y:Nat}(hle:m≤y) (code:BoundsCode):(Instr.sliceBound (.int k (m:Int)) y code).run P w=.ok m w:=by
 simp only[Instr.sliceBound,Sem.run_bind,zPh,Result.andThen_ok]
 rw[if_pos ⟨by omega,by omega⟩]
 simp
theorem zDn {isS:Bool}{len cap:Nat}{x y z:Option Operand}{l hi mx:Option DV}(hl:(x=none∧l=none)∨∃ x' v',x=some x'∧l=some v'∧RepD φ σ v' (a.eval x'))
  (hh:(y=none∧hi=none)∨∃ x' v',y=some x'∧hi=some v'∧RepD φ σ v' (a.eval x')){i j:Nat}
  (hi1:zMF l 0=some i) (hj1:zMF hi len=some j) (hij:i≤j) (hjc:j≤cap) (hlc:len≤cap)
  (hm:(z=none∧mx=none∧m=cap)∨(∃ z' v' ,z=some z'∧mx=some v'∧RepD φ σ v' (a.eval z')∧zCl v'=some m∧j≤m∧m≤cap∧hi.isSome=true)) :
  (Instr.sliceBounds isS len cap (x.map a.eval) (y.map a.eval) (z.map a.eval)).run P w=.ok (i,j,m) w:=by
 rcases hm with⟨rfl,rfl,rfl⟩ | ⟨z',vz,rfl,rfl,hrz,hmz,hjm,hmc,hsome⟩
 ·rcases hh with⟨rfl,rfl⟩ | ⟨y',vy,rfl,rfl,hry⟩
  ·simp[zMF] at hj1; subst hj1
   rcases hl with⟨rfl,rfl⟩ | ⟨x',v',rfl,rfl,hr⟩
   ·simp[zMF] at hi1; subst hi1
    simp[Instr.sliceBounds]
   ·obtain⟨k,hk⟩:=zCm hi1 hr
    simp[Instr.sliceBounds,hk,zP5 hij]
  ·obtain⟨ky,hky⟩:=zCm hj1 hry
   rcases hl with⟨rfl,rfl⟩ | ⟨x',v',rfl,rfl,hr⟩
   ·simp[zMF] at hi1; subst hi1
    simp[Instr.sliceBounds,hky,zP5 hjc]
   ·obtain⟨k,hk⟩:=zCm hi1 hr
    simp[Instr.sliceBounds,hk,hky,zP5 hij,zP5 hjc]
 ·obtain⟨kz,hkz⟩:=zCm hmz hrz
  rcases hh with⟨rfl,rfl⟩ | ⟨y',vy,rfl,rfl,hry⟩
  ·cases hsome
  ·obtain⟨ky,hky⟩:=zCm hj1 hry
   rcases hl with⟨rfl,rfl⟩ | ⟨x',v',rfl,rfl,hr⟩
   ·simp[zMF] at hi1; subst hi1
    simp[Instr.sliceBounds,hky,hkz,zP5 hmc,zP5 hjm]
   ·obtain⟨k,hk⟩:=zCm hi1 hr
    simp[Instr.sliceBounds,hk,hky,hkz,zP5 hij,zP5 hmc,zP5 hjm]
end
end Go.PM
end
