/-
  One operation, in D and in the model: addresses, parts, slices, conversions.
  One operation, in D and in the model: what is made.
  One operation, in D and in the model: slices that are made, cut, read as texts.
  One operation, in D and in the model: slices of a made length, slices cut, texts and bytes.
-/
import Derived.Test.YtlknjgmhfimhbaaGreatDoorSimB
import Derived.IntWalk
section
set_option linter.unusedVariables false
set_option linter.unusedSimpArgs false
namespace Go.PM
def Does (P:Program) (lo:Nat) (Tch:Nat→Prop) (φ:Phi) (σ:Sig) (T:Nat→Option DV) (L:Nat→Option LV) (h:Nat→Option HB) (a:Act) (w:World) (n:Nat) (s:Sem Value) (e:Eff):Prop:=
 ∃ rv w' φ' σ',s.run P w=.ok rv w'∧OpOut lo Tch φ σ T L h a.tmps w n e rv w' φ' σ'
section
variable {P:Program}{lo:Nat}{Tch:Nat→Prop}{φ:Phi}{σ:Sig}{G:Nat→Option (List IV)}{T:Nat→Option DV}{L:Nat→Option LV}{h:Nat→Option HB}{a:Act}{w:World}{n:Nat}
variable {rv:Value} {v:DV}
theorem Does.pure (hR:Rel lo Tch φ σ T L h a.tmps w){s:Sem Value}(hs:s.run P w=.ok rv w){acc:List Acc}(hv:RepD φ σ v rv) :
  Does P lo Tch φ σ T L h a w n s { v,n':=n,acc }:=⟨rv,w,φ,σ,hs,OpOut.pure hR hv⟩
theorem asNat_spec{m:Nat}(hm:asNat v=some m)(hv:RepD φ σ v rv):∃ k,rv=.int k (m:Int):=by
 unfold asNat at hm
 split at hm
 ·split at hm
  ·rename_i k i h0
   cases hm
   have:=repI_int (repD_imm hv)
   subst this
   exact⟨k,by rw[Int.toNat_of_nonneg h0]⟩
  ·cases hm
 ·cases hm
theorem run_asIntOf (k:IntKind) (m:Int):(asIntOf (.int k m)).run P w=.ok (k,m) w:=rfl
theorem rep_cref_drop {cells:List IV}{ad:Addr}(cv:Nat→Value) (hc:∀ (j:Nat) c,cells[j]?=some c→σ.cell (ad.add j)=some (cv j))
  (hr:∀ (j:Nat) c,cells[j]?=some c→RepI σ c (cv j)) (off:Nat):RepI σ (.cref (cells.drop off)) (.pointer (some (ad.add off))):=
 .cref (fun j=>cv (off+j)) (fun j c hj=>by rw[add_add]; exact hc _ c (by simpa using hj)) (fun j c hj=>hr _ c (by simpa using hj))
variable {e:Eff} {p:DV} {rp:Value} {t:TypeId}
theorem fld_op (hR:Rel lo Tch φ σ T L h a.tmps w)(hp:RepD φ σ p rp){f off:Nat}(hok:fieldOk P t f off=true)
  (he:(match p with
   | .ptr id r o=>give n (some (.ptr id r (o+off)))
   | .lref s id o=>give n (some (.lref s id (o+off)))
   | .imm (.cref cs)=>if off<cs.length then give n (some (.imm (.cref (cs.drop off)))) else none
   | _=>none)=some e):Does P lo Tch φ σ T L h a w n (Instr.fieldAt t rp f) e:=by
 unfold fieldOk at hok
 split at hok
 ·rename_i fs hu
  split at hok
  ·rename_i x hx
   simp only[Bool.and_eq_true,beq_iff_eq] at hok
   obtain⟨rfl,hok⟩:=hok
   split at hok
   ·rename_i i hi
    have hne:¬i.size=0:=by simpa using hok
    have run:∀ ad,(Instr.fieldAt t (.pointer (some ad)) f).run P w=.ok (.pointer (some (ad.add x.offset))) w:=fun ad=>by
     simp[Instr.fieldAt,run_underlying' hu,hx,Instr.sureAddr,fieldPlace,sizeOf,typeInfo,hi,hne]
    cases hp with
    | ptr hb=>
     simp only[give,Option.map_some,Option.some.injEq] at he; subst he
     exact .pure hR (run _) (by rw[add_plain,Nat.add_assoc]; exact .ptr hb)
    | lref hb=>
     simp only[give,Option.map_some,Option.some.injEq] at he; subst he
     exact .pure hR (run _) (by rw[add_plain]; exact .lref hb)
    | imm hi=>
     cases hi with
     | cref cv hc hr=>
      simp only at he
      split at he
      ·simp only[give,Option.map_some,Option.some.injEq] at he; subst he
       exact .pure hR (run _) (.imm (rep_cref_drop cv hc hr _))
      ·cases he
     | _=>cases he
    | _=>cases he
   ·cases hok
  ·cases hok
 ·cases hok
theorem idx_op (hR:Rel lo Tch φ σ T L h a.tmps w) {i:DV} {ri:Value}(hp:RepD φ σ p rp) (hi:RepD φ σ i ri){s:Nat}(hok:sliceOk P t s=true){j:Nat}(hj:asNat i=some j)
  (he:(match p with
    | .imm (.lst _ sz es)=>match es[j]? with
     | some e=>if sz=s∧0<s then give n (some (.imm (.cref e))) else none
     | none=>none
    | .sl id row len _=>match h id with
     | some hb=>if j<len∧hb.sz=s then some { v:=.ptr id (row+j) 0,n':=n,acc:=[.rX id] } else none
     | none=>none
    | _=>none)=some e):Does P lo Tch φ σ T L h a w n (Instr.indexAt t rp ri) e:=by
 obtain⟨k,rfl⟩:=asNat_spec hj hi
 unfold sliceOk at hok
 split at hok
 ·rename_i el hu
  have run:∀ ad len cap,j<len→(Instr.indexAt t (.slice (some ad) len cap) (.int k (j:Int))).run P w=.ok (.pointer (some (ad.add (j*s)))) w:=fun ad len cap hlt=>by
   simp[Instr.indexAt,run_asIntOf,run_underlying' hu,hlt,run_sizeOf hok]
  cases hp with
  | imm hi'=>
   cases hi' with
   | lst cv hcap hfull hsz hc hr=>
    simp only at he
    split at he
    ·rename_i el' hel
     split at he
     ·rename_i hs
      obtain⟨rfl,hs0⟩:=hs
      simp only[give,Option.map_some,Option.some.injEq] at he; subst he
      have hlt:=(List.getElem?_eq_some_iff.1 hel).1
      exact .pure hR (run _ _ _ hlt) (.imm (.cref (fun m=>cv j m) (fun m c hm=>by rw[add_add]; exact (hc j m _ c hel hm).1) (fun m c hm=>hr j m _ c hel hm)))
     ·cases he
    ·cases he
   | _=>cases he
  | sl hbi h1 h2 h3=>
   rename_i id row len cap rcap bi
   simp only at he
   split at he
   ·rename_i hb hid
    split at he
    ·rename_i hs
     obtain⟨hlt,rfl⟩:=hs
     cases he
     obtain⟨bi',g1,g2,_⟩:=hR.heap _ _ hid
     rw[hbi] at g1; cases g1
     refine .pure hR (run _ _ _ hlt) ?_
     rw[add_plain]
     have:=RepD.ptr (φ:=φ) (σ:=σ) (row:=row+j) (off:=0) hbi
     rw[Nat.add_mul,Nat.add_zero] at this
     rw[← g2.sz]
     exact this
    ·cases he
   ·cases he
  | _=>cases he
 ·cases hok
theorem idxA_op (hR:Rel lo Tch φ σ T L h a.tmps w) {i:DV} {ri:Value}(hp:RepD φ σ p rp) (hi:RepD φ σ i ri){s m:Nat}
  (hok:(match P.underlying t with | some (.array k e)=>k==m&&szOk P e s | _=>false)=true){j:Nat}(hj:asNat i=some j)
  (he:(if j<m∧0<s then match p with
     | .ptr id r o=>give n (some (.ptr id r (o+j*s)))
     | .lref sl id o=>give n (some (.lref sl id (o+j*s)))
     | .imm (.cref cs)=>if j*s<cs.length then give n (some (.imm (.cref (cs.drop (j*s))))) else none
     | _=>none
    else none)=some e):Does P lo Tch φ σ T L h a w n (Instr.indexAt t rp ri) e:=by
 obtain⟨k,rfl⟩:=asNat_spec hj hi
 split at hok
 ·rename_i m' el hu
  simp only[Bool.and_eq_true,beq_iff_eq] at hok
  obtain⟨rfl,hok⟩:=hok
  split at he
  ·rename_i hlt
   obtain⟨hlt,hs⟩:=hlt
   have run:∀ ad,(Instr.indexAt t (.pointer (some ad)) (.int k (j:Int))).run P w=.ok (.pointer (some (ad.add (j*s)))) w:=fun ad=>by
    simp[Instr.indexAt,run_asIntOf,run_underlying' hu,Instr.sureAddr,hlt,run_sizeOf hok]
   cases hp with
   | ptr hb=>
    simp only[give,Option.map_some,Option.some.injEq] at he; subst he
    exact .pure hR (run _) (by rw[add_plain,Nat.add_assoc]; exact .ptr hb)
   | lref hb=>
    simp only[give,Option.map_some,Option.some.injEq] at he; subst he
    exact .pure hR (run _) (by rw[add_plain]; exact .lref hb)
   | imm hi'=>
    cases hi' with
    | cref cv hc hr=>
     simp only at he
     split at he
     ·simp only[give,Option.map_some,Option.some.injEq] at he; subst he
      exact .pure hR (run _) (.imm (rep_cref_drop cv hc hr _))
     ·cases he
    | _=>cases he
   | _=>cases he
  ·cases he
 ·cases hok
theorem part_run{cs r:List DV}{vs:Array Value}{off k:Nat}{agg:Bool}(hv:RepDs φ σ cs vs) (hsz:szOk P t k=true) (hagg:aggOk P t agg=true) (hcut:cut cs off k=some r)
  (hof:ofCells agg r=some v):∃ rv,(part t vs off).run P w=.ok rv w∧RepD φ σ v rv:=by
 obtain⟨h1,h2,h3⟩:=cut_spec hcut
 cases agg with
 | true=>
  simp[ofCells] at hof; subst hof
  refine⟨.agg (vs.extract off (off+k)),by simp[part,run_isAgg hagg,run_sizeOf hsz],.agg ?_ (fun i c u hc hu=>?_)⟩
  ·have:=hv.1; simp; omega
  ·have hi:i<k:=by rw[← h2]; exact (List.getElem?_eq_some_iff.1 hc).1
   rw[h3 i hi] at hc
   rw[Array.getElem?_extract] at hu
   have:=hv.1
   rw[if_pos (by omega)] at hu
   exact hv.2 _ c u hc hu
 | false=>
  unfold ofCells at hof
  simp at hof
  split at hof
  ·rename_i v'
   cases hof
   have h0:=h3 0 (by rw[← h2]; simp)
   simp at h0
   obtain⟨u,g1,g2⟩:=hv.get h0.symm
   exact⟨u,by simp[part,run_isAgg hagg,g1],g2⟩
  ·cases hof
theorem bytesOf_spec:∀ {es:List (List IV)}{bs:List UInt8},bytesOf es=some bs→es.length=bs.length∧∀ (i:Nat) e,es[i]?=some e→∃ b,bs[i]?=some b∧e=[.int .u8 b.toNat]
 | [],bs,h=>by simp[bytesOf] at h; subst h; exact⟨rfl,fun i e he=>by simp at he⟩
 | e::es,bs,h=>by
  unfold bytesOf at h
  split at h
  ·rename_i b bs' hb hbs
   cases h
   obtain⟨h1,h2⟩:=bytesOf_spec hbs
   refine⟨by simp[h1],fun i x hx=>?_⟩
   cases i with
   | zero=>
    simp at hx; subst hx
    refine⟨b,rfl,?_⟩
    unfold byteOf at hb
    split at hb
    ·rename_i m
     split at hb
     ·rename_i hm
      cases hb
      congr 2
      have:(UInt8.ofNat m.toNat).toNat=m.toNat:=by
       rw[UInt8.toNat_ofNat']; omega
      rw[this]; omega
     ·cases hb
    ·cases hb
   | succ i=>simp at hx; obtain⟨b',g1,g2⟩:=h2 i x hx; exact⟨b',by simpa using g1,g2⟩
  ·cases h
theorem rows_cells (hR:Rel lo Tch φ σ T L h a.tmps w)(hv:RepD φ σ v rv){src:Option Nat}{sz:Nat}{rows:List (List DV)}(hrow:rowsOf h v=some (src,sz,rows)) :
  (rv=.slice none 0 0∧rows=[]∧v=.imm .nils)∨
  ∃ ad cap,rv=.slice (some ad) rows.length cap∧rows.length≤cap∧(∀ r∈rows,r.length=sz)∧
   ∀ (i j:Nat) r c,rows[i]?=some r→r[j]?=some c→∃ cv,w.cell? (ad.add (i*sz+j))=some cv∧cv.oneCell'=true∧RepD φ σ c cv:=by
 cases hv with
 | imm hi=>
  cases hi with
  | nils=>simp only[rowsOf,Option.some.injEq,Prod.mk.injEq] at hrow; obtain⟨_,_,rfl⟩:=hrow; exact .inl ⟨rfl,rfl,rfl⟩
  | lst cv hcap hfull hsz hc hr=>
   rename_i full sz' es ad cap
   simp only[rowsOf,Option.some.injEq,Prod.mk.injEq] at hrow
   obtain⟨_,rfl,rfl⟩:=hrow
   refine .inr ⟨ad,cap,by simp,by simpa using hcap,fun r hr=>?_,fun i j r c hi hj=>?_⟩
   ·obtain⟨e,he,rfl⟩:=List.mem_map.1 hr
    simp[imms]; exact hsz e he
   ·rw[List.getElem?_map] at hi
    simp only[Option.map_eq_some_iff] at hi
    obtain⟨e,he,rfl⟩:=hi
    obtain⟨x,hx,rfl⟩:=imms_get hj
    obtain⟨hcell,hone⟩:=hc i j e x he hx
    exact⟨cv i j,cell_of_sig hR.sig hcell,hone,.imm (hr i j e x he hx)⟩
  | _=>simp[rowsOf] at hrow
 | sl hbi h1 h2 h3=>
  rename_i id row len cap rcap bi
  simp only[rowsOf] at hrow
  split at hrow
  ·rename_i hb hid
   split at hrow
   ·rename_i hle
    simp only[Option.some.injEq,Prod.mk.injEq] at hrow
    obtain⟨_,rfl,rfl⟩:=hrow
    obtain⟨bi',g1,g2,_⟩:=hR.heap _ _ hid
    rw[hbi] at g1; cases g1
    obtain⟨c,ty,fr,q1,q2,q3,q4,q5⟩:=g2.cells
    have hlen:((hb.rows.drop row).take len).length=len:=by simp; omega
    refine .inr ⟨⟨bi.blk,row*bi.sz,none⟩,rcap,by rw[hlen],by rw[hlen]; omega,fun r hr=>q4 r (List.mem_of_mem_drop (List.mem_of_mem_take hr)),fun i j r x hi hj=>?_⟩
    have hi':i<len:=by rw[← hlen]; exact (List.getElem?_eq_some_iff.1 hi).1
    rw[List.getElem?_take,if_pos hi',List.getElem?_drop] at hi
    obtain⟨cv,s1,s2,s3⟩:=q5 _ r hi j x hj
    refine⟨cv,?_,s2,s3⟩
    rw[add_plain,cell_of_heap q1.1,g2.sz,← s1]
    congr 1
    rw[Nat.add_mul]; omega
   ·cases hrow
  ·cases hrow
 | _=>simp[rowsOf] at hrow
end
end Go.PM
end
section
set_option linter.unusedVariables false
set_option linter.unusedSimpArgs false
namespace Go.PM
section
variable {P:Program}{lo:Nat}{Tch:Nat→Prop}{φ:Phi}{σ:Sig}{G:Nat→Option (List IV)}{T:Nat→Option DV}{L:Nat→Option LV}{h:Nat→Option HB}{a:Act}{w:World}{n:Nat}
def pushed (w:World) (o:Obj):World:={ w with heap:=w.heap.push o }
theorem pushed_size (w:World) (o:Obj):(pushed w o).heap.size=w.heap.size+1:=by simp[pushed]
theorem pushed_get (w:World) (o:Obj):∀ b,b<w.heap.size→(pushed w o).heap[b]?=w.heap[b]?:=fun b hb=>by
 simp only[pushed,Array.getElem?_push,if_neg (show ¬b=w.heap.size by omega)]
theorem pushed_new (w:World) (o:Obj):(pushed w o).heap[w.heap.size]?=some o:=by
 show (w.heap.push o)[w.heap.size]?=some o
 rw[Array.getElem?_push,if_pos rfl]
theorem pushed_fr (w:World) (o:Obj):Fr Tch w (pushed w o):=.push rfl rfl (by rw[pushed_size]; omega) (pushed_get w o)
theorem run_newVar (t:TypeId) (v:Value):(newVar t v).run P w=.ok ⟨w.heap.size,0,none⟩ (pushed w (.cells v.cells t (0,0))):=by simp[newVar,newRow,pushed]
theorem RepDs.at {cs:List DV}{vs:Array Value}(hr:RepDs φ σ cs vs) (hs:cs.all DV.scal=true):CellsAt φ σ vs 0 cs:=fun j v hj=>by
 obtain⟨rv,h1,h2⟩:=hr.get hj
 exact⟨rv,by rw[Nat.zero_add]; exact h1,h2.one (List.all_eq_true.1 hs v (List.mem_of_getElem? hj)),h2⟩
variable {t:TypeId}
theorem boxL_op (hR:Rel lo Tch φ σ T L h a.tmps w) (hT:∀ b,w.heap.size≤b→Tch b) (hf:φ n=none){v:DV}{rv:Value}(hv:RepD φ σ v rv) (hs:v.cells.all DV.scal=true) (dst:Nat) :
  Does P lo Tch φ σ T L h a w n (Instr.box t rv) { v:=.lref dst n 0,lw:=[(dst,.box n v.cells)],n':=n+1,acc:=[.wL dst] }:=by
 have hc:=hv.cells
 have hr:=hR.pushL (h:=h) (L:=L) hT hf (o:=.cells rv.cells t (0,0)) (w':=pushed w _) (pushed_size _ _) (pushed_get _ _) (pushed_new _ _) dst v.cells.length rv.cells.size (.box n v.cells) rfl
  (fun φ' hp=>.box (hR.sigNone (Nat.le_refl _)) (pushed_new _ _) hc.1.symm ((hc.at hs).mono hp (fun _ _ h=>h)))
 refine⟨.pointer (some ⟨w.heap.size,0,none⟩),_,_,σ,by simp[Instr.box,run_newVar],hr,phiPush_grow hR hf _ _,pushed_fr _ _,.lref (bi:=⟨w.heap.size,_,_⟩) (by simp[phiPush]; exact⟨rfl,rfl⟩),Nat.le_succ _⟩
theorem boxH_op (hR:Rel lo Tch φ σ T L h a.tmps w) (hT:∀ b,w.heap.size≤b→Tch b) (hf:φ n=none){v:DV}{rv:Value}(hv:RepD φ σ v rv) (hs:v.cells.all DV.scal=true) (hp:0<v.cells.length) :
  Does P lo Tch φ σ T L h a w n (Instr.box t rv) { v:=.ptr n 0 0,hw:=[(n,some ⟨v.cells.length,[v.cells]⟩)],n':=n+1,acc:=[.wX n] }:=by
 have hc:=hv.cells
 have hr:=hR.pushH (h:=h) hT hf (c:=rv.cells) (t:=t) (w':=pushed w _) (pushed_size _ _) (pushed_get _ _) (pushed_new _ _) ⟨v.cells.length,[v.cells]⟩ hp (by simp[hc.1]) (by simp) (fun i r hi=>by
  cases i with
  | zero=>simp at hi; subst hi; rw[Nat.zero_mul]; exact hc.at hs
  | succ i=>simp at hi)
 refine⟨.pointer (some ⟨w.heap.size,0,none⟩),_,_,σ,by simp[Instr.box,run_newVar],hr,phiPush_grow hR hf _ _,pushed_fr _ _,?_,Nat.le_succ _⟩
 have:=RepD.ptr (φ:=phiPush φ n ⟨w.heap.size,v.cells.length,rv.cells.size⟩) (σ:=σ) (id:=n) (row:=0) (off:=0) (bi:=⟨w.heap.size,v.cells.length,rv.cells.size⟩) (by simp[phiPush])
 simpa using this
variable {z:List IV}
theorem zero_cells(hz:zeroOk P t z=true):∃ i v,P.info? t=some i∧i.zero=some v∧v.cells.size=z.length∧(∀ (j:Nat) x,z[j]?=some x→∃ u,v.cells[j]?=some u∧sameIV u x=true):=by
 unfold zeroOk at hz
 split at hz
 ·rename_i i hi
  split at hz
  ·rename_i v hv
   simp only[Bool.and_eq_true] at hz
   obtain⟨h1,h2⟩:=sameIVs_spec (σ:=fun _=>none) hz.1
   exact⟨i,v,hi,hv,by simpa using h1,fun j x hx=>by obtain⟨u,g1,g2⟩:=h2 j x hx; exact⟨u,by simpa using g1,g2⟩⟩
  ·cases hz
 ·cases hz
theorem run_zeroValue{i:TypeInfo}{v:Value}(hi:P.info? t=some i) (hv:i.zero=some v):(zeroValue t).run P w=.ok v w:=by simp[zeroValue,run_typeInfo hi,hv]
theorem zeroOk_noUndef(hz:zeroOk P t z=true):noUndef z=true:=by
 unfold zeroOk at hz
 split at hz
 ·split at hz
  ·simp only[Bool.and_eq_true] at hz; exact hz.2
  ·cases hz
 ·cases hz
variable {c:Array Value}
theorem zero_at(hz:∀ (j:Nat) x,z[j]?=some x→∃ u,c[j]?=some u∧sameIV u x=true) (hn:noUndef z=true):CellsAt φ σ c 0 (imms z):=fun j v hj=>by
 obtain⟨x,hx,rfl⟩:=imms_get hj
 obtain⟨u,g1,g2⟩:=hz j x hx
 refine⟨u,by rw[Nat.zero_add]; exact g1,oneCell_of_same g2 (fun e=>?_),.imm (sameIV_rep g2)⟩
 have:=List.all_eq_true.1 hn x (List.mem_of_getElem? hx)
 subst e; cases this
theorem alL_op (hR:Rel lo Tch φ σ T L h a.tmps w) (hT:∀ b,w.heap.size≤b→Tch b) (hf:φ n=none)(hz:zeroOk P t z=true) (hn:noUndef z=true) (dst:Nat) :
  Does P lo Tch φ σ T L h a w n (Instr.alloc t true (.tuple #[])) { v:=.lref dst n 0,lw:=[(dst,.box n (imms z))],n':=n+1,acc:=[.wL dst] }:=by
 obtain⟨i,v,hi,hv,hs,hg⟩:=zero_cells hz
 have hr:=hR.pushL (h:=h) (L:=L) hT hf (o:=.cells v.cells t (0,0)) (w':=pushed w _) (pushed_size _ _) (pushed_get _ _) (pushed_new _ _) dst z.length v.cells.size (.box n (imms z)) rfl
  (fun φ' hp=>.box (hR.sigNone (Nat.le_refl _)) (pushed_new _ _) (by simp[imms,hs]) (zero_at hg hn))
 refine⟨.pointer (some ⟨w.heap.size,0,none⟩),_,_,σ,by simp[Instr.alloc,run_zeroValue hi hv,run_newVar],hr,phiPush_grow hR hf _ _,pushed_fr _ _,.lref (bi:=⟨w.heap.size,_,_⟩) (by simp[phiPush]; exact⟨rfl,rfl⟩),Nat.le_succ _⟩
theorem alH_op (hR:Rel lo Tch φ σ T L h a.tmps w) (hT:∀ b,w.heap.size≤b→Tch b) (hf:φ n=none)(hz:zeroOk P t z=true) (hn:noUndef z=true) (hp:0<z.length) :
  Does P lo Tch φ σ T L h a w n (Instr.alloc t true (.tuple #[])) { v:=.ptr n 0 0,hw:=[(n,some ⟨z.length,[imms z]⟩)],n':=n+1,acc:=[.wX n] }:=by
 obtain⟨i,v,hi,hv,hs,hg⟩:=zero_cells hz
 have hr:=hR.pushH (h:=h) hT hf (c:=v.cells) (t:=t) (w':=pushed w _) (pushed_size _ _) (pushed_get _ _) (pushed_new _ _) ⟨z.length,[imms z]⟩ hp (by simp[hs]) (by simp[imms]) (fun i r hi=>by
  cases i with
  | zero=>simp at hi; subst hi; rw[Nat.zero_mul]; exact zero_at hg hn
  | succ i=>simp at hi)
 refine⟨.pointer (some ⟨w.heap.size,0,none⟩),_,_,σ,by simp[Instr.alloc,run_zeroValue hi hv,run_newVar],hr,phiPush_grow hR hf _ _,pushed_fr _ _,?_,Nat.le_succ _⟩
 have:=RepD.ptr (φ:=phiPush φ n ⟨w.heap.size,z.length,v.cells.size⟩) (σ:=σ) (id:=n) (row:=0) (off:=0) (bi:=⟨w.heap.size,z.length,v.cells.size⟩) (by simp[phiPush])
 simpa using this
theorem foldl_set (off:Nat):∀ (vs:List Value) (k:Nat) (cs:Array Value),off+k+vs.length≤cs.size→
  (vs.zipIdx k).foldl (fun cs (x:Value×Nat)=>cs.setIfInBounds (off+x.2) x.1) cs=laidOver cs (off+k) vs
 | [],k,cs,h=>by simp[laidOver]
 | v::vs,k,cs,h=>by
  simp only[List.zipIdx_cons,List.foldl_cons]
  simp at h
  rw[setIf_laidOver cs (off+k) v (by omega),foldl_set off vs (k+1) _ (by rw[laidOver_size (by simp; omega)]; omega)]
  rw[show off+(k+1)=off+k+1 by omega,laidOver_cons cs (off+k) v vs (by omega)]
theorem over_laid {cells cells' p:List DV}{vp:Array Value}{off:Nat}(hc:RepDs φ σ cells c) (hp:RepDs φ σ p vp) (ho:over cells off p=some cells') :
  off+vp.size≤c.size∧RepDs φ σ cells' (laidOver c off vp.toList):=by
 obtain⟨h1,h2,h3⟩:=over_spec ho
 have hcs:=hc.1
 have hps:=hp.1
 have hle:off+vp.toList.length≤c.size:=by simp; omega
 refine⟨by omega,by rw[h2,hc.1,laidOver_size hle],fun i x v hx hv=>?_⟩
 rw[laidOver_get hle] at hv
 rw[h3 i] at hx
 by_cases c1:i<off
 ·rw[if_pos c1] at hx hv; exact hc.2 i x v hx hv
 ·rw[if_neg c1] at hx hv
  by_cases c2:i<off+p.length
  ·rw[if_pos c2] at hx
   rw[if_pos (by simp; omega)] at hv
   exact hp.2 _ x v hx (by simpa using hv)
  ·rw[if_neg c2] at hx
   rw[if_neg (by simp; omega)] at hv
   exact hc.2 i x v hx hv
theorem fill_sim {place:Nat→Option (Nat×Nat)}:∀ (rs:List (Nat×Value)) (ps:List (Nat×Nat×DV)) (cells cells':List DV) (c:Array Value),RepDs φ σ cells c→lay cells ps=some cells'→
  rs.length=ps.length→(∀ (j:Nat) r p,rs[j]?=some r→ps[j]?=some p→place r.1=some (p.1,p.2.1)∧RepD φ σ p.2.2 r.2)→
  ∃ c',Instr.fill place c rs=some c'∧RepDs φ σ cells' c'
 | [],[],cells,cells',c,hc,hl,_,_=>by simp[lay] at hl; subst hl; exact⟨c,rfl,hc⟩
 | (i,v)::rs,(off,k,d)::ps,cells,cells',c,hc,hl,hlen,hj=>by
  obtain⟨hp,hr⟩:=hj 0 _ _ rfl rfl
  simp only at hp hr
  simp only[lay] at hl
  split at hl
  ·rename_i hk
   split at hl
   ·rename_i cells1 ho
    have hd:=hr.cells
    obtain⟨h1,h2⟩:=over_laid hc hd ho
    obtain⟨c',g1,g2⟩:=fill_sim rs ps cells1 cells' _ h2 hl (by simpa using hlen) (fun j r p h1 h2=>hj (j+1) r p (by simpa using h1) (by simpa using h2))
    refine⟨c',?_,g2⟩
    have hsz:v.cells.size=k:=by rw[← hd.1]; exact hk
    unfold Instr.fill
    simp only[hp]
    rw[if_neg (by simp[hsz]; omega)]
    have:=foldl_set off v.cells.toList 0 c (by simp; omega)
    rw[Nat.add_zero] at this
    rw[← Array.foldl_toList,Array.toList_zipIdx,this]
    exact g1
   ·cases hl
  ·cases hl
 | [],_::_,_,_,_,_,_,h,_=>by simp at h
 | _::_,[],_,_,_,_,_,h,_=>by simp at h
theorem evParts_rep (hR:Rel lo Tch φ σ T L h a.tmps w) (hG:GRel σ G){fs:Array Field}:∀ {ps:List (Nat×Operand)}{qs:List (Nat×Nat×Opd)},partsOk P fs ps qs=true→∀ {vs:List (Nat×Nat×DV)},evParts G T qs=some vs→
  ps.length=vs.length∧∀ (j:Nat) r p,(ps.map fun x=>(x.1,a.eval x.2))[j]?=some r→vs[j]?=some p→
   (∃ f,fs[r.1]?=some f∧f.offset=p.1∧szOk P f.type p.2.1=true)∧RepD φ σ p.2.2 r.2
 | [],[],_,vs,hv=>by simp[evParts] at hv; subst hv; exact⟨rfl,fun j r p h1 _=>by simp at h1⟩
 | (i,x)::ps,(off,k,y)::qs,hok,vs,hv=>by
  simp only[partsOk,Bool.and_eq_true] at hok
  obtain⟨⟨h1,h2⟩,h3⟩:=hok
  simp only[evParts] at hv
  split at hv
  ·rename_i v vs' e1 e2
   cases hv
   obtain⟨hl,hr⟩:=evParts_rep hR hG h3 e2
   refine⟨by simp[hl],fun j r p hj hp=>?_⟩
   cases j with
   | zero=>
    simp at hj hp; subst hj hp
    refine⟨?_,ev_rep hR hG h2 e1⟩
    split at h1
    ·rename_i f hf; simp at h1; exact⟨f,hf,h1.1,h1.2⟩
    ·cases h1
   | succ j=>simp at hj hp; exact hr j r p (by simpa using hj) hp
  ·cases hv
 | [],_::_,hok,_,_=>by simp[partsOk] at hok
 | _::_,[],hok,_,_=>by simp[partsOk] at hok
theorem evPartsA_rep (hR:Rel lo Tch φ σ T L h a.tmps w) (hG:GRel σ G){el:TypeId}{m:Nat}:∀ {ps:List (Nat×Operand)}{qs:List (Nat×Nat×Opd)},partsAOk el m ps qs=true→∀ {vs:List (Nat×Nat×DV)},evParts G T qs=some vs→
  ps.length=vs.length∧∀ (j:Nat) r p,(ps.map fun x=>(x.1,a.eval x.2))[j]?=some r→vs[j]?=some p→(p.1=r.1*m∧p.2.1=m)∧RepD φ σ p.2.2 r.2
 | [],[],_,vs,hv=>by simp[evParts] at hv; subst hv; exact⟨rfl,fun j r p h1 _=>by simp at h1⟩
 | (i,x)::ps,(off,k,y)::qs,hok,vs,hv=>by
  simp only[partsAOk,Bool.and_eq_true,beq_iff_eq] at hok
  obtain⟨⟨⟨h1,h1'⟩,h2⟩,h3⟩:=hok
  simp only[evParts] at hv
  split at hv
  ·rename_i v vs' e1 e2
   cases hv
   obtain⟨hl,hr⟩:=evPartsA_rep hR hG h3 e2
   refine⟨by simp[hl],fun j r p hj hp=>?_⟩
   cases j with
   | zero=>simp at hj hp; subst hj hp; exact⟨⟨h1,h1'⟩,ev_rep hR hG h2 e1⟩
   | succ j=>simp at hj hp; exact hr j r p (by simpa using hj) hp
  ·cases hv
 | [],_::_,hok,_,_=>by simp[partsAOk] at hok
 | _::_,[],hok,_,_=>by simp[partsAOk] at hok
theorem evPartsS_rep (hR:Rel lo Tch φ σ T L h a.tmps w) (hG:GRel σ G):∀ {ps:List (Nat×Operand)}{qs:List (Nat×Opd)},partsSOk ps qs=true→∀ {vs:List (Nat×DV)},evParts2 G T qs=some vs→
  ps.length=vs.length∧∀ (j:Nat) r p,(ps.map fun x=>(x.1,a.eval x.2))[j]?=some r→vs[j]?=some p→p.1=r.1∧RepD φ σ p.2 r.2
 | [],[],_,vs,hv=>by simp[evParts2] at hv; subst hv; exact⟨rfl,fun j r p h1 _=>by simp at h1⟩
 | (i,x)::ps,(k,y)::qs,hok,vs,hv=>by
  simp only[partsSOk,Bool.and_eq_true,beq_iff_eq] at hok
  obtain⟨⟨h1,h2⟩,h3⟩:=hok
  simp only[evParts2] at hv
  split at hv
  ·rename_i v vs' e1 e2
   cases hv
   obtain⟨hl,hr⟩:=evPartsS_rep hR hG h3 e2
   refine⟨by simp[hl],fun j r p hj hp=>?_⟩
   cases j with
   | zero=>simp at hj hp; subst hj hp; exact⟨h1.symm,ev_rep hR hG h2 e1⟩
   | succ j=>simp at hj hp; exact hr j r p (by simpa using hj) hp
  ·cases hv
 | [],_::_,hok,_,_=>by simp[partsSOk] at hok
 | _::_,[],hok,_,_=>by simp[partsSOk] at hok
theorem zero_reps(hs:c.size=z.length) (hz:∀ (j:Nat) x,z[j]?=some x→∃ u,c[j]?=some u∧sameIV u x=true):RepDs φ σ (imms z) c:=by
 refine⟨by simp[imms,hs],fun i x v hx hv=>?_⟩
 obtain⟨y,hy,rfl⟩:=imms_get hx
 obtain⟨u,g1,g2⟩:=hz i y hy
 rw[g1] at hv; cases hv
 exact .imm (sameIV_rep g2)
theorem map_pair_toList (ps:Array (Nat×Operand)):(ps.map fun (i,x)=>(i,a.eval x)).toList=ps.toList.map fun x=>(x.1,a.eval x.2):=by simp
theorem run_placesL (g:Field→Sem (Nat×Nat)) (hgf:∀ f inf,P.info? f.type=some inf→(g f).run P w=.ok (f.offset,inf.size) w):∀ (l:List Field),(∀ f∈l,(P.info? f.type).isSome=true)→
  (l.mapM g).run P w=.ok (l.map fun f=>(f.offset,((P.info? f.type).map (·.size)).getD 0)) w
 | [],_=>by simp
 | f::l,hall=>by
  obtain⟨inf,hinf⟩:=Option.isSome_iff_exists.1 (hall f (by simp))
  have ih:=run_placesL g hgf l (fun x hx=>hall x (by simp[hx]))
  rw[List.mapM_cons]
  simp only[Sem.run_bind,hgf f inf hinf,Result.andThen_ok,ih,Sem.run_pure,List.map_cons,hinf,Option.map_some,Option.getD_some]
theorem run_places (fs:Array Field) (h1:allSz P fs=true):(fs.mapM (fun f=>(do pure (f.offset,← sizeOf f.type):Sem (Nat×Nat)))).run P w=.ok (fs.map fun f=>(f.offset,((P.info? f.type).map (·.size)).getD 0)) w:=by
 have:=run_placesL (P:=P) (w:=w) (fun f=>(do pure (f.offset,← sizeOf f.type):Sem (Nat×Nat))) (fun f inf hinf=>by simp[sizeOf,run_typeInfo hinf]) fs.toList (fun f hf=>by
  have:=Array.all_eq_true_iff_forall_mem.1 h1 f (by simpa using hf); exact this)
 rw[Array.mapM_eq_mapM_toList]
 rw[Sem.run_map,this]
 simp only[Result.andThen_ok]
 congr 1
 apply Array.ext'
 rw[Array.toList_map]
theorem build_op (hR:Rel lo Tch φ σ T L h a.tmps w) (hG:GRel σ G){ps:Array (Nat×Operand)}{qs:List (Nat×Nat×Opd)}(hz:zeroOk P t z=true)
  (hok:(match P.underlying t with
   | some (.struct fs)=>allSz P fs&&partsOk P fs ps.toList qs
   | some (.array _ e)=>(match P.info? e with | some i=>partsAOk e i.size ps.toList qs | none=>false)
   | _=>false)=true){vs:List (Nat×Nat×DV)}(hvs:evParts G T qs=some vs){e:Eff}(he:give n ((lay (imms z) vs).map .agg)=some e) :
  Does P lo Tch φ σ T L h a w n (Instr.build t (ps.map fun (i,x)=>(i,a.eval x))) e:=by
 obtain⟨i,v,hi,hv,hs,hg⟩:=zero_cells hz
 simp only[give,Option.map_map,Option.map_eq_some_iff,Function.comp] at he
 obtain⟨cells,hlay,rfl⟩:=he
 have hzr:RepDs φ σ (imms z) v.cells:=zero_reps hs hg
 split at hok
 ·rename_i fs hu
  simp only[Bool.and_eq_true] at hok
  obtain⟨h1,h2⟩:=hok
  obtain⟨hl,hr⟩:=evParts_rep (P:=P) hR hG h2 hvs
  have hpl:=run_places (w:=w) fs h1
  obtain⟨c',g1,g2⟩:=fill_sim (φ:=φ) (σ:=σ) (place:=fun k=>(fs.map fun f=>(f.offset,((P.info? f.type).map (·.size)).getD 0))[k]?) (ps.toList.map fun x=>(x.1,a.eval x.2)) vs (imms z) cells v.cells hzr hlay (by simpa using hl)
   (fun j r p h1 h2=>by
    obtain⟨⟨f,q1,q2,q3⟩,q4⟩:=hr j r p h1 h2
    refine⟨?_,q4⟩
    unfold szOk at q3
    split at q3
    ·rename_i inf hinf
     simp at q3
     simp[q1,q2,hinf,q3]
    ·cases q3)
  refine .pure hR (rv:=.agg c') ?_ (.agg g2.1 g2.2)
  simp only[Instr.build,Sem.run_bind,run_zeroValue hi hv,Result.andThen_ok,run_underlying' hu,hpl,map_pair_toList,g1,Sem.run_pure]
 ·rename_i m el hu
  split at hok
  ·rename_i inf hinf
   obtain⟨hl,hr⟩:=evPartsA_rep hR hG hok hvs
   obtain⟨c',g1,g2⟩:=fill_sim (φ:=φ) (σ:=σ) (place:=fun i=>some (i*inf.size,inf.size)) (ps.toList.map fun x=>(x.1,a.eval x.2)) vs (imms z) cells v.cells hzr hlay (by simpa using hl)
    (fun j r p h1 h2=>by obtain⟨⟨q1,q2⟩,q3⟩:=hr j r p h1 h2; exact⟨by rw[q1,q2],q3⟩)
   refine .pure hR (rv:=.agg c') ?_ (.agg g2.1 g2.2)
   simp only[Instr.build,Sem.run_bind,run_zeroValue hi hv,Result.andThen_ok,run_underlying' hu,sizeOf,run_typeInfo hinf,map_pair_toList,g1,Sem.run_pure]
  ·cases hok
 ·cases hok
end
end Go.PM
end
section
set_option linter.unusedVariables false
set_option linter.unusedSimpArgs false
namespace Go.PM
section
variable {P:Program}{lo:Nat}{Tch:Nat→Prop}{φ:Phi}{σ:Sig}{G:Nat→Option (List IV)}{T:Nat→Option DV}{L:Nat→Option LV}{h:Nat→Option HB}{a:Act}{w:World}{n:Nat}
variable {s:Nat} {t:TypeId}
theorem imm_slice (hR:Rel lo Tch φ σ T L h a.tmps w){c:Array Value}{fr:Nat×Nat} {cap:Nat}{full:Bool}{rows:List (List IV)}{sm:Sem Value}{w':World}
  (hsz:w'.heap.size=w.heap.size+1) (hget:∀ b,b<w.heap.size→w'.heap[b]?=w.heap[b]?) (hnew:w'.heap[w.heap.size]?=some (.cells c t fr)) (hos:w'.os=w.os) (hout:w'.output=w.output)
  (hrun:sm.run P w=.ok (.slice (some ⟨w.heap.size,0,none⟩) rows.length cap) w') (hcap:rows.length≤cap) (hfull:full=true→cap=rows.length) (hs:∀ r∈rows,r.length=s)
  (hc:∀ (i j:Nat) r x,rows[i]?=some r→r[j]?=some x→∃ u,c[i*s+j]?=some u∧u.oneCell'=true∧RepI σ x u){acc:List Acc} :
  Does P lo Tch φ σ T L h a w n sm { v:=.imm (.lst full s rows),n':=n,acc }:=by
 obtain⟨hr,hg⟩:=hR.pushSig (n:=n) hsz hget hnew
 refine⟨_,w',φ,_,hrun,hr,hg,.push hos hout (by omega) hget,.imm ?_,Nat.le_refl _⟩
 have hch:∀ i j:Nat,∃ u,∀ r x,rows[i]?=some r→r[j]?=some x→c[i*s+j]?=some u∧u.oneCell'=true∧RepI σ x u:=fun i j=>by
  cases hi:rows[i]? with
  | none=>exact⟨undef,fun r x h1 _=>by cases h1⟩
  | some r=>
   cases hj:r[j]? with
   | none=>exact⟨undef,fun r' x h1 h2=>by cases h1; rw[hj] at h2; cases h2⟩
   | some x=>obtain⟨u,hu⟩:=hc i j r x hi hj; exact⟨u,fun r' x' h1 h2=>by cases h1; rw[hj] at h2; cases h2; exact hu⟩
 have h1:∀ i,∃ f:Nat→Value,∀ j r x,rows[i]?=some r→r[j]?=some x→c[i*s+j]?=some (f j)∧(f j).oneCell'=true∧RepI σ x (f j):=fun i=>Classical.axiomOfChoice (hch i)
 obtain⟨cv,hcv⟩:=Classical.axiomOfChoice h1
 refine .lst cv hcap hfull hs (fun i j e x hi hj=>⟨?_,(hcv i j e x hi hj).2.1⟩) (fun i j e x hi hj=>(hcv i j e x hi hj).2.2.mono hg.sg)
 rw[add_plain,Nat.zero_add]
 simp only[Sig.cell,sigPush,if_pos,Option.isSome_none,Bool.false_eq_true,if_false]
 exact (hcv i j e x hi hj).1
theorem mut_slice (hR:Rel lo Tch φ σ T L h a.tmps w) (hT:∀ b,w.heap.size≤b→Tch b) (hf:φ n=none){c:Array Value} {cap:Nat}{rows:List (List DV)}{sm:Sem Value}{w':World}
  (hsz:w'.heap.size=w.heap.size+1) (hget:∀ b,b<w.heap.size→w'.heap[b]?=w.heap[b]?) (hnew:w'.heap[w.heap.size]?=some (.cells c t (0,0))) (hos:w'.os=w.os) (hout:w'.output=w.output)
  (hrun:sm.run P w=.ok (.slice (some ⟨w.heap.size,0,none⟩) rows.length cap) w') (hcap:rows.length≤cap) (hcs:cap*s≤c.size) (hpos:0<s) (hs:∀ r∈rows,r.length=s)
  (hc:∀ (i:Nat) r,rows[i]?=some r→CellsAt φ σ c (i*s) r){acc:List Acc} :
  Does P lo Tch φ σ T L h a w n sm { v:=.sl n 0 rows.length rows.length,hw:=[(n,some ⟨s,rows⟩)],n':=n+1,acc }:=by
 have hle:rows.length*s≤c.size:=Nat.le_trans (Nat.mul_le_mul_right _ hcap) hcs
 have hr:=hR.pushH (h:=h) hT hf (w':=w') hsz hget hnew ⟨s,rows⟩ hpos hle hs hc
 refine⟨_,w',_,σ,hrun,hr,phiPush_grow hR hf _ _,.push hos hout (by omega) hget,?_,Nat.le_succ _⟩
 have:=RepD.sl (φ:=phiPush φ n ⟨w.heap.size,s,c.size⟩) (σ:=σ) (id:=n) (row:=0) (len:=rows.length) (cap:=rows.length) (rcap:=cap) (bi:=⟨w.heap.size,s,c.size⟩) (by simp[phiPush]) (Nat.le_refl _) hcap (by simpa using hcs)
 simpa using this
theorem flat_get {α:Type}{xs:List α}:∀ (m k:Nat),k<m*xs.length→((List.replicate m xs).flatten)[k]?=xs[k % xs.length]?
 | 0,k,hk=>by simp at hk
 | m+1,k,hk=>by
  rw[List.replicate_succ,List.flatten_cons,List.getElem?_append]
  split
  ·rename_i h1; rw[Nat.mod_eq_of_lt h1]
  ·rename_i h1
   have:xs.length≤k:=by omega
   rw[flat_get m (k - xs.length) (by rw[Nat.add_mul,Nat.one_mul] at hk; omega),Nat.mod_eq_sub_mod this]
theorem flat_len {α:Type}{xs:List α}(m:Nat):((List.replicate m xs).flatten).length=m*xs.length:=by simp
theorem range_get (z:Array Value) (m k:Nat):((Array.range m).map (fun i=>z[i % z.size]!))[k]?=if k<m then some z[k % z.size]! else none:=by
 simp only[Array.getElem?_map,Array.getElem?_range]
 split <;> simp
theorem rowsN_spec {α:Type}(s:Nat):∀ (m:Nat) (xs:List α),xs.length=m*s→(rowsN s m xs).length=m∧(∀ r∈rowsN s m xs,r.length=s)∧
  ∀ (i j:Nat) r x,(rowsN s m xs)[i]?=some r→r[j]?=some x→xs[i*s+j]?=some x
 | 0,xs,_=>⟨rfl,fun r hr=>by simp[rowsN] at hr,fun i j r x hi _=>by simp[rowsN] at hi⟩
 | m+1,xs,hl=>by
  have hl':(xs.drop s).length=m*s:=by rw[List.length_drop,hl,Nat.add_mul,Nat.one_mul]; omega
  have hle:s≤xs.length:=by rw[hl,Nat.add_mul,Nat.one_mul]; omega
  obtain⟨h1,h2,h3⟩:=rowsN_spec s m (xs.drop s) hl'
  refine⟨by simp[rowsN,h1],fun r hr=>?_,fun i j r x hi hj=>?_⟩
  ·simp only[rowsN,List.mem_cons] at hr
   rcases hr with rfl | hr
   ·simp; omega
   ·exact h2 r hr
  ·cases i with
   | zero=>
    simp only[rowsN,List.getElem?_cons_zero,Option.some.injEq] at hi
    subst hi
    rw[List.getElem?_take] at hj
    split at hj
    ·rw[Nat.zero_mul,Nat.zero_add]; exact hj
    ·cases hj
   | succ i=>
    simp only[rowsN,List.getElem?_cons_succ] at hi
    have:=h3 i j r x hi hj
    rw[List.getElem?_drop] at this
    rw[← this]; congr 1
    rw[Nat.add_mul,Nat.one_mul]; omega
theorem mapO_spec {α β:Type}{f:α→Option β}:∀ {xs:List α}{ys:List β},mapO f xs=some ys→ys.length=xs.length∧∀ (i:Nat) y,ys[i]?=some y→∃ x,xs[i]?=some x∧f x=some y
 | [],ys,h=>by simp[mapO] at h; subst h; exact⟨rfl,fun i y hy=>by simp at hy⟩
 | x::xs,ys,h=>by
  unfold mapO at h
  split at h
  ·rename_i y ys' h1 h2
   cases h
   obtain⟨g1,g2⟩:=mapO_spec h2
   refine⟨by simp[g1],fun i z hz=>?_⟩
   cases i with
   | zero=>simp at hz; subst hz; exact⟨x,rfl,h1⟩
   | succ i=>simp at hz; obtain⟨u,q1,q2⟩:=g2 i z hz; exact⟨u,by simpa using q1,q2⟩
  ·cases h
theorem mapO_back {α β:Type}{f:α→Option β}{xs:List α}{ys:List β}(h:mapO f xs=some ys){i:Nat}{x:α}(hx:xs[i]?=some x):∃ y,ys[i]?=some y∧f x=some y:=by
 obtain⟨h1,h2⟩:=mapO_spec h
 have hi:i<ys.length:=by rw[h1]; exact (List.getElem?_eq_some_iff.1 hx).1
 obtain⟨x',q1,q2⟩:=h2 i ys[i] (List.getElem?_eq_getElem hi)
 rw[hx] at q1; cases q1
 exact⟨ys[i],List.getElem?_eq_getElem hi,q2⟩
theorem unImm_spec {v:DV}{i:IV}(h:unImm v=some i):v=.imm i:=by
 unfold unImm at h; split at h
 ·cases h; rfl
 ·cases h
theorem over_len:∀ {ps:List (Nat×Nat×DV)}{cells cells':List DV},lay cells ps=some cells'→cells'.length=cells.length
 | [],_,_,h=>by simp[lay] at h; subst h; rfl
 | (off,k,v)::ps,cells,cells',h=>by
  simp only[lay] at h
  split at h
  ·split at h
   ·rename_i c1 ho
    rw[over_len h,(over_spec ho).2.1]
   ·cases h
  ·cases h
theorem bsl_op (hR:Rel lo Tch φ σ T L h a.tmps w) (hG:GRel σ G) (hT:∀ b,w.heap.size≤b→Tch b){ps:Array (Nat×Operand)}{z:List IV}{qs:List (Nat×Opd)}{mt:Bool} {len:Nat}
  (hok:(match P.underlying t with | some (.slice e)=>szOk P e s&&zeroOk P e z&&len*s≤2 ^ 24 | _=>false)=true) (hps:partsSOk ps.toList qs=true)
  {vs:List (Nat×DV)}(hvs:evParts2 G T qs=some vs){e:Eff}
  (he:(if 0<s∧z.length=s then
    match lay ((List.replicate len (imms z)).flatten) (vs.map fun p=>(p.1*s,s,p.2)) with
    | some cells=>
     if cells.all DV.scal then
      match (if mt then none else unImms cells) with
      | some us=>giveI n (some (.lst true s (rowsN s len us)))
      | none=>if DV.out.outs cells∧0<len then some { v:=.sl n 0 len len,hw:=[(n,some ⟨s,rowsN s len cells⟩)],n':=n+1,acc:=[.wX n] } else none
     else none
    | none=>none
   else none)=some e) (hF:Fresh φ n e.n'):Does P lo Tch φ σ T L h a w n (Instr.buildSlice t len (ps.map fun (i,x)=>(i,a.eval x))) e:=by
 split at he
 ·rename_i hsz
  obtain⟨hpos,hzl⟩:=hsz
  split at he
  ·rename_i cells hlay
   split at he
   ·rename_i hscal
    split at hok
    ·rename_i el hu
     simp only[Bool.and_eq_true,decide_eq_true_eq] at hok
     obtain⟨⟨h1,h2⟩,h3⟩:=hok
     obtain⟨i,v,hi,hv,hs,hg⟩:=zero_cells h2
     have hz0:RepDs φ σ ((List.replicate len (imms z)).flatten) ((Array.range (len*s)).map (fun k=>(if len*s=0 then #[] else v.cells)[k % (if len*s=0 then (#[]:Array Value) else v.cells).size]!)):=by
      refine⟨by simp[imms,hzl],fun k c u hk hu=>?_⟩
      have hk':k<len*s:=by
       have:=(List.getElem?_eq_some_iff.1 hk).1
       rw[flat_len] at this; simpa [imms,hzl] using this
      have hne:¬len*s=0:=by omega
      rw[range_get,if_pos hk'] at hu
      simp only[hne,if_false,Option.some.injEq] at hu
      rw[flat_get len k (by simpa [imms,hzl] using hk')] at hk
      obtain⟨x,hx,rfl⟩:=imms_get hk
      have hlen:(imms z).length=v.cells.size:=by simp[imms,hs]
      rw[hlen] at hx
      obtain⟨y,q1,q2⟩:=hg _ x hx
      rw[getElem!_def,q1] at hu
      subst hu
      exact .imm (sameIV_rep q2)
     obtain⟨hl,hr⟩:=evPartsS_rep hR hG hps hvs
     obtain⟨c',g1,g2⟩:=fill_sim (φ:=φ) (σ:=σ) (place:=fun i=>some (i*s,s)) (ps.toList.map fun x=>(x.1,a.eval x.2)) (vs.map fun p=>(p.1*s,s,p.2)) _ cells _ hz0 hlay (by simpa using hl)
      (fun j r p h1 h2=>by
       rw[List.getElem?_map] at h2
       simp only[Option.map_eq_some_iff] at h2
       obtain⟨q,hq,rfl⟩:=h2
       obtain⟨q1,q2⟩:=hr j r q h1 hq
       exact⟨by rw[q1],q2⟩)
     have hrun:(Instr.buildSlice t len (ps.map fun (i,x)=>(i,a.eval x))).run P w=.ok (.slice (some ⟨w.heap.size,0,none⟩) len len) (pushed w (.cells c' el (0,0))):=by
      simp only[Instr.buildSlice,Sem.run_bind,run_underlying' hu,Result.andThen_ok,run_sizeOf h1]
      rw[if_neg (by omega)]
      by_cases h0:len*s=0
      ·rw[if_pos h0] at g1
       rw[if_pos h0]
       simp only[Sem.run_bind,Sem.run_pure,Result.andThen_ok,map_pair_toList]
       rw[g1]
       simp[newRow,pushed]
      ·rw[if_neg h0] at g1
       rw[if_neg h0]
       simp only[Sem.run_bind,Sem.run_pure,Result.andThen_ok,run_zeroValue hi hv,map_pair_toList]
       rw[g1]
       simp[newRow,pushed]
     have hclen:cells.length=len*s:=by rw[g2.1]; have:=g2.1; have hfl:=over_len hlay; rw[flat_len] at hfl; simp[imms,hzl] at hfl; omega
     split at he
     ·rename_i us hus
      simp only[giveI,Option.map_some,Option.some.injEq] at he; subst he
      have hus':mapO unImm cells=some us:=by
       split at hus
       ·cases hus
       ·exact hus
      obtain⟨m1,m2⟩:=mapO_spec hus'
      obtain⟨r1,r2,r3⟩:=rowsN_spec s len us (by rw[m1,hclen])
      rw[show len=(rowsN s len us).length from r1.symm] at hrun
      refine imm_slice hR (pushed_size _ _) (pushed_get _ _) (pushed_new _ _) rfl rfl (by rw[r1] at hrun ⊢; exact hrun) (Nat.le_refl _) (fun _=>rfl) r2 (fun i j r x hi hj=>?_)
      have:=r3 i j r x hi hj
      obtain⟨d,d1,d2⟩:=m2 _ x this
      obtain⟨u,q1,q2⟩:=g2.get d1
      have:=unImm_spec d2
      subst this
      exact⟨u,q1,q2.one (List.all_eq_true.1 hscal _ (List.mem_of_getElem? d1)),repD_imm q2⟩
     ·split at he
      ·rename_i ho
       cases he
       obtain⟨r1,r2,r3⟩:=rowsN_spec s len cells hclen
       have:=mut_slice (n:=n) hR hT (hF n (Nat.le_refl _) (Nat.lt_succ_self _)) (rows:=rowsN s len cells) (cap:=len) (sm:=Instr.buildSlice t len (ps.map fun (i,x)=>(i,a.eval x))) (pushed_size _ _) (pushed_get _ _) (pushed_new _ (.cells c' el (0,0))) rfl rfl
        (by rw[r1]; exact hrun) (by rw[r1]; exact Nat.le_refl _) (by rw[← g2.1,hclen]; exact Nat.le_refl _) hpos r2 (fun i r hi j x hj=>by
         have:=r3 i j r x hi hj
         obtain⟨u,q1,q2⟩:=g2.get this
         exact⟨u,q1,q2.one (List.all_eq_true.1 hscal _ (List.mem_of_getElem? this)),q2⟩) (acc:=[.wX n])
       rw[r1] at this
       exact this
      ·cases he
    ·cases hok
   ·cases he
  ·cases he
 ·cases he
end
end Go.PM
end
section
set_option linter.unusedVariables false
set_option linter.unusedSimpArgs false
namespace Go.PM
section
variable {P:Program}{lo:Nat}{Tch:Nat→Prop}{φ:Phi}{σ:Sig}{G:Nat→Option (List IV)}{T:Nat→Option DV}{L:Nat→Option LV}{h:Nat→Option HB}{a:Act}{w:World}{n:Nat}
variable {m s:Nat}
theorem zero_range {z:List IV}{v:Value}(hzl:z.length=s) (hs:v.cells.size=z.length) (hg:∀ (j:Nat) x,z[j]?=some x→∃ u,v.cells[j]?=some u∧sameIV u x=true) (hn:noUndef z=true)
  {i j:Nat}{x:IV}(hi:i<m) (hj:z[j]?=some x) :
  ∃ u,((Array.range (m*s)).map (fun k=>v.cells[k % v.cells.size]!))[i*s+j]?=some u∧u.oneCell'=true∧RepI σ x u:=by
 have hjs:j<s:=by rw[← hzl]; exact (List.getElem?_eq_some_iff.1 hj).1
 have hlt:i*s+j<m*s:=by
  have:(i+1)*s≤m*s:=Nat.mul_le_mul_right _ hi
  rw[Nat.add_mul,Nat.one_mul] at this; omega
 obtain⟨u,q1,q2⟩:=hg j x hj
 refine⟨u,?_,oneCell_of_same q2 (fun e=>?_),sameIV_rep q2⟩
 ·rw[range_get,if_pos hlt,hs,hzl]
  have:(i*s+j) % s=j:=by rw[Nat.mul_comm,Nat.mul_add_mod]; exact Nat.mod_eq_of_lt hjs
  rw[this,getElem!_def,q1]
 ·have:=List.all_eq_true.1 hn x (List.mem_of_getElem? hj)
  subst e; cases this
theorem run_makeSlice {t el:TypeId}{k k':IntKind} {b:Nat}{v:Value}{i:TypeInfo}(hu:P.underlying t=some (.slice el)) (hi:P.info? el=some i) (hs:szOk P el s=true) (hb:i.bytes=b) (hv:i.zero=some v)
  (hm:m≤appMax) (hmb:m*b≤appMax) :
  (Instr.makeSlice t (.int k (m:Int)) (.int k' (m:Int))).run P w=.ok (.slice (some ⟨w.heap.size,0,none⟩) m m) (pushed w (.cells ((Array.range (m*s)).map (fun j=>(if m*s=0 then #[] else v.cells)[j % (if m*s=0 then (#[]:Array Value) else v.cells).size]!)) el (0,0))):=by
 have hw:IntKind.i64.wrap (m:Int)=m:=IntWalk.i64_in _ (by unfold appMax at hm; omega)
 have hbm:¬((b:Int)*(m:Int) > 2 ^ 48):=by
  have:b*m≤appMax:=by rw[Nat.mul_comm]; exact hmb
  unfold appMax at this
  have:((b*m:Nat):Int)≤((2 ^ 40:Nat):Int):=by exact_mod_cast this
  rw[Int.natCast_mul] at this
  omega
 have hsz:∀ w,(sizeOf el).run P w=.ok s w:=run_sizeOf hs
 have hdec:(decide ((m:Int)<0)||decide ((b:Int)*(m:Int) > 2 ^ 48))=false:=by
  simp only[Bool.or_eq_false_iff,decide_eq_false_iff_not]
  exact⟨by omega,hbm⟩
 simp only[Instr.makeSlice,Sem.run_bind,run_underlying' hu,Result.andThen_ok,asInt,run_asIntOf,Sem.run_pure,run_typeInfo hi,hb,hw,hdec,Bool.false_or]
 rw[if_neg (by simp)]
 simp only[Sem.run_bind,run_askRoom,Result.andThen_ok,hsz,Int.toNat_natCast]
 by_cases h0:m*s=0
 ·simp only[h0,if_true,Sem.run_bind,Sem.run_pure,Result.andThen_ok]
  simp[newRow,pushed]
 ·simp only[h0,if_false,Sem.run_bind,Sem.run_pure,Result.andThen_ok,run_zeroValue hi hv]
  simp[newRow,pushed]
theorem range_zero_if (v:Value) (m s:Nat):(Array.range (m*s)).map (fun j=>(if m*s=0 then #[] else v.cells)[j % (if m*s=0 then (#[]:Array Value) else v.cells).size]!)=(Array.range (m*s)).map (fun j=>v.cells[j % v.cells.size]!):=by
 by_cases h0:m*s=0
 ·rw[h0]; simp
 ·simp only[h0,if_false]
theorem mks_op (hR:Rel lo Tch φ σ T L h a.tmps w) (hT:∀ b,w.heap.size≤b→Tch b){t:TypeId} {b:Nat}{z:List IV}{mt:Bool}(hn:noUndef z=true)
  (hok:(match P.underlying t with | some (.slice e)=>szOk P e s&&btOk P e b&&zeroOk P e z | _=>false)=true){d:DV}{rv rv':Value}(hd:RepD φ σ d rv) (hd':RepD φ σ d rv')(hm:asNat d=some m){e:Eff}
  (he:(if 0<s∧z.length=s∧m≤appMax∧m*b≤appMax then
     if mt then some { v:=.sl n 0 m m,hw:=[(n,some ⟨s,List.replicate m (imms z)⟩)],n':=n+1,acc:=[.wX n] }
     else giveI n (some (.lst true s (List.replicate m z)))
    else none)=some e) (hF:Fresh φ n e.n'):Does P lo Tch φ σ T L h a w n (Instr.makeSlice t rv rv') e:=by
 obtain⟨k,rfl⟩:=asNat_spec hm hd
 obtain⟨k',rfl⟩:=asNat_spec hm hd'
 split at he
 ·rename_i hc
  obtain⟨hpos,hzl,hm1,hm2⟩:=hc
  split at hok
  ·rename_i el hu
   simp only[Bool.and_eq_true] at hok
   obtain⟨⟨h1,h2⟩,h3⟩:=hok
   obtain⟨i,v,hi,hv,hs,hg⟩:=zero_cells h3
   have hb:i.bytes=b:=by
    unfold btOk at h2; rw[hi] at h2; simpa using h2
   have hrun:=run_makeSlice (w:=w) (k:=k) (k':=k') hu hi h1 hb hv hm1 hm2
   rw[range_zero_if] at hrun
   split at he
   ·cases he
    have:=mut_slice (n:=n) hR hT (hF n (Nat.le_refl _) (Nat.lt_succ_self _)) (rows:=List.replicate m (imms z)) (cap:=m) (s:=s) (sm:=Instr.makeSlice t (.int k (m:Int)) (.int k' (m:Int))) (pushed_size _ _) (pushed_get _ _) (pushed_new _ _) rfl rfl
     (by rw[List.length_replicate]; exact hrun) (by simp) (by simp) hpos (fun r hr=>by rw[List.eq_of_mem_replicate hr]; simp[imms,hzl]) (fun i' r hi' j x hj=>by
      have hlt:i'<m:=by have:=(List.getElem?_eq_some_iff.1 hi').1; simpa using this
      have:r=imms z:=List.eq_of_mem_replicate (List.mem_of_getElem? hi')
      subst this
      obtain⟨y,hy,rfl⟩:=imms_get hj
      obtain⟨u,q1,q2,q3⟩:=zero_range (σ:=σ) (m:=m) hzl hs hg hn hlt hy
      exact⟨u,q1,q2,.imm q3⟩) (acc:=[.wX n])
    rw[List.length_replicate] at this
    exact this
   ·simp only[giveI,Option.map_some,Option.some.injEq] at he; subst he
    refine imm_slice hR (pushed_size _ _) (pushed_get _ _) (pushed_new _ _) rfl rfl (by rw[List.length_replicate]; exact hrun) (by simp) (fun _=>by simp) (fun r hr=>by rw[List.eq_of_mem_replicate hr]; exact hzl) (fun i' j r x hi' hj=>?_)
    have hlt:i'<m:=by have:=(List.getElem?_eq_some_iff.1 hi').1; simpa using this
    have:r=z:=List.eq_of_mem_replicate (List.mem_of_getElem? hi')
    subst this
    exact zero_range hzl hs hg hn hlt hj
  ·cases hok
 ·cases he
theorem evO_rep (hR:Rel lo Tch φ σ T L h a.tmps w) (hG:GRel σ G){x:Option Operand}{y:Option Opd}(hx:okOpdO x y=true){v:Option DV}(hv:evO G T y=some v) :
  (x=none∧v=none)∨∃ x' v',x=some x'∧v=some v'∧RepD φ σ v' (a.eval x'):=by
 unfold okOpdO at hx
 split at hx
 ·simp[evO] at hv; subst hv; exact .inl ⟨rfl,rfl⟩
 ·rename_i x' y'
  simp only[evO,Option.map_eq_some_iff] at hv
  obtain⟨v',h1,rfl⟩:=hv
  exact .inr ⟨x',v',rfl,rfl,ev_rep hR hG hx h1⟩
 ·cases hx
theorem run_sliceBound {k:IntKind} {y:Nat}(hle:m≤y) (code:BoundsCode):(Instr.sliceBound (.int k (m:Int)) y code).run P w=.ok m w:=by
 simp only[Instr.sliceBound,Sem.run_bind,run_asIntOf,Result.andThen_ok]
 rw[if_pos ⟨by omega,by omega⟩]
 simp
theorem bounds_sim {isS:Bool}{len cap:Nat}{x y z:Option Operand}{l hi mx:Option DV}(hl:(x=none∧l=none)∨∃ x' v',x=some x'∧l=some v'∧RepD φ σ v' (a.eval x'))
  (hh:(y=none∧hi=none)∨∃ x' v',y=some x'∧hi=some v'∧RepD φ σ v' (a.eval x')){i j:Nat}
  (hi1:natOr l 0=some i) (hj1:natOr hi len=some j) (hij:i≤j) (hjc:j≤cap) (hlc:len≤cap)
  (hm:(z=none∧mx=none∧m=cap)∨(∃ z' v' ,z=some z'∧mx=some v'∧RepD φ σ v' (a.eval z')∧asNat v'=some m∧j≤m∧m≤cap∧hi.isSome=true)) :
  (Instr.sliceBounds isS len cap (x.map a.eval) (y.map a.eval) (z.map a.eval)).run P w=.ok (i,j,m) w:=by
 rcases hm with⟨rfl,rfl,rfl⟩ | ⟨z',vz,rfl,rfl,hrz,hmz,hjm,hmc,hsome⟩
 ·rcases hh with⟨rfl,rfl⟩ | ⟨y',vy,rfl,rfl,hry⟩
  ·simp[natOr] at hj1; subst hj1
   rcases hl with⟨rfl,rfl⟩ | ⟨x',v',rfl,rfl,hr⟩
   ·simp[natOr] at hi1; subst hi1
    simp[Instr.sliceBounds]
   ·obtain⟨k,hk⟩:=asNat_spec hi1 hr
    simp[Instr.sliceBounds,hk,run_sliceBound hij]
  ·obtain⟨ky,hky⟩:=asNat_spec hj1 hry
   rcases hl with⟨rfl,rfl⟩ | ⟨x',v',rfl,rfl,hr⟩
   ·simp[natOr] at hi1; subst hi1
    simp[Instr.sliceBounds,hky,run_sliceBound hjc]
   ·obtain⟨k,hk⟩:=asNat_spec hi1 hr
    simp[Instr.sliceBounds,hk,hky,run_sliceBound hij,run_sliceBound hjc]
 ·obtain⟨kz,hkz⟩:=asNat_spec hmz hrz
  rcases hh with⟨rfl,rfl⟩ | ⟨y',vy,rfl,rfl,hry⟩
  ·cases hsome
  ·obtain⟨ky,hky⟩:=asNat_spec hj1 hry
   rcases hl with⟨rfl,rfl⟩ | ⟨x',v',rfl,rfl,hr⟩
   ·simp[natOr] at hi1; subst hi1
    simp[Instr.sliceBounds,hky,hkz,run_sliceBound hmc,run_sliceBound hjm]
   ·obtain⟨k,hk⟩:=asNat_spec hi1 hr
    simp[Instr.sliceBounds,hk,hky,hkz,run_sliceBound hij,run_sliceBound hmc,run_sliceBound hjm]
end
end Go.PM
end
