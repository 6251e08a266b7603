/-
  One operation, in D and in the model: slices cut, texts and bytes.
-/
import Derived.Test.YtlknjgmhfimhbaaGreatDoorSimF
import Derived.Laws.BytesString
set_option linter.unusedVariables false
set_option linter.unusedSimpArgs false
namespace Go.PM
section
variable {P:Program}{lo:Nat}{Tch:Nat→Prop}{φ:Phi}{σ:Sig}{G:Nat→Option (List IV)}{T:Nat→Option DV}{L:Nat→Option LV}{h:Nat→Option HB}{a:Act}{w:World}{n:Nat}
variable {rp:Value}
theorem zQ5 (hR:Rel lo Tch φ σ T L h a.tmps w){t:TypeId}{s:Nat}(hok:zRA P t s=true)
  {p:DV}(hp:RepD φ σ p rp){x y z:Option Operand}{l hi mx:Option DV}(hl:(x=none∧l=none)∨∃ x' v',x=some x'∧l=some v'∧RepD φ σ v' (a.eval x'))
  (hh:(y=none∧hi=none)∨∃ x' v',y=some x'∧hi=some v'∧RepD φ σ v' (a.eval x')) (hz:(z=none∧mx=none)∨∃ x' v',z=some x'∧mx=some v'∧RepD φ σ v' (a.eval x'))
  {e:Eff}(he:zQ7 h n s p l hi mx=some e):Does P lo Tch φ σ T L h a w n (Instr.sliceAt t rp (x.map a.eval) (y.map a.eval) (z.map a.eval)) e:=by
 unfold zRA at hok
 split at hok
 ·rename_i el hu
  have hrun:∀ (ad:Option Addr) (len cap i j m:Nat),(Instr.sliceBounds true len cap (x.map a.eval) (y.map a.eval) (z.map a.eval)).run P w=.ok (i,j,m) w→
    (Instr.sliceAt t (.slice ad len cap) (x.map a.eval) (y.map a.eval) (z.map a.eval)).run P w=.ok (.slice (if m=i then ad else ad.map (·.add (i*s))) (j - i) (m - i)) w:=fun ad len cap i j m hb=>by
   simp only[Instr.sliceAt,Sem.run_bind,zP9 hu,Result.andThen_ok,Instr.slice,hb,zP3 hok,Sem.run_pure]
  have hznone:mx=none→z=none:=fun h0=>by
   rcases hz with⟨h1,_⟩ | ⟨_,_,_,h1,_⟩
   ·exact h1
   ·rw[h0] at h1; cases h1
  cases hp with
  | imm hi'=>
   cases hi' with
   | nils=>
    simp only[zQ7] at he
    split at he
    ·rename_i i j e1 e2
     split at he
     ·rename_i h0
      obtain⟨rfl,rfl⟩:=h0
      cases he
      obtain rfl:=hznone rfl
      have hb:=zDn (P:=P) (w:=w) (isS:=true) (len:=0) (cap:=0) hl hh e1 e2 (Nat.le_refl _) (Nat.le_refl _) (Nat.le_refl _) (m:=0) (.inl ⟨rfl,rfl,rfl⟩)
      exact .pure hR (hrun none 0 0 0 0 0 hb) (.imm .nils)
     ·cases he
    ·rename_i i j m' e1 e2
     split at he
     ·rename_i m e3
      split at he
      ·rename_i hij
       obtain⟨rfl,rfl,rfl,h4⟩:=hij
       cases he
       obtain⟨z',v',rfl,hv',hrz⟩:=hz.resolve_left (fun ⟨_,h⟩=>by cases h)
       cases hv'
       have hb:=zDn (P:=P) (w:=w) (isS:=true) (len:=0) (cap:=0) hl hh e1 e2 (Nat.le_refl _) (Nat.le_refl _) (Nat.le_refl _) (m:=0) (.inr ⟨z',m',rfl,rfl,hrz,e3,Nat.le_refl _,Nat.le_refl _,h4⟩)
       exact .pure hR (hrun none 0 0 0 0 0 hb) (.imm .nils)
      ·cases he
     ·cases he
    ·cases he
   | lst cv hcap hfull hs hc hr=>
    rename_i full sz es ad cap
    simp only[zQ7] at he
    split at he
    ·rename_i hsz
     subst hsz
     have cutRep:∀ (i j:Nat) (full':Bool) (m:Nat),i≤j→j≤es.length→j≤m→(full'=true→m=j)→
       RepI σ (.lst full' sz ((es.take j).drop i)) (.slice (if m=i then some ad else (some ad).map (·.add (i*sz))) (j - i) (m - i)):=fun i j full' m hij hj hjm hf=>by
      have hlen:((es.take j).drop i).length=j - i:=by simp; omega
      have key:∀ ad',(i<j→ad'=ad.add (i*sz))→RepI σ (.lst full' sz ((es.take j).drop i)) (.slice (some ad') (j - i) (m - i)):=fun ad' had=>by
       have hget:∀ (k:Nat) e,((es.take j).drop i)[k]?=some e→es[i+k]?=some e∧i+k<j:=fun k e he=>by
        rw[List.getElem?_drop,List.getElem?_take] at he
        split at he
        ·exact⟨he,by assumption⟩
        ·cases he
       have:=RepI.lst (σ:=σ) (full:=full') (sz:=sz) (es:=(es.take j).drop i) (a:=ad') (cap:=m - i) (fun k q=>cv (i+k) q) (by rw[hlen]; omega) (fun hf'=>by rw[hlen,hf hf'])
        (fun e he=>hs e (List.mem_of_mem_take (List.mem_of_mem_drop he))) (fun k q e c hk hq=>by
         obtain⟨g1,g2⟩:=hget k e hk
         have q2:=had (by omega)
         obtain⟨r1,r2⟩:=hc (i+k) q e c g1 hq
         refine⟨?_,r2⟩
         rw[q2,zBx,← r1]
         congr 2
         rw[Nat.add_mul]; omega) (fun k q e c hk hq=>hr (i+k) q e c (hget k e hk).1 hq)
       rw[hlen] at this
       exact this
      by_cases hm:m=i
      ·rw[if_pos hm]
       exact key ad (fun hlt=>by omega)
      ·rw[if_neg hm]
       exact key _ (fun _=>rfl)
     split at he
     ·rename_i i j e1 e2
      split at he
      ·rename_i hij
       cases he
       obtain rfl:=hznone rfl
       have hb:=zDn (P:=P) (w:=w) (isS:=true) (len:=es.length) (cap:=cap) hl hh e1 e2 hij.1 (by omega) hcap (m:=cap) (.inl ⟨rfl,rfl,rfl⟩)
       refine .pure hR (hrun (some ad) es.length cap i j cap hb) (.imm (cutRep i j _ cap hij.1 hij.2 (by omega) (fun hf=>?_)))
       simp at hf
       rw[hfull hf.1,hf.2]
      ·cases he
     ·rename_i i j m' e1 e2
      split at he
      ·rename_i m e3
       split at he
       ·rename_i hij
        obtain⟨h1,rfl,h3,h4⟩:=hij
        cases he
        obtain⟨z',v',rfl,hv',hrz⟩:=hz.resolve_left (fun ⟨_,h⟩=>by cases h)
        cases hv'
        have hb:=zDn (P:=P) (w:=w) (isS:=true) (len:=es.length) (cap:=cap) hl hh e1 e2 h1 (by omega) hcap (m:=j) (.inr ⟨z',m',rfl,rfl,hrz,e3,Nat.le_refl _,by omega,h4⟩)
        exact .pure hR (hrun (some ad) es.length cap i j j hb) (.imm (cutRep i j _ j h1 h3 (Nat.le_refl _) (fun _=>rfl)))
       ·cases he
      ·cases he
     ·cases he
    ·cases he
   | _=>simp[zQ7] at he
  | sl hbi h1 h2 h3=>
   rename_i id row len cap rcap bi
   simp only[zQ7] at he
   split at he
   ·rename_i i j e1 e2
    split at he
    ·rename_i hij
     obtain⟨hij,hjc,hlc⟩:=hij
     obtain rfl:=hznone rfl
     have hb:=zDn (P:=P) (w:=w) (isS:=true) (len:=len) (cap:=rcap) hl hh e1 e2 hij (by omega) (by omega) (m:=rcap) (.inl ⟨rfl,rfl,rfl⟩)
     have hrun':=hrun (some ⟨bi.blk,row*bi.sz,none⟩) len rcap i j rcap hb
     split at he
     ·rename_i h0
      subst h0
      cases he
      refine .pure hR hrun' ?_
      have:(if rcap=0 then some (⟨bi.blk,row*bi.sz,none⟩:Addr) else (some (⟨bi.blk,row*bi.sz,none⟩:Addr)).map (·.add (0*s)))=some ⟨bi.blk,row*bi.sz,none⟩:=by
       split
       ·rfl
       ·rw[Nat.zero_mul]; simp[Addr.add]
      rw[this]
      exact .sl hbi hjc h2 h3
     ·split at he
      ·rename_i h0 hlt
       split at he
       ·rename_i hb' hid
        split at he
        ·rename_i hs
         cases he
         obtain⟨bi',g1,g2,_⟩:=hR.heap _ _ hid
         rw[hbi] at g1; cases g1
         have hbs:bi.sz=s:=g2.sz.trans hs
         refine .pure hR hrun' ?_
         rw[if_neg (by omega)]
         simp only[Option.map_some,zBz]
         have:=RepD.sl (φ:=φ) (σ:=σ) (id:=id) (row:=row+i) (len:=j - i) (cap:=cap - i) (rcap:=rcap - i) hbi (by omega) (by omega) (by rw[show row+i+(rcap - i)=row+rcap by omega]; exact h3)
         rw[Nat.add_mul,hbs] at this
         rw[hbs]
         exact this
        ·cases he
       ·cases he
      ·rename_i h0 hlt
       cases he
       refine .pure hR hrun' (.imm ?_)
       have key:∀ ad':Addr,RepI σ (.lst false s []) (.slice (some ad') 0 (rcap - i)):=fun ad'=>
        .lst (es:=[]) (fun _ _=>.bool false) (Nat.zero_le _) (fun h=>by cases h) (fun e he=>by cases he) (fun i j e c he=>by simp at he) (fun i j e c he=>by simp at he)
       rw[show j - i=0 by omega]
       split
       ·exact key _
       ·exact key _
    ·cases he
   ·cases he
  | _=>simp[zQ7] at he
 ·cases hok
theorem zQ3 (hR:Rel lo Tch φ σ T L h a.tmps w){t:TypeId}(hok:(match P.underlying t with | some .string=>true | _=>false)=true)
  {s:List UInt8}(hp:RepI σ (.str s) rp){x y:Option Operand}{l hi:Option DV}(hl:(x=none∧l=none)∨∃ x' v',x=some x'∧l=some v'∧RepD φ σ v' (a.eval x'))
  (hh:(y=none∧hi=none)∨∃ x' v',y=some x'∧hi=some v'∧RepD φ σ v' (a.eval x'))
  {e:Eff}(he:giveI n (zRB s l hi)=some e):Does P lo Tch φ σ T L h a w n (Instr.sliceAt t rp (x.map a.eval) (y.map a.eval) none) e:=by
 obtain⟨b,rfl,rfl⟩:=zOo hp
 simp only[giveI,Option.map_eq_some_iff] at he
 obtain⟨v,he,rfl⟩:=he
 split at hok
 ·rename_i hu
  unfold zRB at he
  split at he
  ·rename_i i j e1 e2
   split at he
   ·rename_i hij
    cases he
    have hlen:b.data.toList.length=b.size:=by simp
    rw[hlen] at e2 hij
    have hb:=zDn (P:=P) (w:=w) (isS:=false) (z:=none) (mx:=none) (len:=b.size) (cap:=b.size) hl hh e1 e2 hij.1 hij.2 (Nat.le_refl _) (m:=b.size) (.inl ⟨rfl,rfl,rfl⟩)
    rw[Option.map_none] at hb
    have hrun:(Instr.sliceAt t (.string b) (x.map a.eval) (y.map a.eval) none).run P w=.ok (.string (b.extract i j)) w:=by
     simp only[Instr.sliceAt,Sem.run_bind,zP9 hu,Result.andThen_ok,Instr.slice,Option.isSome_none,Bool.false_eq_true,if_false,Sem.run_pure,hb]
    refine .pure hR hrun (.imm ?_)
    have:(b.extract i j).data.toList=(b.data.toList.take j).drop i:=by
     rw[ByteArray.data_extract,Array.toList_extract]
     simp[List.extract,List.drop_take]
    rw[← this]
    exact .str
   ·cases he
  ·cases he
 ·cases hok
theorem zH3:∀ (bs:List UInt8) (s:ByteArray),((bs.map fun b=>(b.toNat:Int)).foldl (fun r n=>r.push (UInt8.ofNat n.toNat)) s).data.toList=s.data.toList++bs
 | [],s=>by simp
 | b::bs,s=>by
  simp only[List.map_cons,List.foldl_cons]
  rw[zH3 bs]
  simp[ByteArray.push]
theorem zFF (hR:Rel lo Tch φ σ T L h a.tmps w){s d:TypeId}(hok:(match P.underlying s,P.underlying d with
   | some (.slice e),some .string=>szOk P e 1&&(match P.underlying e with | some (.int .u8)=>true | _=>false)
   | _,_=>false)=true){p:DV}(hp:RepD φ σ p rp){src:Option Nat}{sz:Nat}{rows:List (List DV)}(hrow:zPV h p=some (src,sz,rows)) (hsz:sz=1∨rows=[])
  {es:List (List IV)}(hes:mapO zS4 rows=some es){bs:List UInt8}(hbs:bytesOf es=some bs){acc:List Acc} :
  Does P lo Tch φ σ T L h a w n (convert s d rp) { v:=.imm (.str bs),n':=n,acc }:=by
 split at hok
 ·rename_i el hs hd
  simp only[Bool.and_eq_true] at hok
  obtain⟨h1,h2⟩:=hok
  split at h2
  ·rename_i hu8
   obtain⟨m1,m2⟩:=zLu hes
   obtain⟨b1,b2⟩:=zDu hbs
   rcases zPX hR hp hrow with⟨rfl,rfl,rfl⟩ | ⟨ad,cap,rfl,hcap,hlens,hcells⟩
   ·have:es=[]:=by simpa using m1
    subst this
    simp[bytesOf] at hbs; subst hbs
    refine .pure hR (rv:=.string .empty) ?_ (.imm (by have:=RepI.str (σ:=σ) (s:=.empty); exact this))
    simp[convert,zP9 hs,zP9 hd,zP9 hu8,Conv.bytesToString]
   ·have hne:∀ i:Nat,i<rows.length→∃ b:UInt8,bs[i]?=some b∧∃ cv,w.cell? (ad.add i)=some cv∧cv=.int .u8 b.toNat:=fun i hi=>by
     have hr:=List.getElem?_eq_getElem hi
     obtain⟨e,g1,g2⟩:=zLn hes hr
     obtain⟨b,g3,g4⟩:=b2 i e g1
     refine⟨b,g3,?_⟩
     subst g4
     obtain⟨c0,c1,c2⟩:=zLu g2 |>.2 0 _ rfl
     have hsz1:sz=1:=hsz.resolve_right (fun e=>by rw[e] at hi; simp at hi)
     obtain⟨cv,q1,q2,q3⟩:=hcells i 0 _ c0 hr c1
     refine⟨cv,by rw[← q1,hsz1]; simp,?_⟩
     have:=zS3 c2
     subst this
     exact zOn (zOl q3)
    let vs:List Value:=bs.map fun b=>.int .u8 b.toNat
    have hbl:bs.length=rows.length:=by rw[← b1,m1]
    have hload:=zPr (P:=P) w ad rows.length vs (by simp[vs,hbl]) (fun j v hv=>by
     have hj:j<rows.length:=by rw[← hbl]; have:=(List.getElem?_eq_some_iff.1 hv).1; simpa [vs] using this
     obtain⟨b,g1,cv,g2,g3⟩:=hne j hj
     simp only[vs,List.getElem?_map,g1,Option.map_some,Option.some.injEq] at hv
     rw[g2,g3,hv])
    have hvs:vs=(bs.map fun b=>(b.toNat:Int)).map (Value.int .u8):=by simp[vs]
    rw[hvs] at hload
    have hB:=run_bytesToString (P:=P) w ad rows.length cap _ hload
    refine .pure hR (rv:=.string _) (by rw[run_convert_bytes_string w s d el _ _ _ hs hu8 hd,hB]) (.imm ?_)
    have:=RepI.str (σ:=σ) (s:=(bs.map fun b=>(b.toNat:Int)).foldl (fun r n=>r.push (UInt8.ofNat n.toNat)) ByteArray.empty)
    rw[zH3,show ByteArray.empty.data.toList=[] from rfl,List.nil_append] at this
    exact this
  ·cases h2
 ·cases hok
end
end Go.PM
