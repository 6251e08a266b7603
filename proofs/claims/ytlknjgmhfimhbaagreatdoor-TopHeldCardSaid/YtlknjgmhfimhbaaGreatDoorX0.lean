/-
  TopHeld: what its functions compute, and the law (part 0).
-/
import Derived.Test.YtlknjgmhfimhbaaGreatDoorFn
import Derived.Test.YtlknjgmhfimhbaaGreatDoorSl
import Derived.Test.YtlknjgmhfimhbaaGreatDoorRun
import Derived.Test.YtlknjgmhfimhbaaGreatDoorDoor
import Derived.Lib.DecodeNEq
import Derived.Test.YtlknjgmhfimhbaaGreatDoorWp
set_option linter.unusedVariables false
set_option linter.unusedSimpArgs false
set_option maxHeartbeats 8000000
namespace Go.Proofs.YtlknjgmhfimhbaaGreatDoor.D
open Go Go.PM
def ivI (z:Int):List IV:=[.int .i64 z]
def ivS (s:List UInt8):List IV:=[.str s]
structure Need where
 pt:Int
 rev:Bool
 deriving DecidableEq,BEq,ReflBEq,LawfulBEq,Inhabited
def ivN (x:Need):List IV:=[.int .i64 x.pt,.bool x.rev]
theorem zJN (G:Nat→Option (List IV)){D:Nat}(hD:1≤D) (n lo hi:Int):bl (K G D) 114 [.imm (.int .i64 n),.imm (.int .i64 lo),.imm (.int .i64 hi)]=some (.imm (.bool (decide (lo≤n∧n≤hi)))):=by
 obtain⟨d,rfl⟩:∃ d,D=d+1:=⟨D - 1,by omega⟩
 refine zDe (H':=.lf) (n':=0) ?_
 rw[kX 114 D.f114 rfl]
 by_cases h1:lo≤n
 ·by_cases h2:n≤hi
  ·simp only[D.f114,zHz,B4,B9,reduceIte,Nat.reduceEqDiff,Nat.reduceAdd]
   simp[h1,h2,B4,B9]
  ·simp only[D.f114,zHz,B4,B9,reduceIte,Nat.reduceEqDiff,Nat.reduceAdd]
   simp[h1,h2,B4,B9]
 ·simp only[D.f114,zHz,B4,B9,reduceIte,Nat.reduceEqDiff,Nat.reduceAdd]
  simp[h1,B4,B9]
theorem zJB (G:Nat→Option (List IV)){D:Nat}(hD:1≤D){v:IV}{zs:List Int}(hv:Sl 1 v (zs.map ivI)) (hl:zs.length≤reachBytes) (z:Int) :
  ∃ r:Int,bl (K G D) 170 [.imm v,.imm (.int .i64 z)]=some (.imm (.int .i64 r))∧(0≤r↔z∈zs):=by
 obtain⟨d,rfl⟩:∃ d,D=d+1:=⟨D - 1,by omega⟩
 rcases hv with⟨rfl,hz⟩ | ⟨f,rfl⟩
 ·obtain rfl:zs=[]:=by simpa using hz
  refine⟨-1,zDe (H':=.lf) (n':=0) ?_,by simp⟩
  rw[kX 170 D.f170 rfl]
  obtain⟨k,hL⟩:∃ k,LOOP=k+1:=⟨2 ^ 62 - 1,rfl⟩
  simp only[D.f170,D.l170_0,zHz,B4,B9,reduceIte,Nat.reduceEqDiff,Nat.reduceAdd]
  simp[zPt,hL,iter,zLV,keep,D.l170_0b,B4,B9]
 ·have loop:∀ s:St,(s.T.get 0=some (.imm (.lst f 1 (zs.map ivI)))∧s.T.get 1=some (.imm (.int .i64 z))∧s.T.get 7=some (.imm (.int .i64 zs.length))∧s.T.get 8=some (.imm (.int .i64 (0:Nat)))∧s.H=.lf∧s.n=0)→
    ∃ e s',D.l170_0.run G (K G d) 0 s=some (e,s')∧((e=.ret∧s'.H=.lf∧s'.n=0∧z∈zs∧∃ r:Nat,s'.T.get 4=some (.imm (.int .i64 r)))∨(e=.exit 0∧s'.H=.lf∧s'.n=0∧z∉zs)):=fun s hs=>by
   refine zO4 (N:=zs.length) (zRH hl) (fun i s=>s.T.get 0=some (.imm (.lst f 1 (zs.map ivI)))∧s.T.get 1=some (.imm (.int .i64 z))∧s.T.get 7=some (.imm (.int .i64 zs.length))∧s.T.get 8=some (.imm (.int .i64 i))∧s.H=.lf∧s.n=0∧
    ∀ j,j<i→zs[j]?≠some z) _ (fun i s ⟨h0,h1,h7,h8,hH,hn,hj⟩ hle=>?_) s ⟨hs.1,hs.2.1,hs.2.2.1,hs.2.2.2.1,hs.2.2.2.2.1,hs.2.2.2.2.2,fun j hj=>by omega⟩
   by_cases hi:i<zs.length
   ·have hi':(i:Int)<zs.length:=by omega
    have hw:=zTX hi hl
    have hx:zs[i]?=some zs[i]:=List.getElem?_eq_getElem hi
    generalize hxe:zs[i]=x at hx
    by_cases hzx:z=x
    ·right
     subst hzx
     refine⟨.ret,?_⟩
     simp only[D.l170_0b,keep,B4,B9,reduceIte,Nat.reduceEqDiff,Nat.reduceAdd]
     simp[h0,h1,h7,h8,hi',hi,hx,hxe,hH,hn,ivI,imms,B4,B9]
     exact⟨List.mem_of_getElem? hx,i,by simp[gP]⟩
    ·left
     refine⟨hi,?_⟩
     have hb:=beqF hzx
     simp only[D.l170_0b,keep,B4,B9,reduceIte,Nat.reduceEqDiff,Nat.reduceAdd]
     simp[h0,h1,h7,h8,hi',hi,hx,hxe,hw,hb,hH,hn,ivI,imms,B4,B9]
     intro j hj1
     by_cases e:j=i
     ·subst e; rw[hx]; exact fun e=>hzx (Option.some.inj e).symm
     ·exact hj j (by omega)
   ·obtain rfl:i=zs.length:=by omega
    right
    refine⟨.exit 0,?_⟩
    simp only[D.l170_0b,keep,B4,B9,reduceIte,Nat.reduceEqDiff,Nat.reduceAdd]
    simp[h0,h1,h7,h8,hH,hn,B4,B9]
    intro hm
    obtain⟨j,hjj⟩:=List.getElem?_of_mem hm
    exact hj j (List.getElem?_eq_some_iff.1 hjj).1 hjj
  rw[show (∃ r:Int,bl (K G (d+1)) 170 [.imm (.lst f 1 (zs.map ivI)),.imm (.int .i64 z)]=some (.imm (.int .i64 r))∧(0≤r↔z∈zs))↔_ from Iff.rfl]
  have key:∃ r:Int,K G (d+1) 170 [.imm (.lst f 1 (zs.map ivI)),.imm (.int .i64 z)] .lf 0 0=some (.imm (.int .i64 r),.lf,0)∧(0≤r↔z∈zs):=by
   rw[kX 170 D.f170 rfl]
   simp only[D.f170,zHz,B4,B9,reduceIte,Nat.reduceEqDiff,Nat.reduceAdd]
   simp[B4,B9]
   generalize hrun:D.l170_0.run G (K G d) 0 _=r
   obtain⟨e,s',rfl,hq⟩:∃ e s',r=some (e,s')∧((e=.ret∧s'.H=.lf∧s'.n=0∧z∈zs∧∃ r:Nat,s'.T.get 4=some (.imm (.int .i64 r)))∨(e=.exit 0∧s'.H=.lf∧s'.n=0∧z∉zs)):=by
    rw[← hrun]
    refine loop _ ⟨?_,?_,?_,?_,rfl,rfl⟩ <;> simp[gP]
   clear hrun
   rcases hq with⟨rfl,q1,q2,q3,r,q4⟩ | ⟨rfl,q1,q2,q3⟩
   ·refine⟨r,?_⟩
    simp[q1,q2,q3,q4,B4,B9]
   ·refine⟨-1,?_⟩
    simp[q1,q2,q3,B4,B9]
  obtain⟨r,e1,e2⟩:=key
  exact⟨r,zDe e1,e2⟩
theorem zEq (G:Nat→Option (List IV)){D:Nat}(hD:2≤D){v:IV}{zs:List Int}(hv:Sl 1 v (zs.map ivI)) (hl:zs.length≤reachBytes) (z:Int) :
  bl (K G D) 147 [.imm v,.imm (.int .i64 z)]=some (.imm (.bool (decide (z∈zs)))):=by
 obtain⟨d,rfl⟩:∃ d,D=d+1:=⟨D - 1,by omega⟩
 obtain⟨r,e1,e2⟩:=zJB G (D:=d) (by omega) hv hl z
 refine zDe (H':=.lf) (n':=0) ?_
 rw[kX 147 D.f147 rfl]
 simp only[D.f147,zHz,B5,B8,reduceIte,Nat.reduceEqDiff,Nat.reduceAdd]
 simp[e1,e2,B5,B8]
end Go.Proofs.YtlknjgmhfimhbaaGreatDoor.D
set_option maxHeartbeats 16000000
set_option maxRecDepth 100000
namespace Go.Proofs.YtlknjgmhfimhbaaGreatDoor.D
open Go Go.PM Go.Lib
noncomputable abbrev DG:=zFj 0 1
theorem zCH:∀ b:Fin 256,(zDM .and .u8 (b.val:Int) 7=some (.int .u8 (b.val % 8:Nat)))∧(zDM .and .u8 (b.val:Int) 15=some (.int .u8 (b.val % 16:Nat)))∧
  (zDM .and .u8 (b.val:Int) 31=some (.int .u8 (b.val % 32:Nat)))∧(zDM .and .u8 (b.val:Int) 63=some (.int .u8 (b.val % 64:Nat))):=by
 intro b
 simp only[zDM,Option.some.injEq,IV.int.injEq,true_and]
 revert b
 decide +kernel
variable {b:Nat}
theorem and7(h:b<256):∃ v:Nat,v=b % 8∧zDM .and .u8 (b:Int) 7=some (.int .u8 (v:Int)):=⟨_,rfl,(zCH ⟨b,h⟩).1⟩
theorem zCE(h:b<256):∃ v:Nat,v=b % 16∧zDM .and .u8 (b:Int) 15=some (.int .u8 (v:Int)):=⟨_,rfl,(zCH ⟨b,h⟩).2.1⟩
theorem zCF(h:b<256):∃ v:Nat,v=b % 32∧zDM .and .u8 (b:Int) 31=some (.int .u8 (v:Int)):=⟨_,rfl,(zCH ⟨b,h⟩).2.2.1⟩
theorem zCG(h:b<256):∃ v:Nat,v=b % 64∧zDM .and .u8 (b:Int) 63=some (.int .u8 (v:Int)):=⟨_,rfl,(zCH ⟨b,h⟩).2.2.2⟩
theorem wr32 {z:Int}(h:0≤z) (h':z<2147483648):IntKind.i32.wrap z=z:=by
 simp only[IntKind.wrap,IntKind.bits,IntKind.signed]
 simp
 omega
theorem or32 {x y k:Nat}(hx:x % 2 ^ k=0) (hy:y<2 ^ k) (hs:x+y<2147483648):∃ v:Nat,v=x+y∧zDM .or .i32 (x:Int) (y:Int)=some (.int .i32 (v:Int)):=by
 refine⟨_,rfl,?_⟩
 have e:(BitVec.ofInt 32 (x:Int) ||| BitVec.ofInt 32 (y:Int)).toNat=x+y:=by
  rw[BitVec.toNat_or,BitVec.ofInt_natCast,BitVec.ofInt_natCast,BitVec.toNat_ofNat,BitVec.toNat_ofNat,Nat.mod_eq_of_lt (by omega),Nat.mod_eq_of_lt (by omega)]
  have hx':x=(x / 2 ^ k) <<< k:=by
   rw[Nat.shiftLeft_eq]
   have:=Nat.div_add_mod x (2 ^ k)
   rw[hx] at this
   rw[Nat.mul_comm]; omega
  rw[hx',← Nat.shiftLeft_add_eq_or_of_lt hy]
 show some (IV.int .i32 (IntKind.i32.wrap ((BitVec.ofInt 32 (x:Int) ||| BitVec.ofInt 32 (y:Int)).toNat:Nat)))=_
 rw[e,wr32 (by omega) (by omega)]
theorem zHf {j:Nat}(h:j<256):∃ tl,firstCells.drop j=IV.int .u8 (firstT j:Int)::tl:=by
 have e:firstCells[j]?=some (.int .u8 (firstT j:Int)):=by simp[firstCells,firstTab,h]
 obtain⟨hl,e⟩:=List.getElem?_eq_some_iff.1 e
 exact⟨_,by rw[List.drop_eq_getElem_cons hl,e]⟩
theorem zHh:firstCells.length=256:=by simp[firstCells,firstTab]
theorem acc_len:zBt.length=32:=by decide
theorem acc_drop:∀ k:Fin 5,∃ tl,zBt.drop (k.val*2)=IV.int .u8 (accLo k.val:Int)::IV.int .u8 (accHi k.val:Int)::tl:=fun k=>
 match k with | ⟨0,_⟩=>⟨_,rfl⟩ | ⟨1,_⟩=>⟨_,rfl⟩ | ⟨2,_⟩=>⟨_,rfl⟩ | ⟨3,_⟩=>⟨_,rfl⟩ | ⟨4,_⟩=>⟨_,rfl⟩
theorem dg0:zFj 0 1 0=some firstCells:=rfl
theorem dg1:zFj 0 1 1=some zBt:=rfl
theorem b8:IntKind.u8.bits=8:=rfl
theorem b32:IntKind.i32.bits=32:=rfl
def bAt (s:List UInt8) (i:Nat):Nat:=((s[i]?).getD 0).toNat
theorem zC1 (s:List UInt8) (i:Nat):bAt s i<256:=UInt8.toNat_lt _
theorem zTa(hx:firstT b<240):∃ sz k:Nat,firstT b % 8=sz∧firstT b / 16=k∧(sz=2∨sz=3∨sz=4)∧k<5:=by
 refine⟨_,_,rfl,rfl,?_⟩
 rcases firstT_low hx with h | h | h | h | h | h | h
 ·rw[firstT_C2 h]; omega
 ·rw[firstT_E0 h]; omega
 ·rw[firstT_E1 h]; omega
 ·rw[firstT_ED h]; omega
 ·rw[firstT_F0 h]; omega
 ·rw[firstT_F1 h]; omega
 ·rw[firstT_F4 h]; omega
variable {s:List UInt8}
theorem zRE (d:Nat)(hs:0<s.length) (hx:firstT (bAt s 0)<240) (H:PT HB) (n lo:Nat):∃ r m:Nat,slowN s.length (bAt s 0) (bAt s 1) (bAt s 2) (bAt s 3) (firstT (bAt s 0) % 8) (accLo (firstT (bAt s 0) / 16)) (accHi (firstT (bAt s 0) / 16))=(r,m)∧
  ∃ n',K DG (d+1) 202 [.imm (.str s)] H n lo=some (.tup [.imm (.int .i32 r),.imm (.int .i64 m)],H,n'):=by
 obtain⟨sz,k,e1,e2,hsz,hk⟩:=zTa hx
 have l0:=zC1 s 0; have l1:=zC1 s 1; have l2:=zC1 s 2; have l3:=zC1 s 3
 obtain⟨tl,hd⟩:=zHf l0
 obtain⟨tl2,hd2⟩:=acc_drop ⟨k,hk⟩
 have hd2:zBt.drop (k*2)=_:=hd2
 have i0:s[0]?=some s[0]:=List.getElem?_eq_getElem hs
 have b0:(bAt s 0:Int)=s[0].toNat:=by simp[bAt,hs]
 generalize hX:firstT (bAt s 0)=x at *
 generalize hAlo:accLo k=alo at *
 generalize hAhi:accHi k=ahi at *
 have hx1:¬(240:Int)≤x:=by omega
 have a7:zDM .and .u8 (x:Int) 7=some (.int .u8 (sz:Int)):=by
  obtain⟨v,hv,e⟩:=and7 (b:=x) (by omega)
  rw[e,hv,e1]
 have hk16:(x:Int).fdiv 16=(k:Int):=by rw[Int.fdiv_eq_ediv_of_nonneg _ (by omega)]; omega
 have hk2:k<16:=by omega
 have hk3:k*2<32:=by omega
 have wsz:IntKind.i64.wrap (sz:Int)=sz:=zTW (by omega) (by omega)
 have hb0:s[0].toNat<256:=UInt8.toNat_lt _
 have hn1:¬(s.length:Int)<1:=by omega
 rw[e1,e2,hAlo,hAhi]
 have nm:∀ j:Nat,(j:Int).toNat=j:=fun j=>by omega
 rw[kX 202 D.f202 rfl]
 by_cases c1:s.length<sz
 ·have c1':(s.length:Int)<sz:=by omega
  refine⟨65533,1,by simp[slowN,c1],?_⟩
  simp only[D.f202,zHz,B4,B9,reduceIte,Nat.reduceEqDiff,Nat.reduceAdd]
  simp[hs,hn1,i0,l0,dg0,dg1,zHh,acc_len,hb0,hd,← b0,nm,hx1,a7,hk16,hk2,hk3,hd2,wsz,imms,b8,b32,c1',B4,B9]
 have c1':¬(s.length:Int)<sz:=by omega
 have h1:1<s.length:=by omega
 have i1:s[1]?=some s[1]:=List.getElem?_eq_getElem h1
 have b1:(bAt s 1:Int)=s[1].toNat:=by simp[bAt,h1]
 by_cases c2:bAt s 1<alo
 ·have c2':(bAt s 1:Int)<alo:=by omega
  refine⟨65533,1,by simp[slowN,c1,c2],?_⟩
  simp only[D.f202,zHz,B4,B9,reduceIte,Nat.reduceEqDiff,Nat.reduceAdd]
  simp[hs,hn1,i0,l0,dg0,dg1,zHh,acc_len,hb0,hd,← b0,nm,hx1,a7,hk16,hk2,hk3,hd2,wsz,imms,b8,b32,c1',h1,i1,← b1,c2',B4,B9]
 have c2':¬(bAt s 1:Int)<alo:=by omega
 by_cases c3:ahi<bAt s 1
 ·have c3':(ahi:Int)<bAt s 1:=by omega
  refine⟨65533,1,by simp[slowN,c1,c2,c3],?_⟩
  simp only[D.f202,zHz,B4,B9,reduceIte,Nat.reduceEqDiff,Nat.reduceAdd]
  simp[hs,hn1,i0,l0,dg0,dg1,zHh,acc_len,hb0,hd,← b0,nm,hx1,a7,hk16,hk2,hk3,hd2,wsz,imms,b8,b32,c1',h1,i1,← b1,c2',c3',B4,B9]
 have c3':¬(ahi:Int)<bAt s 1:=by omega
 by_cases c4:sz≤2
 ·have c4':(sz:Int)≤2:=by omega
  obtain⟨v0,hv0,a0⟩:=zCF l0
  obtain⟨v1,hv1,a1⟩:=zCG l1
  have w0:IntKind.i32.wrap (v0:Int)=v0:=wr32 (by omega) (by omega)
  have w1:IntKind.i32.wrap (v1:Int)=v1:=wr32 (by omega) (by omega)
  obtain⟨u0,hu0⟩:∃ u:Nat,u=v0*64:=⟨_,rfl⟩
  have s0:IntKind.i32.wrap ((v0:Int)*64)=u0:=by rw[wr32 (by omega) (by omega)]; omega
  obtain⟨r,hr,o0⟩:=or32 (x:=u0) (y:=v1) (k:=6) (by omega) (by omega) (by omega)
  have er:r=bAt s 0 % 32*64+bAt s 1 % 64:=by omega
  refine⟨r,2,by simp[slowN,c1,c2,c3,c4,er],?_⟩
  simp only[D.f202,zHz,B4,B9,reduceIte,Nat.reduceEqDiff,Nat.reduceAdd]
  simp[hs,hn1,i0,l0,dg0,dg1,zHh,acc_len,hb0,hd,← b0,nm,hx1,a7,hk16,hk2,hk3,hd2,wsz,imms,b8,b32,c1',h1,i1,← b1,c2',c3',c4',a0,a1,w0,w1,s0,o0,B4,B9]
 have c4':¬(sz:Int)≤2:=by omega
 have h2:2<s.length:=by omega
 have i2:s[2]?=some s[2]:=List.getElem?_eq_getElem h2
 have b2:(bAt s 2:Int)=s[2].toNat:=by simp[bAt,h2]
 by_cases c5:bAt s 2<128
 ·have c5':(bAt s 2:Int)<128:=by omega
  refine⟨65533,1,by simp[slowN,c1,c2,c3,c4,c5],?_⟩
  simp only[D.f202,zHz,B4,B9,reduceIte,Nat.reduceEqDiff,Nat.reduceAdd]
  simp[hs,hn1,i0,l0,dg0,dg1,zHh,acc_len,hb0,hd,← b0,nm,hx1,a7,hk16,hk2,hk3,hd2,wsz,imms,b8,b32,c1',h1,i1,← b1,c2',c3',c4',h2,i2,← b2,c5',B4,B9]
 have c5':¬(bAt s 2:Int)<128:=by omega
 by_cases c6:191<bAt s 2
 ·have c6':(191:Int)<bAt s 2:=by omega
  refine⟨65533,1,by simp[slowN,c1,c2,c3,c4,c5,c6],?_⟩
  simp only[D.f202,zHz,B4,B9,reduceIte,Nat.reduceEqDiff,Nat.reduceAdd]
  simp[hs,hn1,i0,l0,dg0,dg1,zHh,acc_len,hb0,hd,← b0,nm,hx1,a7,hk16,hk2,hk3,hd2,wsz,imms,b8,b32,c1',h1,i1,← b1,c2',c3',c4',h2,i2,← b2,c5',c6',B4,B9]
 have c6':¬(191:Int)<bAt s 2:=by omega
 by_cases c7:sz≤3
 ·have c7':(sz:Int)≤3:=by omega
  obtain⟨v0,hv0,a0⟩:=zCE l0
  obtain⟨v1,hv1,a1⟩:=zCG l1
  obtain⟨v2,hv2,a2⟩:=zCG l2
  have w0:IntKind.i32.wrap (v0:Int)=v0:=wr32 (by omega) (by omega)
  have w1:IntKind.i32.wrap (v1:Int)=v1:=wr32 (by omega) (by omega)
  have w2:IntKind.i32.wrap (v2:Int)=v2:=wr32 (by omega) (by omega)
  obtain⟨u0,hu0⟩:∃ u:Nat,u=v0*4096:=⟨_,rfl⟩
  obtain⟨u1,hu1⟩:∃ u:Nat,u=v1*64:=⟨_,rfl⟩
  have s0:IntKind.i32.wrap ((v0:Int)*4096)=u0:=by rw[wr32 (by omega) (by omega)]; omega
  have s1:IntKind.i32.wrap ((v1:Int)*64)=u1:=by rw[wr32 (by omega) (by omega)]; omega
  obtain⟨y,hy,o0⟩:=or32 (x:=u0) (y:=u1) (k:=12) (by omega) (by omega) (by omega)
  obtain⟨r,hr,o1⟩:=or32 (x:=y) (y:=v2) (k:=6) (by omega) (by omega) (by omega)
  have er:r=bAt s 0 % 16*4096+bAt s 1 % 64*64+bAt s 2 % 64:=by omega
  refine⟨r,3,by simp[slowN,c1,c2,c3,c4,c5,c6,c7,er],?_⟩
  simp only[D.f202,zHz,B4,B9,reduceIte,Nat.reduceEqDiff,Nat.reduceAdd]
  simp[hs,hn1,i0,l0,dg0,dg1,zHh,acc_len,hb0,hd,← b0,nm,hx1,a7,hk16,hk2,hk3,hd2,wsz,imms,b8,b32,c1',h1,i1,← b1,c2',c3',c4',h2,i2,← b2,c5',c6',c7',a0,a1,a2,w0,w1,w2,s0,s1,o0,o1,B4,B9]
 have c7':¬(sz:Int)≤3:=by omega
 have h3:3<s.length:=by omega
 have i3:s[3]?=some s[3]:=List.getElem?_eq_getElem h3
 have b3:(bAt s 3:Int)=s[3].toNat:=by simp[bAt,h3]
 by_cases c8:bAt s 3<128
 ·have c8':(bAt s 3:Int)<128:=by omega
  refine⟨65533,1,by simp[slowN,c1,c2,c3,c4,c5,c6,c7,c8],?_⟩
  simp only[D.f202,zHz,B4,B9,reduceIte,Nat.reduceEqDiff,Nat.reduceAdd]
  simp[hs,hn1,i0,l0,dg0,dg1,zHh,acc_len,hb0,hd,← b0,nm,hx1,a7,hk16,hk2,hk3,hd2,wsz,imms,b8,b32,c1',h1,i1,← b1,c2',c3',c4',h2,i2,← b2,c5',c6',c7',h3,i3,← b3,c8',B4,B9]
 have c8':¬(bAt s 3:Int)<128:=by omega
 by_cases c9:191<bAt s 3
 ·have c9':(191:Int)<bAt s 3:=by omega
  refine⟨65533,1,by simp[slowN,c1,c2,c3,c4,c5,c6,c7,c8,c9],?_⟩
  simp only[D.f202,zHz,B4,B9,reduceIte,Nat.reduceEqDiff,Nat.reduceAdd]
  simp[hs,hn1,i0,l0,dg0,dg1,zHh,acc_len,hb0,hd,← b0,nm,hx1,a7,hk16,hk2,hk3,hd2,wsz,imms,b8,b32,c1',h1,i1,← b1,c2',c3',c4',h2,i2,← b2,c5',c6',c7',h3,i3,← b3,c8',c9',B4,B9]
 have c9':¬(191:Int)<bAt s 3:=by omega
 obtain⟨v0,hv0,a0⟩:=and7 l0
 obtain⟨v1,hv1,a1⟩:=zCG l1
 obtain⟨v2,hv2,a2⟩:=zCG l2
 obtain⟨v3,hv3,a3⟩:=zCG l3
 have w0:IntKind.i32.wrap (v0:Int)=v0:=wr32 (by omega) (by omega)
 have w1:IntKind.i32.wrap (v1:Int)=v1:=wr32 (by omega) (by omega)
 have w2:IntKind.i32.wrap (v2:Int)=v2:=wr32 (by omega) (by omega)
 have w3:IntKind.i32.wrap (v3:Int)=v3:=wr32 (by omega) (by omega)
 obtain⟨u0,hu0⟩:∃ u:Nat,u=v0*262144:=⟨_,rfl⟩
 obtain⟨u1,hu1⟩:∃ u:Nat,u=v1*4096:=⟨_,rfl⟩
 obtain⟨u2,hu2⟩:∃ u:Nat,u=v2*64:=⟨_,rfl⟩
 have s0:IntKind.i32.wrap ((v0:Int)*262144)=u0:=by rw[wr32 (by omega) (by omega)]; omega
 have s1:IntKind.i32.wrap ((v1:Int)*4096)=u1:=by rw[wr32 (by omega) (by omega)]; omega
 have s2:IntKind.i32.wrap ((v2:Int)*64)=u2:=by rw[wr32 (by omega) (by omega)]; omega
 obtain⟨y,hy,o0⟩:=or32 (x:=u0) (y:=u1) (k:=18) (by omega) (by omega) (by omega)
 obtain⟨z,hz,o1⟩:=or32 (x:=y) (y:=u2) (k:=12) (by omega) (by omega) (by omega)
 obtain⟨r,hr,o2⟩:=or32 (x:=z) (y:=v3) (k:=6) (by omega) (by omega) (by omega)
 have er:r=bAt s 0 % 8*262144+bAt s 1 % 64*4096+bAt s 2 % 64*64+bAt s 3 % 64:=by omega
 refine⟨r,4,by simp[slowN,c1,c2,c3,c4,c5,c6,c7,c8,c9,er],?_⟩
 simp only[D.f202,zHz,B4,B9,reduceIte,Nat.reduceEqDiff,Nat.reduceAdd]
 simp[hs,hn1,i0,l0,dg0,dg1,zHh,acc_len,hb0,hd,← b0,nm,hx1,a7,hk16,hk2,hk3,hd2,wsz,imms,b8,b32,c1',h1,i1,← b1,c2',c3',c4',h2,i2,← b2,c5',c6',c7',h3,i3,← b3,c8',c9',a0,a1,a2,a3,w0,w1,w2,w3,s0,s1,s2,o0,o1,o2,B4,B9]
theorem zC2:∀ b:Fin 256,zDM .andNot .i32 (b.val:Int) (-1)=some (.int .i32 0)∧IntKind.i32.wrap (b.val:Int)=b.val:=by
 intro b
 simp only[zDM,Option.some.injEq,IV.int.injEq,true_and]
 revert b
 decide +kernel
theorem zRD (d:Nat)(hs:0<s.length) (hx:firstT (bAt s 0)=241) (H:PT HB) (n lo:Nat) :
  ∃ n',K DG (d+1) 202 [.imm (.str s)] H n lo=some (.tup [.imm (.int .i32 65533),.imm (.int .i64 1)],H,n'):=by
 have l0:=zC1 s 0
 obtain⟨tl,hd⟩:=zHf l0
 rw[hx] at hd
 have i0:s[0]?=some s[0]:=List.getElem?_eq_getElem hs
 have b0:(bAt s 0:Int)=s[0].toNat:=by simp[bAt,hs]
 have hb0:s[0].toNat<256:=UInt8.toNat_lt _
 have hn1:¬(s.length:Int)<1:=by omega
 have nm:∀ j:Nat,(j:Int).toNat=j:=fun j=>by omega
 obtain⟨q1,q2⟩:=zC2 ⟨bAt s 0,l0⟩
 have q1:zDM .andNot .i32 (bAt s 0:Int) (-1)=some (.int .i32 0):=q1
 have q2:IntKind.i32.wrap (bAt s 0:Int)=bAt s 0:=q2
 have q3:IntKind.i32.wrap 241=241:=by decide
 have q4:IntKind.i32.wrap 517543559168=-2147483648:=by decide
 have q5:zDM .and .i32 65533 (-1)=some (.int .i32 65533):=by rfl
 have q6:zDM .or .i32 0 65533=some (.int .i32 65533):=by rfl
 rw[kX 202 D.f202 rfl]
 simp only[D.f202,zHz,B4,B9,reduceIte,Nat.reduceEqDiff,Nat.reduceAdd]
 simp[hs,hn1,i0,l0,dg0,dg1,zHh,acc_len,hb0,hd,← b0,nm,imms,b8,b32,q1,q2,q3,q4,q5,q6,B4,B9]
def decD (s:List UInt8):Nat×Nat:=if s=[] then (65533,0) else decodeN s.length (bAt s 0) (bAt s 1) (bAt s 2) (bAt s 3)
theorem zRF (d:Nat) (H:PT HB) (n lo:Nat):K DG (d+1) 202 [.imm (.str [])] H n lo=some (.tup [.imm (.int .i32 65533),.imm (.int .i64 0)],H,n):=by
 rw[kX 202 D.f202 rfl]
 simp only[D.f202,zHz,B4,B9,reduceIte,Nat.reduceEqDiff,Nat.reduceAdd]
 simp[B4,B9]
theorem zRG (d:Nat)(hs:s=[]∨128≤bAt s 0) (H:PT HB) (n lo:Nat):∃ n',K DG (d+1) 202 [.imm (.str s)] H n lo=some (.tup [.imm (.int .i32 (decD s).1),.imm (.int .i64 (decD s).2)],H,n'):=by
 by_cases h0:s=[]
 ·subst h0
  exact⟨n,zRF d H n lo⟩
 ·have hl:0<s.length:=List.length_pos_iff.2 h0
  have hb:128≤bAt s 0:=hs.resolve_left h0
  have l0:=zC1 s 0; have l1:=zC1 s 1; have l2:=zC1 s 2; have l3:=zC1 s 3
  by_cases hx:firstT (bAt s 0)<240
  ·obtain⟨r,m,e1,n',e2⟩:=zRE d hl hx H n lo
   rw[slow_eq _ _ _ _ _ (by omega) l1 l2 l3 hx] at e1
   refine⟨n',?_⟩
   rw[e2]
   simp[decD,h0,e1]
  ·have hx':firstT (bAt s 0)=241:=by
    unfold firstT at hx ⊢
    repeat' split at hx
    all_goals first | omega | (repeat' split) <;> omega
   obtain⟨n',e2⟩:=zRD d hl hx' H n lo
   refine⟨n',?_⟩
   rw[e2]
   simp[decD,h0,bad_eq _ _ _ _ _ l0 hx']
theorem zFc (d:Nat) (s:List UInt8):∃ n',K DG (d+2) 191 [.imm (.str s)] .lf 0 0=some (.tup [.imm (.int .i32 (decD s).1),.imm (.int .i64 (decD s).2)],.lf,n'):=by
 rw[kX 191 D.f191 rfl]
 match s with
 | []=>
  obtain⟨n',e⟩:=zRG d (s:=[]) (.inl rfl) .lf 0 0
  have e':bl (K DG (d+1)) 202 [.imm (.str [])]=_:=zDf e rfl
  simp only[D.f191,zHz,B5,B8,reduceIte,Nat.reduceEqDiff,Nat.reduceAdd]
  simp[e',B5,B8]
 | c::t=>
  have hb:bAt (c::t) 0=c.toNat:=rfl
  have hc:c.toNat<256:=UInt8.toNat_lt _
  by_cases h:c.toNat<128
  ·have h':(c.toNat:Int)<128:=by omega
   have w:IntKind.i32.wrap (c.toNat:Int)=c.toNat:=wr32 (by omega) (by omega)
   have ed:decD (c::t)=(c.toNat,1):=by simp[decD,decodeN,hb,h]
   rw[ed]
   simp only[D.f191,zHz,B5,B8,reduceIte,Nat.reduceEqDiff,Nat.reduceAdd]
   simp[h,h',w,B5,B8]
  ·have h':¬(c.toNat:Int)<128:=by omega
   obtain⟨n',e⟩:=zRG d (s:=c::t) (.inr (by rw[hb]; omega)) .lf 0 0
   have e':bl (K DG (d+1)) 202 [.imm (.str (c::t))]=_:=zDf e rfl
   simp only[D.f191,zHz,B5,B8,reduceIte,Nat.reduceEqDiff,Nat.reduceAdd]
   simp[h,h',e',B5,B8]
theorem zFU {D:Nat}(hD:2≤D) (s:List UInt8):bl (K DG D) 191 [.imm (.str s)]=some (.tup [.imm (.int .i32 (decD s).1),.imm (.int .i64 (decD s).2)]):=by
 obtain⟨d,rfl⟩:∃ d,D=d+2:=⟨D - 2,by omega⟩
 obtain⟨n',e⟩:=zFc d s
 exact zDf e rfl
theorem zFb (s:List UInt8) (i:Nat) (hi:i<s.length):Utf8.decode ⟨s.toArray⟩ i=decD (s.drop i):=by
 have hne:s.drop i≠[]:=fun h=>by have:=congrArg List.length h; simp at this; omega
 have g:∀ j,(ByteArray.get! ⟨s.toArray⟩ (i+j)).toNat=bAt (s.drop i) j:=fun j=>by
  simp only[bAt,List.getElem?_drop]
  show (s.toArray[i+j]!).toNat=_
  simp[Array.getElem!_eq_getD,Array.getD_eq_getD_getElem?]
  rfl
 rw[decode_at,decD,if_neg hne,← g 0,← g 1,← g 2,← g 3]
 have:(ByteArray.size ⟨s.toArray⟩)=s.length:=rfl
 rw[this,List.length_drop]
 rfl
end Go.Proofs.YtlknjgmhfimhbaaGreatDoor.D
namespace Go.Proofs.YtlknjgmhfimhbaaGreatDoor.D
open Go Go.PM Go.Lib
def isL (r:Int):Bool:=decide ((97≤r∧r≤122)∨(65≤r∧r≤90)∨(192≤r∧r≤591∧¬r=215∧¬r=247))
theorem zKH (G:Nat→Option (List IV)){D:Nat}(hD:1≤D) (r:Int):bl (K G D) 172 [.imm (.int .i32 r)]=some (.imm (.bool (isL r))):=by
 obtain⟨d,rfl⟩:∃ d,D=d+1:=⟨D - 1,by omega⟩
 refine zDe (H':=.lf) (n':=0) ?_
 rw[kX 172 D.f172 rfl]
 by_cases h1:97≤r
 ·skip
  by_cases h2:r≤122
  ·skip
   simp only[D.f172,zHz,B4,B9,reduceIte,Nat.reduceEqDiff,Nat.reduceAdd]
   simp[h1,h2,isL,B4,B9]
  ·skip
   by_cases h3:65≤r
   ·skip
    by_cases h4:r≤90
    ·skip
     simp only[D.f172,zHz,B4,B9,reduceIte,Nat.reduceEqDiff,Nat.reduceAdd]
     simp[h1,h2,h3,h4,isL,B4,B9]
    ·skip
     by_cases h5:192≤r
     ·skip
      by_cases h6:r≤591
      ·skip
       by_cases h7:r=215
       ·skip
        subst h7
        simp only[D.f172,zHz,B4,B9,reduceIte,Nat.reduceEqDiff,Nat.reduceAdd]
        simp[isL,B4,B9]
       ·skip
        have h7n:=bneT h7
        by_cases h8:r=247
        ·skip
         subst h8
         simp only[D.f172,zHz,B4,B9,reduceIte,Nat.reduceEqDiff,Nat.reduceAdd]
         simp[isL,B4,B9]
        ·skip
         have h8n:=bneT h8
         simp only[D.f172,zHz,B4,B9,reduceIte,Nat.reduceEqDiff,Nat.reduceAdd]
         simp[h1,h2,h3,h4,h5,h6,h7,h7n,h8,h8n,isL,B4,B9]
      ·skip
       simp only[D.f172,zHz,B4,B9,reduceIte,Nat.reduceEqDiff,Nat.reduceAdd]
       simp[h1,h2,h3,h4,h5,h6,isL,B4,B9]
     ·skip
      simp only[D.f172,zHz,B4,B9,reduceIte,Nat.reduceEqDiff,Nat.reduceAdd]
      simp[h1,h2,h3,h4,h5,isL,B4,B9]
   ·skip
    by_cases h5:192≤r
    ·skip
     by_cases h6:r≤591
     ·skip
      by_cases h7:r=215
      ·skip
       subst h7
       simp only[D.f172,zHz,B4,B9,reduceIte,Nat.reduceEqDiff,Nat.reduceAdd]
       simp[isL,B4,B9]
      ·skip
       have h7n:=bneT h7
       by_cases h8:r=247
       ·skip
        subst h8
        simp only[D.f172,zHz,B4,B9,reduceIte,Nat.reduceEqDiff,Nat.reduceAdd]
        simp[isL,B4,B9]
       ·skip
        have h8n:=bneT h8
        simp only[D.f172,zHz,B4,B9,reduceIte,Nat.reduceEqDiff,Nat.reduceAdd]
        simp[h1,h2,h3,h5,h6,h7,h7n,h8,h8n,isL,B4,B9]
     ·skip
      simp only[D.f172,zHz,B4,B9,reduceIte,Nat.reduceEqDiff,Nat.reduceAdd]
      simp[h1,h2,h3,h5,h6,isL,B4,B9]
    ·skip
     simp only[D.f172,zHz,B4,B9,reduceIte,Nat.reduceEqDiff,Nat.reduceAdd]
     simp[h1,h2,h3,h5,isL,B4,B9]
 ·skip
  by_cases h3:65≤r
  ·skip
   by_cases h4:r≤90
   ·skip
    simp only[D.f172,zHz,B4,B9,reduceIte,Nat.reduceEqDiff,Nat.reduceAdd]
    simp[h1,h3,h4,isL,B4,B9]
   ·skip
    by_cases h5:192≤r
    ·skip
     by_cases h6:r≤591
     ·skip
      by_cases h7:r=215
      ·skip
       subst h7
       simp only[D.f172,zHz,B4,B9,reduceIte,Nat.reduceEqDiff,Nat.reduceAdd]
       simp[isL,B4,B9]
      ·skip
       have h7n:=bneT h7
       by_cases h8:r=247
       ·skip
        subst h8
        simp only[D.f172,zHz,B4,B9,reduceIte,Nat.reduceEqDiff,Nat.reduceAdd]
        simp[isL,B4,B9]
       ·skip
        have h8n:=bneT h8
        simp only[D.f172,zHz,B4,B9,reduceIte,Nat.reduceEqDiff,Nat.reduceAdd]
        simp[h1,h3,h4,h5,h6,h7,h7n,h8,h8n,isL,B4,B9]
     ·skip
      simp only[D.f172,zHz,B4,B9,reduceIte,Nat.reduceEqDiff,Nat.reduceAdd]
      simp[h1,h3,h4,h5,h6,isL,B4,B9]
    ·skip
     simp only[D.f172,zHz,B4,B9,reduceIte,Nat.reduceEqDiff,Nat.reduceAdd]
     simp[h1,h3,h4,h5,isL,B4,B9]
  ·skip
   by_cases h5:192≤r
   ·skip
    by_cases h6:r≤591
    ·skip
     by_cases h7:r=215
     ·skip
      subst h7
      simp only[D.f172,zHz,B4,B9,reduceIte,Nat.reduceEqDiff,Nat.reduceAdd]
      simp[isL,B4,B9]
     ·skip
      have h7n:=bneT h7
      by_cases h8:r=247
      ·skip
       subst h8
       simp only[D.f172,zHz,B4,B9,reduceIte,Nat.reduceEqDiff,Nat.reduceAdd]
       simp[isL,B4,B9]
      ·skip
       have h8n:=bneT h8
       simp only[D.f172,zHz,B4,B9,reduceIte,Nat.reduceEqDiff,Nat.reduceAdd]
       simp[h1,h3,h5,h6,h7,h7n,h8,h8n,isL,B4,B9]
    ·skip
     simp only[D.f172,zHz,B4,B9,reduceIte,Nat.reduceEqDiff,Nat.reduceAdd]
     simp[h1,h3,h5,h6,isL,B4,B9]
   ·skip
    simp only[D.f172,zHz,B4,B9,reduceIte,Nat.reduceEqDiff,Nat.reduceAdd]
    simp[h1,h3,h5,isL,B4,B9]
theorem zKG (G:Nat→Option (List IV)){D:Nat}(hD:1≤D) (r:Int):bl (K G D) 169 [.imm (.int .i32 r)]=some (.imm (.bool (isL r))):=by
 obtain⟨d,rfl⟩:∃ d,D=d+1:=⟨D - 1,by omega⟩
 refine zDe (H':=.lf) (n':=0) ?_
 rw[kX 169 D.f169 rfl]
 by_cases h1:97≤r
 ·skip
  by_cases h2:r≤122
  ·skip
   simp only[D.f169,zHz,B4,B9,reduceIte,Nat.reduceEqDiff,Nat.reduceAdd]
   simp[h1,h2,isL,B4,B9]
  ·skip
   by_cases h3:65≤r
   ·skip
    by_cases h4:r≤90
    ·skip
     simp only[D.f169,zHz,B4,B9,reduceIte,Nat.reduceEqDiff,Nat.reduceAdd]
     simp[h1,h2,h3,h4,isL,B4,B9]
    ·skip
     by_cases h5:192≤r
     ·skip
      by_cases h6:r≤591
      ·skip
       by_cases h7:r=215
       ·skip
        subst h7
        simp only[D.f169,zHz,B4,B9,reduceIte,Nat.reduceEqDiff,Nat.reduceAdd]
        simp[isL,B4,B9]
       ·skip
        have h7n:=bneT h7
        by_cases h8:r=247
        ·skip
         subst h8
         simp only[D.f169,zHz,B4,B9,reduceIte,Nat.reduceEqDiff,Nat.reduceAdd]
         simp[isL,B4,B9]
        ·skip
         have h8n:=bneT h8
         simp only[D.f169,zHz,B4,B9,reduceIte,Nat.reduceEqDiff,Nat.reduceAdd]
         simp[h1,h2,h3,h4,h5,h6,h7,h7n,h8,h8n,isL,B4,B9]
      ·skip
       simp only[D.f169,zHz,B4,B9,reduceIte,Nat.reduceEqDiff,Nat.reduceAdd]
       simp[h1,h2,h3,h4,h5,h6,isL,B4,B9]
     ·skip
      simp only[D.f169,zHz,B4,B9,reduceIte,Nat.reduceEqDiff,Nat.reduceAdd]
      simp[h1,h2,h3,h4,h5,isL,B4,B9]
   ·skip
    by_cases h5:192≤r
    ·skip
     by_cases h6:r≤591
     ·skip
      by_cases h7:r=215
      ·skip
       subst h7
       simp only[D.f169,zHz,B4,B9,reduceIte,Nat.reduceEqDiff,Nat.reduceAdd]
       simp[isL,B4,B9]
      ·skip
       have h7n:=bneT h7
       by_cases h8:r=247
       ·skip
        subst h8
        simp only[D.f169,zHz,B4,B9,reduceIte,Nat.reduceEqDiff,Nat.reduceAdd]
        simp[isL,B4,B9]
       ·skip
        have h8n:=bneT h8
        simp only[D.f169,zHz,B4,B9,reduceIte,Nat.reduceEqDiff,Nat.reduceAdd]
        simp[h1,h2,h3,h5,h6,h7,h7n,h8,h8n,isL,B4,B9]
     ·skip
      simp only[D.f169,zHz,B4,B9,reduceIte,Nat.reduceEqDiff,Nat.reduceAdd]
      simp[h1,h2,h3,h5,h6,isL,B4,B9]
    ·skip
     simp only[D.f169,zHz,B4,B9,reduceIte,Nat.reduceEqDiff,Nat.reduceAdd]
     simp[h1,h2,h3,h5,isL,B4,B9]
 ·skip
  by_cases h3:65≤r
  ·skip
   by_cases h4:r≤90
   ·skip
    simp only[D.f169,zHz,B4,B9,reduceIte,Nat.reduceEqDiff,Nat.reduceAdd]
    simp[h1,h3,h4,isL,B4,B9]
   ·skip
    by_cases h5:192≤r
    ·skip
     by_cases h6:r≤591
     ·skip
      by_cases h7:r=215
      ·skip
       subst h7
       simp only[D.f169,zHz,B4,B9,reduceIte,Nat.reduceEqDiff,Nat.reduceAdd]
       simp[isL,B4,B9]
      ·skip
       have h7n:=bneT h7
       by_cases h8:r=247
       ·skip
        subst h8
        simp only[D.f169,zHz,B4,B9,reduceIte,Nat.reduceEqDiff,Nat.reduceAdd]
        simp[isL,B4,B9]
       ·skip
        have h8n:=bneT h8
        simp only[D.f169,zHz,B4,B9,reduceIte,Nat.reduceEqDiff,Nat.reduceAdd]
        simp[h1,h3,h4,h5,h6,h7,h7n,h8,h8n,isL,B4,B9]
     ·skip
      simp only[D.f169,zHz,B4,B9,reduceIte,Nat.reduceEqDiff,Nat.reduceAdd]
      simp[h1,h3,h4,h5,h6,isL,B4,B9]
    ·skip
     simp only[D.f169,zHz,B4,B9,reduceIte,Nat.reduceEqDiff,Nat.reduceAdd]
     simp[h1,h3,h4,h5,isL,B4,B9]
  ·skip
   by_cases h5:192≤r
   ·skip
    by_cases h6:r≤591
    ·skip
     by_cases h7:r=215
     ·skip
      subst h7
      simp only[D.f169,zHz,B4,B9,reduceIte,Nat.reduceEqDiff,Nat.reduceAdd]
      simp[isL,B4,B9]
     ·skip
      have h7n:=bneT h7
      by_cases h8:r=247
      ·skip
       subst h8
       simp only[D.f169,zHz,B4,B9,reduceIte,Nat.reduceEqDiff,Nat.reduceAdd]
       simp[isL,B4,B9]
      ·skip
       have h8n:=bneT h8
       simp only[D.f169,zHz,B4,B9,reduceIte,Nat.reduceEqDiff,Nat.reduceAdd]
       simp[h1,h3,h5,h6,h7,h7n,h8,h8n,isL,B4,B9]
    ·skip
     simp only[D.f169,zHz,B4,B9,reduceIte,Nat.reduceEqDiff,Nat.reduceAdd]
     simp[h1,h3,h5,h6,isL,B4,B9]
   ·skip
    simp only[D.f169,zHz,B4,B9,reduceIte,Nat.reduceEqDiff,Nat.reduceAdd]
    simp[h1,h3,h5,isL,B4,B9]
theorem zTY {D:Nat}(hD:3≤D){s:List UInt8}{i:Nat}(hi:i≤s.length):bl (K DG D) 171 [.imm (.str s),.imm (.int .i64 i)]=some (.imm (.bool (decide ((decD (s.drop i)).1=65533∧(decD (s.drop i)).2=1)))):=by
 obtain⟨d,rfl⟩:∃ d,D=d+1:=⟨D - 1,by omega⟩
 refine zDe (H':=.lf) (n':=0) ?_
 rw[kX 171 D.f171 rfl]
 have e:=zFU (D:=d) (by omega) (s.drop i)
 generalize decD (s.drop i)=p at *
 obtain⟨r,m⟩:=p
 by_cases h1:r=65533
 ·subst h1
  by_cases h2:m=1
  ·subst h2
   simp only[D.f171,zHz,B5,B8,reduceIte,Nat.reduceEqDiff,Nat.reduceAdd]
   simp[hi,e,zRB,B5,B8]
  ·have h2':((m:Int)==1)=false:=beqF (by omega)
   simp only[D.f171,zHz,B5,B8,reduceIte,Nat.reduceEqDiff,Nat.reduceAdd]
   simp[hi,e,h2,h2',zRB,B5,B8]
 ·have h1':((r:Int)==65533)=false:=beqF (by omega)
  simp only[D.f171,zHz,B5,B8,reduceIte,Nat.reduceEqDiff,Nat.reduceAdd]
  simp[hi,e,h1,h1',zRB,B5,B8]
end Go.Proofs.YtlknjgmhfimhbaaGreatDoor.D
namespace Go.Proofs.YtlknjgmhfimhbaaGreatDoor.D
open Go Go.PM Go.Lib
theorem zFT (n b0 b1 b2 b3:Nat) (hn:1≤n):1≤(decodeN n b0 b1 b2 b3).2∧(decodeN n b0 b1 b2 b3).2≤n:=by
 unfold decodeN
 repeat' split
 all_goals simp only
 all_goals omega
variable {s:List UInt8}
theorem zFS(h:s≠[]):1≤(decD s).2∧(decD s).2≤s.length:=by
 rw[decD,if_neg h]
 exact zFT _ _ _ _ _ (List.length_pos_iff.2 h)
def zQB:Nat→List UInt8→List (Nat×Nat)
 | 0,_=>[]
 | k+1,s=>if s=[] then [] else decD s::zQB k (s.drop (decD s).2)
theorem zQE:∀ (k:Nat) (s:List UInt8),s.length≤k→zQB (k+1) s=zQB k s
 | 0,s,h=>by
  obtain rfl:s=[]:=List.eq_nil_of_length_eq_zero (by omega)
  simp[zQB]
 | k+1,s,h=>by
  rw[zQB]
  conv=>rhs; rw[zQB]
  by_cases h0:s=[]
  ·simp[h0]
  ·have:=(zFS h0).1
   rw[if_neg h0,if_neg h0,zQE k _ (by rw[List.length_drop]; omega)]
def RS (s:List UInt8):List (Nat×Nat):=zQB s.length s
theorem zQD {k:Nat}(h:s.length≤k):zQB k s=RS s:=by
 obtain⟨j,rfl⟩:∃ j,k=s.length+j:=⟨k - s.length,by omega⟩
 clear h
 induction j with
 | zero=>rfl
 | succ j ih=>rw[← Nat.add_assoc,zQE _ _ (by omega),ih]
theorem zBQ:RS []=[]:=rfl
theorem zBO(h:s≠[]):RS s=decD s::RS (s.drop (decD s).2):=by
 have hl:=List.length_pos_iff.2 h
 have hd:=zFS h
 obtain⟨k,hk⟩:∃ k,s.length=k+1:=⟨s.length - 1,by omega⟩
 unfold RS
 rw[hk,zQB,if_neg h,zQD (by rw[List.length_drop]; omega)]
 rfl
theorem zBP (s:List UInt8):(RS s).length≤s.length:=by
 have:∀ (k:Nat) (s:List UInt8),s.length≤k→(RS s).length≤s.length:=fun k=>by
  induction k with
  | zero=>
   intro s h
   obtain rfl:s=[]:=List.eq_nil_of_length_eq_zero (by omega)
   simp[zBQ]
  | succ k ih=>
   intro s h
   by_cases h0:s=[]
   ·subst h0; simp[zBQ]
   ·have hd:=zFS h0
    rw[zBO h0,List.length_cons]
    have:=ih (s.drop (decD s).2) (by rw[List.length_drop]; omega)
    rw[List.length_drop] at this
    omega
 exact this _ s (Nat.le_refl _)
def okR (p:Nat×Nat) (i:Nat):Bool:=!decide (p.1=65533∧p.2=1)&&(isL p.1||decide (0<i∧48≤p.1∧p.1≤57))
def allR (l:List (Nat×Nat)):Bool:=l.zipIdx.all fun x=>okR x.1 x.2
def isNm (s:List UInt8):Bool:=allR (RS s)&&decide (1≤(RS s).length∧(RS s).length≤8)
theorem zCA {l:List (Nat×Nat)}{i:Nat}{p:Nat×Nat}(h:l[i]?=some p) (hp:okR p i=false):allR l=false:=by
 unfold allR
 rw[List.all_eq_false]
 refine⟨(p,i),?_,by simp[hp]⟩
 rw[List.mem_zipIdx_iff_getElem?]
 simpa using h
theorem zCB {l:List (Nat×Nat)}(h:∀ (i:Nat) p,l[i]?=some p→okR p i=true):allR l=true:=by
 unfold allR
 rw[List.all_eq_true]
 rintro⟨p,i⟩ hm
 rw[List.mem_zipIdx_iff_getElem?] at hm
 exact h i p (by simpa using hm)
end Go.Proofs.YtlknjgmhfimhbaaGreatDoor.D
namespace Go.Proofs.YtlknjgmhfimhbaaGreatDoor.D
open Go Go.PM Go.Lib
def IW (s:List UInt8) (i:Nat) (st:St):Prop:=∃ pos,pos≤s.length∧(0<i↔0<pos)∧RS (s.drop pos)=(RS s).drop i∧st.T.get 0=some (.imm (.str s))∧st.T.get 3=some (.imm (.int .i64 i))∧
 (∃ id,st.T.get 8=some (.lref 8 id 0)∧st.L.get 8=some (.iter id s pos))∧st.H=.lf∧∀ j p,j<i→(RS s)[j]?=some p→okR p j=true
theorem zLc {d:Nat}(hd:3≤d){s:List UInt8}(hl:s.length≤reachBytes){st:St}(h:IW s 0 st) :
  ∃ e st',D.l148_0.run DG (K DG d) 0 st=some (e,st')∧((e=.ret∧st'.T.get 2=some (.imm (.bool false))∧st'.H=.lf∧allR (RS s)=false)∨
   (e=.exit 0∧st'.T.get 3=some (.imm (.int .i64 (RS s).length))∧st'.H=.lf∧allR (RS s)=true)):=by
 have hrl:=zBP s
 refine zO4 (N:=(RS s).length) (zRH (by omega)) (IW s) _ (fun i st hI hle=>?_) st h
 obtain⟨pos,hp1,hp2,hp3,hP0,hP3,⟨id,hP8,hPL⟩,hH,hall⟩:=hI
 by_cases hi:i<(RS s).length
 ·have hne:s.drop pos≠[]:=fun h0=>by
   rw[h0,zBQ] at hp3
   have:=congrArg List.length hp3
   simp at this
   omega
  have hpos:pos<s.length:=by
   have:=List.length_pos_iff.2 hne
   rw[List.length_drop] at this
   omega
  have hmod:=zFb s pos hpos
  have hlen:=zFS hne
  have hcons:=zBO hne
  have hw0:=zTY (D:=d) hd (s:=s) (i:=pos) (by omega)
  obtain⟨r,m,hrm⟩:∃ r m,decD (s.drop pos)=(r,m):=⟨_,_,rfl⟩
  rw[hrm] at hmod hlen hcons hw0
  simp only at hlen hcons hw0
  rw[List.length_drop] at hlen
  rw[List.drop_drop] at hcons
  have hget:(RS s)[i]?=some (r,m):=by
   have:=congrArg (·[0]?) (hp3.symm.trans hcons)
   simpa using this
  have hrest:RS (s.drop (pos+m))=(RS s).drop (i+1):=by
   have:=congrArg (List.drop 1) (hp3.symm.trans hcons)
   simpa [Nat.add_comm] using this.symm
  have hdec:Utf8.decode ⟨s.toArray⟩ pos=(r,m):=hmod
  have hw:=zKH DG (D:=d) (by omega) (r:Int)
  have hw8:IntKind.i64.wrap ((i:Int)+1)=(i:Int)+1:=zTX hi (by omega)
  have hi0:(0<i)=(0<pos):=propext hp2
  generalize hWe:decide (r=65533∧m=1)=W at hw0
  have e1:(r=65533∧m=1)↔W=true:=by rw[← hWe]; simp
  generalize hLe:isL (r:Int)=Lt at hw
  have e2:isL (r:Int)=Lt:=hLe
  cases hW:W
  ·cases hL:Lt
   ·subst hW hL
    by_cases d1:48≤r
    ·have d1':(48:Int)≤r:=by omega
     by_cases d2:r≤57
     ·have d2':(r:Int)≤57:=by omega
      by_cases d3:0<pos
      ·have d3':(0:Int)<pos:=by omega
       have hok:okR (r,m) i=true:=by simp[okR,hi0,d1,d2,d3,e1,e2]
       left
       refine⟨hi,?_⟩
       simp only[D.l148_0b,keep,B5,B8,reduceIte,Nat.reduceEqDiff,Nat.reduceAdd]
       simp[hP0,hP3,hP8,hPL,hpos,hdec,hw,hw8,hH,d1,d1',d2,d2',d3,d3',hw0,B5,B8]
       refine⟨pos+m,by omega,by omega,hrest,by simp[gP],by simp[gP],⟨id,by simp[gP,hP8],by simp[gP,hPL]⟩,rfl,fun j p hj hp=>?_⟩
       rcases Nat.lt_or_eq_of_le (Nat.le_of_lt_succ hj) with hj | rfl
       ·exact hall j p hj hp
       ·rw[hget] at hp; cases hp; exact hok
      ·have d3':¬(0:Int)<pos:=by omega
       have hok:okR (r,m) i=false:=by simp[okR,hi0,d1,d2,d3,e1,e2]
       right
       refine⟨.ret,?_⟩
       simp only[D.l148_0b,keep,B5,B8,reduceIte,Nat.reduceEqDiff,Nat.reduceAdd]
       simp[hP0,hP3,hP8,hPL,hpos,hdec,hw,hw8,hH,d1,d1',d2,d2',d3,d3',hw0,B5,B8]
       exact zCA hget hok
     ·have d2':¬(r:Int)≤57:=by omega
      have hok:okR (r,m) i=false:=by simp[okR,hi0,d1,d2,e1,e2]
      right
      refine⟨.ret,?_⟩
      simp only[D.l148_0b,keep,B5,B8,reduceIte,Nat.reduceEqDiff,Nat.reduceAdd]
      simp[hP0,hP3,hP8,hPL,hpos,hdec,hw,hw8,hH,d1,d1',d2,d2',hw0,B5,B8]
      exact zCA hget hok
    ·have d1':¬(48:Int)≤r:=by omega
     have hok:okR (r,m) i=false:=by simp[okR,hi0,d1,e1,e2]
     right
     refine⟨.ret,?_⟩
     simp only[D.l148_0b,keep,B5,B8,reduceIte,Nat.reduceEqDiff,Nat.reduceAdd]
     simp[hP0,hP3,hP8,hPL,hpos,hdec,hw,hw8,hH,d1,d1',hw0,B5,B8]
     exact zCA hget hok
   ·subst hW hL
    by_cases d1:48≤r
    ·have d1':(48:Int)≤r:=by omega
     by_cases d2:r≤57
     ·have d2':(r:Int)≤57:=by omega
      by_cases d3:0<pos
      ·have d3':(0:Int)<pos:=by omega
       have hok:okR (r,m) i=true:=by simp[okR,hi0,d1,d2,d3,e1,e2]
       left
       refine⟨hi,?_⟩
       simp only[D.l148_0b,keep,B5,B8,reduceIte,Nat.reduceEqDiff,Nat.reduceAdd]
       simp[hP0,hP3,hP8,hPL,hpos,hdec,hw,hw8,hH,d1,d1',d2,d2',d3,d3',hw0,B5,B8]
       refine⟨pos+m,by omega,by omega,hrest,by simp[gP],by simp[gP],⟨id,by simp[gP,hP8],by simp[gP,hPL]⟩,rfl,fun j p hj hp=>?_⟩
       rcases Nat.lt_or_eq_of_le (Nat.le_of_lt_succ hj) with hj | rfl
       ·exact hall j p hj hp
       ·rw[hget] at hp; cases hp; exact hok
      ·have d3':¬(0:Int)<pos:=by omega
       have hok:okR (r,m) i=true:=by simp[okR,hi0,d1,d2,d3,e1,e2]
       left
       refine⟨hi,?_⟩
       simp only[D.l148_0b,keep,B5,B8,reduceIte,Nat.reduceEqDiff,Nat.reduceAdd]
       simp[hP0,hP3,hP8,hPL,hpos,hdec,hw,hw8,hH,d1,d1',d2,d2',d3,d3',hw0,B5,B8]
       refine⟨pos+m,by omega,by omega,hrest,by simp[gP],by simp[gP],⟨id,by simp[gP,hP8],by simp[gP,hPL]⟩,rfl,fun j p hj hp=>?_⟩
       rcases Nat.lt_or_eq_of_le (Nat.le_of_lt_succ hj) with hj | rfl
       ·exact hall j p hj hp
       ·rw[hget] at hp; cases hp; exact hok
     ·have d2':¬(r:Int)≤57:=by omega
      have hok:okR (r,m) i=true:=by simp[okR,hi0,d1,d2,e1,e2]
      left
      refine⟨hi,?_⟩
      simp only[D.l148_0b,keep,B5,B8,reduceIte,Nat.reduceEqDiff,Nat.reduceAdd]
      simp[hP0,hP3,hP8,hPL,hpos,hdec,hw,hw8,hH,d1,d1',d2,d2',hw0,B5,B8]
      refine⟨pos+m,by omega,by omega,hrest,by simp[gP],by simp[gP],⟨id,by simp[gP,hP8],by simp[gP,hPL]⟩,rfl,fun j p hj hp=>?_⟩
      rcases Nat.lt_or_eq_of_le (Nat.le_of_lt_succ hj) with hj | rfl
      ·exact hall j p hj hp
      ·rw[hget] at hp; cases hp; exact hok
    ·have d1':¬(48:Int)≤r:=by omega
     have hok:okR (r,m) i=true:=by simp[okR,hi0,d1,e1,e2]
     left
     refine⟨hi,?_⟩
     simp only[D.l148_0b,keep,B5,B8,reduceIte,Nat.reduceEqDiff,Nat.reduceAdd]
     simp[hP0,hP3,hP8,hPL,hpos,hdec,hw,hw8,hH,d1,d1',hw0,B5,B8]
     refine⟨pos+m,by omega,by omega,hrest,by simp[gP],by simp[gP],⟨id,by simp[gP,hP8],by simp[gP,hPL]⟩,rfl,fun j p hj hp=>?_⟩
     rcases Nat.lt_or_eq_of_le (Nat.le_of_lt_succ hj) with hj | rfl
     ·exact hall j p hj hp
     ·rw[hget] at hp; cases hp; exact hok
  ·subst hW
   by_cases d1:48≤r
   ·have d1':(48:Int)≤r:=by omega
    by_cases d2:r≤57
    ·have d2':(r:Int)≤57:=by omega
     by_cases d3:0<pos
     ·have d3':(0:Int)<pos:=by omega
      have hok:okR (r,m) i=false:=by simp[okR,hi0,d1,d2,d3,e1,e2]
      right
      refine⟨.ret,?_⟩
      simp only[D.l148_0b,keep,B5,B8,reduceIte,Nat.reduceEqDiff,Nat.reduceAdd]
      simp[hP0,hP3,hP8,hPL,hpos,hdec,hw,hw8,hH,d1,d1',d2,d2',d3,d3',hw0,B5,B8]
      exact zCA hget hok
     ·have d3':¬(0:Int)<pos:=by omega
      have hok:okR (r,m) i=false:=by simp[okR,hi0,d1,d2,d3,e1,e2]
      right
      refine⟨.ret,?_⟩
      simp only[D.l148_0b,keep,B5,B8,reduceIte,Nat.reduceEqDiff,Nat.reduceAdd]
      simp[hP0,hP3,hP8,hPL,hpos,hdec,hw,hw8,hH,d1,d1',d2,d2',d3,d3',hw0,B5,B8]
      exact zCA hget hok
    ·have d2':¬(r:Int)≤57:=by omega
     have hok:okR (r,m) i=false:=by simp[okR,hi0,d1,d2,e1,e2]
     right
     refine⟨.ret,?_⟩
     simp only[D.l148_0b,keep,B5,B8,reduceIte,Nat.reduceEqDiff,Nat.reduceAdd]
     simp[hP0,hP3,hP8,hPL,hpos,hdec,hw,hw8,hH,d1,d1',d2,d2',hw0,B5,B8]
     exact zCA hget hok
   ·have d1':¬(48:Int)≤r:=by omega
    have hok:okR (r,m) i=false:=by simp[okR,hi0,d1,e1,e2]
    right
    refine⟨.ret,?_⟩
    simp only[D.l148_0b,keep,B5,B8,reduceIte,Nat.reduceEqDiff,Nat.reduceAdd]
    simp[hP0,hP3,hP8,hPL,hpos,hdec,hw,hw8,hH,d1,d1',hw0,B5,B8]
    exact zCA hget hok
 ·obtain rfl:i=(RS s).length:=by omega
  right
  refine⟨.exit 0,?_⟩
  have hnil:RS (s.drop pos)=[]:=by rw[hp3,List.drop_length]
  have hpos:¬pos<s.length:=fun h=>by
   have hne:s.drop pos≠[]:=fun h0=>by have:=congrArg List.length h0; simp at this; omega
   rw[zBO hne] at hnil
   cases hnil
  simp only[D.l148_0b,keep,B5,B8,reduceIte,Nat.reduceEqDiff,Nat.reduceAdd]
  simp[hP0,hP3,hP8,hPL,hpos,hH,B5,B8]
  exact zCB fun j p hj=>hall j p (List.getElem?_eq_some_iff.1 hj).1 hj
theorem zJP {D:Nat}(hD:4≤D){s:List UInt8}(hl:s.length≤reachBytes):bl (K DG D) 148 [.imm (.str s)]=some (.imm (.bool (isNm s))):=by
 obtain⟨d,rfl⟩:∃ d,D=d+1:=⟨D - 1,by omega⟩
 have key:∃ n',K DG (d+1) 148 [.imm (.str s)] .lf 0 0=some (.imm (.bool (isNm s)),.lf,n'):=by
  rw[kX 148 D.f148 rfl]
  simp only[D.f148,zHz,B5,B8,reduceIte,Nat.reduceEqDiff,Nat.reduceAdd]
  generalize hrun:D.l148_0.run DG (K DG d) 0 _=r
  obtain⟨e,st',rfl,hq⟩:∃ e st',r=some (e,st')∧((e=.ret∧st'.T.get 2=some (.imm (.bool false))∧st'.H=.lf∧allR (RS s)=false)∨
    (e=.exit 0∧st'.T.get 3=some (.imm (.int .i64 (RS s).length))∧st'.H=.lf∧allR (RS s)=true)):=by
   rw[← hrun]
   refine zLc (by omega) hl ⟨0,by omega,by simp,by simp,by simp[gP],by simp[gP],⟨0,by simp[gP],by simp[gP]⟩,rfl,fun j p hj=>absurd hj (by omega)⟩
  clear hrun
  rcases hq with⟨rfl,q1,q2,q3⟩ | ⟨rfl,q1,q2,q3⟩
  ·simp[q1,q2,isNm,q3,B5,B8]
  ·by_cases h1:1≤(RS s).length
   ·have h1':(1:Int)≤(RS s).length:=by omega
    by_cases h2:(RS s).length≤8
    ·have h2':((RS s).length:Int)≤8:=by omega
     simp[q1,q2,isNm,q3,h1,h1',h2,h2',B5,B8]
    ·have h2':¬((RS s).length:Int)≤8:=by omega
     simp[q1,q2,isNm,q3,h1,h1',h2,h2',B5,B8]
   ·have h1':¬(1:Int)≤(RS s).length:=by omega
    simp[q1,q2,isNm,q3,h1,h1',B5,B8]
 obtain⟨n',e⟩:=key
 exact zDe e
end Go.Proofs.YtlknjgmhfimhbaaGreatDoor.D
namespace Go.Proofs.YtlknjgmhfimhbaaGreatDoor.D
open Go Go.PM Go.Lib
def AtS (sz:Nat) (x:DV) (H:PT HB) (n:Nat) (rows:List (List IV)):Prop:=(x=.imm .nils∧rows=[])∨∃ id,id<n∧x=.sl id 0 rows.length rows.length∧H.get id=some ⟨sz,rows.map imms⟩
theorem zCa {sz bytes:Nat}{x:DV}{H:PT HB}{n:Nat}{rows:List (List IV)}(h:AtS sz x H n rows) (hs:0<sz) (hl:rows.length≤2 ^ 30) (hb:bytes≤100) (e:List IV) :
  ∃ x' hw acc,zCK H.get n 0 sz bytes x (.imm (.lst true sz [e]))=some { v:=x',hw:=hw,n':=n+1,acc:=acc }∧AtS sz x' (putH H hw) (n+1) (rows++[e]):=by
 rcases h with⟨rfl,rfl⟩ | ⟨id,h2,rfl,h3⟩
 ·have a2:bytes≤zCJ:=by unfold zCJ; omega
  have a0:1≤zCJ:=by unfold zCJ; omega
  refine⟨.sl n 0 1 1,[(n,some ⟨sz,[imms e]⟩)],[.wX n],by simp[zCK,zRS,zPV,zOS,a0,a2,hs],.inr ⟨n,by omega,rfl,?_⟩⟩
  simp[putH,gP]
 ·have a1:¬rows.length+1≤rows.length:=by omega
  have a2:rows.length+1≤zCJ:=by unfold zCJ; omega
  have a3:(rows.length+1)*bytes≤zCJ:=by
   have:=Nat.mul_le_mul (show rows.length+1≤2 ^ 30+1 by omega) hb
   unfold zCJ; omega
  refine⟨.sl n 0 (rows.length+1) (rows.length+1),[(id,none),(n,some ⟨sz,rows.map imms++[imms e]⟩)],_,by simp[zCK,zRS,zPV,zOS,h3,a1,a2,a3,hs]; rfl,.inr ⟨n,by omega,by simp,?_⟩⟩
  simp[putH,gP]
theorem zLo {h:Nat→Option HB}{lo d:Nat}:∀ es:List IV,mapO (frzI h lo d) (imms es)=some es
 | []=>rfl
 | e::es=>by
  have:=zLo (h:=h) (lo:=lo) (d:=d) es
  cases d <;> simp[imms,mapO,frzI] at this ⊢ <;> rw[this]
theorem zLp {h:Nat→Option HB}{lo d:Nat}:∀ rows:List (List IV),mapO (mapO (frzI h lo d)) (rows.map imms)=some rows
 | []=>rfl
 | e::es=>by
  simp only[List.map_cons,mapO,zLo,zLp es]
theorem zIE {sz:Nat}{x:DV}{H:PT HB}{n:Nat}{rows:List (List IV)}(h:AtS sz x H n rows):∃ v,frz H.get 0 x=some (.imm v)∧Sl sz v rows:=by
 rcases h with⟨rfl,rfl⟩ | ⟨id,h2,rfl,h3⟩
 ·exact⟨_,rfl,.inl ⟨rfl,rfl⟩⟩
 ·refine⟨.lst false sz rows,?_,.inr ⟨_,rfl⟩⟩
  have hf:frzI H.get 0 zH8 (.sl id 0 rows.length rows.length)=some (.lst false sz rows):=by
   show (if 0≤id then _ else _)=_
   rw[if_pos (Nat.zero_le _)]
   simp only[h3]
   rw[if_pos (by simp)]
   simp only[List.drop_zero]
   rw[List.take_of_length_le (by simp),zLp]
   rfl
  have hz:frz H.get 0 (.sl id 0 rows.length rows.length)=if id<0 then some (.sl id 0 rows.length rows.length) else (frzI H.get 0 zH8 (.sl id 0 rows.length rows.length)).map .imm:=rfl
  rw[hz,if_neg (Nat.not_lt_zero _),hf]
  rfl
def rowR (p:Nat×Nat):List IV:=[.int .i32 p.1,.int .i64 p.2,.bool (decide (p.1=65533∧p.2=1))]
def IR (s:List UInt8) (i:Nat) (st:St):Prop:=∃ pos x,pos≤s.length∧RS (s.drop pos)=(RS s).drop i∧st.T.get 0=some (.imm (.str s))∧st.T.get 3=some x∧st.T.get 4=some (.imm (.int .i64 pos))∧
 AtS 3 x st.H st.n (((RS s).take i).map rowR)
theorem zLP {d:Nat}(hd:2≤d){s:List UInt8}(hl:s.length≤100000){st:St}(h:IR s 0 st) :
  ∃ e st',D.l168_0.run DG (K DG d) 0 st=some (e,st')∧e=.exit 0∧∃ x,st'.T.get 3=some x∧AtS 3 x st'.H st'.n ((RS s).map rowR):=by
 have hrl:=zBP s
 refine zO4 (N:=(RS s).length) (by unfold LOOP; omega) (IR s) _ (fun i st hI hle=>?_) st h
 obtain⟨pos,x,hp1,hp3,hP0,hP3,hP4,hat⟩:=hI
 by_cases hi:i<(RS s).length
 ·left
  refine⟨hi,?_⟩
  have hne:s.drop pos≠[]:=fun h0=>by
   rw[h0,zBQ] at hp3
   have:=congrArg List.length hp3
   simp at this
   omega
  have hpos:pos<s.length:=by
   have:=List.length_pos_iff.2 hne
   rw[List.length_drop] at this
   omega
  have hpos':(pos:Int)<s.length:=by omega
  have hlen:=zFS hne
  have hcons:=zBO hne
  have hdec:=zFU (D:=d) hd (s.drop pos)
  obtain⟨r,m,hrm⟩:∃ r m,decD (s.drop pos)=(r,m):=⟨_,_,rfl⟩
  rw[hrm] at hlen hcons hdec
  simp only at hlen hcons hdec
  rw[List.length_drop] at hlen
  rw[List.drop_drop] at hcons
  have hget:(RS s)[i]?=some (r,m):=by
   have:=congrArg (·[0]?) (hp3.symm.trans hcons)
   simpa using this
  have hrest:RS (s.drop (pos+m))=(RS s).drop (i+1):=by
   have:=congrArg (List.drop 1) (hp3.symm.trans hcons)
   simpa [Nat.add_comm] using this.symm
  have hple:pos≤s.length:=hp1
  have hwp:IntKind.i64.wrap ((pos:Int)+m)=((pos+m:Nat):Int):=by rw[zTW (by omega) (by omega)]; omega
  have hll:(((RS s).take i).map rowR).length≤2 ^ 30:=by simp; omega
  obtain⟨x',hw,acc,p1,p2⟩:=zCa (bytes:=24) hat (by omega) hll (by omega) (rowR (r,m))
  have et:((RS s).take i).map rowR++[rowR (r,m)]=((RS s).take (i+1)).map rowR:=by
   rw[List.take_add_one,hget,List.map_append]; rfl
  rw[et] at p2
  obtain⟨y,hy⟩:∃ y:Nat,y=pos+m:=⟨_,rfl⟩
  rw[← hy] at hwp hrest
  by_cases h1:r=65533
  ·subst h1
   by_cases h2:m=1
   ·subst h2
    have p1':zCK st.H.get st.n 0 3 24 x (.imm (.lst true 3 [[.int .i32 65533,.int .i64 1,.bool true]]))=_:=p1
    have hwp':IntKind.i64.wrap ((pos:Int)+1)=(y:Int):=hwp
    simp only[D.l168_0b,keep,B5,B8,reduceIte,Nat.reduceEqDiff,Nat.reduceAdd]
    simp[hP0,hP3,hP4,hpos,hpos',hple,hdec,hwp,hwp',p1',zRB,zHG,zHH,lay,zS4,zS2,mapO,zPT,imms,B5,B8]
    exact⟨y,x',by omega,hrest,by simp[gP],by simp[gP],by simp[gP],p2⟩
   ·have h2':((m:Int)==1)=false:=beqF (by omega)
    have p1':zCK st.H.get st.n 0 3 24 x (.imm (.lst true 3 [[.int .i32 65533,.int .i64 m,.bool false]]))=some { v:=x',hw:=hw,n':=st.n+1,acc:=acc }:=by rw[← p1]; simp[rowR,h2]
    simp only[D.l168_0b,keep,B5,B8,reduceIte,Nat.reduceEqDiff,Nat.reduceAdd]
    simp[hP0,hP3,hP4,hpos,hpos',hple,hdec,hwp,h2,h2',p1',zRB,zHG,zHH,lay,zS4,zS2,mapO,zPT,imms,B5,B8]
    exact⟨y,x',by omega,hrest,by simp[gP],by simp[gP],by simp[gP],p2⟩
  ·have h1':((r:Int)==65533)=false:=beqF (by omega)
   have p1':zCK st.H.get st.n 0 3 24 x (.imm (.lst true 3 [[.int .i32 r,.int .i64 m,.bool false]]))=some { v:=x',hw:=hw,n':=st.n+1,acc:=acc }:=by rw[← p1]; simp[rowR,h1]
   simp only[D.l168_0b,keep,B5,B8,reduceIte,Nat.reduceEqDiff,Nat.reduceAdd]
   simp[hP0,hP3,hP4,hpos,hpos',hple,hdec,hwp,h1,h1',p1',zRB,zHG,zHH,lay,zS4,zS2,mapO,zPT,imms,B5,B8]
   exact⟨y,x',by omega,hrest,by simp[gP],by simp[gP],by simp[gP],p2⟩
 ·obtain rfl:i=(RS s).length:=by omega
  right
  refine⟨.exit 0,?_⟩
  have hnil:RS (s.drop pos)=[]:=by rw[hp3,List.drop_length]
  have hpos:¬pos<s.length:=fun h=>by
   have hne:s.drop pos≠[]:=fun h0=>by have:=congrArg List.length h0; simp at this; omega
   rw[zBO hne] at hnil
   cases hnil
  have hpos':¬(pos:Int)<s.length:=by omega
  rw[List.take_length] at hat
  simp only[D.l168_0b,keep,B5,B8,reduceIte,Nat.reduceEqDiff,Nat.reduceAdd]
  simp[hP0,hP3,hP4,hpos,hpos',B5,B8]
  exact hat
theorem zQC {D:Nat}(hD:3≤D){s:List UInt8}(hl:s.length≤100000):∃ v,bl (K DG D) 168 [.imm (.str s)]=some (.imm v)∧Sl 3 v ((RS s).map rowR):=by
 obtain⟨d,rfl⟩:∃ d,D=d+1:=⟨D - 1,by omega⟩
 have key:∃ x H' n',K DG (d+1) 168 [.imm (.str s)] .lf 0 0=some (x,H',n')∧AtS 3 x H' n' ((RS s).map rowR):=by
  rw[kX 168 D.f168 rfl]
  simp only[D.f168,zHz,B5,B8,reduceIte,Nat.reduceEqDiff,Nat.reduceAdd]
  generalize hrun:D.l168_0.run DG (K DG d) 0 _=r
  obtain⟨e,st',rfl,rfl,x,q1,q2⟩:∃ e st',r=some (e,st')∧e=.exit 0∧∃ x,st'.T.get 3=some x∧AtS 3 x st'.H st'.n ((RS s).map rowR):=by
   rw[← hrun]
   refine zLP (by omega) hl ⟨0,.imm .nils,by omega,by simp,by simp[gP],by simp[gP],by simp[gP],.inl ⟨rfl,by simp⟩⟩
  clear hrun
  have ho:x.out=true:=by
   rcases q2 with⟨rfl,_⟩ | ⟨id,_,rfl,_⟩ <;> rfl
  refine⟨x,st'.H,st'.n,?_,q2⟩
  simp[q1,ho,B5,B8]
 obtain⟨x,H',n',e,h⟩:=key
 obtain⟨v,f1,f2⟩:=zIE h
 exact⟨v,zDf e f1,f2⟩
end Go.Proofs.YtlknjgmhfimhbaaGreatDoor.D
namespace Go.Proofs.YtlknjgmhfimhbaaGreatDoor.D
open Go Go.PM Go.Lib
def IX (v:IV) (l:List (Nat×Nat)) (i:Nat) (st:St):Prop:=st.T.get 3=some (.imm v)∧st.T.get 4=some (.imm (.int .i64 i))∧st.H=.lf∧∀ j p,j<i→l[j]?=some p→okR p j=true
theorem zLg {d:Nat}(hd:1≤d){f:Bool}{l:List (Nat×Nat)}(hl:l.length≤reachBytes){st:St}(h:IX (.lst f 3 (l.map rowR)) l 0 st) :
  ∃ e st',D.l144_0.run DG (K DG d) 0 st=some (e,st')∧((e=.ret∧st'.T.get 2=some (.imm (.bool false))∧st'.H=.lf∧allR l=false)∨
   (e=.exit 0∧st'.T.get 3=some (.imm (.lst f 3 (l.map rowR)))∧st'.H=.lf∧allR l=true)):=by
 generalize hv0:(IV.lst f 3 (l.map rowR))=v at *
 have hv:=hv0.symm
 refine zO4 (N:=l.length) (zRH hl) (IX v l) _ (fun i st hI hle=>?_) st h
 obtain⟨h3,h4,hH,hall⟩:=hI
 by_cases hi:i<l.length
 ·have hi':(i:Int)<l.length:=by omega
  obtain⟨r,m,hrm⟩:∃ r m,l[i]=(r,m):=⟨_,_,rfl⟩
  have hget:l[i]?=some (r,m):=by rw[List.getElem?_eq_getElem hi,hrm]
  have hes:l[i]=(r,m):=hrm
  have hlet:=zKG DG (D:=d) hd (r:Int)
  have hw8:IntKind.i64.wrap ((i:Int)+1)=(i:Int)+1:=zTX hi hl
  generalize hWe:decide (r=65533∧m=1)=W
  have e1:(r=65533∧m=1)↔W=true:=by rw[← hWe]; simp
  have e1':decide (r=65533∧m=1)=W:=hWe
  generalize hLe:isL (r:Int)=Lt at hlet
  have e2:isL (r:Int)=Lt:=hLe
  cases W
  ·cases Lt
   ·by_cases d3:0<i
    ·have d3':((i:Int)==0)=false:=beqF (by omega)
     by_cases d1:48≤r
     ·have d1':¬(r:Int)<48:=by omega
      by_cases d2:r≤57
      ·have d2':¬(57:Int)<r:=by omega
       have hok:okR (r,m) i=true:=by simp[okR,e1,e2,d1,d2,d3]
       left
       refine⟨hi,?_⟩
       simp only[D.l144_0b,keep,B5,B8,reduceIte,Nat.reduceEqDiff,Nat.reduceAdd]
       simp[hv,h3,h4,hi,hi',hes,hlet,hH,rowR,imms,d1,d1',d2,d2',d3,d3',e1',hw8,B5,B8]
       exact⟨by simp[gP,h3],by simp[gP],rfl,fun j p hj hp=>by
        rcases Nat.lt_or_eq_of_le (Nat.le_of_lt_succ hj) with hj | rfl
        ·exact hall j p hj hp
        ·rw[hget] at hp; cases hp; exact hok⟩
      ·have d2':(57:Int)<r:=by omega
       have hok:okR (r,m) i=false:=by simp[okR,e1,e2,d1,d2,d3]
       right
       refine⟨.ret,?_⟩
       simp only[D.l144_0b,keep,B5,B8,reduceIte,Nat.reduceEqDiff,Nat.reduceAdd]
       simp[hv,h3,h4,hi,hi',hes,hlet,hH,rowR,imms,d1,d1',d2,d2',d3,d3',e1',B5,B8]
       exact zCA hget hok
     ·have d1':(r:Int)<48:=by omega
      have hok:okR (r,m) i=false:=by simp[okR,e1,e2,d1,d3]
      right
      refine⟨.ret,?_⟩
      simp only[D.l144_0b,keep,B5,B8,reduceIte,Nat.reduceEqDiff,Nat.reduceAdd]
      simp[hv,h3,h4,hi,hi',hes,hlet,hH,rowR,imms,d1,d1',d3,d3',e1',B5,B8]
      exact zCA hget hok
    ·have i0:i=0:=by omega
     have d3':((i:Int)==0)=true:=by simp[i0]
     have hok:okR (r,m) i=false:=by simp[okR,e1,e2,d3]
     right
     refine⟨.ret,?_⟩
     simp only[D.l144_0b,keep,B5,B8,reduceIte,Nat.reduceEqDiff,Nat.reduceAdd]
     simp[hv,h3,h4,hi,hi',hes,hlet,hH,rowR,imms,d3,d3',e1',B5,B8]
     exact zCA hget hok
   ·skip
    have hok:okR (r,m) i=true:=by simp[okR,e1,e2]
    left
    refine⟨hi,?_⟩
    simp only[D.l144_0b,keep,B5,B8,reduceIte,Nat.reduceEqDiff,Nat.reduceAdd]
    simp[hv,h3,h4,hi,hi',hes,hlet,hH,rowR,imms,e1',hw8,B5,B8]
    exact⟨by simp[gP,h3],by simp[gP],rfl,fun j p hj hp=>by
     rcases Nat.lt_or_eq_of_le (Nat.le_of_lt_succ hj) with hj | rfl
     ·exact hall j p hj hp
     ·rw[hget] at hp; cases hp; exact hok⟩
  ·skip
   have hok:okR (r,m) i=false:=by simp[okR,e1,e2]
   right
   refine⟨.ret,?_⟩
   simp only[D.l144_0b,keep,B5,B8,reduceIte,Nat.reduceEqDiff,Nat.reduceAdd]
   simp[hv,h3,h4,hi,hi',hes,hlet,hH,rowR,imms,e1',B5,B8]
   exact zCA hget hok
 ·obtain rfl:i=l.length:=by omega
  right
  refine⟨.exit 0,?_⟩
  simp only[D.l144_0b,keep,B5,B8,reduceIte,Nat.reduceEqDiff,Nat.reduceAdd]
  simp[h3,h4,hv,hH,B5,B8]
  exact zCB fun j p hj=>hall j p (List.getElem?_eq_some_iff.1 hj).1 hj
theorem zJO {D:Nat}(hD:4≤D){s:List UInt8}(hl:s.length≤100000):bl (K DG D) 144 [.imm (.str s)]=some (.imm (.bool (isNm s))):=by
 obtain⟨d,rfl⟩:∃ d,D=d+1:=⟨D - 1,by omega⟩
 obtain⟨v,eR,hv⟩:=zQC (D:=d) (by omega) hl
 have hrl:=zBP s
 have key:∃ n',K DG (d+1) 144 [.imm (.str s)] .lf 0 0=some (.imm (.bool (isNm s)),.lf,n'):=by
  rw[kX 144 D.f144 rfl]
  rcases hv with⟨rfl,hn⟩ | ⟨f,rfl⟩
  ·have hn0:RS s=[]:=by simpa using hn
   obtain⟨k,hL⟩:∃ k,LOOP=k+1:=⟨2 ^ 62 - 1,rfl⟩
   simp only[D.f144,D.l144_0,zHz,B5,B8,reduceIte,Nat.reduceEqDiff,Nat.reduceAdd]
   simp[eR,zPt,hL,iter,zLV,keep,D.l144_0b,isNm,hn0,B5,B8]
  ·simp only[D.f144,zHz,B5,B8,reduceIte,Nat.reduceEqDiff,Nat.reduceAdd]
   simp[eR,B5,B8]
   generalize hrun:D.l144_0.run DG (K DG d) 0 _=r
   obtain⟨e,st',rfl,hq⟩:∃ e st',r=some (e,st')∧((e=.ret∧st'.T.get 2=some (.imm (.bool false))∧st'.H=.lf∧allR (RS s)=false)∨
     (e=.exit 0∧st'.T.get 3=some (.imm (.lst f 3 ((RS s).map rowR)))∧st'.H=.lf∧allR (RS s)=true)):=by
    rw[← hrun]
    refine zLg (by omega) (Nat.le_trans (by omega) (show (100000:Nat)≤reachBytes by decide)) ⟨by simp[gP],by simp[gP],rfl,fun j p hj=>absurd hj (by omega)⟩
   clear hrun
   rcases hq with⟨rfl,q1,q2,q3⟩ | ⟨rfl,q1,q2,q3⟩
   ·simp[q1,q2,isNm,q3,B5,B8]
   ·by_cases h1:1≤(RS s).length
    ·have h1':(1:Int)≤(RS s).length:=by omega
     by_cases h2:(RS s).length≤8
     ·have h2':((RS s).length:Int)≤8:=by omega
      simp[q1,q2,isNm,q3,h1,h1',h2,h2',B5,B8]
     ·have h2':¬((RS s).length:Int)≤8:=by omega
      simp[q1,q2,isNm,q3,h1,h1',h2,h2',B5,B8]
    ·have h1':¬(1:Int)≤(RS s).length:=by omega
     simp[q1,q2,isNm,q3,h1,h1',B5,B8]
 obtain⟨n',e⟩:=key
 exact zDe e
end Go.Proofs.YtlknjgmhfimhbaaGreatDoor.D
namespace Go.Proofs.YtlknjgmhfimhbaaGreatDoor.D
open Go Go.PM Go.Lib
theorem zJD (G:Nat→Option (List IV)){D:Nat}(hD:1≤D){v:IV}{zs:List (List UInt8)}(hv:Sl 1 v (zs.map ivS)) (hl:zs.length≤reachBytes) (z:List UInt8) :
  ∃ r:Int,bl (K G D) 173 [.imm v,.imm (.str z)]=some (.imm (.int .i64 r))∧(0≤r↔z∈zs):=by
 obtain⟨d,rfl⟩:∃ d,D=d+1:=⟨D - 1,by omega⟩
 rcases hv with⟨rfl,hz⟩ | ⟨f,rfl⟩
 ·obtain rfl:zs=[]:=by simpa using hz
  refine⟨-1,zDe (H':=.lf) (n':=0) ?_,by simp⟩
  rw[kX 173 D.f173 rfl]
  obtain⟨k,hL⟩:∃ k,LOOP=k+1:=⟨2 ^ 62 - 1,rfl⟩
  simp only[D.f173,D.l173_0,zHz,B4,B9,reduceIte,Nat.reduceEqDiff,Nat.reduceAdd]
  simp[zPt,hL,iter,zLV,keep,D.l173_0b,B4,B9]
 ·have loop:∀ s:St,(s.T.get 0=some (.imm (.lst f 1 (zs.map ivS)))∧s.T.get 1=some (.imm (.str z))∧s.T.get 7=some (.imm (.int .i64 zs.length))∧s.T.get 8=some (.imm (.int .i64 (0:Nat)))∧s.H=.lf∧s.n=0)→
    ∃ e s',D.l173_0.run G (K G d) 0 s=some (e,s')∧((e=.ret∧s'.H=.lf∧s'.n=0∧z∈zs∧∃ r:Nat,s'.T.get 4=some (.imm (.int .i64 r)))∨(e=.exit 0∧s'.H=.lf∧s'.n=0∧z∉zs)):=fun s hs=>by
   refine zO4 (N:=zs.length) (zRH hl) (fun i s=>s.T.get 0=some (.imm (.lst f 1 (zs.map ivS)))∧s.T.get 1=some (.imm (.str z))∧s.T.get 7=some (.imm (.int .i64 zs.length))∧s.T.get 8=some (.imm (.int .i64 i))∧s.H=.lf∧s.n=0∧
    ∀ j,j<i→zs[j]?≠some z) _ (fun i s ⟨h0,h1,h7,h8,hH,hn,hj⟩ hle=>?_) s ⟨hs.1,hs.2.1,hs.2.2.1,hs.2.2.2.1,hs.2.2.2.2.1,hs.2.2.2.2.2,fun j hj=>by omega⟩
   by_cases hi:i<zs.length
   ·have hi':(i:Int)<zs.length:=by omega
    have hw:=zTX hi hl
    have hx:zs[i]?=some zs[i]:=List.getElem?_eq_getElem hi
    generalize hxe:zs[i]=x at hx
    by_cases hzx:z=x
    ·right
     subst hzx
     refine⟨.ret,?_⟩
     simp only[D.l173_0b,keep,B4,B9,reduceIte,Nat.reduceEqDiff,Nat.reduceAdd]
     simp[h0,h1,h7,h8,hi',hi,hx,hxe,hH,hn,ivS,imms,zDO,B4,B9]
     exact⟨List.mem_of_getElem? hx,i,by simp[gP]⟩
    ·left
     refine⟨hi,?_⟩
     have hb:(z==x)=false:=by simpa using hzx
     simp only[D.l173_0b,keep,B4,B9,reduceIte,Nat.reduceEqDiff,Nat.reduceAdd]
     simp[h0,h1,h7,h8,hi',hi,hx,hxe,hw,hb,hH,hn,ivS,imms,zDO,B4,B9]
     intro j hj1
     by_cases e:j=i
     ·subst e; rw[hx]; exact fun e=>hzx (Option.some.inj e).symm
     ·exact hj j (by omega)
   ·obtain rfl:i=zs.length:=by omega
    right
    refine⟨.exit 0,?_⟩
    simp only[D.l173_0b,keep,B4,B9,reduceIte,Nat.reduceEqDiff,Nat.reduceAdd]
    simp[h0,h1,h7,h8,hH,hn,B4,B9]
    intro hm
    obtain⟨j,hjj⟩:=List.getElem?_of_mem hm
    exact hj j (List.getElem?_eq_some_iff.1 hjj).1 hjj
  rw[show (∃ r:Int,bl (K G (d+1)) 173 [.imm (.lst f 1 (zs.map ivS)),.imm (.str z)]=some (.imm (.int .i64 r))∧(0≤r↔z∈zs))↔_ from Iff.rfl]
  have key:∃ r:Int,K G (d+1) 173 [.imm (.lst f 1 (zs.map ivS)),.imm (.str z)] .lf 0 0=some (.imm (.int .i64 r),.lf,0)∧(0≤r↔z∈zs):=by
   rw[kX 173 D.f173 rfl]
   simp only[D.f173,zHz,B4,B9,reduceIte,Nat.reduceEqDiff,Nat.reduceAdd]
   simp[B4,B9]
   generalize hrun:D.l173_0.run G (K G d) 0 _=r
   obtain⟨e,s',rfl,hq⟩:∃ e s',r=some (e,s')∧((e=.ret∧s'.H=.lf∧s'.n=0∧z∈zs∧∃ r:Nat,s'.T.get 4=some (.imm (.int .i64 r)))∨(e=.exit 0∧s'.H=.lf∧s'.n=0∧z∉zs)):=by
    rw[← hrun]
    refine loop _ ⟨?_,?_,?_,?_,rfl,rfl⟩ <;> simp[gP]
   clear hrun
   rcases hq with⟨rfl,q1,q2,q3,r,q4⟩ | ⟨rfl,q1,q2,q3⟩
   ·refine⟨r,?_⟩
    simp[q1,q2,q3,q4,B4,B9]
   ·refine⟨-1,?_⟩
    simp[q1,q2,q3,B4,B9]
  obtain⟨r,e1,e2⟩:=key
  exact⟨r,zDe e1,e2⟩
theorem zEs (G:Nat→Option (List IV)){D:Nat}(hD:2≤D){v:IV}{zs:List (List UInt8)}(hv:Sl 1 v (zs.map ivS)) (hl:zs.length≤reachBytes) (z:List UInt8) :
  bl (K G D) 149 [.imm v,.imm (.str z)]=some (.imm (.bool (decide (z∈zs)))):=by
 obtain⟨d,rfl⟩:∃ d,D=d+1:=⟨D - 1,by omega⟩
 obtain⟨r,e1,e2⟩:=zJD G (D:=d) (by omega) hv hl z
 refine zDe (H':=.lf) (n':=0) ?_
 rw[kX 149 D.f149 rfl]
 simp only[D.f149,zHz,B5,B8,reduceIte,Nat.reduceEqDiff,Nat.reduceAdd]
 simp[e1,e2,B5,B8]
def nm3 (s:List UInt8):Bool:=isNm s&&(!(s==[115,101,116])&&!(s==[102,108,97,110,107]))
theorem zMC {D:Nat}(hD:5≤D){s:List UInt8}(hl:s.length≤100000):bl (K DG D) 112 [.imm (.str s)]=some (.imm (.bool (nm3 s))):=by
 obtain⟨d,rfl⟩:∃ d,D=d+1:=⟨D - 1,by omega⟩
 refine zDe (H':=.lf) (n':=0) ?_
 have e:=zJO (D:=d) (by omega) hl
 rw[kX 112 D.f112 rfl]
 generalize hN:isNm s=N at e
 generalize h1:(s==[115,101,116])=b1
 generalize h2:(s==[102,108,97,110,107])=b2
 have en:nm3 s=(N&&(!b1&&!b2)):=by simp only[nm3,hN,h1,h2]
 rw[en]
 cases N
 ·simp only[D.f112,zHz,B5,B8,reduceIte,Nat.reduceEqDiff,Nat.reduceAdd]
  simp[e,h1,h2,zDO,B5,B8]
 ·cases b1
  ·cases b2
   ·simp only[D.f112,zHz,B5,B8,reduceIte,Nat.reduceEqDiff,Nat.reduceAdd]
    simp[e,h1,h2,zDO,B5,B8]
   ·simp only[D.f112,zHz,B5,B8,reduceIte,Nat.reduceEqDiff,Nat.reduceAdd]
    simp[e,h1,h2,zDO,B5,B8]
  ·simp only[D.f112,zHz,B5,B8,reduceIte,Nat.reduceEqDiff,Nat.reduceAdd]
   simp[e,h1,h2,zDO,B5,B8]
end Go.Proofs.YtlknjgmhfimhbaaGreatDoor.D
namespace Go.Proofs.YtlknjgmhfimhbaaGreatDoor.D
open Go Go.PM Go.Lib
def NM (ss:List (List UInt8)):Prop:=∀ i s,ss[i]?=some s→nm3 s=true∧s∉ss.take i
def IA (f:Bool) (ss:List (List UInt8)) (i:Nat) (st:St):Prop:=st.T.get 0=some (.imm (.lst f 1 (ss.map ivS)))∧st.T.get 5=some (.imm (.lst f 1 (ss.map ivS)))∧st.T.get 6=some (.imm (.int .i64 ss.length))∧
 st.T.get 7=some (.imm (.int .i64 i))∧st.H=.lf∧∀ j s,j<i→ss[j]?=some s→nm3 s=true∧s∉ss.take j
theorem zKW {d:Nat}(hd:4≤d){f:Bool}{ss:List (List UInt8)}(hl:ss.length≤reachBytes) (hs:∀ s∈ss,s.length≤reachBytes){st:St}(h:IA f ss 0 st) :
  ∃ e st',D.l116_0.run DG (K DG d) 0 st=some (e,st')∧((e=.ret∧st'.T.get 2=some (.imm (.bool false))∧st'.H=.lf∧¬NM ss)∨(e=.exit 0∧st'.H=.lf∧NM ss)):=by
 refine zO4 (N:=ss.length) (zRH hl) (IA f ss) _ (fun i st hI hle=>?_) st h
 obtain⟨h0,h5,h6,h7,hH,hall⟩:=hI
 by_cases hi:i<ss.length
 ·have hi':(i:Int)<ss.length:=by omega
  obtain⟨x,hx⟩:∃ x,ss[i]=x:=⟨_,rfl⟩
  have hget:ss[i]?=some x:=by rw[List.getElem?_eq_getElem hi,hx]
  have hxl:x.length≤reachBytes:=hs x (List.mem_of_getElem? hget)
  have hn:=zJP (D:=d) (by omega) hxl
  have hle':i≤ss.length:=by omega
  have hc:=zEs DG (D:=d) (by omega) (v:=.lst (f&&decide (i=ss.length)) 1 ((ss.take i).map ivS)) (.inr ⟨_,rfl⟩) (by simp; omega) x
  have hne:¬i=ss.length:=by omega
  have hw8:IntKind.i64.wrap ((i:Int)+1)=(i:Int)+1:=zTX hi hl
  generalize hN:isNm x=b0 at hn
  generalize h1:(x==[115,101,116])=b1
  generalize h2:(x==[102,108,97,110,107])=b2
  generalize h3:decide (x∈ss.take i)=b3 at hc
  have en:nm3 x=(b0&&(!b1&&!b2)):=by simp only[nm3,hN,h1,h2]
  have em:x∈ss.take i↔b3=true:=by rw[← h3]; simp
  rw[List.map_take] at hc
  simp[hne] at hc
  cases b0
  ·right
   refine⟨.ret,?_⟩
   simp only[D.l116_0b,keep,B5,B8,reduceIte,Nat.reduceEqDiff,Nat.reduceAdd]
   simp[h0,h5,h6,h7,hi,hi',hx,hn,hH,ivS,imms,B5,B8]
   exact fun hm=>by have:=(hm i x hget).1; rw[en] at this; simp at this
  ·cases b1
   ·cases b2
    ·cases b3
     ·left
      refine⟨hi,?_⟩
      simp only[D.l116_0b,keep,B5,B8,reduceIte,Nat.reduceEqDiff,Nat.reduceAdd]
      simp[h0,h5,h6,h7,hi,hi',hx,hn,hH,h1,h2,hc,hle',hne,hw8,zQ7,zDO,ivS,imms,B5,B8]
      refine⟨by simp[gP,ivS],by simp[gP,ivS],by simp[gP],by simp[gP],rfl,fun j s hj hp=>?_⟩
      rcases Nat.lt_or_eq_of_le (Nat.le_of_lt_succ hj) with hj | rfl
      ·exact hall j s hj hp
      ·rw[hget] at hp
       cases hp
       exact⟨by rw[en]; rfl,fun h=>by have:=em.1 h; cases this⟩
     ·right
      refine⟨.ret,?_⟩
      simp only[D.l116_0b,keep,B5,B8,reduceIte,Nat.reduceEqDiff,Nat.reduceAdd]
      simp[h0,h5,h6,h7,hi,hi',hx,hn,hH,h1,h2,hc,hle',hne,zQ7,zDO,ivS,imms,B5,B8]
      exact fun hm=>(hm i x hget).2 (em.2 rfl)
    ·right
     refine⟨.ret,?_⟩
     simp only[D.l116_0b,keep,B5,B8,reduceIte,Nat.reduceEqDiff,Nat.reduceAdd]
     simp[h0,h5,h6,h7,hi,hi',hx,hn,hH,h1,h2,zDO,ivS,imms,B5,B8]
     exact fun hm=>by have:=(hm i x hget).1; rw[en] at this; simp at this
   ·right
    refine⟨.ret,?_⟩
    simp only[D.l116_0b,keep,B5,B8,reduceIte,Nat.reduceEqDiff,Nat.reduceAdd]
    simp[h0,h5,h6,h7,hi,hi',hx,hn,hH,h1,zDO,ivS,imms,B5,B8]
    exact fun hm=>by have:=(hm i x hget).1; rw[en] at this; simp at this
 ·obtain rfl:i=ss.length:=by omega
  right
  refine⟨.exit 0,?_⟩
  simp only[D.l116_0b,keep,B5,B8,reduceIte,Nat.reduceEqDiff,Nat.reduceAdd]
  simp[h0,h5,h6,h7,hH,B5,B8]
  exact fun j s hj=>hall j s (List.getElem?_eq_some_iff.1 hj).1 hj
theorem zA6:NM []:=fun i s h=>by simp at h
theorem zCe {D:Nat}(hD:5≤D){v:IV}{ss:List (List UInt8)}(hv:Sl 1 v (ss.map ivS)) (hl:ss.length≤reachBytes) (hs:∀ s∈ss,s.length≤reachBytes) :
  ∃ b:Bool,bl (K DG D) 116 [.imm v]=some (.imm (.bool b))∧(b=true↔NM ss):=by
 obtain⟨d,rfl⟩:∃ d,D=d+1:=⟨D - 1,by omega⟩
 have key:∃ b n',K DG (d+1) 116 [.imm v] .lf 0 0=some (.imm (.bool b),.lf,n')∧(b=true↔NM ss):=by
  rw[kX 116 D.f116 rfl]
  rcases hv with⟨rfl,hn⟩ | ⟨f,rfl⟩
  ·have hn0:ss=[]:=by simpa using hn
   subst hn0
   obtain⟨k,hL⟩:∃ k,LOOP=k+1:=⟨2 ^ 62 - 1,rfl⟩
   refine⟨true,0,?_,by simp[zA6]⟩
   simp only[D.f116,D.l116_0,zHz,B5,B8,reduceIte,Nat.reduceEqDiff,Nat.reduceAdd]
   simp[zPt,hL,iter,zLV,keep,D.l116_0b,B5,B8]
  ·simp only[D.f116,zHz,B5,B8,reduceIte,Nat.reduceEqDiff,Nat.reduceAdd]
   simp[B5,B8]
   generalize hrun:D.l116_0.run DG (K DG d) 0 _=r
   obtain⟨e,st',rfl,hq⟩:∃ e st',r=some (e,st')∧((e=.ret∧st'.T.get 2=some (.imm (.bool false))∧st'.H=.lf∧¬NM ss)∨(e=.exit 0∧st'.H=.lf∧NM ss)):=by
    rw[← hrun]
    refine zKW (f:=f) (by omega) hl hs ⟨by simp[gP],by simp[gP],by simp[gP],by simp[gP],rfl,fun j s hj=>absurd hj (by omega)⟩
   clear hrun
   rcases hq with⟨rfl,q1,q2,q3⟩ | ⟨rfl,q2,q3⟩
   ·simp[q1,q2,q3,B5,B8]
   ·simp[q2,q3,B5,B8]
 obtain⟨b,n',e,h⟩:=key
 exact⟨b,zDe e,h⟩
end Go.Proofs.YtlknjgmhfimhbaaGreatDoor.D
namespace Go.Proofs.YtlknjgmhfimhbaaGreatDoor.D
open Go Go.PM Go.Lib
def IJ (f:Bool) (ss:List (List UInt8)) (i k:Nat) (st:St):Prop:=st.T.get 0=some (.imm (.lst f 1 (ss.map ivS)))∧st.T.get 3=some (.imm (.int .i64 i))∧st.T.get 4=some (.imm (.int .i64 k))∧st.H=.lf∧∀ j s,j<k→ss[j]?=some s→ss[i]?≠some s
theorem zK6 {d:Nat}{f:Bool}{ss:List (List UInt8)}(hl:ss.length≤reachBytes){i:Nat}(hi:i<ss.length){st:St}(h:IJ f ss i 0 st) :
  ∃ e st',D.l76_1.run DG (K DG d) 0 st=some (e,st')∧((e=.ret∧st'.T.get 2=some (.imm (.bool false))∧st'.H=.lf∧¬NM ss)∨(e=.exit 2∧IJ f ss i i st')):=by
 refine zO4 (N:=i) (zRH (by omega)) (IJ f ss i) _ (fun k st hI hle=>?_) st h
 obtain⟨h0,h3,h4,hH,hall⟩:=hI
 by_cases hk:k<i
 ·have hk':(k:Int)<i:=by omega
  have hkl:k<ss.length:=by omega
  have hw8:IntKind.i64.wrap ((k:Int)+1)=(k:Int)+1:=zTX hk (by omega)
  obtain⟨x,hx⟩:∃ x,ss[i]=x:=⟨_,rfl⟩
  obtain⟨y,hy⟩:∃ y,ss[k]=y:=⟨_,rfl⟩
  have gx:ss[i]?=some x:=by rw[List.getElem?_eq_getElem hi,hx]
  have gy:ss[k]?=some y:=by rw[List.getElem?_eq_getElem hkl,hy]
  by_cases he:y=x
  ·right
   refine⟨.ret,?_⟩
   simp only[D.l76_1b,keep,B5,B8,reduceIte,Nat.reduceEqDiff,Nat.reduceAdd]
   simp[h0,h3,h4,hk,hk',hi,hkl,hx,hy,he,hH,zDO,ivS,imms,B5,B8]
   intro hm
   have:=(hm i x gx).2
   exact this (List.mem_iff_getElem?.2 ⟨k,by rw[List.getElem?_take,if_pos hk,gy,he]⟩)
  ·left
   refine⟨hk,?_⟩
   have he':(y==x)=false:=by simpa using he
   simp only[D.l76_1b,keep,B5,B8,reduceIte,Nat.reduceEqDiff,Nat.reduceAdd]
   simp[h0,h3,h4,hk,hk',hi,hkl,hx,hy,he,he',hw8,hH,zDO,ivS,imms,B5,B8]
   refine⟨by simp[gP,ivS],by simp[gP],by simp[gP],rfl,fun j s hj hp=>?_⟩
   rcases Nat.lt_or_eq_of_le (Nat.le_of_lt_succ hj) with hj | rfl
   ·exact hall j s hj hp
   ·rw[gy] at hp
    cases hp
    rw[gx]
    exact fun h=>he (Option.some.inj h).symm
 ·obtain rfl:k=i:=by omega
  right
  refine⟨.exit 2,?_⟩
  simp only[D.l76_1b,keep,B5,B8,reduceIte,Nat.reduceEqDiff,Nat.reduceAdd]
  simp[h0,h3,h4,hH,B5,B8]
  exact⟨by simp[gP],by simp[gP],by simp[gP],rfl,hall⟩
def IO' (f:Bool) (ss:List (List UInt8)) (i:Nat) (st:St):Prop:=st.T.get 0=some (.imm (.lst f 1 (ss.map ivS)))∧st.T.get 3=some (.imm (.int .i64 i))∧st.H=.lf∧∀ j s,j<i→ss[j]?=some s→nm3 s=true∧s∉ss.take j
theorem zLH {d:Nat}(hd:5≤d){f:Bool}{ss:List (List UInt8)}(hl:ss.length≤reachBytes) (hs:∀ s∈ss,s.length≤100000){st:St}(h:IO' f ss 0 st) :
  ∃ e st',D.l76_0.run DG (K DG d) 0 st=some (e,st')∧((e=.ret∧st'.T.get 2=some (.imm (.bool false))∧st'.H=.lf∧¬NM ss)∨(e=.exit 0∧st'.H=.lf∧NM ss)):=by
 refine zO4 (N:=ss.length) (zRH hl) (IO' f ss) _ (fun i st hI hle=>?_) st h
 obtain⟨h0,h3,hH,hall⟩:=hI
 by_cases hi:i<ss.length
 ·have hi':(i:Int)<ss.length:=by omega
  have hw8:IntKind.i64.wrap ((i:Int)+1)=(i:Int)+1:=zTX hi hl
  obtain⟨x,hx⟩:∃ x,ss[i]=x:=⟨_,rfl⟩
  have gx:ss[i]?=some x:=by rw[List.getElem?_eq_getElem hi,hx]
  have hn:=zMC (D:=d) hd (hs x (List.mem_of_getElem? gx))
  cases hN:nm3 x
  ·rw[hN] at hn
   right
   refine⟨.ret,?_⟩
   simp only[D.l76_0b,keep,B5,B8,reduceIte,Nat.reduceEqDiff,Nat.reduceAdd]
   simp[h0,h3,hi,hi',hx,hn,hH,ivS,imms,B5,B8]
   exact fun hm=>by have:=(hm i x gx).1; rw[hN] at this; cases this
  ·rw[hN] at hn
   have key:∃ r,D.l76_0b.run DG (K DG d) 0 ⟨keep st.T [0,3],keep st.L [],st.H,st.n⟩=r:=⟨_,rfl⟩
   obtain⟨r,hr⟩:=key
   have hr0:=hr
   simp only[D.l76_0b,keep,B5,B8,reduceIte,Nat.reduceEqDiff,Nat.reduceAdd] at hr
   simp[h0,h3,hi,hi',hx,hn,hH,ivS,imms,B5,B8] at hr
   generalize hrun:D.l76_1.run DG (K DG d) 0 _=q at hr
   obtain⟨e,st',rfl,hq⟩:∃ e st',q=some (e,st')∧((e=.ret∧st'.T.get 2=some (.imm (.bool false))∧st'.H=.lf∧¬NM ss)∨(e=.exit 2∧IJ f ss i i st')):=by
    rw[← hrun]
    refine zK6 hl hi ⟨by simp[gP,ivS],by simp[gP],by simp[gP],rfl,fun j s hj=>absurd hj (by omega)⟩
   clear hrun
   rcases hq with⟨rfl,q1,q2,q3⟩ | ⟨rfl,j0,j3,j4,jH,jall⟩
   ·right
    simp[B5,B8] at hr
    rw[← hr] at hr0
    exact⟨.ret,st',hr0,by simp,.inl ⟨rfl,q1,q2,q3⟩⟩
   ·left
    simp[j3,hw8,B5,B8] at hr
    rw[← hr] at hr0
    refine⟨hi,_,hr0,by simp[gP,j0],by simp[gP],jH,fun j s hj hp=>?_⟩
    rcases Nat.lt_or_eq_of_le (Nat.le_of_lt_succ hj) with hj | rfl
    ·exact hall j s hj hp
    ·rw[gx] at hp
     cases hp
     refine⟨hN,fun hm=>?_⟩
     obtain⟨k,hk⟩:=List.mem_iff_getElem?.1 hm
     rw[List.getElem?_take] at hk
     split at hk
     ·rename_i hk1
      exact jall k _ hk1 hk gx
     ·cases hk
 ·obtain rfl:i=ss.length:=by omega
  right
  refine⟨.exit 0,?_⟩
  simp only[D.l76_0b,keep,B5,B8,reduceIte,Nat.reduceEqDiff,Nat.reduceAdd]
  simp[h0,h3,hH,B5,B8]
  exact fun j s hj=>hall j s (List.getElem?_eq_some_iff.1 hj).1 hj
theorem zMD {D:Nat}(hD:6≤D){v:IV}{ss:List (List UInt8)}(hv:Sl 1 v (ss.map ivS)) (hl:ss.length≤reachBytes) (hs:∀ s∈ss,s.length≤100000) :
  ∃ b:Bool,bl (K DG D) 76 [.imm v]=some (.imm (.bool b))∧(b=true↔NM ss):=by
 obtain⟨d,rfl⟩:∃ d,D=d+1:=⟨D - 1,by omega⟩
 have key:∃ b n',K DG (d+1) 76 [.imm v] .lf 0 0=some (.imm (.bool b),.lf,n')∧(b=true↔NM ss):=by
  rw[kX 76 D.f76 rfl]
  rcases hv with⟨rfl,hn⟩ | ⟨f,rfl⟩
  ·have hn0:ss=[]:=by simpa using hn
   subst hn0
   obtain⟨k,hL⟩:∃ k,LOOP=k+1:=⟨2 ^ 62 - 1,rfl⟩
   refine⟨true,0,?_,by simp[zA6]⟩
   simp only[D.f76,D.l76_0,zHz,B5,B8,reduceIte,Nat.reduceEqDiff,Nat.reduceAdd]
   simp[zPt,hL,iter,zLV,keep,D.l76_0b,B5,B8]
  ·simp only[D.f76,zHz,B5,B8,reduceIte,Nat.reduceEqDiff,Nat.reduceAdd]
   generalize hrun:D.l76_0.run DG (K DG d) 0 _=r
   obtain⟨e,st',rfl,hq⟩:∃ e st',r=some (e,st')∧((e=.ret∧st'.T.get 2=some (.imm (.bool false))∧st'.H=.lf∧¬NM ss)∨(e=.exit 0∧st'.H=.lf∧NM ss)):=by
    rw[← hrun]
    refine zLH (f:=f) (by omega) hl hs ⟨by simp[gP],by simp[gP],rfl,fun j s hj=>absurd hj (by omega)⟩
   clear hrun
   rcases hq with⟨rfl,q1,q2,q3⟩ | ⟨rfl,q2,q3⟩
   ·simp[q1,q2,q3,B5,B8]
   ·simp[q2,q3,B5,B8]
 obtain⟨b,n',e,h⟩:=key
 exact⟨b,zDe e,h⟩
end Go.Proofs.YtlknjgmhfimhbaaGreatDoor.D
namespace Go.Proofs.YtlknjgmhfimhbaaGreatDoor.D
open Go Go.PM Go.Lib
def IK4 (f:Bool) (zs:List Int) (z:Int) (i:Nat) (st:St):Prop:=st.T.get 0=some (.imm (.lst f 1 (zs.map ivI)))∧st.T.get 1=some (.imm (.int .i64 z))∧st.T.get 5=some (.imm (.int .i64 i))∧st.H=.lf∧∀ j,j<i→zs[j]?≠some z
theorem zK5 {d:Nat}{f:Bool}{zs:List Int}{z:Int}(hl:zs.length≤reachBytes){st:St}(h:IK4 f zs z 0 st) :
  ∃ e st',D.l108_0.run DG (K DG d) 0 st=some (e,st')∧((e=.ret∧st'.T.get 4=some (.imm (.bool true))∧st'.H=.lf∧z∈zs)∨(e=.exit 0∧st'.H=.lf∧z∉zs)):=by
 refine zO4 (N:=zs.length) (zRH hl) (IK4 f zs z) _ (fun i st hI hle=>?_) st h
 obtain⟨h0,h1,h5,hH,hall⟩:=hI
 by_cases hi:i<zs.length
 ·have hi':(i:Int)<zs.length:=by omega
  have hw8:IntKind.i64.wrap ((i:Int)+1)=(i:Int)+1:=zTX hi hl
  obtain⟨x,hx⟩:∃ x,zs[i]=x:=⟨_,rfl⟩
  have gx:zs[i]?=some x:=by rw[List.getElem?_eq_getElem hi,hx]
  by_cases he:x=z
  ·right
   refine⟨.ret,?_⟩
   simp only[D.l108_0b,keep,B5,B8,reduceIte,Nat.reduceEqDiff,Nat.reduceAdd]
   simp[h0,h1,h5,hi,hi',hx,he,hH,ivI,imms,B5,B8]
   exact List.mem_of_getElem? (he▸gx)
  ·left
   refine⟨hi,?_⟩
   have he':(x==z)=false:=beqF he
   simp only[D.l108_0b,keep,B5,B8,reduceIte,Nat.reduceEqDiff,Nat.reduceAdd]
   simp[h0,h1,h5,hi,hi',hx,he,he',hw8,hH,ivI,imms,B5,B8]
   refine⟨by simp[gP,ivI],by simp[gP],by simp[gP],rfl,fun j hj=>?_⟩
   rcases Nat.lt_or_eq_of_le (Nat.le_of_lt_succ hj) with hj | rfl
   ·exact hall j hj
   ·rw[gx]
    exact fun h=>he (Option.some.inj h)
 ·obtain rfl:i=zs.length:=by omega
  right
  refine⟨.exit 0,?_⟩
  simp only[D.l108_0b,keep,B5,B8,reduceIte,Nat.reduceEqDiff,Nat.reduceAdd]
  simp[h0,h1,h5,hH,B5,B8]
  intro hm
  obtain⟨j,hj⟩:=List.mem_iff_getElem?.1 hm
  exact hall j (List.getElem?_eq_some_iff.1 hj).1 hj
theorem zI7 {D:Nat}(hD:1≤D){v:IV}{zs:List Int}(hv:Sl 1 v (zs.map ivI)) (hl:zs.length≤reachBytes) (z:Int) :
  bl (K DG D) 108 [.imm v,.imm (.int .i64 z)]=some (.imm (.bool (decide (z∈zs)))):=by
 obtain⟨d,rfl⟩:∃ d,D=d+1:=⟨D - 1,by omega⟩
 have key:∃ n',K DG (d+1) 108 [.imm v,.imm (.int .i64 z)] .lf 0 0=some (.imm (.bool (decide (z∈zs))),.lf,n'):=by
  rw[kX 108 D.f108 rfl]
  rcases hv with⟨rfl,hn⟩ | ⟨f,rfl⟩
  ·have hn0:zs=[]:=by simpa using hn
   subst hn0
   obtain⟨k,hL⟩:∃ k,LOOP=k+1:=⟨2 ^ 62 - 1,rfl⟩
   simp only[D.f108,D.l108_0,zHz,B5,B8,reduceIte,Nat.reduceEqDiff,Nat.reduceAdd]
   simp[zPt,hL,iter,zLV,keep,D.l108_0b,B5,B8]
  ·simp only[D.f108,zHz,B5,B8,reduceIte,Nat.reduceEqDiff,Nat.reduceAdd]
   generalize hrun:D.l108_0.run DG (K DG d) 0 _=r
   obtain⟨e,st',rfl,hq⟩:∃ e st',r=some (e,st')∧((e=.ret∧st'.T.get 4=some (.imm (.bool true))∧st'.H=.lf∧z∈zs)∨(e=.exit 0∧st'.H=.lf∧z∉zs)):=by
    rw[← hrun]
    refine zK5 (f:=f) hl ⟨by simp[gP],by simp[gP],by simp[gP],rfl,fun j hj=>absurd hj (by omega)⟩
   clear hrun
   rcases hq with⟨rfl,q1,q2,q3⟩ | ⟨rfl,q2,q3⟩
   ·simp[q1,q2,q3,B5,B8]
   ·simp[q2,q3,B5,B8]
 obtain⟨n',e⟩:=key
 exact zDe e
end Go.Proofs.YtlknjgmhfimhbaaGreatDoor.D
namespace Go.Proofs.YtlknjgmhfimhbaaGreatDoor.D
open Go Go.PM Go.Lib
def PA (secs:Nat) (zs:List Int):Prop:=∀ (i:Nat) (z:Int),zs[i]?=some z→(0≤z∧z<secs)∧z∉zs.take i
def IP (f:Bool) (w0 w1 w2 w3:IV) (secs:Nat) (zs:List Int) (i:Nat) (st:St):Prop:=st.T.get 1=some (.imm (.lst f 1 (zs.map ivI)))∧st.T.get 7=some (.imm (.lst f 1 (zs.map ivI)))∧st.T.get 8=some (.imm (.int .i64 zs.length))∧st.T.get 9=some (.imm (.int .i64 i))∧
 (∃ id,st.T.get 2=some (.lref 2 id 0)∧st.L.get 2=some (.box id [.imm w0,.imm w1,.imm w2,.imm w3]))∧st.H=.lf∧∀ (j:Nat) (z:Int),j<i→zs[j]?=some z→(0≤z∧z<secs)∧z∉zs.take j
theorem zLJ {d:Nat}(hd:2≤d){f:Bool}{w0 w1 w2 w3:IV}{secs:Nat}{zs:List Int}(hw:lenOf (.imm w0)=some secs) (hsec:secs≤reachBytes) (hl:zs.length≤reachBytes){st:St}(h:IP f w0 w1 w2 w3 secs zs 0 st) :
  ∃ e st',D.l145_0.run DG (K DG d) 0 st=some (e,st')∧((e=.ret∧st'.T.get 4=some (.imm (.bool false))∧st'.H=.lf∧¬PA secs zs)∨(e=.exit 0∧st'.T.get 1=some (.imm (.lst f 1 (zs.map ivI)))∧st'.H=.lf∧PA secs zs)):=by
 have hrb:reachBytes≤2 ^ 50:=by decide
 refine zO4 (N:=zs.length) (zRH hl) (IP f w0 w1 w2 w3 secs zs) _ (fun i st hI hle=>?_) st h
 obtain⟨h1,h7,h8,h9,⟨id,h2,hL⟩,hH,hall⟩:=hI
 by_cases hi:i<zs.length
 ·have hi':(i:Int)<zs.length:=by omega
  have hw8:IntKind.i64.wrap ((i:Int)+1)=(i:Int)+1:=zTX hi hl
  obtain⟨x,hx⟩:∃ x,zs[i]=x:=⟨_,rfl⟩
  have gx:zs[i]?=some x:=by rw[List.getElem?_eq_getElem hi,hx]
  have hws:IntKind.i64.wrap ((secs:Int) - 1)=(secs:Int) - 1:=zTW (by omega) (by omega)
  have hin:=zJN DG (D:=d) (by omega) x 0 ((secs:Int) - 1)
  have hle':i≤zs.length:=by omega
  have hne:¬i=zs.length:=by omega
  have hc:=zEq DG (D:=d) (by omega) (v:=.lst (f&&decide (i=zs.length)) 1 ((zs.take i).map ivI)) (.inr ⟨_,rfl⟩) (by simp; omega) x
  rw[List.map_take] at hc
  simp[hne] at hc
  by_cases c1:0≤x∧x≤(secs:Int) - 1
  ·rw[decide_eq_true c1] at hin
   by_cases c2:x∈zs.take i
   ·simp[c2] at hc
    right
    refine⟨.ret,?_⟩
    simp only[D.l145_0b,keep,B5,B8,reduceIte,Nat.reduceEqDiff,Nat.reduceAdd]
    simp[h1,h2,h7,h8,h9,hL,hi,hi',hx,hw,hws,hin,hc,hle',hne,hH,zQ7,ivI,imms,B5,B8]
    exact fun hm=>(hm i x gx).2 c2
   ·simp[c2] at hc
    left
    refine⟨hi,?_⟩
    simp only[D.l145_0b,keep,B5,B8,reduceIte,Nat.reduceEqDiff,Nat.reduceAdd]
    simp[h1,h2,h7,h8,h9,hL,hi,hi',hx,hw,hws,hin,hc,hle',hne,hw8,hH,zQ7,ivI,imms,B5,B8]
    refine⟨by simp[gP,ivI],by simp[gP,ivI],by simp[gP],by simp[gP],⟨id,by simp[gP],by simp[gP,hL]⟩,rfl,fun j z hj hp=>?_⟩
    rcases Nat.lt_or_eq_of_le (Nat.le_of_lt_succ hj) with hj | rfl
    ·exact hall j z hj hp
    ·rw[gx] at hp
     cases hp
     exact⟨by omega,c2⟩
  ·rw[decide_eq_false c1] at hin
   right
   refine⟨.ret,?_⟩
   simp only[D.l145_0b,keep,B5,B8,reduceIte,Nat.reduceEqDiff,Nat.reduceAdd]
   simp[h1,h2,h7,h8,h9,hL,hi,hi',hx,hw,hws,hin,hH,ivI,imms,B5,B8]
   exact fun hm=>c1 (by have:=(hm i x gx).1; omega)
 ·obtain rfl:i=zs.length:=by omega
  right
  refine⟨.exit 0,?_⟩
  simp only[D.l145_0b,keep,B5,B8,reduceIte,Nat.reduceEqDiff,Nat.reduceAdd]
  simp[h1,h2,h7,h8,h9,hL,hH,B5,B8]
  exact fun j z hj=>hall j z (List.getElem?_eq_some_iff.1 hj).1 hj
theorem zJV {D:Nat}(hD:3≤D){w0 w1 w2 w3 v:IV}{secs:Nat}{zs:List Int}(hw:lenOf (.imm w0)=some secs) (hsc:(DV.imm w0).scal=true∧(DV.imm w1).scal=true∧(DV.imm w2).scal=true∧(DV.imm w3).scal=true)
  (hsec:secs≤reachBytes) (hl:zs.length≤reachBytes) (hv:Sl 1 v (zs.map ivI)) :
  ∃ b:Bool,bl (K DG D) 145 [.agg [.imm w0,.imm w1,.imm w2,.imm w3],.imm v]=some (.imm (.bool b))∧(b=true↔PA secs zs∧1≤zs.length∧zs.length≤5):=by
 obtain⟨d,rfl⟩:∃ d,D=d+1:=⟨D - 1,by omega⟩
 obtain⟨s0,s1,s2,s3⟩:=hsc
 have hin:=zJN DG (D:=d) (by omega) (zs.length:Int) 1 5
 have key:∃ b n',K DG (d+1) 145 [.agg [.imm w0,.imm w1,.imm w2,.imm w3],.imm v] .lf 0 0=some (.imm (.bool b),.lf,n')∧(b=true↔PA secs zs∧1≤zs.length∧zs.length≤5):=by
  rw[kX 145 D.f145 rfl]
  rcases hv with⟨rfl,hn⟩ | ⟨f,rfl⟩
  ·have hn0:zs=[]:=by simpa using hn
   subst hn0
   obtain⟨k,hL⟩:∃ k,LOOP=k+1:=⟨2 ^ 62 - 1,rfl⟩
   refine⟨false,1,?_,by simp⟩
   simp at hin
   simp only[D.f145,D.l145_0,zHz,B5,B8,reduceIte,Nat.reduceEqDiff,Nat.reduceAdd]
   simp[zPt,hL,iter,zLV,keep,D.l145_0b,hin,s0,s1,s2,s3,B5,B8]
  ·simp only[D.f145,zHz,B5,B8,reduceIte,Nat.reduceEqDiff,Nat.reduceAdd]
   simp[s0,s1,s2,s3,B5,B8]
   generalize hrun:D.l145_0.run DG (K DG d) 0 _=r
   obtain⟨e,st',rfl,hq⟩:∃ e st',r=some (e,st')∧((e=.ret∧st'.T.get 4=some (.imm (.bool false))∧st'.H=.lf∧¬PA secs zs)∨(e=.exit 0∧st'.T.get 1=some (.imm (.lst f 1 (zs.map ivI)))∧st'.H=.lf∧PA secs zs)):=by
    rw[← hrun]
    refine zLJ (f:=f) (w0:=w0) (w1:=w1) (w2:=w2) (w3:=w3) (by omega) hw hsec hl ⟨by simp[gP],by simp[gP],by simp[gP],by simp[gP],⟨0,by simp[gP],by simp[gP]⟩,rfl,fun j z hj=>absurd hj (by omega)⟩
   clear hrun
   rcases hq with⟨rfl,q1,q2,q3⟩ | ⟨rfl,q1,q2,q3⟩
   ·simp[q1,q2,q3,B5,B8]
   ·simp[q1,q2,q3,hin,B5,B8]
    omega
 obtain⟨b,n',e,h⟩:=key
 exact⟨b,zDe e,h⟩
set_option maxHeartbeats 4000000
structure Pt where
 name:List UInt8
 sec:Int
 deriving Inhabited
def ivP (x:Pt):List IV:=[.str x.name,.int .i64 x.sec]
structure Rt where
 name:List UInt8
 fr:Int
 to:Int
 pv:IV
 qv:IV
 fv:IV
 path:List Int
 pts:List Need
 flk:List Need
 deriving Inhabited
def ivRt (r:Rt):List IV:=[.str r.name,.int .i64 r.fr,.int .i64 r.to,r.pv,r.qv,r.fv]
structure RtOk (r:Rt):Prop where
 p:Sl 1 r.pv (r.path.map ivI)
 q:Sl 2 r.qv (r.pts.map ivN)
 f:Sl 2 r.fv (r.flk.map ivN)
 ln:r.name.length≤reachBytes
 lp:r.path.length≤reachBytes
 lq:r.pts.length≤reachBytes
 lf:r.flk.length≤reachBytes
structure Lo where
 sv:IV
 pv:IV
 gv:IV
 rv:IV
 secs:List (List UInt8)
 pts:List Pt
 sigs:List (List UInt8)
 rts:List Rt
 deriving Inhabited
abbrev Lo.dv (l:Lo):DV:=.agg [.imm l.sv,.imm l.pv,.imm l.gv,.imm l.rv]
structure LoOk (l:Lo):Prop where
 s:Sl 1 l.sv (l.secs.map ivS)
 p:Sl 2 l.pv (l.pts.map ivP)
 g:Sl 1 l.gv (l.sigs.map ivS)
 r:Sl 6 l.rv (l.rts.map ivRt)
 ls:l.secs.length≤reachBytes
 lp:l.pts.length≤reachBytes
 lg:l.sigs.length≤reachBytes
 lr:l.rts.length≤reachBytes
 os:∀ x∈l.secs,x.length≤reachBytes
 op:∀ x∈l.pts,x.name.length≤reachBytes
 og:∀ x∈l.sigs,x.length≤reachBytes
 or:∀ x∈l.rts,RtOk x
theorem LoOk.sc {l:Lo} (ok:LoOk l):((DV.imm l.sv).scal=true∧(DV.imm l.pv).scal=true)∧(DV.imm l.gv).scal=true∧(DV.imm l.rv).scal=true:=⟨⟨ok.s.scal,ok.p.scal⟩,ok.g.scal,ok.r.scal⟩
variable {iv:IV}
theorem zPZ {α:Type}{ks:List Kd}(h:FitK (.sl ks) iv) (f:α→List IV) (OK:α→Prop)
  (hrow:∀ e:List IV,e.length=ks.length→(∀ (j:Nat) (k:Kd) (c:IV),ks[j]?=some k→e[j]?=some c→FitK k c)→∃ a,e=f a∧OK a) :
  ∃ xs:List α,Sl ks.length iv (xs.map f)∧xs.length≤reachBytes∧∀ x∈xs,OK x:=by
 cases h with
 | nil=>exact⟨[],Or.inl ⟨rfl,rfl⟩,by simp,fun x h=>by cases h⟩
 | sl hm hl hk=>
  rename_i es
  have each:∀ e∈es,∃ a,e=f a∧OK a:=fun e he=>by
   obtain⟨i,hi⟩:=List.getElem?_of_mem he
   exact hrow e (hl e he) fun j k c h1 h2=>hk i j e k c hi h1 h2
  have key:∀ l:List (List IV),(∀ e∈l,∃ a,e=f a∧OK a)→∃ xs:List α,l=xs.map f∧∀ x∈xs,OK x:=by
   intro l
   induction l with
   | nil=>exact fun _=>⟨[],rfl,fun x h=>by cases h⟩
   | cons e l ih=>
    intro hh
    obtain⟨a,rfl,ha⟩:=hh e (List.mem_cons_self ..)
    obtain⟨xs,rfl,hx⟩:=ih fun e he=>hh e (List.mem_cons_of_mem _ he)
    refine⟨a::xs,rfl,fun x hx'=>?_⟩
    rcases List.mem_cons.1 hx' with rfl | hx'
    ·exact ha
    ·exact hx x hx'
  obtain⟨xs,rfl,hx⟩:=key es each
  exact⟨xs,.inr ⟨_,rfl⟩,by simpa using hm,hx⟩
theorem zJK(h:FitK (.sl [.i .i64]) iv):∃ zs:List Int,Sl 1 iv (zs.map ivI)∧zs.length≤reachBytes∧∀ z∈zs,-2 ^ 63≤z∧z<2 ^ 63:=
 zPZ h ivI _ fun e hl hk=>by
  match e,hl with
  | [c],_=>
   have f0:=hk 0 _ _ rfl rfl
   cases f0 with
   | i h=>exact⟨_,rfl,zTT h⟩
theorem zRr(h:FitK (.sl [.s]) iv):∃ ss:List (List UInt8),Sl 1 iv (ss.map ivS)∧ss.length≤reachBytes∧∀ s∈ss,s.length≤reachBytes:=
 zPZ h ivS _ fun e hl hk=>by
  match e,hl with
  | [c],_=>
   have f0:=hk 0 _ _ rfl rfl
   cases f0 with
   | s h=>exact⟨_,rfl,h⟩
theorem zMK(h:FitK (.sl [.i .i64,.b]) iv):∃ xs:List Need,Sl 2 iv (xs.map ivN)∧xs.length≤reachBytes∧∀ x∈xs,-2 ^ 63≤x.pt∧x.pt<2 ^ 63:=
 zPZ h ivN _ fun e hl hk=>by
  match e,hl with
  | [c,d],_=>
   have f0:=hk 0 _ _ rfl rfl
   have f1:=hk 1 _ _ rfl rfl
   cases f0 with
   | i h=>cases f1 with
    | b=>exact⟨⟨_,_⟩,rfl,zTT h⟩
theorem zOF(h:FitK (.sl [.s,.i .i64]) iv):∃ xs:List Pt,Sl 2 iv (xs.map ivP)∧xs.length≤reachBytes∧∀ x∈xs,x.name.length≤reachBytes:=
 zPZ h ivP _ fun e hl hk=>by
  match e,hl with
  | [c,d],_=>
   have f0:=hk 0 _ _ rfl rfl
   have f1:=hk 1 _ _ rfl rfl
   cases f0 with
   | s h=>cases f1 with
    | i h'=>exact⟨⟨_,_⟩,rfl,h⟩
abbrev kdR:List Kd:=[.s,.i .i64,.i .i64,.sl [.i .i64],.sl [.i .i64,.b],.sl [.i .i64,.b]]
theorem zPd(h:FitK (.sl kdR) iv):∃ xs:List Rt,Sl 6 iv (xs.map ivRt)∧xs.length≤reachBytes∧∀ x∈xs,RtOk x:=
 zPZ h ivRt _ fun e hl hk=>by
  match e,hl with
  | [c0,c1,c2,c3,c4,c5],_=>
   have f0:=hk 0 _ _ rfl rfl
   have f1:=hk 1 _ _ rfl rfl
   have f2:=hk 2 _ _ rfl rfl
   have f3:=hk 3 _ _ rfl rfl
   have f4:=hk 4 _ _ rfl rfl
   have f5:=hk 5 _ _ rfl rfl
   obtain⟨ps,p1,p2,_⟩:=zJK f3
   obtain⟨qs,q1,q2,_⟩:=zMK f4
   obtain⟨fs,r1,r2,_⟩:=zMK f5
   cases f0 with
   | s h=>cases f1 with
    | i h1=>cases f2 with
     | i h2=>exact⟨⟨_,_,_,c3,c4,c5,ps,qs,fs⟩,rfl,⟨p1,q1,r1,h,p2,q2,r2⟩⟩
abbrev kdL:List Kd:=[.sl [.s],.sl [.s,.i .i64],.sl [.s],.sl kdR]
theorem lay_of {d:DV}(h:zAC true kdL d):∃ l:Lo,d=l.dv∧LoOk l:=by
 obtain⟨ivs,rfl,hl,hfit⟩:=h
 match ivs,hl with
 | [a,b,c,e],_=>
  obtain⟨ss,s1,s2,s3⟩:=zRr (hfit 0 _ _ rfl rfl)
  obtain⟨ps,p1,p2,p3⟩:=zOF (hfit 1 _ _ rfl rfl)
  obtain⟨gs,g1,g2,g3⟩:=zRr (hfit 2 _ _ rfl rfl)
  obtain⟨rs,r1,r2,r3⟩:=zPd (hfit 3 _ _ rfl rfl)
  exact⟨⟨a,b,c,e,ss,ps,gs,rs⟩,rfl,⟨s1,p1,g1,r1,s2,p2,g2,r2,s3,p3,g3,r3⟩⟩
end Go.Proofs.YtlknjgmhfimhbaaGreatDoor.D
namespace Go.Proofs.YtlknjgmhfimhbaaGreatDoor.D
open Go Go.PM Go.Lib
def NE1 (pts:List Pt) (xs:List Need) (path:List Int) (w:Bool) (i:Nat):Prop:=
 InR (nth xs i).pt pts.length∧(0<i→(nth xs (i - 1)).pt<(nth xs i).pt)∧((nth pts (nth xs i).pt.toNat).sec∈path↔w=true)
variable {path:List Int}
theorem zAy {pts:List Pt}{xs:List Need}{w:Bool}{i:Nat}:NE1 pts xs path w i↔InR (nth xs i).pt pts.length∧(0<i→(nth xs (i - 1)).pt<(nth xs i).pt)∧((nth pts (nth xs i).pt.toNat).sec∈path↔w=true):=Iff.rfl
def NE (pts:List Pt) (xs:List Need) (path:List Int) (w:Bool):Prop:=∀ i,i<xs.length→NE1 pts xs path w i
def INE (l:Lo) (qv pv:IV) (xs:List Need) (path:List Int) (w:Bool) (i:Nat) (st:St):Prop:=
 st.T.get 1=some (.imm qv)∧st.T.get 2=some (.imm pv)∧st.T.get 3=some (.imm (.bool w))∧st.T.get 11=some (.imm qv)∧st.T.get 12=some (.imm (.int .i64 xs.length))∧st.T.get 13=some (.imm (.int .i64 i))∧
 (∃ id,st.T.get 4=some (.lref 4 id 0)∧st.L.get 4=some (.box id [.imm l.sv,.imm l.pv,.imm l.gv,.imm l.rv]))∧st.H=.lf∧∀ j,j<i→NE1 l.pts xs path w j
theorem zLE {d:Nat}(hd:2≤d){l:Lo}(ok:LoOk l){qv pv:IV}{xs:List Need}{w:Bool}(hq:Sl 2 qv (xs.map ivN)) (hp:Sl 1 pv (path.map ivI)) (hxl:xs.length≤reachBytes) (hpl:path.length≤reachBytes)
  {ks:List Kf}{st:St}{Q:Ex→St→Prop}(h:INE l qv pv xs path w 0 st)
  (hk:∀ e st',st'.H=.lf→(e=.ret∧st'.T.get 8=some (.imm (.bool false))∧¬NE l.pts xs path w)∨(e=.exit 0∧NE l.pts xs path w)→Bk DG (K DG d) 0 e ks st' Q) :
  Wp DG (K DG d) 0 D.l146_0 ks st Q:=by
 have hrb:reachBytes≤2 ^ 50:=by decide
 refine zGt (N:=xs.length) (zRH hxl) (INE l qv pv xs path w) (fun e st'=>st'.H=.lf∧((e=.ret∧st'.T.get 8=some (.imm (.bool false))∧¬NE l.pts xs path w)∨(e=.exit 0∧NE l.pts xs path w)))
  (fun i st hle hI=>?_) h (fun e s' h=>hk e s' h.1 h.2)
 obtain⟨h1,h2,h3,h11,h12,h13,⟨id,h4,hL⟩,hH,hall⟩:=hI
 have lp:=ok.lp
 by_cases hi:i<xs.length
 ·have hi':(i:Int)<xs.length:=by omega
  have hj':=zI3 hi'
  have hw8:IntKind.i64.wrap ((i:Int)+1)=(i:Int)+1:=zTX hi hxl
  have hw9:IntKind.i64.wrap ((i:Int) - 1)=(i:Int) - 1:=zTW (by omega) (by omega)
  have hwp:IntKind.i64.wrap ((l.pts.length:Int) - 1)=(l.pts.length:Int) - 1:=zTW (by omega) (by omega)
  have hin:∀ z:Int,bl (K DG d) 114 [.imm (.int .i64 z),.imm (.int .i64 0),.imm (.int .i64 ((l.pts.length:Int) - 1))]=some (.imm (.bool (decide (InR z l.pts.length)))):=fun z=>by
   rw[zJN DG (D:=d) (by omega) z 0 ((l.pts.length:Int) - 1)]
   congr 3
   exact decide_eq_decide.2 ⟨fun h=>⟨by omega,by omega⟩,fun h=>by unfold InR at h; omega⟩
  have hc:=fun z=>zEq DG (D:=d) (by omega) hp hpl z
  have ix:=zIu hq hi'
  have ip:=fun {h:Nat→Option HB}{n:Nat}{z:Int}=>zIv (h:=h) (n:=n) ok.p (by omega) (k:=.i64) (z:=z)
  have pl:=ok.p.len
  simp only[List.length_map] at pl
  have no:¬NE1 l.pts xs path w i→¬NE l.pts xs path w:=fun h1 h2=>h1 (h2 i hi)
  have yes:NE1 l.pts xs path w i→∀ j,j<i+1→NE1 l.pts xs path w j:=fun h j hj=>by
   rcases Nat.lt_or_eq_of_le (Nat.le_of_lt_succ hj) with hj | rfl
   ·exact hall j hj
   ·exact h
  by_cases i0:i=0
  ·have hj0:ILt 0 i=False:=zIz (by omega)
   cases w
   all_goals
    generalize hQ:(fun (e:Ex) (s':St)=>_)=Q'
    simp only[D.l146_0b]
    simp +contextual (maxSteps:=2000000) [h1,h2,h3,h4,h11,h12,h13,hL,hH,hj',hj0,hw8,hwp,hin,hc,ix,ip,pl,ivN,ivP,B6,B7]
    subst hQ
    simp[INE,gP,hi]
    clear hin hc ix ip
    rw[zAy] at no yes
    generalize (∀ j,j<i+1→NE1 l.pts xs path _ j)=Y at yes ⊢
    generalize NE l.pts xs path _=X at no ⊢
    try simp only[zI0]
    grind
  ·have hj0:ILt 0 i:=by unfold ILt; omega
   have ix2:=fun {h:Nat→Option HB}{n:Nat}=>zIy (h:=h) (n:=n) hq (by omega) (k:=.i64) (z:=(i:Int) - 1) (by omega) (by omega)
   have e1:((i:Int) - 1).toNat=i - 1:=by omega
   cases w
   all_goals
    generalize hQ:(fun (e:Ex) (s':St)=>_)=Q'
    simp only[D.l146_0b]
    simp +contextual (maxSteps:=2000000) [h1,h2,h3,h4,h11,h12,h13,hL,hH,hj',hj0,hw8,hw9,hwp,hin,hc,ix,ix2,ip,e1,pl,ivN,ivP,B6,B7]
    subst hQ
    simp[INE,gP,hi]
    clear hin hc ix ip
    rw[zAy] at no yes
    generalize (∀ j,j<i+1→NE1 l.pts xs path _ j)=Y at yes ⊢
    generalize NE l.pts xs path _=X at no ⊢
    try simp only[zI0]
    grind
 ·obtain rfl:i=xs.length:=by omega
  simp only[D.l146_0b]
  simp[h12,h13,hH,B6,B7]
  exact hall
theorem zCg {D:Nat}(hD:3≤D){l:Lo}(ok:LoOk l){qv pv:IV}{xs:List Need}(w:Bool) (hq:Sl 2 qv (xs.map ivN)) (hp:Sl 1 pv (path.map ivI)) (hxl:xs.length≤reachBytes) (hpl:path.length≤reachBytes) :
  bl (K DG D) 146 [l.dv,.imm qv,.imm pv,.imm (.bool w)]=some (.imm (.bool (dec (NE l.pts xs path w)))):=by
 obtain⟨d,rfl⟩:∃ d,D=d+1:=⟨D - 1,by omega⟩
 refine zDd ?_
 rw[kX 146 D.f146 rfl]
 refine zHy rfl ?_
 have ql:=hq.len
 simp only[List.length_map] at ql
 generalize hQ:Fin _ _=Q
 simp[ok.sc,ql,B6,B7]
 refine zLE (l:=l) (xs:=xs) (path:=path) (w:=w) (by omega) ok hq hp hxl hpl ⟨by simp[gP],by simp[gP],by simp[gP],by simp[gP],by simp[gP],by simp[gP],⟨0,by simp[gP],by simp[gP]⟩,rfl,fun j hj=>by omega⟩ ?_
 rintro e st' hH (⟨rfl,h8,hn⟩ | ⟨rfl,hn⟩)
 ·subst hQ
  simp[h8,hn,B6,B7]
 ·subst hQ
  simp[hn,B6,B7]
end Go.Proofs.YtlknjgmhfimhbaaGreatDoor.D
namespace Go.Proofs.YtlknjgmhfimhbaaGreatDoor.D
open Go Go.PM Go.Lib
def INE4 (l:Lo) (qv pv:IV) (xs:List Need) (path:List Int) (w:Bool) (i:Nat) (st:St):Prop:=
 st.T.get 1=some (.imm qv)∧st.T.get 2=some (.imm pv)∧st.T.get 3=some (.imm (.bool w))∧st.T.get 9=some (.imm (.int .i64 i))∧
 (∃ id,st.T.get 4=some (.lref 4 id 0)∧st.L.get 4=some (.box id [.imm l.sv,.imm l.pv,.imm l.gv,.imm l.rv]))∧st.H=.lf∧∀ j,j<i→NE1 l.pts xs path w j
theorem zLF {d:Nat}(hd:2≤d){l:Lo}(ok:LoOk l){qv pv:IV}{xs:List Need}{path:List Int}{w:Bool}(hq:Sl 2 qv (xs.map ivN)) (hp:Sl 1 pv (path.map ivI)) (hxl:xs.length≤reachBytes) (hpl:path.length≤reachBytes)
  {ks:List Kf}{st:St}{Q:Ex→St→Prop}(h:INE4 l qv pv xs path w 0 st)
  (hk:∀ e st',st'.H=.lf→(e=.ret∧st'.T.get 8=some (.imm (.bool false))∧¬NE l.pts xs path w)∨(e=.exit 0∧NE l.pts xs path w)→Bk DG (K DG d) 0 e ks st' Q) :
  Wp DG (K DG d) 0 D.l113_0 ks st Q:=by
 have hrb:reachBytes≤2 ^ 50:=by decide
 refine zGt (N:=xs.length) (zRH hxl) (INE4 l qv pv xs path w) (fun e st'=>st'.H=.lf∧((e=.ret∧st'.T.get 8=some (.imm (.bool false))∧¬NE l.pts xs path w)∨(e=.exit 0∧NE l.pts xs path w)))
  (fun i st hle hI=>?_) h (fun e s' h=>hk e s' h.1 h.2)
 obtain⟨h1,h2,h3,h9,⟨id,h4,hL⟩,hH,hall⟩:=hI
 have lp:=ok.lp
 have ql:=hq.len
 simp only[List.length_map] at ql
 by_cases hi:i<xs.length
 ·have hi':(i:Int)<xs.length:=by omega
  have hj':=zI3 hi'
  have hw8:IntKind.i64.wrap ((i:Int)+1)=(i:Int)+1:=zTX hi hxl
  have hw9:IntKind.i64.wrap ((i:Int) - 1)=(i:Int) - 1:=zTW (by omega) (by omega)
  have hc:=fun z=>zI7 (D:=d) (by omega) hp hpl z
  have ix:=zIu hq hi'
  have ip:=fun {h:Nat→Option HB}{n:Nat}{z:Int}=>zIw (h:=h) (n:=n) ok.p (by omega) (k:=.i64) (z:=z)
  have pl:=ok.p.len
  simp only[List.length_map] at pl
  have no:¬NE1 l.pts xs path w i→¬NE l.pts xs path w:=fun h1 h2=>h1 (h2 i hi)
  have yes:NE1 l.pts xs path w i→∀ j,j<i+1→NE1 l.pts xs path w j:=fun h j hj=>by
   rcases Nat.lt_or_eq_of_le (Nat.le_of_lt_succ hj) with hj | rfl
   ·exact hall j hj
   ·exact h
  by_cases i0:i=0
  ·have hj0:ILt 0 i=False:=zIz (by omega)
   cases w
   all_goals
    generalize hQ:(fun (e:Ex) (s':St)=>_)=Q'
    simp only[D.l113_0b]
    simp +contextual (maxSteps:=2000000) [h1,h2,h3,h4,h9,hL,ql,hH,hj',hj0,hw8,hc,ix,ip,pl,ivN,ivP,B6,B7]
    subst hQ
    simp[INE4,gP,hi]
    clear hc ix ip
    rw[zAy] at no yes
    generalize (∀ j,j<i+1→NE1 l.pts xs path _ j)=Y at yes ⊢
    generalize NE l.pts xs path _=X at no ⊢
    simp only[zI0,InR] at *
    grind
  ·have hj0:ILt 0 i:=by unfold ILt; omega
   have ix2:=fun {h:Nat→Option HB}{n:Nat}=>zIy (h:=h) (n:=n) hq (by omega) (k:=.i64) (z:=(i:Int) - 1) (by omega) (by omega)
   have e1:((i:Int) - 1).toNat=i - 1:=by omega
   cases w
   all_goals
    generalize hQ:(fun (e:Ex) (s':St)=>_)=Q'
    simp only[D.l113_0b]
    simp +contextual (maxSteps:=2000000) [h1,h2,h3,h4,h9,hL,ql,hH,hj',hj0,hw8,hw9,hc,ix,ix2,ip,e1,pl,ivN,ivP,B6,B7]
    subst hQ
    simp[INE4,gP,hi]
    clear hc ix ip
    rw[zAy] at no yes
    generalize (∀ j,j<i+1→NE1 l.pts xs path _ j)=Y at yes ⊢
    generalize NE l.pts xs path _=X at no ⊢
    simp only[zI0,InR] at *
    grind
 ·obtain rfl:i=xs.length:=by omega
  simp only[D.l113_0b]
  simp[h1,h9,ql,hH,B6,B7]
  exact hall
theorem zMJ {D:Nat}(hD:3≤D){l:Lo}(ok:LoOk l){qv pv:IV}{xs:List Need}{path:List Int}(w:Bool) (hq:Sl 2 qv (xs.map ivN)) (hp:Sl 1 pv (path.map ivI)) (hxl:xs.length≤reachBytes) (hpl:path.length≤reachBytes) :
  bl (K DG D) 113 [l.dv,.imm qv,.imm pv,.imm (.bool w)]=some (.imm (.bool (dec (NE l.pts xs path w)))):=by
 obtain⟨d,rfl⟩:∃ d,D=d+1:=⟨D - 1,by omega⟩
 refine zDd ?_
 rw[kX 113 D.f113 rfl]
 refine zHy rfl ?_
 have ql:=hq.len
 simp only[List.length_map] at ql
 generalize hQ:Fin _ _=Q
 simp[ok.sc,ql,B6,B7]
 refine zLF (l:=l) (xs:=xs) (path:=path) (w:=w) (by omega) ok hq hp hxl hpl ⟨by simp[gP],by simp[gP],by simp[gP],by simp[gP],⟨0,by simp[gP],by simp[gP]⟩,rfl,fun j hj=>by omega⟩ ?_
 rintro e st' hH (⟨rfl,h8,hn⟩ | ⟨rfl,hn⟩)
 ·subst hQ
  simp[h8,hn,B6,B7]
 ·subst hQ
  simp[hn,B6,B7]
end Go.Proofs.YtlknjgmhfimhbaaGreatDoor.D
namespace Go.Proofs.YtlknjgmhfimhbaaGreatDoor.D
open Go Go.PM Go.Lib
def cnt (pts:List Pt) (path:List Int):Nat:=(pts.filter fun p=>decide (p.sec∈path)).length
theorem zEi {pts:List Pt}{path:List Int}:cnt pts path≤pts.length:=List.length_filter_le ..
variable {i:Nat}
theorem zSE {α:Type}[Inhabited α] {xs:List α}(h:i<xs.length):xs.take (i+1)=xs.take i++[nth xs i]:=by
 rw[List.take_add_one,zMh h]; rfl
theorem zEh {pts:List Pt}{path:List Int}(h:i<pts.length) (hm:(nth pts i).sec∈path):cnt (pts.take (i+1)) path=cnt (pts.take i) path+1:=by
 simp[cnt,zSE h,List.filter_append,hm]
theorem zEj {pts:List Pt}{path:List Int}(h:i<pts.length) (hm:(nth pts i).sec∉path):cnt (pts.take (i+1)) path=cnt (pts.take i) path:=by
 simp[cnt,zSE h,List.filter_append,hm]
theorem zBG {secs:Nat}{zs:List Int}:PA secs zs↔∀ i,i<zs.length→InR (nth zs i) secs∧nth zs i∉zs.take i:=by
 constructor
 ·intro h i hi
  have:=h i _ (zMh hi)
  exact⟨this.1,this.2⟩
 ·intro h i z hz
  have hi:=(List.getElem?_eq_some_iff.1 hz).1
  rw[zMh hi] at hz
  cases hz
  have:=h i hi
  exact⟨this.1,this.2⟩
structure RT (l:Lo) (r:Rt):Prop where
 fr:InR r.fr l.sigs.length
 to:InR r.to l.sigs.length
 ne:¬r.fr=r.to
 pa:PA l.secs.length r.path
 p1:1≤r.path.length
 p5:r.path.length≤5
 np:NE l.pts r.pts r.path true
 nf:NE l.pts r.flk r.path false
 ct:cnt l.pts r.path=r.pts.length
variable {l:Lo}
theorem zJW {D:Nat}(hD:3≤D)(ok:LoOk l){v:IV}{zs:List Int}(hl:zs.length≤reachBytes) (hv:Sl 1 v (zs.map ivI)) :
  bl (K DG D) 145 [l.dv,.imm v]=some (.imm (.bool (dec (PA l.secs.length zs∧1≤zs.length∧zs.length≤5)))):=by
 have ls:=ok.s.len
 simp only[List.length_map] at ls
 obtain⟨b,e,h⟩:=zJV hD (w0:=l.sv) (w1:=l.pv) (w2:=l.gv) (w3:=l.rv) ls ⟨ok.s.scal,ok.p.scal,ok.g.scal,ok.r.scal⟩ ok.ls hl hv
 rw[e]
 have:b=dec (PA l.secs.length zs∧1≤zs.length∧zs.length≤5):=by
  cases b with
  | true=>rw[zFd (h.1 rfl)]
  | false=>rw[zFX fun h'=>by have:=h.2 h'; cases this]
 rw[this]
def ICT (l:Lo) (r:Rt) (i:Nat) (st:St):Prop:=st.T.get 6=some (.imm (.int .i64 (cnt (l.pts.take i) r.path)))∧st.T.get 58=some (.imm l.pv)∧st.T.get 59=some (.imm (.int .i64 l.pts.length))∧st.T.get 60=some (.imm (.int .i64 i))∧
 (∃ id,st.T.get 3=some (.lref 3 id 0)∧st.L.get 3=some (.box id (imms (ivRt r))))∧st.H=.lf
theorem zKd {d:Nat}(hd:2≤d)(ok:LoOk l){r:Rt}(rk:RtOk r){ks:List Kf}{st:St}{Q:Ex→St→Prop}(h:ICT l r 0 st)
  (hk:∀ st',ICT l r l.pts.length st'→Bk DG (K DG d) 0 (.exit 0) ks st' Q) :
  Wp DG (K DG d) 0 D.l115_0 ks st Q:=by
 have hrb:reachBytes≤2 ^ 50:=by decide
 refine zGt (N:=l.pts.length) (zRH ok.lp) (ICT l r) (fun e st'=>e=.exit 0∧ICT l r l.pts.length st')
  (fun i st hle hI=>?_) h (fun e s' h=>by rw[h.1]; exact hk s' h.2)
 obtain⟨h6,h58,h59,h60,⟨id,h3,hL⟩,hH⟩:=hI
 have lp:=ok.lp
 by_cases hi:i<l.pts.length
 ·have hi':(i:Int)<l.pts.length:=by omega
  have hj':=zI3 hi'
  have hcl:cnt (l.pts.take i) r.path≤i:=by have:=@zEi (l.pts.take i) r.path; rw[List.length_take] at this; omega
  have hw8:IntKind.i64.wrap ((i:Int)+1)=(i:Int)+1:=zTX hi lp
  have hwc:IntKind.i64.wrap ((cnt (l.pts.take i) r.path:Int)+1)=(cnt (l.pts.take i) r.path:Int)+1:=zTW (by omega) (by omega)
  have hc:=fun z=>zEq DG (D:=d) (by omega) rk.p rk.lp z
  have ix:=zIu ok.p hi'
  have ci:=zEh (path:=r.path) hi
  have co:=zEj (path:=r.path) hi
  generalize hQ:(fun (e:Ex) (s':St)=>_)=Q'
  simp only[D.l115_0b]
  simp +contextual (maxSteps:=2000000) [h3,h6,h58,h59,h60,hL,hH,hj',hw8,hwc,hc,ix,ivP,ivRt,B6,B7]
  subst hQ
  simp +contextual [ICT,gP,hi,ivRt,ci,co,imms]
 ·obtain rfl:i=l.pts.length:=by omega
  generalize hQ:(fun (e:Ex) (s':St)=>_)=Q'
  simp only[D.l115_0b]
  simp[h3,h6,h58,h59,h60,hL,hH,B6,B7]
  subst hQ
  simp[ICT,gP,h3,h6,h58,h59,h60,hL,hH,ivRt,imms]
theorem zJX {D:Nat}(hD:4≤D)(ok:LoOk l){r:Rt}(rk:RtOk r) :
  bl (K DG D) 115 [l.dv,.agg (imms (ivRt r))]=some (.imm (.bool (dec (RT l r)))):=by
 have hrb:reachBytes≤2 ^ 50:=by decide
 obtain⟨d,rfl⟩:∃ d,D=d+1:=⟨D - 1,by omega⟩
 refine zDd ?_
 rw[kX 115 D.f115 rfl]
 refine zHy rfl ?_
 have lg:=ok.lg
 have gl:=ok.g.len
 have pl:=ok.p.len
 have ql:=rk.q.len
 simp only[List.length_map] at gl pl ql
 have hwp:IntKind.i64.wrap ((l.sigs.length:Int) - 1)=(l.sigs.length:Int) - 1:=zTW (by omega) (by omega)
 have hin:∀ z:Int,bl (K DG d) 114 [.imm (.int .i64 z),.imm (.int .i64 0),.imm (.int .i64 ((l.sigs.length:Int) - 1))]=some (.imm (.bool (dec (InR z l.sigs.length)))):=fun z=>by
  rw[zJN DG (D:=d) (by omega) z 0 ((l.sigs.length:Int) - 1),zFW]
  congr 3
  exact zFV ⟨fun h=>⟨by omega,by omega⟩,fun h=>by unfold InR at h; omega⟩
 have hpa:=zJW (D:=d) (by omega) ok rk.lp rk.p
 have hnp:=zCg (D:=d) (by omega) ok true rk.q rk.p rk.lq rk.lp
 have hnf:=zCg (D:=d) (by omega) ok false rk.f rk.p rk.lf rk.lp
 have nfr:¬InR r.fr l.sigs.length→¬RT l r:=fun h h'=>h h'.fr
 have nto:¬InR r.to l.sigs.length→¬RT l r:=fun h h'=>h h'.to
 have nne:r.fr=r.to→¬RT l r:=fun h h'=>h'.ne h
 have npa:¬(PA l.secs.length r.path∧1≤r.path.length∧r.path.length≤5)→¬RT l r:=fun h h'=>h ⟨h'.pa,h'.p1,h'.p5⟩
 have nnp:¬NE l.pts r.pts r.path true→¬RT l r:=fun h h'=>h h'.np
 have nnf:¬NE l.pts r.flk r.path false→¬RT l r:=fun h h'=>h h'.nf
 generalize hPA:(PA l.secs.length r.path∧1≤r.path.length∧r.path.length≤5)=PAP at hpa npa
 generalize hQ:Fin _ _=Q
 simp +contextual (maxSteps:=2000000) [ok.sc,rk.p.scal,rk.q.scal,rk.f.scal,gl,pl,ql,hwp,hin,hpa,hnp,hnf,ivRt,B6,B7]
 subst hQ
 simp +contextual [nfr,nto,nne,npa,nnp,nnf,B6,B7]
 intro a1 a2 a3 a4 a5 a6
 refine zKd (l:=l) (r:=r) (by omega) ok rk ⟨by simp[gP,cnt],by simp[gP],by simp[gP],by simp[gP],⟨1,by simp[gP],by simp[gP,ivRt,imms]⟩,rfl⟩ ?_
 rintro st' ⟨h6,h58,h59,h60,⟨id,h3,hL⟩,hH⟩
 have hct:RT l r↔cnt l.pts r.path=r.pts.length:=⟨fun h=>h.ct,fun h=>⟨a1,a2,a3,(hPA▸a4).1,(hPA▸a4).2.1,(hPA▸a4).2.2,a5,a6,h⟩⟩
 rw[List.take_length] at h6
 simp[h3,h6,hL,hH,ql,ivRt,B6,B7]
 rw[zFV hct,← zFW]
 exact decide_eq_decide.2 ⟨fun h=>by omega,fun h=>by omega⟩
end Go.Proofs.YtlknjgmhfimhbaaGreatDoor.D
namespace Go.Proofs.YtlknjgmhfimhbaaGreatDoor.D
open Go Go.PM Go.Lib
def Box (st:St) (k:Nat) (vs:List IV):Prop:=∃ id,st.T.get k=some (.lref k id 0)∧st.L.get k=some (.box id (imms vs))
abbrev Lo.ivs (l:Lo):List IV:=[l.sv,l.pv,l.gv,l.rv]
def PA1 (secs:Nat) (zs:List Int) (i:Nat):Prop:=InR (nth zs i) secs∧nth zs i∉zs.take i
theorem zBF {secs:Nat}{zs:List Int}{i:Nat}:PA1 secs zs i↔InR (nth zs i) secs∧nth zs i∉zs.take i:=Iff.rfl
def IPT (l:Lo) (r:Rt) (i:Nat) (st:St):Prop:=Box st 2 l.ivs∧Box st 3 (ivRt r)∧st.T.get 5=some (.imm (.int .i64 i))∧st.H=.lf∧∀ j,j<i→PA1 l.secs.length r.path j
variable {l:Lo} {r:Rt}
theorem zLK {d:Nat}(hd:1≤d)(ok:LoOk l)(rk:RtOk r){ks:List Kf}{st:St}{Q:Ex→St→Prop}(h:IPT l r 0 st)
  (hk:∀ e st',st'.H=.lf→(e=.ret∧st'.T.get 4=some (.imm (.bool false))∧¬PA l.secs.length r.path)∨(e=.exit 0∧IPT l r r.path.length st')→Bk DG (K DG d) 0 e ks st' Q) :
  Wp DG (K DG d) 0 D.l77_0 ks st Q:=by
 have hrb:reachBytes≤2 ^ 50:=by decide
 refine zGt (N:=r.path.length) (zRH rk.lp) (IPT l r) (fun e st'=>st'.H=.lf∧((e=.ret∧st'.T.get 4=some (.imm (.bool false))∧¬PA l.secs.length r.path)∨(e=.exit 0∧IPT l r r.path.length st')))
  (fun i st hle hI=>?_) h (fun e s' h=>hk e s' h.1 h.2)
 obtain⟨⟨id2,h2,hL2⟩,⟨id3,h3,hL3⟩,h5,hH,hall⟩:=hI
 have sl:=ok.s.len
 have zl:=rk.p.len
 simp only[List.length_map] at sl zl
 have lp:=rk.lp
 by_cases hi:i<r.path.length
 ·have hi':(i:Int)<r.path.length:=by omega
  have hj':=zI3 hi'
  have hw8:IntKind.i64.wrap ((i:Int)+1)=(i:Int)+1:=zTX hi rk.lp
  have hc:=fun z=>zI7 (D:=d) (by omega) (zSA rk.p i) (by rw[List.length_take]; omega) z
  have ix:=zIu rk.p hi'
  have tk:=fun {h:Nat→Option HB}{n:Nat}=>zQ6 (h:=h) (n:=n) rk.p (i:=i) (by omega)
  have no:¬PA1 l.secs.length r.path i→¬PA l.secs.length r.path:=fun h1 h2=>h1 (zBG.1 h2 i hi)
  have yes:PA1 l.secs.length r.path i→∀ j,j<i+1→PA1 l.secs.length r.path j:=fun h j hj=>by
   rcases Nat.lt_or_eq_of_le (Nat.le_of_lt_succ hj) with hj | rfl
   ·exact hall j hj
   ·exact h
  generalize hQ:(fun (e:Ex) (s':St)=>_)=Q'
  simp only[D.l77_0b]
  simp +contextual (maxSteps:=2000000) [h2,h3,h5,hL2,hL3,hH,hj',hw8,hc,ix,tk,sl,zl,ivI,ivRt,B6,B7]
  subst hQ
  simp[IPT,Box,gP,hi,ivRt,imms]
  clear hc ix tk
  rw[zBF] at no yes
  generalize (∀ j,j<i+1→PA1 l.secs.length r.path j)=Y at yes ⊢
  generalize PA l.secs.length r.path=X at no ⊢
  simp only[zI0,InR] at *
  grind
 ·obtain rfl:i=r.path.length:=by omega
  generalize hQ:(fun (e:Ex) (s':St)=>_)=Q'
  simp only[D.l77_0b]
  simp[h2,h3,h5,hL2,hL3,hH,zl,ivRt,B6,B7]
  subst hQ
  simp[IPT,Box,gP,h2,h3,h5,hL2,hL3,hH,ivRt,imms]
  exact hall
def ICN (l:Lo) (r:Rt) (i:Nat) (st:St):Prop:=Box st 2 l.ivs∧Box st 3 (ivRt r)∧st.T.get 6=some (.imm (.int .i64 (cnt (l.pts.take i) r.path)))∧st.T.get 7=some (.imm (.int .i64 i))∧st.H=.lf
theorem zKc {d:Nat}(hd:1≤d)(ok:LoOk l)(rk:RtOk r){ks:List Kf}{st:St}{Q:Ex→St→Prop}(h:ICN l r 0 st)
  (hk:∀ st',ICN l r l.pts.length st'→Bk DG (K DG d) 0 (.exit 2) ks st' Q) :
  Wp DG (K DG d) 0 D.l77_1 ks st Q:=by
 have hrb:reachBytes≤2 ^ 50:=by decide
 refine zGt (N:=l.pts.length) (zRH ok.lp) (ICN l r) (fun e st'=>e=.exit 2∧ICN l r l.pts.length st')
  (fun i st hle hI=>?_) h (fun e s' h=>by rw[h.1]; exact hk s' h.2)
 obtain⟨⟨id2,h2,hL2⟩,⟨id3,h3,hL3⟩,h6,h7,hH⟩:=hI
 have lp:=ok.lp
 have pl:=ok.p.len
 simp only[List.length_map] at pl
 by_cases hi:i<l.pts.length
 ·have hi':(i:Int)<l.pts.length:=by omega
  have hj':=zI3 hi'
  have hcl:cnt (l.pts.take i) r.path≤i:=by have:=@zEi (l.pts.take i) r.path; rw[List.length_take] at this; omega
  have hw8:IntKind.i64.wrap ((i:Int)+1)=(i:Int)+1:=zTX hi lp
  have hwc:IntKind.i64.wrap ((cnt (l.pts.take i) r.path:Int)+1)=(cnt (l.pts.take i) r.path:Int)+1:=zTW (by omega) (by omega)
  have hc:=fun z=>zI7 (D:=d) (by omega) rk.p rk.lp z
  have ix:=zIu ok.p hi'
  have ci:=zEh (path:=r.path) hi
  have co:=zEj (path:=r.path) hi
  generalize hQ:(fun (e:Ex) (s':St)=>_)=Q'
  simp only[D.l77_1b]
  simp +contextual (maxSteps:=2000000) [h2,h3,h6,h7,hL2,hL3,hH,hj',hw8,hwc,hc,ix,pl,ivP,ivRt,B6,B7]
  subst hQ
  simp +contextual [ICN,Box,gP,hi,ivRt,ci,co,imms]
 ·obtain rfl:i=l.pts.length:=by omega
  generalize hQ:(fun (e:Ex) (s':St)=>_)=Q'
  simp only[D.l77_1b]
  simp[h2,h3,h6,h7,hL2,hL3,hH,pl,ivRt,B6,B7]
  subst hQ
  simp[ICN,Box,gP,h2,h3,h6,h7,hL2,hL3,hH,ivRt,imms]
theorem zPG {D:Nat}(hD:4≤D)(ok:LoOk l)(rk:RtOk r) :
  bl (K DG D) 77 [l.dv,.agg (imms (ivRt r))]=some (.imm (.bool (dec (RT l r)))):=by
 have hrb:reachBytes≤2 ^ 50:=by decide
 obtain⟨d,rfl⟩:∃ d,D=d+1:=⟨D - 1,by omega⟩
 refine zDd ?_
 rw[kX 77 D.f77 rfl]
 refine zHy rfl ?_
 have lg:=ok.lg
 have gl:=ok.g.len
 have pl:=ok.p.len
 have ql:=rk.q.len
 have zl:=rk.p.len
 simp only[List.length_map] at gl pl ql zl
 have nfr:ILt r.fr 0→¬RT l r:=fun h h'=>by have:=h'.fr; unfold InR ILt at *; omega
 have nfr':¬ILt r.fr l.sigs.length→¬RT l r:=fun h h'=>by have:=h'.fr; unfold InR ILt at *; omega
 have nto:ILt r.to 0→¬RT l r:=fun h h'=>by have:=h'.to; unfold InR ILt at *; omega
 have nto':¬ILt r.to l.sigs.length→¬RT l r:=fun h h'=>by have:=h'.to; unfold InR ILt at *; omega
 have nne:r.fr=r.to→¬RT l r:=fun h h'=>h'.ne h
 have np1:ILt r.path.length 1→¬RT l r:=fun h h'=>by have:=h'.p1; unfold ILt at *; omega
 have np5:ILt 5 r.path.length→¬RT l r:=fun h h'=>by have:=h'.p5; unfold ILt at *; omega
 generalize hQ:Fin _ _=Q
 simp +contextual (maxSteps:=2000000) [ok.sc,rk.p.scal,rk.q.scal,rk.f.scal,gl,pl,ql,zl,ivRt,B6,B7]
 subst hQ
 simp +contextual [nfr,nfr',nto,nto',nne,np1,np5,B6,B7]
 intro a1 a2 a3 a4 a5 a6 a7
 refine zLK (l:=l) (r:=r) (by omega) ok rk ⟨⟨0,by simp[gP],by simp[gP,imms]⟩,⟨1,by simp[gP],by simp[gP,ivRt,imms]⟩,by simp[gP],rfl,fun j hj=>by omega⟩ ?_
 rintro e st' hH (⟨rfl,h4,hn⟩ | ⟨rfl,⟨id2,h2,hL2⟩,⟨id3,h3,hL3⟩,h5,_,hall⟩)
 ·have:¬RT l r:=fun h=>hn h.pa
  simp[h4,this,B6,B7]
 have hPA:PA l.secs.length r.path:=zBG.2 hall
 simp[h2,h3,hL2,hL3,hH,ivRt,B6,B7]
 refine zKc (l:=l) (r:=r) (by omega) ok rk ⟨⟨id2,by simp[gP,h2],by simp[gP,hL2,imms]⟩,⟨id3,by simp[gP,h3],by simp[gP,hL3,ivRt,imms]⟩,by simp[gP,cnt],by simp[gP],by simp[hH]⟩ ?_
 rintro st2 ⟨⟨id4,g2,gL2⟩,⟨id5,g3,gL3⟩,g6,g7,gH⟩
 rw[List.take_length] at g6
 have hnp:=zMJ (D:=d) (by omega) ok true rk.q rk.p rk.lq rk.lp
 have hnf:=zMJ (D:=d) (by omega) ok false rk.f rk.p rk.lf rk.lp
 have hct:RT l r↔cnt l.pts r.path=r.pts.length∧NE l.pts r.pts r.path true∧NE l.pts r.flk r.path false:=⟨fun h=>⟨h.ct,h.np,h.nf⟩,fun h=>⟨by unfold InR ILt at *; omega,by unfold InR ILt at *; omega,a5,hPA,by unfold ILt at *; omega,by unfold ILt at *; omega,h.2.1,h.2.2,h.1⟩⟩
 have e1:((r.pts.length:Int)=(cnt l.pts r.path:Int))=(cnt l.pts r.path=r.pts.length):=propext ⟨fun h=>by omega,fun h=>by omega⟩
 have e2:(r.pts.length=cnt l.pts r.path)=(cnt l.pts r.path=r.pts.length):=propext ⟨fun h=>by omega,fun h=>by omega⟩
 rw[zFV hct]
 generalize hQ:Fin _ _=Q
 simp +contextual (maxSteps:=2000000) [g2,g3,g6,gL2,gL3,gH,ql,hnp,hnf,e1,e2,ivRt,B6,B7]
 subst hQ
 simp +contextual [B6,B7]
end Go.Proofs.YtlknjgmhfimhbaaGreatDoor.D
namespace Go.Proofs.YtlknjgmhfimhbaaGreatDoor.D
open Go Go.PM Go.Lib
def DJ (x y:DV):Prop:=∀ id r l c id' r' l' c',x=.sl id r l c→y=.sl id' r' l' c'→id≠id'
variable {x:DV}
theorem DJ.nil:DJ x (.imm .nils):=fun _ _ _ _ _ _ _ _ _ h=>by cases h
variable {H:PT HB} {n sz:Nat}
theorem AtS.mono {n':Nat}{rows:List (List IV)}(h:AtS sz x H n rows) (hn:n≤n'):AtS sz x H n' rows:=by
 rcases h with h | ⟨id,h1,h2⟩
 ·exact .inl h
 ·exact .inr ⟨id,by omega,h2⟩
theorem zCb {bytes:Nat}{rows:List (List IV)}(h:AtS sz x H n rows) (hs:0<sz) (hl:rows.length≤2 ^ 30) (hb:bytes≤100) (e:List IV) :
  ∃ x' hw acc,zCK H.get n 0 sz bytes x (.imm (.lst true sz [e]))=some { v:=x',hw:=hw,n':=n+1,acc:=acc }∧AtS sz x' (putH H hw) (n+1) (rows++[e])∧
   ∀ sz' z rows',AtS sz' z H n rows'→DJ z x→AtS sz' z (putH H hw) (n+1) rows'∧DJ z x':=by
 rcases h with⟨rfl,rfl⟩ | ⟨id,h2,rfl,h3⟩
 ·have a2:bytes≤zCJ:=by unfold zCJ; omega
  have a0:1≤zCJ:=by unfold zCJ; omega
  refine⟨.sl n 0 1 1,[(n,some ⟨sz,[imms e]⟩)],[.wX n],by simp[zCK,zRS,zPV,zOS,a0,a2,hs],.inr ⟨n,by omega,rfl,?_⟩,?_⟩
  ·simp[putH,gP]
  ·rintro sz' z rows' (⟨rfl,rfl⟩ | ⟨id,q1,rfl,q2⟩) hd
   ·exact⟨.inl ⟨rfl,rfl⟩,fun _ _ _ _ _ _ _ _ h=>by cases h⟩
   ·refine⟨.inr ⟨id,by omega,rfl,?_⟩,fun _ _ _ _ _ _ _ _ h1 h2=>by cases h1; cases h2; omega⟩
    have:¬id=n:=by omega
    simp[putH,gP,this,q2]
 ·have a1:¬rows.length+1≤rows.length:=by omega
  have a2:rows.length+1≤zCJ:=by unfold zCJ; omega
  have a3:(rows.length+1)*bytes≤zCJ:=by
   have:=Nat.mul_le_mul (show rows.length+1≤2 ^ 30+1 by omega) hb
   unfold zCJ; omega
  refine⟨.sl n 0 (rows.length+1) (rows.length+1),[(id,none),(n,some ⟨sz,rows.map imms++[imms e]⟩)],_,by simp[zCK,zRS,zPV,zOS,h3,a1,a2,a3,hs]; rfl,.inr ⟨n,by omega,by simp,?_⟩,?_⟩
  ·simp[putH,gP]
  ·rintro sz' z rows' (⟨rfl,rfl⟩ | ⟨id',q1,rfl,q2⟩) hd
   ·exact⟨.inl ⟨rfl,rfl⟩,fun _ _ _ _ _ _ _ _ h=>by cases h⟩
   ·refine⟨.inr ⟨id',by omega,rfl,?_⟩,fun _ _ _ _ _ _ _ _ h1 h2=>by cases h1; cases h2; omega⟩
    have e1:¬id'=n:=by omega
    have e2:¬id'=id:=hd _ _ _ _ _ _ _ _ rfl rfl
    simp[putH,gP,e1,e2,q2]
theorem zD4{rows:List (List IV)}(h:AtS sz x H n rows):∃ v acc,Sl sz v rows∧∀ {K:Go.PM.Callee}{f:FuncId}{b:Bool}{lo m:Nat},
  bl K f [.imm v]=some (.imm (.bool b))→zDz K .blind f [x] H m lo=some ⟨.imm (.bool b),H,m,acc⟩:=by
 rcases h with⟨rfl,rfl⟩ | ⟨id,h2,rfl,h3⟩
 ·refine⟨.nils,[],.inl ⟨rfl,rfl⟩,fun hb=>?_⟩
  rw[zD0 (by simp[zOJ,zOL,zOH]),hb]
  rfl
 ·refine⟨.lst false sz rows,[.rA],.inr ⟨_,rfl⟩,fun {K f b lo m} hb=>?_⟩
  have hf:frzI H.get 0 zH8 (.sl id 0 rows.length rows.length)=some (.lst false sz rows):=by
   show (if 0≤id then _ else _)=_
   rw[if_pos (Nat.zero_le _)]
   simp only[h3]
   rw[if_pos (by simp)]
   simp only[List.drop_zero]
   rw[List.take_of_length_le (by simp),zLp]
   rfl
  have hp:DV.pure.pures [.sl id 0 rows.length rows.length]=false:=rfl
  have hs:snap.snaps H.get [.sl id 0 rows.length rows.length]=some [.imm (.lst false sz rows)]:=by
   have:snap H.get (.sl id 0 rows.length rows.length)=some (.imm (.lst false sz rows)):=by
    show (frzI H.get 0 zH8 (.sl id 0 rows.length rows.length)).map DV.imm=_
    rw[hf]; rfl
   simp only[snap.snaps,this]
  simp only[zDz,hp,hs]
  unfold bl at hb
  cases hK:K f [.imm (.lst false sz rows)] .lf 0 0 with
  | none=>rw[hK] at hb; cases hb
  | some r=>
   obtain⟨v,H1,n1⟩:=r
   rw[hK] at hb
   have:v=.imm (.bool b):=by
    cases v with
    | imm v=>exact Option.some.inj hb
    | ptr=>simp[frz] at hb
    | sl id' row len cap=>
     have e:frz H1.get 0 (.sl id' row len cap)=if id'<0 then some (.sl id' row len cap) else (frzI H1.get 0 zH8 (.sl id' row len cap)).map .imm:=rfl
     have hb2:frz H1.get 0 (.sl id' row len cap)=some (.imm (.bool b)):=hb
     rw[e,if_neg (Nat.not_lt_zero _)] at hb2
     simp only[Option.map_eq_some_iff] at hb2
     obtain⟨q,q1,q2⟩:=hb2
     cases q2
     simp[frzI,zH8] at q1
     split at q1
     ·split at q1
      ·simp at q1
      ·cases q1
     ·cases q1
    | agg cs=>
     have hb2:(frz.frzs H1.get 0 cs).map DV.agg=some (.imm (.bool b)):=hb
     simp at hb2
    | tup cs=>
     have hb2:(frz.frzs H1.get 0 cs).map DV.tup=some (.imm (.bool b)):=hb
     simp at hb2
    | fnc=>cases hb
    | lref=>cases hb
   subst this
   rfl
theorem zCf {D:Nat}(hD:5≤D){v:IV}{ss:List (List UInt8)}(hv:Sl 1 v (ss.map ivS)) (hl:ss.length≤reachBytes) (hs:∀ s∈ss,s.length≤reachBytes) :
  bl (K DG D) 116 [.imm v]=some (.imm (.bool (dec (NM ss)))):=by
 obtain⟨b,e,h⟩:=zCe hD hv hl hs
 rw[e]
 have:b=dec (NM ss):=by
  cases b with
  | true=>rw[zFd (h.1 rfl)]
  | false=>rw[zFX fun h'=>by have:=h.2 h'; cases this]
 rw[this]
theorem zME {D:Nat}(hD:6≤D){v:IV}{ss:List (List UInt8)}(hv:Sl 1 v (ss.map ivS)) (hl:ss.length≤reachBytes) (hs:∀ s∈ss,s.length≤100000) :
  bl (K DG D) 76 [.imm v]=some (.imm (.bool (dec (NM ss)))):=by
 obtain⟨b,e,h⟩:=zMD hD hv hl hs
 rw[e]
 have:b=dec (NM ss):=by
  cases b with
  | true=>rw[zFd (h.1 rfl)]
  | false=>rw[zFX fun h'=>by have:=h.2 h'; cases this]
 rw[this]
def pn (l:Lo):List (List UInt8):=l.pts.map (·.name)
def rn (l:Lo):List (List UInt8):=l.rts.map (·.name)
structure ISL (l:Lo):Prop where
 s1:1≤l.secs.length
 s2:l.secs.length≤10
 g1:1≤l.sigs.length
 g2:l.sigs.length≤6
 p2:l.pts.length≤5
 r2:l.rts.length≤6
 ps:∀ i,i<l.pts.length→InR (nth l.pts i).sec l.secs.length
 ns:NM l.secs
 ng:NM l.sigs
 np:NM (pn l)
 nr:NM (rn l)
 rr:∀ i,i<l.rts.length→RT l (nth l.rts i)
def IS0 (l:Lo) (i:Nat) (st:St):Prop:=∃ x,Box st 1 l.ivs∧st.T.get 3=some x∧st.T.get 4=some (.imm .nils)∧st.T.get 34=some (.imm l.pv)∧st.T.get 35=some (.imm (.int .i64 l.pts.length))∧st.T.get 36=some (.imm (.int .i64 i))∧
 AtS 1 x st.H st.n (((pn l).take i).map ivS)∧∀ j,j<i→InR (nth l.pts j).sec l.secs.length
theorem zL1 {α β:Type}[Inhabited α] {f:α→β}{xs:List α}{i:Nat}(h:i<xs.length):(xs.take (i+1)).map f=(xs.take i).map f++[f (nth xs i)]:=by
 rw[zSE h]; simp
variable {l:Lo}
theorem zLX {d:Nat}(hd:1≤d)(ok:LoOk l) (p5:l.pts.length≤5){ks:List Kf}{st:St}{Q:Ex→St→Prop}(h:IS0 l 0 st)
  (hk:∀ e st',(e=.ret∧st'.T.get 2=some (.imm (.bool false))∧¬ISL l)∨(e=.exit 0∧IS0 l l.pts.length st')→Bk DG (K DG d) 0 e ks st' Q) :
  Wp DG (K DG d) 0 D.l78_0 ks st Q:=by
 have hrb:reachBytes≤2 ^ 50:=by decide
 refine zGt (N:=l.pts.length) (zRH ok.lp) (IS0 l) (fun e st'=>(e=.ret∧st'.T.get 2=some (.imm (.bool false))∧¬ISL l)∨(e=.exit 0∧IS0 l l.pts.length st'))
  (fun i st hle hI=>?_) h (fun e s' h=>hk e s' h)
 obtain⟨x,⟨id,h1,hL⟩,h3,h4,h34,h35,h36,hat,hall⟩:=hI
 have lp:=ok.lp
 have ls:=ok.ls
 have sl:=ok.s.len
 simp only[List.length_map] at sl
 by_cases hi:i<l.pts.length
 ·have hi':(i:Int)<l.pts.length:=by omega
  have hj':=zI3 hi'
  have hw8:IntKind.i64.wrap ((i:Int)+1)=(i:Int)+1:=zTX hi lp
  have hwp:IntKind.i64.wrap ((l.secs.length:Int) - 1)=(l.secs.length:Int) - 1:=zTW (by omega) (by omega)
  have hin:∀ z:Int,bl (K DG d) 114 [.imm (.int .i64 z),.imm (.int .i64 0),.imm (.int .i64 ((l.secs.length:Int) - 1))]=some (.imm (.bool (dec (InR z l.secs.length)))):=fun z=>by
   rw[zJN DG (D:=d) (by omega) z 0 ((l.secs.length:Int) - 1),zFW]
   congr 3
   exact zFV ⟨fun h=>⟨by omega,by omega⟩,fun h=>by unfold InR at h; omega⟩
  have ix:=zIu ok.p hi'
  obtain⟨x',hw,acc,p1,p2,_⟩:=zCb (bytes:=16) (hat.mono (Nat.le_add_right _ 1)) (by omega) (by simp; omega) (by omega) (ivS (nth l.pts i).name)
  rw[show ((pn l).take i).map ivS++[ivS (nth l.pts i).name]=((pn l).take (i+1)).map ivS by
   simp only[pn,← List.map_take]; rw[zL1 hi]; simp] at p2
  have no:¬InR (nth l.pts i).sec l.secs.length→¬ISL l:=fun h1 h2=>h1 (h2.ps i hi)
  have yes:InR (nth l.pts i).sec l.secs.length→∀ j,j<i+1→InR (nth l.pts j).sec l.secs.length:=fun h j hj=>by
   rcases Nat.lt_or_eq_of_le (Nat.le_of_lt_succ hj) with hj | rfl
   ·exact hall j hj
   ·exact h
  simp only[ivS] at p1
  generalize hQ:(fun (e:Ex) (s':St)=>_)=Q'
  simp only[D.l78_0b]
  simp +contextual (maxSteps:=2000000) [h1,h3,h4,h34,h35,h36,hL,hj',hw8,hwp,hin,ix,p1,sl,ivP,zHG,zHH,lay,zS4,zS2,mapO,zPT,B6,B7]
  subst hQ
  simp +contextual [no,gP]
  exact fun a=>⟨hi,x',⟨id,by simp[gP],by simp[gP,imms]⟩,by simp[gP],by simp[gP],by simp[gP],by simp[gP],by simp[gP],p2,yes a⟩
 ·obtain rfl:i=l.pts.length:=by omega
  generalize hQ:(fun (e:Ex) (s':St)=>_)=Q'
  simp only[D.l78_0b]
  simp[h1,h3,h4,h34,h35,h36,hL,B6,B7]
  subst hQ
  simp
  exact⟨x,⟨id,by simp[gP,h1],by simp[gP,hL,imms]⟩,by simp[gP],by simp[gP],by simp[gP],by simp[gP],by simp[gP],hat,hall⟩
def IS1 (l:Lo) (i:Nat) (st:St):Prop:=∃ x y,Box st 1 l.ivs∧st.T.get 3=some x∧st.T.get 4=some y∧st.T.get 55=some (.imm l.rv)∧st.T.get 56=some (.imm (.int .i64 l.rts.length))∧st.T.get 57=some (.imm (.int .i64 i))∧
 AtS 1 x st.H st.n ((pn l).map ivS)∧AtS 1 y st.H st.n (((rn l).take i).map ivS)∧DJ x y∧∀ j,j<i→RT l (nth l.rts j)
theorem zLY {d:Nat}(hd:4≤d)(ok:LoOk l) (r6:l.rts.length≤6){ks:List Kf}{st:St}{Q:Ex→St→Prop}(h:IS1 l 0 st)
  (hk:∀ e st',(e=.ret∧st'.T.get 2=some (.imm (.bool false))∧¬ISL l)∨(e=.exit 2∧IS1 l l.rts.length st')→Bk DG (K DG d) 0 e ks st' Q) :
  Wp DG (K DG d) 0 D.l78_1 ks st Q:=by
 have hrb:reachBytes≤2 ^ 50:=by decide
 refine zGt (N:=l.rts.length) (zRH ok.lr) (IS1 l) (fun e st'=>(e=.ret∧st'.T.get 2=some (.imm (.bool false))∧¬ISL l)∨(e=.exit 2∧IS1 l l.rts.length st'))
  (fun i st hle hI=>?_) h (fun e s' h=>hk e s' h)
 obtain⟨x,y,⟨id,h1,hL⟩,h3,h4,h55,h56,h57,hat,haty,hdj,hall⟩:=hI
 have lr:=ok.lr
 by_cases hi:i<l.rts.length
 ·have hi':(i:Int)<l.rts.length:=by omega
  have hj':=zI3 hi'
  have hw8:IntKind.i64.wrap ((i:Int)+1)=(i:Int)+1:=zTX hi lr
  have rk:=ok.or _ (zMi hi)
  have hrt:=zJX (D:=d) hd ok rk
  simp only[ivRt,imms,List.map_cons,List.map_nil] at hrt
  have ix:=zIu ok.r hi'
  obtain⟨y',hw,acc,p1,p2,p3⟩:=zCb (bytes:=16) (haty.mono (Nat.le_add_right _ 1)) (by omega) (by simp; omega) (by omega) (ivS (nth l.rts i).name)
  rw[show ((rn l).take i).map ivS++[ivS (nth l.rts i).name]=((rn l).take (i+1)).map ivS by
   simp only[rn,← List.map_take]; rw[zL1 hi]; simp] at p2
  obtain⟨q1,q2⟩:=p3 _ _ _ (hat.mono (Nat.le_add_right _ 1)) hdj
  have no:¬RT l (nth l.rts i)→¬ISL l:=fun h1 h2=>h1 (h2.rr i hi)
  have yes:RT l (nth l.rts i)→∀ j,j<i+1→RT l (nth l.rts j):=fun h j hj=>by
   rcases Nat.lt_or_eq_of_le (Nat.le_of_lt_succ hj) with hj | rfl
   ·exact hall j hj
   ·exact h
  simp only[ivS] at p1
  generalize hQ:(fun (e:Ex) (s':St)=>_)=Q'
  simp only[D.l78_1b]
  simp +contextual (maxSteps:=2000000) [h1,h3,h4,h55,h56,h57,hL,hj',hw8,hrt,ix,p1,ivRt,rk.p.scal,rk.q.scal,rk.f.scal,zHG,zHH,lay,zS4,zS2,mapO,zPT,B6,B7]
  subst hQ
  simp +contextual [no,gP]
  exact fun a=>⟨hi,x,y',⟨id,by simp[gP],by simp[gP,imms]⟩,by simp[gP],by simp[gP],by simp[gP],by simp[gP],by simp[gP],q1,p2,q2,yes a⟩
 ·obtain rfl:i=l.rts.length:=by omega
  generalize hQ:(fun (e:Ex) (s':St)=>_)=Q'
  simp only[D.l78_1b]
  simp[h1,h3,h4,h55,h56,h57,hL,B6,B7]
  subst hQ
  simp
  exact⟨x,y,⟨id,by simp[gP,h1],by simp[gP,hL,imms]⟩,by simp[gP],by simp[gP],by simp[gP],by simp[gP],by simp[gP],hat,haty,hdj,hall⟩
theorem zAp {D:Nat}(hD:6≤D)(ok:LoOk l) :
  bl (K DG D) 78 [l.dv]=some (.imm (.bool (dec (ISL l)))):=by
 have hrb:reachBytes≤2 ^ 50:=by decide
 obtain⟨d,rfl⟩:∃ d,D=d+1:=⟨D - 1,by omega⟩
 refine zDd ?_
 rw[kX 78 D.f78 rfl]
 refine zHy rfl ?_
 have sl:=ok.s.len
 have gl:=ok.g.len
 have pl:=ok.p.len
 have rl:=ok.r.len
 simp only[List.length_map] at sl gl pl rl
 have hin:=fun z a b=>zJN DG (D:=d) (by omega) z a b
 simp only[zFW] at hin
 have n1:¬((1:Int)≤l.secs.length∧(l.secs.length:Int)≤10)→¬ISL l:=fun h h'=>h ⟨by have:=h'.s1; omega,by have:=h'.s2; omega⟩
 have n2:¬((1:Int)≤l.sigs.length∧(l.sigs.length:Int)≤6)→¬ISL l:=fun h h'=>h ⟨by have:=h'.g1; omega,by have:=h'.g2; omega⟩
 have n3:ILt 5 l.pts.length→¬ISL l:=fun h h'=>by have:=h'.p2; unfold ILt at *; omega
 have n4:ILt 6 l.rts.length→¬ISL l:=fun h h'=>by have:=h'.r2; unfold ILt at *; omega
 have h12:=hin l.secs.length 1 10
 have h18:=hin l.sigs.length 1 6
 generalize hP1:((1:Int)≤l.secs.length∧(l.secs.length:Int)≤10)=P1 at h12 n1
 generalize hP2:((1:Int)≤l.sigs.length∧(l.sigs.length:Int)≤6)=P2 at h18 n2
 generalize hQ:Fin _ _=Q
 simp +contextual (maxSteps:=2000000) [ok.sc,sl,gl,pl,rl,h12,h18,B6,B7]
 subst hQ
 simp +contextual [n1,n2,n3,n4,B6,B7]
 intro a1 a2 a3 a4
 subst hP1 hP2
 have p5:l.pts.length≤5:=by unfold ILt at a3; omega
 have r6:l.rts.length≤6:=by unfold ILt at a4; omega
 refine zLX (l:=l) (by omega) ok p5 ⟨_,⟨0,by simp[gP],by simp[gP,imms]⟩,by simp[gP],by simp[gP],by simp[gP],by simp[gP],by simp[gP],.inl ⟨rfl,by simp⟩,fun j hj=>by omega⟩ ?_
 rintro e st' (⟨rfl,h2,hn⟩ | ⟨rfl,x,⟨id,h1,hL⟩,h3,h4,h34,h35,h36,hat,hps⟩)
 ·simp[h2,hn,B6,B7]
 simp[h1,h3,h4,hL,rl,B6,B7]
 rw[List.take_of_length_le (by simp[pn])] at hat
 refine zLY (l:=l) (by omega) ok r6 ⟨x,_,⟨id,by simp[gP,h1],by simp[gP,hL,imms]⟩,by simp[gP,h3],by simp[gP,h4],by simp[gP],by simp[gP],by simp[gP],hat,.inl ⟨rfl,by simp⟩,DJ.nil,fun j hj=>by omega⟩ ?_
 rintro e st2 (⟨rfl,h2,hn⟩ | ⟨rfl,x2,y2,⟨id2,g1,gL⟩,g3,g4,g55,g56,g57,gat,gaty,gdj,hrr⟩)
 ·simp[h2,hn,B6,B7]
 rw[List.take_of_length_le (by simp[rn])] at gaty
 have hct:ISL l↔(NM l.secs∧NM l.sigs∧NM (pn l)∧NM (rn l)):=⟨fun h=>⟨h.ns,h.ng,h.np,h.nr⟩,fun h=>⟨by omega,by omega,by omega,by omega,p5,r6,hps,h.1,h.2.1,h.2.2.1,h.2.2.2,hrr⟩⟩
 rw[zFV hct]
 have k1:=zCf (D:=d) (by omega) ok.s ok.ls ok.os
 have k2:=zCf (D:=d) (by omega) ok.g ok.lg ok.og
 obtain⟨v3,acc3,sv3,c3⟩:=zD4 gat
 obtain⟨v4,acc4,sv4,c4⟩:=zD4 gaty
 have lp:=ok.lp
 have lr:=ok.lr
 have k3:=@c3 (K DG d) 116 _ 0 st2.n (zCf (D:=d) (by omega) sv3 (by simp[pn]; omega) (fun s hs=>by
  obtain⟨p,hp,rfl⟩:=List.mem_map.1 hs
  exact ok.op p hp))
 have k4:=@c4 (K DG d) 116 _ 0 st2.n (zCf (D:=d) (by omega) sv4 (by simp[rn]; omega) (fun s hs=>by
  obtain⟨p,hp,rfl⟩:=List.mem_map.1 hs
  exact (ok.or p hp).ln))
 generalize hQ:Fin _ _=Q
 simp +contextual (maxSteps:=2000000) [g1,g3,g4,gL,k1,k2,k3,k4,B6,B7]
 subst hQ
 simp +contextual [B6,B7]
end Go.Proofs.YtlknjgmhfimhbaaGreatDoor.D
namespace Go.Proofs.YtlknjgmhfimhbaaGreatDoor.D
open Go Go.PM Go.Lib
theorem rb3:3000≤reachBytes∧reachBytes≤2 ^ 50:=by decide
structure LoSm (l:Lo):Prop where
 s:∀ x∈l.secs,x.length≤100000
 p:∀ x∈l.pts,x.name.length≤100000
 g:∀ x∈l.sigs,x.length≤100000
 r:∀ x∈l.rts,x.name.length≤100000
def IR0 (l:Lo) (i:Nat) (st:St):Prop:=∃ x,Box st 1 l.ivs∧st.T.get 3=some x∧st.T.get 4=some (.imm .nils)∧st.T.get 5=some (.imm (.int .i64 i))∧
 AtS 1 x st.H st.n (((pn l).take i).map ivS)∧∀ j,j<i→InR (nth l.pts j).sec l.secs.length
variable {Q:Ex→St→Prop} {d:Nat} {ks:List Kf} {l:Lo} {st:St}
theorem zLQ(ok:LoOk l) (p5:l.pts.length≤5)(h:IR0 l 0 st)
  (hk:∀ e st',(e=.ret∧st'.T.get 2=some (.imm (.bool false))∧¬ISL l)∨(e=.exit 0∧IR0 l l.pts.length st')→Bk DG (K DG d) 0 e ks st' Q) :
  Wp DG (K DG d) 0 D.l28_0 ks st Q:=by
 have hrb:reachBytes≤2 ^ 50:=by decide
 refine zGt (N:=l.pts.length) (zRH ok.lp) (IR0 l) (fun e st'=>(e=.ret∧st'.T.get 2=some (.imm (.bool false))∧¬ISL l)∨(e=.exit 0∧IR0 l l.pts.length st'))
  (fun i st hle hI=>?_) h (fun e s' h=>hk e s' h)
 obtain⟨x,⟨id,h1,hL⟩,h3,h4,h5,hat,hall⟩:=hI
 have lp:=ok.lp
 have ls:=ok.ls
 have sl:=ok.s.len
 have pl:=ok.p.len
 simp only[List.length_map] at sl pl
 by_cases hi:i<l.pts.length
 ·have hi':(i:Int)<l.pts.length:=by omega
  have hj':=zI3 hi'
  have hw8:IntKind.i64.wrap ((i:Int)+1)=(i:Int)+1:=zTX hi lp
  have ix:=zIu ok.p hi'
  obtain⟨x',hw,acc,p1,p2,_⟩:=zCb (bytes:=16) hat (by omega) (by simp; omega) (by omega) (ivS (nth l.pts i).name)
  rw[show ((pn l).take i).map ivS++[ivS (nth l.pts i).name]=((pn l).take (i+1)).map ivS by
   simp only[pn,← List.map_take]; rw[zL1 hi]; simp] at p2
  have no:ILt (nth l.pts i).sec 0→¬ISL l:=fun h1 h2=>by have:=h2.ps i hi; unfold InR ILt at *; omega
  have no':¬ILt (nth l.pts i).sec l.secs.length→¬ISL l:=fun h1 h2=>by have:=h2.ps i hi; unfold InR ILt at *; omega
  have yes:InR (nth l.pts i).sec l.secs.length→∀ j,j<i+1→InR (nth l.pts j).sec l.secs.length:=fun h j hj=>by
   rcases Nat.lt_or_eq_of_le (Nat.le_of_lt_succ hj) with hj | rfl
   ·exact hall j hj
   ·exact h
  simp only[ivS] at p1
  generalize hQ:(fun (e:Ex) (s':St)=>_)=Q'
  simp only[D.l28_0b]
  simp +contextual (maxSteps:=2000000) [h1,h3,h4,h5,hL,hj',hw8,ix,p1,sl,pl,ivP,zHG,zHH,lay,zS4,zS2,mapO,zPT,B6,B7]
  subst hQ
  simp +contextual [no,no',gP]
  exact fun a b=>⟨hi,x',⟨id,by simp[gP],by simp[gP,imms]⟩,by simp[gP],by simp[gP],by simp[gP],p2,yes (by unfold InR ILt at *; omega)⟩
 ·obtain rfl:i=l.pts.length:=by omega
  generalize hQ:(fun (e:Ex) (s':St)=>_)=Q'
  simp only[D.l28_0b]
  simp[h1,h3,h4,h5,hL,pl,B6,B7]
  subst hQ
  simp
  exact⟨x,⟨id,by simp[gP,h1],by simp[gP,hL,imms]⟩,by simp[gP],by simp[gP],by simp[gP],hat,hall⟩
def IR1 (l:Lo) (i:Nat) (st:St):Prop:=∃ x y,Box st 1 l.ivs∧st.T.get 3=some x∧st.T.get 4=some y∧st.T.get 6=some (.imm (.int .i64 i))∧
 AtS 1 x st.H st.n ((pn l).map ivS)∧AtS 1 y st.H st.n (((rn l).take i).map ivS)∧DJ x y
theorem zLR(ok:LoOk l) (r6:l.rts.length≤6)(h:IR1 l 0 st)
  (hk:∀ st',IR1 l l.rts.length st'→Bk DG (K DG d) 0 (.exit 2) ks st' Q) :
  Wp DG (K DG d) 0 D.l28_1 ks st Q:=by
 have hrb:reachBytes≤2 ^ 50:=by decide
 refine zGt (N:=l.rts.length) (zRH ok.lr) (IR1 l) (fun e st'=>e=.exit 2∧IR1 l l.rts.length st')
  (fun i st hle hI=>?_) h (fun e s' h=>by rw[h.1]; exact hk s' h.2)
 obtain⟨x,y,⟨id,h1,hL⟩,h3,h4,h6,hat,haty,hdj⟩:=hI
 have lr:=ok.lr
 have rl:=ok.r.len
 simp only[List.length_map] at rl
 by_cases hi:i<l.rts.length
 ·have hi':(i:Int)<l.rts.length:=by omega
  have hj':=zI3 hi'
  have hw8:IntKind.i64.wrap ((i:Int)+1)=(i:Int)+1:=zTX hi lr
  have ix:=zIu ok.r hi'
  obtain⟨y',hw,acc,p1,p2,p3⟩:=zCb (bytes:=16) haty (by omega) (by simp; omega) (by omega) (ivS (nth l.rts i).name)
  rw[show ((rn l).take i).map ivS++[ivS (nth l.rts i).name]=((rn l).take (i+1)).map ivS by
   simp only[rn,← List.map_take]; rw[zL1 hi]; simp] at p2
  obtain⟨q1,q2⟩:=p3 _ _ _ hat hdj
  simp only[ivS] at p1
  generalize hQ:(fun (e:Ex) (s':St)=>_)=Q'
  simp only[D.l28_1b]
  simp +contextual (maxSteps:=2000000) [h1,h3,h4,h6,hL,hj',hw8,ix,p1,rl,ivRt,zHG,zHH,lay,zS4,zS2,mapO,zPT,B6,B7]
  subst hQ
  simp +contextual [gP]
  exact⟨hi,x,y',⟨id,by simp[gP],by simp[gP,imms]⟩,by simp[gP],by simp[gP],by simp[gP],q1,p2,q2⟩
 ·obtain rfl:i=l.rts.length:=by omega
  generalize hQ:(fun (e:Ex) (s':St)=>_)=Q'
  simp only[D.l28_1b]
  simp[h1,h3,h4,h6,hL,rl,B6,B7]
  subst hQ
  simp
  exact⟨x,y,⟨id,by simp[gP,h1],by simp[gP,hL,imms]⟩,by simp[gP],by simp[gP],by simp[gP],hat,haty,hdj⟩
def IR2 (l:Lo) (i:Nat) (st:St):Prop:=Box st 1 l.ivs∧st.T.get 7=some (.imm (.int .i64 i))∧∀ j,j<i→RT l (nth l.rts j)
theorem zLS(hd:4≤d)(ok:LoOk l)(h:IR2 l 0 st)
  (hk:∀ e st',(e=.ret∧st'.T.get 2=some (.imm (.bool false))∧¬ISL l)∨(e=.exit 4∧IR2 l l.rts.length st')→Bk DG (K DG d) 0 e ks st' Q) :
  Wp DG (K DG d) 0 D.l28_2 ks st Q:=by
 have hrb:reachBytes≤2 ^ 50:=by decide
 refine zGt (N:=l.rts.length) (zRH ok.lr) (IR2 l) (fun e st'=>(e=.ret∧st'.T.get 2=some (.imm (.bool false))∧¬ISL l)∨(e=.exit 4∧IR2 l l.rts.length st'))
  (fun i st hle hI=>?_) h (fun e s' h=>hk e s' h)
 obtain⟨⟨id,h1,hL⟩,h7,hall⟩:=hI
 have lr:=ok.lr
 have rl:=ok.r.len
 simp only[List.length_map] at rl
 by_cases hi:i<l.rts.length
 ·have hi':(i:Int)<l.rts.length:=by omega
  have hj':=zI3 hi'
  have hw8:IntKind.i64.wrap ((i:Int)+1)=(i:Int)+1:=zTX hi lr
  have rk:=ok.or _ (zMi hi)
  have hrt:=zPG (D:=d) hd ok rk
  simp only[ivRt,imms,List.map_cons,List.map_nil] at hrt
  have ix:=zIu ok.r hi'
  have no:¬RT l (nth l.rts i)→¬ISL l:=fun h1 h2=>h1 (h2.rr i hi)
  have yes:RT l (nth l.rts i)→∀ j,j<i+1→RT l (nth l.rts j):=fun h j hj=>by
   rcases Nat.lt_or_eq_of_le (Nat.le_of_lt_succ hj) with hj | rfl
   ·exact hall j hj
   ·exact h
  generalize hQ:(fun (e:Ex) (s':St)=>_)=Q'
  simp only[D.l28_2b]
  simp +contextual (maxSteps:=2000000) [h1,h7,hL,hj',hw8,hrt,ix,rl,ivRt,B6,B7]
  subst hQ
  simp +contextual [no,gP]
  exact fun a=>⟨hi,⟨id,by simp[gP],by simp[gP,imms]⟩,by simp[gP],yes a⟩
 ·obtain rfl:i=l.rts.length:=by omega
  generalize hQ:(fun (e:Ex) (s':St)=>_)=Q'
  simp only[D.l28_2b]
  simp[h1,h7,hL,rl,B6,B7]
  subst hQ
  simp
  exact⟨⟨id,by simp[gP,h1],by simp[gP,hL,imms]⟩,by simp[gP],hall⟩
theorem zAo {D:Nat}(hD:7≤D)(ok:LoOk l) (sm:LoSm l) :
  bl (K DG D) 28 [l.dv]=some (.imm (.bool (dec (ISL l)))):=by
 have hrb:reachBytes≤2 ^ 50:=by decide
 obtain⟨d,rfl⟩:∃ d,D=d+1:=⟨D - 1,by omega⟩
 refine zDd ?_
 rw[kX 28 D.f28 rfl]
 refine zHy rfl ?_
 have sl:=ok.s.len
 have gl:=ok.g.len
 have pl:=ok.p.len
 have rl:=ok.r.len
 simp only[List.length_map] at sl gl pl rl
 have n1:ILt l.secs.length 1→¬ISL l:=fun h h'=>by have:=h'.s1; unfold ILt at *; omega
 have n2:ILt 10 l.secs.length→¬ISL l:=fun h h'=>by have:=h'.s2; unfold ILt at *; omega
 have n3:ILt l.sigs.length 1→¬ISL l:=fun h h'=>by have:=h'.g1; unfold ILt at *; omega
 have n4:ILt 6 l.sigs.length→¬ISL l:=fun h h'=>by have:=h'.g2; unfold ILt at *; omega
 have n5:ILt 5 l.pts.length→¬ISL l:=fun h h'=>by have:=h'.p2; unfold ILt at *; omega
 have n6:ILt 6 l.rts.length→¬ISL l:=fun h h'=>by have:=h'.r2; unfold ILt at *; omega
 generalize hQ:Fin _ _=Q
 simp +contextual (maxSteps:=2000000) [ok.sc,sl,gl,pl,rl,B6,B7]
 subst hQ
 simp +contextual [n1,n2,n3,n4,n5,n6,B6,B7]
 intro a1 a2 a3 a4 a5 a6
 have p5:l.pts.length≤5:=by unfold ILt at a5; omega
 have r6:l.rts.length≤6:=by unfold ILt at a6; omega
 refine zLQ (l:=l) ok p5 ⟨_,⟨0,by simp[gP],by simp[gP,imms]⟩,by simp[gP],by simp[gP],by simp[gP],.inl ⟨rfl,by simp⟩,fun j hj=>by omega⟩ ?_
 rintro e st' (⟨rfl,h2,hn⟩ | ⟨rfl,x,⟨id,h1,hL⟩,h3,h4,h5,hat,hps⟩)
 ·simp[h2,hn,B6,B7]
 simp[h1,h3,h4,hL,rl,B6,B7]
 rw[List.take_of_length_le (by simp[pn])] at hat
 refine zLR (l:=l) ok r6 ⟨x,_,⟨id,by simp[gP,h1],by simp[gP,hL,imms]⟩,by simp[gP,h3],by simp[gP,h4],by simp[gP],hat,.inl ⟨rfl,by simp⟩,DJ.nil⟩ ?_
 rintro st2 ⟨x2,y2,⟨id2,g1,gL⟩,g3,g4,g6,gat,gaty,gdj⟩
 rw[List.take_of_length_le (by simp[rn])] at gaty
 have k1:=zME (D:=d) (by omega) ok.s ok.ls sm.s
 have k2:=zME (D:=d) (by omega) ok.g ok.lg sm.g
 obtain⟨v3,acc3,sv3,c3⟩:=zD4 gat
 obtain⟨v4,acc4,sv4,c4⟩:=zD4 gaty
 have lp:=ok.lp
 have lr:=ok.lr
 have k3:=@c3 (K DG d) 76 _ 0 st2.n (zME (D:=d) (by omega) sv3 (by simp[pn]; omega) (fun s hs=>by
  obtain⟨p,hp,rfl⟩:=List.mem_map.1 hs
  exact sm.p p hp))
 have k4:=@c4 (K DG d) 76 _ 0 st2.n (zME (D:=d) (by omega) sv4 (by simp[rn]; omega) (fun s hs=>by
  obtain⟨p,hp,rfl⟩:=List.mem_map.1 hs
  exact sm.r p hp))
 have m1:¬NM l.secs→¬ISL l:=fun h h'=>h h'.ns
 have m2:¬NM l.sigs→¬ISL l:=fun h h'=>h h'.ng
 have m3:¬NM (pn l)→¬ISL l:=fun h h'=>h h'.np
 have m4:¬NM (rn l)→¬ISL l:=fun h h'=>h h'.nr
 generalize hQ:Fin _ _=Q
 simp +contextual (maxSteps:=2000000) [g1,g3,g4,gL,k1,k2,k3,k4,B6,B7]
 subst hQ
 simp +contextual [m1,m2,m3,m4,B6,B7]
 intro b1 b2 b3 b4
 refine zLS (l:=l) (by omega) ok ⟨⟨id2,by simp[gP,g1],by simp[gP,gL,imms]⟩,by simp[gP],fun j hj=>by omega⟩ ?_
 rintro e st3 (⟨rfl,f2,hn⟩ | ⟨rfl,⟨id3,f1,fL⟩,f7,hrr⟩)
 ·simp[f2,hn,B6,B7]
 have hct:ISL l:=⟨by unfold ILt at *; omega,by unfold ILt at *; omega,by unfold ILt at *; omega,by unfold ILt at *; omega,p5,r6,hps,b1,b2,b3,b4,hrr⟩
 simp[zFd hct,B6,B7]
end Go.Proofs.YtlknjgmhfimhbaaGreatDoor.D
namespace Go.Proofs.YtlknjgmhfimhbaaGreatDoor.D
open Go Go.PM Go.Lib
def AtC (sz:Nat) (x:DV) (H:PT HB) (n:Nat) (rows:List (List IV)) (cap:Nat):Prop:=(x=.imm .nils∧rows=[]∧cap=0)∨∃ id rest,id<n∧x=.sl id 0 rows.length cap∧H.get id=some ⟨sz,rows.map imms++rest⟩∧rows.length+rest.length=cap
variable {es:List (List IV)} {sz:Nat} {v:IV}
theorem zRV(h:Sl sz v es) (hh:Nat→Option HB):∃ sb,zRS hh (.imm v)=some (none,sb,es.map imms)∧(es≠[]→sb=sz):=by
 rcases h with⟨rfl,rfl⟩ | ⟨f,rfl⟩
 ·exact⟨0,rfl,fun h=>absurd rfl h⟩
 ·exact⟨sz,rfl,fun _=>rfl⟩
variable {H:PT HB} {bytes cap n:Nat} {x:DV}
theorem zCP {rows:List (List IV)}(h:AtC sz x H n rows cap) (hs:0<sz) (hv:Sl sz v es) (hl:rows.length+es.length≤cap) :
  ∃ x' hw acc,zCK H.get n 0 sz bytes x (.imm v)=some { v:=x',hw:=hw,n':=n,acc:=acc }∧AtC sz x' (putH H hw) n (rows++es) cap:=by
 obtain⟨sb,hsrc,hsb⟩:=zRV hv H.get
 by_cases he:es=[]
 ·subst he
  refine⟨x,[],[],?_,by simpa [putH] using h⟩
  rcases h with⟨rfl,rfl,rfl⟩ | ⟨id,rest,h1,rfl,h2,h3⟩
  ·simp[zCK,hsrc,zOS]
  ·simp[zCK,hsrc,zOS]
 ·have hpos:0<es.length:=List.length_pos_iff.2 he
  obtain rfl:=hsb he
  rcases h with⟨rfl,rfl,rfl⟩ | ⟨id,rest,h1,rfl,h2,h3⟩
  ·exact absurd (by simpa using hl) he
  ·refine⟨.sl id 0 (rows.length+es.length) cap,[(id,some ⟨sb,rows.map imms++es.map imms++rest.drop es.length⟩)],.wX id::zOS none,?_,.inr ⟨id,rest.drop es.length,h1,by simp,by simp[putH,gP],by simp; omega⟩⟩
   have a1:rows.length+es.length≤rows.length+rest.length:=by omega
   have a2:(rows.map imms++rest).take rows.length=rows.map imms:=by rw[List.take_left' (by simp)]
   have a3:(rows.map imms++rest).drop (rows.length+es.length)=rest.drop es.length:=by
    rw[List.drop_append]; simp
   simp[zCK,hsrc,he,hs,h2,hl,a1,a2,a3,zOS]
theorem zIC{rows:List (List IV)}(h:AtC sz x H n rows cap):∃ v,frz H.get 0 x=some (.imm v)∧Sl sz v rows:=by
 rcases h with⟨rfl,rfl,rfl⟩ | ⟨id,rest,h1,rfl,h2,h3⟩
 ·exact⟨_,rfl,.inl ⟨rfl,rfl⟩⟩
 ·refine⟨.lst false sz rows,?_,.inr ⟨_,rfl⟩⟩
  have hf:frzI H.get 0 zH8 (.sl id 0 rows.length cap)=some (.lst false sz rows):=by
   show (if 0≤id then _ else _)=_
   rw[if_pos (Nat.zero_le _)]
   simp only[h2]
   rw[if_pos (by simp)]
   simp only[List.drop_zero]
   rw[List.take_left' (by simp),zLp]
   rfl
  have hz:frz H.get 0 (.sl id 0 rows.length cap)=if id<0 then some (.sl id 0 rows.length cap) else (frzI H.get 0 zH8 (.sl id 0 rows.length cap)).map .imm:=rfl
  rw[hz,if_neg (Nat.not_lt_zero _),hf]
  rfl
theorem AtC.out{rows:List (List IV)}(h:AtC sz x H n rows cap):x.out=true:=by
 rcases h with⟨rfl,_⟩ | ⟨id,rest,_,rfl,_⟩ <;> rfl
theorem AtS.out{rows:List (List IV)}(h:AtS sz x H n rows):x.out=true:=by
 rcases h with⟨rfl,_⟩ | ⟨id,_,rfl,_⟩ <;> rfl
variable {h:Nat→Option HB}
theorem zCX(hx:x=.imm .nils∨x=.imm (.lst true sz [])∨∃ id k,x=.sl id 0 k k) (hv:Sl sz v []) :
  zCK h n 0 sz bytes x (.imm v)=some { v:=x,n':=n,acc:=[] }:=by
 obtain⟨sb,hsrc,_⟩:=zRV hv h
 rcases hx with rfl | rfl | ⟨id,k,rfl⟩ <;> simp[zCK,hsrc,zOS]
theorem zCW(hv:Sl sz v es) (he:es≠[]) (hs:0<sz) (hl:es.length≤2 ^ 25) (hb:bytes≤1000) :
  zCK h n 0 sz bytes (.imm (.lst true sz [])) (.imm v)=some { v:=.sl n 0 es.length es.length,hw:=[(n,some ⟨sz,es.map imms⟩)],n':=n+1,acc:=[.wX n] }:=by
 obtain⟨sb,hsrc,hsb⟩:=zRV hv h
 obtain rfl:=hsb he
 have a1:es.length≤zCJ:=by unfold zCJ; omega
 have a2:es.length*bytes≤zCJ:=by
  have:=Nat.mul_le_mul hl hb
  unfold zCJ; omega
 simp[zCK,hsrc,he,hs,a1,a2,zOS]
theorem zCQ {id:Nat} {rows:List (List IV)}(hv:Sl sz v es) (he:es≠[]) (hs:0<sz) (hl:rows.length+es.length≤2 ^ 25) (hb:bytes≤1000) (hh:h id=some ⟨sz,rows.map imms⟩) :
  zCK h n 0 sz bytes (.sl id 0 rows.length rows.length) (.imm v)=some { v:=.sl n 0 (rows.length+es.length) (rows.length+es.length),hw:=[(id,none),(n,some ⟨sz,rows.map imms++es.map imms⟩)],n':=n+1,acc:=[.wX id,.wX n] }:=by
 obtain⟨sb,hsrc,hsb⟩:=zRV hv h
 obtain rfl:=hsb he
 have hpos:0<es.length:=List.length_pos_iff.2 he
 have a0:¬rows.length+es.length≤rows.length:=by omega
 have a1:rows.length+es.length≤zCJ:=by unfold zCJ; omega
 have a2:(rows.length+es.length)*bytes≤zCJ:=by
  have:=Nat.mul_le_mul hl hb
  unfold zCJ; omega
 simp[zCK,hsrc,he,hs,hh,a1,a2,hpos,zOS]
theorem zIY (d:Nat){k:Nat}(hk:k≤1000) (H:PT HB) (n:Nat) :
  Fe (K DG (d+1) 192 [.imm .nils,.imm (.int .i64 k)] H n 0) (fun x H' n'=>AtC 2 x H' n' [] k):=by
 rw[kX 192 D.f192 rfl]
 refine zHy rfl ?_
 have w:IntKind.i64.wrap ((k:Int))=k:=zTW (by omega) (by omega)
 have w0:IntKind.i64.wrap 0=0:=by decide
 by_cases h0:k=0
 ·subst h0
  simp[w0,B6,B7]
  exact .inl ⟨rfl,rfl,rfl⟩
 ·have hj:ILt 0 (k:Int)=True:=zI3 (by omega)
  have a1:k≤zCJ:=by unfold zCJ; omega
  have a2:k*16≤zCJ:=by unfold zCJ; omega
  have a3:0<k:=by omega
  simp[w,w0,hj,a1,a2,a3,zQ7,B6,B7]
  exact .inr ⟨n,List.replicate k (imms [.int .i64 0,.bool false]),by omega,rfl,by simp[gP,imms],by simp⟩
def ICA (p q:IV) (a b:Nat) (i:Nat) (st:St):Prop:=st.T.get 0=some (.imm (.lst true 1 [[p],[q]]))∧st.T.get 9=some (.imm (.lst true 1 [[p],[q]]))∧st.T.get 10=some (.imm (.int .i64 2))∧st.T.get 11=some (.imm (.int .i64 i))∧
 st.T.get 3=some (.imm (.int .i64 (if i=0 then 0 else if i=1 then a else a+b:Nat)))∧st.H=.lf∧st.n=0
theorem zSt:(2:Nat)<LOOP:=by unfold LOOP; omega
variable {p q:IV} {ys:List (List IV)}
theorem zKa {d:Nat} {xs:List (List IV)}(hp:Sl 2 p xs) (hq:Sl 2 q ys) (hx:xs.length≤100) (hy:ys.length≤100){ks:List Kf}{st:St}{Q:Ex→St→Prop}(h:ICA p q xs.length ys.length 0 st)
  (hk:∀ st',ICA p q xs.length ys.length 2 st'→Bk DG (K DG d) 0 (.exit 0) ks st' Q) :
  Wp DG (K DG d) 0 D.l181_0 ks st Q:=by
 refine zGt (N:=2) zSt (ICA p q xs.length ys.length) (fun e st'=>e=.exit 0∧ICA p q xs.length ys.length 2 st') (fun i st hle hI=>?_) h (fun e s' h=>by rw[h.1]; exact hk s' h.2)
 obtain⟨h0,h9,h10,h11,h3,hH,hn⟩:=hI
 have pl:=hp.len
 have ql:=hq.len
 have w1:IntKind.i64.wrap (xs.length:Int)=xs.length:=zTW (by omega) (by omega)
 have w2:IntKind.i64.wrap ((xs.length:Int)+(ys.length:Int))=(xs.length:Int)+(ys.length:Int):=zTW (by omega) (by omega)
 have w3:IntKind.i64.wrap 1=1:=by decide
 have w4:IntKind.i64.wrap 2=2:=by decide
 have l02:ILt 0 2=True:=zI3 (by omega)
 have l12:ILt 1 2=True:=zI3 (by omega)
 have c1:ILt (xs.length:Int) 0=False:=zIz (by omega)
 have c2:ILt ((xs.length:Int)+(ys.length:Int)) 0=False:=zIz (by omega)
 rcases (show i=0∨i=1∨i=2 by omega) with rfl | rfl | rfl
 ·generalize hQ:(fun (e:Ex) (s':St)=>_)=Q'
  simp at h3
  simp only[D.l181_0b]
  simp[h0,h9,h10,h11,h3,hH,hn,pl,w1,w3,c1,l02,idxE,B6,B7]
  subst hQ
  simp[ICA,gP]
 ·generalize hQ:(fun (e:Ex) (s':St)=>_)=Q'
  simp at h3
  simp only[D.l181_0b]
  simp[h0,h9,h10,h11,h3,hH,hn,ql,w2,w4,c2,l12,idxE,B6,B7]
  subst hQ
  simp[ICA,gP]
 ·generalize hQ:(fun (e:Ex) (s':St)=>_)=Q'
  simp at h3
  simp only[D.l181_0b]
  simp[h0,h9,h10,h11,h3,hH,hn,B6,B7]
  subst hQ
  simp[ICA,gP]
def ICB (p q:IV) (xs ys:List (List IV)) (i:Nat) (st:St):Prop:=∃ x,st.T.get 6=some x∧st.T.get 25=some (.imm (.lst true 1 [[p],[q]]))∧st.T.get 26=some (.imm (.int .i64 2))∧st.T.get 27=some (.imm (.int .i64 i))∧
 AtC 2 x st.H st.n (if i=0 then [] else if i=1 then xs else xs++ys) (xs.length+ys.length)
theorem zKb {d:Nat} {xs:List (List IV)}(hp:Sl 2 p xs) (hq:Sl 2 q ys){ks:List Kf}{st:St}{Q:Ex→St→Prop}(h:ICB p q xs ys 0 st)
  (hk:∀ st',ICB p q xs ys 2 st'→Bk DG (K DG d) 0 (.exit 2) ks st' Q) :
  Wp DG (K DG d) 0 D.l181_1 ks st Q:=by
 refine zGt (N:=2) zSt (ICB p q xs ys) (fun e st'=>e=.exit 2∧ICB p q xs ys 2 st') (fun i st hle hI=>?_) h (fun e s' h=>by rw[h.1]; exact hk s' h.2)
 obtain⟨x,h6,h25,h26,h27,hat⟩:=hI
 have w3:IntKind.i64.wrap 1=1:=by decide
 have w4:IntKind.i64.wrap 2=2:=by decide
 have l02:ILt 0 2=True:=zI3 (by omega)
 have l12:ILt 1 2=True:=zI3 (by omega)
 rcases (show i=0∨i=1∨i=2 by omega) with rfl | rfl | rfl
 ·obtain⟨x',hw,acc,p1,p2⟩:=zCP (bytes:=16) hat (by omega) hp (by simp)
  generalize hQ:(fun (e:Ex) (s':St)=>_)=Q'
  simp only[D.l181_1b]
  simp[h6,h25,h26,h27,p1,w3,l02,idxE,B6,B7]
  subst hQ
  simp at p2
  simp
  exact⟨x',by simp[gP],by simp[gP],by simp[gP],by simp[gP],by simpa using p2⟩
 ·obtain⟨x',hw,acc,p1,p2⟩:=zCP (bytes:=16) hat (by omega) hq (by simp)
  generalize hQ:(fun (e:Ex) (s':St)=>_)=Q'
  simp only[D.l181_1b]
  simp[h6,h25,h26,h27,p1,w4,l12,idxE,B6,B7]
  subst hQ
  simp at p2
  simp
  exact⟨x',by simp[gP],by simp[gP],by simp[gP],by simp[gP],by simpa using p2⟩
 ·generalize hQ:(fun (e:Ex) (s':St)=>_)=Q'
  simp only[D.l181_1b]
  simp[h6,h25,h26,h27,B6,B7]
  subst hQ
  simp
  exact⟨x,by simp[gP],by simp[gP],by simp[gP],by simp[gP],by simpa using hat⟩
theorem zEl {D:Nat}(hD:2≤D) {xs:List (List IV)}(hp:Sl 2 p xs) (hq:Sl 2 q ys) (hx:xs.length≤100) (hy:ys.length≤100) :
  ∃ v,bl (K DG D) 181 [.imm (.lst true 1 [[p],[q]])]=some (.imm v)∧Sl 2 v (xs++ys):=by
 obtain⟨d,rfl⟩:∃ d,D=d+2:=⟨D - 2,by omega⟩
 have key:Fe (K DG (d+2) 181 [.imm (.lst true 1 [[p],[q]])] .lf 0 0) (fun x H n=>x.out=true∧AtC 2 x H n (xs++ys) (xs.length+ys.length)):=by
  rw[kX 181 D.f181 rfl]
  refine zHy rfl ?_
  simp[B6,B7]
  refine zKa hp hq hx hy ⟨by simp[gP],by simp[gP],by simp[gP],by simp[gP],by simp[gP],rfl,rfl⟩ ?_
  rintro st' ⟨h0,h9,h10,h11,h3,hH,hn⟩
  obtain⟨x,H1,n1,e1,hat⟩:=zIY d (k:=xs.length+ys.length) (by omega) .lf 0
  simp at h3
  rw[show ((xs.length+ys.length:Nat):Int)=(xs.length:Int)+(ys.length:Int) by omega] at e1
  simp[h0,h3,hH,hn,e1,B6,B7]
  refine zKb hp hq ⟨x,by simp[gP],by simp[gP,h0],by simp[gP],by simp[gP],by simpa using hat⟩ ?_
  rintro st2 ⟨x2,g6,g25,g26,g27,gat⟩
  simp at gat
  simp[g6,gat.out,B6,B7]
  exact gat
 obtain⟨x,H,n,e,ho,hat⟩:=key
 obtain⟨v,e2,hv⟩:=zIC hat
 exact⟨v,zDf e e2,hv⟩
def nd (r:Rt):List Need:=r.pts++r.flk
theorem zA1 {pts:List Pt}{xs:List Need}{path:List Int}{w:Bool}(h:NE pts xs path w):∀ i,i<xs.length→(i:Int)≤(nth xs i).pt:=by
 intro i
 induction i with
 | zero=>exact fun hi=>(h 0 hi).1.1
 | succ i ih=>
  intro hi
  have h1:=ih (by omega)
  have h2:=(h (i+1) hi).2.1 (by omega)
  simp at h2
  omega
theorem zAz {pts:List Pt}{xs:List Need}{path:List Int}{w:Bool}(h:NE pts xs path w):xs.length≤pts.length:=by
 by_cases h0:xs.length=0
 ·omega
 ·have h1:=zA1 h (xs.length - 1) (by omega)
  have h2:=(h (xs.length - 1) (by omega)).1.2
  omega
variable {l:Lo} {r:Nat}
theorem ISL.lq(h:ISL l)(hr:r<l.rts.length):(nth l.rts r).pts.length≤5:=Nat.le_trans (zAz (h.rr r hr).np) h.p2
theorem ISL.lf(h:ISL l)(hr:r<l.rts.length):(nth l.rts r).flk.length≤5:=Nat.le_trans (zAz (h.rr r hr).nf) h.p2
theorem zA8 {D:Nat}(hD:3≤D)(ok:LoOk l)(hr:r<l.rts.length) (hq:(nth l.rts r).pts.length≤100) (hf:(nth l.rts r).flk.length≤100) :
  ∃ v,bl (K DG D) 162 [l.dv,.imm (.int .i64 r)]=some (.imm v)∧Sl 2 v ((nd (nth l.rts r)).map ivN):=by
 obtain⟨d,rfl⟩:∃ d,D=d+1:=⟨D - 1,by omega⟩
 have rk:=ok.or _ (zMi hr)
 obtain⟨v,e,hv⟩:=zEl (D:=d) (by omega) rk.q rk.f (by simpa using hq) (by simpa using hf)
 refine⟨v,zDd ?_,by simpa [nd] using hv⟩
 rw[kX 162 D.f162 rfl]
 refine zHy rfl ?_
 have ix:=zIu ok.r (i:=r) (by omega)
 simp[ok.sc,rk.q.scal,rk.f.scal,ix,e,ivRt,zHG,zHH,lay,zS4,zS2,mapO,zPT,B6,B7]
end Go.Proofs.YtlknjgmhfimhbaaGreatDoor.D
namespace Go.Proofs.YtlknjgmhfimhbaaGreatDoor.D
open Go Go.PM Go.Lib
def NEq (a:Int) (b:Bool) (a':Int) (b':Bool):Prop:=a=a'∧b=b'
variable {a:Int} {b:Bool}
theorem zHB {a':Int} {b':Bool}:eqSt [.i,.b] [.imm (.int .i64 a),.imm (.bool b)] [.imm (.int .i64 a'),.imm (.bool b')]=some (dec (NEq a b a' b')):=by
 simp only[eqSt,eqSc,if_true]
 by_cases h:NEq a b a' b'
 ·rw[zFd h]; obtain⟨rfl,rfl⟩:=h; simp
 ·rw[zFX h]
  by_cases h1:a=a'
  ·have:¬b=b':=fun h2=>h ⟨h1,h2⟩
   simp[h1,this]
  ·simp[h1]
theorem zA4{x:Need}:NEq a b x.pt x.rev↔(⟨a,b⟩:Need)=x:=⟨fun h=>by cases x; obtain⟨rfl,rfl⟩:=h; rfl,fun h=>by subst h; exact⟨rfl,rfl⟩⟩
def IIN (v:IV) (a:Int) (b:Bool) (xs:List Need) (i:Nat) (st:St):Prop:=st.T.get 0=some (.imm v)∧Box st 3 [.int .i64 a,.bool b]∧st.T.get 7=some (.imm (.int .i64 xs.length))∧st.T.get 8=some (.imm (.int .i64 i))∧∀ j,j<i→(⟨a,b⟩:Need)≠nth xs j
variable {Q:Ex→St→Prop} {d:Nat} {ks:List Kf} {st:St} {v:IV}
theorem zK4{xs:List Need}(hv:Sl 2 v (xs.map ivN)) (hl:xs.length≤reachBytes)(h:IIN v a b xs 0 st)
  (hk:∀ e st',(e=.ret∧(∃ r:Nat,st'.T.get 4=some (.imm (.int .i64 r)))∧(⟨a,b⟩:Need)∈xs)∨(e=.exit 0∧(⟨a,b⟩:Need)∉xs)→Bk DG (K DG d) 0 e ks st' Q) :
  Wp DG (K DG d) 0 D.l182_0 ks st Q:=by
 refine zGt (N:=xs.length) (zRH hl) (IIN v a b xs) (fun e st'=>(e=.ret∧(∃ r:Nat,st'.T.get 4=some (.imm (.int .i64 r)))∧(⟨a,b⟩:Need)∈xs)∨(e=.exit 0∧(⟨a,b⟩:Need)∉xs)) (fun i st hle hI=>?_) h (fun e s' h=>hk e s' h)
 obtain⟨h0,⟨id,h3,hL⟩,h7,h8,hall⟩:=hI
 by_cases hi:i<xs.length
 ·have hi':(i:Int)<xs.length:=by omega
  have hj':=zI3 hi'
  have hw8:IntKind.i64.wrap ((i:Int)+1)=(i:Int)+1:=zTX hi hl
  have ix:=zIu hv hi'
  have yes:NEq a b (nth xs i).pt (nth xs i).rev→(⟨a,b⟩:Need)∈xs:=fun h=>zA4.1 h▸zMi hi
  have no:¬NEq a b (nth xs i).pt (nth xs i).rev→∀ j,j<i+1→(⟨a,b⟩:Need)≠nth xs j:=fun h j hj=>by
   rcases Nat.lt_or_eq_of_le (Nat.le_of_lt_succ hj) with hj | rfl
   ·exact hall j hj
   ·exact fun e=>h (zA4.2 e)
  generalize hQ:(fun (e:Ex) (s':St)=>_)=Q'
  simp only[D.l182_0b]
  simp +contextual (maxSteps:=2000000) [h0,h3,h7,h8,hL,hj',hw8,ix,ivN,zHB,B6,B7]
  subst hQ
  simp only[IIN]
  refine⟨fun a=>.inr ⟨by simp,.inl ⟨trivial,⟨i,by simp[gP]⟩,yes a⟩⟩,fun a=>.inl ⟨trivial,hi,by simp[gP],⟨id,by simp[gP],by simp[gP,imms]⟩,by simp[gP],by simp[gP],no a⟩⟩
 ·obtain rfl:i=xs.length:=by omega
  generalize hQ:(fun (e:Ex) (s':St)=>_)=Q'
  simp only[D.l182_0b]
  simp[h0,h3,h7,h8,hL,B6,B7]
  subst hQ
  simp
  intro hm
  obtain⟨j,hj,e⟩:=zL2 hm
  exact hall j hj e.symm
theorem zJC {D:Nat}(hD:1≤D){xs:List Need}(hv:Sl 2 v (xs.map ivN)) (hl:xs.length≤reachBytes) (a:Int) (b:Bool) :
  ∃ r:Int,bl (K DG D) 182 [.imm v,.agg [.imm (.int .i64 a),.imm (.bool b)]]=some (.imm (.int .i64 r))∧(0≤r↔(⟨a,b⟩:Need)∈xs):=by
 obtain⟨d,rfl⟩:∃ d,D=d+1:=⟨D - 1,by omega⟩
 have vl:=hv.len
 simp only[List.length_map] at vl
 have key:Fe (K DG (d+1) 182 [.imm v,.agg [.imm (.int .i64 a),.imm (.bool b)]] .lf 0 0) (fun x _ _=>∃ r:Int,x=.imm (.int .i64 r)∧(0≤r↔(⟨a,b⟩:Need)∈xs)):=by
  rw[kX 182 D.f182 rfl]
  refine zHy rfl ?_
  simp[vl,B6,B7]
  refine zK4 hv hl (a:=a) (b:=b) ⟨by simp[gP],⟨0,by simp[gP],by simp[gP,imms]⟩,by simp[gP],by simp[gP],fun j hj=>by omega⟩ ?_
  rintro e st' (⟨rfl,⟨r,h4⟩,hm⟩ | ⟨rfl,hm⟩)
  ·simp[h4,hm,B6,B7]
  ·simp[hm,B6,B7]
 obtain⟨x,H,n,e,r,rfl,hr⟩:=key
 exact⟨r,zDe e,hr⟩
theorem zEr {D:Nat}(hD:2≤D){xs:List Need}(hv:Sl 2 v (xs.map ivN)) (hl:xs.length≤reachBytes) (a:Int) (b:Bool) :
  bl (K DG D) 164 [.imm v,.agg [.imm (.int .i64 a),.imm (.bool b)]]=some (.imm (.bool (dec ((⟨a,b⟩:Need)∈xs)))):=by
 obtain⟨d,rfl⟩:∃ d,D=d+1:=⟨D - 1,by omega⟩
 obtain⟨r,e1,e2⟩:=zJC (D:=d) (by omega) hv hl a b
 refine zDd ?_
 rw[kX 164 D.f164 rfl]
 refine zHy rfl ?_
 rw[← zFV e2]
 simp[e1,B6,B7]
 rw[zFW,← zFW,← zFW]
 by_cases h:0≤r
 ·simp[h,zIz h]
 ·simp[h,zI3 (show r<0 by omega)]
def Says {α:Type}(d:Nat) (f:FuncId) (caps:List DV) (H:PT HB) (n0:Nat) (arg:α→DV) (P:α→Prop) (OK:α→Prop):Prop:=
 ∀ x,OK x→∀ n,n0≤n→∃ H1 n1,K DG d f (arg x::caps) H n n=some (.imm (.bool (dec (P x))),H1,n1)∧n≤n1
variable {H:PT HB} {caps:List DV} {f:FuncId} {n0:Nat}
theorem Says.all {α:Type}{arg:α→DV}{P OK:α→Prop}(h:Says d f caps H n0 arg P (fun _=>True)):Says d f caps H n0 arg P OK:=fun x _ n hn=>h x trivial n hn
def IIF {α:Type}[Inhabited α] (v:IV) (f:FuncId) (caps:List DV) (H:PT HB) (n0:Nat) (P:α→Prop) (xs:List α) (i:Nat) (st:St):Prop:=st.T.get 0=some (.imm v)∧st.T.get 1=some (.fnc f caps)∧st.T.get 7=some (.imm (.int .i64 xs.length))∧st.T.get 8=some (.imm (.int .i64 i))∧
 st.H=H∧n0≤st.n∧∀ j,j<i→¬P (nth xs j)
variable {zs:List Int}
theorem zK1{P:Int→Prop}(ho:DV.out.outs caps=true) (hs:Says d f caps H n0 (fun z:Int=>.imm (.int .i64 z)) P (fun z=>z∈zs)) (hv:Sl 1 v (zs.map ivI)) (hl:zs.length≤reachBytes){lo:Nat}(h:IIF v f caps H n0 P zs 0 st)
  (hk:∀ e st',n0≤st'.n→(e=.ret∧(∃ r:Nat,st'.T.get 4=some (.imm (.int .i64 r)))∧(∃ z∈zs,P z))∨(e=.exit 0∧¬∃ z∈zs,P z)→Bk DG (K DG d) lo e ks st' Q) :
  Wp DG (K DG d) lo D.l179_0 ks st Q:=by
 refine zGt (N:=zs.length) (zRH hl) (IIF v f caps H n0 P zs) (fun e st'=>n0≤st'.n∧((e=.ret∧(∃ r:Nat,st'.T.get 4=some (.imm (.int .i64 r)))∧(∃ z∈zs,P z))∨(e=.exit 0∧¬∃ z∈zs,P z))) (fun i st hle hI=>?_) h (fun e s' h=>hk e s' h.1 h.2)
 obtain⟨h0,h1,h7,h8,hH,hn,hall⟩:=hI
 by_cases hi:i<zs.length
 ·have hi':(i:Int)<zs.length:=by omega
  have hj':=zI3 hi'
  have hw8:IntKind.i64.wrap ((i:Int)+1)=(i:Int)+1:=zTX hi hl
  have ix:=zIu hv hi'
  obtain⟨H1,n1,e1,e2⟩:=hs (nth zs i) (zMi hi) st.n hn
  have no:¬P (nth zs i)→∀ j,j<i+1→¬P (nth zs j):=fun h j hj=>by
   rcases Nat.lt_or_eq_of_le (Nat.le_of_lt_succ hj) with hj | rfl
   ·exact hall j hj
   ·exact h
  generalize hQ:(fun (e:Ex) (s':St)=>_)=Q'
  simp only[D.l179_0b]
  simp +contextual (maxSteps:=2000000) [h0,h1,h7,h8,hH,hj',hw8,ix,ivI,ho,e1,B6,B7]
  subst hQ
  simp only[IIF]
  refine⟨fun a=>.inr ⟨by simp,by omega,.inl ⟨trivial,⟨i,by simp[gP]⟩,_,zMi hi,a⟩⟩,fun a=>.inl ⟨trivial,hi,by simp[gP],by simp[gP],by simp[gP],by simp[gP],trivial,by omega,no a⟩⟩
 ·obtain rfl:i=zs.length:=by omega
  generalize hQ:(fun (e:Ex) (s':St)=>_)=Q'
  simp only[D.l179_0b]
  simp[h0,h1,h7,h8,B6,B7]
  subst hQ
  simp
  refine⟨hn,fun z hm hp=>?_⟩
  obtain⟨j,hj,e⟩:=zL2 hm
  exact hall j hj (e▸hp)
variable {n:Nat}
theorem zJA{P:Int→Prop}(ho:DV.out.outs caps=true) (hs:Says d f caps H n (fun z:Int=>.imm (.int .i64 z)) P (fun z=>z∈zs)) (hv:Sl 1 v (zs.map ivI)) (hl:zs.length≤reachBytes) (lo:Nat) :
  Fe (K DG (d+1) 179 [.imm v,.fnc f caps] H n lo) (fun x _ n'=>n≤n'∧∃ r:Int,x=.imm (.int .i64 r)∧(0≤r↔∃ z∈zs,P z)):=by
 have vl:=hv.len
 simp only[List.length_map] at vl
 rw[kX 179 D.f179 rfl]
 refine zHy rfl ?_
 simp[vl,B6,B7]
 refine zK1 (P:=P) ho hs hv hl ⟨by simp[gP],by simp[gP],by simp[gP],by simp[gP],rfl,Nat.le_refl _,fun j hj=>by omega⟩ ?_
 rintro e st' hn (⟨rfl,⟨r,h4⟩,hm⟩ | ⟨rfl,hm⟩)
 ·simp[h4,hn,B6,B7]
  exact hm
 ·simp[hn,B6,B7]
  simpa using hm
theorem zEo{P:Int→Prop}(ho:DV.out.outs caps=true) (hs:Says d f caps H n (fun z:Int=>.imm (.int .i64 z)) P (fun z=>z∈zs)) (hv:Sl 1 v (zs.map ivI)) (hl:zs.length≤reachBytes) (lo:Nat) :
  Fe (K DG (d+2) 159 [.imm v,.fnc f caps] H n lo) (fun x _ n'=>n≤n'∧x=.imm (.bool (dec (∃ z∈zs,P z)))):=by
 obtain⟨x,H1,n1,e,hn,r,rfl,hr⟩:=zJA ho hs hv hl n
 rw[kX 159 D.f159 rfl]
 refine zHy rfl ?_
 rw[← zFV hr]
 simp[ho,e,B6,B7]
 refine⟨hn,?_⟩
 by_cases h:0≤r
 ·simp[h,zIz h,zFe]
 ·simp[h,zI3 (show r<0 by omega),zFY]
theorem zK3{P:Need→Prop}{xs:List Need}(ho:DV.out.outs caps=true) (hs:Says d f caps H n0 (fun x:Need=>.agg [.imm (.int .i64 x.pt),.imm (.bool x.rev)]) P (fun x=>x∈xs)) (hv:Sl 2 v (xs.map ivN)) (hl:xs.length≤reachBytes){lo:Nat}(h:IIF v f caps H n0 P xs 0 st)
  (hk:∀ e st',n0≤st'.n→(e=.ret∧(∃ r:Nat,st'.T.get 4=some (.imm (.int .i64 r)))∧(∃ x∈xs,P x))∨(e=.exit 0∧¬∃ x∈xs,P x)→Bk DG (K DG d) lo e ks st' Q) :
  Wp DG (K DG d) lo D.l180_0 ks st Q:=by
 refine zGt (N:=xs.length) (zRH hl) (IIF v f caps H n0 P xs) (fun e st'=>n0≤st'.n∧((e=.ret∧(∃ r:Nat,st'.T.get 4=some (.imm (.int .i64 r)))∧(∃ x∈xs,P x))∨(e=.exit 0∧¬∃ x∈xs,P x))) (fun i st hle hI=>?_) h (fun e s' h=>hk e s' h.1 h.2)
 obtain⟨h0,h1,h7,h8,hH,hn,hall⟩:=hI
 by_cases hi:i<xs.length
 ·have hi':(i:Int)<xs.length:=by omega
  have hj':=zI3 hi'
  have hw8:IntKind.i64.wrap ((i:Int)+1)=(i:Int)+1:=zTX hi hl
  have ix:=zIu hv hi'
  obtain⟨H1,n1,e1,e2⟩:=hs (nth xs i) (zMi hi) st.n hn
  have no:¬P (nth xs i)→∀ j,j<i+1→¬P (nth xs j):=fun h j hj=>by
   rcases Nat.lt_or_eq_of_le (Nat.le_of_lt_succ hj) with hj | rfl
   ·exact hall j hj
   ·exact h
  generalize hQ:(fun (e:Ex) (s':St)=>_)=Q'
  simp only[D.l180_0b]
  simp +contextual (maxSteps:=2000000) [h0,h1,h7,h8,hH,hj',hw8,ix,ivN,ho,e1,B6,B7]
  subst hQ
  simp only[IIF]
  refine⟨fun a=>.inr ⟨by simp,by omega,.inl ⟨trivial,⟨i,by simp[gP]⟩,_,zMi hi,a⟩⟩,fun a=>.inl ⟨trivial,hi,by simp[gP],by simp[gP],by simp[gP],by simp[gP],trivial,by omega,no a⟩⟩
 ·obtain rfl:i=xs.length:=by omega
  generalize hQ:(fun (e:Ex) (s':St)=>_)=Q'
  simp only[D.l180_0b]
  simp[h0,h1,h7,h8,B6,B7]
  subst hQ
  simp
  refine⟨hn,fun z hm hp=>?_⟩
  obtain⟨j,hj,e⟩:=zL2 hm
  exact hall j hj (e▸hp)
theorem zEp{P:Need→Prop}{xs:List Need}(ho:DV.out.outs caps=true) (hs:Says d f caps H n (fun x:Need=>.agg [.imm (.int .i64 x.pt),.imm (.bool x.rev)]) P (fun x=>x∈xs)) (hv:Sl 2 v (xs.map ivN)) (hl:xs.length≤reachBytes) (lo:Nat) :
  Fe (K DG (d+2) 161 [.imm v,.fnc f caps] H n lo) (fun x _ n'=>n≤n'∧x=.imm (.bool (dec (∃ x∈xs,P x)))):=by
 have key:Fe (K DG (d+1) 180 [.imm v,.fnc f caps] H n n) (fun x _ n'=>n≤n'∧∃ r:Int,x=.imm (.int .i64 r)∧(0≤r↔∃ x∈xs,P x)):=by
  have vl:=hv.len
  simp only[List.length_map] at vl
  rw[kX 180 D.f180 rfl]
  refine zHy rfl ?_
  simp[vl,B6,B7]
  refine zK3 (P:=P) ho hs hv hl ⟨by simp[gP],by simp[gP],by simp[gP],by simp[gP],rfl,Nat.le_refl _,fun j hj=>by omega⟩ ?_
  rintro e st' hn (⟨rfl,⟨r,h4⟩,hm⟩ | ⟨rfl,hm⟩)
  ·simp[h4,hn,B6,B7]
   exact hm
  ·simp[hn,B6,B7]
   simpa using hm
 obtain⟨x,H1,n1,e,hn,r,rfl,hr⟩:=key
 rw[kX 161 D.f161 rfl]
 refine zHy rfl ?_
 rw[← zFV hr]
 simp[ho,e,B6,B7]
 refine⟨hn,?_⟩
 by_cases h:0≤r
 ·simp[h,zIz h,zFe]
 ·simp[h,zI3 (show r<0 by omega),zFY]
def CF (l:Lo) (r s:Nat):Prop:=r=s∨(nth l.rts r).fr=(nth l.rts s).fr∨(∃ z∈(nth l.rts r).path,z∈(nth l.rts s).path)∨∃ x∈nd (nth l.rts r),(⟨x.pt,!x.rev⟩:Need)∈nd (nth l.rts s)
def Few (l:Lo):Prop:=∀ r,r<l.rts.length→(nth l.rts r).pts.length≤100∧(nth l.rts r).flk.length≤100
variable {l:Lo}
theorem ISL.few(h:ISL l):Few l:=fun r hr=>⟨by have:=h.lq hr; omega,by have:=h.lf hr; omega⟩
theorem zQM(hd:3≤d){r:Rt}(rk:RtOk r) {b:Nat}(hb:H.get b=some ⟨6,[imms (ivRt r)]⟩) :
  Says d 160 [.ptr b 0 0] H n0 (fun z:Int=>.imm (.int .i64 z)) (fun z=>z∈r.path) (fun _=>True):=fun z _ n hn=>by
 obtain⟨d,rfl⟩:∃ d',d=d'+1:=⟨d - 1,by omega⟩
 have hc:=zEq DG (D:=d) (by omega) rk.p rk.lp z
 rw[zFW] at hc
 have key:Fe (K DG (d+1) 160 [.imm (.int .i64 z),.ptr b 0 0] H n n) (fun x _ n'=>n≤n'∧x=.imm (.bool (dec (z∈r.path)))):=by
  rw[kX 160 D.f160 rfl]
  refine zHy rfl ?_
  simp[hb,hc,ivRt,B6,B7]
 obtain⟨x,H1,n1,e,h1,rfl⟩:=key
 exact⟨H1,n1,e,h1⟩
theorem zQN(hd:5≤d)(ok:LoOk l) (fw:Few l){s:Nat}(hs:s<l.rts.length) {a b:Nat}(ha:H.get a=some ⟨4,[imms l.ivs]⟩) (hb:H.get b=some ⟨1,[[.imm (.int .i64 s)]]⟩) :
  Says d 163 [.ptr a 0 0,.ptr b 0 0] H n0 (fun x:Need=>.agg [.imm (.int .i64 x.pt),.imm (.bool x.rev)]) (fun x=>(⟨x.pt,!x.rev⟩:Need)∈nd (nth l.rts s)) (fun _=>True):=fun x _ n hn=>by
 obtain⟨d,rfl⟩:∃ d',d=d'+1:=⟨d - 1,by omega⟩
 have hrb:=rb3
 obtain⟨v,e,hv⟩:=zA8 (D:=d) (by omega) ok hs (fw s hs).1 (fw s hs).2
 have hl:(nd (nth l.rts s)).length≤reachBytes:=by have:=fw s hs; simp[nd]; omega
 have hc:=zEr (D:=d) (by omega) hv hl x.pt (!x.rev)
 have key:Fe (K DG (d+1) 163 [.agg [.imm (.int .i64 x.pt),.imm (.bool x.rev)],.ptr a 0 0,.ptr b 0 0] H n n) (fun y _ n'=>n≤n'∧y=.imm (.bool (dec ((⟨x.pt,!x.rev⟩:Need)∈nd (nth l.rts s))))):=by
  rw[kX 163 D.f163 rfl]
  refine zHy rfl ?_
  simp[ha,hb,hc,e,zHG,lay,B6,B7]
 obtain⟨y,H1,n1,e,h1,rfl⟩:=key
 exact⟨H1,n1,e,h1⟩
theorem zAK {D:Nat}(hD:9≤D)(ok:LoOk l) (fw:Few l){r s:Nat}(hr:r<l.rts.length) (hs:s<l.rts.length) :
  bl (K DG D) 136 [l.dv,.imm (.int .i64 r),.imm (.int .i64 s)]=some (.imm (.bool (dec (CF l r s)))):=by
 obtain⟨d,rfl⟩:∃ d,D=d+3:=⟨D - 3,by omega⟩
 have hrb:=rb3
 have rk:=ok.or _ (zMi hr)
 have sk:=ok.or _ (zMi hs)
 have hr':(r:Int)<l.rts.length:=by omega
 have hs':(s:Int)<l.rts.length:=by omega
 have ix:=zIu ok.r hr'
 have iy:=zIu ok.r hs'
 obtain⟨vr,er,hvr⟩:=zA8 (D:=d+2) (by omega) ok hr (fw r hr).1 (fw r hr).2
 have hlr:(nd (nth l.rts r)).length≤reachBytes:=by have:=fw r hr; simp[nd]; omega
 refine zDd ?_
 rw[kX 136 D.f136 rfl]
 refine zHy rfl ?_
 simp[ok.sc,rk.p.scal,rk.q.scal,rk.f.scal,sk.p.scal,sk.q.scal,sk.f.scal,ix,iy,er,ivRt,B6,B7]
 generalize hHc:(PT.put (PT.put (PT.put (PT.put PT.lf 0 _) 1 _) 3 _) 3 _:PT HB)=Hc
 have g0:Hc.get 0=some ⟨4,[imms l.ivs]⟩:=by rw[← hHc]; simp[gP,imms]
 have g1:Hc.get 1=some ⟨1,[[.imm (.int .i64 s)]]⟩:=by rw[← hHc]; simp[gP]
 have g3:Hc.get 3=some ⟨6,[imms (ivRt (nth l.rts s))]⟩:=by rw[← hHc]; simp[gP,imms,ivRt]
 obtain⟨x1,H1,n1,e1,hn1,rfl⟩:=zEo (d:=d) (n:=4) rfl (Says.all (zQM (by omega) sk g3)) rk.p rk.lp 4
 obtain⟨x2,H2,n2,e2,hn2,rfl⟩:=zEp (d:=d) (n:=n1) rfl (Says.all (zQN (by omega) ok fw hs g0 g1)) hvr hlr n1
 have hct:CF l r s↔(r=s∨(nth l.rts r).fr=(nth l.rts s).fr∨(∃ z∈(nth l.rts r).path,z∈(nth l.rts s).path)∨∃ x∈nd (nth l.rts r),(⟨x.pt,!x.rev⟩:Need)∈nd (nth l.rts s)):=Iff.rfl
 rw[zFV hct]
 generalize (∃ z∈(nth l.rts r).path,z∈(nth l.rts s).path)=P1 at e1 ⊢
 generalize (∃ x∈nd (nth l.rts r),(⟨x.pt,!x.rev⟩:Need)∈nd (nth l.rts s))=P2 at e2 ⊢
 have i0:((r:Int)=(s:Int))=(r=s):=propext ⟨fun h=>by omega,fun h=>by omega⟩
 generalize hQ:Fin _ _=Q
 simp +contextual (maxSteps:=2000000) [e1,e2,er,g0,g1,g3,i0,ivRt,B6,B7]
 subst hQ
 simp +contextual [B6,B7]
end Go.Proofs.YtlknjgmhfimhbaaGreatDoor.D
namespace Go.Proofs.YtlknjgmhfimhbaaGreatDoor.D
open Go Go.PM Go.Lib
def Cl (sz:Nat) (x:DV) (H:PT HB) (n:Nat) (es:List (List IV)):Prop:=(x=.imm .nils∧es=[])∨(x=.imm (.lst true sz [])∧es=[])∨AtS sz x H n es
variable {es:List (List IV)}
theorem Cl.frz {sz:Nat}{x:DV}{H:PT HB}{n:Nat}(h:Cl sz x H n es):∃ v,PM.frz H.get 0 x=some (.imm v)∧Sl sz v es:=by
 rcases h with⟨rfl,rfl⟩ | ⟨rfl,rfl⟩ | h
 ·exact⟨_,rfl,.inl ⟨rfl,rfl⟩⟩
 ·exact⟨_,rfl,.inr ⟨_,rfl⟩⟩
 ·exact zIE h
variable {v:IV}
theorem zEa {D:Nat}(hD:1≤D)(hv:Sl 1 v es) (hl:es.length≤2 ^ 25):∃ v',bl (K DG D) 117 [.imm v]=some (.imm v')∧Sl 1 v' es:=by
 obtain⟨d,rfl⟩:∃ d,D=d+1:=⟨D - 1,by omega⟩
 have hv0:=hv
 have key:Fe (K DG (d+1) 117 [.imm v] .lf 0 0) (fun x H n=>Cl 1 x H n es):=by
  rw[kX 117 D.f117 rfl]
  refine zHy rfl ?_
  rcases hv with⟨rfl,rfl⟩ | ⟨f,rfl⟩
  ·simp[B6,B7]
   exact .inl ⟨rfl,rfl⟩
  ·by_cases he:es=[]
   ·have p1:=fun {h:Nat→Option HB}{n:Nat}{x:DV} hx=>zCX (bytes:=16) (h:=h) (n:=n) (x:=x) hx (he▸hv0)
    subst he
    simp[p1,zHH,lay,zS4,zS2,mapO,zPT,B6,B7]
    exact .inr (.inl ⟨rfl,rfl⟩)
   ·have p1:=fun {h:Nat→Option HB}{n:Nat}=>zCW (bytes:=16) (h:=h) (n:=n) hv0 he (by omega) hl (by omega)
    simp[p1,zHH,lay,zS4,zS2,mapO,zPT,B6,B7]
    exact .inr (.inr (.inr ⟨_,by omega,rfl,by simp[gP]⟩))
 obtain⟨x,H,n,e,hc⟩:=key
 obtain⟨v',e2,h2⟩:=hc.frz
 exact⟨v',zDf e e2,h2⟩
theorem zEX {D:Nat}(hD:1≤D)(hv:Sl 2 v es) (hl:es.length≤2 ^ 25):∃ v',bl (K DG D) 118 [.imm v]=some (.imm v')∧Sl 2 v' es:=by
 obtain⟨d,rfl⟩:∃ d,D=d+1:=⟨D - 1,by omega⟩
 have hv0:=hv
 have key:Fe (K DG (d+1) 118 [.imm v] .lf 0 0) (fun x H n=>Cl 2 x H n es):=by
  rw[kX 118 D.f118 rfl]
  refine zHy rfl ?_
  rcases hv with⟨rfl,rfl⟩ | ⟨f,rfl⟩
  ·simp[B6,B7]
   exact .inl ⟨rfl,rfl⟩
  ·by_cases he:es=[]
   ·have p1:=fun {h:Nat→Option HB}{n:Nat}{x:DV} hx=>zCX (bytes:=24) (h:=h) (n:=n) (x:=x) hx (he▸hv0)
    subst he
    simp[p1,zHH,lay,zS4,zS2,mapO,zPT,B6,B7]
    exact .inr (.inl ⟨rfl,rfl⟩)
   ·have p1:=fun {h:Nat→Option HB}{n:Nat}=>zCW (bytes:=24) (h:=h) (n:=n) hv0 he (by omega) hl (by omega)
    simp[p1,zHH,lay,zS4,zS2,mapO,zPT,B6,B7]
    exact .inr (.inr (.inr ⟨_,by omega,rfl,by simp[gP]⟩))
 obtain⟨x,H,n,e,hc⟩:=key
 obtain⟨v',e2,h2⟩:=hc.frz
 exact⟨v',zDf e e2,h2⟩
theorem zEV {D:Nat}(hD:1≤D)(hv:Sl 1 v es) (hl:es.length≤2 ^ 25):∃ v',bl (K DG D) 120 [.imm v]=some (.imm v')∧Sl 1 v' es:=by
 obtain⟨d,rfl⟩:∃ d,D=d+1:=⟨D - 1,by omega⟩
 have hv0:=hv
 have key:Fe (K DG (d+1) 120 [.imm v] .lf 0 0) (fun x H n=>Cl 1 x H n es):=by
  rw[kX 120 D.f120 rfl]
  refine zHy rfl ?_
  rcases hv with⟨rfl,rfl⟩ | ⟨f,rfl⟩
  ·simp[B6,B7]
   exact .inl ⟨rfl,rfl⟩
  ·by_cases he:es=[]
   ·have p1:=fun {h:Nat→Option HB}{n:Nat}{x:DV} hx=>zCX (bytes:=8) (h:=h) (n:=n) (x:=x) hx (he▸hv0)
    subst he
    simp[p1,zHH,lay,zS4,zS2,mapO,zPT,B6,B7]
    exact .inr (.inl ⟨rfl,rfl⟩)
   ·have p1:=fun {h:Nat→Option HB}{n:Nat}=>zCW (bytes:=8) (h:=h) (n:=n) hv0 he (by omega) hl (by omega)
    simp[p1,zHH,lay,zS4,zS2,mapO,zPT,B6,B7]
    exact .inr (.inr (.inr ⟨_,by omega,rfl,by simp[gP]⟩))
 obtain⟨x,H,n,e,hc⟩:=key
 obtain⟨v',e2,h2⟩:=hc.frz
 exact⟨v',zDf e e2,h2⟩
theorem zEW {D:Nat}(hD:1≤D)(hv:Sl 2 v es) (hl:es.length≤2 ^ 25):∃ v',bl (K DG D) 121 [.imm v]=some (.imm v')∧Sl 2 v' es:=by
 obtain⟨d,rfl⟩:∃ d,D=d+1:=⟨D - 1,by omega⟩
 have hv0:=hv
 have key:Fe (K DG (d+1) 121 [.imm v] .lf 0 0) (fun x H n=>Cl 2 x H n es):=by
  rw[kX 121 D.f121 rfl]
  refine zHy rfl ?_
  rcases hv with⟨rfl,rfl⟩ | ⟨f,rfl⟩
  ·simp[B6,B7]
   exact .inl ⟨rfl,rfl⟩
  ·by_cases he:es=[]
   ·have p1:=fun {h:Nat→Option HB}{n:Nat}{x:DV} hx=>zCX (bytes:=16) (h:=h) (n:=n) (x:=x) hx (he▸hv0)
    subst he
    simp[p1,zHH,lay,zS4,zS2,mapO,zPT,B6,B7]
    exact .inr (.inl ⟨rfl,rfl⟩)
   ·have p1:=fun {h:Nat→Option HB}{n:Nat}=>zCW (bytes:=16) (h:=h) (n:=n) hv0 he (by omega) hl (by omega)
    simp[p1,zHH,lay,zS4,zS2,mapO,zPT,B6,B7]
    exact .inr (.inr (.inr ⟨_,by omega,rfl,by simp[gP]⟩))
 obtain⟨x,H,n,e,hc⟩:=key
 obtain⟨v',e2,h2⟩:=hc.frz
 exact⟨v',zDf e e2,h2⟩
theorem zEZ {d:Nat}(hv:Sl 6 v es) (hl:es.length≤2 ^ 25) (H:PT HB) (n:Nat) :
  Fe (K DG (d+1) 119 [.imm v] H n 0) (fun x H' n'=>n≤n'∧((es=[]∧H'=H∧∃ u,x=.imm u∧Sl 6 u [])∨(es≠[]∧x=.sl n 0 es.length es.length∧H'=H.put n (some ⟨6,es.map imms⟩)∧n'=n+1))):=by
 have hv0:=hv
 rw[kX 119 D.f119 rfl]
 refine zHy rfl ?_
 rcases hv with⟨rfl,rfl⟩ | ⟨f,rfl⟩
 ·simp[B6,B7]
  exact .inl ⟨rfl,rfl⟩
 ·by_cases he:es=[]
  ·have p1:=fun {h:Nat→Option HB}{n:Nat}{x:DV} hx=>zCX (bytes:=104) (h:=h) (n:=n) (x:=x) hx (he▸hv0)
   subst he
   simp[p1,zHH,lay,zS4,zS2,mapO,zPT,B6,B7]
   exact .inr ⟨_,rfl⟩
  ·have p1:=fun {h:Nat→Option HB}{n:Nat}=>zCW (bytes:=104) (h:=h) (n:=n) hv0 he (by omega) hl (by omega)
   simp[p1,he,zHH,lay,zS4,zS2,mapO,zPT,B6,B7]
end Go.Proofs.YtlknjgmhfimhbaaGreatDoor.D
namespace Go.Proofs.YtlknjgmhfimhbaaGreatDoor.D
open Go Go.PM Go.Lib
structure RtEq (r r':Rt):Prop where
 name:r'.name=r.name
 fr:r'.fr=r.fr
 to:r'.to=r.to
 path:r'.path=r.path
 pts:r'.pts=r.pts
 flk:r'.flk=r.flk
structure LoEq (l l':Lo):Prop where
 secs:l'.secs=l.secs
 pts:l'.pts=l.pts
 sigs:l'.sigs=l.sigs
 len:l'.rts.length=l.rts.length
 rts:∀ i,i<l.rts.length→RtEq (nth l.rts i) (nth l'.rts i)
variable {l l':Lo}
theorem RtEq.rt(e:LoEq l l'){r r':Rt}(h:RtEq r r') (hr:RT l r):RT l' r':=by
 obtain⟨h1,h2,h3,h4,h5,h6⟩:=h
 obtain⟨e1,e2,e3,e4,_⟩:=e
 refine⟨?_,?_,?_,?_,?_,?_,?_,?_,?_⟩
 ·rw[h2,e3]; exact hr.fr
 ·rw[h3,e3]; exact hr.to
 ·rw[h2,h3]; exact hr.ne
 ·rw[e1,h4]; exact hr.pa
 ·rw[h4]; exact hr.p1
 ·rw[h4]; exact hr.p5
 ·rw[e2,h4,h5]; exact hr.np
 ·rw[e2,h4,h6]; exact hr.nf
 ·rw[e2,h4,h5]; exact hr.ct
theorem zLy {α β:Type}[Inhabited α] {f:α→β}{xs ys:List α}(hl:ys.length=xs.length) (h:∀ i,i<xs.length→f (nth ys i)=f (nth xs i)):ys.map f=xs.map f:=by
 apply List.ext_getElem?
 intro i
 rw[List.getElem?_map,List.getElem?_map]
 by_cases hi:i<xs.length
 ·rw[zMh hi,zMh (hl▸hi)]
  simp[h i hi]
 ·rw[List.getElem?_eq_none (by omega),List.getElem?_eq_none (by omega)]
theorem LoEq.is(e:LoEq l l') (h:ISL l):ISL l':=by
 have e0:=e
 obtain⟨e1,e2,e3,e4,e5⟩:=e
 refine⟨by rw[e1]; exact h.s1,by rw[e1]; exact h.s2,by rw[e3]; exact h.g1,by rw[e3]; exact h.g2,by rw[e2]; exact h.p2,by rw[e4]; exact h.r2,?_,by rw[e1]; exact h.ns,by rw[e3]; exact h.ng,?_,?_,?_⟩
 ·rw[e2,e1]; exact h.ps
 ·have:pn l'=pn l:=by simp[pn,e2]
  rw[this]; exact h.np
 ·have:rn l'=rn l:=zLy e4 fun i hi=>(e5 i hi).name
  rw[this]; exact h.nr
 ·rw[e4]
  exact fun i hi=>(e5 i hi).rt e0 (h.rr i hi)
theorem LoEq.cf(e:LoEq l l'){r s:Nat}(hr:r<l.rts.length) (hs:s<l.rts.length):CF l' r s=CF l r s:=by
 have a:=e.rts r hr
 have b:=e.rts s hs
 simp only[CF,nd,a.fr,b.fr,a.path,b.path,a.pts,b.pts,a.flk,b.flk]
def BoxD (st:St) (k:Nat) (vs:List DV):Prop:=∃ id,st.T.get k=some (.lref k id 0)∧st.L.get k=some (.box id vs)
structure ICo (sv pv gv:IV) (l:Lo) (id k:Nat) (i:Nat) (news:List Rt) (st:St):Prop where
 b1:BoxD st 1 [.imm sv,.imm pv,.imm gv,.sl id 0 k k]
 b2:BoxD st 2 [.imm .nils,.imm .nils,.imm .nils,.imm .nils]
 h22:st.T.get 22=some (.sl id 0 k k)
 h23:st.T.get 23=some (.imm (.int .i64 k))
 h24:st.T.get 24=some (.imm (.int .i64 i))
 hh:st.H.get id=some ⟨6,((news++l.rts.drop i).map ivRt).map imms⟩
 nl:news.length=i
 ok:∀ j,j<i→RtEq (nth l.rts j) (nth news j)∧RtOk (nth news j)
theorem zGh {α:Type}[Inhabited α] {xs:List α}{i:Nat}(h:i<xs.length):xs.drop i=nth xs i::xs.drop (i+1):=by
 rw[List.drop_eq_getElem_cons h]
 congr 1
 have:=zMh h
 rw[List.getElem?_eq_getElem h] at this
 exact Option.some.inj this
theorem zMf {α:Type}[Inhabited α] {xs ys:List α}{i:Nat}(h:i<xs.length):nth (xs++ys) i=nth xs i:=by
 have h1:i<(xs++ys).length:=by simp; omega
 have a:=zMh h1
 rw[List.getElem?_append_left h,zMh h] at a
 exact (Option.some.inj a).symm
theorem zMg {α:Type}[Inhabited α] {xs:List α}{y:α}:nth (xs++[y]) xs.length=y:=by simp[nth]
theorem zKf {d:Nat}(hd:1≤d){sv pv gv:IV}(ok:LoOk l) (fw:Few l) (hp:∀ r,r<l.rts.length→(nth l.rts r).path.length≤100){id k:Nat}(hk:k=l.rts.length) (k6:k≤1000){ks:List Kf}{st:St}{Q:Ex→St→Prop}(h:ICo sv pv gv l id k 0 [] st)
  (hq:∀ st' news,ICo sv pv gv l id k k news st'→Bk DG (K DG d) 0 (.exit 0) ks st' Q):Wp DG (K DG d) 0 D.l79_0 ks st Q:=by
 have hrb:=rb3
 refine zGt (N:=k) (zRH (by omega)) (fun i st=>∃ news,ICo sv pv gv l id k i news st) (fun e st'=>e=.exit 0∧∃ news,ICo sv pv gv l id k k news st') (fun i st hle hI=>?_) ⟨[],h⟩ (fun e s' h=>by obtain⟨rfl,news,h⟩:=h; exact hq s' news h)
 obtain⟨news,⟨i1,h1,L1⟩,⟨i2,h2,L2⟩,h22,h23,h24,hh,nl,hok⟩:=hI
 by_cases hi:i<k
 ·have hi1:(i:Int)<k:=by omega
  have hi':=zI3 hi1
  have hw8:IntKind.i64.wrap ((i:Int)+1)=(i:Int)+1:=zTX hi (by omega)
  have hil:i<l.rts.length:=by omega
  have rk:=ok.or _ (zMi hil)
  obtain⟨p',ep,sp⟩:=zEV (D:=d) hd rk.p (by have:=hp i hil; simp; omega)
  obtain⟨q',eq',sq⟩:=zEW (D:=d) hd rk.q (by have:=fw i hil; simp; omega)
  obtain⟨f',ef,sf⟩:=zEW (D:=d) hd rk.f (by have:=fw i hil; simp; omega)
  have e0:((news++l.rts.drop i).map ivRt).map imms=(news.map ivRt).map imms++imms (ivRt (nth l.rts i))::((l.rts.drop (i+1)).map ivRt).map imms:=by rw[zGh hil]; simp
  have hln:((news.map ivRt).map imms).length=i:=by simp[nl]
  generalize hr:((news++l.rts.drop i).map ivRt).map imms=rows at hh e0
  have hrow:rows[i]?=some (imms (ivRt (nth l.rts i))):=by rw[e0,← hln]; simp
  have iy:=fun {n:Nat}=>zIs (h:=st.H.get) (n:=n) (id:=id) (row:=0) (len:=k) (cap:=k) hh rfl (k:=.i64) (z:=(i:Int)) (by omega) hi1
  have hlt:i<rows.length:=by rw[e0]; simp[nl]
  have hset:rows.set i (imms (ivRt { nth l.rts i with pv:=p',qv:=q',fv:=f' }))=((news++[{ nth l.rts i with pv:=p',qv:=q',fv:=f' }]++l.rts.drop (i+1)).map ivRt).map imms:=by
   rw[e0,← hln]; simp
  simp only[ivRt,imms,List.map_cons,List.map_nil,Int.toNat_natCast,Nat.zero_add] at hrow hset iy
  generalize hQ:(fun (e:Ex) (s':St)=>_)=Q'
  simp only[D.l79_0b]
  simp[h1,h2,L1,L2,h22,h23,h24,hi',hw8,iy,hh,hrow,ep,eq',ef,rk.p.scal,rk.q.scal,rk.f.scal,sp.scal,sq.scal,sf.scal,B6,B7]
  subst hQ
  refine .inl ⟨rfl,hi,news++[{ nth l.rts i with pv:=p',qv:=q',fv:=f' }],⟨i1,by simp[gP],by simp[gP]⟩,⟨i2,by simp[gP],by simp[gP]⟩,by simp[gP],by simp[gP],by simp[gP],?_,by simp[nl],fun j hj=>?_⟩
  ·simp only[gP,if_true]
   rw[hset]
  ·rcases Nat.lt_or_eq_of_le (Nat.le_of_lt_succ hj) with hj | rfl
   ·rw[zMf (by omega)]; exact hok j hj
   ·subst nl
    rw[zMg]
    exact⟨⟨rfl,rfl,rfl,rfl,rfl,rfl⟩,⟨sp,sq,sf,rk.ln,rk.lp,rk.lq,rk.lf⟩⟩
 ·obtain rfl:i=k:=by omega
  generalize hQ:(fun (e:Ex) (s':St)=>_)=Q'
  simp only[D.l79_0b]
  simp[h1,h2,L1,L2,h22,h23,h24,B6,B7]
  subst hQ
  exact .inr ⟨nofun,rfl,news,⟨i1,by simp[gP,h1],by simp[gP,L1]⟩,⟨i2,by simp[gP,h2],by simp[gP,L2]⟩,by simp[gP],by simp[gP],by simp[gP],hh,nl,hok⟩
theorem zEt {D:Nat}(hD:2≤D)(ok:LoOk l) (is:ISL l):∃ l',bl (K DG D) 79 [l.dv]=some l'.dv∧LoOk l'∧LoEq l l':=by
 obtain⟨d,rfl⟩:∃ d,D=d+2:=⟨D - 2,by omega⟩
 have hrb:=rb3
 have r6:=is.r2
 obtain⟨sv,es,ss⟩:=zEa (D:=d+1) (by omega) ok.s (by have:=is.s2; simp; omega)
 obtain⟨pv,ep,sp⟩:=zEX (D:=d+1) (by omega) ok.p (by have:=is.p2; simp; omega)
 obtain⟨gv,eg,sg⟩:=zEa (D:=d+1) (by omega) ok.g (by have:=is.g2; simp; omega)
 obtain⟨x,H1,n1,e1,hn1,hx⟩:=zEZ (d:=d) ok.r (by simp; omega) .lf 2
 have key:Fe (K DG (d+2) 79 [l.dv] .lf 0 0) (fun v H n=>(∃ u,v=.agg [.imm sv,.imm pv,.imm gv,.imm u]∧Sl 6 u []∧l.rts=[])∨
   ∃ id news,v=.agg [.imm sv,.imm pv,.imm gv,.sl id 0 l.rts.length l.rts.length]∧H.get id=some ⟨6,(news.map ivRt).map imms⟩∧news.length=l.rts.length∧∀ j,j<l.rts.length→RtEq (nth l.rts j) (nth news j)∧RtOk (nth news j)):=by
  rw[kX 79 D.f79 rfl]
  refine zHy rfl ?_
  rcases hx with⟨h0,rfl,u,rfl,hu⟩ | ⟨h0,rfl,rfl,rfl⟩
  ·have hr0:l.rts=[]:=by simpa using h0
   have ul:=hu.len
   obtain⟨k,hL⟩:∃ k,LOOP=k+1:=⟨2 ^ 62 - 1,rfl⟩
   have l0:ILt 0 0=False:=zIz (by omega)
   simp[ok.sc,ss.scal,sp.scal,sg.scal,hu.scal,es,ep,eg,e1,ul,B6,B7]
   refine zGt (N:=0) (by unfold LOOP; omega) (fun i st=>BoxD st 1 [.imm sv,.imm pv,.imm gv,.imm u]∧BoxD st 2 [.imm .nils,.imm .nils,.imm .nils,.imm .nils]∧st.T.get 23=some (.imm (.int .i64 0))∧st.T.get 24=some (.imm (.int .i64 0))) (fun e st=>e=.exit 0∧BoxD st 1 [.imm sv,.imm pv,.imm gv,.imm u]∧BoxD st 2 [.imm .nils,.imm .nils,.imm .nils,.imm .nils]) (fun i st hle hI=>?_) ⟨⟨0,by simp[gP],by simp[gP]⟩,⟨1,by simp[gP],by simp[gP,imms]⟩,by simp[gP],by simp[gP]⟩ ?_
   ·obtain⟨⟨i1,h1,L1⟩,⟨i2,h2,L2⟩,h23,h24⟩:=hI
    generalize hQ:(fun (e:Ex) (s':St)=>_)=Q'
    simp only[D.l79_0b]
    simp[h1,h2,L1,L2,h23,h24,l0,B6,B7]
    subst hQ
    exact .inr ⟨nofun,rfl,⟨i1,by simp[gP,h1],by simp[gP,L1]⟩,⟨i2,by simp[gP,h2],by simp[gP,L2]⟩⟩
   ·rintro e st' ⟨rfl,⟨i1,h1,L1⟩,⟨i2,h2,L2⟩⟩
    simp[h1,h2,L1,L2,ss.scal,sp.scal,sg.scal,hu.scal,B6,B7]
    exact⟨hu,hr0⟩
  ·have fw:=is.few
   simp[ok.sc,ss.scal,sp.scal,sg.scal,es,ep,eg,e1,B6,B7]
   refine zKf (sv:=sv) (pv:=pv) (gv:=gv) (l:=l) (id:=2) (k:=l.rts.length) (by omega) ok fw (fun r hr=>by have:=(is.rr r hr).p5; omega) rfl (by omega) ⟨⟨0,by simp[gP],by simp[gP]⟩,⟨1,by simp[gP],by simp[gP,imms]⟩,by simp[gP],by simp[gP],by simp[gP],by simp[gP],rfl,fun j hj=>by omega⟩ ?_
   rintro st' news ⟨⟨i1,h1,L1⟩,⟨i2,h2,L2⟩,h22,h23,h24,hh,nl,hok⟩
   simp[h1,h2,L1,L2,ss.scal,sp.scal,sg.scal,B6,B7]
   refine⟨news,?_,nl,hok⟩
   rw[hh]; simp
 obtain⟨v,H,n,e,hv⟩:=key
 rcases hv with⟨u,rfl,hu,h0⟩ | ⟨id,news,rfl,hh,nl,hok⟩
 ·refine⟨⟨sv,pv,gv,u,l.secs,l.pts,l.sigs,l.rts⟩,zDf e rfl,⟨ss,sp,sg,by rw[h0]; exact hu,ok.ls,ok.lp,ok.lg,ok.lr,ok.os,ok.op,ok.og,ok.or⟩,⟨rfl,rfl,rfl,rfl,fun i hi=>⟨rfl,rfl,rfl,rfl,rfl,rfl⟩⟩⟩
 ·refine⟨⟨sv,pv,gv,.lst false 6 (news.map ivRt),l.secs,l.pts,l.sigs,news⟩,zDf e ?_,⟨ss,sp,sg,.inr ⟨_,rfl⟩,ok.ls,ok.lp,ok.lg,by rw[nl]; exact ok.lr,ok.os,ok.op,ok.og,fun x hx=>?_⟩,⟨rfl,rfl,rfl,nl,fun i hi=>(hok i hi).1⟩⟩
  ·have hf:frzI H.get 0 zH8 (.sl id 0 l.rts.length l.rts.length)=some (.lst false 6 (news.map ivRt)):=by
    show (if 0≤id then _ else _)=_
    rw[if_pos (Nat.zero_le _)]
    simp only[hh]
    rw[if_pos (by simp[nl])]
    simp only[List.drop_zero]
    rw[List.take_of_length_le (by simp[nl]),zLp]
    rfl
   have hz:frz H.get 0 (.sl id 0 l.rts.length l.rts.length)=some (.imm (.lst false 6 (news.map ivRt))):=by
    have hz0:frz H.get 0 (.sl id 0 l.rts.length l.rts.length)=if id<0 then some (.sl id 0 l.rts.length l.rts.length) else (frzI H.get 0 zH8 (.sl id 0 l.rts.length l.rts.length)).map .imm:=rfl
    rw[hz0,if_neg (Nat.not_lt_zero _),hf]
    rfl
   show (frz.frzs H.get 0 _).map DV.agg=_
   simp only[frz.frzs,hz]
   rfl
  ·obtain⟨j,hj,rfl⟩:=zL2 hx
   have hj':j<news.length:=hj
   exact (hok j (by omega)).2
end Go.Proofs.YtlknjgmhfimhbaaGreatDoor.D
namespace Go.Proofs.YtlknjgmhfimhbaaGreatDoor.D
open Go Go.PM Go.Lib
structure Rst where
 mode:Int
 timer:Int
 gone:Int
 seen:Bool
 deriving Inhabited
abbrev zPS (x:Rst):List DV:=[.imm (.int .i64 x.mode),.imm (.int .i64 x.timer),.imm (.int .i64 x.gone),.imm (.bool x.seen)]
def RsAt (H:PT HB) (x:DV) (own:List Nat) (rs:List Rst):Prop:=(rs=[]∧own=[]∧∃ v,x=.imm v∧Sl 4 v [])∨∃ id,own=[id]∧x=.sl id 0 rs.length rs.length∧H.get id=some ⟨4,rs.map zPS⟩
def LkAt (H:PT HB) (p:Nat) (own:List Nat) (l:Lo) (rs:List Rst):Prop:=∃ x,H.get p=some ⟨5,[[.imm l.sv,.imm l.pv,.imm l.gv,.imm l.rv,x]]⟩∧RsAt H x own rs∧p∉own∧rs.length=l.rts.length
variable {H:PT HB}
theorem RsAt.mono {H':PT HB}{x:DV}{own:List Nat}{rs:List Rst}(h:RsAt H x own rs) (hf:∀ i∈own,H'.get i=H.get i):RsAt H' x own rs:=by
 rcases h with h | ⟨id,rfl,h1,h2⟩
 ·exact .inl h
 ·exact .inr ⟨id,rfl,h1,by rw[hf id (by simp)]; exact h2⟩
variable {l:Lo}
theorem LkAt.mono {H':PT HB}{p:Nat}{own:List Nat}{rs:List Rst}(h:LkAt H p own l rs) (hf:∀ i∈p::own,H'.get i=H.get i):LkAt H' p own l rs:=by
 obtain⟨x,h1,h2,h3,h4⟩:=h
 exact⟨x,by rw[hf p (by simp)]; exact h1,h2.mono fun i hi=>hf i (by simp[hi]),h3,h4⟩
abbrev rs0:Rst:=⟨0,0,0,false⟩
variable {d:Nat}
theorem zAs(hd:2≤d)(ok:LoOk l) (is:ISL l) (e1:bl (K DG d) 78 [l.dv]=some (.imm (.bool true))) (H:PT HB) (n:Nat) :
  Fe (K DG (d+1) 37 [l.dv] H n 0) (fun v H' n'=>∃ p own l',v=.tup [.ptr p 0 0,.imm (.int .i64 0)]∧LoOk l'∧LoEq l l'∧LkAt H' p own l' (List.replicate l.rts.length rs0)∧(∀ i∈p::own,n≤i∧i<n')∧∀ j,j<n→H'.get j=H.get j):=by
 obtain⟨l',e2,ok',eq⟩:=zEt (D:=d) (by omega) ok is
 have rl:=ok.r.len
 simp only[List.length_map] at rl
 have r6:=is.r2
 have a1:l.rts.length≤zCJ:=by unfold zCJ; omega
 have a2:l.rts.length*32≤zCJ:=by unfold zCJ; omega
 rw[kX 37 D.f37 rfl]
 refine zHy rfl ?_
 have b1:¬n+2=n+1:=by omega
 have b2:¬n+1=n+2:=by omega
 simp[ok.sc,ok'.s.scal,ok'.p.scal,ok'.g.scal,ok'.r.scal,e1,e2,rl,a1,a2,zHG,lay,B6,B7]
 refine⟨[n+1],l',ok',eq,⟨_,by simp[gP],.inr ⟨n+1,rfl,rfl,?_⟩,by simp,by simp[eq.len]⟩,?_,fun j hj=>?_⟩
 ·simp[gP,imms]
 ·simp
  omega
 ·have c1:¬j=n+1:=by omega
  have c2:¬j=n+2:=by omega
  have c3:¬j=n+1+1:=by omega
  simp[gP,c1,c2,c3]
theorem zAu(hd:6≤d)(ok:LoOk l) (is:ISL l) (H:PT HB) (n:Nat) :
  Fe (K DG (d+1) 37 [l.dv] H n 0) (fun v H' n'=>∃ p own l',v=.tup [.ptr p 0 0,.imm (.int .i64 0)]∧LoOk l'∧LoEq l l'∧LkAt H' p own l' (List.replicate l.rts.length rs0)∧(∀ i∈p::own,n≤i∧i<n')∧∀ j,j<n→H'.get j=H.get j):=by
 have e1:=zAp (D:=d) (by omega) ok
 rw[zFd is] at e1
 exact zAs (by omega) ok is e1 H n
def ivB1 (b:Bool):List IV:=[.bool b]
structure InOk (ov lv:IV) (os:List Bool) (ls:List Int):Prop where
 o:Sl 1 ov (os.map ivB1)
 l:Sl 1 lv (ls.map ivI)
 lo:os.length≤reachBytes
 ll:ls.length≤reachBytes
theorem InOk.sc {ov lv:IV} {os:List Bool} {ls:List Int} (io:InOk ov lv os ls):(DV.imm ov).scal=true∧(DV.imm lv).scal=true:=⟨io.o.scal,io.l.scal⟩
abbrev inD (ov lv:IV):DV:=.agg [.imm ov,.imm lv]
def MI (l:Lo) (os:List Bool) (ls:List Int):Prop:=os.length=l.secs.length∧ls.length=l.pts.length∧¬∃ z∈ls,z<0∨2<z
theorem zQP(hd:1≤d){n0:Nat}{ls:List Int}:Says d 193 [] H n0 (fun z:Int=>.imm (.int .i64 z)) (fun z=>z<0∨2<z) (fun z=>z∈ls):=fun z _ n hn=>by
 obtain⟨d,rfl⟩:∃ d',d=d'+1:=⟨d - 1,by omega⟩
 have key:Fe (K DG (d+1) 193 [.imm (.int .i64 z)] H n n) (fun x _ n'=>n≤n'∧x=.imm (.bool (dec (z<0∨2<z)))):=by
  rw[kX 193 D.f193 rfl]
  refine zHy rfl ?_
  by_cases h0:z<0
  ·simp[zI3 h0,zFd (show z<0∨2<z from .inl h0),h0,B6,B7]
  ·by_cases h2:2<z
   ·simp[zIz (show 0≤z by omega),zI3 h2,h2,B6,B7]
   ·simp[zIz (show 0≤z by omega),zIz (show z≤2 by omega),B6,B7]
    omega
 obtain⟨x,H1,n1,e,h1,rfl⟩:=key
 exact⟨H1,n1,e,h1⟩
theorem zAw {D:Nat}(hD:4≤D)(ok:LoOk l){ov lv:IV}{os:List Bool}{ls:List Int}(io:InOk ov lv os ls) :
  bl (K DG D) 183 [l.dv,inD ov lv]=some (.imm (.bool (dec (MI l os ls)))):=by
 obtain⟨d,rfl⟩:∃ d,D=d+3:=⟨D - 3,by omega⟩
 have sl:=ok.s.len
 have pl:=ok.p.len
 have ol:=io.o.len
 have il:=io.l.len
 simp only[List.length_map] at sl pl ol il
 obtain⟨x1,H1,n1,e1,hn1,rfl⟩:=zEo (d:=d) (n:=2) (H:=.lf) (f:=193) (caps:=[]) rfl (zQP (by omega)) io.l io.ll 2
 have c1:((os.length:Int)=(l.secs.length:Int))=(os.length=l.secs.length):=propext ⟨fun h=>by omega,fun h=>by omega⟩
 have c2:((ls.length:Int)=(l.pts.length:Int))=(ls.length=l.pts.length):=propext ⟨fun h=>by omega,fun h=>by omega⟩
 have hm:MI l os ls↔os.length=l.secs.length∧ls.length=l.pts.length∧¬∃ z∈ls,z<0∨2<z:=Iff.rfl
 rw[zFV hm]
 generalize (∃ z∈ls,z<0∨2<z)=P at e1 ⊢
 refine zDd ?_
 rw[kX 183 D.f183 rfl]
 refine zHy rfl ?_
 generalize hQ:Fin _ _=Q
 simp +contextual (maxSteps:=2000000) [ok.sc,io.sc,sl,pl,ol,il,c1,c2,e1,B6,B7]
 subst hQ
 by_cases hP:P
 ·simp +contextual [hP,zFd,B6,B7]
 ·simp +contextual [hP,zFX,B6,B7]
end Go.Proofs.YtlknjgmhfimhbaaGreatDoor.D
namespace Go.Proofs.YtlknjgmhfimhbaaGreatDoor.D
open Go Go.PM Go.Lib
def IM5 (l:Lo) (ov lv:IV) (ls:List Int) (i:Nat) (st:St):Prop:=Box st 2 l.ivs∧Box st 3 [ov,lv]∧st.T.get 5=some (.imm (.int .i64 i))∧∀ j,j<i→¬(nth ls j<0∨2<nth ls j)
variable {d:Nat} {l:Lo} {lv ov:IV} {os:List Bool}
theorem zLB{ls:List Int}(io:InOk ov lv os ls){ks:List Kf}{st:St}{Q:Ex→St→Prop}(h:IM5 l ov lv ls 0 st)
  (hk:∀ e st',(e=.ret∧st'.T.get 4=some (.imm (.bool false))∧∃ z∈ls,z<0∨2<z)∨(e=.exit 0∧IM5 l ov lv ls ls.length st')→Bk DG (K DG d) 0 e ks st' Q):Wp DG (K DG d) 0 D.l68_0 ks st Q:=by
 refine zGt (N:=ls.length) (zRH io.ll) (IM5 l ov lv ls) (fun e st'=>(e=.ret∧st'.T.get 4=some (.imm (.bool false))∧∃ z∈ls,z<0∨2<z)∨(e=.exit 0∧IM5 l ov lv ls ls.length st')) (fun i st hle hI=>?_) h (fun e s' h=>hk e s' h)
 obtain⟨⟨i2,h2,L2⟩,⟨i3,h3,L3⟩,h5,hall⟩:=hI
 have il:=io.l.len
 simp only[List.length_map] at il
 by_cases hi:i<ls.length
 ·have hi1:(i:Int)<ls.length:=by omega
  have hi':=zI3 hi1
  have hw8:IntKind.i64.wrap ((i:Int)+1)=(i:Int)+1:=zTX hi io.ll
  have ix:=zIu io.l hi1
  generalize hQ:(fun (e:Ex) (s':St)=>_)=Q'
  simp only[D.l68_0b]
  by_cases h0:nth ls i<0
  ·simp[h2,h3,h5,L2,L3,il,hi',ix,ivI,zI3 h0,B6,B7]
   subst hQ
   exact .inr ⟨nofun,.inl ⟨rfl,by simp[gP],_,zMi hi,.inl h0⟩⟩
  ·by_cases h1:2<nth ls i
   ·simp[h2,h3,h5,L2,L3,il,hi',ix,ivI,zIz (show 0≤nth ls i by omega),zI3 h1,B6,B7]
    subst hQ
    exact .inr ⟨nofun,.inl ⟨rfl,by simp[gP],_,zMi hi,.inr h1⟩⟩
   ·simp[h2,h3,h5,L2,L3,il,hi',hw8,ix,ivI,zIz (show 0≤nth ls i by omega),zIz (show nth ls i≤2 by omega),B6,B7]
    subst hQ
    refine .inl ⟨rfl,hi,⟨i2,by simp[gP],by simp[gP,imms]⟩,⟨i3,by simp[gP],by simp[gP,imms]⟩,by simp[gP],fun j hj=>?_⟩
    rcases Nat.lt_or_eq_of_le (Nat.le_of_lt_succ hj) with hj | rfl
    ·exact hall j hj
    ·exact fun h=>h.elim h0 h1
 ·obtain rfl:i=ls.length:=by omega
  generalize hQ:(fun (e:Ex) (s':St)=>_)=Q'
  simp only[D.l68_0b]
  simp[h2,h3,h5,L2,L3,il,B6,B7]
  subst hQ
  exact .inr ⟨nofun,.inr ⟨rfl,⟨i2,by simp[gP,h2],by simp[gP,L2,imms]⟩,⟨i3,by simp[gP,h3],by simp[gP,L3,imms]⟩,by simp[gP],hall⟩⟩
theorem zAv {D:Nat}(hD:1≤D)(ok:LoOk l){ls:List Int}(io:InOk ov lv os ls) :
  bl (K DG D) 68 [l.dv,inD ov lv]=some (.imm (.bool (dec (MI l os ls)))):=by
 obtain⟨d,rfl⟩:∃ d,D=d+1:=⟨D - 1,by omega⟩
 have sl:=ok.s.len
 have pl:=ok.p.len
 have ol:=io.o.len
 have il:=io.l.len
 simp only[List.length_map] at sl pl ol il
 have c1:((os.length:Int)=(l.secs.length:Int))=(os.length=l.secs.length):=propext ⟨fun h=>by omega,fun h=>by omega⟩
 have c2:((ls.length:Int)=(l.pts.length:Int))=(ls.length=l.pts.length):=propext ⟨fun h=>by omega,fun h=>by omega⟩
 refine zDd ?_
 rw[kX 68 D.f68 rfl]
 refine zHy rfl ?_
 simp[ok.sc,io.sc,B6,B7]
 refine zLB (l:=l) io ⟨⟨0,by simp[gP],by simp[gP,imms]⟩,⟨1,by simp[gP],by simp[gP,imms]⟩,by simp[gP],fun j hj=>by omega⟩ ?_
 rintro e st' (⟨rfl,h4,hm⟩ | ⟨rfl,⟨i2,h2,L2⟩,⟨i3,h3,L3⟩,h5,hall⟩)
 ·have:¬MI l os ls:=fun h=>h.2.2 hm
  simp[h4,this,B6,B7]
 ·have hn:¬∃ z∈ls,z<0∨2<z:=fun ⟨z,hz,h⟩=>by
   obtain⟨j,hj,e⟩:=zL2 hz
   exact hall j hj (e▸h)
  have hm:MI l os ls↔os.length=l.secs.length∧ls.length=l.pts.length:=⟨fun h=>⟨h.1,h.2.1⟩,fun h=>⟨h.1,h.2,hn⟩⟩
  rw[zFV hm]
  generalize hQ:Fin _ _=Q
  simp +contextual [h2,h3,L2,L3,sl,pl,ol,il,c1,c2,B6,B7]
  subst hQ
  simp +contextual [B6,B7]
  intro _
  exact zFW
variable {H:PT HB} {lo n p:Nat} {own:List Nat} {rs:List Rst}
theorem zBX(ok:LoOk l) (p5:l.pts.length≤5) (g6:l.sigs.length≤6) (lk:LkAt H p own l rs)(hpn:p<n) :
  Fe (K DG (d+1) 102 [.ptr p 0 0] H n lo) (fun v H' n'=>v=.agg [.sl (n+1) 0 l.pts.length l.pts.length,.sl (n+2) 0 l.sigs.length l.sigs.length]∧n'=n+3∧
   H'=(H.put (n+1) (some ⟨1,List.replicate l.pts.length (imms [.int .i64 0])⟩)).put (n+2) (some ⟨1,List.replicate l.sigs.length (imms [.bool false])⟩)):=by
 obtain⟨x,h1,h2,h3,h4⟩:=lk
 have pl:=ok.p.len
 have gl:=ok.g.len
 simp only[List.length_map] at pl gl
 have a1:l.pts.length≤zCJ:=by unfold zCJ; omega
 have a2:l.pts.length*8≤zCJ:=by unfold zCJ; omega
 have a3:l.sigs.length≤zCJ:=by unfold zCJ; omega
 rw[kX 102 D.f102 rfl]
 refine zHy rfl ?_
 have b1:¬p=n+1:=by omega
 have b2:¬n+1=p:=by omega
 have b3:¬p=n+1+1:=by omega
 simp[h1,pl,gl,a1,a2,a3,b1,b2,b3,zHG,lay,B6,B7]
theorem zTw {sz k id n:Nat}{r:List IV}(h:H.get id=some ⟨sz,List.replicate k (imms r)⟩) (hlo:lo≤id):frz H.get lo (.sl id 0 k k)=some (.imm (.lst false sz (List.replicate k r))):=by
 have hf:frzI H.get lo zH8 (.sl id 0 k k)=some (.lst false sz (List.replicate k r)):=by
  show (if lo≤id then _ else _)=_
  rw[if_pos hlo]
  simp only[h]
  rw[if_pos (by simp)]
  simp only[List.drop_zero]
  rw[List.take_of_length_le (by simp),show List.replicate k (imms r)=(List.replicate k r).map imms by simp,zLp]
  rfl
 have hz0:frz H.get lo (.sl id 0 k k)=if id<lo then some (.sl id 0 k k) else (frzI H.get lo zH8 (.sl id 0 k k)).map .imm:=rfl
 rw[hz0,if_neg (by omega),hf]
 rfl
abbrev zQF (l:Lo):DV:=.agg [.imm (.lst false 1 (List.replicate l.pts.length [.int .i64 0])),.imm (.lst false 1 (List.replicate l.sigs.length [.bool false]))]
theorem zBW(ok:LoOk l) (p5:l.pts.length≤5) (g6:l.sigs.length≤6) (lk:LkAt H p own l rs)(hpn:p<n) :
  zDz (K DG (d+1)) .ro 102 [.ptr p 0 0] H n lo=some ⟨zQF l,H,n+3,[.rA]⟩:=by
 obtain⟨v,H1,n1,e,rfl,rfl,rfl⟩:=zBX (d:=d) ok p5 g6 lk (n:=n) (lo:=n) hpn
 have z1:=zTw (n:=n) (lo:=n) (id:=n+1) (k:=l.pts.length) (sz:=1) (r:=[.int .i64 0]) (H:=(H.put (n+1) (some ⟨1,List.replicate l.pts.length (imms [.int .i64 0])⟩)).put (n+2) (some ⟨1,List.replicate l.sigs.length (imms [.bool false])⟩)) (by
  have:¬n+1=n+2:=by omega
  simp[gP,this]) (by omega)
 have z2:=zTw (n:=n) (lo:=n) (id:=n+2) (k:=l.sigs.length) (sz:=1) (r:=[.bool false]) (H:=(H.put (n+1) (some ⟨1,List.replicate l.pts.length (imms [.int .i64 0])⟩)).put (n+2) (some ⟨1,List.replicate l.sigs.length (imms [.bool false])⟩)) (by
  simp[gP]) (by omega)
 have ho:DV.out.outs [DV.ptr p 0 0]=true:=rfl
 rw[zD3,if_pos ho,e]
 simp only
 show ((frz.frzs _ n _).map DV.agg).map _=_
 simp only[frz.frzs,z1,z2]
 rfl
structure OutV (v:DV) (ds:List Int) (ps:List Bool):Prop where
 ex:∃ a b,v=.agg [.imm a,.imm b]∧Sl 1 a (ds.map ivI)∧Sl 1 b (ps.map ivB1)
theorem zAd(hd:4≤d)(ok:LoOk l) (p5:l.pts.length≤5) (g6:l.sigs.length≤6) (lk:LkAt H p own l rs){ls:List Int}(io:InOk ov lv os ls) (hm:¬MI l os ls)(hpn:∀ i∈p::own,i<n) :
  Fe (K DG (d+1) 166 [.ptr p 0 0,inD ov lv] H n 0) (fun v H' n'=>v=.agg [.sl (n+2+1) 0 l.pts.length l.pts.length,.sl (n+2+2) 0 l.sigs.length l.sigs.length]∧n'=n+2+3+1∧
   H'=(H.put (n+2+1) (some ⟨1,List.replicate l.pts.length (imms [.int .i64 0])⟩)).put (n+2+2) (some ⟨1,List.replicate l.sigs.length (imms [.bool false])⟩)):=by
 have hp:=hpn p (by simp)
 obtain⟨d,rfl⟩:∃ d',d=d'+1:=⟨d - 1,by omega⟩
 obtain⟨v,H1,n1,e1,rfl,rfl,rfl⟩:=zBX (d:=d) ok p5 g6 lk (n:=n+2) (lo:=0) (by omega)
 obtain⟨x,h1,h2,h3,h4⟩:=lk
 have e:=zAw (D:=d+1) (by omega) ok io
 rw[zFX hm] at e
 have b1:¬p=n+2+1:=by omega
 have b2:¬p=n+2+2:=by omega
 generalize hH1:((H.put (n+2+1) (some ⟨1,List.replicate l.pts.length (imms [.int .i64 0])⟩)).put (n+2+2) (some ⟨1,List.replicate l.sigs.length (imms [.bool false])⟩))=H1 at e1
 have g1:H1.get p=some ⟨5,[[.imm l.sv,.imm l.pv,.imm l.gv,.imm l.rv,x]]⟩:=by rw[← hH1]; simp[gP,b1,b2,h1]
 rw[kX 166 D.f166 rfl]
 refine zHy rfl ?_
 simp[io.sc,e1,g1,e,B6,B7]
end Go.Proofs.YtlknjgmhfimhbaaGreatDoor.D
