/-
  A deterministic interpreter over values ('D'): slices and strings that nobody writes are lists; what is written lies in a heap of its own numbering.
-/
import Derived.Orders
set_option linter.unusedVariables false
set_option linter.unusedSimpArgs false
namespace Go.PM
inductive IV where
 | bool (b:Bool)
 | int (k:IntKind) (n:Int)
 | str (s:List UInt8)
 | nilp | nils | nilf | nili | undef
 | lst (full:Bool) (sz:Nat) (es:List (List IV))
 | cref (cells:List IV)
 | iface (t:TypeId) (v:IV)
 deriving Inhabited
inductive DV where
 | imm (v:IV)
 | ptr (id row off:Nat)
 | sl (id row len cap:Nat)
 | agg (cells:List DV)
 | tup (vs:List DV)
 | fnc (f:FuncId) (caps:List DV)
 | lref (slot id off:Nat)
 deriving Inhabited
structure HB where
 sz:Nat
 rows:List (List DV)
 deriving Inhabited
inductive LV where
 | box (id:Nat) (cells:List DV)
 | iter (id:Nat) (s:List UInt8) (pos:Nat)
 deriving Inhabited
inductive PT (α:Type) where
 | lf
 | nd (l:PT α) (v:Option α) (r:PT α)
 deriving Inhabited
namespace PT
variable {α:Type}
def get:PT α→Nat→Option α
 | .lf,_=>none
 | .nd l v r,n=>match n with
  | 0=>v
  | m+1=>if m % 2=0 then l.get (m / 2) else r.get (m / 2)
def left:PT α→PT α
 | .lf=>.lf
 | .nd l _ _=>l
def right:PT α→PT α
 | .lf=>.lf
 | .nd _ _ r=>r
def val:PT α→Option α
 | .lf=>none
 | .nd _ v _=>v
def ins:(rounds:Nat)→PT α→Nat→Option α→PT α
 | 0,t,_,_=>t
 | k+1,t,n,v=>match n with
  | 0=>.nd t.left v t.right
  | m+1=>if m % 2=0 then .nd (ins k t.left (m / 2) v) t.val t.right else .nd t.left t.val (ins k t.right (m / 2) v)
def put (t:PT α) (n:Nat) (v:Option α):PT α:=ins (n+1) t n v
end PT
inductive Opd where
 | t (k:Nat)
 | k (v:IV)
 | f (id:FuncId)
 | g (gl:Nat)
 deriving Inhabited
inductive SK where
 | i | s | b
 deriving DecidableEq,Inhabited
inductive ET where
 | sc | bl | np | ns | nf | ni | st (ks:List SK)
 deriving DecidableEq,Inhabited
inductive CM where
 | blind | ro | eff | wr | new
 deriving DecidableEq,Inhabited
inductive DOp where
 | mv (x:Opd)
 | pick (c a b:Opd)
 | nilck (x:Opd)
 | bin (op:BinOp) (et:ET) (x y:Opd)
 | un (op:UnOp) (x:Opd)
 | cvI (k:IntKind) (x:Opd)
 | cvBS (x:Opd)
 | cvSB (x:Opd)
 | cvBB (x:Opd)
 | mkI (t:TypeId) (x:Opd)
 | asrt (t:TypeId) (zero:IV) (ok:Bool) (x:Opd)
 | mkF (f:FuncId) (caps:List Opd)
 | fld (off:Nat) (x:Opd)
 | idx (s:Nat) (x i:Opd)
 | idxA (s n:Nat) (x i:Opd)
 | ld (n:Nat) (agg:Bool) (x:Opd)
 | st (n:Nat) (x v:Opd)
 | part (off n:Nat) (agg:Bool) (x:Opd)
 | idxV (s n:Nat) (agg:Bool) (x i:Opd)
 | idxS (x i:Opd)
 | boxL (v:Opd)
 | boxH (v:Opd)
 | alL (zero:List IV)
 | alH (zero:List IV)
 | build (zero:List IV) (parts:List (Nat×Nat×Opd))
 | bsl (mt:Bool) (s:Nat) (zero:List IV) (len:Nat) (parts:List (Nat×Opd))
 | mks (mt:Bool) (s bytes:Nat) (zero:List IV) (l:Opd)
 | slc (s:Nat) (x:Opd) (lo hi mx:Option Opd)
 | slS (x:Opd) (lo hi:Option Opd)
 | len (x:Opd)
 | lenS (x:Opd)
 | lenA (n:Nat)
 | cap (x:Opd)
 | mn (x y:Opd)
 | mx (x y:Opd)
 | app (s bytes:Nat) (x y:Opd)
 | appZ (s bytes:Nat) (zero:List IV) (x y:Opd)
 | rng (x:Opd)
 | nxt (slot:Nat)
 | ext (i:Nat) (x:Opd)
 | call (m:CM) (f:FuncId) (args:List Opd)
 | calld (m:CM) (f:Opd) (args:List Opd)
 deriving Inhabited
structure DO where
 dst:Option Nat
 op:DOp
 guard:Option (Nat×Bool):=none
 deriving Inhabited
inductive DC where
 | skip
 | reg (ops:List DO)
 | drw (ops:List DO) (bef:List (List Nat))
 | seq (a b:DC)
 | cond (c:Opd) (a b:DC)
 | block (id:Nat) (b:DC)
 | loop (live own:List Nat) (b:DC)
 | exit (id:Nat)
 | ret
 deriving Inhabited
inductive DRes where
 | t (k:Nat)
 | cell (slot n:Nat) (agg:Bool)
 deriving Inhabited
structure DFn where
 np:Nat
 res:List DRes
 body:DC
 deriving Inhabited
structure St where
 T:PT DV
 L:PT LV
 H:PT HB
 n:Nat
 deriving Inhabited
inductive Ex where
 | norm
 | exit (id:Nat)
 | ret
 deriving DecidableEq,Inhabited
inductive Acc where
 | rL (slot:Nat)
 | wL (slot:Nat)
 | rX (id:Nat)
 | wX (id:Nat)
 | rA
 | wA
 deriving DecidableEq,Inhabited
structure Eff where
 v:DV
 lw:List (Nat×LV):=[]
 hw:List (Nat×Option HB):=[]
 n':Nat
 acc:List Acc:=[]
 deriving Inhabited
def mapO {α β:Type}(f:α→Option β):List α→Option (List β)
 | []=>some []
 | x::xs=>match f x,mapO f xs with
  | some y,some ys=>some (y::ys)
  | _,_=>none
def DV.scal:DV→Bool
 | .imm .undef=>false
 | .agg _=>false
 | .tup _=>false
 | _=>true
def DV.cells:DV→List DV
 | .agg cs=>cs
 | v=>[v]
def zMy (agg:Bool) (cs:List DV):Option DV:=
 if agg then some (.agg cs) else match cs with
  | [v]=>some v
  | _=>none
def imms (vs:List IV):List DV:=vs.map .imm
def DV.out:DV→Bool
 | .lref ..=>false
 | .agg cs=>outs cs
 | .tup cs=>outs cs
 | .fnc _ cs=>outs cs
 | _=>true
where outs:List DV→Bool
 | []=>true
 | v::vs=>v.out&&outs vs
def zS2:DV→Option IV
 | .imm v=>some v
 | _=>none
def cut {α:Type}(xs:List α) (off n:Nat):Option (List α):=
 if off+n≤xs.length then some ((xs.drop off).take n) else none
def over {α:Type}(xs:List α) (off:Nat) (ys:List α):Option (List α):=
 if off+ys.length≤xs.length then some (xs.take off++ys++xs.drop (off+ys.length)) else none
def zDM (op:BinOp) (k:IntKind) (a b:Int):Option IV:=
 match op with
 | .add=>some (.int k (k.wrap (a+b)))
 | .sub=>some (.int k (k.wrap (a - b)))
 | .mul=>some (.int k (k.wrap (a*b)))
 | .quo=>if b=0 then none else some (.int k (k.wrap (a.tdiv b)))
 | .rem=>if b=0 then none else some (.int k (a.tmod b))
 | .and=>some (.int k (k.wrap ((BitVec.ofInt k.bits a &&& BitVec.ofInt k.bits b).toNat)))
 | .or=>some (.int k (k.wrap ((BitVec.ofInt k.bits a ||| BitVec.ofInt k.bits b).toNat)))
 | .xor=>some (.int k (k.wrap ((BitVec.ofInt k.bits a ^^^ BitVec.ofInt k.bits b).toNat)))
 | .andNot=>some (.int k (k.wrap ((BitVec.ofInt k.bits a &&& ~~~BitVec.ofInt k.bits b).toNat)))
 | .eql=>some (.bool (a==b))
 | .neq=>some (.bool (a != b))
 | .lss=>some (.bool (a<b))
 | .leq=>some (.bool (a≤b))
 | .gtr=>some (.bool (a > b))
 | .geq=>some (.bool (a≥b))
 | _=>none
def zDO (op:BinOp) (a b:List UInt8):Option IV:=
 match op with
 | .eql=>some (.bool (a==b))
 | .neq=>some (.bool (!(a==b)))
 | .add=>if a.length+b.length≤2 ^ 40 then some (.str (a++b)) else none
 | _=>none
def eqSc:SK→IV→IV→Option Bool
 | .b,.bool a,.bool b=>some (a==b)
 | .i,.int k a,.int k' b=>if k=k' then some (a==b) else none
 | .s,.str a,.str b=>some (a==b)
 | _,_,_=>none
def eqSt:List SK→List DV→List DV→Option Bool
 | [],[],[]=>some true
 | k::ks,.imm a::xs,.imm b::ys=>match eqSc k a b,eqSt ks xs ys with
  | some r,some r'=>some (r&&r')
  | _,_=>none
 | _,_,_=>none
def zJQ:ET→DV→Option Bool
 | .np,.imm .nilp=>some true
 | .ns,.imm .nils=>some true
 | .nf,.imm .nilf=>some true
 | .ni,.imm .nili=>some true
 | .np,.imm (.cref _)=>some false
 | .np,.ptr ..=>some false
 | .np,.lref ..=>some false
 | .ns,.imm (.lst ..)=>some false
 | .ns,.sl ..=>some false
 | .nf,.fnc ..=>some false
 | .ni,.imm (.iface ..)=>some false
 | _,_=>none
def zJR:ET→Opd→Bool
 | .np,.k .nilp=>true
 | .ns,.k .nils=>true
 | .nf,.k .nilf=>true
 | .ni,.k .nili=>true
 | _,_=>false
def flip (neq b:Bool):IV:=.bool (if neq then !b else b)
def zDN (op:BinOp) (et:ET) (x y:Opd) (a b:DV):Option IV:=
 match et with
 | .sc=>match a,b with
  | .imm (.int k m),.imm (.int k' n)=>
   match op with
   | .shl=>if n<0 then none else some (.int k (k.wrap (m*2 ^ (min n.toNat k.bits))))
   | .shr=>if n<0 then none else some (.int k (m.fdiv (2 ^ (min n.toNat k.bits))))
   | _=>if k=k' then zDM op k m n else none
  | .imm (.str s),.imm (.str t)=>zDO op s t
  | _,_=>none
 | .bl=>match a,b with
  | .imm (.bool p),.imm (.bool q)=>match op with
   | .eql=>some (.bool (p==q))
   | .neq=>some (.bool (!(p==q)))
   | _=>none
  | _,_=>none
 | .st ks=>match a,b with
  | .agg xs,.agg ys=>match op with
   | .eql=>(eqSt ks xs ys).map (flip false)
   | .neq=>(eqSt ks xs ys).map (flip true)
   | _=>none
  | _,_=>none
 | e=>match op with
  | .eql=>if zJR e y then (zJQ e a).map (flip false) else if zJR e x then (zJQ e b).map (flip false) else none
  | .neq=>if zJR e y then (zJQ e a).map (flip true) else if zJR e x then (zJQ e b).map (flip true) else none
  | _=>none
def unOf (op:UnOp):DV→Option IV
 | .imm (.bool b)=>match op with | .not=>some (.bool !b) | _=>none
 | .imm (.int k n)=>match op with
  | .neg=>some (.int k (k.wrap (0 - n)))
  | .xor=>some (.int k (k.wrap ((BitVec.ofInt k.bits (if k.signed then -1 else k.max) ^^^ BitVec.ofInt k.bits n).toNat)))
  | _=>none
 | _=>none
def zCl:DV→Option Nat
 | .imm (.int _ n)=>if 0≤n then some n.toNat else none
 | _=>none
def byteOf:List IV→Option UInt8
 | [.int .u8 n]=>if 0≤n∧n<256 then some (UInt8.ofNat n.toNat) else none
 | _=>none
def bytesOf:List (List IV)→Option (List UInt8)
 | []=>some []
 | e::es=>match byteOf e,bytesOf es with
  | some b,some bs=>some (b::bs)
  | _,_=>none
def zPO (b:UInt8):List IV:=[.int .u8 b.toNat]
def zS4 (vs:List DV):Option (List IV):=mapO zS2 vs
section
variable (h:Nat→Option HB)
def zPV:DV→Option (Option Nat×Nat×List (List DV))
 | .imm .nils=>some (none,0,[])
 | .imm (.lst _ sz es)=>some (none,sz,es.map imms)
 | .sl id row len _=>match h id with
  | some hb=>if row+len≤hb.rows.length then some (some id,hb.sz,(hb.rows.drop row).take len) else none
  | none=>none
 | _=>none
def zRS:DV→Option (Option Nat×Nat×List (List DV))
 | .imm (.str s)=>some (none,1,s.map fun b=>[.imm (.int .u8 b.toNat)])
 | v=>zPV h v
def frzI (lo:Nat):Nat→DV→Option IV
 | _,.imm v=>some v
 | d+1,.sl id row len _=>if lo≤id then
   match h id with
   | some hb=>if row+len≤hb.rows.length then
     (mapO (mapO (frzI lo d)) ((hb.rows.drop row).take len)).map (.lst false hb.sz)
    else none
   | none=>none
  else none
 | _,_=>none
def zH8:Nat:=4
def frz (lo:Nat):DV→Option DV
 | .imm v=>some (.imm v)
 | .ptr id row off=>if id<lo then some (.ptr id row off) else none
 | .sl id row len cap=>if id<lo then some (.sl id row len cap) else (frzI h lo zH8 (.sl id row len cap)).map .imm
 | .agg cs=>(frzs lo cs).map .agg
 | .tup cs=>(frzs lo cs).map .tup
 | .fnc _ _=>none
 | .lref ..=>none
where frzs (lo:Nat):List DV→Option (List DV)
 | []=>some []
 | v::vs=>match frz lo v,frzs lo vs with
  | some v',some vs'=>some (v'::vs')
  | _,_=>none
def snap:DV→Option DV
 | .imm v=>some (.imm v)
 | .sl id row len cap=>(frzI h 0 zH8 (.sl id row len cap)).map .imm
 | .agg cs=>(snaps cs).map .agg
 | .fnc f []=>some (.fnc f [])
 | _=>none
where snaps:List DV→Option (List DV)
 | []=>some []
 | v::vs=>match snap v,snaps vs with
  | some v',some vs'=>some (v'::vs')
  | _,_=>none
end
def DV.pure:DV→Bool
 | .imm _=>true
 | .fnc _ []=>true
 | .agg cs=>pures cs
 | _=>false
where pures:List DV→Bool
 | []=>true
 | v::vs=>v.pure&&pures vs
def DV.flat:DV→Bool
 | .imm (.bool _) | .imm (.int ..) | .imm (.str _) | .imm .undef=>true
 | .agg cs=>flats cs
 | .tup cs=>flats cs
 | _=>false
where flats:List DV→Bool
 | []=>true
 | v::vs=>v.flat&&flats vs
def IV.tame:IV→Bool
 | .lst ..=>false
 | .cref _=>false
 | .iface _ v=>v.tame
 | _=>true
def DV.tame:DV→Bool
 | .imm v=>v.tame
 | .ptr .. | .sl ..=>true
 | .agg cs=>tames cs
 | .tup cs=>tames cs
 | _=>false
where tames:List DV→Bool
 | []=>true
 | v::vs=>v.tame&&tames vs
def HB.tame (hb:HB):Bool:=hb.rows.all fun r=>r.all DV.tame
def kept (H H1:PT HB) (n:Nat):Nat→PT HB
 | 0=>H
 | k+1=>match H1.get (n+k) with
  | some hb=>if hb.tame then (kept H H1 n k).put (n+k) (some hb) else kept H H1 n k
  | none=>kept H H1 n k
def zPT {α:Type}(s:Nat):Nat→List α→List (List α)
 | 0,_=>[]
 | n+1,xs=>xs.take s::zPT s n (xs.drop s)
def zCJ:Nat:=2 ^ 40
section
variable (G:Nat→Option (List IV)) (T:Nat→Option DV)
def ev:Opd→Option DV
 | .t k=>T k
 | .k v=>some (.imm v)
 | .f id=>some (.fnc id [])
 | .g gl=>(G gl).map fun c=>.imm (.cref c)
def evs:List Opd→Option (List DV)
 | []=>some []
 | x::xs=>match ev G T x,evs xs with
  | some v,some vs=>some (v::vs)
  | _,_=>none
def evO:Option Opd→Option (Option DV)
 | none=>some none
 | some x=>(ev G T x).map some
variable (L:Nat→Option LV) (h:Nat→Option HB) (n lo:Nat)
def give (v:Option DV):Option Eff:=v.map fun v=>{ v,n':=n }
def giveI (v:Option IV):Option Eff:=v.map fun v=>{ v:=.imm v,n':=n }
def zKP (k:Nat) (agg:Bool):DV→Option Eff
 | .imm (.cref cs)=>match cut cs 0 k with
  | some r=>(zMy agg (imms r)).map fun v=>{ v,n':=n }
  | none=>none
 | .ptr id row off=>match h id with
  | some hb=>match hb.rows[row]? with
   | some r=>match cut r off k with
    | some r=>(zMy agg r).map fun v=>{ v,n':=n,acc:=[.rX id] }
    | none=>none
   | none=>none
  | none=>none
 | .lref slot id off=>match L slot with
  | some (.box id' cells)=>if id=id' then
    match cut cells off k with
    | some r=>(zMy agg r).map fun v=>{ v,n':=n,acc:=[.rL slot] }
    | none=>none
   else none
  | _=>none
 | _=>none
def zRh (k:Nat) (v:DV):DV→Option Eff
 | .ptr id row off=>if lo≤id∧v.cells.length=k∧v.cells.all DV.scal∧v.out then
   match h id with
   | some hb=>match hb.rows[row]? with
    | some r=>match over r off v.cells with
     | some r'=>some { v:=.imm .undef,hw:=[(id,some { hb with rows:=hb.rows.set row r' })],n':=n,acc:=[.wX id] }
     | none=>none
    | none=>none
   | none=>none
  else none
 | .lref slot id off=>if v.cells.length=k∧v.cells.all DV.scal then
   match L slot with
   | some (.box id' cells)=>if id=id' then
     match over cells off v.cells with
     | some cells'=>some { v:=.imm .undef,lw:=[(slot,.box id cells')],n':=n,acc:=[.wL slot] }
     | none=>none
    else none
   | _=>none
  else none
 | _=>none
def zOS:Option Nat→List Acc
 | some id=>[.rX id]
 | none=>[]
def zCK (s bytes:Nat) (a b:DV):Option Eff:=
 match zRS h b with
 | none=>none
 | some (src,sb,ys)=>
  let racc:=zOS src
  if ys=[] then
   match a with
   | .imm .nils | .imm (.lst ..) | .sl ..=>some { v:=a,n':=n,acc:=racc }
   | _=>none
  else if sb=s∧0<s then
   match a with
   | .imm .nils=>if ys.length≤zCJ∧ys.length*bytes≤zCJ then
     some { v:=.sl n 0 ys.length ys.length,hw:=[(n,some ⟨s,ys⟩)],n':=n+1,acc:=.wX n::racc } else none
   | .imm (.lst true sz es)=>if sz=s∧es.length+ys.length≤zCJ∧(es.length+ys.length)*bytes≤zCJ then
     some { v:=.sl n 0 (es.length+ys.length) (es.length+ys.length),hw:=[(n,some ⟨s,es.map imms++ys⟩)],n':=n+1,acc:=.wX n::racc } else none
   | .sl id row len cap=>if lo≤id∧src≠some id then
     match h id with
     | some hb=>if hb.sz=s then
       if len+ys.length≤cap∧row+len+ys.length≤hb.rows.length then
        some { v:=.sl id row (len+ys.length) cap,hw:=[(id,some ⟨s,hb.rows.take (row+len)++ys++hb.rows.drop (row+len+ys.length)⟩)],n':=n,acc:=.wX id::racc }
       else if row=0∧len=hb.rows.length∧len+ys.length≤zCJ∧(len+ys.length)*bytes≤zCJ then
        some { v:=.sl n 0 (len+ys.length) (len+ys.length),hw:=[(id,none),(n,some ⟨s,hb.rows++ys⟩)],n':=n+1,acc:=.wX id::.wX n::racc }
       else none
      else none
     | none=>none
    else none
   | _=>none
  else none
def zMF (o:Option DV) (d:Nat):Option Nat:=
 match o with
 | some v=>zCl v
 | none=>some d
def zQ7 (s:Nat) (a:DV) (l hi mx:Option DV):Option Eff:=
 match a with
 | .imm .nils=>match zMF l 0,zMF hi 0,mx with
  | some i,some j,none=>if i=0∧j=0 then some { v:=.imm .nils,n':=n } else none
  | some i,some j,some m=>match zCl m with
   | some m=>if i=0∧j=0∧m=0∧hi.isSome then some { v:=.imm .nils,n':=n } else none
   | none=>none
  | _,_,_=>none
 | .imm (.lst full sz es)=>if sz=s then
   match zMF l 0,zMF hi es.length,mx with
   | some i,some j,none=>if i≤j∧j≤es.length then some { v:=.imm (.lst (full&&decide (j=es.length)) sz ((es.take j).drop i)),n':=n } else none
   | some i,some j,some m=>match zCl m with
    | some m=>if i≤j∧j=m∧m≤es.length∧hi.isSome then some { v:=.imm (.lst true sz ((es.take j).drop i)),n':=n } else none
    | none=>none
   | _,_,_=>none
  else none
 | .sl id row len cap=>
  match zMF l 0,zMF hi len,mx with
  | some i,some j,none=>if i≤j∧j≤cap∧len≤cap then
    if i=0 then some { v:=.sl id row j cap,n':=n } else if i<j then
     match h id with
     | some hb=>if hb.sz=s then some { v:=.sl id (row+i) (j - i) (cap - i),n':=n,acc:=[.rX id] } else none
     | none=>none
    else some { v:=.imm (.lst false s []),n':=n }
   else none
  | _,_,_=>none
 | _=>none
def zRB (s:List UInt8) (l hi:Option DV):Option IV:=
 match zMF l 0,zMF hi s.length with
 | some i,some j=>if i≤j∧j≤s.length then some (.str ((s.take j).drop i)) else none
 | _,_=>none
def lenOf:DV→Option Nat
 | .imm .nils=>some 0
 | .imm (.lst _ _ es)=>some es.length
 | .sl _ _ len _=>some len
 | _=>none
def zHG:List (Nat×Nat×Opd)→Option (List (Nat×Nat×DV))
 | []=>some []
 | (o,k,x)::ps=>match ev G T x,zHG ps with
  | some v,some vs=>some ((o,k,v)::vs)
  | _,_=>none
def zHH:List (Nat×Opd)→Option (List (Nat×DV))
 | []=>some []
 | (o,x)::ps=>match ev G T x,zHH ps with
  | some v,some vs=>some ((o,v)::vs)
  | _,_=>none
def lay (cells:List DV):List (Nat×Nat×DV)→Option (List DV)
 | []=>some cells
 | (off,k,v)::rest=>if v.cells.length=k then match over cells off v.cells with
   | some cells'=>lay cells' rest
   | none=>none
  else none
def zGm (dst:Nat):DOp→Option Eff
 | .mv x=>give n (ev G T x)
 | .pick c a b=>match ev G T c with
  | some (.imm (.bool true))=>give n (ev G T a)
  | some (.imm (.bool false))=>give n (ev G T b)
  | _=>none
 | .nilck x=>match ev G T x with
  | some (.ptr id r o)=>give n (some (.ptr id r o))
  | some (.lref s id o)=>give n (some (.lref s id o))
  | some (.imm (.cref c))=>give n (some (.imm (.cref c)))
  | _=>none
 | .bin op et x y=>match ev G T x,ev G T y with
  | some a,some b=>giveI n (zDN op et x y a b)
  | _,_=>none
 | .un op x=>match ev G T x with
  | some a=>giveI n (unOf op a)
  | none=>none
 | .cvI k x=>match ev G T x with
  | some (.imm (.int _ m))=>giveI n (some (.int k (k.wrap m)))
  | _=>none
 | .cvBS x=>match ev G T x with
  | some v=>match zPV h v with
   | some (src,sz,rows)=>if sz=1∨rows=[] then match mapO zS4 rows with
     | some es=>match bytesOf es with
      | some bs=>some { v:=.imm (.str bs),n':=n,acc:=zOS src }
      | none=>none
     | none=>none
    else none
   | none=>none
  | none=>none
 | .cvSB x=>match ev G T x with
  | some (.imm (.str s))=>giveI n (some (.lst false 1 (s.map zPO)))
  | _=>none
 | .cvBB x=>match ev G T x with
  | some (.sl id row len cap)=>if lo≤id then
    match h id with
    | some hb=>some { v:=.sl id row len cap,hw:=[(id,some hb)],n':=n,acc:=[.wX id] }
    | none=>none
   else none
  | _=>none
 | .mkI t x=>match ev G T x with
  | some (.imm v)=>giveI n (some (.iface t v))
  | _=>none
 | .asrt t zero ok x=>match ev G T x with
  | some (.imm .nili)=>if ok then give n (some (.tup [.imm zero,.imm (.bool false)])) else none
  | some (.imm (.iface t' v))=>
   if t'=t then give n (some (if ok then .tup [.imm v,.imm (.bool true)] else .imm v))
   else if ok then give n (some (.tup [.imm zero,.imm (.bool false)])) else none
  | _=>none
 | .mkF f caps=>match evs G T caps with
  | some vs=>if DV.out.outs vs then give n (some (.fnc f vs)) else none
  | none=>none
 | .fld off x=>match ev G T x with
  | some (.ptr id r o)=>give n (some (.ptr id r (o+off)))
  | some (.lref s id o)=>give n (some (.lref s id (o+off)))
  | some (.imm (.cref cs))=>if off<cs.length then give n (some (.imm (.cref (cs.drop off)))) else none
  | _=>none
 | .idx s x i=>match ev G T x,ev G T i with
  | some a,some b=>match zCl b with
   | some j=>match a with
    | .imm (.lst _ sz es)=>match es[j]? with
     | some e=>if sz=s∧0<s then give n (some (.imm (.cref e))) else none
     | none=>none
    | .sl id row len _=>match h id with
     | some hb=>if j<len∧hb.sz=s then some { v:=.ptr id (row+j) 0,n':=n,acc:=[.rX id] } else none
     | none=>none
    | _=>none
   | none=>none
  | _,_=>none
 | .idxA s k x i=>match ev G T x,ev G T i with
  | some a,some b=>match zCl b with
   | some j=>if j<k∧0<s then match a with
     | .ptr id r o=>give n (some (.ptr id r (o+j*s)))
     | .lref sl id o=>give n (some (.lref sl id (o+j*s)))
     | .imm (.cref cs)=>if j*s<cs.length then give n (some (.imm (.cref (cs.drop (j*s))))) else none
     | _=>none
    else none
   | none=>none
  | _,_=>none
 | .ld k agg x=>match ev G T x with
  | some a=>zKP L h n k agg a
  | none=>none
 | .st k x v=>match ev G T x,ev G T v with
  | some a,some b=>zRh L h n lo k b a
  | _,_=>none
 | .part off k agg x=>match ev G T x with
  | some (.agg cs)=>match cut cs off k with
   | some r=>give n (zMy agg r)
   | none=>none
  | _=>none
 | .idxV s k agg x i=>match ev G T x,ev G T i with
  | some (.agg cs),some b=>match zCl b with
   | some j=>if j<k then match cut cs (j*s) s with
     | some r=>give n (zMy agg r)
     | none=>none
    else none
   | none=>none
  | _,_=>none
 | .idxS x i=>match ev G T x,ev G T i with
  | some (.imm (.str s)),some b=>match zCl b with
   | some j=>match s[j]? with
    | some c=>giveI n (some (.int .u8 c.toNat))
    | none=>none
   | none=>none
  | _,_=>none
 | .boxL v=>match ev G T v with
  | some a=>if a.cells.all DV.scal then some { v:=.lref dst n 0,lw:=[(dst,.box n a.cells)],n':=n+1,acc:=[.wL dst] } else none
  | none=>none
 | .boxH v=>match ev G T v with
  | some a=>if a.cells.all DV.scal∧a.out∧0<a.cells.length then some { v:=.ptr n 0 0,hw:=[(n,some ⟨a.cells.length,[a.cells]⟩)],n':=n+1,acc:=[.wX n] } else none
  | none=>none
 | .alL zero=>some { v:=.lref dst n 0,lw:=[(dst,.box n (imms zero))],n':=n+1,acc:=[.wL dst] }
 | .alH zero=>if 0<zero.length then some { v:=.ptr n 0 0,hw:=[(n,some ⟨zero.length,[imms zero]⟩)],n':=n+1,acc:=[.wX n] } else none
 | .build zero parts=>match zHG G T parts with
  | some ps=>give n ((lay (imms zero) ps).map .agg)
  | none=>none
 | .bsl mt s zero len parts=>match zHH G T parts with
  | some ps=>
   if 0<s∧zero.length=s then
    match lay ((List.replicate len (imms zero)).flatten) (ps.map fun p=>(p.1*s,s,p.2)) with
    | some cells=>
     if cells.all DV.scal then
      match (if mt then none else zS4 cells) with
      | some vs=>giveI n (some (.lst true s (zPT s len vs)))
      | none=>if DV.out.outs cells∧0<len then some { v:=.sl n 0 len len,hw:=[(n,some ⟨s,zPT s len cells⟩)],n':=n+1,acc:=[.wX n] } else none
     else none
    | none=>none
   else none
  | none=>none
 | .mks mt s bytes zero l=>match ev G T l with
  | some b=>match zCl b with
   | some len=>if 0<s∧zero.length=s∧len≤zCJ∧len*bytes≤zCJ then
     if mt then some { v:=.sl n 0 len len,hw:=[(n,some ⟨s,List.replicate len (imms zero)⟩)],n':=n+1,acc:=[.wX n] }
     else giveI n (some (.lst true s (List.replicate len zero)))
    else none
   | none=>none
  | none=>none
 | .slc s x l hi mx=>match ev G T x,evO G T l,evO G T hi,evO G T mx with
  | some a,some l,some hi,some mx=>zQ7 h n s a l hi mx
  | _,_,_,_=>none
 | .slS x l hi=>match ev G T x,evO G T l,evO G T hi with
  | some (.imm (.str s)),some l,some hi=>giveI n (zRB s l hi)
  | _,_,_=>none
 | .len x=>match ev G T x with
  | some a=>giveI n ((lenOf a).map fun m=>.int .i64 m)
  | none=>none
 | .lenS x=>match ev G T x with
  | some (.imm (.str s))=>giveI n (some (.int .i64 s.length))
  | _=>none
 | .lenA k=>giveI n (some (.int .i64 k))
 | .cap x=>match ev G T x with
  | some (.imm .nils)=>giveI n (some (.int .i64 0))
  | some (.imm (.lst true _ es))=>giveI n (some (.int .i64 es.length))
  | _=>none
 | .mn x y=>match ev G T x,ev G T y with
  | some (.imm (.int k a)),some (.imm (.int k' b))=>if k=k' then giveI n (some (.int k (if b<a then b else a))) else none
  | _,_=>none
 | .mx x y=>match ev G T x,ev G T y with
  | some (.imm (.int k a)),some (.imm (.int k' b))=>if k=k' then giveI n (some (.int k (if b > a then b else a))) else none
  | _,_=>none
 | .app s bytes x y=>match ev G T x,ev G T y with
  | some a,some b=>zCK h n lo s bytes a b
  | _,_=>none
 | .appZ s bytes zero x y=>match ev G T x,ev G T y with
  | some (.imm .nils),some b=>match zCl b with
   | some k=>if 0<k∧0<s∧zero.length=s∧k≤zCJ∧k*bytes≤zCJ then
     some { v:=.sl n 0 k k,hw:=[(n,some ⟨s,List.replicate k (imms zero)⟩)],n':=n+1,acc:=[.wX n] }
    else none
   | none=>none
  | _,_=>none
 | .rng x=>match ev G T x with
  | some (.imm (.str s))=>some { v:=.lref dst n 0,lw:=[(dst,.iter n s 0)],n':=n+1,acc:=[.wL dst] }
  | _=>none
 | .nxt slot=>match T slot,L slot with
  | some (.lref s id 0),some (.iter id' str pos)=>if s=slot∧id=id' then
    if pos<str.length then
     let d:=Utf8.decode ⟨str.toArray⟩ pos
     some { v:=.tup [.imm (.bool true),.imm (.int .i64 pos),.imm (.int .i32 d.1)],lw:=[(slot,.iter id str (pos+d.2))],n':=n,acc:=[.wL slot] }
    else some { v:=.tup [.imm (.bool false)],n':=n,acc:=[.rL slot] }
   else none
  | _,_=>none
 | .ext i x=>match ev G T x with
  | some (.tup vs)=>give n vs[i]?
  | _=>none
 | .call ..=>none
 | .calld ..=>none
end
abbrev Callee:=FuncId→List DV→PT HB→Nat→Nat→Option (DV×PT HB×Nat)
structure CEff where
 v:DV
 H':PT HB
 n':Nat
 acc:List Acc
noncomputable def zQG (H H1:PT HB) (id:Nat):Bool:=@decide (∀ j,j≠id→H1.get j=H.get j) (Classical.propDecidable _)
theorem zQH {H H1:PT HB}{id:Nat}:zQG H H1 id=true↔∀ j,j≠id→H1.get j=H.get j:=by
 unfold zQG
 exact @decide_eq_true_iff _ (Classical.propDecidable _)
noncomputable section
def zDz (K:Callee) (m:CM) (f:FuncId) (args:List DV) (H:PT HB) (n lo:Nat):Option CEff:=
 match m with
 | .eff=>if DV.out.outs args then (K f args H n lo).map fun r=>⟨r.1,r.2.1,r.2.2,[.wA]⟩ else none
 | .ro=>if DV.out.outs args then match K f args H n n with
   | some (v,H1,n1)=>(frz H1.get n v).map fun v'=>⟨v',H,n1,[.rA]⟩
   | none=>none
  else none
 | .wr=>if DV.out.outs args then match args with
   | .ptr id _ _::_=>match K f args H n lo with
    | some (v,H1,n1)=>if n1=n∧zQG H H1 id=true then some ⟨v,H1,n1,[.rA,.wX id]⟩ else none
    | none=>none
   | _=>none
  else none
 | .new=>match snap.snaps H.get args with
   | some args'=>match K f args' .lf n n with
    | some (v,H1,n1)=>if v.tame then some ⟨v,kept H H1 n (n1 - n),n1,[.wA]⟩ else none
    | none=>none
   | none=>none
 | .blind=>if DV.pure.pures args then match K f args .lf 0 0 with
   | some (v,H1,_)=>(frz H1.get 0 v).map fun v'=>⟨v',H,n,[]⟩
   | none=>none
  else match snap.snaps H.get args with
   | some args'=>match K f args' .lf 0 0 with
    | some (v,_,_)=>if v.flat then some ⟨v,H,n,[.rA]⟩ else none
    | none=>none
   | none=>none
def putL (L:PT LV):List (Nat×LV)→PT LV
 | []=>L
 | (k,v)::r=>putL (L.put k (some v)) r
def putH (H:PT HB):List (Nat×Option HB)→PT HB
 | []=>H
 | (k,v)::r=>putH (H.put k v) r
def putT (T:PT DV) (dst:Option Nat) (v:DV):PT DV:=
 match dst with
 | some d=>T.put d (some v)
 | none=>T
section
variable (G:Nat→Option (List IV)) (K:Callee) (lo:Nat)
def zNP (o:DO) (s:St):Option (St×List Acc):=
 let wanted:Option Bool:=match o.guard with
  | none=>some true
  | some (g,w)=>match s.T.get g with
   | some (.imm (.bool b))=>some (b==w)
   | some (.imm .undef)=>some false
   | _=>none
 match wanted with
 | none=>none
 | some false=>some ({ s with T:=putT s.T o.dst (.imm .undef) },[])
 | some true=>match o.op with
  | .call m f args=>match evs G s.T.get args with
   | some vs=>(zDz K m f vs s.H s.n lo).map fun e=>({ s with T:=putT s.T o.dst e.v,H:=e.H',n:=e.n' },e.acc)
   | none=>none
  | .calld m f args=>match ev G s.T.get f,evs G s.T.get args with
   | some (.fnc g caps),some vs=>(zDz K m g (vs++caps) s.H s.n lo).map fun e=>({ s with T:=putT s.T o.dst e.v,H:=e.H',n:=e.n' },e.acc)
   | _,_=>none
  | op=>(zGm G s.T.get s.L.get s.H.get s.n lo (o.dst.getD 0) op).map fun e=>
    (⟨putT s.T o.dst e.v,putL s.L e.lw,putH s.H e.hw,e.n'⟩,e.acc)
def zNV:List DO→St→Option (St×List (List Acc))
 | [],s=>some (s,[])
 | o::os,s=>match zNP G K lo o s with
  | some (s',a)=>(zNV os s').map fun r=>(r.1,a::r.2)
  | none=>none
def Acc.clash:Acc→Acc→Bool
 | .rL a,.wL b | .wL a,.rL b | .wL a,.wL b=>a==b
 | .rX a,.wX b | .wX a,.rX b | .wX a,.wX b=>a==b
 | .rX _,.wA | .wX _,.wA | .wA,.rX _ | .wA,.wX _ | .wA,.wA | .wA,.rA | .rA,.wA | .rA,.wX _ | .wX _,.rA=>true
 | _,_=>false
def zES (a b:List Acc):Bool:=a.any fun x=>b.any fun y=>x.clash y
def calm (bef:List (List Nat)) (accs:List (List Acc)):Bool:=
 accs.zipIdx.all fun (b,j)=>b.isEmpty||accs.zipIdx.all fun (a,i)=>!(decide (i<j))||a.isEmpty||(bef.getD j []).contains i||!zES a b
def keep {α:Type}(t:PT α):List Nat→PT α
 | []=>.lf
 | k::ks=>(keep t ks).put k (t.get k)
def iter (f:St→Option (Ex×St)):Nat→St→Option (Ex×St)
 | 0,_=>none
 | k+1,s=>match f s with
  | some (.norm,s')=>iter f k s'
  | r=>r
def LOOP:Nat:=2 ^ 62
def DC.run:DC→St→Option (Ex×St)
 | .skip,s=>some (.norm,s)
 | .reg ops,s=>(zNV G K lo ops s).map fun r=>(.norm,r.1)
 | .drw ops bef,s=>match zNV G K lo ops s with
  | some (s',accs)=>if calm bef accs then some (.norm,s') else none
  | none=>none
 | .seq a b,s=>match a.run s with
  | some (.norm,s')=>b.run s'
  | r=>r
 | .cond c a b,s=>match ev G s.T.get c with
  | some (.imm (.bool true))=>a.run s
  | some (.imm (.bool false))=>b.run s
  | _=>none
 | .block id b,s=>match b.run s with
  | some (.exit i,s')=>if i=id then some (.norm,s') else some (.exit i,s')
  | r=>r
 | .loop live own b,s=>iter (fun s=>b.run { s with T:=keep s.T live,L:=keep s.L own }) LOOP s
 | .exit id,s=>some (.exit id,s)
 | .ret,s=>some (.ret,s)
end
def zOs (s:St):DRes→Option DV
 | .t k=>s.T.get k
 | .cell slot k agg=>match s.T.get slot,s.L.get slot with
  | some (.lref sl id 0),some (.box id' cells)=>if sl=slot∧id=id' then
    match cut cells 0 k with
    | some r=>zMy agg r
    | none=>none
   else none
  | _,_=>none
def zOy (s:St):List DRes→Option (List DV)
 | []=>some []
 | r::rs=>match zOs s r,zOy s rs with
  | some v,some vs=>some (v::vs)
  | _,_=>none
def zCi:Nat→List DV→PT DV
 | _,[]=>.lf
 | i,v::vs=>(zCi (i+1) vs).put i (some v)
inductive Entry where
 | fn (f:DFn)
 | prim (g:List DV→PT HB→Nat→Nat→Option (DV×PT HB×Nat))
def DFn.run (G:Nat→Option (List IV)) (K:Callee) (fn:DFn) (args:List DV) (H:PT HB) (n lo:Nat):Option (DV×PT HB×Nat):=
 if args.length=fn.np then
  match fn.body.run G K lo ⟨zCi 0 args,.lf,H,n⟩ with
  | some (.norm,s) | some (.ret,s)=>match zOy s fn.res with
   | some [v]=>if v.out then some (v,s.H,s.n) else none
   | some vs=>if DV.out.outs vs then some (.tup vs,s.H,s.n) else none
   | none=>none
  | _=>none
 else none
def zFP (G:Nat→Option (List IV)) (D:FuncId→Option Entry):Nat→Callee
 | 0,_,_,_,_,_=>none
 | d+1,f,args,H,n,lo=>match D f with
  | some (.fn fn)=>fn.run G (zFP G D d) args H n lo
  | some (.prim g)=>g args H n lo
  | none=>none
end
end Go.PM
