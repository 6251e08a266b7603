/-
  Is D's code that of a loaded function? Looks that the kernel makes.
-/
import Derived.Test.YtlknjgmhfimhbaaGreatDoorDef
set_option linter.unusedVariables false
set_option linter.unusedSimpArgs false
namespace Go.PM
def sameIV:Value→IV→Bool
 | .bool a,.bool b=>a==b
 | .int k a,.int k' b=>decide (k=k')&&a==b
 | .string s,.str l=>s.data.toList==l
 | .pointer none,.nilp=>true
 | .slice none 0 0,.nils=>true
 | .nilFunc,.nilf=>true
 | .nilIface,.nili=>true
 | .tuple ⟨[]⟩,.undef=>true
 | _,_=>false
def sameIVs:List Value→List IV→Bool
 | [],[]=>true
 | v::vs,i::is=>sameIV v i&&sameIVs vs is
 | _,_=>false
def okOpd:Operand→Opd→Bool
 | .tmp t,.t k=>t==k
 | .const (.func (.func f) ⟨[]⟩ ⟨[]⟩),.f g=>f==g
 | .const v,.k i=>sameIV v i
 | .func f,.f g=>f==g
 | .global g,.g h=>g==h
 | _,_=>false
def okOpds:List Operand→List Opd→Bool
 | [],[]=>true
 | x::xs,y::ys=>okOpd x y&&okOpds xs ys
 | _,_=>false
def okOpdO:Option Operand→Option Opd→Bool
 | none,none=>true
 | some x,some y=>okOpd x y
 | _,_=>false
section
variable (P:Program)
def szOk (t:TypeId) (n:Nat):Bool:=match P.info? t with
 | some i=>i.size==n
 | none=>false
def btOk (t:TypeId) (n:Nat):Bool:=match P.info? t with
 | some i=>i.bytes==n
 | none=>false
def aggOk (t:TypeId) (agg:Bool):Bool:=match P.underlying t with
 | some (.struct _) | some (.array ..)=>agg
 | some _=>!agg
 | none=>false
def noUndef (z:List IV):Bool:=z.all fun i=>match i with | .undef=>false | _=>true
def zeroOk (t:TypeId) (z:List IV):Bool:=match P.info? t with
 | some i=>match i.zero with
  | some v=>sameIVs v.cells.toList z&&noUndef z
  | none=>false
 | none=>false
def zSzOk (t:TypeId) (s:Nat):Bool:=match P.info? t with
 | some i=>match i.zero with
  | some v=>v.cells.size==s
  | none=>false
 | none=>false
def zero1Ok (t:TypeId) (z:IV):Bool:=match P.info? t with
 | some i=>match i.zero with
  | some v=>sameIV v z
  | none=>false
 | none=>false
def sliceOk (t:TypeId) (s:Nat):Bool:=match P.underlying t with
 | some (.slice e)=>szOk P e s
 | _=>false
def fieldOk (t:TypeId) (f off:Nat):Bool:=match P.underlying t with
 | some (.struct fs)=>match fs[f]? with
  | some x=>x.offset==off&&(match P.info? x.type with | some i=>i.size != 0 | none=>false)
  | none=>false
 | _=>false
def fieldNOk (t:TypeId) (f off n:Nat) (agg:Bool):Bool:=match P.underlying t with
 | some (.struct fs)=>match fs[f]? with
  | some x=>x.offset==off&&szOk P x.type n&&aggOk P x.type agg
  | none=>false
 | _=>false
def skOk (t:TypeId):SK→Bool
 | .i=>match P.underlying t with | some (.int _)=>true | _=>false
 | .s=>match P.underlying t with | some .string=>true | _=>false
 | .b=>match P.underlying t with | some .bool=>true | _=>false
def stOk:Nat→List Field→List SK→Bool
 | _,[],[]=>true
 | i, f :: fs, k :: ks => f.name != "_" && f.offset == i && skOk P f.type k && stOk (i + 1) fs ks
 | _,_,_=>false
def etOk (t:TypeId):ET→Bool
 | .sc=>true
 | .bl=>match P.underlying t with | some .bool=>true | _=>false
 | .np=>match P.underlying t with | some (.pointer _)=>true | _=>false
 | .ns=>match P.underlying t with | some (.slice _)=>true | _=>false
 | .nf=>match P.underlying t with | some (.func ..)=>true | _=>false
 | .ni=>match P.underlying t with | some (.interface _)=>true | _=>false
 | .st ks=>match P.underlying t with
  | some (.struct fs)=>stOk P 0 fs.toList ks&&!P.stoodInHeld t&&!P.eqGuardType P.depth t
  | _=>false
def partsOk (fs:Array Field):List (Nat×Operand)→List (Nat×Nat×Opd)→Bool
 | [],[]=>true
 | (i,x)::ps,(off,n,y)::qs=>(match fs[i]? with | some f=>f.offset==off&&szOk P f.type n | none=>false)&&okOpd x y&&partsOk fs ps qs
 | _,_=>false
def partsAOk (e:TypeId) (n:Nat):List (Nat×Operand)→List (Nat×Nat×Opd)→Bool
 | [],[]=>true
 | (i,x)::ps,(off,k,y)::qs=>off==i*n&&k==n&&okOpd x y&&partsAOk e n ps qs
 | _,_=>false
def partsSOk:List (Nat×Operand)→List (Nat×Opd)→Bool
 | [],[]=>true
 | (i,x)::ps,(j,y)::qs=>i==j&&okOpd x y&&partsSOk ps qs
 | _,_=>false
def allSz (fs:Array Field):Bool:=fs.all fun f=>(P.info? f.type).isSome
def okOp (dst:Option Nat):Op→DOp→Bool
 | .move x,.mv y=>okOpd x y
 | .assign x,.mv y=>okOpd x y
 | .pick c a b,.pick c' a' b'=>okOpd c c'&&okOpd a a'&&okOpd b b'
 | .nilCheck x,.nilck y=>okOpd x y
 | .panic _,.nilck (.k .nilp)=>true
 | .binOp op t x y _,.bin op' e x' y'=>decide (op=op')&&etOk P t e&&okOpd x x'&&okOpd y y'
 | .unOp op _ x,.un op' y=>decide (op=op')&&okOpd x y
 | .convert s d x,.cvI k y=>okOpd x y&&(match P.underlying s,P.underlying d with | some (.int _),some (.int k')=>decide (k'=k) | _,_=>false)
 | .convert s d x,.cvBS y=>okOpd x y&&(match P.underlying s,P.underlying d with
   | some (.slice e),some .string=>szOk P e 1&&(match P.underlying e with | some (.int .u8)=>true | _=>false)
   | _,_=>false)
 | .convert s d x,.cvSB y=>okOpd x y&&(match P.underlying s,P.underlying d with
   | some .string,some (.slice e)=>(match P.underlying e with | some (.int .u8)=>true | _=>false)
   | _,_=>false)
 | .convert s d x,.cvBB y=>s==d&&okOpd x y&&(match P.underlying d with
   | some (.slice e)=>(match P.underlying e with | some (.int .u8)=>true | _=>false)
   | _=>false)
 | .makeInterface t x,.mkI t' y=>t==t'&&okOpd x y&&(match P.underlying t with | some (.interface _)=>false | some _=>true | none=>false)
 | .typeAssert x _ t ok,.asrt t' z ok' y=>t==t'&&ok==ok'&&okOpd x y&&zero1Ok P t z&&(match P.underlying t with | some (.interface _)=>false | some _=>true | none=>false)
 | .makeFunc (.func f) first caps,.mkF g ys=>f==g&&first.isEmpty&&okOpds caps.toList ys
 | .fieldAddr t x f,.fld off y=>fieldOk P t f off&&okOpd x y
 | .indexAddr t x i,.idx s y j=>sliceOk P t s&&okOpd x y&&okOpd i j
 | .indexAddr t x i,.idxA s n y j=>(match P.underlying t with | some (.array m e)=>m==n&&szOk P e s | _=>false)&&okOpd x y&&okOpd i j
 | .load t x,.ld n agg y=>szOk P t n&&aggOk P t agg&&okOpd x y
 | .store t x v,.st n y u=>szOk P t n&&okOpd x y&&okOpd v u
 | .field t x f,.part off n agg y=>fieldNOk P t f off n agg&&okOpd x y
 | .index t x i,.idxV s n agg y j=>(match P.underlying t with | some (.array m e)=>m==n&&szOk P e s&&aggOk P e agg | _=>false)&&okOpd x y&&okOpd i j
 | .index t x i,.idxS y j=>(match P.underlying t with | some .string=>true | _=>false)&&okOpd x y&&okOpd i j
 | .box _ v,.boxL u=>dst.isSome&&okOpd v u
 | .box _ v,.boxH u=>okOpd v u
 | .alloc t,.alL z=>dst.isSome&&zeroOk P t z
 | .alloc t,.alH z=>zeroOk P t z
 | .build t ps,.build z qs=>zeroOk P t z&&(match P.underlying t with
   | some (.struct fs)=>allSz P fs&&partsOk P fs ps.toList qs
   | some (.array _ e)=>(match P.info? e with | some i=>partsAOk e i.size ps.toList qs | none=>false)
   | _=>false)
 | .buildSlice t n ps,.bsl _ s z m qs=>n==m&&(match P.underlying t with
   | some (.slice e)=>szOk P e s&&zeroOk P e z&&n*s≤2 ^ 24
   | _=>false)&&partsSOk ps.toList qs
 | .makeSlice t l c,.mks _ s b z m=>(match P.underlying t with
   | some (.slice e)=>szOk P e s&&btOk P e b&&zeroOk P e z
   | _=>false)&&okOpd l m&&okOpd c m
 | .slice t x lo hi mx,.slc s y l h m=>sliceOk P t s&&okOpd x y&&okOpdO lo l&&okOpdO hi h&&okOpdO mx m
 | .slice t x lo hi none,.slS y l h=>(match P.underlying t with | some .string=>true | _=>false)&&okOpd x y&&okOpdO lo l&&okOpdO hi h
 | .call { callee:=.builtin .len,args:=⟨[x]⟩,argTypes:=ts },.len y=>okOpd x y&&(match ts[0]? with
   | some t=>(match P.underlying t with | some (.slice _)=>true | _=>false)
   | none=>false)
 | .call { callee:=.builtin .len,args:=⟨[x]⟩,argTypes:=ts },.lenS y=>okOpd x y&&(match ts[0]? with
   | some t=>(match P.underlying t with | some .string=>true | _=>false)
   | none=>false)
 | .call { callee:=.builtin .len,args:=⟨[_]⟩,argTypes:=ts },.lenA n=>(match ts[0]? with
   | some t=>(match P.underlying t with
    | some (.array m _)=>m==n
    | some (.pointer a)=>(match P.underlying a with | some (.array m _)=>m==n | _=>false)
    | _=>false)
   | none=>false)
 | .call { callee:=.builtin .cap,args:=⟨[x]⟩,argTypes:=ts },.cap y=>okOpd x y&&(match ts[0]? with
   | some t=>(match P.underlying t with | some (.slice _)=>true | _=>false)
   | none=>false)
 | .call { callee:=.builtin .min,args:=⟨[x,y]⟩,argTypes:=_ },.mn x' y'=>okOpd x x'&&okOpd y y'
 | .call { callee:=.builtin .max,args:=⟨[x,y]⟩,argTypes:=_ },.mx x' y'=>okOpd x x'&&okOpd y y'
 | .call { callee:=.builtin .append,args:=⟨[x,y]⟩,argTypes:=ts },.app s b x' y'=>okOpd x x'&&okOpd y y'&&(match ts[0]?,ts[1]? with
   | some t,some u=>(match P.underlying t,P.underlying u with
    | some (.slice e),some (.slice _)=>szOk P e s&&btOk P e b&&s != 0&&zSzOk P e s
    | some (.slice e),some .string=>szOk P e s&&btOk P e b&&s==1&&zSzOk P e s
    | _,_=>false)
   | _,_=>false)
 | .call { callee:=.builtin .append,args:=⟨[x,y]⟩,argTypes:=ts },.appZ s b z x' y'=>okOpd x x'&&okOpd y y'&&(match ts[0]?,ts[1]? with
   | some t,some u=>(match P.underlying t,P.underlying u with
    | some (.slice e),some (.int _)=>szOk P e s&&btOk P e b&&zeroOk P e z
    | _,_=>false)
   | _,_=>false)
 | .range t x,.rng y=>dst.isSome&&(match P.underlying t with | some .string=>true | _=>false)&&okOpd x y
 | .next (.tmp it) true,.nxt s=>it==s
 | .extract x i,.ext j y=>i==j&&okOpd x y
 | .call { callee:=.value x,args:=as,argTypes:=_ },.call _ f ys=>okOpd x (.f f)&&okOpds as.toList ys&&(match P.funcs[f]? with
   | some fn => fn.body.isSome && fn.name != "runtime.NumGoroutine"
   | none=>false)
 | .call { callee:=.value x,args:=as,argTypes:=_ },.calld _ y ys=>okOpd x y&&okOpds as.toList ys
 | _,_=>false
def Opd.ts:Opd→List Nat
 | .t m=>[m]
 | _=>[]
def DOp.ts:DOp→List Nat
 | .mv x | .nilck x | .un _ x | .cvI _ x | .cvBS x | .cvSB x | .cvBB x | .mkI _ x | .asrt _ _ _ x | .fld _ x | .ld _ _ x | .part _ _ _ x | .boxL x | .boxH x | .len x | .lenS x | .cap x | .rng x | .ext _ x=>x.ts
 | .pick c a b=>c.ts++a.ts++b.ts
 | .bin _ _ x y | .idx _ x y | .idxA _ _ x y | .st _ x y | .idxV _ _ _ x y | .idxS x y | .mn x y | .mx x y | .app _ _ x y | .appZ _ _ _ x y=>x.ts++y.ts
 | .mkF _ xs=>xs.flatMap Opd.ts
 | .alL _ | .alH _ | .lenA _=>[]
 | .build _ ps=>ps.flatMap fun p=>p.2.2.ts
 | .bsl _ _ _ _ ps=>ps.flatMap fun p=>p.2.ts
 | .mks _ _ _ _ l=>l.ts
 | .slc _ x l h m=>x.ts++(l.map Opd.ts).getD []++(h.map Opd.ts).getD []++(m.map Opd.ts).getD []
 | .slS x l h=>x.ts++(l.map Opd.ts).getD []++(h.map Opd.ts).getD []
 | .nxt s=>[s]
 | .call _ _ as=>as.flatMap Opd.ts
 | .calld _ f as=>f.ts++as.flatMap Opd.ts
def DO.ts (o:DO):List Nat:=o.op.ts++(match o.guard with | some (g,_)=>[g] | none=>[])
def okO (ntmps:Nat) (ops:Array Oper) (o:Oper) (d:DO):Bool:=
 decide (o.dst=d.dst)&&(match d.dst with | some k=>decide (k<ntmps) | none=>true)&&okOp P o.dst o.op d.op &&
 (match o.guard,d.guard with
  | none,none=>true
  | some (j,w),some (g,w')=>w==w'&&decide ((ops[j]?).bind (·.dst)=some g)
  | _,_=>false)
def okOs (ntmps:Nat) (ops:Array Oper):List Oper→List DO→Bool
 | [],[]=>true
 | o::os,d::ds=>okO P ntmps ops o d&&okOs ntmps ops os ds
 | _,_=>false
def slotsApart (a b:DO):Bool:=
 (match a.dst with | some k=>!(b.ts.contains k)&&decide (b.dst≠some k) | none=>true) &&
 (match b.dst with | some k=>!(a.ts.contains k) | none=>true)
def aheads (ops:List Oper):List (List Nat):=
 ops.foldl (fun acc o=>acc++[o.after.toList.foldl (fun s e=>if Region.binds .any e then (if s.contains e.on then s else e.on::s)++((acc.getD e.on []).filter fun x=>!(e.on::s).contains x) else s) []]) []
def ahOk (ops:List Oper):Bool:=(ops.zipIdx).all fun (o,i)=>o.after.toList.all fun e=>!Region.binds .any e||decide (e.on<i)
def befOk (ah:List (List Nat)) (bef:List (List Nat)):Bool:=bef.zipIdx.all fun (l,j)=>l.all fun i=>(ah.getD j []).contains i
def pairsOk (ah:List (List Nat)) (ds:List DO):Bool:=
 ds.zipIdx.all fun (b,j)=>ds.zipIdx.all fun (a,i)=>!(decide (i<j))||(ah.getD j []).contains i||slotsApart a b
def okC (ntmps:Nat):Code→DC→Bool
 | .skip,.skip=>true
 | .label _,.skip=>true
 | .region _ ops dr,.skip=>ops.isEmpty&&!dr
 | .region _ ops false,.reg ds=>okOs P ntmps ops ops.toList ds
 | .region _ ops true,.drw ds bef=>okOs P ntmps ops ops.toList ds&&ahOk ops.toList&&(let ah:=aheads ops.toList; befOk ah bef&&pairsOk ah ds)
 | .seq a b,.seq x y=>okC ntmps a x&&okC ntmps b y
 | .seq .skip b,y=>okC ntmps b y
 | .cond c a b,.cond x y z=>okOpd c x&&okC ntmps a y&&okC ntmps b z
 | .block i b,.block j y=>i==j&&okC ntmps b y
 | .loop b,.loop _ _ y=>okC ntmps b y
 | .exit i,.exit j=>i==j
 | .scope b,y=>okC ntmps b y
 | .ret,.ret=>true
 | _,_=>false
end
end Go.PM
