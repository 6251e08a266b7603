/-
  Is D's code that of a loaded function? Looks that the kernel makes.
-/
import Derived.Test.YtlknjgmhfimhbaaGreatDoorDef
set_option linter.unusedVariables false
set_option linter.unusedSimpArgs false
namespace Go.PM
def zQI:Value→IV→Bool
 | .bool a,.bool b=>a==b
 | .int k a,.int k' b=>decide (k=k')&&a==b
 | .string s,.str l=>s.data.toList==l
 | .pointer none,.nilp=>true
 | .slice none 0 0,.nils=>true
 | .nilFunc,.nilf=>true
 | .nilIface,.nili=>true
 | .tuple ⟨[]⟩,.undef=>true
 | _,_=>false
def zQK:List Value→List IV→Bool
 | [],[]=>true
 | v::vs,i::is=>zQI v i&&zQK vs is
 | _,_=>false
def zNA:Operand→Opd→Bool
 | .tmp t,.t k=>t==k
 | .const (.func (.func f) ⟨[]⟩ ⟨[]⟩),.f g=>f==g
 | .const v,.k i=>zQI v i
 | .func f,.f g=>f==g
 | .global g,.g h=>g==h
 | _,_=>false
def zNE:List Operand→List Opd→Bool
 | [],[]=>true
 | x::xs,y::ys=>zNA x y&&zNE xs ys
 | _,_=>false
def zNB:Option Operand→Option Opd→Bool
 | none,none=>true
 | some x,some y=>zNA x y
 | _,_=>false
section
variable (P:Program)
def szOk (t:TypeId) (n:Nat):Bool:=match P.info? t with
 | some i=>i.size==n
 | none=>false
def btOk (t:TypeId) (n:Nat):Bool:=match P.info? t with
 | some i=>i.bytes==n
 | none=>false
def zB1 (t:TypeId) (agg:Bool):Bool:=match P.underlying t with
 | some (.struct _) | some (.array ..)=>agg
 | some _=>!agg
 | none=>false
def zMX (z:List IV):Bool:=z.all fun i=>match i with | .undef=>false | _=>true
def zTq (t:TypeId) (z:List IV):Bool:=match P.info? t with
 | some i=>match i.zero with
  | some v=>zQK v.cells.toList z&&zMX z
  | none=>false
 | none=>false
def zTn (t:TypeId) (s:Nat):Bool:=match P.info? t with
 | some i=>match i.zero with
  | some v=>v.cells.size==s
  | none=>false
 | none=>false
def zTo (t:TypeId) (z:IV):Bool:=match P.info? t with
 | some i=>match i.zero with
  | some v=>zQI v z
  | none=>false
 | none=>false
def zRA (t:TypeId) (s:Nat):Bool:=match P.underlying t with
 | some (.slice e)=>szOk P e s
 | _=>false
def zHX (t:TypeId) (f off:Nat):Bool:=match P.underlying t with
 | some (.struct fs)=>match fs[f]? with
  | some x=>x.offset==off&&(match P.info? x.type with | some i=>i.size != 0 | none=>false)
  | none=>false
 | _=>false
def zHW (t:TypeId) (f off n:Nat) (agg:Bool):Bool:=match P.underlying t with
 | some (.struct fs)=>match fs[f]? with
  | some x=>x.offset==off&&szOk P x.type n&&zB1 P x.type agg
  | none=>false
 | _=>false
def skOk (t:TypeId):SK→Bool
 | .i=>match P.underlying t with | some (.int _)=>true | _=>false
 | .s=>match P.underlying t with | some .string=>true | _=>false
 | .b=>match P.underlying t with | some .bool=>true | _=>false
def stOk:Nat→List Field→List SK→Bool
 | _,[],[]=>true
 | i, f :: fs, k :: ks => f.name != "_" && f.offset == i && skOk P f.type k && stOk (i + 1) fs ks
 | _,_,_=>false
def etOk (t:TypeId):ET→Bool
 | .sc=>true
 | .bl=>match P.underlying t with | some .bool=>true | _=>false
 | .np=>match P.underlying t with | some (.pointer _)=>true | _=>false
 | .ns=>match P.underlying t with | some (.slice _)=>true | _=>false
 | .nf=>match P.underlying t with | some (.func ..)=>true | _=>false
 | .ni=>match P.underlying t with | some (.interface _)=>true | _=>false
 | .st ks=>match P.underlying t with
  | some (.struct fs)=>stOk P 0 fs.toList ks&&!P.stoodInHeld t&&!P.eqGuardType P.depth t
  | _=>false
def zNu (fs:Array Field):List (Nat×Operand)→List (Nat×Nat×Opd)→Bool
 | [],[]=>true
 | (i,x)::ps,(off,n,y)::qs=>(match fs[i]? with | some f=>f.offset==off&&szOk P f.type n | none=>false)&&zNA x y&&zNu fs ps qs
 | _,_=>false
def zNt (e:TypeId) (n:Nat):List (Nat×Operand)→List (Nat×Nat×Opd)→Bool
 | [],[]=>true
 | (i,x)::ps,(off,k,y)::qs=>off==i*n&&k==n&&zNA x y&&zNt e n ps qs
 | _,_=>false
def zNv:List (Nat×Operand)→List (Nat×Opd)→Bool
 | [],[]=>true
 | (i,x)::ps,(j,y)::qs=>i==j&&zNA x y&&zNv ps qs
 | _,_=>false
def zCC (fs:Array Field):Bool:=fs.all fun f=>(P.info? f.type).isSome
def okOp (dst:Option Nat):Op→DOp→Bool
 | .move x,.mv y=>zNA x y
 | .assign x,.mv y=>zNA x y
 | .pick c a b,.pick c' a' b'=>zNA c c'&&zNA a a'&&zNA b b'
 | .nilCheck x,.nilck y=>zNA x y
 | .panic _,.nilck (.k .nilp)=>true
 | .binOp op t x y _,.bin op' e x' y'=>decide (op=op')&&etOk P t e&&zNA x x'&&zNA y y'
 | .unOp op _ x,.un op' y=>decide (op=op')&&zNA x y
 | .convert s d x,.cvI k y=>zNA x y&&(match P.underlying s,P.underlying d with | some (.int _),some (.int k')=>decide (k'=k) | _,_=>false)
 | .convert s d x,.cvBS y=>zNA x y&&(match P.underlying s,P.underlying d with
   | some (.slice e),some .string=>szOk P e 1&&(match P.underlying e with | some (.int .u8)=>true | _=>false)
   | _,_=>false)
 | .convert s d x,.cvSB y=>zNA x y&&(match P.underlying s,P.underlying d with
   | some .string,some (.slice e)=>(match P.underlying e with | some (.int .u8)=>true | _=>false)
   | _,_=>false)
 | .convert s d x,.cvBB y=>s==d&&zNA x y&&(match P.underlying d with
   | some (.slice e)=>(match P.underlying e with | some (.int .u8)=>true | _=>false)
   | _=>false)
 | .makeInterface t x,.mkI t' y=>t==t'&&zNA x y&&(match P.underlying t with | some (.interface _)=>false | some _=>true | none=>false)
 | .typeAssert x _ t ok,.asrt t' z ok' y=>t==t'&&ok==ok'&&zNA x y&&zTo P t z&&(match P.underlying t with | some (.interface _)=>false | some _=>true | none=>false)
 | .makeFunc (.func f) first caps,.mkF g ys=>f==g&&first.isEmpty&&zNE caps.toList ys
 | .fieldAddr t x f,.fld off y=>zHX P t f off&&zNA x y
 | .indexAddr t x i,.idx s y j=>zRA P t s&&zNA x y&&zNA i j
 | .indexAddr t x i,.idxA s n y j=>(match P.underlying t with | some (.array m e)=>m==n&&szOk P e s | _=>false)&&zNA x y&&zNA i j
 | .load t x,.ld n agg y=>szOk P t n&&zB1 P t agg&&zNA x y
 | .store t x v,.st n y u=>szOk P t n&&zNA x y&&zNA v u
 | .field t x f,.part off n agg y=>zHW P t f off n agg&&zNA x y
 | .index t x i,.idxV s n agg y j=>(match P.underlying t with | some (.array m e)=>m==n&&szOk P e s&&zB1 P e agg | _=>false)&&zNA x y&&zNA i j
 | .index t x i,.idxS y j=>(match P.underlying t with | some .string=>true | _=>false)&&zNA x y&&zNA i j
 | .box _ v,.boxL u=>dst.isSome&&zNA v u
 | .box _ v,.boxH u=>zNA v u
 | .alloc t,.alL z=>dst.isSome&&zTq P t z
 | .alloc t,.alH z=>zTq P t z
 | .build t ps,.build z qs=>zTq P t z&&(match P.underlying t with
   | some (.struct fs)=>zCC P fs&&zNu P fs ps.toList qs
   | some (.array _ e)=>(match P.info? e with | some i=>zNt e i.size ps.toList qs | none=>false)
   | _=>false)
 | .buildSlice t n ps,.bsl _ s z m qs=>n==m&&(match P.underlying t with
   | some (.slice e)=>szOk P e s&&zTq P e z&&n*s≤2 ^ 24
   | _=>false)&&zNv ps.toList qs
 | .makeSlice t l c,.mks _ s b z m=>(match P.underlying t with
   | some (.slice e)=>szOk P e s&&btOk P e b&&zTq P e z
   | _=>false)&&zNA l m&&zNA c m
 | .slice t x lo hi mx,.slc s y l h m=>zRA P t s&&zNA x y&&zNB lo l&&zNB hi h&&zNB mx m
 | .slice t x lo hi none,.slS y l h=>(match P.underlying t with | some .string=>true | _=>false)&&zNA x y&&zNB lo l&&zNB hi h
 | .call { callee:=.builtin .len,args:=⟨[x]⟩,argTypes:=ts },.len y=>zNA x y&&(match ts[0]? with
   | some t=>(match P.underlying t with | some (.slice _)=>true | _=>false)
   | none=>false)
 | .call { callee:=.builtin .len,args:=⟨[x]⟩,argTypes:=ts },.lenS y=>zNA x y&&(match ts[0]? with
   | some t=>(match P.underlying t with | some .string=>true | _=>false)
   | none=>false)
 | .call { callee:=.builtin .len,args:=⟨[_]⟩,argTypes:=ts },.lenA n=>(match ts[0]? with
   | some t=>(match P.underlying t with
    | some (.array m _)=>m==n
    | some (.pointer a)=>(match P.underlying a with | some (.array m _)=>m==n | _=>false)
    | _=>false)
   | none=>false)
 | .call { callee:=.builtin .cap,args:=⟨[x]⟩,argTypes:=ts },.cap y=>zNA x y&&(match ts[0]? with
   | some t=>(match P.underlying t with | some (.slice _)=>true | _=>false)
   | none=>false)
 | .call { callee:=.builtin .min,args:=⟨[x,y]⟩,argTypes:=_ },.mn x' y'=>zNA x x'&&zNA y y'
 | .call { callee:=.builtin .max,args:=⟨[x,y]⟩,argTypes:=_ },.mx x' y'=>zNA x x'&&zNA y y'
 | .call { callee:=.builtin .append,args:=⟨[x,y]⟩,argTypes:=ts },.app s b x' y'=>zNA x x'&&zNA y y'&&(match ts[0]?,ts[1]? with
   | some t,some u=>(match P.underlying t,P.underlying u with
    | some (.slice e),some (.slice _)=>szOk P e s&&btOk P e b&&s != 0&&zTn P e s
    | some (.slice e),some .string=>szOk P e s&&btOk P e b&&s==1&&zTn P e s
    | _,_=>false)
   | _,_=>false)
 | .call { callee:=.builtin .append,args:=⟨[x,y]⟩,argTypes:=ts },.appZ s b z x' y'=>zNA x x'&&zNA y y'&&(match ts[0]?,ts[1]? with
   | some t,some u=>(match P.underlying t,P.underlying u with
    | some (.slice e),some (.int _)=>szOk P e s&&btOk P e b&&zTq P e z
    | _,_=>false)
   | _,_=>false)
 | .range t x,.rng y=>dst.isSome&&(match P.underlying t with | some .string=>true | _=>false)&&zNA x y
 | .next (.tmp it) true,.nxt s=>it==s
 | .extract x i,.ext j y=>i==j&&zNA x y
 | .call { callee:=.value x,args:=as,argTypes:=_ },.call _ f ys=>zNA x (.f f)&&zNE as.toList ys&&(match P.funcs[f]? with
   | some fn => fn.body.isSome && fn.name != "runtime.NumGoroutine"
   | none=>false)
 | .call { callee:=.value x,args:=as,argTypes:=_ },.calld _ y ys=>zNA x y&&zNE as.toList ys
 | _,_=>false
def Opd.ts:Opd→List Nat
 | .t m=>[m]
 | _=>[]
def DOp.ts:DOp→List Nat
 | .mv x | .nilck x | .un _ x | .cvI _ x | .cvBS x | .cvSB x | .cvBB x | .mkI _ x | .asrt _ _ _ x | .fld _ x | .ld _ _ x | .part _ _ _ x | .boxL x | .boxH x | .len x | .lenS x | .cap x | .rng x | .ext _ x=>x.ts
 | .pick c a b=>c.ts++a.ts++b.ts
 | .bin _ _ x y | .idx _ x y | .idxA _ _ x y | .st _ x y | .idxV _ _ _ x y | .idxS x y | .mn x y | .mx x y | .app _ _ x y | .appZ _ _ _ x y=>x.ts++y.ts
 | .mkF _ xs=>xs.flatMap Opd.ts
 | .alL _ | .alH _ | .lenA _=>[]
 | .build _ ps=>ps.flatMap fun p=>p.2.2.ts
 | .bsl _ _ _ _ ps=>ps.flatMap fun p=>p.2.ts
 | .mks _ _ _ _ l=>l.ts
 | .slc _ x l h m=>x.ts++(l.map Opd.ts).getD []++(h.map Opd.ts).getD []++(m.map Opd.ts).getD []
 | .slS x l h=>x.ts++(l.map Opd.ts).getD []++(h.map Opd.ts).getD []
 | .nxt s=>[s]
 | .call _ _ as=>as.flatMap Opd.ts
 | .calld _ f as=>f.ts++as.flatMap Opd.ts
def DO.ts (o:DO):List Nat:=o.op.ts++(match o.guard with | some (g,_)=>[g] | none=>[])
def okO (ntmps:Nat) (ops:Array Oper) (o:Oper) (d:DO):Bool:=
 decide (o.dst=d.dst)&&(match d.dst with | some k=>decide (k<ntmps) | none=>true)&&okOp P o.dst o.op d.op &&
 (match o.guard,d.guard with
  | none,none=>true
  | some (j,w),some (g,w')=>w==w'&&decide ((ops[j]?).bind (·.dst)=some g)
  | _,_=>false)
def okOs (ntmps:Nat) (ops:Array Oper):List Oper→List DO→Bool
 | [],[]=>true
 | o::os,d::ds=>okO P ntmps ops o d&&okOs ntmps ops os ds
 | _,_=>false
def zRC (a b:DO):Bool:=
 (match a.dst with | some k=>!(b.ts.contains k)&&decide (b.dst≠some k) | none=>true) &&
 (match b.dst with | some k=>!(a.ts.contains k) | none=>true)
def zB4 (ops:List Oper):List (List Nat):=
 ops.foldl (fun acc o=>acc++[o.after.toList.foldl (fun s e=>if Region.binds .any e then (if s.contains e.on then s else e.on::s)++((acc.getD e.on []).filter fun x=>!(e.on::s).contains x) else s) []]) []
def ahOk (ops:List Oper):Bool:=(ops.zipIdx).all fun (o,i)=>o.after.toList.all fun e=>!Region.binds .any e||decide (e.on<i)
def zC9 (ah:List (List Nat)) (bef:List (List Nat)):Bool:=bef.zipIdx.all fun (l,j)=>l.all fun i=>(ah.getD j []).contains i
def zNq (ah:List (List Nat)) (ds:List DO):Bool:=
 ds.zipIdx.all fun (b,j)=>ds.zipIdx.all fun (a,i)=>!(decide (i<j))||(ah.getD j []).contains i||zRC a b
def okC (ntmps:Nat):Code→DC→Bool
 | .skip,.skip=>true
 | .label _,.skip=>true
 | .region _ ops dr,.skip=>ops.isEmpty&&!dr
 | .region _ ops false,.reg ds=>okOs P ntmps ops ops.toList ds
 | .region _ ops true,.drw ds bef=>okOs P ntmps ops ops.toList ds&&ahOk ops.toList&&(let ah:=zB4 ops.toList; zC9 ah bef&&zNq ah ds)
 | .seq a b,.seq x y=>okC ntmps a x&&okC ntmps b y
 | .seq .skip b,y=>okC ntmps b y
 | .cond c a b,.cond x y z=>zNA c x&&okC ntmps a y&&okC ntmps b z
 | .block i b,.block j y=>i==j&&okC ntmps b y
 | .loop b,.loop _ _ y=>okC ntmps b y
 | .exit i,.exit j=>i==j
 | .scope b,y=>okC ntmps b y
 | .ret,.ret=>true
 | _,_=>false
end
end Go.PM
