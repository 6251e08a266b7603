/-
  D's functions of this seat, printed by program out of the translation.
-/
import Derived.Test.YtlknjgmhfimhbaaGreatDoorRun
import Derived.Test.YtlknjgmhfimhbaaGreatDoorPrim
set_option maxRecDepth 100000
namespace Go.Proofs.YtlknjgmhfimhbaaGreatDoor.D
open Go Go.PM
abbrev om (a b:Nat):DO:=⟨some a,.mv (.t b),none⟩
abbrev omt (a b c:Nat):DO:=⟨some a,.mv (.t b),some (c,true)⟩
abbrev omf (a b c:Nat):DO:=⟨some a,.mv (.t b),some (c,false)⟩
abbrev oo (a:Nat) (o:DOp):DO:=⟨some a,o,none⟩
abbrev ot (a b:Nat) (o:DOp):DO:=⟨some a,o,some (b,true)⟩
abbrev of (a b:Nat) (o:DOp):DO:=⟨some a,o,some (b,false)⟩
abbrev on (o:DOp):DO:=⟨none,o,none⟩
abbrev oN (a b:Nat):DO:=⟨some a,.nilck (.t b),none⟩
abbrev oF (a k b:Nat):DO:=⟨some a,.fld k (.t b),none⟩
abbrev oL (a b:Nat):DO:=⟨some a,.ld 1 false (.t b),none⟩
abbrev oI (a:Nat) (o:BinOp) (b:Nat) (c:Int):DO:=⟨some a,.bin o .sc (.t b) (.k (.int .i64 c)),none⟩
abbrev oB (a:Nat) (o:BinOp) (b c:Nat):DO:=⟨some a,.bin o .sc (.t b) (.t c),none⟩
abbrev oO (a b c:Nat):DO:=⟨some a,.pick (.t b) (.k (.bool true)) (.t c),none⟩
abbrev oA (a b c:Nat):DO:=⟨some a,.pick (.t b) (.t c) (.k (.bool false)),none⟩
abbrev oE (a i b:Nat):DO:=⟨some a,.ext i (.t b),none⟩
abbrev fI (a g:Nat) (o:BinOp) (b:Nat) (c:Int):DO:=⟨some a,.bin o .sc (.t b) (.k (.int .i64 c)),some (g,false)⟩
abbrev tI (a g:Nat) (o:BinOp) (b:Nat) (c:Int):DO:=⟨some a,.bin o .sc (.t b) (.k (.int .i64 c)),some (g,true)⟩
abbrev fB (a g:Nat) (o:BinOp) (b c:Nat):DO:=⟨some a,.bin o .sc (.t b) (.t c),some (g,false)⟩
abbrev tB (a g:Nat) (o:BinOp) (b c:Nat):DO:=⟨some a,.bin o .sc (.t b) (.t c),some (g,true)⟩
abbrev oK (a:Nat) (v:IV):DO:=⟨some a,.mv (.k v),none⟩
abbrev oG (a k b:Nat):DO:=⟨some a,.ld k true (.t b),none⟩
abbrev tL (a g b:Nat):DO:=⟨some a,.ld 1 false (.t b),some (g,true)⟩
abbrev oH (a b:Nat):DO:=⟨some a,.len (.t b),none⟩
abbrev oX (a s b c:Nat):DO:=⟨some a,.idx s (.t b) (.t c),none⟩
abbrev oZ (a b:Nat):DO:=⟨some a,.boxL (.t b),none⟩
abbrev oS (k a b:Nat):DO:=⟨none,.st k (.t a) (.t b),none⟩
abbrev cb (a f:Nat) (l:List Opd):DO:=⟨some a,.call .blind f l,none⟩
abbrev cr (a f:Nat) (l:List Opd):DO:=⟨some a,.call .ro f l,none⟩
abbrev ce (a f:Nat) (l:List Opd):DO:=⟨some a,.call .eff f l,none⟩
abbrev inc (a b:Nat):DC:=.reg [oI a .add b 1,om b a]
abbrev cx (a b:Nat):DC:=.cond (.t a) .skip (.exit b)
abbrev cd (a:Nat) (x y:DC):DC:=.cond (.t a) x y
abbrev sr (x:List DO) (b:DC):DC:=.seq (.reg x) b
def l4_0b:DC:=
 .seq (sr [om 23 7,om 24 1,oH 25 24,oB 26 .lss 23 25,om 27 26,omt 28 7 27,tI 29 27 .lss 28 90,oA 30 27 29]<|cx 30 0)<|.seq (.block 1<|sr [om 33 5,om 34 1,om 35 7,oX 36 1 34 35,oL 37 36,ce 38 12 [.t 33,.t 37]]<|.seq (.drw [oG 39 4 2,om 40 5,cr 41 15 [.t 40,.k (.int .i64 0)],cb 42 16 [.t 39,.t 41],oo 43 (.un .not (.t 42)),om 44 43,of 45 44 (.ld 4 true (.t 2)),omf 46 5 44,of 47 44 (.call .ro 15 [.t 46,.k (.int .i64 1)]),of 48 44 (.call .blind 16 [.t 45,.t 47]),of 49 44 (.un .not (.t 48)),oO 50 44 49] [[],[],[],[0,2],[],[],[0,2,3],[],[0,2,3],[0,2,3,6,8],[],[]])<|cd 50 (sr [oK 4 (.bool false)]<|.ret) (.skip))<|.reg [om 31 7,oI 32 .add 31 1,om 7 32]
def l4_0:DC:=.loop [1,2,5,7] [2] l4_0b
def f4:DFn:=⟨2,[.t 4],
 sr [oZ 2 0,oK 4 (.bool false)]<|.seq (sr [oG 8 4 2,om 9 1,cb 10 8 [.t 8,.t 9],oo 11 (.un .not (.t 10))]<|cd 11 (sr [oK 4 (.bool true)]<|.ret) (.skip))<|sr [oG 13 4 2,ce 14 9 [.t 13],om 12 14,oE 15 0 12,oE 16 1 12,om 5 15,om 6 16]<|.seq (sr [om 17 6,oI 18 .neq 17 0,om 19 18,omf 20 5 19,of 21 19 (.bin .eql .np (.t 20) (.k (.nilp))),oO 22 19 21]<|cd 22 (sr [oK 4 (.bool false)]<|.ret) (.skip))<|.seq (sr [oK 7 (.int .i64 0)]<|.block 0<|l4_0)<|sr [cb 51 19 [],om 4 51]<|.ret⟩
def f8:DFn:=⟨2,[.t 4],
 sr [oZ 2 0,oK 4 (.bool false)]<|sr [oG 5 4 2,cb 6 35 [.t 5],oI 7 .lss 6 3000,om 8 7,ot 9 8 (.ld 4 true (.t 2)),ot 10 8 (.call .blind 28 [.t 9]),oA 11 8 10,om 12 11,omt 13 1 12,ot 14 12 (.call .blind 36 [.t 13]),oA 15 12 14,om 4 15]<|.ret⟩
def l9_0b:DC:=
 sr [oI 30 .lss 29 2]<|.seq (cx 30 0)<|.seq (.block 1<|sr [om 31 29,om 9 31]<|.drw [om 33 8,om 34 9,oG 35 4 1,ce 36 41 [.t 35],om 32 36,oE 37 0 32,oE 38 1 32,oN 39 33,oF 40 0 39,oo 41 (.idxA 1 2 (.t 40) (.t 34)),oS 1 41 37] [[],[],[],[2],[],[],[],[],[],[],[2,3]])<|inc 42 29
def l9_0:DC:=.loop [1,8,29] [1] l9_0b
def f9:DFn:=⟨1,[.t 2,.t 3],
 sr [oZ 1 0,oK 2 (.nilp),oK 3 (.int .i64 0)]<|sr [oG 11 4 1,ce 12 37 [.t 11],om 10 12,oE 13 0 10,oE 14 1 10,om 4 13,om 5 14]<|.seq (sr [om 15 5,oI 16 .neq 15 0]<|cd 16 (sr [om 17 5,oK 2 (.nilp),om 3 17]<|.ret) (.skip))<|sr [oG 19 4 1,ce 20 38 [.t 19],om 18 20,oE 21 0 18,oE 22 1 18,om 6 21,om 7 22]<|sr [ce 23 39 [],ce 24 40 [],om 25 6,om 26 4,oo 27 (.build [.nilp,.nilp,.nilp,.nilp,.nilp,.nilp,.int .i64 0] [(2,1,(.t 23)),(3,1,(.t 24)),(4,1,(.t 25)),(5,1,(.t 26))]),oo 28 (.boxH (.t 27)),om 8 28]<|.seq (sr [oK 29 (.int .i64 0)]<|.block 0<|l9_0)<|sr [om 43 8,om 2 43,oK 3 (.int .i64 0)]<|.ret⟩
def l12_2b:DC:=
 sr [oB 84 .lss 83 82]<|.seq (cx 84 4)<|.seq (.block 5<|sr [oX 85 1 81 83,oL 86 85,om 11 86]<|.reg [om 87 0,om 88 11,om 89 1,om 90 11,cb 91 48 [.t 89,.k (.int .i64 4),.t 90],ce 92 52 [.t 87,.t 88,.t 91]])<|inc 93 83
def l12_2:DC:=.loop [0,1,4,81,82,83] [4] l12_2b
def l12_1b:DC:=
 sr [oI 52 .lss 51 2]<|.seq (cx 52 2)<|.seq (.block 3<|sr [om 53 51,oo 54 (.idxV 1 2 false (.t 50) (.t 51)),om 7 53,om 8 54]<|sr [om 55 8,om 56 1,om 57 7,cb 58 48 [.t 56,.k (.int .i64 3),.t 57],ce 59 47 [.t 55,.t 58]]<|.reg [om 60 8,om 61 0,oN 62 61,oF 63 3 62,oL 64 63,om 65 7,ce 66 50 [.t 64,.t 65],ce 67 49 [.t 60,.t 66]])<|inc 68 51
def l12_1:DC:=.loop [0,1,4,50,51] [4] l12_1b
def l12_0b:DC:=
 sr [oB 40 .lss 39 38]<|.seq (cx 40 0)<|.seq (.block 1<|sr [oX 41 5 37 39,oG 42 5 41,oo 6 (.alL [.int .i64 0,.int .i64 0,.int .i64 0,.int .i64 0,.int .i64 0]),oS 5 6 42]<|.reg [om 43 0,oG 44 5 6,ce 45 46 [.t 43,.t 44]])<|inc 46 39
def l12_0:DC:=.loop [0,1,4,37,38,39] [4] l12_0b
def f12:DFn:=⟨2,[.cell 4 2 true],
 sr [oo 4 (.alL [.nils,.nils])]<|.seq (sr [om 13 0,oo 14 (.bin .eql .np (.t 13) (.k (.nilp)))]<|cd 14 (sr [oo 15 (.build [.nils,.nils] []),oS 2 4 15]<|.ret) (.skip))<|sr [om 16 1,om 17 1,oH 18 17,oo 19 (.mn (.t 18) (.k (.int .i64 8))),oo 20 (.slc 5 (.t 16) none (some (.t 19)) none),om 1 20]<|sr [om 21 0,oN 22 21,oF 23 6 22,oL 24 23,oI 25 .add 24 1,oN 26 21,oF 27 6 26,oS 1 27 25]<|.seq (.drw [om 28 0,oN 29 28,oF 30 2 29,oL 31 30,om 32 0,oN 33 32,oF 34 6 33,oL 35 34,ce 36 45 [.t 31,.t 35]] [[],[],[],[],[],[],[],[],[3,7]])<|.seq (sr [om 37 1,oH 38 37,oK 39 (.int .i64 0)]<|.block 0<|l12_0)<|.seq (sr [om 47 0,oN 48 47,oF 49 0 48,oG 50 2 49,oK 51 (.int .i64 0)]<|.block 2<|l12_1)<|sr [om 69 0,om 70 1,ce 71 51 [.t 69,.t 70]]<|sr [om 72 0,oN 73 72,oF 74 6 73,oL 75 74,oI 76 .add 75 1,oI 77 .rem 76 2,om 9 77]<|.seq (sr [om 78 9,om 79 9,oo 80 (.bin .sub .sc (.k (.int .i64 1)) (.t 79)),oo 81 (.bsl false 1 [.int .i64 0] 2 [(0,(.t 78)),(1,(.t 80))]),oH 82 81,oK 83 (.int .i64 0)]<|.block 4<|l12_2)<|sr [om 94 0,om 95 1,ce 96 53 [.t 94,.t 95],oo 12 (.alL [.nils,.nils]),oS 2 12 96]<|.seq (.drw [om 97 0,oN 98 97,oF 99 4 98,oL 100 99,oF 101 0 12,oL 102 101,ce 103 54 [.t 100,.t 102]] [[],[],[],[],[],[],[3,5]])<|sr [om 104 0,om 105 1,ce 106 55 [.t 104,.t 105]]<|sr [oG 107 2 12,oS 2 4 107]<|.ret⟩
def f14:DFn:=⟨1,[.t 2],
 sr [oK 2 (.int .i64 0)]<|.seq (sr [om 3 0,oo 4 (.bin .eql .np (.t 3) (.k (.nilp)))]<|cd 4 (sr [oK 2 (.int .i64 (-1))]<|.ret) (.skip))<|sr [om 5 0,oN 6 5,oF 7 2 6,oL 8 7,cr 9 56 [.t 8],om 2 9]<|.ret⟩
def f15:DFn:=⟨2,[.t 4],
 sr [oK 4 (.nils)]<|sr [om 5 0,om 6 1,cr 7 57 [.t 5,.t 6],cr 8 58 [.t 7],om 4 8]<|.ret⟩
def l16_1b:DC:=
 .seq (sr [om 31 6,om 32 5,oB 33 .lss 31 32]<|cx 33 2)<|.seq (.block 3<|sr [om 36 1,om 37 5,oX 38 4 36 37,oF 39 0 38,oL 40 39,oI 41 .neq 40 0,om 42 41,omt 43 1 42,omt 44 6 42,ot 45 42 (.idx 4 (.t 43) (.t 44)),ot 46 42 (.fld 0 (.t 45)),tL 47 42 46,tI 48 42 .neq 47 0,oA 49 42 48,om 50 49,ot 51 50 (.ld 4 true (.t 2)),omt 52 5 50,omt 53 6 50,ot 54 50 (.call .blind 60 [.t 51,.t 52,.t 53]),oA 55 50 54]<|cd 55 (sr [oK 4 (.bool false)]<|.ret) (.skip))<|.reg [om 34 6,oI 35 .add 34 1,om 6 35]
def l16_1:DC:=.loop [1,2,5,6] [2] l16_1b
def l16_0b:DC:=
 .seq (sr [om 13 5,om 14 1,oH 15 14,oB 16 .lss 13 15]<|cx 16 0)<|.seq (.block 1<|.seq (.seq (.drw [om 19 1,om 20 5,oX 21 4 19 20,oG 22 4 21,oF 23 3 2,oL 24 23,om 25 5,oX 26 6 24 25,oF 27 3 26,oL 28 27,cb 29 59 [.t 22,.t 28],oo 30 (.un .not (.t 29))] [[],[],[],[2],[],[],[],[5],[],[5,7],[2,3,5,7,9],[]])<|cd 30 (sr [oK 4 (.bool false)]<|.ret) (.skip))<|sr [oK 6 (.int .i64 0)]<|.block 2<|l16_1)<|.reg [om 17 5,oI 18 .add 17 1,om 5 18]
def l16_0:DC:=.loop [1,2,5] [2] l16_0b
def f16:DFn:=⟨2,[.t 4],
 sr [oZ 2 0,oK 4 (.bool false)]<|.seq (sr [om 7 1,oH 8 7,oF 9 3 2,oL 10 9,oH 11 10,oB 12 .neq 8 11]<|cd 12 (sr [oK 4 (.bool false)]<|.ret) (.skip))<|.seq (sr [oK 5 (.int .i64 0)]<|.block 0<|l16_0)<|sr [oK 4 (.bool true)]<|.ret⟩
def f19:DFn:=⟨0,[.t 0],
 sr [oK 0 (.bool false)]<|sr [cb 4 64 [],ce 5 9 [.t 4],om 3 5,oE 6 0 3,oE 7 1 3,om 1 6,om 2 7]<|.seq (sr [om 8 2,oI 9 .neq 8 0,om 10 9,omf 11 1 10,of 12 10 (.bin .eql .np (.t 11) (.k (.nilp))),oO 13 10 12]<|cd 13 (sr [oK 0 (.bool false)]<|.ret) (.skip))<|sr [om 14 1,ce 15 12 [.t 14,.k (.nils)]]<|sr [om 16 1,cr 17 14 [.t 16],oI 18 .eql 17 (-1),om 19 18,omt 20 1 19,ot 21 19 (.call .ro 29 [.t 20]),tI 22 19 .eql 21 1,oA 23 19 22,om 0 23]<|.ret⟩
def l28_2b:DC:=
 .seq (sr [om 113 7,oF 114 3 1,oL 115 114,oH 116 115,oB 117 .lss 113 116]<|cx 117 4)<|.seq (.block 5<|.seq (.drw [oG 120 4 1,oF 121 3 1,oL 122 121,om 123 7,oX 124 6 122 123,oG 125 6 124,cb 126 77 [.t 120,.t 125],oo 127 (.un .not (.t 126))] [[],[],[],[],[2],[2,4],[0,2,4,5],[]])<|cd 127 (sr [oK 2 (.bool false)]<|.ret) (.skip))<|.reg [om 118 7,oI 119 .add 118 1,om 7 119]
def l28_2:DC:=.loop [1,7] [1] l28_2b
def l28_1b:DC:=
 .seq (sr [om 77 6,oF 78 3 1,oL 79 78,oH 80 79,oB 81 .lss 77 80]<|cx 81 2)<|.seq (.block 3<|.reg [om 84 4,oF 85 3 1,oL 86 85,om 87 6,oX 88 6 86 87,oF 89 0 88,oL 90 89,oo 91 (.bsl false 1 [.str []] 1 [(0,(.t 90))]),oo 92 (.app 1 16 (.t 84) (.t 91)),om 4 92])<|.reg [om 82 6,oI 83 .add 82 1,om 6 83]
def l28_1:DC:=.loop [1,3,4,6] [1] l28_1b
def l28_0b:DC:=
 .seq (sr [om 42 5,oF 43 1 1,oL 44 43,oH 45 44,oB 46 .lss 42 45]<|cx 46 0)<|.seq (.block 1<|sr [om 49 3,oF 50 1 1,oL 51 50,om 52 5,oX 53 2 51 52,oF 54 0 53,oL 55 54,oo 56 (.bsl false 1 [.str []] 1 [(0,(.t 55))]),oo 57 (.app 1 16 (.t 49) (.t 56)),om 3 57]<|.seq (.drw [oF 58 1 1,oL 59 58,om 60 5,oX 61 2 59 60,oF 62 1 61,oL 63 62,oI 64 .lss 63 0,om 65 64,of 66 65 (.fld 1 (.t 1)),of 67 65 (.ld 1 false (.t 66)),omf 68 5 65,of 69 65 (.idx 2 (.t 67) (.t 68)),of 70 65 (.fld 1 (.t 69)),of 71 65 (.ld 1 false (.t 70)),of 72 65 (.fld 0 (.t 1)),of 73 65 (.ld 1 false (.t 72)),of 74 65 (.len (.t 73)),fB 75 65 .geq 71 74,oO 76 65 75] [[],[],[],[1],[],[1,3],[],[],[],[1,3,5],[],[1,3,5,9],[],[1,3,5,9,11],[],[1,3,5],[],[],[]])<|cd 76 (sr [oK 2 (.bool false)]<|.ret) (.skip))<|.reg [om 47 5,oI 48 .add 47 1,om 5 48]
def l28_0:DC:=.loop [1,3,4,5] [1] l28_0b
def f28:DFn:=⟨1,[.t 2],
 sr [oZ 1 0,oK 2 (.bool false)]<|.seq (sr [oF 8 0 1,oL 9 8,oH 10 9,oI 11 .lss 10 1,om 12 11,of 13 12 (.fld 0 (.t 1)),of 14 12 (.ld 1 false (.t 13)),of 15 12 (.len (.t 14)),fI 16 12 .gtr 15 10,oO 17 12 16,om 18 17,of 19 18 (.fld 2 (.t 1)),of 20 18 (.ld 1 false (.t 19)),of 21 18 (.len (.t 20)),fI 22 18 .lss 21 1,oO 23 18 22,om 24 23,of 25 24 (.fld 2 (.t 1)),of 26 24 (.ld 1 false (.t 25)),of 27 24 (.len (.t 26)),fI 28 24 .gtr 27 6,oO 29 24 28,om 30 29,of 31 30 (.fld 1 (.t 1)),of 32 30 (.ld 1 false (.t 31)),of 33 30 (.len (.t 32)),fI 34 30 .gtr 33 5,oO 35 30 34,om 36 35,of 37 36 (.fld 3 (.t 1)),of 38 36 (.ld 1 false (.t 37)),of 39 36 (.len (.t 38)),fI 40 36 .gtr 39 6,oO 41 36 40]<|cd 41 (sr [oK 2 (.bool false)]<|.ret) (.skip))<|sr [oK 3 (.nils),oK 4 (.nils)]<|.seq (sr [oK 5 (.int .i64 0)]<|.block 0<|l28_0)<|.seq (sr [oK 6 (.int .i64 0)]<|.block 2<|l28_1)<|.seq (sr [oF 93 0 1,oL 94 93,cb 95 76 [.t 94],oo 96 (.un .not (.t 95)),om 97 96,of 98 97 (.fld 2 (.t 1)),of 99 97 (.ld 1 false (.t 98)),of 100 97 (.call .blind 76 [.t 99]),of 101 97 (.un .not (.t 100)),oO 102 97 101,om 103 102,omf 104 3 103,of 105 103 (.call .blind 76 [.t 104]),of 106 103 (.un .not (.t 105)),oO 107 103 106,om 108 107,omf 109 4 108,of 110 108 (.call .blind 76 [.t 109]),of 111 108 (.un .not (.t 110)),oO 112 108 111]<|cd 112 (sr [oK 2 (.bool false)]<|.ret) (.skip))<|.seq (sr [oK 7 (.int .i64 0)]<|.block 4<|l28_2)<|sr [oK 2 (.bool true)]<|.ret⟩
def f29:DFn:=⟨1,[.t 2],
 sr [oK 2 (.int .i64 0)]<|.seq (sr [om 3 0,oo 4 (.bin .eql .np (.t 3) (.k (.nilp)))]<|cd 4 (sr [oK 2 (.int .i64 0)]<|.ret) (.skip))<|sr [om 5 0,oN 6 5,oF 7 6 6,oL 8 7,om 2 8]<|.ret⟩
def l35_3b:DC:=
 .seq (sr [om 82 7,oF 83 3 1,oL 84 83,oH 85 84,oB 86 .lss 82 85,om 87 86,omt 88 3 87,tI 89 87 .lss 88 3000,oA 90 87 89]<|cx 90 6)<|.seq (.block 7<|sr [oF 93 3 1,oL 94 93,om 95 7,oX 96 6 94 95,oG 97 6 96,oo 8 (.alL [.str [],.int .i64 0,.int .i64 0,.nils,.nils,.nils]),oS 6 8 97]<|.reg [om 98 3,oF 99 0 8,oL 100 99,oo 101 (.lenS (.t 100)),oB 102 .add 98 101,oF 103 3 8,oL 104 103,oH 105 104,oB 106 .add 102 105,oF 107 4 8,oL 108 107,oH 109 108,oB 110 .add 106 109,oF 111 5 8,oL 112 111,oH 113 112,oB 114 .add 110 113,om 3 114])<|.reg [om 91 7,oI 92 .add 91 1,om 7 92]
def l35_3:DC:=.loop [1,3,7] [1] l35_3b
def l35_2b:DC:=
 .seq (sr [om 63 6,oF 64 2 1,oL 65 64,oH 66 65,oB 67 .lss 63 66,om 68 67,omt 69 3 68,tI 70 68 .lss 69 3000,oA 71 68 70]<|cx 71 4)<|.seq (.block 5<|.reg [om 74 3,oF 75 2 1,oL 76 75,om 77 6,oX 78 1 76 77,oL 79 78,oo 80 (.lenS (.t 79)),oB 81 .add 74 80,om 3 81])<|.reg [om 72 6,oI 73 .add 72 1,om 6 73]
def l35_2:DC:=.loop [1,3,6] [1] l35_2b
def l35_1b:DC:=
 .seq (sr [om 43 5,oF 44 1 1,oL 45 44,oH 46 45,oB 47 .lss 43 46,om 48 47,omt 49 3 48,tI 50 48 .lss 49 3000,oA 51 48 50]<|cx 51 2)<|.seq (.block 3<|.reg [om 54 3,oF 55 1 1,oL 56 55,om 57 5,oX 58 2 56 57,oF 59 0 58,oL 60 59,oo 61 (.lenS (.t 60)),oB 62 .add 54 61,om 3 62])<|.reg [om 52 5,oI 53 .add 52 1,om 5 53]
def l35_1:DC:=.loop [1,3,5] [1] l35_1b
def l35_0b:DC:=
 .seq (sr [om 24 4,oF 25 0 1,oL 26 25,oH 27 26,oB 28 .lss 24 27,om 29 28,omt 30 3 29,tI 31 29 .lss 30 3000,oA 32 29 31]<|cx 32 0)<|.seq (.block 1<|.reg [om 35 3,oF 36 0 1,oL 37 36,om 38 4,oX 39 1 37 38,oL 40 39,oo 41 (.lenS (.t 40)),oB 42 .add 35 41,om 3 42])<|.reg [om 33 4,oI 34 .add 33 1,om 4 34]
def l35_0:DC:=.loop [1,3,4] [1] l35_0b
def f35:DFn:=⟨1,[.t 2],
 sr [oZ 1 0,oK 2 (.int .i64 0)]<|sr [oF 9 0 1,oL 10 9,oH 11 10,oF 12 1 1,oL 13 12,oH 14 13,oB 15 .add 11 14,oF 16 2 1,oL 17 16,oH 18 17,oB 19 .add 15 18,oF 20 3 1,oL 21 20,oH 22 21,oB 23 .add 19 22,om 3 23]<|.seq (sr [oK 4 (.int .i64 0)]<|.block 0<|l35_0)<|.seq (sr [oK 5 (.int .i64 0)]<|.block 2<|l35_1)<|.seq (sr [oK 6 (.int .i64 0)]<|.block 4<|l35_2)<|.seq (sr [oK 7 (.int .i64 0)]<|.block 6<|l35_3)<|sr [om 115 3,om 2 115]<|.ret⟩
def l36_0b:DC:=
 .seq (sr [om 5 4,om 6 0,oH 7 6,oB 8 .lss 5 7,om 9 8,omt 10 4 9,tI 11 9 .lss 10 90,oA 12 9 11]<|cx 12 0)<|.seq (.block 1<|sr [om 15 3,om 16 0,om 17 4,oX 18 1 16 17,oL 19 18,oH 20 19,oB 21 .add 15 20,om 3 21]<|sr [om 22 3,oI 23 .gtr 22 2000]<|cd 23 (sr [oK 2 (.bool false)]<|.ret) (.skip))<|.reg [om 13 4,oI 14 .add 13 1,om 4 14]
def l36_0:DC:=.loop [0,3,4] [] l36_0b
def f36:DFn:=⟨1,[.t 2],
 sr [oK 2 (.bool false)]<|sr [oK 3 (.int .i64 0)]<|.seq (sr [oK 4 (.int .i64 0)]<|.block 0<|l36_0)<|sr [oK 2 (.bool true)]<|.ret⟩
def f37:DFn:=⟨1,[.t 2,.t 3],
 sr [oZ 1 0,oK 2 (.nilp),oK 3 (.int .i64 0)]<|.seq (sr [oG 4 4 1,cb 5 78 [.t 4],oo 6 (.un .not (.t 5))]<|cd 6 (sr [oK 2 (.nilp),oK 3 (.int .i64 9)]<|.ret) (.skip))<|.seq (.drw [oG 7 4 1,cb 8 79 [.t 7],oF 9 3 1,oL 10 9,oH 11 10,oo 12 (.mks true 4 32 [.int .i64 0,.int .i64 0,.int .i64 0,.bool false] (.t 11)),oo 13 (.build [.nils,.nils,.nils,.nils,.nils] [(0,4,(.t 8)),(4,1,(.t 12))]),oo 14 (.boxH (.t 13)),om 2 14,oK 3 (.int .i64 0)] [[],[0],[],[],[],[3],[],[0,1,3,5],[],[]])<|.ret⟩
def l38_0b:DC:=
 sr [oB 18 .lss 17 16]<|.seq (cx 18 0)<|.seq (.block 1<|.reg [om 19 4,om 20 4,oN 21 20,oF 22 1 21,oL 23 22,oo 24 (.build [.int .i64 0,.int .i64 0,.int .i64 0] [(0,1,(.k (.int .i64 1)))]),oo 25 (.bsl true 3 [.int .i64 0,.int .i64 0,.int .i64 0] 1 [(0,(.t 24))]),oo 26 (.app 3 24 (.t 23) (.t 25)),oN 27 19,oF 28 1 27,oS 1 28 26])<|inc 29 17
def l38_0:DC:=.loop [4,16,17] [] l38_0b
def f38:DFn:=⟨1,[.t 2,.t 3],
 sr [oZ 1 0,oK 2 (.nilp),oK 3 (.int .i64 0)]<|.seq (sr [oG 5 4 1,cb 6 78 [.t 5],oo 7 (.un .not (.t 6))]<|cd 7 (sr [oK 2 (.nilp),oK 3 (.int .i64 9)]<|.ret) (.skip))<|sr [oF 8 0 1,oL 9 8,oH 10 9,oo 11 (.mks true 1 1 [.bool false] (.t 10)),oo 12 (.build [.nils,.nils] [(0,1,(.t 11))]),oo 13 (.boxH (.t 12)),om 4 13]<|.seq (sr [oF 14 1 1,oL 15 14,oH 16 15,oK 17 (.int .i64 0)]<|.block 0<|l38_0)<|sr [om 30 4,om 2 30,oK 3 (.int .i64 0)]<|.ret⟩
def f39:DFn:=⟨0,[.t 0],
 sr [oK 0 (.nilp)]<|sr [oo 1 (.build [.int .i64 0,.int .i64 0,.int .i64 0,.int .i64 0,.int .i64 0,.int .i64 0,.int .i64 0] [(1,1,(.k (.int .i64 (-1)))),(2,1,(.k (.int .i64 (-1))))]),oo 2 (.boxH (.t 1)),om 0 2]<|.ret⟩
def f40:DFn:=⟨0,[.t 0],
 sr [oK 0 (.nilp)]<|sr [oo 1 (.build [.nils,.nils,.nils,.nils] []),oo 2 (.boxH (.t 1)),om 0 2]<|.ret⟩
def f41:DFn:=⟨1,[.t 2,.t 3],
 sr [oZ 1 0,oK 2 (.nilp),oK 3 (.int .i64 0)]<|sr [oG 8 4 1,ce 9 37 [.t 8],om 7 9,oE 10 0 7,oE 11 1 7,om 4 10,om 5 11]<|.seq (sr [om 12 5,oI 13 .neq 12 0]<|cd 13 (sr [om 14 5,oK 2 (.nilp),om 3 14]<|.ret) (.skip))<|sr [om 15 4,ce 16 80 [],oo 17 (.build [.nilp,.nilp,.nilp,.int .i64 0,.int .i64 0,.int .i64 0,.int .i64 0] [(0,1,(.t 15)),(1,1,(.t 16)),(3,1,(.k (.int .i64 2)))]),oo 18 (.boxH (.t 17)),om 6 18]<|sr [om 19 6,om 2 19,oK 3 (.int .i64 0)]<|.ret⟩
def f45:DFn:=⟨2,[],
 .seq (sr [om 4 0,oo 5 (.bin .eql .np (.t 4) (.k (.nilp))),om 6 5,omf 7 1 6,omf 8 0 6,of 9 6 (.nilck (.t 8)),of 10 6 (.fld 0 (.t 9)),of 11 6 (.ld 1 false (.t 10)),fB 12 6 .leq 7 11,oO 13 6 12,om 14 13,omf 15 1 14,fI 16 14 .gtr 15 1099511627776,oO 17 14 16]<|cd 17 (.ret) (.skip))<|sr [om 18 0,om 19 0,om 20 1,oN 21 18,oF 22 0 21,oS 1 22 20,oN 23 19,oF 24 2 23,on (.st 1 (.t 24) (.k (.int .i64 (-1))))]<|sr [om 25 0,oN 26 25,oF 27 1 26,oL 28 27,oI 29 .neq 28 (-1),om 30 29,omt 31 1 30,omt 32 0 30,ot 33 30 (.nilck (.t 32)),ot 34 30 (.fld 3 (.t 33)),tL 35 30 34,tB 36 30 .sub 31 35,tI 37 30 .geq 36 8,oA 38 30 37]<|cd 38 (.reg [om 39 0,ce 40 81 [.t 39]]) (.skip)⟩
def f46:DFn:=⟨2,[],
 sr [oZ 3 1]<|sr [oF 4 0 3,oL 5 4]<|.block 0<|sr [oI 7 .eql 5 1,om 6 7]<|cd 6 (.reg [om 8 0,oF 9 1 3,oL 10 9,cr 11 57 [.t 8,.t 10],ce 12 82 [.t 11]]) (sr [oI 14 .eql 5 2,om 13 14]<|cd 13 (.reg [om 15 0,oF 16 1 3,oL 17 16,cr 18 57 [.t 15,.t 17],ce 19 83 [.t 18]]) (sr [oI 21 .eql 5 7,om 20 21]<|cd 20 (.drw [om 22 0,oN 23 22,oF 24 4 23,oL 25 24,oF 26 2 3,oL 27 26,ce 28 84 [.t 25,.t 27]] [[],[],[],[],[],[],[3,5]]) (sr [oI 30 .eql 5 10,om 29 30]<|cd 29 (.drw [om 31 0,oN 32 31,oF 33 4 32,oL 34 33,oF 35 2 3,oL 36 35,ce 37 85 [.t 34,.t 36]] [[],[],[],[],[],[],[3,5]]) (.skip))))⟩
def f47:DFn:=⟨2,[],
 .seq (sr [om 4 0,oo 5 (.bin .eql .np (.t 4) (.k (.nilp))),om 6 5,omf 7 0 6,of 8 6 (.nilck (.t 7)),of 9 6 (.fld 3 (.t 8)),of 10 6 (.ld 1 false (.t 9)),fI 11 6 .eql 10 0,oO 12 6 11]<|cd 12 (.ret) (.skip))<|.seq (sr [om 13 1,oo 14 (.un .not (.t 13))]<|cd 14 (.reg [om 15 0,oN 16 15,oF 17 4 16,oL 18 17,oI 19 .add 18 1,oN 20 15,oF 21 4 20,oS 1 21 19]) (.skip))<|.block 0<|sr [om 23 0,oN 24 23,oF 25 3 24,oL 26 25,oI 27 .eql 26 1,om 28 27,omt 29 0 28,ot 30 28 (.nilck (.t 29)),ot 31 28 (.fld 4 (.t 30)),tL 32 28 31,tI 33 28 .geq 32 3,oA 34 28 33,om 22 34]<|cd 22 (.reg [om 35 0,oN 36 35,oF 37 3 36,on (.st 1 (.t 37) (.k (.int .i64 2)))]) (.seq (.drw [om 39 0,cr 40 86 [.t 39],om 41 40,omt 42 0 41,ot 43 41 (.nilck (.t 42)),ot 44 41 (.fld 1 (.t 43)),tL 45 41 44,omt 46 0 41,ot 47 41 (.nilck (.t 46)),ot 48 41 (.fld 4 (.t 47)),tL 49 41 48,ot 50 41 (.call .ro 87 [.t 45,.t 49]),ot 51 41 (.un .not (.t 50)),oA 52 41 51,om 38 52] [[],[],[],[],[],[],[1],[],[],[],[1],[1,6,10],[],[],[]])<|cd 38 (.reg [om 53 0,ce 54 88 [.t 53]]) (.skip))⟩
def f48:DFn:=⟨3,[.t 6],
 sr [oo 4 (.boxH (.t 1)),oo 5 (.boxH (.t 2)),oK 6 (.bool false)]<|sr [om 7 0,oo 8 (.mkF 90 [.t 4,.t 5]),cr 9 89 [.t 7,.t 8],om 6 9]<|.ret⟩
def f49:DFn:=⟨2,[],
 .seq (sr [om 12 0,oo 13 (.bin .eql .np (.t 12) (.k (.nilp))),om 14 13,omf 15 0 14,of 16 14 (.nilck (.t 15)),of 17 14 (.fld 3 (.t 16)),of 18 14 (.ld 1 false (.t 17)),fI 19 14 .neq 18 2,oO 20 14 19]<|cd 20 (.ret) (.skip))<|sr [om 22 1,oo 23 (.call .new 91 [.t 22]),om 21 23,oE 24 0 21,oE 25 1 21,om 4 24,om 5 25]<|.seq (sr [om 26 5,oI 27 .neq 26 0]<|cd 27 (.ret) (.skip))<|sr [om 29 4,cr 30 92 [.t 29],om 28 30,oE 31 0 28,oE 32 1 28,oE 33 2 28,oE 34 3 28,om 6 31,om 7 32,om 8 33,om 9 34]<|sr [om 35 6,om 36 7,om 37 8,oo 38 (.build [.int .i64 0,.int .i64 0,.nils] [(0,1,(.t 35)),(1,1,(.t 36)),(2,1,(.t 37))]),oo 10 (.alH [.int .i64 0,.int .i64 0,.nils]),oS 3 10 38]<|.seq (sr [om 39 9,oo 40 (.un .not (.t 39)),om 41 40,omf 42 0 41,of 43 41 (.ld 3 true (.t 10)),of 44 41 (.call .ro 93 [.t 42,.t 43]),oO 45 41 44]<|cd 45 (.ret) (.skip))<|sr [om 46 0,oN 47 46,oF 48 0 47,oL 49 48,cr 50 94 [.t 49],om 11 50]<|.seq (sr [om 51 0,oN 52 51,oF 53 0 52,oL 54 53,om 55 8,ce 56 95 [.t 54,.t 55]]<|cd 56 (.reg [om 57 0,oN 58 57,oF 59 2 58,oS 1 59 10]) (.skip))<|.reg [om 60 0,oN 61 60,oF 62 0 61,oL 63 62,om 64 11,ce 65 95 [.t 63,.t 64]]⟩
def f50:DFn:=⟨2,[.t 4],
 sr [oK 4 (.nils)]<|.seq (sr [om 6 0,om 7 1,cr 8 96 [.t 6,.t 7],oo 9 (.un .not (.t 8))]<|cd 9 (sr [oK 4 (.nils)]<|.ret) (.skip))<|sr [om 10 0,om 11 1,oN 12 10,oF 13 2 12,oo 14 (.idxA 1 2 (.t 13) (.t 11)),oL 15 14,om 5 15]<|sr [om 16 0,om 17 1,oN 18 16,oF 19 2 18,oo 20 (.idxA 1 2 (.t 19) (.t 17)),on (.st 1 (.t 20) (.k (.nils)))]<|sr [om 21 5,om 4 21]<|.ret⟩
def l51_0b:DC:=
 sr [oB 9 .lss 8 7]<|.seq (cx 9 0)<|.seq (.block 1<|sr [oX 10 5 6 8,oG 11 5 10,oo 5 (.alL [.int .i64 0,.int .i64 0,.int .i64 0,.int .i64 0,.int .i64 0]),oS 5 5 11]<|sr [oF 12 0 5,oL 13 12,oI 14 .eql 13 9,om 15 14,omt 16 0 15,ot 17 15 (.fld 1 (.t 5)),tL 18 15 17,ot 19 15 (.call .ro 57 [.t 16,.t 18]),ot 20 15 (.call .eff 97 [.t 19]),oA 21 15 20]<|cd 21 (.drw [om 22 0,oN 23 22,oF 24 2 23,oL 25 24,oF 26 1 5,oL 27 26,ce 28 98 [.t 25,.t 27]] [[],[],[],[],[],[],[3,5]]) (.skip))<|inc 29 8
def l51_0:DC:=.loop [0,6,7,8] [] l51_0b
def f51:DFn:=⟨2,[],
 sr [om 6 1,oH 7 6,oK 8 (.int .i64 0)]<|.block 0<|l51_0⟩
def f52:DFn:=⟨3,[],
 sr [om 11 0,om 12 1,oN 13 11,oF 14 0 13,oo 15 (.idxA 1 2 (.t 14) (.t 12)),oL 16 15,om 6 16]<|.seq (sr [om 17 6,cr 18 65 [.t 17],om 7 18]<|sr [om 19 2,om 20 19,omf 21 7 20,fI 22 20 .neq 21 2,omf 23 22 20,omt 24 7 23,tI 25 23 .neq 24 3,of 26 20 (.pick (.t 23) (.t 25) (.k (.bool false))),omf 27 26 20,omt 28 7 27,tI 29 27 .neq 28 4,of 30 20 (.pick (.t 27) (.t 29) (.k (.bool false))),oO 31 20 30]<|cd 31 (.ret) (.skip))<|.seq (.drw [om 33 0,oN 34 33,oF 35 2 34,oL 36 35,om 37 1,om 38 6,cr 39 100 [.t 38],ce 40 99 [.t 36,.t 37,.t 39],om 32 40,oE 41 0 32,oE 42 1 32,oE 43 2 32,om 8 41,om 9 42,om 10 43] [[],[],[],[],[],[],[],[3,6],[],[],[],[],[],[],[]])<|sr [om 44 10,oI 45 .eql 44 0]<|cd 45 (.reg [om 46 6,om 47 8,om 48 9,ce 49 101 [.t 46,.t 47,.t 48]]) (.skip)⟩
def l53_1b:DC:=
 sr [oI 38 .lss 37 2]<|.seq (cx 38 2)<|.seq (.block 3<|sr [om 39 37,oo 40 (.idxV 1 2 false (.t 36) (.t 37)),om 9 39,om 10 40]<|sr [om 41 0,oN 42 41,oF 43 2 42,oL 44 43,cr 45 56 [.t 44],om 46 9,oB 47 .eql 45 46,om 11 47]<|sr [om 48 10,om 49 0,oN 50 49,oF 51 4 50,oL 52 51,cr 53 75 [.t 52],om 54 11,om 55 5,ce 56 103 [.t 48,.t 53,.t 54,.t 55],oo 12 (.alL [.nils,.nils]),oS 2 12 56]<|sr [om 57 11]<|cd 57 (.reg [oG 58 2 12,oS 2 8 58]) (.skip))<|inc 59 37
def l53_1:DC:=.loop [0,4,5,8,36,37] [4,8] l53_1b
def l53_0b:DC:=
 sr [oB 16 .lss 15 14]<|.seq (cx 16 0)<|.seq (.block 1<|sr [oX 17 5 13 15,oG 18 5 17,oo 7 (.alL [.int .i64 0,.int .i64 0,.int .i64 0,.int .i64 0,.int .i64 0]),oS 5 7 18]<|sr [oF 19 0 7,oL 20 19,oI 21 .eql 20 8]<|cd 21 (.reg [om 22 5,oF 23 3 7,oG 24 2 23,oo 25 (.bsl false 2 [.int .i64 0,.int .i64 0] 1 [(0,(.t 24))]),oo 26 (.app 2 16 (.t 22) (.t 25)),om 5 26]) (.skip))<|inc 27 15
def l53_0:DC:=.loop [0,4,5,13,14,15] [4] l53_0b
def f53:DFn:=⟨2,[.cell 4 2 true],
 sr [oo 4 (.alL [.nils,.nils])]<|sr [oK 5 (.nils)]<|.seq (sr [om 13 1,oH 14 13,oK 15 (.int .i64 0)]<|.block 0<|l53_0)<|sr [om 28 0,oN 29 28,oF 30 5 29,oL 31 30,cr 32 102 [.t 31],oo 8 (.alL [.nils,.nils]),oS 2 8 32]<|.seq (sr [om 33 0,oN 34 33,oF 35 0 34,oG 36 2 35,oK 37 (.int .i64 0)]<|.block 2<|l53_1)<|sr [oG 60 2 8,oS 2 4 60]<|.ret⟩
def l54_0b:DC:=
 sr [oB 14 .lss 13 12]<|.seq (cx 14 0)<|.seq (.block 1<|sr [om 15 13,oX 16 3 11 13,oG 17 3 16,oo 5 (.alL [.int .i64 0,.int .i64 0,.int .i64 0]),om 4 15,oS 3 5 17]<|sr [om 18 4,om 19 1,oH 20 19,oB 21 .lss 18 20]<|cd 21 (.drw [om 22 0,oN 23 22,oF 24 1 23,oL 25 24,om 26 4,oG 27 3 5,om 28 1,om 29 4,oX 30 1 28 29,oL 31 30,cb 32 104 [.t 27,.t 31],oX 33 3 25 26,oS 3 33 32] [[],[],[],[],[],[],[],[],[],[8],[5,8,9],[3,5,8,9,10],[3,5,8,9,10,11]]) (.skip))<|inc 34 13
def l54_0:DC:=.loop [0,1,11,12,13] [] l54_0b
def f54:DFn:=⟨2,[],
 .seq (sr [om 6 0,oo 7 (.bin .eql .np (.t 6) (.k (.nilp)))]<|cd 7 (.ret) (.skip))<|sr [om 8 0,oN 9 8,oF 10 1 9,oL 11 10,oH 12 11,oK 13 (.int .i64 0)]<|.block 0<|l54_0⟩
def l55_1b:DC:=
 sr [oI 42 .lss 41 2]<|.seq (cx 42 2)<|.seq (.block 3<|sr [om 43 41,oo 44 (.idxV 1 2 false (.t 40) (.t 41)),om 8 43,om 9 44]<|.drw [om 45 0,oN 46 45,oF 47 3 46,oL 48 47,om 49 8,om 50 9,cr 51 106 [.t 50],ce 52 105 [.t 48,.t 49,.t 51]] [[],[],[],[],[],[],[],[3,6]])<|inc 53 41
def l55_1:DC:=.loop [0,4,5,40,41] [] l55_1b
def l55_0b:DC:=
 sr [oB 13 .lss 12 11]<|.seq (cx 13 0)<|.seq (.block 1<|sr [oX 14 5 10 12,oG 15 5 14,oo 7 (.alL [.int .i64 0,.int .i64 0,.int .i64 0,.int .i64 0,.int .i64 0]),oS 5 7 15]<|sr [om 16 4,om 17 16,of 18 17 (.fld 0 (.t 7)),of 19 17 (.ld 1 false (.t 18)),fI 20 17 .eql 19 5,oO 21 17 20,om 4 21]<|sr [oF 22 0 7,oL 23 22,oI 24 .eql 23 6,om 25 24,ot 26 25 (.fld 2 (.t 7)),tL 27 25 26,tI 28 25 .geq 27 0,oA 29 25 28,om 30 29,omt 31 5 30,tI 32 30 .lss 31 0,oA 33 30 32]<|cd 33 (.reg [oF 34 2 7,oL 35 34,om 5 35]) (.skip))<|inc 36 12
def l55_0:DC:=.loop [0,4,5,10,11,12] [] l55_0b
def f55:DFn:=⟨2,[],
 sr [oK 4 (.bool false),oK 5 (.int .i64 (-1))]<|.seq (sr [om 10 1,oH 11 10,oK 12 (.int .i64 0)]<|.block 0<|l55_0)<|.seq (sr [om 37 0,oN 38 37,oF 39 0 38,oG 40 2 39,oK 41 (.int .i64 0)]<|.block 2<|l55_1)<|.reg [om 54 0,oN 55 54,oF 56 3 55,oL 57 56,om 58 4,om 59 5,ce 60 107 [.t 57,.t 58,.t 59]]⟩
def f56:DFn:=⟨1,[.t 2],
 sr [oK 2 (.int .i64 0)]<|.seq (sr [om 3 0,oo 4 (.bin .eql .np (.t 3) (.k (.nilp)))]<|cd 4 (sr [oK 2 (.int .i64 (-1))]<|.ret) (.skip))<|sr [om 5 0,oN 6 5,oF 7 2 6,oL 8 7,om 2 8]<|.ret⟩
def f57:DFn:=⟨2,[.t 4],
 sr [oK 4 (.nilp)]<|.seq (sr [om 5 0,oo 6 (.bin .eql .np (.t 5) (.k (.nilp))),om 7 6,omf 8 1 7,fI 9 7 .lss 8 0,oO 10 7 9,om 11 10,omf 12 1 11,fI 13 11 .geq 12 2,oO 14 11 13]<|cd 14 (sr [oK 4 (.nilp)]<|.ret) (.skip))<|sr [om 15 0,om 16 1,oN 17 15,oF 18 0 17,oo 19 (.idxA 1 2 (.t 18) (.t 16)),oL 20 19,om 4 20]<|.ret⟩
def f58:DFn:=⟨1,[.t 2],
 sr [oK 2 (.nils)]<|.seq (sr [om 3 0,oo 4 (.bin .eql .np (.t 3) (.k (.nilp)))]<|cd 4 (sr [oK 2 (.nils)]<|.ret) (.skip))<|sr [om 5 0,oN 6 5,oF 7 0 6,oL 8 7,cr 9 94 [.t 8],om 2 9]<|.ret⟩
def f59:DFn:=⟨2,[.t 4],
 sr [oZ 2 0,oK 4 (.bool false)]<|.seq (sr [oF 5 0 2,oL 6 5]<|.block 0<|sr [oI 8 .eql 6 1,om 7 8]<|cd 7 (sr [oF 9 1 2,oL 10 9,oI 11 .geq 10 0,om 12 11,ot 13 12 (.fld 1 (.t 2)),tL 14 12 13,tI 15 12 .leq 14 8,oA 16 12 15,om 17 16,ot 18 17 (.fld 2 (.t 2)),tL 19 17 18,tI 20 17 .eql 19 0,oA 21 17 20,om 22 21,ot 23 22 (.fld 3 (.t 2)),tL 24 22 23,ot 25 22 (.un .not (.t 24)),oA 26 22 25,om 4 26]<|.ret) (sr [oI 28 .eql 6 4,om 27 28]<|cd 27 (sr [oF 29 1 2,oL 30 29,oI 31 .geq 30 0,om 32 31,ot 33 32 (.fld 1 (.t 2)),tL 34 32 33,tI 35 32 .lss 34 6,oA 36 32 35,om 37 36,ot 38 37 (.fld 2 (.t 2)),tL 39 37 38,tI 40 37 .eql 39 0,oA 41 37 40,om 42 41,ot 43 42 (.fld 3 (.t 2)),tL 44 42 43,ot 45 42 (.un .not (.t 44)),oA 46 42 45,om 4 46]<|.ret) (sr [oI 48 .eql 6 3,om 47 48]<|cd 47 (sr [oF 49 1 2,oL 50 49,oI 51 .eql 50 0,om 52 51,ot 53 52 (.fld 2 (.t 2)),tL 54 52 53,tI 55 52 .geq 54 0,oA 56 52 55,om 57 56,ot 58 57 (.fld 2 (.t 2)),tL 59 57 58,omt 60 1 57,ot 61 57 (.len (.t 60)),tB 62 57 .lss 59 61,oA 63 57 62,om 4 63]<|.ret) (.seq (sr [oI 65 .eql 6 0,om 64 65]<|cd 64 (.skip) (.reg [oI 66 .eql 6 2,om 64 66]))<|cd 64 (sr [oF 67 1 2,oL 68 67,oI 69 .eql 68 0,om 70 69,ot 71 70 (.fld 2 (.t 2)),tL 72 70 71,tI 73 70 .eql 72 0,oA 74 70 73,om 75 74,ot 76 75 (.fld 3 (.t 2)),tL 77 75 76,ot 78 75 (.un .not (.t 77)),oA 79 75 78,om 4 79]<|.ret) (.skip)))))<|sr [oK 4 (.bool false)]<|.ret⟩
def l60_2b:DC:=
 .seq (sr [om 61 13,om 62 11,oH 63 62,oB 64 .lss 61 63]<|cx 64 4)<|.seq (.block 5<|.seq (.drw [om 67 10,om 68 12,oX 69 2 67 68,oF 70 0 69,oL 71 70,om 72 11,om 73 13,oX 74 2 72 73,oF 75 0 74,oL 76 75,oB 77 .eql 71 76,om 78 77,omt 79 10 78,omt 80 12 78,ot 81 78 (.idx 2 (.t 79) (.t 80)),ot 82 78 (.fld 1 (.t 81)),tL 83 78 82,omt 84 11 78,omt 85 13 78,ot 86 78 (.idx 2 (.t 84) (.t 85)),ot 87 78 (.fld 1 (.t 86)),tL 88 78 87,ot 89 78 (.bin .neq .bl (.t 83) (.t 88)),oA 90 78 89] [[],[],[],[],[2],[],[],[],[],[7],[],[],[],[],[2,4,7,9],[],[2,4,7,9,14],[],[],[2,4,7,9],[],[2,4,7,9,19],[],[]])<|cd 90 (sr [oK 6 (.bool true)]<|.ret) (.skip))<|.reg [om 65 13,oI 66 .add 65 1,om 13 66]
def l60_2:DC:=.loop [10,11,12,13] [] l60_2b
def l60_1b:DC:=
 .seq (sr [om 55 12,om 56 10,oH 57 56,oB 58 .lss 55 57]<|cx 58 2)<|.seq (.block 3<|sr [oK 13 (.int .i64 0)]<|.block 4<|l60_2)<|.reg [om 59 12,oI 60 .add 59 1,om 12 60]
def l60_1:DC:=.loop [10,11,12] [] l60_1b
def l60_0b:DC:=
 .seq (sr [om 34 9,oF 35 3 7,oL 36 35,oH 37 36,oB 38 .lss 34 37]<|cx 38 0)<|.seq (.block 1<|.seq (.drw [oF 41 3 8,oL 42 41,oF 43 3 7,oL 44 43,om 45 9,oX 46 1 44 45,oL 47 46,cb 48 108 [.t 42,.t 47]] [[],[],[],[],[],[3],[3,5],[1,3,5,6]])<|cd 48 (sr [oK 6 (.bool true)]<|.ret) (.skip))<|.reg [om 39 9,oI 40 .add 39 1,om 9 40]
def l60_0:DC:=.loop [1,2,3,7,8,9] [3,7,8] l60_0b
def f60:DFn:=⟨3,[.t 6],
 sr [oZ 3 0,oK 6 (.bool false)]<|.seq (.drw [oF 14 3 3,oL 15 14,om 16 1,oX 17 6 15 16,oG 18 6 17,oF 19 3 3,oL 20 19,om 21 2,oX 22 6 20 21,oG 23 6 22,oo 7 (.alL [.str [],.int .i64 0,.int .i64 0,.nils,.nils,.nils]),oo 8 (.alL [.str [],.int .i64 0,.int .i64 0,.nils,.nils,.nils]),oS 6 7 18,oS 6 8 23] [[],[],[],[1],[1,3],[],[],[],[6],[6,8],[],[],[1,3,4,10,11],[1,3,4,6,8,9,10,11,12]])<|.seq (sr [om 24 1,om 25 2,oB 26 .eql 24 25,om 27 26,of 28 27 (.fld 1 (.t 7)),of 29 27 (.ld 1 false (.t 28)),of 30 27 (.fld 1 (.t 8)),of 31 27 (.ld 1 false (.t 30)),fB 32 27 .eql 29 31,oO 33 27 32]<|cd 33 (sr [oK 6 (.bool true)]<|.ret) (.skip))<|.seq (sr [oK 9 (.int .i64 0)]<|.block 0<|l60_0)<|.seq (.drw [oG 49 4 3,om 50 1,cb 51 70 [.t 49,.t 50],oG 52 4 3,om 53 2,cb 54 70 [.t 52,.t 53],om 10 51,om 11 54] [[],[],[0],[],[],[0,2,3],[],[]])<|.seq (sr [oK 12 (.int .i64 0)]<|.block 2<|l60_1)<|sr [oK 6 (.bool false)]<|.ret⟩
def f64:DFn:=⟨0,[.cell 0 4 true],
 sr [oo 0 (.alL [.nils,.nils,.nils,.nils])]<|sr [oo 1 (.bsl false 1 [.str []] 1 [(0,(.k (.str [97])))]),oo 2 (.bsl false 1 [.str []] 2 [(0,(.k (.str [115]))),(1,(.k (.str [116])))]),oo 3 (.bsl false 1 [.int .i64 0] 1 [(0,(.k (.int .i64 0)))]),oo 4 (.build [.str [],.int .i64 0,.int .i64 0,.nils,.nils,.nils] [(0,1,(.k (.str [114]))),(2,1,(.k (.int .i64 1))),(3,1,(.t 3))]),oo 5 (.bsl false 6 [.str [],.int .i64 0,.int .i64 0,.nils,.nils,.nils] 1 [(0,(.t 4))]),oo 6 (.build [.nils,.nils,.nils,.nils] [(0,1,(.t 1)),(2,1,(.t 2)),(3,1,(.t 5))]),oS 4 0 6]<|.ret⟩
def f65:DFn:=⟨1,[.t 2],
 sr [oK 2 (.int .i64 0)]<|.seq (sr [om 3 0,oo 4 (.bin .eql .np (.t 3) (.k (.nilp)))]<|cd 4 (sr [oK 2 (.int .i64 0)]<|.ret) (.skip))<|sr [om 5 0,oN 6 5,oF 7 3 6,oL 8 7,om 2 8]<|.ret⟩
def f70:DFn:=⟨2,[.t 4],
 sr [oZ 2 0,oK 4 (.nils)]<|.seq (.drw [oo 5 (.bsl false 2 [.int .i64 0,.bool false] 0 []),oF 6 3 2,oL 7 6,om 8 1,oX 9 6 7 8,oF 10 4 9,oL 11 10,oo 12 (.app 2 16 (.t 5) (.t 11)),oF 13 3 2,oL 14 13,om 15 1,oX 16 6 14 15,oF 17 5 16,oL 18 17,oo 19 (.app 2 16 (.t 12) (.t 18)),om 4 19] [[],[],[],[],[2],[],[2,4],[0,2,4,6],[],[],[],[9],[],[9,11],[0,2,4,6,7,9,11,13],[]])<|.ret⟩
def l75_0b:DC:=
 sr [oB 21 .lss 20 19]<|.seq (cx 21 0)<|.seq (.block 1<|sr [oX 22 3 18 20,oG 23 3 22,oo 5 (.alL [.int .i64 0,.int .i64 0,.int .i64 0]),oS 3 5 23]<|.reg [oF 24 1 3,oL 25 24,oF 26 0 5,oL 27 26,oo 28 (.bsl false 1 [.int .i64 0] 1 [(0,(.t 27))]),oo 29 (.app 1 8 (.t 25) (.t 28)),oF 30 1 3,oS 1 30 29])<|inc 31 20
def l75_0:DC:=.loop [2,3,18,19,20] [2,3] l75_0b
def f75:DFn:=⟨1,[.cell 2 2 true],
 sr [oo 2 (.alL [.nils,.nils])]<|.seq (sr [om 6 0,oo 7 (.bin .eql .np (.t 6) (.k (.nilp)))]<|cd 7 (sr [oo 8 (.build [.nils,.nils] []),oS 2 2 8]<|.ret) (.skip))<|sr [om 9 0,oN 10 9,oF 11 0 10,oL 12 11,ce 13 111 [.t 12],oo 14 (.build [.nils,.nils] [(0,1,(.t 13))]),oo 3 (.alL [.nils,.nils]),oS 2 3 14]<|.seq (sr [om 15 0,oN 16 15,oF 17 1 16,oL 18 17,oH 19 18,oK 20 (.int .i64 0)]<|.block 0<|l75_0)<|sr [oG 32 2 3,oS 2 2 32]<|.ret⟩
def l76_1b:DC:=
 .seq (sr [om 17 4,om 18 3,oB 19 .lss 17 18]<|cx 19 2)<|.seq (.block 3<|.seq (.drw [om 22 0,om 23 4,oX 24 1 22 23,oL 25 24,om 26 0,om 27 3,oX 28 1 26 27,oL 29 28,oB 30 .eql 25 29] [[],[],[],[2],[],[],[],[6],[]])<|cd 30 (sr [oK 2 (.bool false)]<|.ret) (.skip))<|.reg [om 20 4,oI 21 .add 20 1,om 4 21]
def l76_1:DC:=.loop [0,3,4] [] l76_1b
def l76_0b:DC:=
 .seq (sr [om 5 3,om 6 0,oH 7 6,oB 8 .lss 5 7]<|cx 8 0)<|.seq (.block 1<|.seq (sr [om 11 0,om 12 3,oX 13 1 11 12,oL 14 13,cb 15 112 [.t 14],oo 16 (.un .not (.t 15))]<|cd 16 (sr [oK 2 (.bool false)]<|.ret) (.skip))<|sr [oK 4 (.int .i64 0)]<|.block 2<|l76_1)<|.reg [om 9 3,oI 10 .add 9 1,om 3 10]
def l76_0:DC:=.loop [0,3] [] l76_0b
def f76:DFn:=⟨1,[.t 2],
 sr [oK 2 (.bool false)]<|.seq (sr [oK 3 (.int .i64 0)]<|.block 0<|l76_0)<|sr [oK 2 (.bool true)]<|.ret⟩
def l77_1b:DC:=
 .seq (sr [om 87 7,oF 88 1 2,oL 89 88,oH 90 89,oB 91 .lss 87 90]<|cx 91 2)<|.seq (.block 3<|.seq (.drw [oF 94 3 3,oL 95 94,oF 96 1 2,oL 97 96,om 98 7,oX 99 2 97 98,oF 100 1 99,oL 101 100,cb 102 108 [.t 95,.t 101]] [[],[],[],[],[],[3],[],[3,5],[1,3,5,7]])<|cd 102 (.reg [om 103 6,oI 104 .add 103 1,om 6 104]) (.skip))<|.reg [om 92 7,oI 93 .add 92 1,om 7 93]
def l77_1:DC:=.loop [2,3,6,7] [2,3] l77_1b
def l77_0b:DC:=
 .seq (sr [om 51 5,oF 52 3 3,oL 53 52,oH 54 53,oB 55 .lss 51 54]<|cx 55 0)<|.seq (.block 1<|.seq (.drw [oF 58 3 3,oL 59 58,om 60 5,oX 61 1 59 60,oL 62 61,oI 63 .lss 62 0,om 64 63,of 65 64 (.fld 3 (.t 3)),of 66 64 (.ld 1 false (.t 65)),omf 67 5 64,of 68 64 (.idx 1 (.t 66) (.t 67)),of 69 64 (.ld 1 false (.t 68)),of 70 64 (.fld 0 (.t 2)),of 71 64 (.ld 1 false (.t 70)),of 72 64 (.len (.t 71)),fB 73 64 .geq 69 72,oO 74 64 73,om 75 74,of 76 75 (.fld 3 (.t 3)),of 77 75 (.ld 1 false (.t 76)),omf 78 5 75,of 79 75 (.slc 1 (.t 77) none (some (.t 78)) none),of 80 75 (.fld 3 (.t 3)),of 81 75 (.ld 1 false (.t 80)),omf 82 5 75,of 83 75 (.idx 1 (.t 81) (.t 82)),of 84 75 (.ld 1 false (.t 83)),of 85 75 (.call .blind 108 [.t 79,.t 84]),oO 86 75 85] [[],[],[],[1],[1,3],[],[],[],[1,3,4],[],[1,3,4,8],[1,3,4,8,10],[],[1,3,4],[],[],[],[],[],[1,3,4,8,10,11,13],[],[],[],[1,3,4,8,10,11,13],[],[1,3,4,8,10,11,13,23],[1,3,4,8,10,11,13,23,25],[1,3,4,8,10,11,13,19,23,25,26],[]])<|cd 86 (sr [oK 4 (.bool false)]<|.ret) (.skip))<|.reg [om 56 5,oI 57 .add 56 1,om 5 57]
def l77_0:DC:=.loop [2,3,5] [2,3] l77_0b
def f77:DFn:=⟨2,[.t 4],
 sr [oZ 2 0,oZ 3 1,oK 4 (.bool false)]<|.seq (sr [oF 8 1 3,oL 9 8,oI 10 .lss 9 0,om 11 10,of 12 11 (.fld 1 (.t 3)),of 13 11 (.ld 1 false (.t 12)),of 14 11 (.fld 2 (.t 2)),of 15 11 (.ld 1 false (.t 14)),of 16 11 (.len (.t 15)),fB 17 11 .geq 13 16,oO 18 11 17,om 19 18,of 20 19 (.fld 2 (.t 3)),of 21 19 (.ld 1 false (.t 20)),fI 22 19 .lss 21 0,oO 23 19 22,om 24 23,of 25 24 (.fld 2 (.t 3)),of 26 24 (.ld 1 false (.t 25)),of 27 24 (.fld 2 (.t 2)),of 28 24 (.ld 1 false (.t 27)),of 29 24 (.len (.t 28)),fB 30 24 .geq 26 29,oO 31 24 30,om 32 31,of 33 32 (.fld 1 (.t 3)),of 34 32 (.ld 1 false (.t 33)),of 35 32 (.fld 2 (.t 3)),of 36 32 (.ld 1 false (.t 35)),fB 37 32 .eql 34 36,oO 38 32 37,om 39 38,of 40 39 (.fld 3 (.t 3)),of 41 39 (.ld 1 false (.t 40)),of 42 39 (.len (.t 41)),fI 43 39 .lss 42 1,oO 44 39 43,om 45 44,of 46 45 (.fld 3 (.t 3)),of 47 45 (.ld 1 false (.t 46)),of 48 45 (.len (.t 47)),fI 49 45 .gtr 48 5,oO 50 45 49]<|cd 50 (sr [oK 4 (.bool false)]<|.ret) (.skip))<|.seq (sr [oK 5 (.int .i64 0)]<|.block 0<|l77_0)<|sr [oK 6 (.int .i64 0)]<|.seq (sr [oK 7 (.int .i64 0)]<|.block 2<|l77_1)<|sr [oF 105 4 3,oL 106 105,oH 107 106,om 108 6,oB 109 .eql 107 108,om 110 109,ot 111 110 (.ld 4 true (.t 2)),ot 112 110 (.fld 4 (.t 3)),tL 113 110 112,ot 114 110 (.fld 3 (.t 3)),tL 115 110 114,ot 116 110 (.call .blind 113 [.t 111,.t 113,.t 115,.k (.bool true)]),oA 117 110 116,om 118 117,ot 119 118 (.ld 4 true (.t 2)),ot 120 118 (.fld 5 (.t 3)),tL 121 118 120,ot 122 118 (.fld 3 (.t 3)),tL 123 118 122,ot 124 118 (.call .blind 113 [.t 119,.t 121,.t 123,.k (.bool false)]),oA 125 118 124,om 4 125]<|.ret⟩
def l78_1b:DC:=
 sr [oB 58 .lss 57 56]<|.seq (cx 58 2)<|.seq (.block 3<|sr [oX 59 6 55 57,oG 60 6 59,oo 8 (.alL [.str [],.int .i64 0,.int .i64 0,.nils,.nils,.nils]),oS 6 8 60]<|sr [om 61 4,oF 62 0 8,oL 63 62,oo 64 (.bsl false 1 [.str []] 1 [(0,(.t 63))]),oo 65 (.app 1 16 (.t 61) (.t 64)),om 4 65]<|sr [oG 66 4 1,oG 67 6 8,cb 68 115 [.t 66,.t 67],oo 69 (.un .not (.t 68))]<|cd 69 (sr [oK 2 (.bool false)]<|.ret) (.skip))<|inc 70 57
def l78_1:DC:=.loop [1,3,4,55,56,57] [1] l78_1b
def l78_0b:DC:=
 sr [oB 37 .lss 36 35]<|.seq (cx 37 0)<|.seq (.block 1<|sr [oX 38 2 34 36,oG 39 2 38,oo 6 (.alL [.str [],.int .i64 0]),oS 2 6 39]<|sr [om 40 3,oF 41 0 6,oL 42 41,oo 43 (.bsl false 1 [.str []] 1 [(0,(.t 42))]),oo 44 (.app 1 16 (.t 40) (.t 43)),om 3 44]<|sr [oF 45 1 6,oL 46 45,oF 47 0 1,oL 48 47,oH 49 48,oI 50 .sub 49 1,cb 51 114 [.t 46,.k (.int .i64 0),.t 50],oo 52 (.un .not (.t 51))]<|cd 52 (sr [oK 2 (.bool false)]<|.ret) (.skip))<|inc 53 36
def l78_0:DC:=.loop [1,3,4,34,35,36] [1] l78_0b
def f78:DFn:=⟨1,[.t 2],
 sr [oZ 1 0,oK 2 (.bool false)]<|sr [oK 3 (.nils),oK 4 (.nils)]<|.seq (sr [oF 9 0 1,oL 10 9,oH 11 10,cb 12 114 [.t 11,.k (.int .i64 1),.k (.int .i64 10)],oo 13 (.un .not (.t 12)),om 14 13,of 15 14 (.fld 2 (.t 1)),of 16 14 (.ld 1 false (.t 15)),of 17 14 (.len (.t 16)),of 18 14 (.call .blind 114 [.t 17,.k (.int .i64 1),.k (.int .i64 6)]),of 19 14 (.un .not (.t 18)),oO 20 14 19,om 21 20,of 22 21 (.fld 1 (.t 1)),of 23 21 (.ld 1 false (.t 22)),of 24 21 (.len (.t 23)),fI 25 21 .gtr 24 5,oO 26 21 25,om 27 26,of 28 27 (.fld 3 (.t 1)),of 29 27 (.ld 1 false (.t 28)),of 30 27 (.len (.t 29)),fI 31 27 .gtr 30 6,oO 32 27 31]<|cd 32 (sr [oK 2 (.bool false)]<|.ret) (.skip))<|.seq (sr [oF 33 1 1,oL 34 33,oH 35 34,oK 36 (.int .i64 0)]<|.block 0<|l78_0)<|.seq (sr [oF 54 3 1,oL 55 54,oH 56 55,oK 57 (.int .i64 0)]<|.block 2<|l78_1)<|sr [oF 71 0 1,oL 72 71,cb 73 116 [.t 72],om 74 73,ot 75 74 (.fld 2 (.t 1)),tL 76 74 75,ot 77 74 (.call .blind 116 [.t 76]),oA 78 74 77,om 79 78,omt 80 3 79,ot 81 79 (.call .blind 116 [.t 80]),oA 82 79 81,om 83 82,omt 84 4 83,ot 85 83 (.call .blind 116 [.t 84]),oA 86 83 85,om 2 86]<|.ret⟩
def l79_0b:DC:=
 sr [oB 25 .lss 24 23]<|.seq (cx 25 0)<|.seq (.block 1<|sr [om 26 24,oX 27 6 22 24,oG 28 6 27,oo 4 (.alL [.str [],.int .i64 0,.int .i64 0,.nils,.nils,.nils]),om 3 26,oS 6 4 28]<|.seq (.drw [oF 29 3 4,oL 30 29,cb 31 120 [.t 30],oF 32 4 4,oL 33 32,cb 34 121 [.t 33],oF 35 5 4,oL 36 35,cb 37 121 [.t 36],oF 38 3 4,oS 1 38 31,oF 39 4 4,oS 1 39 34,oF 40 5 4,oS 1 40 37] [[],[],[1],[],[],[1,2,4],[],[],[1,2,4,5,7],[],[1,2,4,5,7,8],[],[1,2,4,5,7,8,10],[],[1,2,4,5,7,8,10,12]])<|.reg [oF 41 3 1,oL 42 41,om 43 3,oG 44 6 4,oX 45 6 42 43,oS 6 45 44])<|inc 46 24
def l79_0:DC:=.loop [1,2,22,23,24] [1,2] l79_0b
def f79:DFn:=⟨1,[.cell 2 4 true],
 sr [oZ 1 0,oo 2 (.alL [.nils,.nils,.nils,.nils])]<|.seq (.drw [oF 5 0 1,oL 6 5,cb 7 117 [.t 6],oF 8 1 1,oL 9 8,cb 10 118 [.t 9],oF 11 2 1,oL 12 11,cb 13 117 [.t 12],oF 14 3 1,oL 15 14,ce 16 119 [.t 15],oF 17 0 1,oS 1 17 7,oF 18 1 1,oS 1 18 10,oF 19 2 1,oS 1 19 13,oF 20 3 1,oS 1 20 16] [[],[],[1],[],[],[1,2,4],[],[],[1,2,4,5,7],[],[],[1,2,4,5,7,8,10],[],[1,2,4,5,7,8,10,11],[],[1,2,4,5,7,8,10,11,13],[],[1,2,4,5,7,8,10,11,13,15],[],[1,2,4,5,7,8,10,11,13,15,17]])<|.seq (sr [oF 21 3 1,oL 22 21,oH 23 22,oK 24 (.int .i64 0)]<|.block 0<|l79_0)<|sr [oG 47 4 1,oS 4 2 47]<|.ret⟩
def f80:DFn:=⟨0,[.t 0],
 sr [oK 0 (.nilp)]<|sr [oo 1 (.build [.int .i64 0,.int .i64 0,.bool false] []),oo 2 (.boxH (.t 1)),om 0 2]<|.ret⟩
def f81:DFn:=⟨1,[],
 .reg [om 2 0,om 3 0,om 4 0,oN 5 4,oF 6 0 5,oL 7 6,oI 8 .add 7 2,oN 9 2,oF 10 1 9,on (.st 1 (.t 10) (.k (.int .i64 (-1)))),oN 11 3,oF 12 4 11,oS 1 12 8]⟩
def f82:DFn:=⟨1,[],
 .seq (sr [om 2 0,oo 3 (.bin .eql .np (.t 2) (.k (.nilp)))]<|cd 3 (.ret) (.skip))<|sr [om 4 0,ce 5 122 [.t 4]]<|.reg [om 6 0,om 7 0,om 8 0,om 9 0,ce 10 80 [],oN 11 6,oF 12 3 11,on (.st 1 (.t 12) (.k (.int .i64 0))),oN 13 7,oF 14 1 13,oS 1 14 10,oN 15 8,oF 16 2 15,on (.st 1 (.t 16) (.k (.nilp))),oN 17 9,oF 18 5 17,on (.st 1 (.t 18) (.k (.int .i64 0)))]⟩
def f83:DFn:=⟨1,[.t 2],
 sr [oK 2 (.int .i64 0)]<|.seq (sr [om 3 0,oo 4 (.bin .eql .np (.t 3) (.k (.nilp))),om 5 4,omf 6 0 5,of 7 5 (.nilck (.t 6)),of 8 5 (.fld 3 (.t 7)),of 9 5 (.ld 1 false (.t 8)),fI 10 5 .neq 9 0,oO 11 5 10]<|cd 11 (sr [oK 2 (.int .i64 7)]<|.ret) (.skip))<|sr [om 12 0,om 13 0,oN 14 12,oF 15 3 14,on (.st 1 (.t 15) (.k (.int .i64 1))),oN 16 13,oF 17 4 16,on (.st 1 (.t 17) (.k (.int .i64 0)))]<|sr [oK 2 (.int .i64 0)]<|.ret⟩
def f84:DFn:=⟨2,[.t 4],
 sr [oK 4 (.int .i64 0)]<|.seq (sr [om 5 0,oo 6 (.bin .eql .np (.t 5) (.k (.nilp))),om 7 6,omf 8 1 7,fI 9 7 .lss 8 0,oO 10 7 9,om 11 10,omf 12 1 11,omf 13 0 11,of 14 11 (.nilck (.t 13)),of 15 11 (.fld 0 (.t 14)),of 16 11 (.ld 1 false (.t 15)),of 17 11 (.len (.t 16)),fB 18 11 .geq 12 17,oO 19 11 18]<|cd 19 (sr [oK 4 (.int .i64 5)]<|.ret) (.skip))<|.seq (.drw [om 20 0,oN 21 20,oF 22 0 21,oL 23 22,om 24 1,om 25 0,oN 26 25,oF 27 0 26,oL 28 27,om 29 1,oX 30 1 28 29,oL 31 30,oo 32 (.un .not (.t 31)),oX 33 1 23 24,oS 1 33 32] [[],[],[],[],[],[],[],[],[],[],[8],[8,10],[],[3,8,10,11],[3,8,10,11,13]])<|sr [oK 4 (.int .i64 0)]<|.ret⟩
def f85:DFn:=⟨2,[.t 4],
 sr [oK 4 (.int .i64 0)]<|.seq (sr [om 5 0,oo 6 (.bin .eql .np (.t 5) (.k (.nilp))),om 7 6,omf 8 1 7,fI 9 7 .lss 8 0,oO 10 7 9,om 11 10,omf 12 1 11,omf 13 0 11,of 14 11 (.nilck (.t 13)),of 15 11 (.fld 1 (.t 14)),of 16 11 (.ld 1 false (.t 15)),of 17 11 (.len (.t 16)),fB 18 11 .geq 12 17,oO 19 11 18]<|cd 19 (sr [oK 4 (.int .i64 5)]<|.ret) (.skip))<|sr [om 20 0,oN 21 20,oF 22 1 21,oL 23 22,om 24 1,oo 25 (.build [.int .i64 0,.int .i64 0,.int .i64 0] []),oX 26 3 23 24,oS 3 26 25]<|sr [oK 4 (.int .i64 0)]<|.ret⟩
def f86:DFn:=⟨1,[.t 2],
 sr [oK 2 (.bool false)]<|sr [om 3 0,oN 4 3,oF 5 3 4,oL 6 5,oI 7 .eql 6 3,om 8 7,omf 9 0 8,of 10 8 (.nilck (.t 9)),of 11 8 (.fld 3 (.t 10)),of 12 8 (.ld 1 false (.t 11)),fI 13 8 .eql 12 4,oO 14 8 13,om 2 14]<|.ret⟩
def f87:DFn:=⟨2,[.t 4],
 sr [oK 4 (.bool false)]<|sr [om 5 0,oo 6 (.bin .neq .np (.t 5) (.k (.nilp))),om 7 6,omt 8 0 7,ot 9 7 (.nilck (.t 8)),ot 10 7 (.fld 2 (.t 9)),tL 11 7 10,oA 12 7 11,om 13 12,omt 14 1 13,omt 15 0 13,ot 16 13 (.nilck (.t 15)),ot 17 13 (.fld 1 (.t 16)),tL 18 13 17,tB 19 13 .lss 14 18,oA 20 13 19,om 4 20]<|.ret⟩
def f88:DFn:=⟨1,[],
 sr [om 2 0,ce 3 122 [.t 2]]<|sr [om 4 0,om 5 0,oN 6 4,oF 7 3 6,on (.st 1 (.t 7) (.k (.int .i64 2))),oN 8 5,oF 9 2 8,on (.st 1 (.t 9) (.k (.nilp)))]<|.reg [om 10 0,oN 11 10,oF 12 1 11,oL 13 12,ce 14 123 [.t 13]]⟩
def f89:DFn:=⟨2,[.t 4],
 sr [oK 4 (.bool false)]<|sr [om 5 0,om 6 1,cr 7 124 [.t 5,.t 6],oI 8 .geq 7 0,om 4 8]<|.ret⟩
def f90:DFn:=⟨3,[.t 4],
 sr [oZ 3 0,oK 4 (.bool false)]<|sr [oF 5 0 3,oL 6 5,oL 7 1,oB 8 .eql 6 7,om 9 8,ot 10 9 (.fld 1 (.t 3)),tL 11 9 10,tL 12 9 2,tB 13 9 .eql 11 12,oA 14 9 13,om 4 14]<|.ret⟩
def l91_0b:DC:=
 sr [oB 24 .lss 23 22]<|.seq (cx 24 0)<|.seq (.block 1<|sr [oK 8 (.bool false)]<|sr [om 26 4,om 27 6,ce 28 127 [.t 26,.t 27],om 25 28,oE 29 0 25,oE 30 1 25,om 6 29,om 8 30]<|sr [om 31 8,oo 32 (.un .not (.t 31))]<|cd 32 (sr [oK 2 (.nilp),oK 3 (.int .i64 2)]<|.ret) (.skip))<|.reg [oo 33 (.bin .add .sc (.t 23) (.k (.int .u64 1))),om 23 33]
def l91_0:DC:=.loop [0,4,6,22,23] [] l91_0b
def f91:DFn:=⟨1,[.t 2,.t 3],
 sr [oK 2 (.nilp),oK 3 (.int .i64 0)]<|.seq (sr [om 11 0,oH 12 11,oI 13 .leq 12 6]<|cd 13 (sr [oK 2 (.nilp),oK 3 (.int .i64 2)]<|.ret) (.skip))<|sr [ce 14 125 [],om 4 14]<|sr [om 16 0,oo 17 (.slc 1 (.t 16) (some (.k (.int .i64 6))) none none),cr 18 126 [.t 17,.k (.int .i64 1)],om 15 18,oE 19 0 15,oE 20 1 15,oE 21 2 15,om 5 19,om 6 20,om 7 21]<|.seq (sr [om 22 5,oK 23 (.int .u64 0)]<|.block 0<|l91_0)<|.seq (sr [om 35 4,cr 36 128 [.t 35],om 34 36,oE 37 0 34,oE 38 1 34,om 9 37,om 10 38]<|sr [om 39 10,oI 40 .neq 39 0,om 41 40,omf 42 9 41,omf 43 0 41,of 44 41 (.call .blind 129 [.t 42,.t 43]),of 45 41 (.un .not (.t 44)),oO 46 41 45]<|cd 46 (sr [oK 2 (.nilp),oK 3 (.int .i64 2)]<|.ret) (.skip))<|sr [om 47 4,om 2 47,oK 3 (.int .i64 0)]<|.ret⟩
def l92_0b:DC:=
 .seq (sr [om 12 7,om 13 0,cr 14 130 [.t 13],oB 15 .lss 12 14]<|cx 15 0)<|.seq (.block 1<|sr [om 19 0,om 20 7,cr 21 131 [.t 19,.t 20],om 18 21,oE 22 0 18,oE 23 1 18,om 8 22,om 9 23]<|.seq (sr [om 24 9,oo 25 (.un .not (.t 24))]<|cd 25 (sr [oK 2 (.int .i64 0),oK 3 (.int .i64 0),oK 4 (.nils),oK 5 (.bool false)]<|.ret) (.skip))<|.reg [om 26 6,om 27 8,oo 28 (.bsl false 1 [.int .i64 0] 1 [(0,(.t 27))]),oo 29 (.app 1 8 (.t 26) (.t 28)),om 6 29])<|.reg [om 16 7,oI 17 .add 16 1,om 7 17]
def l92_0:DC:=.loop [0,6,7] [] l92_0b
def f92:DFn:=⟨1,[.t 2,.t 3,.t 4,.t 5],
 sr [oK 2 (.int .i64 0),oK 3 (.int .i64 0),oK 4 (.nils),oK 5 (.bool false)]<|sr [oK 6 (.nils)]<|.seq (sr [oK 7 (.int .i64 1)]<|.block 0<|l92_0)<|sr [om 31 0,cr 32 132 [.t 31,.k (.int .i64 0)],om 30 32,oE 33 0 30,oE 34 1 30,om 10 33,om 11 34]<|.seq (sr [om 35 11,oo 36 (.un .not (.t 35)),om 37 36,omf 38 10 37,of 39 37 (.bin .neq .sc (.t 38) (.k (.str [115,116,97,116,101]))),oO 40 37 39,om 41 40,omf 42 6 41,of 43 41 (.len (.t 42)),fI 44 41 .lss 43 3,oO 45 41 44]<|cd 45 (sr [oK 2 (.int .i64 0),oK 3 (.int .i64 0),oK 4 (.nils),oK 5 (.bool false)]<|.ret) (.skip))<|sr [om 47 6,oo 48 (.slc 1 (.t 47) (some (.k (.int .i64 3))) none none),cr 49 133 [.t 48],om 46 49,oE 50 0 46,oE 51 1 46,om 4 50,om 5 51]<|.seq (sr [om 52 5,oo 53 (.un .not (.t 52)),om 54 53,omf 55 6 54,of 56 54 (.idx 1 (.t 55) (.k (.int .i64 2))),of 57 54 (.ld 1 false (.t 56)),omf 58 4 54,of 59 54 (.len (.t 58)),fB 60 54 .neq 57 59,oO 61 54 60]<|cd 61 (sr [oK 2 (.int .i64 0),oK 3 (.int .i64 0),oK 4 (.nils),oK 5 (.bool false)]<|.ret) (.skip))<|.seq (.drw [om 62 6,oo 63 (.idx 1 (.t 62) (.k (.int .i64 0))),oL 64 63,om 65 6,oo 66 (.idx 1 (.t 65) (.k (.int .i64 1))),oL 67 66,om 68 4,om 2 64,om 3 67,om 4 68,oK 5 (.bool true)] [[],[],[1],[],[],[4],[],[],[],[],[]])<|.ret⟩
def f93:DFn:=⟨2,[.t 4],
 sr [oZ 3 1,oK 4 (.bool false)]<|sr [om 6 0,oN 7 6,oF 8 2 7,oL 9 8,om 5 9]<|.seq (.drw [om 10 5,oo 11 (.bin .neq .np (.t 10) (.k (.nilp))),om 12 11,ot 13 12 (.fld 0 (.t 3)),tL 14 12 13,omt 15 5 12,ot 16 12 (.nilck (.t 15)),ot 17 12 (.fld 0 (.t 16)),tL 18 12 17,tB 19 12 .lss 14 18,omt 20 19 12,of 21 20 (.fld 0 (.t 3)),of 22 20 (.ld 1 false (.t 21)),omf 23 5 20,of 24 20 (.nilck (.t 23)),of 25 20 (.fld 0 (.t 24)),of 26 20 (.ld 1 false (.t 25)),fB 27 20 .eql 22 26,omf 28 27 20,ot 29 28 (.fld 1 (.t 3)),tL 30 28 29,omt 31 5 28,ot 32 28 (.nilck (.t 31)),ot 33 28 (.fld 1 (.t 32)),tL 34 28 33,tB 35 28 .leq 30 34,of 36 20 (.pick (.t 28) (.t 35) (.k (.bool false))),ot 37 12 (.pick (.t 20) (.k (.bool true)) (.t 36)),oA 38 12 37,om 4 38] [[],[],[],[],[],[],[],[],[],[],[],[],[4,8],[],[],[],[4,8],[],[],[],[4,8,12,16],[],[],[],[4,8,12,16],[],[],[],[],[]])<|.ret⟩
def f94:DFn:=⟨1,[.t 2],
 sr [oK 2 (.nils)]<|.seq (sr [om 3 0,oo 4 (.bin .eql .np (.t 3) (.k (.nilp)))]<|cd 4 (sr [oK 2 (.nils)]<|.ret) (.skip))<|sr [om 5 0,oN 6 5,oF 7 4 6,oL 8 7,ce 9 134 [.t 8],om 2 9]<|.ret⟩
def l95_1b:DC:=
 sr [oB 38 .lss 37 36]<|.seq (cx 38 2)<|.seq (.block 3<|sr [om 39 37,oX 40 4 35 37,oG 41 4 40,oo 8 (.alL [.int .i64 0,.int .i64 0,.int .i64 0,.bool false]),om 7 39,oS 4 8 41]<|sr [oF 42 0 6,oL 43 42,oI 44 .neq 43 0,om 45 44,ot 46 45 (.fld 0 (.t 8)),tL 47 45 46,tI 48 45 .neq 47 0,oA 49 45 48,om 50 49,omt 51 0 50,ot 52 50 (.nilck (.t 51)),ot 53 50 (.fld 0 (.t 52)),ot 54 50 (.ld 4 true (.t 53)),omt 55 5 50,omt 56 7 50,ot 57 50 (.call .blind 136 [.t 54,.t 55,.t 56]),oA 58 50 57]<|cd 58 (sr [oK 4 (.bool false)]<|.ret) (.skip))<|inc 59 37
def l95_1:DC:=.loop [0,1,5,6,21,22,23,35,36,37] [6] l95_1b
def l95_0b:DC:=
 sr [oB 24 .lss 23 22]<|.seq (cx 24 0)<|.seq (.block 1<|sr [om 25 23,oX 26 4 21 23,oG 27 4 26,oo 6 (.alL [.int .i64 0,.int .i64 0,.int .i64 0,.bool false]),om 5 25,oS 4 6 27]<|.seq (sr [om 28 0,om 29 5,oG 30 4 6,cr 31 135 [.t 28,.t 29,.t 30],oo 32 (.un .not (.t 31))]<|cd 32 (sr [oK 4 (.bool false)]<|.ret) (.skip))<|sr [om 33 1,om 34 5,oo 35 (.slc 4 (.t 33) none (some (.t 34)) none),oH 36 35,oK 37 (.int .i64 0)]<|.block 2<|l95_1)<|inc 60 23
def l95_0:DC:=.loop [0,1,21,22,23] [] l95_0b
def f95:DFn:=⟨2,[.t 4],
 sr [oK 4 (.bool false)]<|.seq (sr [om 9 0,oo 10 (.bin .eql .np (.t 9) (.k (.nilp))),om 11 10,omf 12 1 11,of 13 11 (.len (.t 12)),omf 14 0 11,of 15 11 (.nilck (.t 14)),of 16 11 (.fld 4 (.t 15)),of 17 11 (.ld 1 false (.t 16)),of 18 11 (.len (.t 17)),fB 19 11 .neq 13 18,oO 20 11 19]<|cd 20 (sr [oK 4 (.bool false)]<|.ret) (.skip))<|.seq (sr [om 21 1,oH 22 21,oK 23 (.int .i64 0)]<|.block 0<|l95_0)<|sr [om 61 0,om 62 1,ce 63 134 [.t 62],oN 64 61,oF 65 4 64,oS 1 65 63]<|sr [oK 4 (.bool true)]<|.ret⟩
def f96:DFn:=⟨2,[.t 4],
 sr [oK 4 (.bool false)]<|sr [om 5 0,oo 6 (.bin .neq .np (.t 5) (.k (.nilp))),om 7 6,omt 8 1 7,tI 9 7 .geq 8 0,oA 10 7 9,om 11 10,omt 12 1 11,tI 13 11 .lss 12 2,oA 14 11 13,om 4 14]<|.ret⟩
def f97:DFn:=⟨1,[.t 2],
 sr [oK 2 (.bool false)]<|.seq (sr [om 3 0,oo 4 (.bin .eql .np (.t 3) (.k (.nilp))),om 5 4,omf 6 0 5,of 7 5 (.nilck (.t 6)),of 8 5 (.fld 3 (.t 7)),of 9 5 (.ld 1 false (.t 8)),fI 10 5 .neq 9 3,oO 11 5 10]<|cd 11 (sr [oK 2 (.bool false)]<|.ret) (.skip))<|sr [om 12 0,ce 13 88 [.t 12]]<|sr [oK 2 (.bool true)]<|.ret⟩
def f98:DFn:=⟨2,[.t 4],
 sr [oK 4 (.int .i64 0)]<|.seq (sr [om 5 0,oo 6 (.bin .eql .np (.t 5) (.k (.nilp))),om 7 6,omf 8 0 7,of 9 7 (.nilck (.t 8)),of 10 7 (.fld 1 (.t 9)),of 11 7 (.ld 1 false (.t 10)),fI 12 7 .eql 11 (-1),oO 13 7 12,om 14 13,omf 15 0 14,of 16 14 (.nilck (.t 15)),of 17 14 (.fld 1 (.t 16)),of 18 14 (.ld 1 false (.t 17)),omf 19 1 14,fB 20 14 .neq 18 19,oO 21 14 20]<|cd 21 (sr [oK 4 (.int .i64 7)]<|.ret) (.skip))<|sr [om 22 0,ce 23 81 [.t 22]]<|sr [om 24 0,oN 25 24,oF 26 2 25,on (.st 1 (.t 26) (.k (.int .i64 (-1))))]<|sr [oK 4 (.int .i64 0)]<|.ret⟩
def f99:DFn:=⟨3,[.t 6,.t 7,.t 8],
 sr [oK 6 (.int .i64 0),oK 7 (.int .i64 0),oK 8 (.int .i64 0)]<|.seq (.block 0<|sr [om 10 0,oo 11 (.bin .eql .np (.t 10) (.k (.nilp))),om 12 11,omf 13 1 12,fI 14 12 .lss 13 0,oO 15 12 14,om 16 15,omf 17 1 16,fI 18 16 .geq 17 2,oO 19 16 18,om 20 19,omf 21 2 20,fI 22 20 .lss 21 0,oO 23 20 22,om 9 23]<|cd 9 (sr [oK 6 (.int .i64 0),oK 7 (.int .i64 0),oK 8 (.int .i64 1)]<|.ret) (sr [om 25 0,oN 26 25,oF 27 1 26,oL 28 27,om 29 1,oB 30 .eql 28 29,om 24 30]<|cd 24 (sr [om 31 0,oN 32 31,oF 33 6 32,oL 34 33,om 7 34]<|sr [om 35 0,om 36 0,om 37 0,om 38 1,om 39 0,oN 40 39,oF 41 0 40,oL 42 41,om 43 2,oN 44 35,oF 45 2 44,oS 1 45 38,oN 46 36,oF 47 3 46,oS 1 47 42,oN 48 37,oF 49 6 48,oS 1 49 43]<|sr [om 50 0,oN 51 50,oF 52 5 51,oL 53 52,om 54 7,om 6 53,om 7 54,oK 8 (.int .i64 0)]<|.ret) (.seq (.drw [om 56 0,oN 57 56,oF 58 1 57,oL 59 58,oI 60 .eql 59 (-1),om 61 60,omt 62 0 61,ot 63 61 (.nilck (.t 62)),ot 64 61 (.fld 0 (.t 63)),tL 65 61 64,omt 66 0 61,ot 67 61 (.nilck (.t 66)),ot 68 61 (.fld 4 (.t 67)),tL 69 61 68,tB 70 61 .geq 65 69,oA 71 61 70,om 55 71] [[],[],[],[],[],[],[],[],[],[3],[],[],[],[3],[],[],[]])<|cd 55 (sr [om 72 0,om 73 0,om 74 1,om 75 0,oN 76 75,oF 77 0 76,oL 78 77,oN 79 72,oF 80 1 79,oS 1 80 74,oN 81 73,oF 82 3 81,oS 1 82 78]<|sr [om 83 0,oN 84 83,oF 85 5 84,oL 86 85,oI 87 .add 86 1,oN 88 83,oF 89 5 88,oS 1 89 87]<|.seq (.drw [om 90 0,oN 91 90,oF 92 5 91,oL 93 92,om 94 0,oN 95 94,oF 96 6 95,oL 97 96,om 6 93,om 7 97,oK 8 (.int .i64 0)] [[],[],[],[],[],[],[],[],[],[],[]])<|.ret) (.skip))))<|sr [oK 6 (.int .i64 0),oK 7 (.int .i64 0),oK 8 (.int .i64 8)]<|.ret⟩
def f100:DFn:=⟨1,[.t 2],
 sr [oK 2 (.int .i64 0)]<|.seq (sr [om 3 0,oo 4 (.bin .eql .np (.t 3) (.k (.nilp)))]<|cd 4 (sr [oK 2 (.int .i64 0)]<|.ret) (.skip))<|sr [om 5 0,oN 6 5,oF 7 5 6,oL 8 7,om 2 8]<|.ret⟩
def f101:DFn:=⟨3,[],
 .block 0<|sr [om 7 0,oo 8 (.bin .eql .np (.t 7) (.k (.nilp))),om 6 8]<|cd 6 (.skip) (sr [om 10 0,cr 11 86 [.t 10],om 12 11,omt 13 0 12,ot 14 12 (.nilck (.t 13)),ot 15 12 (.fld 1 (.t 14)),tL 16 12 15,ot 17 12 (.call .ro 137 [.t 16]),omt 18 1 12,tB 19 12 .eql 17 18,oA 20 12 19,om 9 20]<|cd 9 (.drw [om 21 0,oN 22 21,oF 23 1 22,oL 24 23,om 25 1,om 26 0,oN 27 26,oF 28 4 27,oL 29 28,ce 30 138 [.t 24,.t 25,.t 29]] [[],[],[],[],[],[],[],[],[],[3,8]]) (sr [om 32 0,cr 33 86 [.t 32],om 34 33,omf 35 0 34,of 36 34 (.nilck (.t 35)),of 37 34 (.fld 3 (.t 36)),of 38 34 (.ld 1 false (.t 37)),fI 39 34 .eql 38 2,oO 40 34 39,om 31 40]<|cd 31 (.seq (.drw [om 41 0,oN 42 41,oF 43 1 42,oL 44 43,om 45 1,om 46 0,oN 47 46,oF 48 4 47,oL 49 48,ce 50 138 [.t 44,.t 45,.t 49]] [[],[],[],[],[],[],[],[],[],[3,8]])<|sr [om 51 0,om 52 1,om 53 2,ce 54 139 [.t 51,.t 52,.t 53]]<|.reg [om 55 0,oN 56 55,oF 57 2 56,on (.st 1 (.t 57) (.k (.nilp)))]) (.skip)))⟩
def f102:DFn:=⟨1,[.cell 2 2 true],
 sr [oo 2 (.alL [.nils,.nils])]<|.seq (sr [om 3 0,oo 4 (.bin .eql .np (.t 3) (.k (.nilp)))]<|cd 4 (sr [oo 5 (.build [.nils,.nils] []),oS 2 2 5]<|.ret) (.skip))<|.seq (.drw [om 6 0,oN 7 6,oF 8 0 7,oF 9 1 8,oL 10 9,oH 11 10,oo 12 (.mks true 1 8 [.int .i64 0] (.t 11)),om 13 0,oN 14 13,oF 15 0 14,oF 16 2 15,oL 17 16,oH 18 17,oo 19 (.mks true 1 1 [.bool false] (.t 18)),oo 20 (.build [.nils,.nils] [(0,1,(.t 12)),(1,1,(.t 19))]),oS 2 2 20] [[],[],[],[],[],[],[4],[],[],[],[],[],[],[11],[],[4,6,11,13]])<|.ret⟩
def f103:DFn:=⟨4,[.cell 8 2 true],
 sr [oZ 5 1,oo 8 (.alL [.nils,.nils])]<|.seq (sr [om 9 0,oo 10 (.bin .eql .np (.t 9) (.k (.nilp)))]<|cd 10 (sr [oo 11 (.build [.nils,.nils] []),oS 2 8 11]<|.ret) (.skip))<|.seq (.seq (.drw [om 12 0,cr 13 86 [.t 12],oo 14 (.un .not (.t 13)),om 15 14,omf 16 0 15,of 17 15 (.nilck (.t 16)),of 18 15 (.fld 1 (.t 17)),of 19 15 (.ld 1 false (.t 18)),omf 20 0 15,of 21 15 (.nilck (.t 20)),of 22 15 (.fld 4 (.t 21)),of 23 15 (.ld 1 false (.t 22)),of 24 15 (.call .ro 87 [.t 19,.t 23]),of 25 15 (.un .not (.t 24)),oO 26 15 25] [[],[],[],[],[],[],[],[1],[],[],[],[1],[1,7,11],[],[]])<|cd 26 (sr [om 27 0,oN 28 27,oF 29 0 28,oL 30 29,cr 31 102 [.t 30],oS 2 8 31]<|.ret) (.skip))<|.seq (sr [om 32 0,oN 33 32,oF 34 5 33,oL 35 34,oI 36 .lss 35 9223372036854775807]<|cd 36 (.reg [om 37 0,oN 38 37,oF 39 5 38,oL 40 39,oI 41 .add 40 1,oN 42 37,oF 43 5 42,oS 1 43 41]) (.skip))<|.seq (sr [om 44 0,oN 45 44,oF 46 3 45,oL 47 46,oI 48 .eql 47 3]<|cd 48 (sr [om 49 0,oG 50 2 5,om 51 2,om 52 3,ce 53 140 [.t 49,.t 50,.t 51,.t 52],oS 2 8 53]<|.ret) (.skip))<|sr [om 54 0,oN 55 54,oF 56 6 55,oL 57 56,oI 58 .sub 57 1,oN 59 54,oF 60 6 59,oS 1 60 58]<|.seq (sr [om 61 0,oN 62 61,oF 63 6 62,oL 64 63,oI 65 .leq 64 0]<|cd 65 (.reg [om 66 0,oN 67 66,oF 68 3 67,on (.st 1 (.t 68) (.k (.int .i64 3)))]) (.skip))<|sr [om 69 0,oN 70 69,oF 71 0 70,oL 72 71,cr 73 102 [.t 72],oS 2 8 73]<|.ret⟩
def f104:DFn:=⟨2,[.cell 4 3 true],
 sr [oZ 2 0,oo 4 (.alL [.int .i64 0,.int .i64 0,.int .i64 0])]<|.seq (sr [om 5 1,oI 6 .eql 5 0,om 7 6,omf 8 1 7,of 9 7 (.fld 0 (.t 2)),of 10 7 (.ld 1 false (.t 9)),fB 11 7 .eql 8 10,oO 12 7 11]<|cd 12 (sr [oF 13 0 2,oL 14 13,oo 15 (.build [.int .i64 0,.int .i64 0,.int .i64 0] [(0,1,(.t 14))]),oS 3 4 15]<|.ret) (.skip))<|.seq (sr [om 16 1,oF 17 1 2,oL 18 17,oB 19 .neq 16 18]<|cd 19 (.reg [oF 20 2 2,on (.st 1 (.t 20) (.k (.int .i64 0)))]) (.skip))<|sr [om 21 1,oF 22 2 2,oL 23 22,oI 24 .add 23 1,oo 25 (.build [.int .i64 0,.int .i64 0,.int .i64 0] [(1,1,(.t 21)),(2,1,(.t 24))]),oS 3 2 25]<|.seq (sr [oF 26 2 2,oL 27 26,oI 28 .geq 27 3]<|cd 28 (sr [om 29 1,oo 30 (.build [.int .i64 0,.int .i64 0,.int .i64 0] [(0,1,(.t 29))]),oS 3 4 30]<|.ret) (.skip))<|sr [oG 31 3 2,oS 3 4 31]<|.ret⟩
def f105:DFn:=⟨3,[],
 sr [om 6 0,om 7 1,cr 8 96 [.t 6,.t 7],om 9 8,omt 10 2 9,ot 11 9 (.len (.t 10)),tI 12 9 .gtr 11 0,oA 13 9 12]<|cd 13 (.drw [om 14 0,om 15 1,om 16 2,ce 17 141 [.t 16],oN 18 14,oF 19 0 18,oo 20 (.idxA 1 2 (.t 19) (.t 15)),oS 1 20 17] [[],[],[],[],[],[],[],[3]]) (.skip)⟩
def f106:DFn:=⟨1,[.t 2],
 sr [oK 2 (.nils)]<|.seq (sr [om 5 0,oo 6 (.bin .eql .np (.t 5) (.k (.nilp))),om 7 6,omf 8 0 7,of 9 7 (.nilck (.t 8)),of 10 7 (.fld 3 (.t 9)),of 11 7 (.ld 1 false (.t 10)),fI 12 7 .neq 11 3,oO 13 7 12]<|cd 13 (sr [oK 2 (.nils)]<|.ret) (.skip))<|.seq (.drw [om 15 0,oN 16 15,oF 17 1 16,oL 18 17,cr 19 137 [.t 18],om 20 0,oN 21 20,oF 22 5 21,oL 23 22,om 24 0,oN 25 24,oF 26 0 25,oL 27 26,cr 28 94 [.t 27],ce 29 142 [.t 19,.t 23,.t 28],cr 30 128 [.t 29],om 14 30,oE 31 0 14,oE 32 1 14,om 3 31,om 4 32] [[],[],[],[],[3],[],[],[],[],[],[],[],[],[3,4,12],[3,4,8,12,13],[3,4,8,12,13,14],[],[],[],[],[]])<|sr [om 33 3,om 2 33]<|.ret⟩
def l107_0b:DC:=
 sr [oI 15 .lss 14 2]<|.seq (cx 15 0)<|.seq (.block 1<|sr [om 16 14,oo 17 (.idxV 1 2 false (.t 13) (.t 14)),om 6 16,om 7 17]<|.seq (sr [om 18 1]<|cd 18 (.reg [oK 7 (.nils)]) (.skip))<|.seq (sr [om 19 7,oH 20 19,oI 21 .gtr 20 0,om 22 21,omt 23 2 22,tI 24 22 .geq 23 0,oA 25 22 24]<|cd 25 (.reg [om 26 7,om 27 2,om 28 7,oH 29 28,oB 30 .rem 27 29,oX 31 1 26 30,oL 32 31,oo 33 (.bin .xor .sc (.t 32) (.k (.int .u8 1))),oX 34 1 26 30,oS 1 34 33]) (.skip))<|.drw [om 35 0,om 36 6,oo 37 (.bin .sub .sc (.k (.int .i64 1)) (.t 36)),om 38 0,om 39 6,om 40 7,oN 41 35,oF 42 2 41,oo 43 (.idxA 1 2 (.t 42) (.t 37)),oS 1 43 40,oN 44 38,oF 45 0 44,oo 46 (.idxA 1 2 (.t 45) (.t 39)),on (.st 1 (.t 46) (.k (.nils)))] [[],[],[],[],[],[],[],[],[],[],[],[],[],[9]])<|inc 47 14
def l107_0:DC:=.loop [0,1,2,13,14] [] l107_0b
def f107:DFn:=⟨3,[],
 .seq (sr [om 8 0,oo 9 (.bin .eql .np (.t 8) (.k (.nilp)))]<|cd 9 (.ret) (.skip))<|sr [om 10 0,oN 11 10,oF 12 0 11,oG 13 2 12,oK 14 (.int .i64 0)]<|.block 0<|l107_0⟩
def l108_0b:DC:=
 .seq (sr [om 6 5,om 7 0,oH 8 7,oB 9 .lss 6 8]<|cx 9 0)<|.seq (.block 1<|sr [om 12 0,om 13 5,oX 14 1 12 13,oL 15 14,om 16 1,oB 17 .eql 15 16]<|cd 17 (sr [oK 4 (.bool true)]<|.ret) (.skip))<|.reg [om 10 5,oI 11 .add 10 1,om 5 11]
def l108_0:DC:=.loop [0,1,5] [] l108_0b
def f108:DFn:=⟨2,[.t 4],
 sr [oK 4 (.bool false)]<|.seq (sr [oK 5 (.int .i64 0)]<|.block 0<|l108_0)<|sr [oK 4 (.bool false)]<|.ret⟩
def f111:DFn:=⟨1,[.t 2],
 sr [oK 2 (.nils)]<|.seq (sr [om 3 0,oo 4 (.bin .eql .ns (.t 3) (.k (.nils)))]<|cd 4 (sr [oK 2 (.nils)]<|.ret) (.skip))<|sr [oo 5 (.bsl false 1 [.bool false] 0 []),om 6 0,oo 7 (.app 1 1 (.t 5) (.t 6)),om 2 7]<|.ret⟩
def f112:DFn:=⟨1,[.t 2],
 sr [oK 2 (.bool false)]<|sr [om 3 0,cb 4 144 [.t 3],om 5 4,omt 6 0 5,ot 7 5 (.bin .neq .sc (.t 6) (.k (.str [115,101,116]))),oA 8 5 7,om 9 8,omt 10 0 9,ot 11 9 (.bin .neq .sc (.t 10) (.k (.str [102,108,97,110,107]))),oA 12 9 11,om 2 12]<|.ret⟩
def l113_0b:DC:=
 .seq (sr [om 11 9,om 12 1,oH 13 12,oB 14 .lss 11 13]<|cx 14 0)<|.seq (.block 1<|sr [om 17 1,om 18 9,oX 19 2 17 18,oF 20 0 19,oL 21 20,om 10 21]<|sr [om 22 10,oI 23 .lss 22 0,om 24 23,omf 25 10 24,of 26 24 (.fld 1 (.t 4)),of 27 24 (.ld 1 false (.t 26)),of 28 24 (.len (.t 27)),fB 29 24 .geq 25 28,oO 30 24 29,om 31 30,omf 32 9 31,fI 33 31 .gtr 32 0,omf 34 33 31,omt 35 1 34,omt 36 9 34,tI 37 34 .sub 36 1,ot 38 34 (.idx 2 (.t 35) (.t 37)),ot 39 34 (.fld 0 (.t 38)),tL 40 34 39,omt 41 10 34,tB 42 34 .geq 40 41,of 43 31 (.pick (.t 34) (.t 42) (.k (.bool false))),oO 44 31 43,om 45 44,omf 46 2 45,of 47 45 (.fld 1 (.t 4)),of 48 45 (.ld 1 false (.t 47)),omf 49 10 45,of 50 45 (.idx 2 (.t 48) (.t 49)),of 51 45 (.fld 1 (.t 50)),of 52 45 (.ld 1 false (.t 51)),of 53 45 (.call .blind 108 [.t 46,.t 52]),omf 54 3 45,of 55 45 (.bin .neq .bl (.t 53) (.t 54)),oO 56 45 55]<|cd 56 (sr [oK 8 (.bool false)]<|.ret) (.skip))<|.reg [om 15 9,oI 16 .add 15 1,om 9 16]
def l113_0:DC:=.loop [1,2,3,4,9] [4] l113_0b
def f113:DFn:=⟨4,[.t 8],
 sr [oZ 4 0,oK 8 (.bool false)]<|.seq (sr [oK 9 (.int .i64 0)]<|.block 0<|l113_0)<|sr [oK 8 (.bool true)]<|.ret⟩
def f114:DFn:=⟨3,[.t 6],
 sr [oK 6 (.bool false)]<|sr [om 7 0,om 8 1,oB 9 .geq 7 8,om 10 9,omt 11 0 10,omt 12 2 10,tB 13 10 .leq 11 12,oA 14 10 13,om 6 14]<|.ret⟩
def l115_0b:DC:=
 sr [oB 61 .lss 60 59]<|.seq (cx 61 0)<|.seq (.block 1<|sr [oX 62 2 58 60,oG 63 2 62,oo 8 (.alL [.str [],.int .i64 0]),oS 2 8 63]<|sr [oF 64 3 3,oL 65 64,oF 66 1 8,oL 67 66,cb 68 147 [.t 65,.t 67]]<|cd 68 (.reg [om 69 6,oI 70 .add 69 1,om 6 70]) (.skip))<|inc 71 60
def l115_0:DC:=.loop [3,6,58,59,60] [3] l115_0b
def f115:DFn:=⟨2,[.t 4],
 sr [oZ 2 0,oZ 3 1,oK 4 (.bool false)]<|sr [oF 9 2 2,oL 10 9,oH 11 10,oI 12 .sub 11 1,om 5 12]<|.seq (sr [oF 13 1 3,oL 14 13,om 15 5,cb 16 114 [.t 14,.k (.int .i64 0),.t 15],oo 17 (.un .not (.t 16)),om 18 17,of 19 18 (.fld 2 (.t 3)),of 20 18 (.ld 1 false (.t 19)),omf 21 5 18,of 22 18 (.call .blind 114 [.t 20,.k (.int .i64 0),.t 21]),of 23 18 (.un .not (.t 22)),oO 24 18 23,om 25 24,of 26 25 (.fld 1 (.t 3)),of 27 25 (.ld 1 false (.t 26)),of 28 25 (.fld 2 (.t 3)),of 29 25 (.ld 1 false (.t 28)),fB 30 25 .eql 27 29,oO 31 25 30,om 32 31,of 33 32 (.ld 4 true (.t 2)),of 34 32 (.fld 3 (.t 3)),of 35 32 (.ld 1 false (.t 34)),of 36 32 (.call .blind 145 [.t 33,.t 35]),of 37 32 (.un .not (.t 36)),oO 38 32 37,om 39 38,of 40 39 (.ld 4 true (.t 2)),of 41 39 (.fld 4 (.t 3)),of 42 39 (.ld 1 false (.t 41)),of 43 39 (.fld 3 (.t 3)),of 44 39 (.ld 1 false (.t 43)),of 45 39 (.call .blind 146 [.t 40,.t 42,.t 44,.k (.bool true)]),of 46 39 (.un .not (.t 45)),oO 47 39 46,om 48 47,of 49 48 (.ld 4 true (.t 2)),of 50 48 (.fld 5 (.t 3)),of 51 48 (.ld 1 false (.t 50)),of 52 48 (.fld 3 (.t 3)),of 53 48 (.ld 1 false (.t 52)),of 54 48 (.call .blind 146 [.t 49,.t 51,.t 53,.k (.bool false)]),of 55 48 (.un .not (.t 54)),oO 56 48 55]<|cd 56 (sr [oK 4 (.bool false)]<|.ret) (.skip))<|sr [oK 6 (.int .i64 0)]<|.seq (sr [oF 57 1 2,oL 58 57,oH 59 58,oK 60 (.int .i64 0)]<|.block 0<|l115_0)<|sr [om 72 6,oF 73 4 3,oL 74 73,oH 75 74,oB 76 .eql 72 75,om 4 76]<|.ret⟩
def l116_0b:DC:=
 sr [oB 8 .lss 7 6]<|.seq (cx 8 0)<|.seq (.block 1<|sr [om 9 7,oX 10 1 5 7,oL 11 10,om 3 9,om 4 11]<|sr [om 12 4,cb 13 148 [.t 12],oo 14 (.un .not (.t 13)),om 15 14,omf 16 4 15,of 17 15 (.bin .eql .sc (.t 16) (.k (.str [115,101,116]))),oO 18 15 17,om 19 18,omf 20 4 19,of 21 19 (.bin .eql .sc (.t 20) (.k (.str [102,108,97,110,107]))),oO 22 19 21,om 23 22,omf 24 0 23,omf 25 3 23,of 26 23 (.slc 1 (.t 24) none (some (.t 25)) none),omf 27 4 23,of 28 23 (.call .blind 149 [.t 26,.t 27]),oO 29 23 28]<|cd 29 (sr [oK 2 (.bool false)]<|.ret) (.skip))<|inc 30 7
def l116_0:DC:=.loop [0,5,6,7] [] l116_0b
def f116:DFn:=⟨1,[.t 2],
 sr [oK 2 (.bool false)]<|.seq (sr [om 5 0,oH 6 5,oK 7 (.int .i64 0)]<|.block 0<|l116_0)<|sr [oK 2 (.bool true)]<|.ret⟩
def f117:DFn:=⟨1,[.t 2],
 sr [oK 2 (.nils)]<|.seq (sr [om 3 0,oo 4 (.bin .eql .ns (.t 3) (.k (.nils)))]<|cd 4 (sr [oK 2 (.nils)]<|.ret) (.skip))<|sr [oo 5 (.bsl false 1 [.str []] 0 []),om 6 0,oo 7 (.app 1 16 (.t 5) (.t 6)),om 2 7]<|.ret⟩
def f118:DFn:=⟨1,[.t 2],
 sr [oK 2 (.nils)]<|.seq (sr [om 3 0,oo 4 (.bin .eql .ns (.t 3) (.k (.nils)))]<|cd 4 (sr [oK 2 (.nils)]<|.ret) (.skip))<|sr [oo 5 (.bsl false 2 [.str [],.int .i64 0] 0 []),om 6 0,oo 7 (.app 2 24 (.t 5) (.t 6)),om 2 7]<|.ret⟩
def f119:DFn:=⟨1,[.t 2],
 sr [oK 2 (.nils)]<|.seq (sr [om 3 0,oo 4 (.bin .eql .ns (.t 3) (.k (.nils)))]<|cd 4 (sr [oK 2 (.nils)]<|.ret) (.skip))<|sr [oo 5 (.bsl false 6 [.str [],.int .i64 0,.int .i64 0,.nils,.nils,.nils] 0 []),om 6 0,oo 7 (.app 6 104 (.t 5) (.t 6)),om 2 7]<|.ret⟩
def f120:DFn:=⟨1,[.t 2],
 sr [oK 2 (.nils)]<|.seq (sr [om 3 0,oo 4 (.bin .eql .ns (.t 3) (.k (.nils)))]<|cd 4 (sr [oK 2 (.nils)]<|.ret) (.skip))<|sr [oo 5 (.bsl false 1 [.int .i64 0] 0 []),om 6 0,oo 7 (.app 1 8 (.t 5) (.t 6)),om 2 7]<|.ret⟩
def f121:DFn:=⟨1,[.t 2],
 sr [oK 2 (.nils)]<|.seq (sr [om 3 0,oo 4 (.bin .eql .ns (.t 3) (.k (.nils)))]<|cd 4 (sr [oK 2 (.nils)]<|.ret) (.skip))<|sr [oo 5 (.bsl false 2 [.int .i64 0,.bool false] 0 []),om 6 0,oo 7 (.app 2 16 (.t 5) (.t 6)),om 2 7]<|.ret⟩
def f122:DFn:=⟨1,[],
 .drw [om 2 0,oN 3 2,oF 4 0 3,oL 5 4,om 6 0,oN 7 6,oF 8 0 7,oL 9 8,cr 10 94 [.t 9],oH 11 10,oo 12 (.mks false 4 32 [.int .i64 0,.int .i64 0,.int .i64 0,.bool false] (.t 11)),ce 13 95 [.t 5,.t 12]] [[],[],[],[],[],[],[],[],[7],[],[7,8],[3,7,8,10]]⟩
def f123:DFn:=⟨1,[],
 sr [om 2 0,oo 3 (.bin .neq .np (.t 2) (.k (.nilp)))]<|cd 3 (.reg [om 4 0,oN 5 4,oF 6 2 5,on (.st 1 (.t 6) (.k (.bool false)))]) (.skip)⟩
def l124_0b:DC:=
 sr [oB 9 .lss 8 7]<|.seq (cx 9 0)<|.seq (.block 1<|sr [om 10 8,om 5 10]<|sr [om 11 1,om 12 0,om 13 5,oX 14 5 12 13,oG 15 5 14,oo 16 (.calld .ro (.t 11) [.t 15])]<|cd 16 (sr [om 17 5,om 4 17]<|.ret) (.skip))<|inc 18 8
def l124_0:DC:=.loop [0,1,7,8] [] l124_0b
def f124:DFn:=⟨2,[.t 4],
 sr [oK 4 (.int .i64 0)]<|.seq (sr [om 6 0,oH 7 6,oK 8 (.int .i64 0)]<|.block 0<|l124_0)<|sr [oK 4 (.int .i64 (-1))]<|.ret⟩
def f125:DFn:=⟨0,[.t 0],
 sr [oK 0 (.nilp)]<|sr [oo 1 (.build [.nils] []),oo 2 (.boxH (.t 1)),om 0 2]<|.ret⟩
def l126_0b:DC:=
 sr [oB 19 .lss 18 17]<|.seq (cx 19 0)<|.seq (.block 1<|sr [oX 20 1 16 18,oL 21 20,om 9 21]<|.reg [om 22 7,oo 23 (.bin .shl .sc (.t 22) (.k (.int .u64 8))),om 24 9,oo 25 (.cvI .u64 (.t 24)),oB 26 .or 23 25,om 7 26])<|inc 27 18
def l126_0:DC:=.loop [0,1,7,16,17,18] [] l126_0b
def f126:DFn:=⟨2,[.t 4,.t 5,.t 6],
 sr [oK 4 (.int .u64 0),oK 5 (.nils),oK 6 (.bool false)]<|.seq (sr [om 10 0,oH 11 10,om 12 1,oB 13 .lss 11 12]<|cd 13 (sr [oK 4 (.int .u64 0),oK 5 (.nils),oK 6 (.bool false)]<|.ret) (.skip))<|sr [oK 7 (.int .u64 0)]<|.seq (sr [om 14 0,om 15 1,oo 16 (.slc 1 (.t 14) none (some (.t 15)) none),oH 17 16,oK 18 (.int .i64 0)]<|.block 0<|l126_0)<|.seq (.drw [om 28 7,om 29 0,om 30 1,oo 31 (.slc 1 (.t 29) (some (.t 30)) none none),om 4 28,om 5 31,oK 6 (.bool true)] [[],[],[],[],[],[],[]])<|.ret⟩
def f127:DFn:=⟨2,[.t 4,.t 5],
 sr [oK 4 (.nils),oK 5 (.bool false)]<|sr [om 18 1,cr 19 126 [.t 18,.k (.int .i64 1)],om 17 19,oE 20 0 17,oE 21 1 17,oE 22 2 17,om 6 20,om 1 21,om 7 22]<|.seq (.block 0<|sr [om 24 7,oo 25 (.un .not (.t 24)),om 23 25]<|cd 23 (sr [oK 4 (.nils),oK 5 (.bool false)]<|.ret) (sr [om 27 6,oo 28 (.bin .eql .sc (.t 27) (.k (.int .u64 1))),om 26 28]<|cd 26 (sr [om 30 1,cr 31 126 [.t 30,.k (.int .i64 8)],om 29 31,oE 32 0 29,oE 33 1 29,oE 34 2 29,om 8 32,om 9 33,om 10 34]<|sr [om 35 9,om 36 10,om 37 36,omt 38 0 37,omt 39 8 37,ot 40 37 (.cvI .i64 (.t 39)),ot 41 37 (.call .eff 150 [.t 38,.t 40]),oA 42 37 41,om 4 35,om 5 42]<|.ret) (sr [om 44 6,oo 45 (.bin .eql .sc (.t 44) (.k (.int .u64 2))),om 43 45]<|cd 43 (sr [om 47 1,cr 48 126 [.t 47,.k (.int .i64 1)],om 46 48,oE 49 0 46,oE 50 1 46,oE 51 2 46,om 11 49,om 12 50,om 13 51]<|.seq (sr [om 52 13,oo 53 (.un .not (.t 52)),om 54 53,omf 55 11 54,of 56 54 (.cvI .i64 (.t 55)),omf 57 12 54,of 58 54 (.len (.t 57)),fB 59 54 .gtr 56 58,oO 60 54 59]<|cd 60 (sr [oK 4 (.nils),oK 5 (.bool false)]<|.ret) (.skip))<|.seq (.drw [om 61 12,om 62 11,oo 63 (.slc 1 (.t 61) (some (.t 62)) none none),om 64 0,om 65 12,om 66 11,oo 67 (.slc 1 (.t 65) none (some (.t 66)) none),oo 68 (.cvBS (.t 67)),ce 69 151 [.t 64,.t 68],om 4 63,om 5 69] [[],[],[],[],[],[],[],[],[7],[],[]])<|.ret) (sr [om 71 6,oo 72 (.bin .eql .sc (.t 71) (.k (.int .u64 3))),om 70 72]<|cd 70 (sr [om 74 1,cr 75 126 [.t 74,.k (.int .i64 1)],om 73 75,oE 76 0 73,oE 77 1 73,oE 78 2 73,om 14 76,om 15 77,om 16 78]<|sr [om 79 15,om 80 16,om 81 80,omt 82 0 81,omt 83 14 81,ot 84 81 (.bin .eql .sc (.t 83) (.k (.int .u64 1))),ot 85 81 (.call .eff 152 [.t 82,.t 84]),oA 86 81 85,om 4 79,om 5 86]<|.ret) (.skip)))))<|sr [oK 4 (.nils),oK 5 (.bool false)]<|.ret⟩
def l128_0b:DC:=
 sr [oB 18 .lss 17 16]<|.seq (cx 18 0)<|.seq (.block 1<|sr [om 19 17,om 5 19]<|sr [om 21 4,om 22 0,om 23 5,ce 24 153 [.t 21,.t 22,.t 23],om 20 24,oE 25 0 20,oE 26 1 20,om 6 25,om 7 26]<|.seq (sr [om 27 7,oo 28 (.un .not (.t 27))]<|cd 28 (sr [oK 2 (.nils),oK 3 (.int .i64 1)]<|.ret) (.skip))<|.reg [om 29 6,om 4 29])<|inc 30 17
def l128_0:DC:=.loop [0,4,16,17] [] l128_0b
def f128:DFn:=⟨1,[.t 2,.t 3],
 sr [oK 2 (.nils),oK 3 (.int .i64 0)]<|.seq (sr [om 9 0,oo 10 (.bin .eql .np (.t 9) (.k (.nilp)))]<|cd 10 (sr [oK 2 (.nils),oK 3 (.int .i64 1)]<|.ret) (.skip))<|sr [om 11 0,cr 12 130 [.t 11],oo 13 (.cvI .u8 (.t 12)),oo 14 (.bsl false 1 [.int .u8 0] 1 [(0,(.t 13))]),om 4 14]<|.seq (sr [om 15 0,cr 16 130 [.t 15],oK 17 (.int .i64 0)]<|.block 0<|l128_0)<|.seq (sr [om 31 4,oH 32 31,oI 33 .gtr 32 4000]<|cd 33 (sr [oK 2 (.nils),oK 3 (.int .i64 1)]<|.ret) (.skip))<|sr [om 34 4,oo 35 (.bsl false 1 [.nils] 1 [(0,(.t 34))]),cb 36 155 [.t 35],oo 37 (.cvI .u64 (.t 36)),ce 38 154 [.k (.nils),.t 37,.k (.int .i64 4)],om 8 38]<|sr [om 39 8,om 40 4,oH 41 40,oo 42 (.cvI .u64 (.t 41)),ce 43 154 [.t 39,.t 42,.k (.int .i64 2)],om 44 4,oo 45 (.app 1 1 (.t 43) (.t 44)),om 2 45,oK 3 (.int .i64 0)]<|.ret⟩
def f129:DFn:=⟨2,[.t 4],
 sr [oK 4 (.bool false)]<|sr [om 5 0,oo 6 (.cvBS (.t 5)),om 7 1,oo 8 (.cvBS (.t 7)),oB 9 .eql 6 8,om 4 9]<|.ret⟩
def f130:DFn:=⟨1,[.t 2],
 sr [oK 2 (.int .i64 0)]<|sr [om 3 0,cr 4 156 [.t 3],oH 5 4,om 2 5]<|.ret⟩
def f131:DFn:=⟨2,[.t 4,.t 5],
 sr [oK 4 (.int .i64 0),oK 5 (.bool false)]<|sr [om 9 0,om 10 1,cr 11 157 [.t 9,.t 10],oo 12 (.asrt 3 (.int .i64 0) true (.t 11)),om 8 12,oE 13 0 8,oE 14 1 8,om 6 13,om 7 14]<|sr [om 15 6,om 16 7,om 4 15,om 5 16]<|.ret⟩
def f132:DFn:=⟨2,[.t 4,.t 5],
 sr [oK 4 (.str []),oK 5 (.bool false)]<|sr [om 9 0,om 10 1,cr 11 157 [.t 9,.t 10],oo 12 (.asrt 9 (.str []) true (.t 11)),om 8 12,oE 13 0 8,oE 14 1 8,om 6 13,om 7 14]<|sr [om 15 6,om 16 7,om 4 15,om 5 16]<|.ret⟩
def f134:DFn:=⟨1,[.t 2],
 sr [oK 2 (.nils)]<|.seq (sr [om 3 0,oo 4 (.bin .eql .ns (.t 3) (.k (.nils)))]<|cd 4 (sr [oK 2 (.nils)]<|.ret) (.skip))<|sr [oo 5 (.bsl false 4 [.int .i64 0,.int .i64 0,.int .i64 0,.bool false] 0 []),om 6 0,oo 7 (.app 4 32 (.t 5) (.t 6)),om 2 7]<|.ret⟩
def f135:DFn:=⟨3,[.t 6],
 sr [oZ 5 2,oK 6 (.bool false)]<|sr [oF 8 0 5,oL 9 8,oo 10 (.build [.int .i64 0,.int .i64 0,.int .i64 0,.bool false] [(0,1,(.t 9))]),oo 7 (.alL [.int .i64 0,.int .i64 0,.int .i64 0,.bool false]),oS 4 7 10]<|.seq (sr [oF 11 0 5,oL 12 11]<|.block 0<|.seq (sr [oI 14 .eql 12 0,om 13 14]<|cd 13 (.skip) (.reg [oI 15 .eql 12 2,om 13 15]))<|cd 13 (.skip) (sr [oI 17 .eql 12 1,om 16 17]<|cd 16 (.reg [oF 18 1 5,oL 19 18,oo 20 (.mx (.t 19) (.k (.int .i64 0))),oo 21 (.mn (.t 20) (.k (.int .i64 8))),oF 22 1 7,oS 1 22 21]) (sr [oI 24 .eql 12 4,om 23 24]<|cd 23 (.reg [oF 25 1 5,oL 26 25,oo 27 (.mx (.t 26) (.k (.int .i64 0))),oo 28 (.mn (.t 27) (.k (.int .i64 5))),oF 29 1 7,oS 1 29 28]) (sr [oI 31 .eql 12 3,om 30 31]<|cd 30 (.drw [oF 32 2 5,oL 33 32,oo 34 (.mx (.t 33) (.k (.int .i64 0))),om 35 0,oN 36 35,oF 37 0 36,oF 38 3 37,oL 39 38,om 40 1,oX 41 6 39 40,oF 42 3 41,oL 43 42,oH 44 43,oI 45 .sub 44 1,oo 46 (.mn (.t 34) (.t 45)),oF 47 3 5,oL 48 47,oF 49 2 7,oS 1 49 46,oF 50 3 7,oS 1 50 48] [[],[],[],[],[],[],[],[],[],[7],[],[7,9],[],[],[],[],[],[],[1,7,9,11],[],[1,7,9,11,16,18]]) (sr [oK 6 (.bool false)]<|.ret)))))<|sr [oG 51 4 5,oG 52 4 7,oo 53 (.bin .eql (.st [.i,.i,.i,.b]) (.t 51) (.t 52)),om 6 53]<|.ret⟩
def f136:DFn:=⟨3,[.t 6],
 sr [oo 3 (.boxH (.t 0)),oo 5 (.boxH (.t 2)),oK 6 (.bool false)]<|.seq (.drw [oF 11 3 3,oL 12 11,om 13 1,oX 14 6 12 13,oG 15 6 14,oF 16 3 3,oL 17 16,oL 18 5,oX 19 6 17 18,oG 20 6 19,oo 7 (.alL [.str [],.int .i64 0,.int .i64 0,.nils,.nils,.nils]),oo 8 (.alH [.str [],.int .i64 0,.int .i64 0,.nils,.nils,.nils]),oS 6 7 15,oS 6 8 20] [[],[],[],[1],[1,3],[],[],[],[6,7],[6,7,8],[],[],[1,3,4,10,11],[1,3,4,6,7,8,9,10,11,12]])<|sr [oF 21 3 7,oL 22 21,oo 23 (.mkF 160 [.t 8]),cr 24 159 [.t 22,.t 23],om 9 24]<|sr [oG 25 4 3,om 26 1,cb 27 162 [.t 25,.t 26],oo 28 (.mkF 163 [.t 3,.t 5]),cr 29 161 [.t 27,.t 28],om 10 29]<|sr [om 30 1,oL 31 5,oB 32 .eql 30 31,om 33 32,of 34 33 (.fld 1 (.t 7)),of 35 33 (.ld 1 false (.t 34)),of 36 33 (.fld 1 (.t 8)),of 37 33 (.ld 1 false (.t 36)),fB 38 33 .eql 35 37,oO 39 33 38,om 40 39,omf 41 9 40,oO 42 40 41,om 43 42,omf 44 10 43,oO 45 43 44,om 6 45]<|.ret⟩
def f137:DFn:=⟨1,[.t 2],
 sr [oK 2 (.int .i64 0)]<|.seq (sr [om 3 0,oo 4 (.bin .eql .np (.t 3) (.k (.nilp)))]<|cd 4 (sr [oK 2 (.int .i64 0)]<|.ret) (.skip))<|sr [om 5 0,oN 6 5,oF 7 0 6,oL 8 7,om 2 8]<|.ret⟩
def f138:DFn:=⟨3,[],
 sr [om 6 0,oo 7 (.bin .neq .np (.t 6) (.k (.nilp)))]<|cd 7 (.reg [om 8 0,om 9 0,om 10 0,om 11 1,om 12 2,oI 13 .add 12 8,oI 14 .sub 13 3,oN 15 8,oF 16 0 15,oS 1 16 11,oN 17 9,oF 18 1 17,oS 1 18 14,oN 19 10,oF 20 2 19,on (.st 1 (.t 20) (.k (.bool true)))]) (.skip)⟩
def f139:DFn:=⟨3,[],
 .seq (sr [om 7 0,oN 8 7,oF 9 2 8,oL 10 9,om 6 10]<|.seq (.drw [om 11 0,oN 12 11,oF 13 3 12,oL 14 13,oI 15 .eql 14 2,om 16 15,omt 17 6 16,ot 18 16 (.bin .neq .np (.t 17) (.k (.nilp))),oA 19 16 18,om 20 19,omt 21 6 20,ot 22 20 (.nilck (.t 21)),ot 23 20 (.fld 0 (.t 22)),tL 24 20 23,omt 25 1 20,tI 26 20 .sub 25 1,tB 27 20 .eql 24 26,oA 28 20 27,om 29 28,omt 30 6 29,ot 31 29 (.nilck (.t 30)),ot 32 29 (.fld 1 (.t 31)),tL 33 29 32,omt 34 2 29,tB 35 29 .geq 33 34,oA 36 29 35,om 37 36,omt 38 0 37,ot 39 37 (.nilck (.t 38)),ot 40 37 (.fld 0 (.t 39)),tL 41 37 40,omt 42 6 37,ot 43 37 (.nilck (.t 42)),ot 44 37 (.fld 2 (.t 43)),tL 45 37 44,ot 46 37 (.call .eff 95 [.t 41,.t 45]),oA 47 37 46] [[],[],[],[],[],[],[],[],[],[],[],[],[],[3],[],[],[],[],[],[],[],[],[3,13],[],[],[],[],[],[],[],[3,13,22],[],[],[],[3,13,22],[3,13,22,30,34],[]])<|cd 47 (sr [om 48 0,om 49 0,om 50 6,oN 51 50,oF 52 1 51,oL 53 52,oN 54 48,oF 55 3 54,on (.st 1 (.t 55) (.k (.int .i64 3))),oN 56 49,oF 57 5 56,oS 1 57 53]<|.ret) (.skip))<|sr [om 58 0,ce 59 122 [.t 58]]<|.reg [om 60 0,om 61 0,om 62 0,om 63 2,oN 64 60,oF 65 3 64,on (.st 1 (.t 65) (.k (.int .i64 4))),oN 66 61,oF 67 5 66,oS 1 67 63,oN 68 62,oF 69 6 68,on (.st 1 (.t 69) (.k (.int .i64 10)))]⟩
def l140_0b:DC:=
 sr [oB 16 .lss 15 14]<|.seq (cx 16 0)<|.seq (.block 1<|sr [oX 17 2 13 15,oG 18 2 17,oo 10 (.alL [.int .i64 0,.int .i64 0]),oS 2 10 18]<|.drw [om 19 0,oN 20 19,oF 21 0 20,oL 22 21,oG 23 2 5,oG 24 2 10,ce 25 165 [.t 22,.t 23,.t 24]] [[],[],[],[],[],[],[3,4,5]])<|inc 26 15
def l140_0:DC:=.loop [0,2,5,8,13,14,15] [5,8] l140_0b
def f140:DFn:=⟨4,[.cell 8 2 true],
 sr [oZ 5 1,oo 8 (.alL [.nils,.nils])]<|.seq (sr [om 12 2]<|cd 12 (sr [om 13 3,oH 14 13,oK 15 (.int .i64 0)]<|.block 0<|l140_0) (.skip))<|.seq (.drw [om 27 0,oN 28 27,oF 29 0 28,oL 30 29,oG 31 2 5,ce 32 166 [.t 30,.t 31],oo 11 (.alL [.nils,.nils]),oS 2 11 32] [[],[],[],[],[],[3,4],[],[3,4,5,6]])<|.seq (sr [om 33 2,oo 34 (.un .not (.t 33))]<|cd 34 (sr [om 35 0,oN 36 35,oF 37 0 36,oL 38 37,cr 39 102 [.t 38],oS 2 8 39]<|.ret) (.skip))<|sr [oG 40 2 11,oS 2 8 40]<|.ret⟩
def f141:DFn:=⟨1,[.t 2],
 sr [oK 2 (.nils)]<|.seq (sr [om 3 0,oo 4 (.bin .eql .ns (.t 3) (.k (.nils)))]<|cd 4 (sr [oK 2 (.nils)]<|.ret) (.skip))<|sr [oo 5 (.bsl false 1 [.int .u8 0] 0 []),om 6 0,oo 7 (.app 1 1 (.t 5) (.t 6)),om 2 7]<|.ret⟩
def l142_0b:DC:=
 sr [oB 24 .lss 23 22]<|.seq (cx 24 0)<|.seq (.block 1<|sr [oX 25 1 21 23,oL 26 25,om 10 26]<|.reg [om 27 7,om 28 10,ce 29 150 [.t 27,.t 28],om 30 29,omt 31 8 30,oA 32 30 31,om 8 32])<|inc 33 23
def l142_0:DC:=.loop [7,8,21,22,23] [] l142_0b
def f142:DFn:=⟨3,[.t 6],
 sr [oK 6 (.nilp)]<|sr [ce 11 125 [],om 7 11]<|sr [om 12 7,oo 13 (.call .eff 151 [.t 12,.k (.str [115,116,97,116,101])]),om 8 13]<|.seq (sr [om 14 0,om 15 1,om 16 2,oH 17 16,oo 18 (.bsl false 1 [.int .i64 0] 3 [(0,(.t 14)),(1,(.t 15)),(2,(.t 17))]),om 19 2,cb 20 167 [.t 19],oo 21 (.app 1 8 (.t 18) (.t 20)),oH 22 21,oK 23 (.int .i64 0)]<|.block 0<|l142_0)<|.seq (sr [om 34 8,oo 35 (.un .not (.t 34))]<|cd 35 (sr [oK 6 (.nilp)]<|.ret) (.skip))<|sr [om 36 7,om 6 36]<|.ret⟩
def l144_0b:DC:=
 .seq (sr [om 7 4,om 8 3,oH 9 8,oB 10 .lss 7 9]<|cx 10 0)<|.seq (.block 1<|sr [om 13 3,om 14 4,oX 15 3 13 14,oF 16 2 15,oL 17 16,om 18 17,omf 19 3 18,omf 20 4 18,of 21 18 (.idx 3 (.t 19) (.t 20)),of 22 18 (.fld 0 (.t 21)),of 23 18 (.ld 1 false (.t 22)),of 24 18 (.call .blind 169 [.t 23]),of 25 18 (.un .not (.t 24)),omf 26 25 18,omt 27 4 26,tI 28 26 .eql 27 0,omt 29 28 26,omf 30 3 29,omf 31 4 29,of 32 29 (.idx 3 (.t 30) (.t 31)),of 33 29 (.fld 0 (.t 32)),of 34 29 (.ld 1 false (.t 33)),of 35 29 (.bin .lss .sc (.t 34) (.k (.int .i32 48))),ot 36 26 (.pick (.t 29) (.k (.bool true)) (.t 35)),omt 37 36 26,omf 38 3 37,omf 39 4 37,of 40 37 (.idx 3 (.t 38) (.t 39)),of 41 37 (.fld 0 (.t 40)),of 42 37 (.ld 1 false (.t 41)),of 43 37 (.bin .gtr .sc (.t 42) (.k (.int .i32 57))),ot 44 26 (.pick (.t 37) (.k (.bool true)) (.t 43)),of 45 18 (.pick (.t 26) (.t 44) (.k (.bool false))),oO 46 18 45]<|cd 46 (sr [oK 2 (.bool false)]<|.ret) (.skip))<|.reg [om 11 4,oI 12 .add 11 1,om 4 12]
def l144_0:DC:=.loop [3,4] [] l144_0b
def f144:DFn:=⟨1,[.t 2],
 sr [oK 2 (.bool false)]<|sr [om 5 0,cb 6 168 [.t 5],om 3 6]<|.seq (sr [oK 4 (.int .i64 0)]<|.block 0<|l144_0)<|sr [om 47 3,oH 48 47,oI 49 .geq 48 1,om 50 49,omt 51 3 50,ot 52 50 (.len (.t 51)),tI 53 50 .leq 52 8,oA 54 50 53,om 2 54]<|.ret⟩
def l145_0b:DC:=
 sr [oB 10 .lss 9 8]<|.seq (cx 10 0)<|.seq (.block 1<|sr [om 11 9,oX 12 1 7 9,oL 13 12,om 5 11,om 6 13]<|sr [om 14 6,oF 15 0 2,oL 16 15,oH 17 16,oI 18 .sub 17 1,cb 19 114 [.t 14,.k (.int .i64 0),.t 18],oo 20 (.un .not (.t 19)),om 21 20,omf 22 1 21,omf 23 5 21,of 24 21 (.slc 1 (.t 22) none (some (.t 23)) none),omf 25 6 21,of 26 21 (.call .blind 147 [.t 24,.t 25]),oO 27 21 26]<|cd 27 (sr [oK 4 (.bool false)]<|.ret) (.skip))<|inc 28 9
def l145_0:DC:=.loop [1,2,7,8,9] [2] l145_0b
def f145:DFn:=⟨2,[.t 4],
 sr [oZ 2 0,oK 4 (.bool false)]<|.seq (sr [om 7 1,oH 8 7,oK 9 (.int .i64 0)]<|.block 0<|l145_0)<|sr [om 29 1,oH 30 29,cb 31 114 [.t 30,.k (.int .i64 1),.k (.int .i64 5)],om 4 31]<|.ret⟩
def l146_0b:DC:=
 sr [oB 14 .lss 13 12]<|.seq (cx 14 0)<|.seq (.block 1<|sr [om 15 13,oX 16 2 11 13,oG 17 2 16,oo 10 (.alL [.int .i64 0,.bool false]),om 9 15,oS 2 10 17]<|.seq (.drw [oF 18 0 10,oL 19 18,oF 20 1 4,oL 21 20,oH 22 21,oI 23 .sub 22 1,cb 24 114 [.t 19,.k (.int .i64 0),.t 23],oo 25 (.un .not (.t 24)),om 26 25,omf 27 9 26,fI 28 26 .gtr 27 0,omf 29 28 26,omt 30 1 29,omt 31 9 29,tI 32 29 .sub 31 1,ot 33 29 (.idx 2 (.t 30) (.t 32)),ot 34 29 (.fld 0 (.t 33)),tL 35 29 34,ot 36 29 (.fld 0 (.t 10)),tL 37 29 36,tB 38 29 .geq 35 37,of 39 26 (.pick (.t 29) (.t 38) (.k (.bool false))),oO 40 26 39,om 41 40,omf 42 2 41,of 43 41 (.fld 1 (.t 4)),of 44 41 (.ld 1 false (.t 43)),of 45 41 (.fld 0 (.t 10)),of 46 41 (.ld 1 false (.t 45)),of 47 41 (.idx 2 (.t 44) (.t 46)),of 48 41 (.fld 1 (.t 47)),of 49 41 (.ld 1 false (.t 48)),of 50 41 (.call .blind 147 [.t 42,.t 49]),omf 51 3 41,of 52 41 (.bin .neq .bl (.t 50) (.t 51)),oO 53 41 52] [[],[],[],[],[],[],[1,3],[],[],[],[],[],[],[],[],[1,3,6],[],[1,3,6,15],[],[1,3,6],[],[],[],[],[],[],[1,3,6,15,17,19],[],[1,3,6,15,17,19],[1,3,6,15,17,19,26,28],[],[1,3,6,15,17,19,26,28,29],[1,3,6,15,17,19,26,28,29,31],[],[],[]])<|cd 53 (sr [oK 8 (.bool false)]<|.ret) (.skip))<|inc 54 13
def l146_0:DC:=.loop [1,2,3,4,11,12,13] [4] l146_0b
def f146:DFn:=⟨4,[.t 8],
 sr [oZ 4 0,oK 8 (.bool false)]<|.seq (sr [om 11 1,oH 12 11,oK 13 (.int .i64 0)]<|.block 0<|l146_0)<|sr [oK 8 (.bool true)]<|.ret⟩
def f147:DFn:=⟨2,[.t 4],
 sr [oK 4 (.bool false)]<|sr [om 5 0,om 6 1,cb 7 170 [.t 5,.t 6],oI 8 .geq 7 0,om 4 8]<|.ret⟩
def l148_0b:DC:=
 sr [oo 9 (.nxt 8),oE 10 0 9]<|.seq (cx 10 0)<|.block 1<|sr [oE 11 1 9,oE 12 2 9,om 4 11,om 5 12]<|sr [om 13 5,oo 14 (.bin .geq .sc (.t 13) (.k (.int .i32 48))),om 15 14,omt 16 5 15,ot 17 15 (.bin .leq .sc (.t 16) (.k (.int .i32 57))),oA 18 15 17,om 19 18,omt 20 4 19,tI 21 19 .gtr 20 0,oA 22 19 21,om 6 22]<|.seq (sr [om 23 0,om 24 4,cb 25 171 [.t 23,.t 24],om 26 25,omf 27 5 26,of 28 26 (.call .blind 172 [.t 27]),of 29 26 (.un .not (.t 28)),omf 30 29 26,omt 31 6 30,ot 32 30 (.un .not (.t 31)),of 33 26 (.pick (.t 30) (.t 32) (.k (.bool false))),oO 34 26 33]<|cd 34 (sr [oK 2 (.bool false)]<|.ret) (.skip))<|.reg [om 35 3,oI 36 .add 35 1,om 3 36]
def l148_0:DC:=.loop [0,3,8] [8] l148_0b
def f148:DFn:=⟨1,[.t 2],
 sr [oK 2 (.bool false)]<|sr [oK 3 (.int .i64 0)]<|.seq (sr [om 7 0,oo 8 (.rng (.t 7))]<|.block 0<|l148_0)<|sr [om 37 3,oI 38 .geq 37 1,om 39 38,omt 40 3 39,tI 41 39 .leq 40 8,oA 42 39 41,om 2 42]<|.ret⟩
def f149:DFn:=⟨2,[.t 4],
 sr [oK 4 (.bool false)]<|sr [om 5 0,om 6 1,cb 7 173 [.t 5,.t 6],oI 8 .geq 7 0,om 4 8]<|.ret⟩
def f150:DFn:=⟨2,[.t 4],
 sr [oK 4 (.bool false)]<|sr [om 5 0,om 6 1,oo 7 (.mkI 3 (.t 6)),ce 8 174 [.t 5,.t 7],om 4 8]<|.ret⟩
def f151:DFn:=⟨2,[.t 4],
 sr [oK 4 (.bool false)]<|sr [om 5 0,om 6 1,oo 7 (.mkI 9 (.t 6)),ce 8 174 [.t 5,.t 7],om 4 8]<|.ret⟩
def f152:DFn:=⟨2,[.t 4],
 sr [oK 4 (.bool false)]<|sr [om 5 0,om 6 1,oo 7 (.mkI 4 (.t 6)),ce 8 174 [.t 5,.t 7],om 4 8]<|.ret⟩
def f153:DFn:=⟨3,[.t 6,.t 7],
 sr [oK 6 (.nils),oK 7 (.bool false)]<|.seq (sr [om 15 1,om 16 2,cr 17 131 [.t 15,.t 16],om 14 17,oE 18 0 14,oE 19 1 14,om 8 18,om 9 19]<|sr [om 20 9]<|cd 20 (sr [om 21 0,oo 22 (.bsl false 1 [.int .u8 0] 1 [(0,(.k (.int .u8 1)))]),oo 23 (.app 1 1 (.t 21) (.t 22)),om 24 8,oo 25 (.cvI .u64 (.t 24)),ce 26 154 [.t 23,.t 25,.k (.int .i64 8)],om 6 26,oK 7 (.bool true)]<|.ret) (.skip))<|.seq (sr [om 28 1,om 29 2,cr 30 132 [.t 28,.t 29],om 27 30,oE 31 0 27,oE 32 1 27,om 10 31,om 11 32]<|sr [om 33 11]<|cd 33 (sr [om 34 0,om 35 10,oo 36 (.lenS (.t 35)),oo 37 (.cvI .u8 (.t 36)),oo 38 (.bsl false 1 [.int .u8 0] 2 [(0,(.k (.int .u8 2))),(1,(.t 37))]),oo 39 (.app 1 1 (.t 34) (.t 38)),om 40 10,oo 41 (.app 1 1 (.t 39) (.t 40)),om 42 10,oo 43 (.lenS (.t 42)),oI 44 .leq 43 200,om 6 41,om 7 44]<|.ret) (.skip))<|sr [om 46 1,om 47 2,cr 48 175 [.t 46,.t 47],om 45 48,oE 49 0 45,oE 50 1 45,om 12 49,om 13 50]<|sr [om 51 0,om 52 12,cb 53 176 [.t 52],oo 54 (.bsl false 1 [.int .u8 0] 2 [(0,(.k (.int .u8 3))),(1,(.t 53))]),oo 55 (.app 1 1 (.t 51) (.t 54)),om 6 55,oK 7 (.bool true)]<|.ret⟩
def l154_0b:DC:=
 sr [oB 10 .lss 9 8]<|.seq (cx 10 0)<|.seq (.block 1<|sr [om 11 9,om 7 11]<|.reg [om 12 0,om 13 1,om 14 2,oI 15 .sub 14 1,om 16 7,oB 17 .sub 15 16,oo 18 (.bin .mul .sc (.k (.int .i64 8)) (.t 17)),oB 19 .shr 13 18,oo 20 (.cvI .u8 (.t 19)),oo 21 (.bsl false 1 [.int .u8 0] 1 [(0,(.t 20))]),oo 22 (.app 1 1 (.t 12) (.t 21)),om 0 22])<|inc 23 9
def l154_0:DC:=.loop [0,1,2,8,9] [] l154_0b
def f154:DFn:=⟨3,[.t 6],
 sr [oK 6 (.nils)]<|.seq (sr [om 8 2,oK 9 (.int .i64 0)]<|.block 0<|l154_0)<|sr [om 24 0,om 6 24]<|.ret⟩
def l155_1b:DC:=
 sr [oB 17 .lss 16 15]<|.seq (cx 17 2)<|.seq (.block 3<|sr [oX 18 1 14 16,oL 19 18,om 7 19]<|.reg [om 20 3,om 21 7,cb 22 177 [.t 20,.t 21],om 3 22])<|inc 23 16
def l155_1:DC:=.loop [3,8,9,10,14,15,16] [] l155_1b
def l155_0b:DC:=
 sr [oB 11 .lss 10 9]<|.seq (cx 11 0)<|.seq (.block 1<|sr [oX 12 1 8 10,oL 13 12,om 5 13]<|sr [om 14 5,oH 15 14,oK 16 (.int .i64 0)]<|.block 2<|l155_1)<|inc 24 10
def l155_0:DC:=.loop [3,8,9,10] [] l155_0b
def f155:DFn:=⟨1,[.t 2],
 sr [oK 2 (.int .u32 0)]<|sr [oK 3 (.int .u32 4294967295)]<|.seq (sr [om 8 0,oH 9 8,oK 10 (.int .i64 0)]<|.block 0<|l155_0)<|sr [om 25 3,oo 26 (.un .xor (.t 25)),om 2 26]<|.ret⟩
def f156:DFn:=⟨1,[.t 2],
 sr [oK 2 (.nils)]<|.seq (sr [om 3 0,oo 4 (.bin .eql .np (.t 3) (.k (.nilp)))]<|cd 4 (sr [oK 2 (.nils)]<|.ret) (.skip))<|sr [om 5 0,oN 6 5,oF 7 0 6,oL 8 7,om 2 8]<|.ret⟩
def f157:DFn:=⟨2,[.t 4],
 sr [oK 4 (.nili)]<|.seq (sr [om 6 0,cr 7 156 [.t 6],om 5 7]<|sr [om 8 1,oI 9 .geq 8 0,om 10 9,omt 11 1 10,omt 12 5 10,ot 13 10 (.len (.t 12)),tB 14 10 .lss 11 13,oA 15 10 14]<|cd 15 (sr [om 16 5,om 17 1,oX 18 1 16 17,oL 19 18,om 4 19]<|.ret) (.skip))<|sr [oK 4 (.nili)]<|.ret⟩
def f158:DFn:=⟨2,[.t 4],
 sr [oo 2 (.boxH (.t 0)),oo 3 (.boxH (.t 1)),oK 4 (.nilf)]<|.seq (sr [oL 5 3,oI 6 .lss 5 1]<|cd 6 (.reg [oo 7 (.mkI 9 (.k (.str [99,97,110,110,111,116,32,98,101,32,108,101,115,115,32,116,104,97,110,32,49]))),on (.nilck (.k .nilp))]) (.skip))<|sr [oo 8 (.mkF 178 [.t 2,.t 3]),om 4 8]<|.ret⟩
def f159:DFn:=⟨2,[.t 4],
 sr [oK 4 (.bool false)]<|sr [om 5 0,om 6 1,cr 7 179 [.t 5,.t 6],oI 8 .geq 7 0,om 4 8]<|.ret⟩
def f160:DFn:=⟨2,[.t 3],
 sr [oK 3 (.bool false)]<|sr [oF 4 3 1,oL 5 4,om 6 0,cb 7 147 [.t 5,.t 6],om 3 7]<|.ret⟩
def f161:DFn:=⟨2,[.t 4],
 sr [oK 4 (.bool false)]<|sr [om 5 0,om 6 1,cr 7 180 [.t 5,.t 6],oI 8 .geq 7 0,om 4 8]<|.ret⟩
def f162:DFn:=⟨2,[.t 4],
 sr [oZ 2 0,oK 4 (.nils)]<|.seq (.drw [oF 5 3 2,oL 6 5,om 7 1,oX 8 6 6 7,oF 9 4 8,oL 10 9,oF 11 3 2,oL 12 11,om 13 1,oX 14 6 12 13,oF 15 5 14,oL 16 15,oo 17 (.bsl false 1 [.nils] 2 [(0,(.t 10)),(1,(.t 16))]),cb 18 181 [.t 17],om 4 18] [[],[],[],[1],[],[1,3],[],[],[],[7],[],[7,9],[1,3,5,7,9,11],[1,3,5,7,9,11,12],[]])<|.ret⟩
def f163:DFn:=⟨3,[.t 4],
 sr [oZ 3 0,oK 4 (.bool false)]<|.seq (.drw [oG 5 4 1,oL 6 2,cb 7 162 [.t 5,.t 6],oF 8 0 3,oL 9 8,oF 10 1 3,oL 11 10,oo 12 (.un .not (.t 11)),oo 13 (.build [.int .i64 0,.bool false] [(0,1,(.t 9)),(1,1,(.t 12))]),cb 14 164 [.t 7,.t 13],om 4 14] [[],[],[0,1],[],[],[],[],[],[],[0,1,2,4,6],[]])<|.ret⟩
def f164:DFn:=⟨2,[.t 4],
 sr [oZ 3 1,oK 4 (.bool false)]<|sr [om 5 0,oG 6 2 3,cb 7 182 [.t 5,.t 6],oI 8 .geq 7 0,om 4 8]<|.ret⟩
def f165:DFn:=⟨3,[.t 6],
 sr [oZ 4 1,oZ 5 2,oK 6 (.int .i64 0)]<|.seq (.block 0<|.seq (.drw [om 8 0,oo 9 (.bin .eql .np (.t 8) (.k (.nilp))),om 10 9,omf 11 0 10,of 12 10 (.nilck (.t 11)),of 13 10 (.fld 0 (.t 12)),of 14 10 (.ld 4 true (.t 13)),of 15 10 (.ld 2 true (.t 4)),of 16 10 (.call .blind 183 [.t 14,.t 15]),of 17 10 (.un .not (.t 16)),oO 18 10 17,om 19 18,of 20 19 (.fld 0 (.t 5)),of 21 19 (.ld 1 false (.t 20)),fI 22 19 .neq 21 1,omf 23 22 19,ot 24 23 (.fld 0 (.t 5)),tL 25 23 24,tI 26 23 .neq 25 2,of 27 19 (.pick (.t 23) (.t 26) (.k (.bool false))),oO 28 19 27,om 7 28] [[],[],[],[],[],[],[],[],[6,7],[],[],[],[],[6,7,8],[],[],[],[6,7,8,13],[],[],[],[]])<|cd 7 (sr [oK 6 (.int .i64 1)]<|.ret) (.seq (.drw [oF 30 1 5,oL 31 30,oI 32 .lss 31 0,om 33 32,of 34 33 (.fld 1 (.t 5)),of 35 33 (.ld 1 false (.t 34)),omf 36 0 33,of 37 33 (.nilck (.t 36)),of 38 33 (.fld 4 (.t 37)),of 39 33 (.ld 1 false (.t 38)),of 40 33 (.len (.t 39)),fB 41 33 .geq 35 40,oO 42 33 41,om 29 42] [[],[],[],[],[],[1],[],[],[],[1],[],[],[],[]])<|cd 29 (sr [oK 6 (.int .i64 5)]<|.ret) (sr [oF 44 0 5,oL 45 44,oI 46 .eql 45 1,om 43 46]<|cd 43 (sr [om 47 0,oG 48 2 4,oF 49 1 5,oL 50 49,ce 51 184 [.t 47,.t 48,.t 50],om 6 51]<|.ret) (.skip))))<|sr [om 52 0,oF 53 1 5,oL 54 53,ce 55 185 [.t 52,.t 54],om 6 55]<|.ret⟩
def l166_1b:DC:=
 sr [oB 53 .lss 52 51]<|.seq (cx 53 2)<|.seq (.block 3<|sr [om 54 52,oX 55 4 50 52,oG 56 4 55,oo 8 (.alL [.int .i64 0,.int .i64 0,.int .i64 0,.bool false]),om 7 54,oS 4 8 56]<|sr [om 57 0,oN 58 57,oF 59 0 58,oF 60 3 59,oL 61 60,om 62 7,oX 63 6 61 62,oG 64 6 63,oo 9 (.alL [.str [],.int .i64 0,.int .i64 0,.nils,.nils,.nils]),oS 6 9 64]<|sr [oF 65 0 8,oL 66 65,oI 67 .eql 66 2,om 68 67,ot 69 68 (.ld 2 true (.t 3)),ot 70 68 (.fld 3 (.t 9)),tL 71 68 70,ot 72 68 (.call .blind 188 [.t 69,.t 71]),ot 73 68 (.un .not (.t 72)),oA 74 68 73,om 75 74,omt 76 0 75,ot 77 75 (.ld 2 true (.t 3)),omt 78 7 75,ot 79 75 (.call .ro 189 [.t 76,.t 77,.t 78]),oA 80 75 79]<|cd 80 (.reg [oF 81 1 5,oL 82 81,oF 83 1 9,oL 84 83,oX 85 1 82 84,on (.st 1 (.t 85) (.k (.bool true)))]) (.skip))<|inc 86 52
def l166_1:DC:=.loop [0,3,4,5,50,51,52] [3,4,5] l166_1b
def l166_0b:DC:=
 sr [oB 30 .lss 29 28]<|.seq (cx 30 0)<|.seq (.block 1<|sr [om 31 29,om 6 31]<|.drw [om 32 0,oN 33 32,oF 34 4 33,oL 35 34,om 36 6,om 37 0,oG 38 2 3,om 39 6,cr 40 186 [.t 37,.t 38,.t 39],oX 41 4 35 36,oS 4 41 40] [[],[],[],[],[],[],[],[],[6],[3,6,8],[3,6,8,9]])<|inc 42 29
def l166_0:DC:=.loop [0,3,4,5,28,29] [3,4,5] l166_0b
def f166:DFn:=⟨2,[.cell 4 2 true],
 sr [oZ 3 1,oo 4 (.alL [.nils,.nils])]<|sr [om 10 0,ce 11 102 [.t 10],oo 5 (.alL [.nils,.nils]),oS 2 5 11]<|.seq (.seq (.drw [om 12 0,oo 13 (.bin .eql .np (.t 12) (.k (.nilp))),om 14 13,omf 15 0 14,of 16 14 (.nilck (.t 15)),of 17 14 (.fld 0 (.t 16)),of 18 14 (.ld 4 true (.t 17)),of 19 14 (.ld 2 true (.t 3)),of 20 14 (.call .blind 183 [.t 18,.t 19]),of 21 14 (.un .not (.t 20)),oO 22 14 21] [[],[],[],[],[],[],[],[],[6,7],[],[]])<|cd 22 (sr [oG 23 2 5,oS 2 4 23]<|.ret) (.skip))<|.seq (sr [om 24 0,oN 25 24,oF 26 4 25,oL 27 26,oH 28 27,oK 29 (.int .i64 0)]<|.block 0<|l166_0)<|sr [om 43 0,oG 44 2 3,oG 45 2 5,ce 46 187 [.t 43,.t 44,.t 45]]<|.seq (sr [om 47 0,oN 48 47,oF 49 4 48,oL 50 49,oH 51 50,oK 52 (.int .i64 0)]<|.block 2<|l166_1)<|sr [oG 87 2 5,oS 2 4 87]<|.ret⟩
def l167_0b:DC:=
 sr [oB 9 .lss 8 7]<|.seq (cx 9 0)<|.seq (.block 1<|sr [oX 10 4 6 8,oG 11 4 10,oo 5 (.alL [.int .i64 0,.int .i64 0,.int .i64 0,.bool false]),oS 4 5 11]<|.drw [om 12 3,oF 13 0 5,oL 14 13,oF 15 1 5,oL 16 15,oF 17 2 5,oL 18 17,oF 19 3 5,oL 20 19,cb 21 190 [.t 20],oo 22 (.bsl false 1 [.int .i64 0] 4 [(0,(.t 14)),(1,(.t 16)),(2,(.t 18)),(3,(.t 21))]),oo 23 (.app 1 8 (.t 12) (.t 22)),om 3 23] [[],[],[],[],[],[],[],[],[],[8],[2,4,6,8,9],[2,4,6,8,9,10],[]])<|inc 24 8
def l167_0:DC:=.loop [3,6,7,8] [] l167_0b
def f167:DFn:=⟨1,[.t 2],
 sr [oK 2 (.nils)]<|sr [oK 3 (.nils)]<|.seq (sr [om 6 0,oH 7 6,oK 8 (.int .i64 0)]<|.block 0<|l167_0)<|sr [om 25 3,om 2 25]<|.ret⟩
def l168_0b:DC:=
 .seq (sr [om 7 4,om 8 0,oo 9 (.lenS (.t 8)),oB 10 .lss 7 9]<|cx 10 0)<|.block 1<|sr [om 12 0,om 13 4,oo 14 (.slS (.t 12) (some (.t 13)) none),cb 15 191 [.t 14],om 11 15,oE 16 0 11,oE 17 1 11,om 5 16,om 6 17]<|sr [om 18 3,om 19 5,om 20 6,om 21 5,oo 22 (.bin .eql .sc (.t 21) (.k (.int .i32 65533))),om 23 22,omt 24 6 23,tI 25 23 .eql 24 1,oA 26 23 25,oo 27 (.build [.int .i32 0,.int .i64 0,.bool false] [(0,1,(.t 19)),(1,1,(.t 20)),(2,1,(.t 26))]),oo 28 (.bsl false 3 [.int .i32 0,.int .i64 0,.bool false] 1 [(0,(.t 27))]),oo 29 (.app 3 24 (.t 18) (.t 28)),om 3 29]<|.reg [om 30 4,om 31 6,oB 32 .add 30 31,om 4 32]
def l168_0:DC:=.loop [0,3,4] [] l168_0b
def f168:DFn:=⟨1,[.t 2],
 sr [oK 2 (.nils)]<|sr [oK 3 (.nils)]<|.seq (sr [oK 4 (.int .i64 0)]<|.block 0<|l168_0)<|sr [om 33 3,om 2 33]<|.ret⟩
def f169:DFn:=⟨1,[.t 2],
 sr [oK 2 (.bool false)]<|sr [om 3 0,oo 4 (.bin .geq .sc (.t 3) (.k (.int .i32 97))),om 5 4,omt 6 0 5,ot 7 5 (.bin .leq .sc (.t 6) (.k (.int .i32 122))),oA 8 5 7,om 9 8,omf 10 0 9,of 11 9 (.bin .geq .sc (.t 10) (.k (.int .i32 65))),omf 12 11 9,omt 13 0 12,ot 14 12 (.bin .leq .sc (.t 13) (.k (.int .i32 90))),of 15 9 (.pick (.t 12) (.t 14) (.k (.bool false))),oO 16 9 15,om 17 16,omf 18 0 17,of 19 17 (.bin .geq .sc (.t 18) (.k (.int .i32 192))),omf 20 19 17,omt 21 0 20,ot 22 20 (.bin .leq .sc (.t 21) (.k (.int .i32 591))),of 23 17 (.pick (.t 20) (.t 22) (.k (.bool false))),omf 24 23 17,omt 25 0 24,ot 26 24 (.bin .neq .sc (.t 25) (.k (.int .i32 215))),of 27 17 (.pick (.t 24) (.t 26) (.k (.bool false))),omf 28 27 17,omt 29 0 28,ot 30 28 (.bin .neq .sc (.t 29) (.k (.int .i32 247))),of 31 17 (.pick (.t 28) (.t 30) (.k (.bool false))),oO 32 17 31,om 2 32]<|.ret⟩
def l170_0b:DC:=
 sr [oB 9 .lss 8 7]<|.seq (cx 9 0)<|.seq (.block 1<|sr [om 10 8,om 5 10]<|sr [om 11 1,om 12 0,om 13 5,oX 14 1 12 13,oL 15 14,oB 16 .eql 11 15]<|cd 16 (sr [om 17 5,om 4 17]<|.ret) (.skip))<|inc 18 8
def l170_0:DC:=.loop [0,1,7,8] [] l170_0b
def f170:DFn:=⟨2,[.t 4],
 sr [oK 4 (.int .i64 0)]<|.seq (sr [om 6 0,oH 7 6,oK 8 (.int .i64 0)]<|.block 0<|l170_0)<|sr [oK 4 (.int .i64 (-1))]<|.ret⟩
def f171:DFn:=⟨2,[.t 4],
 sr [oK 4 (.bool false)]<|sr [om 8 0,om 9 1,oo 10 (.slS (.t 8) (some (.t 9)) none),cb 11 191 [.t 10],om 7 11,oE 12 0 7,oE 13 1 7,om 5 12,om 6 13]<|sr [om 14 5,oo 15 (.bin .eql .sc (.t 14) (.k (.int .i32 65533))),om 16 15,omt 17 6 16,tI 18 16 .eql 17 1,oA 19 16 18,om 4 19]<|.ret⟩
def f172:DFn:=⟨1,[.t 2],
 sr [oK 2 (.bool false)]<|.seq (.block 0<|.seq (sr [om 4 0,oo 5 (.bin .geq .sc (.t 4) (.k (.int .i32 97))),om 6 5,omt 7 0 6,ot 8 6 (.bin .leq .sc (.t 7) (.k (.int .i32 122))),oA 9 6 8,om 3 9]<|cd 3 (.skip) (.reg [om 10 0,oo 11 (.bin .geq .sc (.t 10) (.k (.int .i32 65))),om 12 11,omt 13 0 12,ot 14 12 (.bin .leq .sc (.t 13) (.k (.int .i32 90))),oA 15 12 14,om 3 15]))<|cd 3 (sr [oK 2 (.bool true)]<|.ret) (.skip))<|sr [om 16 0,oo 17 (.bin .geq .sc (.t 16) (.k (.int .i32 192))),om 18 17,omt 19 0 18,ot 20 18 (.bin .leq .sc (.t 19) (.k (.int .i32 591))),oA 21 18 20,om 22 21,omt 23 0 22,ot 24 22 (.bin .neq .sc (.t 23) (.k (.int .i32 215))),oA 25 22 24,om 26 25,omt 27 0 26,ot 28 26 (.bin .neq .sc (.t 27) (.k (.int .i32 247))),oA 29 26 28,om 2 29]<|.ret⟩
def l173_0b:DC:=
 sr [oB 9 .lss 8 7]<|.seq (cx 9 0)<|.seq (.block 1<|sr [om 10 8,om 5 10]<|sr [om 11 1,om 12 0,om 13 5,oX 14 1 12 13,oL 15 14,oB 16 .eql 11 15]<|cd 16 (sr [om 17 5,om 4 17]<|.ret) (.skip))<|inc 18 8
def l173_0:DC:=.loop [0,1,7,8] [] l173_0b
def f173:DFn:=⟨2,[.t 4],
 sr [oK 4 (.int .i64 0)]<|.seq (sr [om 6 0,oH 7 6,oK 8 (.int .i64 0)]<|.block 0<|l173_0)<|sr [oK 4 (.int .i64 (-1))]<|.ret⟩
def f174:DFn:=⟨2,[.t 4],
 sr [oK 4 (.bool false)]<|.seq (sr [om 5 0,oo 6 (.bin .eql .np (.t 5) (.k (.nilp))),om 7 6,omf 8 0 7,of 9 7 (.nilck (.t 8)),of 10 7 (.fld 0 (.t 9)),of 11 7 (.ld 1 false (.t 10)),of 12 7 (.len (.t 11)),fI 13 7 .geq 12 100,oO 14 7 13]<|cd 14 (sr [oK 4 (.bool false)]<|.ret) (.skip))<|sr [om 15 0,om 16 0,oN 17 16,oF 18 0 17,oL 19 18,om 20 1,oo 21 (.bsl false 1 [.nili] 1 [(0,(.t 20))]),oo 22 (.app 1 16 (.t 19) (.t 21)),oN 23 15,oF 24 0 23,oS 1 24 22]<|sr [oK 4 (.bool true)]<|.ret⟩
def f175:DFn:=⟨2,[.t 4,.t 5],
 sr [oK 4 (.bool false),oK 5 (.bool false)]<|sr [om 7 0,om 8 1,cr 9 157 [.t 7,.t 8],oo 10 (.asrt 4 (.bool false) true (.t 9)),om 6 10,oE 11 0 6,oE 12 1 6,om 4 11,om 5 12]<|sr [om 13 4,om 14 5,om 4 13,om 5 14]<|.ret⟩
def f176:DFn:=⟨1,[.t 2],
 sr [oK 2 (.int .u8 0)]<|.seq (sr [om 3 0]<|cd 3 (sr [oK 2 (.int .u8 1)]<|.ret) (.skip))<|sr [oK 2 (.int .u8 0)]<|.ret⟩
def l177_0b:DC:=
 sr [oI 11 .lss 10 8]<|.seq (cx 11 0)<|.seq (.block 1<|sr [om 12 0,oo 13 (.bin .and .sc (.t 12) (.k (.int .u32 1))),oo 14 (.bin .eql .sc (.t 13) (.k (.int .u32 1))),om 5 14]<|sr [om 15 0,oo 16 (.bin .shr .sc (.t 15) (.k (.int .u64 1))),om 0 16]<|sr [om 17 5]<|cd 17 (.reg [om 18 0,oo 19 (.bin .xor .sc (.t 18) (.k (.int .u32 2197175160))),om 0 19]) (.skip))<|inc 20 10
def l177_0:DC:=.loop [0,10] [] l177_0b
def f177:DFn:=⟨2,[.t 4],
 sr [oK 4 (.int .u32 0)]<|sr [om 6 0,om 7 1,oo 8 (.cvI .u32 (.t 7)),oB 9 .xor 6 8,om 0 9]<|.seq (sr [oK 10 (.int .i64 0)]<|.block 0<|l177_0)<|sr [om 21 0,om 4 21]<|.ret⟩
def l178_0b:DC:=
 .seq (sr [om 6 4,oL 7 1,oH 8 7,oB 9 .lss 6 8]<|cx 9 0)<|.seq (.block 1<|.seq (.drw [oL 13 2,oL 14 1,om 15 4,oo 16 (.slc 1 (.t 14) (some (.t 15)) none none),oH 17 16,oo 18 (.mn (.t 13) (.t 17)),om 5 18] [[],[],[],[],[],[],[]])<|sr [om 19 0,oL 20 1,om 21 4,om 22 4,om 23 5,oB 24 .add 22 23,om 25 4,om 26 5,oB 27 .add 25 26,oo 28 (.slc 1 (.t 20) (some (.t 21)) (some (.t 24)) (some (.t 27))),oo 29 (.calld .ro (.t 19) [.t 28]),oo 30 (.un .not (.t 29))]<|cd 30 (.ret) (.skip))<|.reg [om 10 4,oL 11 2,oB 12 .add 10 11,om 4 12]
def l178_0:DC:=.loop [0,1,2,4] [] l178_0b
def f178:DFn:=⟨3,[],
 sr [oK 4 (.int .i64 0)]<|.block 0<|l178_0⟩
def l179_0b:DC:=
 sr [oB 9 .lss 8 7]<|.seq (cx 9 0)<|.seq (.block 1<|sr [om 10 8,om 5 10]<|sr [om 11 1,om 12 0,om 13 5,oX 14 1 12 13,oL 15 14,oo 16 (.calld .ro (.t 11) [.t 15])]<|cd 16 (sr [om 17 5,om 4 17]<|.ret) (.skip))<|inc 18 8
def l179_0:DC:=.loop [0,1,7,8] [] l179_0b
def f179:DFn:=⟨2,[.t 4],
 sr [oK 4 (.int .i64 0)]<|.seq (sr [om 6 0,oH 7 6,oK 8 (.int .i64 0)]<|.block 0<|l179_0)<|sr [oK 4 (.int .i64 (-1))]<|.ret⟩
def l180_0b:DC:=
 sr [oB 9 .lss 8 7]<|.seq (cx 9 0)<|.seq (.block 1<|sr [om 10 8,om 5 10]<|sr [om 11 1,om 12 0,om 13 5,oX 14 2 12 13,oG 15 2 14,oo 16 (.calld .ro (.t 11) [.t 15])]<|cd 16 (sr [om 17 5,om 4 17]<|.ret) (.skip))<|inc 18 8
def l180_0:DC:=.loop [0,1,7,8] [] l180_0b
def f180:DFn:=⟨2,[.t 4],
 sr [oK 4 (.int .i64 0)]<|.seq (sr [om 6 0,oH 7 6,oK 8 (.int .i64 0)]<|.block 0<|l180_0)<|sr [oK 4 (.int .i64 (-1))]<|.ret⟩
def l181_1b:DC:=
 sr [oB 28 .lss 27 26]<|.seq (cx 28 2)<|.seq (.block 3<|sr [oX 29 1 25 27,oL 30 29,om 8 30]<|.reg [om 31 6,om 32 8,oo 33 (.app 2 16 (.t 31) (.t 32)),om 6 33])<|inc 34 27
def l181_1:DC:=.loop [6,25,26,27] [] l181_1b
def l181_0b:DC:=
 sr [oB 12 .lss 11 10]<|.seq (cx 12 0)<|.seq (.block 1<|sr [oX 13 1 9 11,oL 14 13,om 5 14]<|sr [om 15 3,om 16 5,oH 17 16,oB 18 .add 15 17,om 3 18]<|sr [om 19 3,oI 20 .lss 19 0]<|cd 20 (.reg [oo 21 (.mkI 9 (.k (.str [108,101,110,32,111,117,116,32,111,102,32,114,97,110,103,101]))),on (.nilck (.k .nilp))]) (.skip))<|inc 22 11
def l181_0:DC:=.loop [0,3,9,10,11] [] l181_0b
def f181:DFn:=⟨1,[.t 2],
 sr [oK 2 (.nils)]<|sr [oK 3 (.int .i64 0)]<|.seq (sr [om 9 0,oH 10 9,oK 11 (.int .i64 0)]<|.block 0<|l181_0)<|sr [om 23 3,ce 24 192 [.k (.nils),.t 23],om 6 24]<|.seq (sr [om 25 0,oH 26 25,oK 27 (.int .i64 0)]<|.block 2<|l181_1)<|sr [om 35 6,om 2 35]<|.ret⟩
def l182_0b:DC:=
 sr [oB 9 .lss 8 7]<|.seq (cx 9 0)<|.seq (.block 1<|sr [om 10 8,om 5 10]<|.seq (.drw [oG 11 2 3,om 12 0,om 13 5,oX 14 2 12 13,oG 15 2 14,oo 16 (.bin .eql (.st [.i,.b]) (.t 11) (.t 15))] [[],[],[],[],[3],[]])<|cd 16 (sr [om 17 5,om 4 17]<|.ret) (.skip))<|inc 18 8
def l182_0:DC:=.loop [0,3,7,8] [3] l182_0b
def f182:DFn:=⟨2,[.t 4],
 sr [oZ 3 1,oK 4 (.int .i64 0)]<|.seq (sr [om 6 0,oH 7 6,oK 8 (.int .i64 0)]<|.block 0<|l182_0)<|sr [oK 4 (.int .i64 (-1))]<|.ret⟩
def f183:DFn:=⟨2,[.t 4],
 sr [oZ 2 0,oZ 3 1,oK 4 (.bool false)]<|sr [oo 5 (.mv (.f 193))]<|sr [oF 6 0 3,oL 7 6,oH 8 7,oF 9 0 2,oL 10 9,oH 11 10,oB 12 .eql 8 11,om 13 12,ot 14 13 (.fld 1 (.t 3)),tL 15 13 14,ot 16 13 (.len (.t 15)),ot 17 13 (.fld 1 (.t 2)),tL 18 13 17,ot 19 13 (.len (.t 18)),tB 20 13 .eql 16 19,oA 21 13 20,om 22 21,ot 23 22 (.fld 1 (.t 3)),tL 24 22 23,omt 25 5 22,ot 26 22 (.call .ro 159 [.t 24,.t 25]),ot 27 22 (.un .not (.t 26)),oA 28 22 27,om 4 28]<|.ret⟩
def f184:DFn:=⟨3,[.t 6],
 sr [oZ 4 1,oK 6 (.int .i64 0)]<|.seq (.block 0<|sr [om 8 0,oN 9 8,oF 10 4 9,oL 11 10,om 12 2,oX 13 4 11 12,oF 14 0 13,oL 15 14,oI 16 .neq 15 0,om 7 16]<|cd 7 (sr [oK 6 (.int .i64 7)]<|.ret) (sr [om 18 0,oG 19 2 4,om 20 2,cr 21 194 [.t 18,.t 19,.t 20],oo 22 (.un .not (.t 21)),om 17 22]<|cd 17 (sr [oK 6 (.int .i64 8)]<|.ret) (.skip)))<|sr [om 23 0,oN 24 23,oF 25 4 24,oL 26 25,om 27 2,oo 28 (.build [.int .i64 0,.int .i64 0,.int .i64 0,.bool false] [(0,1,(.k (.int .i64 1)))]),oX 29 4 26 27,oS 4 29 28]<|sr [oK 6 (.int .i64 0)]<|.ret⟩
def f185:DFn:=⟨2,[.t 4],
 sr [oK 4 (.int .i64 0)]<|.seq (sr [om 5 0,oN 6 5,oF 7 4 6,oL 8 7,om 9 1,oX 10 4 8 9,oF 11 0 10,oL 12 11]<|.block 0<|sr [oI 14 .eql 12 1,om 13 14]<|cd 13 (.reg [om 15 0,oN 16 15,oF 17 4 16,oL 18 17,om 19 1,oo 20 (.build [.int .i64 0,.int .i64 0,.int .i64 0,.bool false] []),oX 21 4 18 19,oS 4 21 20]) (sr [oI 23 .eql 12 2,om 22 23]<|cd 22 (.reg [om 24 0,oN 25 24,oF 26 4 25,oL 27 26,om 28 1,oo 29 (.build [.int .i64 0,.int .i64 0,.int .i64 0,.bool false] [(0,1,(.k (.int .i64 4)))]),oX 30 4 27 28,oS 4 30 29]) (sr [oK 4 (.int .i64 7)]<|.ret)))<|sr [oK 4 (.int .i64 0)]<|.ret⟩
def f186:DFn:=⟨3,[.cell 6 4 true],
 sr [oZ 4 1,oo 6 (.alL [.int .i64 0,.int .i64 0,.int .i64 0,.bool false])]<|sr [om 9 0,oN 10 9,oF 11 4 10,oL 12 11,om 13 2,oX 14 4 12 13,oG 15 4 14,oo 7 (.alL [.int .i64 0,.int .i64 0,.int .i64 0,.bool false]),oS 4 7 15]<|.seq (.drw [oF 16 0 4,oL 17 16,om 18 0,oN 19 18,oF 20 0 19,oF 21 3 20,oL 22 21,om 23 2,oX 24 6 22 23,oF 25 3 24,oL 26 25,oo 27 (.idx 1 (.t 26) (.k (.int .i64 0))),oL 28 27,oX 29 1 17 28,oL 30 29,om 8 30] [[],[],[],[],[],[],[],[],[6],[],[6,8],[6,8,10],[6,8,10,11],[1,6,8,10,11,12],[1,6,8,10,11,12,13],[]])<|.seq (sr [oF 31 0 7,oL 32 31]<|.block 0<|sr [oI 34 .eql 32 1,om 33 34]<|cd 33 (.seq (sr [om 35 0,oG 36 2 4,om 37 2,cr 38 189 [.t 35,.t 36,.t 37]]<|cd 38 (sr [oo 39 (.build [.int .i64 0,.int .i64 0,.int .i64 0,.bool false] [(0,1,(.k (.int .i64 2)))]),oS 4 6 39]<|.ret) (.skip))<|sr [oG 40 4 7,cb 41 195 [.t 40,.k (.int .i64 8)],oS 4 6 41]<|.ret) (.seq (sr [oI 43 .eql 32 2,om 42 43]<|cd 42 (.skip) (.reg [oI 44 .eql 32 4,om 42 44]))<|cd 42 (.block 1<|sr [om 46 8,om 45 46]<|cd 45 (sr [oo 47 (.build [.int .i64 0,.int .i64 0,.int .i64 0,.bool false] [(0,1,(.k (.int .i64 3))),(3,1,(.k (.bool true)))]),oS 4 6 47]<|.ret) (sr [oF 49 0 7,oL 50 49,oI 51 .eql 50 4,om 48 51]<|cd 48 (sr [oG 52 4 7,cb 53 195 [.t 52,.k (.int .i64 5)],oS 4 6 53]<|.ret) (.skip))) (sr [oI 55 .eql 32 3,om 54 55]<|cd 54 (sr [om 56 0,oG 57 2 4,om 58 2,cr 59 196 [.t 56,.t 57,.t 58],oS 4 6 59]<|.ret) (.skip))))<|sr [oG 60 4 7,oS 4 6 60]<|.ret⟩
def l187_1b:DC:=
 sr [oB 33 .lss 32 31]<|.seq (cx 33 2)<|.seq (.block 3<|sr [oX 34 2 30 32,oG 35 2 34,oo 9 (.alL [.int .i64 0,.bool false]),oS 2 9 35]<|.seq (.drw [om 36 0,oN 37 36,oF 38 0 37,oF 39 1 38,oL 40 39,oF 41 0 9,oL 42 41,oX 43 2 40 42,oF 44 1 43,oL 45 44,om 10 45] [[],[],[],[],[],[],[],[4,6],[],[4,6,7],[]])<|sr [om 46 0,om 47 10,cr 48 197 [.t 46,.t 47],om 11 48]<|sr [oG 49 2 4,oG 50 2 9,cb 51 198 [.t 49,.t 50],oo 52 (.un .not (.t 51)),om 53 52,ot 54 53 (.fld 0 (.t 4)),tL 55 53 54,omt 56 10 53,ot 57 53 (.idx 1 (.t 55) (.t 56)),tL 58 53 57,ot 59 53 (.un .not (.t 58)),oA 60 53 59,om 61 60,omt 62 11 61,tI 63 61 .lss 62 0,omt 64 63 61,omf 65 11 64,omf 66 6 64,fB 67 64 .eql 65 66,ot 68 61 (.pick (.t 64) (.k (.bool true)) (.t 67)),oA 69 61 68]<|cd 69 (.drw [oF 70 0 5,oL 71 70,oF 72 0 9,oL 73 72,oG 74 2 9,cb 75 199 [.t 74],oX 76 1 71 73,oS 1 76 75] [[],[],[],[],[],[4],[1,3,4,5],[1,3,4,5,6]]) (.skip))<|inc 77 32
def l187_1:DC:=.loop [0,4,5,6,15,16,17,30,31,32] [4,5] l187_1b
def l187_0b:DC:=
 sr [oB 18 .lss 17 16]<|.seq (cx 18 0)<|.seq (.block 1<|sr [om 19 17,oX 20 4 15 17,oG 21 4 20,oo 7 (.alL [.int .i64 0,.int .i64 0,.int .i64 0,.bool false]),om 6 19,oS 4 7 21]<|.seq (sr [oF 22 0 7,oL 23 22,oI 24 .neq 23 1]<|cd 24 (.exit 1) (.skip))<|sr [om 25 0,oN 26 25,oF 27 0 26,oG 28 4 27,om 29 6,cb 30 162 [.t 28,.t 29],oH 31 30,oK 32 (.int .i64 0)]<|.block 2<|l187_1)<|inc 78 17
def l187_0:DC:=.loop [0,4,5,15,16,17] [4,5] l187_0b
def f187:DFn:=⟨3,[],
 sr [oZ 4 1,oZ 5 2]<|sr [om 12 0,oN 13 12,oF 14 4 13,oL 15 14,oH 16 15,oK 17 (.int .i64 0)]<|.block 0<|l187_0⟩
def f188:DFn:=⟨2,[.t 4],
 sr [oo 2 (.boxH (.t 0)),oK 4 (.bool false)]<|sr [om 5 1,oo 6 (.mkF 200 [.t 2]),cr 7 159 [.t 5,.t 6],om 4 7]<|.ret⟩
def f189:DFn:=⟨3,[.t 6],
 sr [oo 4 (.boxH (.t 1)),oK 6 (.bool false)]<|sr [om 7 0,oN 8 7,oF 9 0 8,oG 10 4 9,om 11 2,cb 12 162 [.t 10,.t 11],oo 13 (.mkF 201 [.t 4]),cr 14 161 [.t 12,.t 13],oo 15 (.un .not (.t 14)),om 6 15]<|.ret⟩
def f190:DFn:=⟨1,[.t 2],
 sr [oK 2 (.int .i64 0)]<|.seq (sr [om 3 0]<|cd 3 (sr [oK 2 (.int .i64 1)]<|.ret) (.skip))<|sr [oK 2 (.int .i64 0)]<|.ret⟩
def f191:DFn:=⟨1,[.t 2,.t 3],
 sr [oK 2 (.int .i32 0),oK 3 (.int .i64 0)]<|.seq (sr [om 4 0,oo 5 (.bin .neq .sc (.t 4) (.k (.str []))),om 6 5,omt 7 0 6,ot 8 6 (.idxS (.t 7) (.k (.int .i64 0))),ot 9 6 (.bin .lss .sc (.t 8) (.k (.int .u8 128))),oA 10 6 9]<|cd 10 (sr [om 11 0,oo 12 (.idxS (.t 11) (.k (.int .i64 0))),oo 13 (.cvI .i32 (.t 12)),om 2 13,oK 3 (.int .i64 1)]<|.ret) (.reg [om 15 0,cb 16 202 [.t 15],om 14 16,oE 17 0 14,oE 18 1 14,om 2 17,om 3 18]))<|.ret⟩
def f192:DFn:=⟨2,[.t 4],
 sr [oK 4 (.nils)]<|.seq (sr [om 5 1,oI 6 .lss 5 0]<|cd 6 (.reg [oo 7 (.mkI 9 (.k (.str [99,97,110,110,111,116,32,98,101,32,110,101,103,97,116,105,118,101]))),on (.nilck (.k .nilp))]) (.skip))<|.seq (sr [om 8 1,om 9 0,oo 10 (.cap (.t 9)),om 11 0,oH 12 11,oB 13 .sub 10 12,oB 14 .sub 8 13,om 1 14]<|sr [om 15 1,oI 16 .gtr 15 0]<|cd 16 (.reg [om 17 0,om 18 0,oo 19 (.cap (.t 18)),oo 20 (.slc 2 (.t 17) none (some (.t 19)) none),om 21 1,oo 22 (.appZ 2 16 [.int .i64 0,.bool false] (.t 20) (.t 21)),om 23 0,oH 24 23,oo 25 (.slc 2 (.t 22) none (some (.t 24)) none),om 0 25]) (.skip))<|sr [om 26 0,om 4 26]<|.ret⟩
def f193:DFn:=⟨1,[.t 2],
 sr [oK 2 (.bool false)]<|sr [om 3 0,oI 4 .lss 3 0,om 5 4,omf 6 0 5,fI 7 5 .gtr 6 2,oO 8 5 7,om 2 8]<|.ret⟩
def l194_1b:DC:=
 sr [oB 43 .lss 42 41]<|.seq (cx 43 2)<|.seq (.block 3<|sr [oX 44 2 40 42,oG 45 2 44,oo 10 (.alL [.int .i64 0,.bool false]),oS 2 10 45]<|.seq (.drw [om 46 0,oN 47 46,oF 48 0 47,oF 49 1 48,oL 50 49,oF 51 0 10,oL 52 51,oX 53 2 50 52,oF 54 1 53,oL 55 54,om 11 55] [[],[],[],[],[],[],[],[4,6],[],[4,6,7],[]])<|sr [oG 56 2 4,oG 57 2 10,cb 58 198 [.t 56,.t 57],oo 59 (.un .not (.t 58)),om 60 59,ot 61 60 (.fld 0 (.t 4)),tL 62 60 61,omt 63 11 60,ot 64 60 (.idx 1 (.t 62) (.t 63)),tL 65 60 64,omt 66 65 60,omf 67 0 66,omf 68 11 66,of 69 66 (.call .ro 197 [.t 67,.t 68]),fI 70 66 .geq 69 0,ot 71 60 (.pick (.t 66) (.k (.bool true)) (.t 70)),oA 72 60 71]<|cd 72 (sr [oK 6 (.bool false)]<|.ret) (.skip))<|inc 73 42
def l194_1:DC:=.loop [0,2,4,40,41,42] [4] l194_1b
def l194_0b:DC:=
 sr [oB 18 .lss 17 16]<|.seq (cx 18 0)<|.seq (.block 1<|sr [om 19 17,oX 20 4 15 17,oG 21 4 20,oo 8 (.alL [.int .i64 0,.int .i64 0,.int .i64 0,.bool false]),om 7 19,oS 4 8 21]<|sr [oF 22 0 8,oL 23 22,oI 24 .neq 23 0,om 25 24,omt 26 0 25,ot 27 25 (.nilck (.t 26)),ot 28 25 (.fld 0 (.t 27)),ot 29 25 (.ld 4 true (.t 28)),omt 30 2 25,omt 31 7 25,ot 32 25 (.call .blind 136 [.t 29,.t 30,.t 31]),oA 33 25 32]<|cd 33 (sr [oK 6 (.bool false)]<|.ret) (.skip))<|inc 34 17
def l194_0:DC:=.loop [0,2,4,15,16,17] [4] l194_0b
def f194:DFn:=⟨3,[.t 6],
 sr [oZ 4 1,oK 6 (.bool false)]<|.seq (sr [om 12 0,oN 13 12,oF 14 4 13,oL 15 14,oH 16 15,oK 17 (.int .i64 0)]<|.block 0<|l194_0)<|.seq (sr [om 35 0,oN 36 35,oF 37 0 36,oG 38 4 37,om 39 2,cb 40 162 [.t 38,.t 39],oH 41 40,oK 42 (.int .i64 0)]<|.block 2<|l194_1)<|.seq (.drw [oG 74 2 4,om 75 0,oN 76 75,oF 77 0 76,oF 78 3 77,oL 79 78,om 80 2,oX 81 6 79 80,oF 82 3 81,oL 83 82,cb 84 188 [.t 74,.t 83],oo 85 (.un .not (.t 84)),om 6 85] [[],[],[],[],[],[],[],[5],[],[5,7],[0,5,7,9],[],[]])<|.ret⟩
def f195:DFn:=⟨2,[.cell 4 4 true],
 sr [oZ 2 0,oo 4 (.alL [.int .i64 0,.int .i64 0,.int .i64 0,.bool false])]<|sr [oF 5 1 2,oL 6 5,oI 7 .add 6 1,oF 8 1 2,oS 1 8 7]<|.seq (sr [oF 9 1 2,oL 10 9,om 11 1,oB 12 .gtr 10 11]<|cd 12 (sr [oo 13 (.build [.int .i64 0,.int .i64 0,.int .i64 0,.bool false] []),oS 4 4 13]<|.ret) (.skip))<|sr [oG 14 4 2,oS 4 4 14]<|.ret⟩
def f196:DFn:=⟨3,[.cell 6 4 true],
 sr [oZ 4 1,oo 6 (.alL [.int .i64 0,.int .i64 0,.int .i64 0,.bool false])]<|.seq (.drw [om 9 0,oN 10 9,oF 11 4 10,oL 12 11,om 13 2,oX 14 4 12 13,oG 15 4 14,om 16 0,oN 17 16,oF 18 0 17,oF 19 3 18,oL 20 19,om 21 2,oX 22 6 20 21,oF 23 3 22,oL 24 23,oo 7 (.alL [.int .i64 0,.int .i64 0,.int .i64 0,.bool false]),oS 4 7 15,om 8 24] [[],[],[],[],[],[3],[3,5],[],[],[],[],[],[],[11],[],[11,13],[],[3,5,6,16],[]])<|.seq (.block 0<|.seq (.drw [oF 26 0 4,oL 27 26,om 28 8,oF 29 2 7,oL 30 29,oX 31 1 28 30,oL 32 31,oX 33 1 27 32,oL 34 33,om 25 34] [[],[],[],[],[],[4],[4,5],[1,4,5,6],[1,4,5,6,7],[]])<|cd 25 (.reg [oF 35 3 7,on (.st 1 (.t 35) (.k (.bool true)))]) (sr [oF 37 3 7,oL 38 37,om 36 38]<|cd 36 (.reg [oF 39 2 7,oL 40 39,oI 41 .add 40 1,oF 42 2 7,oS 1 42 41,oF 43 3 7,on (.st 1 (.t 43) (.k (.bool false)))]) (.skip)))<|.seq (sr [oF 44 2 7,oL 45 44,om 46 8,oH 47 46,oB 48 .geq 45 47]<|cd 48 (sr [oo 49 (.build [.int .i64 0,.int .i64 0,.int .i64 0,.bool false] []),oS 4 6 49]<|.ret) (.skip))<|sr [oG 50 4 7,oS 4 6 50]<|.ret⟩
def l197_0b:DC:=
 sr [oB 14 .lss 13 12]<|.seq (cx 14 0)<|.seq (.block 1<|sr [om 15 13,om 5 15]<|sr [om 16 0,om 17 5,cr 18 203 [.t 16,.t 17],om 19 1,cb 20 147 [.t 18,.t 19]]<|cd 20 (sr [om 21 5,om 4 21]<|.ret) (.skip))<|inc 22 13
def l197_0:DC:=.loop [0,1,12,13] [] l197_0b
def f197:DFn:=⟨2,[.t 4],
 sr [oK 4 (.int .i64 0)]<|.seq (sr [om 6 0,oo 7 (.bin .eql .np (.t 6) (.k (.nilp)))]<|cd 7 (sr [oK 4 (.int .i64 (-1))]<|.ret) (.skip))<|.seq (sr [om 8 0,oN 9 8,oF 10 4 9,oL 11 10,oH 12 11,oK 13 (.int .i64 0)]<|.block 0<|l197_0)<|sr [oK 4 (.int .i64 (-1))]<|.ret⟩
def f198:DFn:=⟨2,[.t 4],
 sr [oZ 2 0,oZ 3 1,oK 4 (.bool false)]<|.seq (.drw [oF 5 1 2,oL 6 5,oF 7 0 3,oL 8 7,oX 9 1 6 8,oL 10 9,oG 11 2 3,cb 12 199 [.t 11],oB 13 .eql 10 12,om 4 13] [[],[],[],[],[1,3],[1,3,4],[],[6],[],[]])<|.ret⟩
def f199:DFn:=⟨1,[.t 2],
 sr [oZ 1 0,oK 2 (.int .i64 0)]<|.seq (sr [oF 3 1 1,oL 4 3]<|cd 4 (sr [oK 2 (.int .i64 2)]<|.ret) (.skip))<|sr [oK 2 (.int .i64 1)]<|.ret⟩
def f200:DFn:=⟨2,[.t 3],
 sr [oK 3 (.bool false)]<|sr [oF 4 0 1,oL 5 4,om 6 0,oX 7 1 5 6,oL 8 7,om 3 8]<|.ret⟩
def f201:DFn:=⟨2,[.t 3],
 sr [oZ 2 0,oK 3 (.bool false)]<|sr [oG 4 2 1,oG 5 2 2,cb 6 198 [.t 4,.t 5],oo 7 (.un .not (.t 6)),om 3 7]<|.ret⟩
def f202:DFn:=⟨1,[.t 2,.t 3],
 sr [oK 2 (.int .i32 0),oK 3 (.int .i64 0)]<|sr [om 13 0,oo 14 (.lenS (.t 13)),om 4 14]<|.seq (sr [om 15 4,oI 16 .lss 15 1]<|cd 16 (sr [oK 2 (.int .i32 65533),oK 3 (.int .i64 0)]<|.ret) (.skip))<|sr [om 17 0,oo 18 (.idxS (.t 17) (.k (.int .i64 0))),om 5 18]<|sr [om 19 5,oo 20 (.idxA 1 256 (.g 0) (.t 19)),oL 21 20,om 6 21]<|.seq (sr [om 22 6,oo 23 (.bin .geq .sc (.t 22) (.k (.int .u8 240)))]<|cd 23 (sr [om 24 6,oo 25 (.cvI .i32 (.t 24)),oo 26 (.bin .shl .sc (.t 25) (.k (.int .u64 31))),oo 27 (.bin .shr .sc (.t 26) (.k (.int .u64 31))),om 7 27]<|sr [om 28 0,oo 29 (.idxS (.t 28) (.k (.int .i64 0))),oo 30 (.cvI .i32 (.t 29)),om 31 7,oB 32 .andNot 30 31,om 33 7,oo 34 (.bin .and .sc (.k (.int .i32 65533)) (.t 33)),oB 35 .or 32 34,om 2 35,oK 3 (.int .i64 1)]<|.ret) (.skip))<|sr [om 36 6,oo 37 (.bin .and .sc (.t 36) (.k (.int .u8 7))),oo 38 (.cvI .i64 (.t 37)),om 8 38]<|sr [om 39 6,oo 40 (.bin .shr .sc (.t 39) (.k (.int .u64 4))),oo 41 (.idxA 2 16 (.g 1) (.t 40)),oG 42 2 41,oo 9 (.alL [.int .u8 0,.int .u8 0]),oS 2 9 42]<|.seq (sr [om 43 4,om 44 8,oB 45 .lss 43 44]<|cd 45 (sr [oK 2 (.int .i32 65533),oK 3 (.int .i64 1)]<|.ret) (.skip))<|sr [om 46 0,oo 47 (.idxS (.t 46) (.k (.int .i64 1))),om 10 47]<|.seq (sr [om 48 10,oF 49 0 9,oL 50 49,oB 51 .lss 48 50,om 52 51,of 53 52 (.fld 1 (.t 9)),of 54 52 (.ld 1 false (.t 53)),omf 55 10 52,fB 56 52 .lss 54 55,oO 57 52 56]<|cd 57 (sr [oK 2 (.int .i32 65533),oK 3 (.int .i64 1)]<|.ret) (.skip))<|.seq (sr [om 58 8,oI 59 .leq 58 2]<|cd 59 (sr [om 60 5,oo 61 (.bin .and .sc (.t 60) (.k (.int .u8 31))),oo 62 (.cvI .i32 (.t 61)),oo 63 (.bin .shl .sc (.t 62) (.k (.int .u64 6))),om 64 10,oo 65 (.bin .and .sc (.t 64) (.k (.int .u8 63))),oo 66 (.cvI .i32 (.t 65)),oB 67 .or 63 66,om 2 67,oK 3 (.int .i64 2)]<|.ret) (.skip))<|sr [om 68 0,oo 69 (.idxS (.t 68) (.k (.int .i64 2))),om 11 69]<|.seq (sr [om 70 11,oo 71 (.bin .lss .sc (.t 70) (.k (.int .u8 128))),om 72 71,omf 73 11 72,of 74 72 (.bin .lss .sc (.k (.int .u8 191)) (.t 73)),oO 75 72 74]<|cd 75 (sr [oK 2 (.int .i32 65533),oK 3 (.int .i64 1)]<|.ret) (.skip))<|.seq (sr [om 76 8,oI 77 .leq 76 3]<|cd 77 (sr [om 78 5,oo 79 (.bin .and .sc (.t 78) (.k (.int .u8 15))),oo 80 (.cvI .i32 (.t 79)),oo 81 (.bin .shl .sc (.t 80) (.k (.int .u64 12))),om 82 10,oo 83 (.bin .and .sc (.t 82) (.k (.int .u8 63))),oo 84 (.cvI .i32 (.t 83)),oo 85 (.bin .shl .sc (.t 84) (.k (.int .u64 6))),oB 86 .or 81 85,om 87 11,oo 88 (.bin .and .sc (.t 87) (.k (.int .u8 63))),oo 89 (.cvI .i32 (.t 88)),oB 90 .or 86 89,om 2 90,oK 3 (.int .i64 3)]<|.ret) (.skip))<|sr [om 91 0,oo 92 (.idxS (.t 91) (.k (.int .i64 3))),om 12 92]<|.seq (sr [om 93 12,oo 94 (.bin .lss .sc (.t 93) (.k (.int .u8 128))),om 95 94,omf 96 12 95,of 97 95 (.bin .lss .sc (.k (.int .u8 191)) (.t 96)),oO 98 95 97]<|cd 98 (sr [oK 2 (.int .i32 65533),oK 3 (.int .i64 1)]<|.ret) (.skip))<|sr [om 99 5,oo 100 (.bin .and .sc (.t 99) (.k (.int .u8 7))),oo 101 (.cvI .i32 (.t 100)),oo 102 (.bin .shl .sc (.t 101) (.k (.int .u64 18))),om 103 10,oo 104 (.bin .and .sc (.t 103) (.k (.int .u8 63))),oo 105 (.cvI .i32 (.t 104)),oo 106 (.bin .shl .sc (.t 105) (.k (.int .u64 12))),oB 107 .or 102 106,om 108 11,oo 109 (.bin .and .sc (.t 108) (.k (.int .u8 63))),oo 110 (.cvI .i32 (.t 109)),oo 111 (.bin .shl .sc (.t 110) (.k (.int .u64 6))),oB 112 .or 107 111,om 113 12,oo 114 (.bin .and .sc (.t 113) (.k (.int .u8 63))),oo 115 (.cvI .i32 (.t 114)),oB 116 .or 112 115,om 2 116,oK 3 (.int .i64 4)]<|.ret⟩
def f203:DFn:=⟨2,[.t 4],
 sr [oK 4 (.nils)]<|.seq (.drw [om 7 0,oN 8 7,oF 9 4 8,oL 10 9,om 11 1,oX 12 4 10 11,oG 13 4 12,om 14 0,oN 15 14,oF 16 0 15,oF 17 3 16,oL 18 17,om 19 1,oX 20 6 18 19,oF 21 3 20,oL 22 21,oo 5 (.alL [.int .i64 0,.int .i64 0,.int .i64 0,.bool false]),oS 4 5 13,om 6 22] [[],[],[],[],[],[3],[3,5],[],[],[],[],[],[],[11],[],[11,13],[],[3,5,6,16],[]])<|.seq (sr [oF 23 0 5,oL 24 23]<|.block 0<|.seq (sr [oI 26 .eql 24 1,om 25 26]<|cd 25 (.skip) (sr [oI 27 .eql 24 2,om 25 27]<|cd 25 (.skip) (.reg [oI 28 .eql 24 4,om 25 28])))<|cd 25 (sr [om 29 6,om 4 29]<|.ret) (sr [oI 31 .eql 24 3,om 30 31]<|cd 30 (sr [om 32 6,oF 33 2 5,oL 34 33,oo 35 (.slc 1 (.t 32) (some (.t 34)) none none),om 4 35]<|.ret) (.skip)))<|sr [oK 4 (.nils)]<|.ret⟩
noncomputable def tab:PT Entry:=(.nd (.nd (.nd (.nd (.nd (.nd (.nd (.nd .lf (some (.fn f127)) .lf) none (.nd .lf (some (.fn f191)) .lf)) none (.nd (.nd .lf (some (.fn f159)) .lf) (some (.fn f95)) .lf)) (some (.fn f15)) (.nd (.nd .lf (some (.fn f79)) .lf) (some (.fn f47)) (.nd (.nd .lf (some (.fn f175)) .lf) (some (.fn f111)) .lf))) none (.nd (.nd (.nd (.nd .lf (some (.fn f135)) .lf) none (.nd .lf (some (.fn f199)) .lf)) (some (.fn f39)) (.nd (.nd .lf (some (.fn f167)) .lf) (some (.fn f103)) .lf)) none (.nd (.nd (.nd .lf (some (.fn f151)) .lf) (some (.fn f87)) .lf) (some (.fn f55)) (.nd (.nd .lf (some (.fn f183)) .lf) (some (.fn f119)) .lf)))) none (.nd (.nd (.nd (.nd (.nd .lf (some (.fn f131)) .lf) none (.nd .lf (some (.fn f195)) .lf)) (some (.fn f35)) (.nd (.nd .lf (some (.fn f163)) .lf) (some (.fn f99)) .lf)) (some (.fn f19)) (.nd (.nd (.nd .lf (some (.fn f147)) .lf) (some (.fn f83)) .lf) (some (.fn f51)) (.nd (.nd .lf (some (.fn f179)) .lf) (some (.fn f115)) .lf))) none (.nd (.nd (.nd (.nd .lf (some (.fn f139)) .lf) (some (.fn f75)) (.nd .lf (some (.fn f203)) .lf)) none (.nd (.nd .lf (some (.fn f171)) .lf) (some (.fn f107)) .lf)) none (.nd (.nd (.nd .lf (some (.prim primSum)) .lf) (some (.fn f91)) .lf) (some (.fn f59)) (.nd (.nd .lf (some (.fn f187)) .lf) (some (.fn f123)) .lf))))) none (.nd (.nd (.nd (.nd (.nd (.nd .lf (some (.fn f129)) .lf) (some (.fn f65)) (.nd .lf (some (.fn f193)) .lf)) none (.nd (.nd .lf (some (.fn f161)) .lf) (some (.fn f97)) .lf)) none (.nd (.nd (.nd .lf (some (.fn f145)) .lf) (some (.fn f81)) .lf) (some (.fn f49)) (.nd (.nd .lf (some (.prim primCrc)) .lf) (some (.fn f113)) .lf))) (some (.fn f9)) (.nd (.nd (.nd (.nd .lf (some (.fn f137)) .lf) none (.nd .lf (some (.fn f201)) .lf)) (some (.fn f41)) (.nd (.nd .lf (some (.fn f169)) .lf) (some (.fn f105)) .lf)) none (.nd (.nd (.nd .lf (some (.fn f153)) .lf) (some (.fn f89)) .lf) (some (.fn f57)) (.nd (.nd .lf (some (.fn f185)) .lf) (some (.fn f121)) .lf)))) none (.nd (.nd (.nd (.nd (.nd .lf (some (.prim primTake)) .lf) none (.nd .lf (some (.fn f197)) .lf)) (some (.fn f37)) (.nd (.nd .lf (some (.fn f165)) .lf) (some (.fn f101)) .lf)) none (.nd (.nd (.nd .lf (some (.fn f149)) .lf) (some (.fn f85)) .lf) (some (.fn f53)) (.nd (.nd .lf (some (.fn f181)) .lf) (some (.fn f117)) .lf))) none (.nd (.nd (.nd (.nd .lf (some (.fn f141)) .lf) (some (.fn f77)) .lf) (some (.fn f45)) (.nd (.nd .lf (some (.fn f173)) .lf) none .lf)) (some (.fn f29)) (.nd (.nd (.nd .lf (some (.fn f157)) .lf) (some (.fn f93)) .lf) none (.nd (.nd .lf (some (.fn f189)) .lf) (some (.fn f125)) .lf)))))) none (.nd (.nd (.nd (.nd (.nd (.nd (.nd .lf (some (.fn f128)) .lf) (some (.fn f64)) (.nd .lf (some (.fn f192)) .lf)) none (.nd (.nd .lf (some (.fn f160)) .lf) (some (.fn f96)) .lf)) (some (.fn f16)) (.nd (.nd (.nd .lf (some (.fn f144)) .lf) (some (.fn f80)) .lf) (some (.fn f48)) (.nd (.nd .lf (some (.fn f176)) .lf) (some (.fn f112)) .lf))) (some (.fn f8)) (.nd (.nd (.nd (.nd .lf (some (.fn f136)) .lf) none (.nd .lf (some (.fn f200)) .lf)) (some (.fn f40)) (.nd (.nd .lf (some (.fn f168)) .lf) (some (.fn f104)) .lf)) none (.nd (.nd (.nd .lf (some (.fn f152)) .lf) (some (.fn f88)) .lf) (some (.fn f56)) (.nd (.nd .lf (some (.fn f184)) .lf) (some (.fn f120)) .lf)))) (some (.fn f4)) (.nd (.nd (.nd (.nd (.nd .lf (some (.fn f132)) .lf) none (.nd .lf (some (.fn f196)) .lf)) (some (.fn f36)) (.nd (.nd .lf (some (.fn f164)) .lf) (some (.fn f100)) .lf)) none (.nd (.nd (.nd .lf (some (.fn f148)) .lf) (some (.fn f84)) .lf) (some (.fn f52)) (.nd (.nd .lf (some (.fn f180)) .lf) (some (.fn f116)) .lf))) (some (.fn f12)) (.nd (.nd (.nd (.nd .lf (some (.fn f140)) .lf) (some (.fn f76)) .lf) none (.nd (.nd .lf (some (.fn f172)) .lf) (some (.fn f108)) .lf)) (some (.fn f28)) (.nd (.nd (.nd .lf (some (.fn f156)) .lf) (some (.fn f92)) .lf) (some (.fn f60)) (.nd (.nd .lf (some (.fn f188)) .lf) (some (.fn f124)) .lf))))) none (.nd (.nd (.nd (.nd (.nd (.nd .lf (some (.fn f130)) .lf) none (.nd .lf (some (.fn f194)) .lf)) none (.nd (.nd .lf (some (.fn f162)) .lf) (some (.fn f98)) .lf)) none (.nd (.nd (.nd .lf (some (.fn f146)) .lf) (some (.fn f82)) .lf) (some (.fn f50)) (.nd (.nd .lf (some (.fn f178)) .lf) (some (.fn f114)) .lf))) none (.nd (.nd (.nd (.nd .lf (some (.fn f138)) .lf) none (.nd .lf (some (.fn f202)) .lf)) none (.nd (.nd .lf (some (.fn f170)) .lf) (some (.fn f106)) .lf)) none (.nd (.nd (.nd .lf (some (.prim primNumber)) .lf) (some (.fn f90)) .lf) (some (.fn f58)) (.nd (.nd .lf (some (.fn f186)) .lf) (some (.fn f122)) .lf)))) none (.nd (.nd (.nd (.nd (.nd .lf (some (.fn f134)) .lf) (some (.fn f70)) (.nd .lf (some (.fn f198)) .lf)) (some (.fn f38)) (.nd (.nd .lf (some (.fn f166)) .lf) (some (.fn f102)) .lf)) none (.nd (.nd (.nd .lf (some (.fn f150)) .lf) (some (.fn f86)) .lf) (some (.fn f54)) (.nd (.nd .lf (some (.fn f182)) .lf) (some (.fn f118)) .lf))) (some (.fn f14)) (.nd (.nd (.nd (.nd .lf (some (.fn f142)) .lf) (some (.fn f78)) .lf) (some (.fn f46)) (.nd (.nd .lf (some (.fn f174)) .lf) none .lf)) none (.nd (.nd (.nd .lf (some (.fn f158)) .lf) (some (.fn f94)) .lf) none (.nd (.nd .lf (some (.fn f190)) .lf) (some (.prim primTaken)) .lf)))))))
noncomputable abbrev K (G:Nat→Option (List IV)) (d:Nat):Go.PM.Callee:=dcall G (fun f=>tab.get f) d
section
variable {G:Nat→Option (List IV)}{d:Nat}{args:List DV}{H:PT HB}{n lo:Nat}
theorem kX (i:Nat) (f:DFn) (h:tab.get i=some (.fn f)):K G (d+1) i args H n lo=f.run G (K G d) args H n lo:=dcall_fn h
theorem k126:K G (d+1) 126 args H n lo=primTaken args H n lo:=rfl
theorem k133:K G (d+1) 133 args H n lo=primTake args H n lo:=rfl
theorem k154:K G (d+1) 154 args H n lo=primNumber args H n lo:=rfl
theorem k155:K G (d+1) 155 args H n lo=primSum args H n lo:=rfl
theorem k177:K G (d+1) 177 args H n lo=primCrc args H n lo:=rfl
end
end Go.Proofs.YtlknjgmhfimhbaaGreatDoor.D
