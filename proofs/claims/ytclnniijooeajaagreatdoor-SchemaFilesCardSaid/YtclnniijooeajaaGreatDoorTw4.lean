/- Part 4 of a proof: the texts B0 B1 B2 M1 MirY I1 I2 I3, one behind the other. -/
import Derived.Test.YtclnniijooeajaaGreatDoorTw1
import Derived.Test.YtclnniijooeajaaGreatDoorTw3
import Derived.Test.YtclnniijooeajaaGreatDoorRows
import Derived.Sort.OwnSorted
import Derived.Lib.AppendZeros
import Derived.Lib.Join
import Derived.Lib.ReplaceLaws
import Derived.Deep.LoopGhost
import Derived.RangeFuncRecord
import Derived.RangeFuncCalls
import Derived.OrdersIn
noncomputable section
namespace Go.Proofs.YtclnniijooeajaaGreatDoor.Rf
open Go Go.RowKit Go.Sort Go.Proofs.YtclnniijooeajaaGreatDoor.bA
structure Node where
 kind:Int
 text:anP
 keys:List (anP)
 kids:List Node
structure jr where
 n:Node
 path:anP
 e:Int
structure form where
 n:Node
 bad:Bool
structure budget where
 left:Int
structure Port where
 host:anP
 out:Int
 iW:Int
 proto:anP
structure fZ where
 source:anP
 target:anP
 readOnly:Bool
structure field where
 n:Node
 left:Int
 bad:Bool
structure xY where
 long:Int
 name:anP
structure Ut where
 e0:xY
 e1:xY
 e2:xY
 e3:xY
structure aaN where
 e0:anP
 e1:anP
 e2:anP
 e3:anP
structure aaO where
 e0:Int
 e1:Int
 e2:Int
 e3:Int
inductive Ty where
 | int | str | dw | nA | ah | bool | aY | iE | QX | lW | QY | mG | kL | byte | QZ | kF | jk | kR | F4 | Bv | sF | Ao | u64 | Ap | F5
 deriving DecidableEq
abbrev Den:Ty->Type
 | .int=>Int
 | .str=>anP
 | .dw=>List (anP)
 | .nA=>List Node
 | .ah=>Node
 | .bool=>Bool
 | .aY=>Int
 | .iE=>jr
 | .QX=>Nat
 | .lW=>Nat
 | .QY=>Nat
 | .mG=>form
 | .kL=>budget
 | .byte=>Int
 | .QZ=>Nat
 | .kF=>Port
 | .jk=>fZ
 | .kR=>field
 | .F4=>List Int
 | .Bv=>xY
 | .sF=>Ut
 | .Ao=>aaN
 | .u64=>Int
 | .Ap=>aaO
 | .F5=>Int
def tid:Ty->TypeId
 | .int=>3
 | .str=>9
 | .dw=>22
 | .nA=>23
 | .ah=>25
 | .bool=>4
 | .aY=>28
 | .iE=>32
 | .QX=>46
 | .lW=>43
 | .QY=>61
 | .mG=>63
 | .kL=>70
 | .byte=>5
 | .QZ=>41
 | .kF=>82
 | .jk=>89
 | .kR=>103
 | .F4=>126
 | .Bv=>134
 | .sF=>135
 | .Ao=>141
 | .u64=>137
 | .Ap=>167
 | .F5=>121
def code:TypeId->Option Ty
 | 3=>some .int
 | 9=>some .str
 | 22=>some .dw
 | 23=>some .nA
 | 25=>some .ah
 | 4=>some .bool
 | 28=>some .aY
 | 32=>some .iE
 | 46=>some .QX
 | 43=>some .lW
 | 61=>some .QY
 | 63=>some .mG
 | 70=>some .kL
 | 5=>some .byte
 | 41=>some .QZ
 | 82=>some .kF
 | 89=>some .jk
 | 103=>some .kR
 | 126=>some .F4
 | 134=>some .Bv
 | 135=>some .sF
 | 141=>some .Ao
 | 137=>some .u64
 | 167=>some .Ap
 | 121=>some .F5
 | _=>none
def agg:Ty->Bool
 | .int=>false
 | .str=>false
 | .dw=>false
 | .nA=>false
 | .ah=>true
 | .bool=>false
 | .aY=>false
 | .iE=>true
 | .QX=>false
 | .lW=>false
 | .QY=>false
 | .mG=>true
 | .kL=>true
 | .byte=>false
 | .QZ=>false
 | .kF=>true
 | .jk=>true
 | .kR=>true
 | .F4=>false
 | .Bv=>true
 | .sF=>true
 | .Ao=>true
 | .u64=>false
 | .Ap=>true
 | .F5=>false
def size:Ty->Nat
 | .int=>1
 | .str=>1
 | .dw=>1
 | .nA=>1
 | .ah=>4
 | .bool=>1
 | .aY=>1
 | .iE=>6
 | .QX=>1
 | .lW=>1
 | .QY=>1
 | .mG=>5
 | .kL=>1
 | .byte=>1
 | .QZ=>1
 | .kF=>4
 | .jk=>3
 | .kR=>6
 | .F4=>1
 | .Bv=>2
 | .sF=>8
 | .Ao=>4
 | .u64=>1
 | .Ap=>4
 | .F5=>1
def bytes:Ty->Nat
 | .int=>8
 | .str=>16
 | .dw=>24
 | .nA=>24
 | .ah=>72
 | .bool=>1
 | .aY=>8
 | .iE=>96
 | .QX=>8
 | .lW=>8
 | .QY=>8
 | .mG=>80
 | .kL=>8
 | .byte=>1
 | .QZ=>8
 | .kF=>48
 | .jk=>40
 | .kR=>88
 | .F4=>24
 | .Bv=>24
 | .sF=>96
 | .Ao=>64
 | .u64=>8
 | .Ap=>32
 | .F5=>8
def cells:(t:Ty)->Den t->List (bP Den)
 | .int,x=>[.int .i64 x]
 | .str,x=>[.str x]
 | .dw,x=>[.slice .str x]
 | .nA,x=>[.slice .ah x]
 | .ah,x=>[.int .i64 x.kind,.str x.text,.slice .str x.keys,.slice .ah x.kids]
 | .bool,x=>[.bool x]
 | .aY,x=>[.int .i64 x]
 | .iE,x=>[.int .i64 x.n.kind,.str x.n.text,.slice .str x.n.keys,.slice .ah x.n.kids,.str x.path,.int .i64 x.e]
 | .QX,x=>[.raw (.func (.func x) #[] #[])]
 | .lW,x=>[.raw (.func (.func x) #[] #[])]
 | .QY,x=>[.raw (.func (.func x) #[] #[])]
 | .mG,x=>[.int .i64 x.n.kind,.str x.n.text,.slice .str x.n.keys,.slice .ah x.n.kids,.bool x.bad]
 | .kL,x=>[.int .i64 x.left]
 | .byte,x=>[.int .u8 x]
 | .QZ,x=>[.raw (.func (.func x) #[] #[])]
 | .kF,x=>[.str x.host,.int .i64 x.out,.int .i64 x.iW,.str x.proto]
 | .jk,x=>[.str x.source,.str x.target,.bool x.readOnly]
 | .kR,x=>[.int .i64 x.n.kind,.str x.n.text,.slice .str x.n.keys,.slice .ah x.n.kids,.int .i64 x.left,.bool x.bad]
 | .F4,x=>[.slice .byte x]
 | .Bv,x=>[.int .i64 x.long,.str x.name]
 | .sF,x=>[.int .i64 x.e0.long,.str x.e0.name,.int .i64 x.e1.long,.str x.e1.name,.int .i64 x.e2.long,.str x.e2.name,.int .i64 x.e3.long,.str x.e3.name]
 | .Ao,x=>[.str x.e0,.str x.e1,.str x.e2,.str x.e3]
 | .u64,x=>[.int .u64 x]
 | .Ap,x=>[.int .i64 x.e0,.int .i64 x.e1,.int .i64 x.e2,.int .i64 x.e3]
 | .F5,x=>[.int .u64 x]
def dec:DecidableEq Ty:=inferInstance
def fold:(t:Ty)->List (bP Den)->Option (Den t)
 | .int,cs=>rd cs (qU .i64) fun y c=>rn c y
 | .str,cs=>rd cs (uW) fun y c=>rn c y
 | .dw,cs=>rd cs (OZ dec .str) fun y c=>rn c y
 | .nA,cs=>rd cs (OZ dec .ah) fun y c=>rn c y
 | .ah,cs=>rd cs (qU .i64) fun y0 c=>rd c (uW) fun y1 c=>rd c (OZ dec .str) fun y2 c=>rd c (OZ dec .ah) fun y3 c=>rn c (⟨y0,y1,y2,y3⟩:Node)
 | .bool,cs=>rd cs (dBl) fun y c=>rn c y
 | .aY,cs=>rd cs (qU .i64) fun y c=>rn c y
 | .iE,cs=>rd cs (qU .i64) fun y0 c=>rd c (uW) fun y1 c=>rd c (OZ dec .str) fun y2 c=>rd c (OZ dec .ah) fun y3 c=>rd c (uW) fun y4 c=>rd c (qU .i64) fun y5 c=>rn c (⟨(⟨y0,y1,y2,y3⟩:Node),y4,y5⟩:jr)
 | .QX,cs=>rd cs (dFn) fun y c=>rn c y
 | .lW,cs=>rd cs (dFn) fun y c=>rn c y
 | .QY,cs=>rd cs (dFn) fun y c=>rn c y
 | .mG,cs=>rd cs (qU .i64) fun y0 c=>rd c (uW) fun y1 c=>rd c (OZ dec .str) fun y2 c=>rd c (OZ dec .ah) fun y3 c=>rd c (dBl) fun y4 c=>rn c (⟨(⟨y0,y1,y2,y3⟩:Node),y4⟩:form)
 | .kL,cs=>rd cs (qU .i64) fun y0 c=>rn c (⟨y0⟩:budget)
 | .byte,cs=>rd cs (qU .u8) fun y c=>rn c y
 | .QZ,cs=>rd cs (dFn) fun y c=>rn c y
 | .kF,cs=>rd cs (uW) fun y0 c=>rd c (qU .i64) fun y1 c=>rd c (qU .i64) fun y2 c=>rd c (uW) fun y3 c=>rn c (⟨y0,y1,y2,y3⟩:Port)
 | .jk,cs=>rd cs (uW) fun y0 c=>rd c (uW) fun y1 c=>rd c (dBl) fun y2 c=>rn c (⟨y0,y1,y2⟩:fZ)
 | .kR,cs=>rd cs (qU .i64) fun y0 c=>rd c (uW) fun y1 c=>rd c (OZ dec .str) fun y2 c=>rd c (OZ dec .ah) fun y3 c=>rd c (qU .i64) fun y4 c=>rd c (dBl) fun y5 c=>rn c (⟨(⟨y0,y1,y2,y3⟩:Node),y4,y5⟩:field)
 | .F4,cs=>rd cs (OZ dec .byte) fun y c=>rn c y
 | .Bv,cs=>rd cs (qU .i64) fun y0 c=>rd c (uW) fun y1 c=>rn c (⟨y0,y1⟩:xY)
 | .sF,cs=>rd cs (qU .i64) fun y0 c=>rd c (uW) fun y1 c=>rd c (qU .i64) fun y2 c=>rd c (uW) fun y3 c=>rd c (qU .i64) fun y4 c=>rd c (uW) fun y5 c=>rd c (qU .i64) fun y6 c=>rd c (uW) fun y7 c=>rn c (⟨(⟨y0,y1⟩:xY),(⟨y2,y3⟩:xY),(⟨y4,y5⟩:xY),(⟨y6,y7⟩:xY)⟩:Ut)
 | .Ao,cs=>rd cs (uW) fun y0 c=>rd c (uW) fun y1 c=>rd c (uW) fun y2 c=>rd c (uW) fun y3 c=>rn c (⟨y0,y1,y2,y3⟩:aaN)
 | .u64,cs=>rd cs (qU .u64) fun y c=>rn c y
 | .Ap,cs=>rd cs (qU .i64) fun y0 c=>rd c (qU .i64) fun y1 c=>rd c (qU .i64) fun y2 c=>rd c (qU .i64) fun y3 c=>rn c (⟨y0,y1,y2,y3⟩:aaO)
 | .F5,cs=>rd cs (qU .u64) fun y c=>rn c y
def dflt:(t:Ty)->Den t
 | .int=>(0:Int)
 | .str=>[]
 | .dw=>[]
 | .nA=>[]
 | .ah=>⟨(0:Int),[],[],[]⟩
 | .bool=>false
 | .aY=>(0:Int)
 | .iE=>⟨⟨(0:Int),[],[],[]⟩,[],(0:Int)⟩
 | .QX=>(0:Nat)
 | .lW=>(0:Nat)
 | .QY=>(0:Nat)
 | .mG=>⟨⟨(0:Int),[],[],[]⟩,false⟩
 | .kL=>⟨(0:Int)⟩
 | .byte=>(0:Int)
 | .QZ=>(0:Nat)
 | .kF=>⟨[],(0:Int),(0:Int),[]⟩
 | .jk=>⟨[],[],false⟩
 | .kR=>⟨⟨(0:Int),[],[],[]⟩,(0:Int),false⟩
 | .F4=>[]
 | .Bv=>⟨(0:Int),[]⟩
 | .sF=>⟨⟨(0:Int),[]⟩,⟨(0:Int),[]⟩,⟨(0:Int),[]⟩,⟨(0:Int),[]⟩⟩
 | .Ao=>⟨[],[],[],[]⟩
 | .u64=>(0:Int)
 | .Ap=>⟨(0:Int),(0:Int),(0:Int),(0:Int)⟩
 | .F5=>(0:Int)
def V8:(t:Ty)->Option (Den t->Int)
 | .byte=>some fun x=>x
 | _=>none
theorem V9:∀t f,V8 t=some f->∀x,cells t x=[.int .u8 (f x)]:=by intro t f h x;cases t<;>first | (cases h;rfl) | cases h
def Wh:(t:Ty)->Option (Int->Den t)
 | .byte=>some fun x=>x
 | _=>none
theorem Ql:∀t g,Wh t=some g->∀n,cells t (g n)=[.int .u8 n]:=by intro t g h n;cases t<;>first | (cases h;rfl) | cases h
theorem vW:∀t cs x,fold t cs=some x->KZ cs (cells t x):=by
 intro t cs x h;cases t<;>(
  repeat obtain⟨_,_,_,rfl,_,h⟩:=aAE h
  obtain⟨rfl,rfl⟩:=aAF h
  repeat' (first | exact trivial | exact aym ‹_› | exact ayn ‹_› | exact aAJ ‹_› | exact aAK ‹_› | exact aAI ‹_› | exact ayk ‹_› | exact ayl ‹_› | constructor))
theorem OP:∀i t,code i=some t->i=tid t:=by intro i t h;unfold code at h;split at h<;>first | (cases h;rfl) | cases h
theorem EI:∀t, ∃i z,Tryz.prog.info? (tid t)=some i/\i.size=size t/\i.bytes=bytes t/\i.zero=some z/\z.cells.size=size t:=by intro t;refine ayj ?_ rfl;cases t<;>kernel_rfl
theorem ag3:∀t,FK Tryz.prog (tid t)=agg t:=by intro t;cases t<;>kernel_rfl
theorem ag4:∀t,(Tryz.prog.underlying (tid t)).isSome=true:=by intro t;cases t<;>kernel_rfl
abbrev E:Env Tryz.prog where
 Ty:=Ty
 dec:=dec
 Den:=Den
 tid:=tid
 code:=code
 agg:=agg
 size:=size
 bytes:=bytes
 cells:=cells
 fold:=fold
 OP:=OP
 EI:=EI
 ag3:=ag3
 ag4:=ag4
 size_pos:=by intro t;cases t<;>decide
 MV:=by intro t;cases t<;>decide
 one:=by intro t h;cases t<;>first | rfl | cases h
 ji:=by intro t x;cases t<;>rfl
 dflt:=dflt
 vW:=vW
 V8:=V8
 Wh:=Wh
 V9:=V9
 Ql:=Ql
theorem mix:Tryz.prog.follows .mixedOrders=true:=by kernel_rfl
def au(n:Int):Int:=IntKind.wrap .i64 n
def aj(x:Node):Node:=⟨x.kind,x.text,x.keys,x.kids⟩
theorem aV(x:Node):aj x=x:=by cases x;rfl
instance:Df Node:=⟨dflt .ah⟩
instance:Df jr:=⟨dflt .iE⟩
instance:Df form:=⟨dflt .mG⟩
instance:Df budget:=⟨dflt .kL⟩
instance:Df Port:=⟨dflt .kF⟩
instance:Df fZ:=⟨dflt .jk⟩
instance:Df field:=⟨dflt .kR⟩
instance:Df xY:=⟨dflt .Bv⟩
instance:Df Ut:=⟨dflt .sF⟩
instance:Df aaN:=⟨dflt .Ao⟩
instance:Df aaO:=⟨dflt .Ap⟩
theorem aU{n:Int}(h : -9223372036854775808<=n)(h':n<=9223372036854775807):au n=n:=by unfold au;rw[IntKind.wrap_i64];omega
theorem gd{α:Type}(l:List α)(d:α)(i:Nat)(h:i<l.length):List.getD l (Int.toNat (i:Int)) d=l[i]:=by rw[aam,List.getD,aac h];rfl
theorem d0(i:Nat):decide ((0:Int)<=(i:Int))=true:=by simp
theorem zQ{i n:Nat}(h:i<n):decide ((i:Int)<(n:Int))=true:=by simp only[abK];omega
theorem Jt{i n:Nat}(h:n<=i):decide ((i:Int)<(n:Int))=false:=by simp only[decide_eq_false_iff_not];omega
theorem dT{p:Prop}[Decidable p](h:p):decide p=true:=decide_eq_true h
theorem dF{p:Prop}[Decidable p](h:¬ p):decide p=false:=decide_eq_false h
theorem iI{a b:Int}(h:a≠b):(a != b)=true:=by simpa using h
theorem kg{a b:Int}(h:a=b):(a != b)=false:=by simp[h]
theorem iX{a b:Int}(h:a=b):(a==b)=true:=by simp[h]
theorem dP{a b:Int}(h:a≠b):(a==b)=false:=by simpa using h
theorem mb:aB=140737488355328:=rfl
theorem ays{w:World}{ro:Nat->Nat->Prop}{u:Value}{x:anP}(h:dU E w ro u (.str x)):u=encStr x:=by cases h;rfl
theorem ah4{w:World}{ro:Nat->Nat->Prop}{xs:List Value}{l:List (anP)}(hl:xs.length=l.length)(h:mX E w ro .str xs l):xs=l.map encStr:=by
 apply List.ext_getElem?;intro i;by_cases hi:i<l.length
 ·obtain⟨u,hu,hd⟩:=h i l[i] 0 (.str l[i]) (aac hi) rfl;have hu:xs[i*1+0]? = some u:=hu;rw[afc,ahO]at hu;rw[hu,ays hd];simp[hi]
 ·rw[List.getElem?_eq_none (by omega),List.getElem?_eq_none (by simp;omega)]
theorem HV{w:World}{ro:Nat->Nat->Prop}(l:List (anP)):mX E w ro .str (l.map encStr) l:=by
 intro i x j c hx hc;have hc:([.str x]:List (bP E.Den))[j]? = some c:=hc;cases j with
 | zero =>simp at hc;subst hc;refine⟨encStr x,?_,.str x⟩;show(l.map encStr)[i*1+0]? = some (encStr x);rw[afc,ahO,adZ,show l[i]? = some x from hx];rfl
 | succ j=>simp at hc
def yL(l:List (anP)):Bool:=decide (l.length<=1000000)
noncomputable def arW:XH E:=apd (E:=E) .str false yL Pl.uJ
def ah5:FuncId:=62
theorem au3:∃fn,Tryz.prog.funcs[ah5]? = some fn/\(fn.name == "runtime.NumGoroutine")=false/\fn.body.isNone=false:=⟨Tryz.f62,by kernel_rfl,by kernel_rfl,by kernel_rfl⟩
noncomputable def aew:XH E:=apd (E:=E) .str true yL Lib.compact
def XP:FuncId:=63
theorem akZ:∃fn,Tryz.prog.funcs[XP]? = some fn/\(fn.name == "runtime.NumGoroutine")=false/\fn.body.isNone=false:=⟨Tryz.f63,by kernel_rfl,by kernel_rfl,by kernel_rfl⟩
theorem aex:Pl.uJ []=[]:=by simp[Pl.uJ]
theorem au4:agz E ah5 arW:=by
 refine⟨au3,fun t l rest back l' h=>?_⟩;obtain⟨l,e1,hr,hb,hok,e2⟩:=ahP h;cases e1;cases e2;subst hr;subst hb;have hok:yL l=true:=hok;simp only[yL,abK]at hok;intro w ro gh xs vals hn hge hgs hown hrow iy hargs kP
 match vals,hargs with
 | [],_ =>
 have hlen:(Pl.uJ l).length=l.length:=Pl.Us l;rcases hown with⟨hown,hblk⟩ | ⟨h0,hxs,hblk,ad,hv⟩
 ·have hx1:xs.length=l.length:=by rw[hown.1,hgs,hn];show l.length*1=_;omega
  have hxs:=ah4 hx1 hrow;rcases hown.2 with⟨hnil,hn0⟩ | ⟨g,cap,cur,hgv,hbase,hb,h1,h2,h3,h4⟩
  ·have hl0:l=[]:=aeI (by omega);subst hl0;rw[hnil,aex];refine(Tryz.slices_Sort_string_none none 0 w).mono fun e w' he=>?_
   obtain⟨rfl,rfl⟩:=he;refine⟨_,gh,[],rfl,⟨rfl,rfl,rfl,abH _,fun _ _ _=>rfl⟩,hn,hge,hgs,.inl ⟨?_,hblk⟩,HV [],fun g hg=>.inl hg,(fun h=>by cases h),fun _=>rfl⟩;rw[hnil,hn0];exact World.ownsRow_nil _ 0 _ _
  ·rw[hgv,hn];rw[hge]at hb;have hsz:gh.sz=1:=hgs;rw[hsz,afc]at h3;rw[hsz,afc,hn,hxs]at h4;refine(Tryz.slices_Sort_string g 0 cap l w (holds_of_block hb h4) (Array.getElem?_eq_some_iff.1 hb).1 (by omega)).mono fun e w' he=>?_
   obtain⟨rfl,n,os,rfl⟩:=he;have hg2:gh.blk=some g:=by rw[hblk,hgv];rfl
   refine⟨_,gh,(Pl.uJ l).map encStr,rfl,by rw[hg2];exact grownBy_sorted _,by rw[hlen];exact hn,hge,hgs,.inl ⟨?_,hblk⟩,HV _,fun g hg=>.inl hg,(fun h=>by cases h),fun _=>rfl⟩;rw[hgv,hn,hge,hsz];exact ownsRow_sorted (ts:=Pl.uJ l) hlen (aas _) hb (by omega) h2 (by rw[h3,afc])
 ·have hl0:l=[]:=aeI (by omega);subst hl0;rw[hv,aex];refine(Tryz.slices_Sort_string_none ad 0 w).mono fun e w' he=>?_
  obtain⟨rfl,rfl⟩:=he;exact⟨_,gh,[],rfl,⟨rfl,rfl,rfl,abH _,fun _ _ _=>rfl⟩,hn,hge,hgs,.inr ⟨h0,rfl,hblk,ad,hv⟩,HV [],fun g hg=>.inl hg,(fun h=>by cases h),fun _=>rfl⟩
theorem acD{w:World}{base g cap n m:Nat}{e:TypeId}{xs:List Value}(h:w.ownsRow base e 1 (.slice (some ⟨g,0,none⟩) n cap) n xs)(hm:m<=n):w.ownsRow base e 1 (.slice (some ⟨g,0,none⟩) m cap) m (xs.take m):=by
 obtain⟨h1,h2⟩:=h;refine⟨by rw[aeb];omega,.inr ?_⟩;rcases h2 with⟨h2,_⟩ | ⟨g',cap',cur,h2,h3,h4,h5,h6,h7,h8⟩
 ·cases h2
 ·cases h2;exact⟨g,cap,cur,rfl,h3,h4,by omega,h6,h7,by rw[<- h8,List.take_take,afc,afc,Nat.min_eq_left hm]⟩
theorem ak0:agz E XP aew:=by
 refine⟨akZ,fun t l rest back l' h=>?_⟩;obtain⟨l,e1,hr,hb,hok,e2⟩:=ahP h;cases e1;cases e2;subst hr;subst hb;have hok:yL l=true:=hok;simp only[yL,abK]at hok;intro w ro gh xs vals hn hge hgs hown hrow iy hargs kP
 match vals,hargs with
 | [],_ =>
 have hlen:=Pl.XO l;rcases hown with⟨hown,hblk⟩ | ⟨h0,hxs,hblk,ad,hv⟩
 ·have hx1:xs.length=l.length:=by rw[hown.1,hgs,hn];show l.length*1=_;omega
  have hxs:=ah4 hx1 hrow;rcases hown.2 with⟨hnil,hn0⟩ | ⟨g,cap,cur,hgv,hbase,hb,h1,h2,h3,h4⟩
  ·have hl0:l=[]:=aeI (by omega);subst hl0;rw[hnil];refine(Tryz.slices_Compact_string_empty none 0 w).mono fun e w' he=>?_
   obtain⟨rfl,rfl⟩:=he;refine⟨_,gh,[],rfl,⟨rfl,rfl,rfl,abH _,fun _ _ _=>rfl⟩,hn,hge,hgs,.inl ⟨?_,hblk⟩,HV [],fun g hg=>.inl hg,(fun _=>hnil.symm),(fun h=>by cases h)⟩;rw[hnil,hn0];exact World.ownsRow_nil _ 0 _ _
  ·rw[hgv,hn];rw[hge]at hb;have hsz:gh.sz=1:=hgs;rw[hsz,afc]at h3;rw[hsz,afc,hn,hxs]at h4;have hcap:l.length<=cap:=by omega
   refine(Tryz.slices_Compact_string g 0 cap l w (holds_of_block hb h4) (by omega) hcap).mono fun e w' he=>?_
   obtain⟨rfl,q,rfl⟩:=he;have hg2:gh.blk=some g:=by rw[hblk,hgv];rfl
   have hts:(Lib.compact l++List.replicate (l.length-(Lib.compact l).length) []).length=l.length:=by simp;omega
   have hown':=ownsRow_sorted (n:=q) (os:=#[]) (ts:=Lib.compact l++List.replicate (l.length-(Lib.compact l).length) []) hts (aas g) hb hcap h2 (by rw[h3,afc]);rw[Sort.grow_empty]at hown';have hgb:=grownBy_sorted (w:=w) (g:=g) (n:=q) (os:=#[]) (Lib.compact l++List.replicate (l.length-(Lib.compact l).length) []).toArray;rw[Sort.grow_empty]at hgb;have hp:=acD hown' hlen;rw[List.map_append,List.take_left' (by simp)]at hp;exact⟨_,⟨.slice (some ⟨g,0,none⟩) (Lib.compact l).length cap,(Lib.compact l).length,E.tid .str,E.size .str,some g⟩,(Lib.compact l).map encStr,rfl,by rw[hg2];exact hgb,rfl,rfl,rfl,.inl ⟨hp,rfl⟩,HV _,
    (fun g' hg'=>.inl (by rw[hg2];exact hg')),(fun _=>rfl),(fun h=>by cases h)⟩
 ·have hl0:l=[]:=aeI (by omega);subst hl0;rw[hv];refine(Tryz.slices_Compact_string_empty ad 0 w).mono fun e w' he=>?_
  obtain⟨rfl,rfl⟩:=he;exact⟨_,gh,[],rfl,⟨rfl,rfl,rfl,abH _,fun _ _ _=>rfl⟩,hn,hge,hgs,.inr ⟨h0,rfl,hblk,ad,hv⟩,HV [],fun g hg=>.inl hg,(fun _=>hv.symm),(fun h=>by cases h)⟩
def pE{α:Type}(l:List α):Bool:=decide (l.length<=1000000)
theorem wm{α:Type}{l:List α}:pE l=true↔l.length<=1000000:=by simp[pE]
def Aq(s:anP):Nat->List (anP)->Int
 | _,[]=>-1
 | i,a::t=>if s=a then i else Aq s (i+1) t
def index(l:List (anP))(s:anP):Int:=Aq s 0 l
noncomputable def acE:jq E:=FY (E:=E) .dw .str .int (fun l _=>pE l) index
def ah6:FuncId:=193
noncomputable def acF:aI E:=jX [] [] [] []
noncomputable def amK:Hint E:={ live:=[(0,[0,1,7,8])] }
noncomputable def Lj(v0:List (anP))(v1:anP)(v2 v3:Int):av E:=av.mk 19 [(0,.d (.slice .str v0)),(1,.d (.str v1)),(7,.d (.int .i64 v2)),(8,.d (.int .i64 v3))] [] 0
noncomputable def amL(G:Nat->av E->Option (List (TV E)))(x0:List (anP))(x1:anP):Option (List (TV E)) :=
 G 0 (Lj x0 x1 (x0.length:Int) 0)
theorem ayt(G:Nat->av E->Option (List (TV E)))(x0:List (anP))(x1:anP):jK acF amK G Tryz.f193 [⟨.dw,x0⟩,⟨.str,x1⟩]=amL G x0 x1:=by kernel_rfl
noncomputable def Q5(G:Nat->av E->Option (List (TV E)))(v0:List (anP))(v1:anP)(v2 v3:Int):Option (List (TV E)) :=
 bif(decide (v3<v2))then(bif(decide ((0:Int)<=v3)&&decide (v3<(v0.length:Int)))then(bif(v1==(List.getD v0 (Int.toNat v3) (dflt .str)))then some [⟨.int,v3⟩]else G 0 (Lj v0 v1 v2 (au (v3+(1:Int)))))else none)else some [⟨.int,(-1:Int)⟩]
theorem au5(G:Nat->av E->Option (List (TV E)))(v0:List (anP))(v1:anP)(v2 v3:Int):uV acF amK G Tryz.f193 0 (Lj v0 v1 v2 v3)=Q5 G v0 v1 v2 v3:=by kernel_rfl
theorem ayu:Tryz.prog.funcs[193]? = some Tryz.f193:=by kernel_rfl
theorem ayv:(Tryz.f193.name == "runtime.NumGoroutine")=false:=by kernel_rfl
theorem ayw:Tryz.f193.body.isNone=false:=by kernel_rfl
theorem ah7:aL E acF:=gu .nil .nil .nil .nil
theorem ah8{res:List (TV E)}{v0:List (anP)}{v1:anP}{v2 v3:Int}(h:Q5 (Gr E Tryz.f193 res) v0 v1 v2 v3=some res):Ev E Tryz.f193 res 0 (Lj v0 v1 v2 v3):=Ev.step ah7 mix ((au5 _ v0 v1 v2 v3).trans h)
theorem ak1(h:∀(x0:List (anP)) (x1:anP),(fun l _=>pE l) x0 x1=true->amL (Gr E Tryz.f193 [⟨.int,index x0 x1⟩]) x0 x1=some [⟨.int,index x0 x1⟩]):bE E ah6 acE:=Jr ah7 mix ayu ayv ayw (fun x0 x1 hk=>(ayt _ x0 x1).trans (h x0 x1 hk))
theorem aps(l:List (anP))(s:anP)(hl:l.length<=1000000):∀(m i:Nat),l.length-i=m->i<=l.length->Ev E Tryz.f193 [⟨.int,Aq s i (l.drop i)⟩] 0 (Lj l s l.length i):=by
 intro m
 induction m with
 | zero =>intro i h1 h2;refine ah8 ?_;simp only[Q5,Jt (show l.length<=i by omega),cond_false,aa7 (show l.length<=i by omega)];rfl
 | succ m ih =>
  intro i h1 h2;have hi:i<l.length:=by omega
  refine ah8 ?_;simp only[Q5,zQ hi,d0,gd l _ i hi,abW,cond_true];rw[<- aa8 hi];unfold Aq;by_cases hs:s=l[i]
  ·rw[if_pos hs,show(s==l[i])=true from by simpa using hs];rfl
  ·rw[if_neg hs,show(s==l[i])=false from by simpa using hs,cond_false,aU (by omega) (by omega)];exact gK (ih (i+1) (by omega) (by omega))
theorem au6:bE E ah6 acE:=ak1 fun l s hk=>by have:=aps l s (wm.1 hk) l.length 0 (by omega) (by omega);rw[aeh]at this;exact gK this
def equal(a b:List (anP)):Bool:=a==b
def lens(l:List (List (anP))):Nat:=(l.map List.length).sum
noncomputable def Ju:jq E:=EM (E:=E) .dw .dw pE Pl.bn
def aaP:FuncId:=26
noncomputable def aey:aI E:=jX [] [] [(63,aew),(62,arW)] []
noncomputable def arX:Hint E:={}
noncomputable def Uu(_G:Nat->av E->Option (List (TV E)))(x0:List (anP)):Option (List (TV E)) :=
 bif(decide ((([]:List (anP)).length+x0.length)*16<=aB))then(bif(yL (([]:List (anP))++x0))then(bif(yL (Pl.uJ (([]:List (anP))++x0)))then some [⟨.dw,(Lib.compact (Pl.uJ (([]:List (anP))++x0)))⟩]else none)else none)else none
theorem arY(G:Nat->av E->Option (List (TV E)))(x0:List (anP)):jK aey arX G Tryz.f26 [⟨.dw,x0⟩]=Uu G x0:=by kernel_rfl
theorem arZ:Tryz.prog.funcs[26]? = some Tryz.f26:=by kernel_rfl
theorem ar0:(Tryz.f26.name == "runtime.NumGoroutine")=false:=by kernel_rfl
theorem ar1:Tryz.f26.body.isNone=false:=by kernel_rfl
theorem apt:aL E aey:=gu .nil .nil (.cons ak0 (.cons au4 .nil)) .nil
theorem afw(h:∀(x0:List (anP)),pE x0=true->Uu (Gr E Tryz.f26 [⟨.dw,Pl.bn x0⟩]) x0=some [⟨.dw,Pl.bn x0⟩]):bE E aaP Ju:=Al apt mix arZ ar0 ar1 (fun x0 hk=>(arY _ x0).trans (h x0 hk))
theorem Q6:bE E aaP Ju:=afw fun l hk=>by
 have hl:=wm.1 hk;have h1:yL (([]:List (anP))++l)=true:=by simpa[yL]using hl
 have h2:yL (Pl.uJ (([]:List (anP))++l))=true:=by simp only[yL,abK,Pl.Us];simpa using hl
 simp only[Uu,h1,h2,cond_true];rw[dT (show(([]:List (anP)).length+l.length)*16<=aB by rw[mb,List.length_nil];omega)];rfl
def both(a b:List (anP)):List (anP):=Pl.bn (a++b)
noncomputable def apu:jq E:=FY (E:=E) .dw .str .int (fun l _=>pE l) index
def ar2:FuncId:=146
noncomputable def awV:aI E:=jX [(193,acE)] [] [] []
noncomputable def aC2:Hint E:={}
noncomputable def apv(_G:Nat->av E->Option (List (TV E)))(x0:List (anP))(x1:anP):Option (List (TV E)) :=
 bif((fun l _=>pE l) x0 x1)then some [⟨.int,(index x0 x1)⟩]else none
theorem aC3(G:Nat->av E->Option (List (TV E)))(x0:List (anP))(x1:anP):jK awV aC2 G Tryz.f146 [⟨.dw,x0⟩,⟨.str,x1⟩]=apv G x0 x1:=by kernel_rfl
theorem aC4:Tryz.prog.funcs[146]? = some Tryz.f146:=by kernel_rfl
theorem aC5:(Tryz.f146.name == "runtime.NumGoroutine")=false:=by kernel_rfl
theorem aC6:Tryz.f146.body.isNone=false:=by kernel_rfl
theorem aAT:aL E awV:=gu (.cons au6 .nil) .nil .nil .nil
theorem ar3(h:∀(x0:List (anP)) (x1:anP),(fun l _=>pE l) x0 x1=true->apv (Gr E Tryz.f146 [⟨.int,index x0 x1⟩]) x0 x1=some [⟨.int,index x0 x1⟩]):bE E ar2 apu:=Jr aAT mix aC4 aC5 aC6 (fun x0 x1 hk=>(aC3 _ x0 x1).trans (h x0 x1 hk))
theorem aAU:bE E ar2 apu:=ar3 fun l s hk=>by simp only[apv,hk,cond_true]
theorem Ll{w:World}{ro:Nat->Nat->Prop}{v:Value}{s:anP}(h:uU E w ro v Ty.str s):v = .string ⟨s.toArray⟩:=by
 rcases h with⟨ha,_⟩ | ⟨_,d,hd,hr⟩
 ·cases ha
 ·have hd:([.str s]:List (bP E.Den))=[d]:=hd;injection hd with hd _
  subst hd;cases hr;rfl
theorem ah9{w:World}{ro:Nat->Nat->Prop}{v:Value}{n:Int}(h:uU E w ro v Ty.int n):v = .int .i64 n:=by
 rcases h with⟨ha,_⟩ | ⟨_,d,hd,hr⟩
 ·cases ha
 ·have hd:([.int .i64 n]:List (bP E.Den))=[d]:=hd;injection hd with hd _
  subst hd;cases hr;rfl
theorem acG {f:FuncId} {a b t:E.Ty} {ok:E.Den a->E.Den b->Bool} {F:E.Den a->E.Den b->E.Den t} (ex:∃fn,Tryz.prog.funcs[f]? = some fn/\(fn.name == "runtime.NumGoroutine")=false/\fn.body.isNone=false) (h:∀x y,ok x y=true->EK E f [⟨a,x⟩,⟨b,y⟩] [⟨t,F x y⟩]):bE E f (FY a b t ok F) :=
 ⟨ex,fun args r hr=>by
  unfold FY at hr;split at hr
  ·split at hr
   ·rename_i x hx;split at hr
    ·rename_i y hy;injection hr with hr
     injection hr with h1 h2
     subst h2;rw[iD hx,iD hy];exact h _ _ h1
    ·cases hr
   ·cases hr
  ·cases hr⟩
def uX(s p:anP):Bool:=decide (s.length<=1000000)&&decide (p.length=1)
def ql(s p:anP):Int:=Lib.indexByte s (p.headD 0)
noncomputable def Q7:jq E:=FY (E:=E) .str .str .int uX ql
def ar4:FuncId:=195
theorem Uv:bE E ar4 Q7:=acG ⟨Tryz.f195,by kernel_rfl,by kernel_rfl,by kernel_rfl⟩ fun s p hk=>by
 simp only[uX,abG,abK]at hk;obtain⟨c,rfl⟩:∃c,p=[c]:=by
  match p,hk.2 with
  | [c],_=>exact⟨c,rfl⟩
 intro w ro vals hargs kP
 match vals,hargs with
 | [u,v],⟨h1,h2,_⟩ =>
  have e1:u = .string ⟨s.toArray⟩:=by
   rcases h1 with⟨ha,_⟩ | ⟨_,d,hd,hr⟩
   ·cases ha
   ·have hd:([.str s]:List (bP E.Den))=[d]:=hd;injection hd with hd _
    subst hd;cases hr;rfl
  have e2:v = .string ⟨[c].toArray⟩:=by
   rcases h2 with⟨ha,_⟩ | ⟨_,d,hd,hr⟩
   ·cases ha
   ·have hd:([.str [c]]:List (bP E.Den))=[d]:=hd;injection hd with hd _
    subst hd;cases hr;rfl
  subst e1;subst e2;refine(Tryz.stringslite_Index_one ⟨s.toArray⟩ c w).mono fun e w' he=>?_
  obtain⟨he,rfl⟩:=he;refine⟨_,he,Below.refl _ _,.inr ⟨rfl,.int .i64 (ql s [c]),rfl,?_⟩⟩;exact .int .i64 (Lib.indexByte s c)
theorem agD(s:anP)(c:UInt8):Lib.indexByte s c<0\/∃i:Nat,Lib.indexByte s c=i/\i<s.length:=by
 induction s with
 | nil=>exact .inl (show(-1:Int)<0 by decide)
 | cons a t ih =>
  unfold Lib.indexByte;split
  ·exact .inr ⟨0,rfl,by simp⟩
  ·rcases ih with h | ⟨i,h1,h2⟩
   ·left;split
    ·decide
    ·have:=Lib.indexByte_ge t c;rename_i hne;exfalso;have:Lib.indexByte t c = -1:=by omega
     rw[this]at hne;exact hne rfl
   ·right;split
    ·rename_i he;rw[h1]at he;have:(i:Int) = -1:=(beq_iff_eq.1 he)
     omega
    ·exact⟨i+1,by rw[h1];omega,by simp;omega⟩
def mg(s p:anP):anP:=bif decide (0<=ql s p)then s.take (ql s p).toNat else s
def qm(s p:anP):anP:=bif decide (0<=ql s p)then s.drop ((ql s p).toNat+1)else[]
def Ar(s p:anP):Bool:=decide (0<=ql s p)
noncomputable def aia:jq E:=aph (E:=E) .str .str .str .str .bool uX mg qm Ar
def amM:FuncId:=151
noncomputable def ar5:aI E:=jX [(195,Q7)] [] [] []
noncomputable def aAV:Hint E:={}
noncomputable def aib(_G:Nat->av E->Option (List (TV E)))(x0 x1:anP):Option (List (TV E)) :=
 bif(uX x0 x1)then(bif(decide ((0:Int)<=(ql x0 x1)))then(bif(decide ((0:Int)<=(0:Int))&&decide ((0:Int)<=(ql x0 x1))&&decide ((ql x0 x1)<=(x0.length:Int)))then(bif(decide ((0:Int)<=(au ((ql x0 x1)+(x1.length:Int))))&&decide ((au ((ql x0 x1)+(x1.length:Int)))<=(x0.length:Int))&&decide ((x0.length:Int)<=(x0.length:Int)))then some [⟨.str,(List.take (Int.toNat (ql x0 x1)-Int.toNat 0) (List.drop (Int.toNat 0) x0))⟩,⟨.str,(List.take (Int.toNat (x0.length:Int)-Int.toNat (au ((ql x0 x1)+(x1.length:Int)))) (List.drop (Int.toNat (au ((ql x0 x1)+(x1.length:Int)))) x0))⟩,⟨.bool,true⟩]else none)else none)else some [⟨.str,x0⟩,⟨.str,([]:anP)⟩,⟨.bool,false⟩])else none
theorem aAW(G:Nat->av E->Option (List (TV E)))(x0 x1:anP):jK ar5 aAV G Tryz.f151 [⟨.str,x0⟩,⟨.str,x1⟩]=aib G x0 x1:=by kernel_rfl
theorem aAX:Tryz.prog.funcs[151]? = some Tryz.f151:=by kernel_rfl
theorem aAY:(Tryz.f151.name == "runtime.NumGoroutine")=false:=by kernel_rfl
theorem aAZ:Tryz.f151.body.isNone=false:=by kernel_rfl
theorem ayx:aL E ar5:=gu (.cons Uv .nil) .nil .nil .nil
theorem apw(h:∀(x0:anP) (x1:anP),uX x0 x1=true->aib (Gr E Tryz.f151 [⟨.str,mg x0 x1⟩,⟨.str,qm x0 x1⟩,⟨.bool,Ar x0 x1⟩]) x0 x1=some [⟨.str,mg x0 x1⟩,⟨.str,qm x0 x1⟩,⟨.bool,Ar x0 x1⟩]):bE E amM aia:=amD ayx mix aAX aAY aAZ (fun x0 x1 hk=>(aAW _ x0 x1).trans (h x0 x1 hk))
theorem ayy:bE E amM aia:=apw fun s p hk=>by
 have hk':=hk;simp only[uX,abG,abK]at hk';obtain⟨hs,hp⟩:=hk';simp only[aib,hk,cond_true,mg,qm,Ar];rcases agD s (p.headD 0)with h | ⟨i,h1,h2⟩
 ·have h:¬ 0<=ql s p:=by unfold ql;omega
  rw[dF h];rfl
 ·have e:ql s p=(i:Int):=h1;have e3:au ((i:Int)+(p.length:Int))=((i+1:Nat):Int):=by rw[hp,aU (by omega) (by omega)];omega
  have c1:List.take (Int.toNat (i:Int)-Int.toNat 0) (List.drop (Int.toNat 0) s)=s.take (Int.toNat (i:Int)):=by simp
  have c2:List.take (Int.toNat (s.length:Int)-Int.toNat ((i+1:Nat):Int)) (List.drop (Int.toNat ((i+1:Nat):Int)) s)=s.drop (Int.toNat (i:Int)+1):=by rw[aam,aam,aam];exact aeM (by rw[abP];omega)
  rw[e,e3,c1,c2,dT (show(0:Int)<=(i:Int) by omega),dT (show(i:Int)<=(s.length:Int) by omega),dT (show(0:Int)<=((i+1:Nat):Int) by omega),dT (show((i+1:Nat):Int)<=(s.length:Int) by omega),dT (show(s.length:Int)<=(s.length:Int) by omega)];rfl
noncomputable def aic:jq E:=aph (E:=E) .str .str .str .str .bool uX mg qm Ar
def amN:FuncId:=93
noncomputable def ar6:aI E:=jX [(151,aia)] [] [] []
noncomputable def aA0:Hint E:={}
noncomputable def aie(_G:Nat->av E->Option (List (TV E)))(x0 x1:anP):Option (List (TV E)) :=
 bif(uX x0 x1)then some [⟨.str,(mg x0 x1)⟩,⟨.str,(qm x0 x1)⟩,⟨.bool,(Ar x0 x1)⟩]else none
theorem aA1(G:Nat->av E->Option (List (TV E)))(x0 x1:anP):jK ar6 aA0 G Tryz.f93 [⟨.str,x0⟩,⟨.str,x1⟩]=aie G x0 x1:=by kernel_rfl
theorem aA2:Tryz.prog.funcs[93]? = some Tryz.f93:=by kernel_rfl
theorem aA3:(Tryz.f93.name == "runtime.NumGoroutine")=false:=by kernel_rfl
theorem aA4:Tryz.f93.body.isNone=false:=by kernel_rfl
theorem ayz:aL E ar6:=gu (.cons ayy .nil) .nil .nil .nil
theorem apx(h:∀(x0:anP) (x1:anP),uX x0 x1=true->aie (Gr E Tryz.f93 [⟨.str,mg x0 x1⟩,⟨.str,qm x0 x1⟩,⟨.bool,Ar x0 x1⟩]) x0 x1=some [⟨.str,mg x0 x1⟩,⟨.str,qm x0 x1⟩,⟨.bool,Ar x0 x1⟩]):bE E amN aic:=amD ayz mix aA2 aA3 aA4 (fun x0 x1 hk=>(aA1 _ x0 x1).trans (h x0 x1 hk))
theorem ayA:bE E amN aic:=apx fun s p hk=>by simp only[aie,hk,cond_true]
theorem fO(x:Node):(⟨x.kind,x.text,x.keys,x.kids⟩:Node)=x:=by cases x;rfl
def zn:Node:=⟨0,[],[],[]⟩
def lk:List (anP)->List Node->anP->Option Node
 | a::t,v::w,k=>if k=a then some v else lk t w k
 | _,_,_=>none
def get(n:Node)(k:anP):Option Node:=if n.kind=3 then lk n.keys n.kids k else none
def aJ(n:Node)(k:anP):Node:=(get n k).getD zn
def aD(n:Node)(k:anP):Bool:=(get n k).isSome
def fit(n:Node):Bool:=decide (n.keys.length<=1000000)&&decide (n.kids.length<=1000000)&&(n.kind != 3||decide (n.keys.length=n.kids.length))
theorem rV{n:Node}:fit n=true↔(n.keys.length<=1000000/\n.kids.length<=1000000)/\(n.kind=3->n.keys.length=n.kids.length):=by
 simp only[fit,abG,amy,abK,bne_iff_ne];constructor
 ·rintro⟨h,h2⟩;exact⟨h,fun e=>h2.resolve_left (fun h=>h e)⟩
 ·rintro⟨h,h2⟩;refine⟨h,?_⟩;by_cases e:n.kind=3
  ·exact .inr (h2 e)
  ·exact .inl e
def place(n:Node)(k:anP):Int:=if n.kind=3 then index n.keys k else -1
noncomputable def Q8:jq E:=FY (E:=E) .ah .str .int (fun n _=>fit n) place
def aez:FuncId:=84
noncomputable def aif:aI E:=jX [(146,apu)] [] [] []
noncomputable def au7:Hint E:={}
noncomputable def Q9(_G:Nat->av E->Option (List (TV E)))(x0:Node)(x1:anP):Option (List (TV E)) :=
 bif(bif(x0.kind != (3:Int))then true else((x0.keys.length:Int)!=(x0.kids.length:Int)))then some [⟨.int,(-1:Int)⟩]else(bif((fun l _=>pE l) x0.keys x1)then some [⟨.int,(index x0.keys x1)⟩]else none)
theorem au8(G:Nat->av E->Option (List (TV E)))(x0:Node)(x1:anP):jK aif au7 G Tryz.f84 [⟨.ah,x0⟩,⟨.str,x1⟩]=Q9 G x0 x1:=by kernel_rfl
theorem au9:Tryz.prog.funcs[84]? = some Tryz.f84:=by kernel_rfl
theorem ava:(Tryz.f84.name == "runtime.NumGoroutine")=false:=by kernel_rfl
theorem avb:Tryz.f84.body.isNone=false:=by kernel_rfl
theorem ar7:aL E aif:=gu (.cons aAU .nil) .nil .nil .nil
theorem aii(h:∀(x0:Node) (x1:anP),(fun n _=>fit n) x0 x1=true->Q9 (Gr E Tryz.f84 [⟨.int,place x0 x1⟩]) x0 x1=some [⟨.int,place x0 x1⟩]):bE E aez Q8:=Jr ar7 mix au9 ava avb (fun x0 x1 hk=>(au8 _ x0 x1).trans (h x0 x1 hk))
theorem aeA:bE E aez Q8:=aii fun n k hk=>by
 have hf:=rV.1 hk;have h1:pE n.keys=true:=wm.2 hf.1.1;unfold place;by_cases h:n.kind=3
 ·rw[if_pos h];simp only[Q9,h1,cond_true,kg h,cond_false];rw[kg (by have:=hf.2 h;omega),cond_false]
 ·rw[if_neg h];simp only[Q9,iI h,cond_true]
theorem ar8:∀(keys:List (anP)) (kids:List Node) (k:anP) (i:Nat),keys.length=kids.length ->
  (Aq k i keys = -1/\lk keys kids k=none)\/∃(j:Nat) (h:j<kids.length),Aq k i keys=((i+j:Nat):Int)/\lk keys kids k=some kids[j]
 | [],[],k,i,_=>.inl ⟨rfl,rfl⟩
 | a::t,v::w,k,i,h=>by
  unfold Aq lk;by_cases e:k=a
  ·rw[if_pos e,if_pos e];exact .inr ⟨0,by simp,by simp,rfl⟩
  ·rw[if_neg e,if_neg e];rcases ar8 t w k (i+1) (by simpa using h)with h1 | ⟨j,hj,h1,h2⟩
   ·exact .inl h1
   ·exact .inr ⟨j+1,by simpa using hj,by rw[h1];omega,by simpa using h2⟩
 | [],_::_,_,_,h=>by simp at h
 | _::_,[],_,_,h=>by simp at h
noncomputable def aaQ:jq E:=ape (E:=E) .ah .str .ah .bool (fun n _=>fit n) aJ aD
def amO:FuncId:=85
noncomputable def ar9:aI E:=jX [(84,Q8)] [] [] []
noncomputable def aA5:Hint E:={}
noncomputable def aij(_G:Nat->av E->Option (List (TV E)))(x0:Node)(x1:anP):Option (List (TV E)) :=
 bif((fun n _=>fit n) (⟨x0.kind,x0.text,x0.keys,x0.kids⟩:Node) x1)then(bif(decide ((place ⟨x0.kind,x0.text,x0.keys,x0.kids⟩ x1)<(0:Int)))then some [⟨.ah,(⟨0,[],[],[]⟩:Node)⟩,⟨.bool,false⟩]else(bif(decide ((0:Int)<=(place ⟨x0.kind,x0.text,x0.keys,x0.kids⟩ x1))&&decide ((place ⟨x0.kind,x0.text,x0.keys,x0.kids⟩ x1)<(x0.kids.length:Int)))then some [⟨.ah,(⟨(List.getD x0.kids (Int.toNat (place ⟨x0.kind,x0.text,x0.keys,x0.kids⟩ x1)) (dflt .ah)).kind,(List.getD x0.kids (Int.toNat (place ⟨x0.kind,x0.text,x0.keys,x0.kids⟩ x1)) (dflt .ah)).text,(List.getD x0.kids (Int.toNat (place ⟨x0.kind,x0.text,x0.keys,x0.kids⟩ x1)) (dflt .ah)).keys,(List.getD x0.kids (Int.toNat (place ⟨x0.kind,x0.text,x0.keys,x0.kids⟩ x1)) (dflt .ah)).kids⟩:Node)⟩,⟨.bool,true⟩]else none))else none
theorem aA6(G:Nat->av E->Option (List (TV E)))(x0:Node)(x1:anP):jK ar9 aA5 G Tryz.f85 [⟨.ah,x0⟩,⟨.str,x1⟩]=aij G x0 x1:=by kernel_rfl
theorem aA7:Tryz.prog.funcs[85]? = some Tryz.f85:=by kernel_rfl
theorem aA8:(Tryz.f85.name == "runtime.NumGoroutine")=false:=by kernel_rfl
theorem aA9:Tryz.f85.body.isNone=false:=by kernel_rfl
theorem ayB:aL E ar9:=gu (.cons aeA .nil) .nil .nil .nil
theorem apy(h:∀(x0:Node) (x1:anP),(fun n _=>fit n) x0 x1=true->aij (Gr E Tryz.f85 [⟨.ah,aJ x0 x1⟩,⟨.bool,aD x0 x1⟩]) x0 x1=some [⟨.ah,aJ x0 x1⟩,⟨.bool,aD x0 x1⟩]):bE E amO aaQ:=amC ayB mix aA7 aA8 aA9 (fun x0 x1 hk=>(aA6 _ x0 x1).trans (h x0 x1 hk))
theorem amP:bE E amO aaQ:=apy fun n k hk=>by
 have hf:=rV.1 hk;simp only[aij,fO,hk,cond_true];by_cases h:n.kind=3
 ·have hp:place n k=Aq k 0 n.keys:=by unfold place index;rw[if_pos h]
  have hg:get n k=lk n.keys n.kids k:=if_pos h;unfold aJ aD;rw[hg,hp];rcases ar8 n.keys n.kids k 0 (hf.2 h)with⟨h1,h2⟩ | ⟨j,hj,h1,h2⟩
  ·rw[h1,h2];rfl
  ·rw[h1,h2,aeY,dF (by omega),cond_false,d0,zQ hj,abW,cond_true,gd n.kids _ j hj];rfl
 ·have hp:place n k = -1:=by unfold place;rw[if_neg h]
  have hg:get n k=none:=if_neg h;unfold aJ aD;rw[hg,hp];rfl
def Nh(f:Node->Node->Bool):List Node->List Node->Bool
 | [],[]=>true
 | a::s,b::t=>f a b&&Nh f s t
 | _,_=>false
def same:Nat->Node->Node->Bool
 | 0,_,_=>false
 | n+1,a,b=>a.kind==b.kind&&(a.text==b.text&&(a.keys==b.keys&&Nh (same n) a.kids b.kids))
def dp:Nat->Node->Bool
 | 0,_=>false
 | n+1,x=>decide (x.keys.length<=1000000)&&decide (x.kids.length<=1000000)&&x.kids.all (dp n)
theorem Lm{n:Nat}{x:Node}:dp (n+1) x=true↔(x.keys.length<=1000000/\x.kids.length<=1000000)/\∀y∈x.kids,dp n y=true:=by simp only[dp,abG,abK,afe]
def Ni(n:Nat)(a b:Node):Bool:=dp n a&&dp n b
theorem aeB{f:Node->Node->Bool}:∀{a b:List Node},a.length≠b.length->Nh f a b=false
 | [],[],h=>absurd rfl h
 | a::s,b::t,h=>by unfold Nh;rw[aeB (a:=s) (b:=t) (by simpa using h),ajC]
 | [],_::_,_=>rfl
 | _::_,[],_=>rfl
def wf(B:Nat):Nat->Node->Bool
 | 0,_=>false
 | n+1,x=>decide (x.keys.length<=B)&&decide (x.kids.length<=B)&&(x.kind != 3||decide (x.keys.length=x.kids.length))&&decide (x.text.length<=200)&&x.keys.all (fun k=>decide (k.length<=200))&&x.kids.all (wf B n)
theorem Uw{B n:Nat}{x:Node}:wf B (n+1) x=true↔x.keys.length<=B/\x.kids.length<=B/\(x.kind=3->x.keys.length=x.kids.length)/\x.text.length<=200/\(∀k∈x.keys,k.length<=200)/\∀y∈x.kids,wf B n y=true:=by
 simp only[wf,abG,amy,abK,bne_iff_ne,afe];constructor
 ·rintro⟨⟨⟨⟨⟨h1,h2⟩,h3⟩,h4⟩,h5⟩,h6⟩;exact⟨h1,h2,fun e=>h3.resolve_left (fun h=>h e),h4,h5,h6⟩
 ·rintro⟨h1,h2,h3,h4,h5,h6⟩;refine⟨⟨⟨⟨⟨h1,h2⟩,?_⟩,h4⟩,h5⟩,h6⟩;by_cases e:x.kind=3
  ·exact .inr (h3 e)
  ·exact .inl e
def wg(B:Nat):Nat->Node->Bool
 | 0,_=>false
 | n+1,x=>decide (x.keys.length<=B)&&decide (x.kids.length<=B)&&(x.kind != 3||decide (x.keys.length=x.kids.length))&&x.kids.all (wg B n)
theorem eZ{B n:Nat}{x:Node}:wg B (n+1) x=true↔x.keys.length<=B/\x.kids.length<=B/\(x.kind=3->x.keys.length=x.kids.length)/\∀y∈x.kids,wg B n y=true:=by
 simp only[wg,abG,amy,abK,bne_iff_ne,afe];constructor
 ·rintro⟨⟨⟨h1,h2⟩,h3⟩,h6⟩;exact⟨h1,h2,fun e=>h3.resolve_left (fun h=>h e),h6⟩
 ·rintro⟨h1,h2,h3,h6⟩;refine⟨⟨⟨h1,h2⟩,?_⟩,h6⟩;by_cases e:x.kind=3
  ·exact .inr (h3 e)
  ·exact .inl e
theorem Pf{B n:Nat}{x:Node}(h:wg B (n+1) x=true)(hB:B<=1000000):fit x=true:=by have:=eZ.1 h;exact rV.2 ⟨⟨by omega,by omega⟩,this.2.2.1⟩
theorem agE{B:Nat}(hB:B<=1000000):∀{n:Nat} {x:Node},wg B n x=true->dp n x=true
 | 0,_,h=>by cases h
 | n+1,x,h=>by have:=eZ.1 h;exact Lm.2 ⟨⟨by omega,by omega⟩,fun y hy=>agE hB (this.2.2.2 y hy)⟩
theorem apz{B C:Nat}(hB:B<=C):∀{n:Nat} {x:Node},wg B n x=true->wg C n x=true
 | 0,_,h=>by cases h
 | n+1,x,h=>by have:=eZ.1 h;exact eZ.2 ⟨by omega,by omega,this.2.2.1,fun y hy=>apz hB (this.2.2.2 y hy)⟩
theorem wo{B:Nat}:∀{n:Nat} {x:Node} (k:Nat),wg B n x=true->wg B (n+k) x=true
 | 0,_,_,h=>by cases h
 | n+1,x,k,h=>by have:=eZ.1 h;rw[Nat.add_right_comm];exact eZ.2 ⟨this.1,this.2.1,this.2.2.1,fun y hy=>wo k (this.2.2.2 y hy)⟩
theorem awW{B:Nat}:∀{n:Nat} {x:Node},wf B n x=true->wg B n x=true
 | 0,_,h=>by cases h
 | n+1,x,h=>by have:=Uw.1 h;exact eZ.2 ⟨this.1,this.2.1,this.2.2.1,fun y hy=>awW (this.2.2.2.2.2 y hy)⟩
theorem asa:∀{keys:List (anP)} {kids:List Node} {k:anP} {x:Node},lk keys kids k=some x->x∈kids
 | a::t,v::w,k,x,h=>by
  unfold lk at h;split at h
  ·cases h;exact aa1
  ·exact aa6 _ (asa h)
 | [],_,_,_,h=>by cases h
 | _::_,[],_,_,h=>by cases h
theorem WO:∀{keys:List (anP)} {kids:List Node} {k:anP},keys.length=kids.length->k∈keys->∃x,lk keys kids k=some x
 | a::t,v::w,k,hl,h=>by
  unfold lk;by_cases e:k=a
  ·exact⟨v,if_pos e⟩
  ·rw[if_neg e];exact WO (by simpa using hl) ((amG.1 h).resolve_left e)
 | [],_,_,_,h=>by cases h
 | _::_,[],_,hl,_=>by simp at hl
theorem xZ{a:Node}{k:anP}(h:aD a k=true):aJ a k∈a.kids:=by
 unfold aD at h;unfold aJ;cases hg:get a k with
 | none=>rw[hg]at h;cases h
 | some x =>
  unfold get at hg;split at hg
  ·exact asa hg
  ·cases hg
theorem Ux{B n:Nat}{a:Node}{k:anP}(ha:wg B (n+1) a=true)(h3:a.kind=3)(hk:k∈a.keys):aD a k=true:=by obtain⟨x,hx⟩:=WO ((eZ.1 ha).2.2.1 h3) hk;unfold aD get;rw[if_pos h3,hx];rfl
theorem Uy{B n:Nat}{a:Node}{k:anP}(ha:wg B (n+1) a=true)(h:aD a k=true):wg B n (aJ a k)=true:=(eZ.1 ha).2.2.2 _ (xZ h)
def dz(s:anP):Node:=⟨1,s,[],[]⟩
noncomputable def acH:jq E:=EM (E:=E) .str .ah (fun _=>true) dz
def aik:FuncId:=94
noncomputable def amQ:aI E:=jX [] [] [] []
noncomputable def ayC:Hint E:={}
noncomputable def amR(_G:Nat->av E->Option (List (TV E)))(x0:anP):Option (List (TV E)) :=
 some [⟨.ah,(⟨1,x0,[],[]⟩:Node)⟩]
theorem ayD(G:Nat->av E->Option (List (TV E)))(x0:anP):jK amQ ayC G Tryz.f94 [⟨.str,x0⟩]=amR G x0:=by kernel_rfl
theorem ayE:Tryz.prog.funcs[94]? = some Tryz.f94:=by kernel_rfl
theorem ayF:(Tryz.f94.name == "runtime.NumGoroutine")=false:=by kernel_rfl
theorem ayG:Tryz.f94.body.isNone=false:=by kernel_rfl
theorem avc:aL E amQ:=gu .nil .nil .nil .nil
theorem ak2(h:∀(x0:anP),amR (Gr E Tryz.f94 [⟨.ah,dz x0⟩]) x0=some [⟨.ah,dz x0⟩]):bE E aik acH:=Al avc mix ayE ayF ayG (fun x0 _=>(ayD _ x0).trans (h x0))
theorem avd:bE E aik acH:=ak2 fun _=>rfl
theorem amS(s:anP):∀(l:List (anP)) (i:Nat),Aq s i l<(i:Int)+(l.length:Int)
 | [],i=>by simp only[Aq,List.length_nil];omega
 | a::t,i=>by
  unfold Aq;split
  ·simp only[List.length_cons];omega
  ·have:=amS s t (i+1);simp only[List.length_cons];omega
def fU(n:Node)(_:anP)(_:Node):Bool:=fit ⟨3,[],n.keys,n.kids⟩
def bf(n:Node)(k:anP)(v:Node):Node:=bif(bif n.kind != 3 then n.kind != 0 else false)then n else bif decide (0<=index n.keys k)then⟨3,[],n.keys,n.kids.set (index n.keys k).toNat v⟩else⟨3,[],n.keys++[k],n.kids++[v]⟩
noncomputable def acI:jq E:=fn3 (E:=E) .ah .str .ah .ah fU bf
def ail:FuncId:=38
noncomputable def amT:aI E:=jX [(84,Q8)] [(83,O5 25),(82,O5 9)] [] []
noncomputable def ayH:Hint E:={}
noncomputable def acJ(_G:Nat->av E->Option (List (TV E)))(x0:Node)(x1:anP)(x2:Node):Option (List (TV E)) :=
 bif(bif(x0.kind != (3:Int))then(x0.kind != (0:Int))else false)then some [⟨.ah,(⟨x0.kind,x0.text,x0.keys,x0.kids⟩:Node)⟩]else(bif(decide (x0.keys.length*16<=aB))then(bif(decide (x0.kids.length*72<=aB))then(bif((fun n _=>fit n) (⟨3,[],x0.keys,x0.kids⟩:Node) x1)then(bif(decide ((0:Int)<=(place ⟨3,[],x0.keys,x0.kids⟩ x1)))then(bif(decide ((0:Int)<=(place ⟨3,[],x0.keys,x0.kids⟩ x1))&&decide ((place ⟨3,[],x0.keys,x0.kids⟩ x1)<(x0.kids.length:Nat)))then some [⟨.ah,(⟨3,[],x0.keys,(List.set x0.kids (Int.toNat (place ⟨3,[],x0.keys,x0.kids⟩ x1)) (⟨x2.kind,x2.text,x2.keys,x2.kids⟩:Node))⟩:Node)⟩]else none)else(bif(decide ((x0.keys.length+([x1]:List (anP)).length)*16<=aB))then(bif(decide ((x0.kids.length+([(⟨x2.kind,x2.text,x2.keys,x2.kids⟩:Node)]:List Node).length)*72<=aB))then some [⟨.ah,(⟨3,[],(x0.keys++([x1]:List (anP))),(x0.kids++([(⟨x2.kind,x2.text,x2.keys,x2.kids⟩:Node)]:List Node))⟩:Node)⟩]else none)else none))else none)else none)else none)
theorem ayI(G:Nat->av E->Option (List (TV E)))(x0:Node)(x1:anP)(x2:Node):jK amT ayH G Tryz.f38 [⟨.ah,x0⟩,⟨.str,x1⟩,⟨.ah,x2⟩]=acJ G x0 x1 x2:=by kernel_rfl
theorem ayJ:Tryz.prog.funcs[38]? = some Tryz.f38:=by kernel_rfl
theorem ayK:(Tryz.f38.name == "runtime.NumGoroutine")=false:=by kernel_rfl
theorem ayL:Tryz.f38.body.isNone=false:=by kernel_rfl
theorem ave:aL E amT:=gu (.cons aeA .nil) (.cons (Iz (T:=23) (b:=4) (e:=25) (fn:=Tryz.f83) (by kernel_rfl) (by kernel_rfl) (by kernel_rfl) (by kernel_rfl) (by kernel_rfl) (by kernel_rfl)) (.cons (Iz (T:=22) (b:=4) (e:=9) (fn:=Tryz.f82) (by kernel_rfl) (by kernel_rfl) (by kernel_rfl) (by kernel_rfl) (by kernel_rfl) (by kernel_rfl)) .nil)) .nil .nil
theorem ak3(h:∀(x0:Node) (x1:anP) (x2:Node),fU x0 x1 x2=true->acJ (Gr E Tryz.f38 [⟨.ah,bf x0 x1 x2⟩]) x0 x1 x2=some [⟨.ah,bf x0 x1 x2⟩]):bE E ail acI:=aaz ave mix ayJ ayK ayL (fun x0 x1 x2 hk=>(ayI _ x0 x1 x2).trans (h x0 x1 x2 hk))
theorem avf:bE E ail acI:=ak3 fun n k v hk=>by
 have hk':fit ⟨3,[],n.keys,n.kids⟩=true:=hk;obtain⟨⟨h1,h2⟩,h3⟩:=rV.1 hk';have h1:n.keys.length<=1000000:=h1;have h2:n.kids.length<=1000000:=h2;have h3:n.keys.length=n.kids.length:=h3 rfl;have ep:place ⟨3,[],n.keys,n.kids⟩ k=index n.keys k:=if_pos rfl;have hlt:index n.keys k<(n.keys.length:Int):=by have:=amS k n.keys 0;unfold index;omega
 have b1:decide (n.keys.length*16<=aB)=true:=dT (by rw[mb];omega);have b2:decide (n.kids.length*72<=aB)=true:=dT (by rw[mb];omega);have b3:decide ((n.keys.length+[k].length)*16<=aB)=true:=dT (by rw[mb,aay];omega);have b4:decide ((n.kids.length+[v].length)*72<=aB)=true:=dT (by rw[mb,aay];omega);simp only[acJ,bf,fO,hk',ep,b1,b2,b3,b4,cond_true];cases(bif n.kind != 3 then n.kind != 0 else false)with
 | true=>rfl
 | false =>
  simp only[cond_false];by_cases h0:0<=index n.keys k
  ·rw[dT h0,dT (show index n.keys k<(n.kids.length:Int) by omega)];rfl
  ·rw[dF h0];rfl
def dR:Nat->Node->Node
 | 0,x=>x
 | n+1,x=>bif(x.kids.length:Int)==0 then x else bif x.kind != 3 then⟨x.kind,x.text,[],x.kids.map (dR n)⟩else⟨x.kind,x.text,Pl.bn x.keys,(Pl.bn x.keys).map fun k=>dR n (aJ x k)⟩
noncomputable def pF(n:Nat):jq E:=EM (E:=E) .ah .ah (wg 10000 n) (dR n)
def rR:FuncId:=39
noncomputable def KE(n:Nat):aI E:=jX [(26,Ju),(85,aaQ),(39,pF n)] [] [] []
noncomputable def Ra:Hint E:={ live:=[(0,[2,3,24,25,26]),(1,[1,2,3,44,45,46])],oO:=[(0,[(3,some 3,true,.ah)]),(1,[(3,some 3,true,.ah)])] }
noncomputable def CO(v0:List Node)(v1 v2 v3:Int)(v4:anP)(v5:Int)(v6:anP)(v7:List Node):av E:=av.mk 65 [(2,.ptr 0 0),(3,.ptr 1 0),(24,.d (.slice .ah v0)),(25,.d (.int .i64 v1)),(26,.d (.int .i64 v2))] [(0,.box [.d (.int .i64 v3),.d (.str v4),.d (.raw (.slice none 0 0)),.d (.raw (.slice none 0 0))]),(1,.box [.d (.int .i64 v5),.d (.str v6),.d (.raw (.slice none 0 0)),.grow .ah v7 2]),(2,.tail true)] 3
noncomputable def CP(v0:List (anP))(v1 v2 v3:Int)(v4:anP)(v5:List (anP))(v6:List Node)(v7:Int)(v8:anP)(v9:Int)(v10:anP)(v11:List (anP))(v12:List Node):av E:=av.mk 65 [(1,.ptr 0 0),(2,.ptr 1 0),(3,.ptr 2 0),(44,.d (.slice .str v0)),(45,.d (.int .i64 v1)),(46,.d (.int .i64 v2))] [(0,.box [.d (.int .i64 v3),.d (.str v4),.d (.slice .str v5),.d (.slice .ah v6)]),(1,.box [.d (.int .i64 v7),.d (.str v8),.d (.raw (.slice none 0 0)),.d (.raw (.slice none 0 0))]),(2,.box [.d (.int .i64 v9),.d (.str v10),.d (.slice .str v11),.grow .ah v12 3]),(3,.tail true)] 4
noncomputable def Rb(_n:Nat)(G:Nat->av E->Option (List (TV E)))(x0:Node):Option (List (TV E)) :=
 bif((x0.kids.length:Int)==(0:Int))then some [⟨.ah,(⟨x0.kind,x0.text,x0.keys,x0.kids⟩:Node)⟩]else(bif(x0.kind != (3:Int))then G 0 (CO x0.kids (x0.kids.length:Int) 0 0 [] x0.kind x0.text [])else(bif(pE x0.keys)then G 1 (CP (Pl.bn x0.keys) ((Pl.bn x0.keys).length:Int) 0 x0.kind x0.text x0.keys x0.kids 0 [] x0.kind x0.text (Pl.bn x0.keys) [])else none))
theorem apA(n:Nat)(G:Nat->av E->Option (List (TV E)))(x0:Node):jK (KE n) Ra G Tryz.f39 [⟨.ah,x0⟩]=Rb n G x0:=by kernel_rfl
noncomputable def IE(n:Nat)(G:Nat->av E->Option (List (TV E)))(v0:List Node)(v1 v2 v3:Int)(v4:anP)(v5:Int)(v6:anP)(v7:List Node):Option (List (TV E)) :=
 bif(decide (v2<v1))then(bif(decide ((0:Int)<=v2)&&decide (v2<(v0.length:Int)))then(bif((wg 10000 n) (⟨(List.getD v0 (Int.toNat v2) (dflt .ah)).kind,(List.getD v0 (Int.toNat v2) (dflt .ah)).text,(List.getD v0 (Int.toNat v2) (dflt .ah)).keys,(List.getD v0 (Int.toNat v2) (dflt .ah)).kids⟩:Node))then(bif(decide ((v7.length+([((dR n) (⟨(List.getD v0 (Int.toNat v2) (dflt .ah)).kind,(List.getD v0 (Int.toNat v2) (dflt .ah)).text,(List.getD v0 (Int.toNat v2) (dflt .ah)).keys,(List.getD v0 (Int.toNat v2) (dflt .ah)).kids⟩:Node))]:List Node).length)*72<=aB))then G 0 (CO v0 v1 (au (v2+(1:Int))) v3 v4 v5 v6 (v7++([((dR n) (⟨(List.getD v0 (Int.toNat v2) (dflt .ah)).kind,(List.getD v0 (Int.toNat v2) (dflt .ah)).text,(List.getD v0 (Int.toNat v2) (dflt .ah)).keys,(List.getD v0 (Int.toNat v2) (dflt .ah)).kids⟩:Node))]:List Node)))else none)else none)else none)else some [⟨.ah,(⟨v5,v6,[],v7⟩:Node)⟩]
theorem ak4(n:Nat)(G:Nat->av E->Option (List (TV E)))(v0:List Node)(v1 v2 v3:Int)(v4:anP)(v5:Int)(v6:anP)(v7:List Node):uV (KE n) Ra G Tryz.f39 0 (CO v0 v1 v2 v3 v4 v5 v6 v7)=IE n G v0 v1 v2 v3 v4 v5 v6 v7:=by kernel_rfl
noncomputable def IG(n:Nat)(G:Nat->av E->Option (List (TV E)))(v0:List (anP))(v1 v2 v3:Int)(v4:anP)(v5:List (anP))(v6:List Node)(v7:Int)(v8:anP)(v9:Int)(v10:anP)(v11:List (anP))(v12:List Node):Option (List (TV E)) :=
 bif(decide (v2<v1))then(bif(decide ((0:Int)<=v2)&&decide (v2<(v0.length:Int)))then(bif((fun n _=>fit n) (⟨v3,v4,v5,v6⟩:Node) (List.getD v0 (Int.toNat v2) (dflt .str)))then(bif((wg 10000 n) (⟨(aJ ⟨v3,v4,v5,v6⟩ (List.getD v0 (Int.toNat v2) (dflt .str))).kind,(aJ ⟨v3,v4,v5,v6⟩ (List.getD v0 (Int.toNat v2) (dflt .str))).text,(aJ ⟨v3,v4,v5,v6⟩ (List.getD v0 (Int.toNat v2) (dflt .str))).keys,(aJ ⟨v3,v4,v5,v6⟩ (List.getD v0 (Int.toNat v2) (dflt .str))).kids⟩:Node))then(bif(decide ((v12.length+([((dR n) (⟨(aJ ⟨v3,v4,v5,v6⟩ (List.getD v0 (Int.toNat v2) (dflt .str))).kind,(aJ ⟨v3,v4,v5,v6⟩ (List.getD v0 (Int.toNat v2) (dflt .str))).text,(aJ ⟨v3,v4,v5,v6⟩ (List.getD v0 (Int.toNat v2) (dflt .str))).keys,(aJ ⟨v3,v4,v5,v6⟩ (List.getD v0 (Int.toNat v2) (dflt .str))).kids⟩:Node))]:List Node).length)*72<=aB))then G 1 (CP v0 v1 (au (v2+(1:Int))) v3 v4 v5 v6 v7 v8 v9 v10 v11 (v12++([((dR n) (⟨(aJ ⟨v3,v4,v5,v6⟩ (List.getD v0 (Int.toNat v2) (dflt .str))).kind,(aJ ⟨v3,v4,v5,v6⟩ (List.getD v0 (Int.toNat v2) (dflt .str))).text,(aJ ⟨v3,v4,v5,v6⟩ (List.getD v0 (Int.toNat v2) (dflt .str))).keys,(aJ ⟨v3,v4,v5,v6⟩ (List.getD v0 (Int.toNat v2) (dflt .str))).kids⟩:Node))]:List Node)))else none)else none)else none)else none)else some [⟨.ah,(⟨v9,v10,v11,v12⟩:Node)⟩]
theorem ak5(n:Nat)(G:Nat->av E->Option (List (TV E)))(v0:List (anP))(v1 v2 v3:Int)(v4:anP)(v5:List (anP))(v6:List Node)(v7:Int)(v8:anP)(v9:Int)(v10:anP)(v11:List (anP))(v12:List Node):uV (KE n) Ra G Tryz.f39 1 (CP v0 v1 v2 v3 v4 v5 v6 v7 v8 v9 v10 v11 v12)=IG n G v0 v1 v2 v3 v4 v5 v6 v7 v8 v9 v10 v11 v12:=by kernel_rfl
theorem aaR:Tryz.prog.funcs[39]? = some Tryz.f39:=by kernel_rfl
theorem aaS:(Tryz.f39.name == "runtime.NumGoroutine")=false:=by kernel_rfl
theorem aaT:Tryz.f39.body.isNone=false:=by kernel_rfl
theorem ak6:∃fn,Tryz.prog.funcs[39]? = some fn/\(fn.name == "runtime.NumGoroutine")=false/\fn.body.isNone=false:=⟨Tryz.f39,aaR,aaS,aaT⟩
theorem NQ(n:Nat)(ih:bE E rR (pF n)):aL E (KE n):=gu (.cons Q6 (.cons amP (.cons ih .nil))) .nil .nil .nil
theorem XQ(n:Nat)(ih:bE E rR (pF n)){res:List (TV E)}{v0:List Node}{v1 v2 v3:Int}{v4:anP}{v5:Int}{v6:anP}{v7:List Node}(h:IE n (Gr E Tryz.f39 res) v0 v1 v2 v3 v4 v5 v6 v7=some res):Ev E Tryz.f39 res 0 (CO v0 v1 v2 v3 v4 v5 v6 v7):=Ev.step (NQ n ih) mix ((ak4 n _ v0 v1 v2 v3 v4 v5 v6 v7).trans h)
theorem XR(n:Nat)(ih:bE E rR (pF n)){res:List (TV E)}{v0:List (anP)}{v1 v2 v3:Int}{v4:anP}{v5:List (anP)}{v6:List Node}{v7:Int}{v8:anP}{v9:Int}{v10:anP}{v11:List (anP)}{v12:List Node}(h:IG n (Gr E Tryz.f39 res) v0 v1 v2 v3 v4 v5 v6 v7 v8 v9 v10 v11 v12=some res):Ev E Tryz.f39 res 1 (CP v0 v1 v2 v3 v4 v5 v6 v7 v8 v9 v10 v11 v12):=Ev.step (NQ n ih) mix ((ak5 n _ v0 v1 v2 v3 v4 v5 v6 v7 v8 v9 v10 v11 v12).trans h)
theorem acK(n:Nat)(ih:bE E rR (pF n))(h:∀(x0:Node),(wg 10000 (n+1)) x0=true->Rb n (Gr E Tryz.f39 [⟨.ah,(dR (n+1)) x0⟩]) x0=some [⟨.ah,(dR (n+1)) x0⟩]):bE E rR (pF (n+1)):=Al (NQ n ih) mix aaR aaS aaT (fun x0 hk=>(apA n _ x0).trans (h x0 hk))
theorem apB(n:Nat)(ih:bE E rR (pF n))(x:Node)(hx:wg 10000 (n+1) x=true)(h3:x.kind=3)(ks:List (anP))(hks:ks.length<=10000)(hm:∀k∈ks,k∈x.keys)(u0:Int)(u1:anP)(v0:Int)(v1:anP)(v2:List (anP)) :
  ∀(m i:Nat) (ov:List Node),ks.length-i=m->i<=ks.length->ov.length=i ->
   Ev E Tryz.f39 [⟨.ah,(⟨v0,v1,v2,ov++(ks.drop i).map fun k=>dR n (aJ x k)⟩:Node)⟩] 1 (CP ks ks.length i x.kind x.text x.keys x.kids u0 u1 v0 v1 v2 ov):=by
 have fx:=Pf hx (by decide);intro m
 induction m with
 | zero =>intro i ov h1 h2 h4;refine XR n ih ?_;simp only[IG,Jt (show ks.length<=i by omega),cond_false,aa7 (show ks.length<=i by omega),abR,aha]
 | succ m ih2 =>
  intro i ov h1 h2 h4;have hi:i<ks.length:=by omega
  have e2:∀v:Node,decide ((ov.length+[v].length)*72<=aB)=true:=fun v=>dT (by rw[mb,aay];omega)
  have e3:au ((i:Int)+1)=((i+1:Nat):Int):=by rw[aU (by omega) (by omega)];omega
  have hw:wg 10000 n (aJ x ks[i])=true:=Uy hx (Ux hx h3 (hm _ (aeC hi)));refine XR n ih ?_;simp only[IG,zQ hi,d0,gd ks _ i hi,abW,cond_true,fO,fx,hw,e2,e3];have:=gK (ih2 (i+1) (ov++[dR n (aJ x ks[i])]) (by omega) (by omega) (by simp[h4]));rw[<- aa8 hi,ae6];rw[abJ]at this;exact this
theorem apC(n:Nat)(ih:bE E rR (pF n))(l:List Node)(hl:l.length<=10000)(hw:∀y∈l,wg 10000 n y=true)(u0:Int)(u1:anP)(v0:Int)(v1:anP) :
  ∀(m i:Nat) (ov:List Node),l.length-i=m->i<=l.length->ov.length=i ->
   Ev E Tryz.f39 [⟨.ah,(⟨v0,v1,[],ov++(l.drop i).map (dR n)⟩:Node)⟩] 0 (CO l l.length i u0 u1 v0 v1 ov):=by
 intro m
 induction m with
 | zero =>intro i ov h1 h2 h4;refine XQ n ih ?_;simp only[IE,Jt (show l.length<=i by omega),cond_false,aa7 (show l.length<=i by omega),abR,aha]
 | succ m ih2 =>
  intro i ov h1 h2 h4;have hi:i<l.length:=by omega
  have e2:∀v:Node,decide ((ov.length+[v].length)*72<=aB)=true:=fun v=>dT (by rw[mb,aay];omega)
  have e3:au ((i:Int)+1)=((i+1:Nat):Int):=by rw[aU (by omega) (by omega)];omega
  refine XQ n ih ?_;simp only[IE,zQ hi,d0,gd l _ i hi,abW,cond_true,fO,hw _ (aeC hi),e2,e3];have:=gK (ih2 (i+1) (ov++[dR n l[i]]) (by omega) (by omega) (by simp[h4]));rw[<- aa8 hi,ae6];rw[abJ]at this;exact this
theorem ak7(n:Nat):bE E rR (pF n):=by
 induction n with
 | zero=>exact acz ak6 fun x=>rfl
 | succ n ih =>
  refine acK n ih fun x hk=>?_
  have hw:=eZ.1 hk;have h6:pE x.keys=true:=wm.2 (by omega);simp only[Rb,dR,fO,h6,cond_true];by_cases h0:(x.kids.length:Int)=0
  ·rw[iX h0];rfl
  ·rw[dP h0,cond_false,cond_false];by_cases h3:x.kind=3
   ·rw[kg h3,cond_false,cond_false];have hs:=Pl.uK x.keys;have:=gK (apB n ih x hk h3 (Pl.bn x.keys) (by omega) (fun k hk=>Pl.kE.1 hk) 0 [] x.kind x.text (Pl.bn x.keys) _ 0 [] rfl (aas _) rfl);rw[aeh]at this;exact this
   ·rw[iI h3,cond_true,cond_true];have:=gK (apC n ih x.kids hw.2.1 hw.2.2.2 0 [] x.kind x.text _ 0 [] rfl (aas _) rfl);rw[aeh]at this;exact this
def acL(l:List (anP))(sep:anP):Bool:=decide (l.length<=1000000)&&decide ((Lib.join l sep).length<=1000000000)
noncomputable def amU:jq E:=FY (E:=E) .dw .str .str acL Lib.join
def avg:FuncId:=145
theorem avh:bE E avg amU:=acG ⟨Tryz.f145,by kernel_rfl,by kernel_rfl,by kernel_rfl⟩ fun l sep hk=>by
 simp only[acL,abG,abK]at hk;obtain⟨k1,k2⟩:=hk;intro w ro vals hargs kP
 match vals,hargs with
 | [u,v],⟨h1,h2,_⟩ =>
  rw[Ll h2];have hd:dU E w ro u (.slice .str l):=by
   rcases h1 with⟨ha,_⟩ | ⟨_,d,hd,hr⟩
   ·cases ha
   ·have hd:([.slice .str l]:List (bP E.Den))=[d]:=hd;injection hd with hd _
    subst hd;exact hr
  have none_:∀(a:Option Addr) (c:Nat),l=[]->Calls Tryz.prog 145 [.slice a 0 c,.string ⟨sep.toArray⟩].toArray w fun e w'=>∃v,e = .returned v/\Below w.heap.size w w'/\qj E w' (fun k o=>ro k o\/(w.heap.size<=k/\k<w'.heap.size)) v [⟨.str,Lib.join l sep⟩]:=fun a c hl=>by
   subst hl;refine(Tryz.strings_Join_none a c ⟨sep.toArray⟩ w).mono fun e w' he=>?_
   obtain⟨he,rfl⟩:=he;exact⟨_,he,Below.refl _ _,.inr ⟨rfl,.str [],rfl,.str []⟩⟩
  obtain⟨ad,cap,rfl,hs⟩:=hd.rQ;rcases hs with rfl | ⟨g,off,rfl,hc,f,f1,f2⟩
  ·exact none_ _ _ rfl
  ·cases l with
   | nil=>exact none_ _ _ rfl
   | cons x0 t =>
    have hcell:∀(i:Nat) x,(x0::t)[i]? = some x->ro g (off+i)/\w.cell? ⟨g,off+i,none⟩=some (.string ⟨x.toArray⟩):=fun i x hx=>by
     have g1:=f1 i x 0 (.str x) hx rfl;have g2:=f2 i x 0 (.str x) hx rfl;have e1:f i 0 = .string ⟨x.toArray⟩:=by generalize f i 0=u at g2;cases g2;rfl
     rw[show E.size .str=1 from rfl,afc,ahO,e1]at g1;exact g1
    have hmap:(((x0::t).map fun x=>(⟨x.toArray⟩:ByteArray)).map (·.data.toList))=x0::t:=by
     rw[List.map_map]
     conv=>rhs;rw[<- List.map_id (x0::t)]
     exact ajo fun y _=>by simp
    have hj:=Tryz.strings_Join g off cap ((x0::t).map fun x=>⟨x.toArray⟩) ⟨sep.toArray⟩ w (fun j x hx=>by
     rw[adZ]at hx;cases hq:(x0::t)[j]? with
     | none=>rw[hq]at hx;cases hx
     | some y=>rw[hq]at hx;cases hx;exact(hcell j y hq).2) (kP g _ (hcell 0 x0 rfl).1) (by rw[List.length_map];omega) (by rw[List.length_map];exact hc) (by rw[hmap];show(Lib.join (x0::t) sep).length<=_;omega)
    rw[hmap,List.length_map]at hj;refine hj.mono fun e w' he=>?_
    obtain⟨he,hb⟩:=he;exact⟨_,he,hb,.inr ⟨rfl,.str (Lib.join (x0::t) sep),rfl,.str _⟩⟩
theorem aC7{w:World}{ro:Nat->Nat->Prop}{u:Value}{x:Int}(h:uU E w ro u .byte x):u = .int .u8 x:=by
 rcases h with⟨ha,_⟩ | ⟨_,d,hd,hr⟩
 ·cases ha
 ·have hd:([.int .u8 x]:List (bP E.Den))=[d]:=hd;injection hd with hd _
  subst hd;cases hr;rfl
def HY(s:anP)(c:Int):Int:=Lib.indexByte s c.toNat.toUInt8
noncomputable def amV:jq E:=FY (E:=E) .str .byte .int (fun _ _=>true) HY
def avi:FuncId:=148
theorem avj:bE E avi amV:=acG ⟨Tryz.f148,by kernel_rfl,by kernel_rfl,by kernel_rfl⟩ fun s c _=>by
 intro w ro vals hargs kP
 match vals,hargs with
 | [u,v],⟨h1,h2,_⟩ =>
  rw[Ll h1,aC7 h2];refine(Tryz.strings_IndexByte ⟨s.toArray⟩ c w).mono fun e w' he=>?_
  obtain⟨he,rfl⟩:=he;exact⟨_,he,Below.refl _ _,.inr ⟨rfl,.int .i64 (HY s c),rfl,.int .i64 _⟩⟩
def qV(c:UInt8)(new:anP):anP->anP
 | []=>[]
 | b::t=>if b==c then new++qV c new t else b::qV c new t
theorem Jv(c:UInt8)(new:anP)(b:UInt8)(t:anP):qV c new (b::t)=if b==c then new++qV c new t else b::qV c new t:=rfl
theorem Uz(c b:UInt8)(t:anP):Lib.countByte (b::t) c=Lib.countByte t c+if b==c then 1 else 0:=List.count_cons
theorem acM(c:UInt8)(new:anP):∀t:anP,Lib.countByte t c=0->qV c new t=t
 | [],_=>rfl
 | b::t,h=>by
  rw[Uz]at h;rw[Jv];by_cases hb:(b==c)=true
  ·rw[if_pos hb]at h;omega
  ·rw[if_neg hb]at h ⊢;rw[acM c new t h]
theorem ain(c:UInt8)(new:anP):∀(t:anP) (g:Nat),Lib.countByte t c=g+1 ->
  ∃j:Nat,Lib.indexByte t c=j/\j<t.length/\Lib.countByte (t.drop (j+1)) c=g/\qV c new t=t.take j++new++qV c new (t.drop (j+1))
 | [],g,h=>by cases h
 | b::t,g,h=>by
  rw[Uz]at h;rw[Jv];by_cases hb:(b==c)=true
  ·rw[if_pos hb]at h;exact⟨0,by unfold Lib.indexByte;rw[if_pos hb];rfl,by simp,by show Lib.countByte t c=g;omega,by rw[if_pos hb];rfl⟩
  ·rw[if_neg hb]at h;obtain⟨j,h1,h2,h3,h4⟩:=ain c new t g h;refine⟨j+1,?_,by simp only[List.length_cons];omega,h3,?_⟩
   ·unfold Lib.indexByte;rw[if_neg hb,h1,if_neg (by simp)];rfl
   ·rw[if_neg hb,h4];rfl
theorem aio(c:UInt8)(new:anP):∀t:anP,(qV c new t).length<=t.length+Lib.countByte t c*new.length
 | []=>aas _
 | b::t=>by
  have ih:=aio c new t;rw[Jv,Uz];by_cases hb:(b==c)=true
  ·rw[if_pos hb,if_pos hb,List.length_append,List.length_cons,Nat.add_mul,Nat.one_mul];omega
  ·rw[if_neg hb,if_neg hb,ahO,List.length_cons,List.length_cons];omega
section
open Go.Shelf Go.Lib
variable {P:Program} {ρ:Ren}
set_option maxHeartbeats 16000000 in
set_option maxRecDepth 1000000 in
theorem avk(L:Lays.n154 P ρ)(X:Builder.Extra P ρ)(s new:ByteArray)(c:UInt8)(w:World)(hs:s.size<=1000000)(hn:new.size<=1000)(hne:(⟨#[c]⟩:ByteArray)≠new) :
  Calls P (ρ.f 154) #[.string s,.string ⟨#[c]⟩,.string new,.int .i64 (-1)] w fun e w'=>e = .returned (.string ⟨(qV c new.data.toList s.data.toList).toArray⟩)/\Below w.heap.size w w':=by
 obtain⟨old,hold⟩:∃o:ByteArray,o=⟨#[c]⟩:=⟨_,rfl⟩
 have hC:=Any.strings_Count_one { L with } s c w;rw[<- hold]at hC hne ⊢;have ho1:old.size=1:=by rw[hold];rfl
 obtain⟨K,hK⟩:∃K:Nat,Lib.countByte s.data.toList c=K:=⟨_,rfl⟩
 have hlenL:s.data.toList.length=s.size:=(Lib.size_eq s).symm;have hKs:K<=s.size:=by rw[<- hK,<- hlenL];exact List.count_le_length
 have hmul:K*new.size<=K*1000:=Nat.mul_le_mul_left K hn;rw[hK]at hC;have hbeq:(old.toList==new.toList)=false:=(Lib.bytes_beq_false_iff _ new).2 hne;have HO:=Any.hidR hold;clear hold hne;have t72:=L.t72;have a72:=L.a72;have z72:=L.z72;have v72:=L.v72;have u72:=run_underlying L.t72;have t70:=L.t70;have a70:=L.a70;have z70:=L.z70;have v70:=L.v70;have u70:=run_underlying L.t70;have t37:=L.t37;have a37:=L.a37;have z37:=L.z37;have v37:=L.v37;have u37:=run_underlying L.t37;have t3:=L.t3;have a3:=L.a3;have z3:=L.z3;have v3:=L.v3;have u3:=run_underlying L.t3;have t9:=L.t9;have a9:=L.a9;have z9:=L.z9;have v9:=L.v9;have u9:=run_underlying L.t9;have t4:=L.t4;have a4:=L.a4;have z4:=L.z4;have v4:=L.v4;have u4:=run_underlying L.t4;have e138:∀args w,(callFunc (ρ.f 138) args).run P w = .ok (.enter (ρ.f 138) args) w:=enters_of L.f138 (by kernel_rfl) rfl;by_cases hK0:K=0
 ·subst hK0;have hR:qV c new.data.toList s.data.toList=s.data.toList:=acM c _ _ hK;clear hK hmul hKs
  go_enter L.f154,Body.n154_ntmps ρ
  go_wp2_with (first | (go_at_fn (ρ.f 138);refine hC.mono ?_;rintro e w' ⟨rfl,hw⟩;rw[hw]))
  go_ret
  rw[hR,Lib.mk_data];exact⟨rfl,Below.refl _ _⟩
 ·have hcz:((K:Int)==0)=false:=afb.2 (by omega);have mixed:=L.mixed;have hga:=Lib.grow_arg s.size K new.size 1 (by omega) (by omega) (by omega);have e143:∀args w,(callFunc (ρ.f 143) args).run P w = .ok (.enter (ρ.f 143) args) w:=enters_of L.f143 (by kernel_rfl) rfl;have e165:∀args w,(callFunc (ρ.f 165) args).run P w = .ok (.enter (ρ.f 165) args) w:=enters_of L.f165 (by kernel_rfl) rfl;have e166:∀args w,(callFunc (ρ.f 166) args).run P w = .ok (.enter (ρ.f 166) args) w:=enters_of L.f166 (by kernel_rfl) rfl;have e169:∀args w,(callFunc (ρ.f 169) args).run P w = .ok (.enter (ρ.f 169) args) w:=enters_of L.f169 (by kernel_rfl) rfl;have HK:=Any.hidR hK;clear hK hK0
  go_enter L.f154,Body.n154_ntmps ρ
  go_wp2_with (first | (go_at_fn (ρ.f 138);refine hC.mono ?_;rintro e w' ⟨rfl,hw⟩;rw[hw]))
  clear hC;have hgb:(0:Int)<=(new.size:Int)/\(new.size:Int)<=1000:=by omega
  have aBa:wrap64 ((s.size:Int)+wrap64 ((K:Int)*((new.size:Int)-1)))=((s.size+K*new.size-K:Nat):Int):=by rw[show((1:Nat):Int)=1 from rfl,IntWalk.wrap64_in ((new.size:Int)-1) ⟨by omega,by omega⟩,afc]at hga;exact hga
  rw[aBa];clear hga aBa hgb;refine(Any.Builder_Grow_fresh { L with } X w.heap.size w.heap.size _ _ (abH _) (heap_alloc_new w _) (by simp) (by omega)).mono ?_;rintro e w1 ⟨rfl,hb0,hb1⟩;have A0:=Any.hidR (Or.inr hb0:Lib.IsBuilder (ρ.t 72) (ρ.t 5) w.heap.size w.heap.size (Lib.byteCells []) w1);have B0:=Any.hidR (((Below.refl w.heap.size w).alloc (abH _) _).trans hb1);have I0:=Any.hidR (aeK (qV c new.data.toList s.data.toList));clear hb0 hb1
  go_wp2_with fail
  go_loopg [11,53] K (fun left p11 p53 wx=>∃(i from_:Nat) (done:anP),p53 = .int .i64 i/\p11 = .int .i64 from_/\i+left=K/\from_<=s.size/\done.length<=from_+i*1000 /\
   Hid (Lib.countByte (s.data.toList.drop from_) c=left)/\Hid (Lib.IsBuilder (ρ.t 72) (ρ.t 5) w.heap.size w.heap.size (Lib.byteCells done) wx)/\Hid (Below w.heap.size w wx) /\
   Hid (done++qV c new.data.toList (s.data.toList.drop from_)=qV c new.data.toList s.data.toList))
  case atStart=>exact⟨0,0,[],rfl,rfl,by omega,aas _,aas _,HK,A0,B0,I0⟩
  case round =>
   obtain⟨i,from_,done,rfl,rfl,q1,q2,q3,CT,BD,BW,RP⟩:=hrel;have hBw:w.heap.size<=wr.heap.size:=BW.out.size;have c1:(0:Int)<=(from_:Int):=by omega
   have c2:(from_:Int)<=(s.size:Int):=by omega
   cases gk with
   | zero =>
    have hiK:¬ ((i:Int)<(K:Int)):=by omega
    go_wp2_with fail
    refine(Any.Builder_WriteString { L with } X w.heap.size w.heap.size _ _ wr BD.out (by rw[Lib.byteCells_length,ByteArray.size_extract];omega) hBw).mono ?_;rintro e w3 ⟨rfl,h3,hb3⟩;have hR:done++s.data.toList.drop from_=qV c new.data.toList s.data.toList:=by have:=RP.out;rw[acM c _ _ CT.out]at this;exact this
    rw[Lib.strCells_eq,Lib.extract_to_end,<- Lib.byteCells_append,hR]at h3;have A3:=Any.hidR (Or.inr h3:Lib.IsBuilder (ρ.t 72) (ρ.t 5) w.heap.size w.heap.size _ w3);have B3:=Any.hidR (BW.out.trans hb3);have hBw3:w.heap.size<=w3.heap.size:=B3.out.size;clear h3 hb3 hR
    go_wp2_with fail
    refine(Any.Builder_String_any { L with } X w.heap.size w.heap.size _ w3 A3.out hBw3).mono ?_;rintro e w5 ⟨rfl,hb5⟩;have B5:=Any.hidR (B3.out.trans hb5);clear hb5
    go_wp2
    go_ret
    exact⟨rfl,B5.out⟩
   | succ left =>
    have hiK:(i:Int)<(K:Int):=by omega
    obtain⟨j,j1,j2,j3,j4⟩:=ain c new.data.toList _ left CT.out;rw[abP,hlenL]at j2;have c3:(from_:Int)<=(from_:Int)+(j:Int):=by omega
    have c4:(from_:Int)+(j:Int)<=(s.size:Int):=by omega
    have N3:=Any.hidR (show Lib.countByte (s.data.toList.drop (from_+j+1)) c=left by rw[akr]at j3;exact j3);have N4:=Any.hidR (show(done++(s.data.toList.drop from_).take j++new.data.toList)++qV c new.data.toList (s.data.toList.drop (from_+j+1))=qV c new.data.toList s.data.toList by rw[<- RP.out,j4,akr];simp only[abJ,ajS])
    have N5:=Any.hidR (show Lib.byteCells done++Lib.strCells (s.extract from_ (from_+j))++Lib.strCells new=Lib.byteCells (done++(s.data.toList.drop from_).take j++new.data.toList) by rw[Lib.strCells_eq,Lib.strCells_eq,Lib.extract_data,Nat.add_sub_cancel_left,<- Lib.byteCells_append,<- Lib.byteCells_append])
    have N6:(done++(s.data.toList.drop from_).take j++new.data.toList).length<=from_+j+1+(i+1)*1000:=by
     have e1:((s.data.toList.drop from_).take j).length<=j:=by rw[aeb];omega
     have e2:new.data.toList.length<=1000:=by rw[<- Lib.size_eq];exact hn
     rw[List.length_append,List.length_append];omega
    have J1:=Any.hidR (show ∀w:World,Calls P (ρ.f 143) #[.string (s.extract from_ s.size),.string old] w fun e w'=>e = .returned (.int .i64 j)/\w'=w from fun w=>by rw[HO.out];have:=Any.strings_Index_one (P:=P) (ρ:=ρ) { L with } (s.extract from_ s.size) c w;rw[Lib.extract_to_end,j1]at this;exact this)
    clear j1 j3 j4 RP CT
    go_wp2_with (first | (go_at_fn (ρ.f 143);refine(J1.out _).mono ?_;rintro e w' ⟨rfl,hw⟩;rw[hw]))
    refine(Any.Builder_WriteString { L with } X w.heap.size w.heap.size _ (s.extract from_ (from_+j)) wr BD.out (by rw[Lib.byteCells_length,ByteArray.size_extract];omega) hBw).mono ?_;rintro e w3 ⟨rfl,h3,hb3⟩;have hBw3:w.heap.size<=w3.heap.size:=Nat.le_trans hBw hb3.size;have A3:=Any.hidR h3;have B3:=Any.hidR hb3;clear h3 hb3
    go_wp2_with fail
    refine(Any.Builder_WriteString { L with } X w.heap.size w.heap.size _ new w3 (Or.inr A3.out) (by rw[List.length_append,Lib.byteCells_length,Lib.strCells_length,ByteArray.size_extract];omega) hBw3).mono ?_;rintro e w4 ⟨rfl,h4,hb4⟩;rw[N5.out]at h4;have A4:=Any.hidR (Or.inr h4:Lib.IsBuilder (ρ.t 72) (ρ.t 5) w.heap.size w.heap.size _ w4);have B4:=Any.hidR ((BW.out.trans B3.out).trans hb4);clear h4 hb4
    go_wp2
    go_roundg left
    case measure=>omega
    case rel=>exact⟨i+1,from_+j+1,_,by first | rfl | (simp;unfold wrap64;omega),by first | rfl | simp | (simp;unfold wrap64;omega),by omega,by omega,N6,N3,A4,B4,N4⟩
end
theorem ayM {f:FuncId} {a b c d t:E.Ty} {ok:E.Den a->E.Den b->E.Den c->E.Den d->Bool} {F:E.Den a->E.Den b->E.Den c->E.Den d->E.Den t} (ex:∃fn,Tryz.prog.funcs[f]? = some fn/\(fn.name == "runtime.NumGoroutine")=false/\fn.body.isNone=false) (h:∀x y z u,ok x y z u=true->EK E f [⟨a,x⟩,⟨b,y⟩,⟨c,z⟩,⟨d,u⟩] [⟨t,F x y z u⟩]):bE E f (fn4 a b c d t ok F) :=
 ⟨ex,fun args r hr=>by
  unfold fn4 at hr;split at hr
  ·split at hr
   ·rename_i x y z u hx hy hz hu;injection hr with hr
    injection hr with h1 h2
    subst h2;rw[iD hx,iD hy,iD hz,iD hu];exact h _ _ _ _ h1
   ·cases hr
  ·cases hr⟩
def UA(s old new:anP)(n:Int):Bool:=decide (s.length<=1000000)&&decide (old.length=1)&&decide (new.length<=1000)&&(n == -1) && !(old==new)
def XT(s old new:anP)(_:Int):anP:=qV (old.headD 0) new s
noncomputable def amW:jq E:=fn4 (E:=E) .str .str .str .int .str UA XT
def avl:FuncId:=229
theorem avm:bE E avl amW:=ayM ⟨Tryz.f229,by kernel_rfl,by kernel_rfl,by kernel_rfl⟩ fun s old new n hk=>by
 simp only[UA,abG,abK,beq_iff_eq,ajv,afb]at hk;obtain⟨⟨⟨⟨h1,h2⟩,h3⟩,rfl⟩,h5⟩:=hk;obtain⟨c,rfl⟩:∃c,old=[c]:=by
  match old,h2 with
  | [c],_=>exact⟨c,rfl⟩
 intro w ro vals hargs kP
 match vals,hargs with
 | [v1,v2,v3,v4],⟨q1,q2,q3,q4,_⟩ =>
  rw[Ll q1,Ll q2,Ll q3,ah9 q4];refine(avk Tryz.lays154 Tryz.Builder_Extra_154 ⟨s.toArray⟩ ⟨new.toArray⟩ c w (by simpa[ByteArray.size]using h1) (by simpa[ByteArray.size]using h3) (fun e=>h5 (by have:=congrArg (fun b:ByteArray=>b.data.toList) e;simpa using this))).mono fun e w' he=>?_
  obtain⟨he,hb⟩:=he;refine⟨_,he,hb,.inr ⟨rfl,.str (qV c new s),rfl,?_⟩⟩;exact .str _
noncomputable def acN:jq E:=fn3 (E:=E) .str .str .str .str (fun s old new=>UA s old new (-1)) (fun s old new=>XT s old new (-1))
def aip:FuncId:=202
noncomputable def amX:aI E:=jX [(229,amW)] [] [] []
noncomputable def ayN:Hint E:={}
noncomputable def acO(_G:Nat->av E->Option (List (TV E)))(x0 x1 x2:anP):Option (List (TV E)) :=
 bif(UA x0 x1 x2 (-1))then some [⟨.str,(XT x0 x1 x2 (-1))⟩]else none
theorem ayO(G:Nat->av E->Option (List (TV E)))(x0 x1 x2:anP):jK amX ayN G Tryz.f202 [⟨.str,x0⟩,⟨.str,x1⟩,⟨.str,x2⟩]=acO G x0 x1 x2:=by kernel_rfl
theorem ayP:Tryz.prog.funcs[202]? = some Tryz.f202:=by kernel_rfl
theorem ayQ:(Tryz.f202.name == "runtime.NumGoroutine")=false:=by kernel_rfl
theorem ayR:Tryz.f202.body.isNone=false:=by kernel_rfl
theorem avn:aL E amX:=gu (.cons avm .nil) .nil .nil .nil
theorem ak8(h:∀(x0:anP) (x1:anP) (x2:anP),(fun s old new=>UA s old new (-1)) x0 x1 x2=true->acO (Gr E Tryz.f202 [⟨.str,(fun s old new=>XT s old new (-1)) x0 x1 x2⟩]) x0 x1 x2=some [⟨.str,(fun s old new=>XT s old new (-1)) x0 x1 x2⟩]):bE E aip acN:=aaz avn mix ayP ayQ ayR (fun x0 x1 x2 hk=>(ayO _ x0 x1 x2).trans (h x0 x1 x2 hk))
theorem avo:bE E aip acN:=ak8 fun s old new hk=>by simp only[acO,hk,cond_true]
def Rc(s p:anP)(a b:Int):Bool:=decide (s.length<=1000000)&&decide (p.length=1)&&(a==0)&&(b == -1)
def eT(s p:anP)(_ _:Int):List (anP):=Lib.split s p
def YU:XG E
 | [a,b,c,d]=>match kQ (E:=E) Ty.str a,kQ (E:=E) Ty.str b,kQ (E:=E) Ty.int c,kQ (E:=E) Ty.int d with
  | some s,some p,some m,some n=>some (Rc s p m n,⟨Ty.str,eT s p m n⟩)
  | _,_,_,_=>none
 | _=>none
theorem apD:O1 E 197 YU:=⟨⟨Tryz.f197,by kernel_rfl,by kernel_rfl,by kernel_rfl⟩,fun args t l hF=>by
 unfold YU at hF;split at hF
 ·rename_i a b c d;split at hF
  ·rename_i s p m n ha hb hc hd;injection hF with hF
   injection hF with hok hF
   cases hF;rw[iD ha,iD hb,iD hc,iD hd];simp only[Rc,abG,abK,beq_iff_eq]at hok;obtain⟨⟨⟨hs,hp⟩,rfl⟩,rfl⟩:=hok;obtain⟨c,rfl⟩:∃c,p=[c]:=by
    match p,hp with
    | [c],_=>exact⟨c,rfl⟩
   intro w ro vals hargs kP
   match vals,hargs with
   | [v1,v2,v3,v4],⟨h1,h2,h3,h4,_⟩ =>
    rw[Ll h1,Ll h2,ah9 h3,ah9 h4];have hp1:1<=(⟨#[c]⟩:ByteArray).size:=abH 1;have hle:=Lib.countB_le ⟨#[c]⟩ hp1 _ ⟨s.toArray⟩ (abH _);have hsz:(⟨s.toArray⟩:ByteArray).size=s.length:=by simp[ByteArray.size]
    have hix:∀x:ByteArray,Lib.indexB x ⟨#[c]⟩=Lib.indexByte x.data.toList c:=fun x=>Lib.index_one _ _
    have hct:∀x:ByteArray,Lib.countB x ⟨#[c]⟩=Lib.countByte x.data.toList c:=fun x=>Lib.count_one c _
    have hlen:=Lib.splitB_all ⟨#[c]⟩ hp1 0 _ (⟨s.toArray⟩:ByteArray) rfl;refine(Any.strings_genSplit_core Tryz.lays221 (by kernel_rfl) ⟨s.toArray⟩ ⟨#[c]⟩ 0 (-1) (Lib.countB ⟨s.toArray⟩ ⟨#[c]⟩+1) w (by omega) hp1 (aas _)
     (fun x k hx=>by rw[hix];exact Any.strings_Index_one (ρ:=Tryz.lays221_ren) { Tryz.lays221 with } x c _)
     (by rw[hct];exact Any.strings_Count_one (ρ:=Tryz.lays221_ren) { Tryz.lays221 with } ⟨s.toArray⟩ c w) (by decide) (by decide) (by rw[if_pos (by decide)];omega)).mono fun e w' he=>?_
    obtain⟨rfl,rfl⟩:=he;rw[Nat.add_sub_cancel,hlen];have e2:Lib.cellsOf (Lib.splitB ⟨#[c]⟩ 0 (Lib.countB ⟨s.toArray⟩ ⟨#[c]⟩) ⟨s.toArray⟩) (Lib.countB ⟨s.toArray⟩ ⟨#[c]⟩+1)=((Lib.splitB ⟨#[c]⟩ 0 (Lib.countB ⟨s.toArray⟩ ⟨#[c]⟩) ⟨s.toArray⟩).map Value.string).toArray:=by rw[<- hlen];exact Lib.cellsOf_full _
    rw[e2];have hd:(Lib.splitB ⟨#[c]⟩ 0 (Lib.countB ⟨s.toArray⟩ ⟨#[c]⟩) ⟨s.toArray⟩).map (·.data.toList)=Lib.split s [c]:=Lib.splitB_data ⟨#[c]⟩ 0 _ ⟨s.toArray⟩;generalize hL:Lib.splitB ⟨#[c]⟩ 0 (Lib.countB ⟨s.toArray⟩ ⟨#[c]⟩) ⟨s.toArray⟩=L at hlen hd ⊢;generalize hN:Lib.countB ⟨s.toArray⟩ ⟨#[c]⟩+1=N at hlen hle ⊢;have hN2:N<=1000001:=by omega
    have hl2:(Lib.split s [c]).length=N:=by rw[<- hd,List.length_map,hlen]
    have hty:E.tid Ty.str=Tryz.lays221_ren.t 9:=rfl;refine⟨⟨.slice (some ⟨w.heap.size,0,none⟩) N N,N,E.tid Ty.str,E.size Ty.str,some w.heap.size⟩,L.map Value.string,rfl,Below.alloc (Below.refl _ _) (abH _) _,hl2.symm,rfl,rfl,.inl ⟨⟨?_,.inr ⟨w.heap.size,N,(L.map Value.string).toArray,rfl,aas _,heap_alloc_new w _,abH _,?_,?_,?_⟩⟩,rfl⟩,?_,?_⟩
    ·show(L.map Value.string).length=N*1;rw[List.length_map,hlen,afc]
    ·show N<=maxLen;unfold maxLen;omega
    ·show(L.map Value.string).toArray.size=N*1;simp[hlen]
    ·show(L.map Value.string).toArray.toList.take (N*1)=_;rw[afc,List.toList_toArray];exact aeM (by rw[List.length_map,hlen];exact abH _)
    ·intro i x j k hx hc;have hi:(L.map (·.data.toList))[i]? = some x:=by rw[hd];exact hx
     rw[adZ]at hi;cases hq:L[i]? with
     | none=>rw[hq]at hi;cases hi
     | some b =>
      rw[hq]at hi;injection hi with hi
      match j,hc with
      | 0,hc =>
       have hc:some (bP.str x:bP E.Den)=some k:=hc;injection hc with hc
       subst hc;refine⟨.string b,?_,?_⟩
       ·show(L.map Value.string)[i*1+0]? = _;rw[afc,ahO,adZ,hq];rfl
       ·rw[<- hi];exact .str b.data.toList
      | j+1,hc=>cases hc
    ·intro g hg;cases hg;exact abH _
  ·cases hF
 ·cases hF⟩
section
def mh(x0 x1:anP):Te (Bool) Empty:=.l (bW (aC x1) (aC x0)) fun z1=>.q ((bW 0 0&&bW 0 (aC x1)&&bW (aC x1) (aC x0)) || !z1) (.k (aab z1 (cut x0 0 (aC x1)==x1)))
def iF(x0 x1:anP):=(mh x0 x1).o
def Em:=(uI.e (E:=E) mix).f0 86 [.str,.str] [.bool] (fun a=>mh a.1 a.2) Tryz.func86
def zG(x0 x1:anP):Te (Bool) Empty:=.c (iF x0 x1) fun y1=>.k y1
def G8(x0 x1:anP):=(zG x0 x1).o
def Tm:=Em.f0 40 [.str,.str] [.bool] (fun a=>zG a.1 a.2) Tryz.func40
def En(x0:anP):Te (Bool) Empty:=.c (G8 x0 [120,45]) fun y1=>.k y1
def sG(x0:anP):=(En x0).o
def YV:=Tm.f0 19 [.str] [.bool] (fun a=>En a) Tryz.func19
def Lp(x0:Int):Te (Bool) Empty:=.k (aab (bW 97 x0) (bW x0 122))
def wu(x0:Int):=(Lp x0).o
def aiq:=YV.f0 69 [.byte] [.bool] (fun a=>Lp a) Tryz.func69
def DV(x0:Int):Te (Bool) Empty:=.c (wu x0) fun y1=>.k (aN y1 (aab (bW 65 x0) (bW x0 90)))
def nW(x0:Int):=(DV x0).o
def afx:=aiq.f0 143 [.byte] [.bool] (fun a=>DV a) Tryz.func143
def JQ(x0:Int):Te (Bool) Empty:=.k (aab (bW 48 x0) (bW x0 57))
def fE(x0:Int):=(JQ x0).o
def afy:=afx.f0 70 [.byte] [.bool] (fun a=>JQ a) Tryz.func70
def x9(x0:Int):Te (Bool) Empty:=.c (nW x0) fun y1=>.q (((fE x0).isSome) || !(!y1)) (.k (aN y1 (gv (fE x0))))
def Eo(x0:Int):=(x9 x0).o
def YW:=afy.f0 142 [.byte] [.bool] (fun a=>x9 a) Tryz.func142
def YX(x0:Int):Te (Bool) Empty:=.c (nW x0) fun y1=>.q (((fE x0).isSome) || !(!y1)) (.k (aN (aN (aN (aN y1 (gv (fE x0))) (x0==45)) (x0==95)) (x0==46)))
def YZ:=YW.f0 144 [.byte] [.bool] (fun a=>YX a) Tryz.func144
inductive mR where
 | e (x0:anP)
 | h0 (v0:anP) (v1:Int)
def dJ:mR->Te (Bool) mR
 | .e x0=>.l (Eo (tH x0 0)) fun z2=>.l (aN (aF (aC x0) 1) (aF 24 (aC x0))) fun z1=>.q (fV x0 0 || !(!z1)) (.q ((z2.isSome) || !(!z1)) (.b (aN z1 (!(gv z2))) (.k false) (.g (.h0 x0 1))))
 | .h0 v0 v1=>.b (aF v1 (aC v0)) (.s v0 v1 fun y1=>.c (nW y1) fun y2=>.q (((fE y1).isSome) || !(!y2)) (.b (!(aN (aN (aN (aN y2 (gv (fE y1))) (y1==45)) (y1==95)) (y1==46))) (.k false) (.g (.h0 v0 (au (v1+1)))))) (.k true)
def jA(x0:anP):=mu dJ (.e x0)
def xG:=(YZ.I 144 Tryz.func144).cl 67 [.bool] [.v .str,.c 142 [] [],.c 144 [] []] dJ (fun a=>.e a) (fun | .e x0=>.c [.v ⟨.str,x0⟩,.c 142 [] [],.c 144 [] []] | .h0 v0 v1=>.h 0 ⟨35,[(0,.d (.str v0)),(2,.d (.raw (.func (.func 144) #[] #[]))),(7,.d (.int .i64 v1))],[],0⟩) { live:=[(0,[0,2,7])] } Tryz.func67
def Bw(x0:anP):Te (Bool) Empty:=.c (jA x0) fun y1=>.k y1
def iP(x0:anP):=(Bw x0).o
def acP:=xG.f0 65 [.str] [.bool] (fun a=>Bw a) Tryz.func65
inductive Sm where
 | e (x0:List (anP))
 | h0 (v0:List (anP)) (v1:List (anP)) (v2:Int) (v3:Int)
def uf:Sm->Te ((anP)) Sm
 | .e x0=>.g (.h0 [] x0 (x0.length) 0)
 | .h0 v0 v1 v2 v3=>.b (aF v3 v2) (.i v1 v3 fun y1=>.b (!(y1==[])) (.q (decide ((v0.length+([y1]:List (anP)).length)*16<=aB)) (.g (.h0 (v0++([y1]:List (anP))) v1 v2 (au (v3+1))))) (.g (.h0 v0 v1 v2 (au (v3+1))))) (.q (acL v0 [46]) (.k (Lib.join v0 [46])))
def yM(x0:List (anP)):=mu uf (.e x0)
def afz:=(acP.W 145 amU avh).fl 66 [.dw] [.str] uf (fun a=>.e a) (fun | .e x0=>.e [⟨.dw,x0⟩] | .h0 v0 v1 v2 v3=>.h 0 ⟨21,[(3,.grow .str v0 0),(6,.d (.slice .str v1)),(7,.d (.int .i64 v2)),(8,.d (.int .i64 v3))],[(0,.tail true)],1⟩) { live:=[(0,[3,6,7,8])],oO:=[(0,[(3,none,true,.str)])] } Tryz.func66
def II:Te (Node×Int) Empty:=.k (⟨0,[],[],[]⟩,10)
def eD:=(II).o
def ak9:=afz.f0 90 [] [.ah,.aY] (fun _=>II) Tryz.func90
def JR(x0:anP):Te (Bool) Empty:=.k (aab (!(x0==[])) (bW (aC x0) 64))
def JU(x0:anP):=(JR x0).o
def afA:=ak9.f0 88 [.str] [.bool] (fun a=>JR a) Tryz.func88
def nC(x0:Node):Te (Node×Int) Empty:=.l (JU x0.text) fun z1=>.q ((z1.isSome) || !(!(x0.kind != 1))) (.b (aN (x0.kind != 1) (!(gv z1))) (.c eD fun y1=>.k (aj (y1.1),y1.2)) (.k (aj x0,0)))
def nD(x0:Node):=(nC x0).o
def Lr:=afA.c0 87 [.ah,.aY] [.v .ah,.c 88 [] []] (fun a=>nC a) Tryz.func87
def IJ(x0:Node):Te (Node×Int) Empty:=.c (nD (aj x0)) fun y1=>.k (aj (y1.1),y1.2)
def zi(x0:Node):=(IJ x0).o
def ala:=Lr.f0 41 [.ah] [.ah,.aY] (fun a=>IJ a) Tryz.func41
def HZ(x0:Node)(x1:Int):Te (Bool) Empty:=.k (aab (x0.kind==x1) (bW (aC x0.kids) 32))
def jR(x0:Node)(x1:Int):=(HZ x0 x1).o
def acQ:=ala.f0 73 [.ah,.int] [.bool] (fun a=>HZ a.1 a.2) Tryz.func73
inductive UC where
 | e (x0:Node)
 | h0 (v0:List (anP)) (v1:List Node) (v2:Int) (v3:Int) (v4:Node)
def wz:UC->Te ((List (anP))×Bool) UC
 | .e x0=>.g (.h0 [] x0.kids (x0.kids.length) 0 x0)
 | .h0 v0 v1 v2 v3 v4=>.b (aF v3 v2) (.i v1 v3 fun y1=>.b (y1.kind != 1) (.k ([],false)) (.q (decide ((v0.length+([y1.text]:List (anP)).length)*16<=aB)) (.g (.h0 (v0++([y1.text]:List (anP))) v1 v2 (au (v3+1)) v4)))) (.c (jR (aj v4) 2) fun y2=>.k (v0,y2))
def nE(x0:Node):=mu wz (.e x0)
def air:=acQ.fl 72 [.ah] [.dw,.bool] wz (fun a=>.e a) (fun | .e x0=>.e [⟨.ah,x0⟩] | .h0 v0 v1 v2 v3 v4=>.h 0 ⟨26,[(1,.ptr 0 0),(4,.grow .str v0 1),(8,.d (.slice .ah v1)),(9,.d (.int .i64 v2)),(10,.d (.int .i64 v3))],[(0,.box [.d (.int .i64 v4.kind),.d (.str v4.text),.d (.slice .str v4.keys),.d (.slice .ah v4.kids)]),(1,.tail true)],2⟩) { live:=[(0,[1,4,8,9,10])],oO:=[(0,[(4,none,true,.str)])] } Tryz.func72
def Ls(x0:Int):Te (Bool) Empty:=.k (aN (x0==32) (x0==9))
def F6(x0:Int):=(Ls x0).o
def ais:=air.f0 147 [.byte] [.bool] (fun a=>Ls a) Tryz.func147
inductive F7 where
 | e (x0:anP)
 | Y0 (v0:List (anP)) (v1:List Int) (v2:Bool)
 | wD (v0:anP) (v1:List (anP)) (v2:List Int) (v3:Int) (v4:Bool)
 | Rh (v0:anP) (v1:List (anP)) (v2:List Int) (v3:Int) (v4:Bool)
 | JV (v0:anP) (v1:List (anP)) (v2:List Int) (v3:Int) (v4:Bool)
def gV:F7->Te ((List (anP))×Int) F7
 | .e x0=>.l (fV x0 0) fun z1=>.b (0==aC x0) (.g (.Y0 [] [] false)) (.s x0 0 fun y1=>.c (F6 y1) fun y2=>.b y2 (.g (.wD x0 [] [] 1 false)) (.q z1 (.b (y1==39) (.g (.Rh x0 [] [] 1 true)) (.q z1 (.b (y1==34) (.g (.JV x0 [] [] 1 true)) (.q z1 (.b (y1==92) (.b (1==aC x0) (.k ([],3)) (.s x0 1 fun y6=>.q (decide (([y6]:List Int).length*1<=aB)) (.g (.wD x0 [] [y6] 2 true)))) (.q z1 (.q (decide (([y1]:List Int).length*1<=aB)) (.g (.wD x0 [] [y1] 1 true)))))))))))
 | .Y0 v0 v1 v2=>.b v2 (.q (decide ((v0.length+([(List.map (fun y=>UInt8.ofNat (Int.toNat y)) v1)]:List (anP)).length)*16<=aB)) (.b (decide (32<aC (v0++([(List.map (fun y=>UInt8.ofNat (Int.toNat y)) v1)]:List (anP))))) (.k ([],9)) (.k ((v0++([(List.map (fun y=>UInt8.ofNat (Int.toNat y)) v1)]:List (anP))),0)))) (.b (aF 32 (aC v0)) (.k ([],9)) (.k (v0,0)))
 | .wD v0 v1 v2 v3 v4=>.l (fV v0 v3) fun z2=>.l (au (v3+1)) fun z1=>.b (v3==aC v0) (.g (.Y0 v1 v2 v4)) (.s v0 v3 fun y1=>.c (F6 y1) fun y2=>.b y2 (.b v4 (.q (decide ((v1.length+([(List.map (fun y=>UInt8.ofNat (Int.toNat y)) v2)]:List (anP)).length)*16<=aB)) (.g (.wD v0 (v1++([(List.map (fun y=>UInt8.ofNat (Int.toNat y)) v2)]:List (anP))) [] z1 false))) (.g (.wD v0 v1 v2 z1 v4))) (.q z2 (.b (y1==39) (.g (.Rh v0 v1 v2 z1 true)) (.q z2 (.b (y1==34) (.g (.JV v0 v1 v2 z1 true)) (.q z2 (.b (y1==92) (.b (z1==aC v0) (.k ([],3)) (.s v0 z1 fun y6=>.q (decide ((v2.length+([y6]:List Int).length)*1<=aB)) (.g (.wD v0 v1 (v2++([y6]:List Int)) (au (z1+1)) true)))) (.q z2 (.q (decide ((v2.length+([y1]:List Int).length)*1<=aB)) (.g (.wD v0 v1 (v2++([y1]:List Int)) z1 true)))))))))))
 | .Rh v0 v1 v2 v3 v4=>.l (HY (cut v0 v3 (aC v0)) 39) fun z1=>.l (au (v3+z1)) fun z2=>.q (bM v0 v3 (aC v0)) (.b (bW 0 z1) (.q (bM v0 v3 z2) (.q (decide ((v2.length+(List.map (fun b:UInt8=>((b.toNat:Nat):Int)) (cut v0 v3 z2)).length)*1<=aB)) (.g (.wD v0 v1 (v2++(List.map (fun b:UInt8=>((b.toNat:Nat):Int)) (cut v0 v3 z2))) (au (v3+au (z1+1))) v4)))) (.k ([],3)))
 | .JV v0 v1 v2 v3 v4=>.l (fV v0 v3) fun z3=>.l (v2++([92]:List Int)) fun z2=>.l (au (v3+1)) fun z1=>.l (fV v0 z1) fun z4=>.q (z3 || !((!(v3==aC v0))&&(z1==aC v0))) (.b (aN (v3==aC v0) (aab (z1==aC v0) (tH v0 v3==92))) (.k ([],3)) (.s v0 v3 fun y1=>.b (y1==34) (.g (.wD v0 v1 v2 z1 v4)) (.q z3 (.b (y1==92) (.s v0 z1 fun y3=>.q (z4 || !(y3 != 34)) (.b (aab (y3 != 34) (y3 != 92)) (.q (decide ((v2.length+([92]:List Int).length)*1<=aB)) (.q z4 (.q (decide ((z2.length+([y3]:List Int).length)*1<=aB)) (.g (.JV v0 v1 (z2++([y3]:List Int)) (au (z1+1)) v4))))) (.q z4 (.q (decide ((v2.length+([y3]:List Int).length)*1<=aB)) (.g (.JV v0 v1 (v2++([y3]:List Int)) (au (z1+1)) v4)))))) (.q z3 (.q (decide ((v2.length+([y1]:List Int).length)*1<=aB)) (.g (.JV v0 v1 (v2++([y1]:List Int)) z1 v4))))))))
def F8(x0:anP):=mu gV (.e x0)
def ait:=(ais.W 148 amV avj).fl 89 [.str] [.dw,.aY] gV (fun a=>.e a) (fun | .e x0=>.e [⟨.str,x0⟩] | .Y0 v0 v1 v2=>.h 100 ⟨141,[(4,.grow .str v0 0),(5,.grow .byte v1 1),(7,.d (.bool v2))],[(0,.tail true),(1,.tail true)],2⟩ | .wD v0 v1 v2 v3 v4=>.h 101 ⟨141,[(0,.d (.str v0)),(4,.grow .str v1 0),(5,.grow .byte v2 1),(6,.d (.int .i64 v3)),(7,.d (.bool v4))],[(0,.tail true),(1,.tail true)],2⟩ | .Rh v0 v1 v2 v3 v4=>.h 102 ⟨141,[(0,.d (.str v0)),(4,.grow .str v1 0),(5,.grow .byte v2 1),(6,.d (.int .i64 v3)),(7,.d (.bool v4))],[(0,.tail true),(1,.tail true)],2⟩ | .JV v0 v1 v2 v3 v4=>.h 103 ⟨141,[(0,.d (.str v0)),(4,.grow .str v1 0),(5,.grow .byte v2 1),(6,.d (.int .i64 v3)),(7,.d (.bool v4))],[(0,.tail true),(1,.tail true)],2⟩) { live:=[(100,[4,5,7]),(101,[0,4,5,6,7]),(102,[0,4,5,6,7]),(103,[0,4,5,6,7])],oO:=[(100,[(5,none,true,.byte),(4,none,true,.str)]),(101,[(5,none,true,.byte),(4,none,true,.str)]),(102,[(4,none,true,.str),(5,none,true,.byte)]),(103,[(4,none,true,.str),(5,none,true,.byte)])] } Tryz.func89
inductive aaU where
 | e (x0:List (anP))
 | h0 (v0:List (anP)) (v1:Int) (v2:Int) (v3:Int) (v4:anP) (v5:Int) (v6:anP) (v7:List Node)
def Bz:aaU->Te (Node) aaU
 | .e x0=>.g (.h0 x0 (x0.length) 0 0 [] 2 [] [])
 | .h0 v0 v1 v2 v3 v4 v5 v6 v7=>.b (aF v2 v1) (.i v0 v2 fun y1=>.q (decide ((v7.length+([dz y1]:List Node).length)*72<=aB)) (.g (.h0 v0 v1 (au (v2+1)) v3 v4 v5 v6 (v7++([dz y1]:List Node))))) (.k ⟨v5,v6,[],v7⟩)
def F9(x0:List (anP)):=mu Bz (.e x0)
def apE:=(ait.W 94 acH avd).fl 91 [.dw] [.ah] Bz (fun a=>.e a) (fun | .e x0=>.e [⟨.dw,x0⟩] | .h0 v0 v1 v2 v3 v4 v5 v6 v7=>.h 0 ⟨22,[(2,.ptr 0 0),(3,.ptr 1 0),(7,.d (.slice .str v0)),(8,.d (.int .i64 v1)),(9,.d (.int .i64 v2))],[(0,.box [.d (.int .i64 v3),.d (.str v4),.d (.raw (.slice none 0 0)),.d (.raw (.slice none 0 0))]),(1,.box [.d (.int .i64 v5),.d (.str v6),.d (.raw (.slice none 0 0)),.grow .ah v7 2]),(2,.tail true)],3⟩) { live:=[(0,[2,3,7,8,9])],oO:=[(0,[(3,some 3,true,.ah)])] } Tryz.func91
def Ga(x0:Node):Te (Node×Int) Empty:=.c (nE (aj x0)) fun y1=>.b (x0.kind==1) (.c (F8 x0.text) fun y2=>.b (!(y2.2==0)) (.c eD fun y3=>.k (aj (y3.1),y3.2)) (.c (F9 (y2.1)) fun y4=>.k (aj y4,0))) (.b (!y1.2) (.c eD fun y5=>.k (aj (y5.1),y5.2)) (.c (F9 (y1.1)) fun y6=>.k (aj y6,0)))
def wE(x0:Node):=(Ga x0).o
def aiu:=apE.f0 42 [.ah] [.ah,.aY] (fun a=>Ga a) Tryz.func42
def vR(x0:Int):Te (Bool) Empty:=.c (nW x0) fun y1=>.k (aN y1 (x0==95))
def Cv(x0:Int):=(vR x0).o
def Xm:=aiu.f0 149 [.byte] [.bool] (fun a=>vR a) Tryz.func149
def Xn(x0:Int):Te (Bool) Empty:=.c (nW x0) fun y1=>.q (((fE x0).isSome) || !(!y1)) (.k (aN (aN y1 (gv (fE x0))) (x0==95)))
def Xo:=Xm.f0 150 [.byte] [.bool] (fun a=>Xn a) Tryz.func150
inductive lZ where
 | e (x0:anP)
 | h0 (v0:anP) (v1:Int)
def dh:lZ->Te (Bool) lZ
 | .e x0=>.l (Cv (tH x0 0)) fun z2=>.l (aN (aF (aC x0) 1) (aF 24 (aC x0))) fun z1=>.q (fV x0 0 || !(!z1)) (.q ((z2.isSome) || !(!z1)) (.b (aN z1 (!(gv z2))) (.k false) (.g (.h0 x0 1))))
 | .h0 v0 v1=>.b (aF v1 (aC v0)) (.s v0 v1 fun y1=>.c (nW y1) fun y2=>.q (((fE y1).isSome) || !(!y2)) (.b (!(aN (aN y2 (gv (fE y1))) (y1==95))) (.k false) (.g (.h0 v0 (au (v1+1)))))) (.k true)
def jh(x0:anP):=mu dh (.e x0)
def vP:=(Xo.I 150 Tryz.func150).cl 67 [.bool] [.v .str,.c 149 [] [],.c 150 [] []] dh (fun a=>.e a) (fun | .e x0=>.c [.v ⟨.str,x0⟩,.c 149 [] [],.c 150 [] []] | .h0 v0 v1=>.h 0 ⟨35,[(0,.d (.str v0)),(2,.d (.raw (.func (.func 150) #[] #[]))),(7,.d (.int .i64 v1))],[],0⟩) { live:=[(0,[0,2,7])] } Tryz.func67
def zU(x0:anP):Te (Bool) Empty:=.c (jh x0) fun y1=>.k y1
def zV(x0:anP):=(zU x0).o
def aaV:=vP.f0 92 [.str] [.bool] (fun a=>zU a) Tryz.func92
def yc(x0:form)(x1:Bool):Te (form×Bool) Empty:=.k (⟨aj x0.n,aN x0.bad x1⟩,x1)
def bY(x0:form)(x1:Bool):=(yc x0 x1).o
def Y1:=aaV.b0 74 [.bool] [.bool] .mG (fun x a=>yc x a) Tryz.func74
def zX(x0:form)(x1:anP)(x2:Node):Te (form×Unit) Empty:=.q (fU (aj x0.n) x1 (aj x2)) (.k (⟨aj (bf (aj x0.n) x1 (aj x2)),x0.bad⟩,()))
def cB(x0:form)(x1:anP)(x2:Node):=(zX x0 x1 x2).o
def aaW:=(Y1.W 38 acI avf).b0 75 [.str,.ah] [] .mG (fun x a=>zX x a.1 a.2) Tryz.func75
def yg(x0:form):Te (form×Node×Int) Empty:=.b (aN x0.bad (aF 32 (aC x0.n.keys))) (.c eD fun y1=>.k (⟨aj x0.n,x0.bad⟩,aj (y1.1),y1.2)) (.q ((wg 10000 1000) ⟨3,x0.n.text,x0.n.keys,x0.n.kids⟩) (.k (⟨⟨3,x0.n.text,x0.n.keys,x0.n.kids⟩,x0.bad⟩,aj ((dR 1000) ⟨3,x0.n.text,x0.n.keys,x0.n.kids⟩),0)))
def dD(x0:form):=(yg x0).o
def Y2:=(aaW.W 39 (pF 1000) (ak7 1000)).b0 76 [] [.ah,.aY] .mG (fun x _=>yg x) Tryz.func76
inductive UD where
 | e (x0:Node) (x1:Bool)
 | Ri (v0:List (anP)) (v1:Int) (v2:Int) (v3:Int) (v4:anP) (v5:form)
 | Rj (v0:List (anP)) (v1:Int) (v2:Int) (v3:Int) (v4:anP) (v5:form)
 | Rk (v0:List (anP)) (v1:Int) (v2:Int) (v3:Node) (v4:Int) (v5:anP) (v6:form)
 | Rl (v0:List (anP)) (v1:Int) (v2:Int) (v3:Node) (v4:Int) (v5:anP) (v6:form)
def lG:UD->Te (Node×Int) UD
 | .e x0 x1=>.l (nE (aj x0)) fun z2=>.l (jR (aj x0) 3) fun z1=>.b x1 (.c z2 fun y1=>.b y1.2 (.g (.Rj (y1.1) (aC (y1.1)) 0 0 [] ⟨⟨0,[],[],[]⟩,false⟩)) (.c z1 fun y2=>.b (!y2) (.c eD fun y3=>.k (aj (y3.1),y3.2)) (.g (.Rl x0.keys (aC x0.keys) 0 x0 0 [] ⟨⟨0,[],[],[]⟩,false⟩)))) (.c z2 fun y4=>.b y4.2 (.g (.Ri (y4.1) (aC (y4.1)) 0 0 [] ⟨⟨0,[],[],[]⟩,false⟩)) (.c z1 fun y5=>.b (!y5) (.c eD fun y6=>.k (aj (y6.1),y6.2)) (.g (.Rk x0.keys (aC x0.keys) 0 x0 0 [] ⟨⟨0,[],[],[]⟩,false⟩))))
 | .Ri v0 v1 v2 v3 v4 v5=>.l (aj v5.n) fun z1=>.b (aF v2 v1) (.i v0 v2 fun y1=>.l (mg y1 [61]) fun z2=>.l (iP z2) fun z3=>.q (uX y1 [61]) (.q ((fun n _=>fit n) z1 z2) (.q ((z3.isSome) || !(!(aD z1 z2))) (.c (bY ⟨z1,v5.bad⟩ (aN (aD z1 z2) (!(gv z3)))) fun y2=>.c (cB ⟨aj ((y2.1).n),(y2.1).bad⟩ z2 (dz (qm y1 [61]))) fun y3=>.g (.Ri v0 v1 (au (v2+1)) v3 v4 ⟨aj ((y3.1).n),(y3.1).bad⟩))))) (.c (dD ⟨z1,v5.bad⟩) fun y4=>.k (aj (y4.2.1),y4.2.2))
 | .Rj v0 v1 v2 v3 v4 v5=>.l (aj v5.n) fun z1=>.b (aF v2 v1) (.i v0 v2 fun y1=>.l (mg y1 [61]) fun z2=>.l (zV z2) fun z3=>.q (uX y1 [61]) (.q ((fun n _=>fit n) z1 z2) (.q ((z3.isSome) || !(!(aD z1 z2))) (.c (bY ⟨z1,v5.bad⟩ (aN (aD z1 z2) (!(gv z3)))) fun y2=>.c (cB ⟨aj ((y2.1).n),(y2.1).bad⟩ z2 (dz (qm y1 [61]))) fun y3=>.g (.Rj v0 v1 (au (v2+1)) v3 v4 ⟨aj ((y3.1).n),(y3.1).bad⟩))))) (.c (dD ⟨z1,v5.bad⟩) fun y4=>.k (aj (y4.2.1),y4.2.2))
 | .Rk v0 v1 v2 v3 v4 v5 v6=>.b (aF v2 v1) (.i v0 v2 fun y1=>.l (iP y1) fun z1=>.i v3.kids v2 fun y2=>.q ((z1.isSome) || !(!(aF 1 y2.kind))) (.c (bY ⟨aj v6.n,v6.bad⟩ (aN (aF 1 y2.kind) (!(gv z1)))) fun y3=>.c (cB ⟨aj ((y3.1).n),(y3.1).bad⟩ y1 (dz (y2.text))) fun y4=>.g (.Rk v0 v1 (au (v2+1)) v3 v4 v5 ⟨aj ((y4.1).n),(y4.1).bad⟩))) (.c (dD ⟨aj v6.n,v6.bad⟩) fun y5=>.k (aj (y5.2.1),y5.2.2))
 | .Rl v0 v1 v2 v3 v4 v5 v6=>.b (aF v2 v1) (.i v0 v2 fun y1=>.l (zV y1) fun z1=>.i v3.kids v2 fun y2=>.q ((z1.isSome) || !(!(aF 1 y2.kind))) (.c (bY ⟨aj v6.n,v6.bad⟩ (aN (aF 1 y2.kind) (!(gv z1)))) fun y3=>.c (cB ⟨aj ((y3.1).n),(y3.1).bad⟩ y1 (dz (y2.text))) fun y4=>.g (.Rl v0 v1 (au (v2+1)) v3 v4 v5 ⟨aj ((y4.1).n),(y4.1).bad⟩))) (.c (dD ⟨aj v6.n,v6.bad⟩) fun y5=>.k (aj (y5.2.1),y5.2.2))
def wF(x0:Node)(x1:Bool):=mu lG (.e x0 x1)
def aiv:=((Y2.W 85 aaQ amP).W 93 aic ayA).fl 44 [.ah,.bool] [.ah,.aY] lG (fun a=>.e a.1 a.2) (fun | .e x0 x1=>.e [⟨.ah,x0⟩,⟨.bool,x1⟩] | .Ri v0 v1 v2 v3 v4 v5=>.h 0 ⟨100,[(4,.ptr 0 0),(6,.ptr 1 0),(7,.d (.raw (.func (.func 65) #[] #[]))),(27,.d (.slice .str v0)),(28,.d (.int .i64 v1)),(29,.d (.int .i64 v2))],[(0,.box [.d (.int .i64 v3),.d (.str v4),.d (.raw (.slice none 0 0)),.d (.raw (.slice none 0 0))]),(1,.box [.d (.int .i64 v5.n.kind),.d (.str v5.n.text),.d (.slice .str v5.n.keys),.d (.slice .ah v5.n.kids),.d (.bool v5.bad)])],2⟩ | .Rj v0 v1 v2 v3 v4 v5=>.h 0 ⟨100,[(4,.ptr 0 0),(6,.ptr 1 0),(7,.d (.raw (.func (.func 92) #[] #[]))),(27,.d (.slice .str v0)),(28,.d (.int .i64 v1)),(29,.d (.int .i64 v2))],[(0,.box [.d (.int .i64 v3),.d (.str v4),.d (.raw (.slice none 0 0)),.d (.raw (.slice none 0 0))]),(1,.box [.d (.int .i64 v5.n.kind),.d (.str v5.n.text),.d (.slice .str v5.n.keys),.d (.slice .ah v5.n.kids),.d (.bool v5.bad)])],2⟩ | .Rk v0 v1 v2 v3 v4 v5 v6=>.h 1 ⟨100,[(2,.ptr 0 0),(4,.ptr 1 0),(6,.ptr 2 0),(7,.d (.raw (.func (.func 65) #[] #[]))),(69,.d (.slice .str v0)),(70,.d (.int .i64 v1)),(71,.d (.int .i64 v2))],[(0,.box [.d (.int .i64 v3.kind),.d (.str v3.text),.d (.slice .str v3.keys),.d (.slice .ah v3.kids)]),(1,.box [.d (.int .i64 v4),.d (.str v5),.d (.raw (.slice none 0 0)),.d (.raw (.slice none 0 0))]),(2,.box [.d (.int .i64 v6.n.kind),.d (.str v6.n.text),.d (.slice .str v6.n.keys),.d (.slice .ah v6.n.kids),.d (.bool v6.bad)])],3⟩ | .Rl v0 v1 v2 v3 v4 v5 v6=>.h 1 ⟨100,[(2,.ptr 0 0),(4,.ptr 1 0),(6,.ptr 2 0),(7,.d (.raw (.func (.func 92) #[] #[]))),(69,.d (.slice .str v0)),(70,.d (.int .i64 v1)),(71,.d (.int .i64 v2))],[(0,.box [.d (.int .i64 v3.kind),.d (.str v3.text),.d (.slice .str v3.keys),.d (.slice .ah v3.kids)]),(1,.box [.d (.int .i64 v4),.d (.str v5),.d (.raw (.slice none 0 0)),.d (.raw (.slice none 0 0))]),(2,.box [.d (.int .i64 v6.n.kind),.d (.str v6.n.text),.d (.slice .str v6.n.keys),.d (.slice .ah v6.n.kids),.d (.bool v6.bad)])],3⟩) { live:=[(0,[4,6,7,27,28,29]),(1,[2,4,6,7,69,70,71])],oO:=[(0,[(6,some 2,false,.str),(6,some 3,false,.ah)]),(1,[(6,some 2,false,.str),(6,some 3,false,.ah)])] } Tryz.func44
def vS(x0:field)(x1 x2:anP):Te (field×(anP)) Empty:=.l (aj x0.n) fun z1=>.q ((fun n _=>fit n) z1 x1) (.b (!(aD z1 x1)) (.k (⟨z1,x0.left,x0.bad⟩,x2)) (.k (⟨z1,au (x0.left-1),aN x0.bad ((aJ z1 x1).kind != 1)⟩,(aJ z1 x1).text)))
def aW(x0:field)(x1 x2:anP):=(vS x0 x1 x2).o
def Xp:=aiv.b0 104 [.str,.str] [.str] .kR (fun x a=>vS x a.1 a.2) Tryz.func104
inductive Sn where
 | e (x0:anP) (x1:Int)
 | h0 (v0:anP) (v1:Int) (v2:Int) (v3:Bool) (v4:Int) (v5:Int)
def nX:Sn->Te (Int×Int) Sn
 | .e x0 x1=>.q (fV x0 0 || !((!(x0==[]))&&aF 1 (aC x0))) (.b (aN (x0==[]) (aab (aF 1 (aC x0)) (tH x0 0==48))) (.k (0,3)) (.g (.h0 x0 x1 0 false (aC x0) 0)))
 | .h0 v0 v1 v2 v3 v4 v5=>.b (aF v5 v4) (.s v0 v5 fun y1=>.l (au (au y1-48)) fun z2=>.l (aN (aN v3 (aF (au (Int.tdiv (au (v1-z2)) 10)) v2)) (aF v1 z2)) fun z1=>.b (aN (aF z2 0) (aF 9 z2)) (.k (0,3)) (.q ((!((10:Int)==0)) || !(!v3)) (.b (!z1) (.g (.h0 v0 v1 (au (au (v2*10)+z2)) z1 v4 (au (v5+1)))) (.g (.h0 v0 v1 v2 z1 v4 (au (v5+1))))))) (.b v3 (.k (0,9)) (.k (v2,0)))
def yN(x0:anP)(x1:Int):=mu nX (.e x0 x1)
def afB:=Xp.fl 160 [.str,.int] [.int,.aY] nX (fun a=>.e a.1 a.2) (fun | .e x0 x1=>.e [⟨.str,x0⟩,⟨.int,x1⟩] | .h0 v0 v1 v2 v3 v4 v5=>.h 0 ⟨61,[(0,.d (.str v0)),(1,.d (.int .i64 v1)),(6,.d (.int .i64 v2)),(7,.d (.bool v3)),(23,.d (.int .i64 v4)),(24,.d (.int .i64 v5))],[],0⟩) { live:=[(0,[0,1,6,7,23,24])] } Tryz.func160
def yO(x0:anP)(x1:Int):Te (Int×Int) Empty:=.b (aF x1 0) (.k (0,2)) (.c (yN x0 x1) fun y1=>.k (y1.1,y1.2))
def gN(x0:anP)(x1:Int):=(yO x0 x1).o
def afC:=afB.f0 115 [.str,.int] [.int,.aY] (fun a=>yO a.1 a.2) Tryz.func115
def qo(x0:field)(x1:anP):Te (field×Int) Empty:=.c (aW ⟨aj x0.n,x0.left,x0.bad⟩ x1 [48]) fun y1=>.l (aj ((y1.1).n)) fun z1=>.c (gN (y1.2) 65536) fun y2=>.q ((fun n _=>fit n) z1 x1) (.k (⟨z1,(y1.1).left,aN (aN (y1.1).bad (y2.2 != 0)) (aab (aD z1 x1) (y2.1==0))⟩,y2.1))
def kG(x0:field)(x1:anP):=(qo x0 x1).o
def UE:=afC.b0 110 [.str] [.int] .kR (fun x a=>qo x a) Tryz.func110
def Y3(x0:anP):Te (Bool) Empty:=.c (gN x0 255) fun y1=>.k (y1.2 != 0)
def Y4:=UE.f0 224 [.str] [.bool] (fun a=>Y3 a) Tryz.func224
inductive kH where
 | e (x0:List (anP))
 | h0 (v0:List (anP)) (v1:Int) (v2:Int)
def dG:kH->Te (Int) kH
 | .e x0=>.g (.h0 x0 (x0.length) 0)
 | .h0 v0 v1 v2=>.b (aF v2 v1) (.i v0 v2 fun y1=>.c (gN y1 255) fun y2=>.b (y2.2 != 0) (.k v2) (.g (.h0 v0 v1 (au (v2+1))))) (.k (-1))
def fI(x0:List (anP)):=mu dG (.e x0)
def sH:=(Y4.I 224 Tryz.func224).cl 235 [.int] [.v .dw,.c 224 [] []] dG (fun a=>.e a) (fun | .e x0=>.c [.v ⟨.dw,x0⟩,.c 224 [] []] | .h0 v0 v1 v2=>.h 0 ⟨19,[(0,.d (.slice .str v0)),(1,.d (.raw (.func (.func 224) #[] #[]))),(7,.d (.int .i64 v1)),(8,.d (.int .i64 v2))],[],0⟩) { live:=[(0,[0,1,7,8])] } Tryz.func235
def eU(x0:List (anP)):Te (Bool) Empty:=.c (fI x0) fun y1=>.k (bW 0 y1)
def cZ(x0:List (anP)):=(eU x0).o
def rz:=sH.c0 223 [.bool] [.v .dw,.c 224 [] []] (fun a=>eU a) Tryz.func223
def BA(x0:anP):Te (Bool) Empty:=.l (eT x0 [46] 0 (-1)) fun z2=>.l (cZ z2) fun z1=>.q (Rc x0 [46] 0 (-1)) (.q ((z1.isSome) || !(aC z2==4)) (.k (aab (aC z2==4) (!(gv z1)))))
def rW(x0:anP):=(BA x0).o
def acR:=((rz.R 197 YU apD).I 153 Tryz.func153).f0 196 [.str] [.bool] (fun a=>BA a) Tryz.func196 { frz:=[2] }
def Gb(x0:Port):Te (Bool) Empty:=.l (rW x0.host) fun z2=>.l (aab (aab (aab (aab (bW 1 x0.iW) (bW x0.iW 65535)) (bW 0 x0.out)) (bW x0.out 65535)) (aN (x0.proto==[116,99,112]) (x0.proto==[117,100,112]))) fun z1=>.q ((z2.isSome) || !(z1&&(!(x0.host==[])))) (.k (aab z1 (aN (x0.host==[]) (gv z2))))
def dH(x0:Port):=(Gb x0).o
def aiw:=acR.f0 152 [.kF] [.bool] (fun a=>Gb a) Tryz.func152
def IK(x0:Node):Te (Port×Bool) Empty:=.c (kG ⟨aj x0,aC x0.keys,(x0.kind != 3)⟩ [116,97,114,103,101,116]) fun y1=>.c (kG ⟨aj ((y1.1).n),(y1.1).left,(y1.1).bad⟩ [112,117,98,108,105,115,104,101,100]) fun y2=>.c (aW ⟨aj ((y2.1).n),(y2.1).left,(y2.1).bad⟩ [104,111,115,116,95,105,112] []) fun y3=>.c (aW ⟨aj ((y3.1).n),(y3.1).left,(y3.1).bad⟩ [112,114,111,116,111,99,111,108] [116,99,112]) fun y4=>.l (aab (!(y4.1).bad) ((y4.1).left==0)) fun z2=>.l (dH ⟨y3.2,y2.2,y1.2,y4.2⟩) fun z1=>.q ((z1.isSome) || !z2) (.k (⟨y3.2,y2.2,y1.2,y4.2⟩,aab z2 (gv z1)))
def IL(x0:Node):=(IK x0).o
def alb:=((aiw.I 103 Tryz.func103).I 105 Tryz.func105).f0 95 [.ah] [.kF,.bool] (fun a=>IK a) Tryz.func95
def DW(x0:anP):Te (Int) Empty:=.c (gN x0 65535) fun y1=>.b (aN (y1.2 != 0) (y1.1==0)) (.k (-1)) (.k y1.1)
def jL(x0:anP):=(DW x0).o
def afD:=alb.f0 154 [.str] [.int] (fun a=>DW a) Tryz.func154
def Gc(x0:anP):Te (Port×Int) Empty:=.l (qm x0 [47]) fun z4=>.l (dflt .str) fun z3=>.l (eT x0 [58] 0 (-1)) fun z2=>.l (au (aC z2-1)) fun z6=>.l (Am z2 0 z3) fun z5=>.l (eT (mg x0 [47]) [58] 0 (-1)) fun z1=>.l (au (aC z1-1)) fun z8=>.l (Am z1 0 z3) fun z7=>.q (uX x0 [47]) (.b (Ar x0 [47]) (.q (Rc (mg x0 [47]) [58] 0 (-1)) (.q (fV z1 z8) (.c (jL (Am z1 z8 z3)) fun y1=>.b (aC z1==1) (.c (dH ⟨[],0,y1,z4⟩) fun y2=>.b (!y2) (.k (⟨[],0,0,[]⟩,3)) (.k (⟨[],0,y1,z4⟩,0))) (.b (aC z1==2) (.q (fV z1 0) (.c (jL z7) fun y3=>.c (dH ⟨[],y3,y1,z4⟩) fun y4=>.b (!y4) (.k (⟨[],0,0,[]⟩,3)) (.k (⟨[],y3,y1,z4⟩,0)))) (.b (aC z1==3) (.q (fV z1 0) (.b (z7==[]) (.k (⟨[],0,0,[]⟩,3)) (.q (fV z1 1) (.b (!(Am z1 1 z3==[])) (.q (fV z1 1) (.c (jL (Am z1 1 z3)) fun y5=>.c (dH ⟨z7,y5,y1,z4⟩) fun y6=>.b (!y6) (.k (⟨[],0,0,[]⟩,3)) (.k (⟨z7,y5,y1,z4⟩,0)))) (.c (dH ⟨z7,0,y1,z4⟩) fun y7=>.b (!y7) (.k (⟨[],0,0,[]⟩,3)) (.k (⟨z7,0,y1,z4⟩,0))))))) (.k (⟨[],0,0,[]⟩,3))))))) (.q (Rc x0 [58] 0 (-1)) (.q (fV z2 z6) (.c (jL (Am z2 z6 z3)) fun y8=>.b (aC z2==1) (.c (dH ⟨[],0,y8,[116,99,112]⟩) fun y9=>.b (!y9) (.k (⟨[],0,0,[]⟩,3)) (.k (⟨[],0,y8,[116,99,112]⟩,0))) (.b (aC z2==2) (.q (fV z2 0) (.c (jL z5) fun iq=>.c (dH ⟨[],iq,y8,[116,99,112]⟩) fun xK=>.b (!xK) (.k (⟨[],0,0,[]⟩,3)) (.k (⟨[],iq,y8,[116,99,112]⟩,0)))) (.b (aC z2==3) (.q (fV z2 0) (.b (z5==[]) (.k (⟨[],0,0,[]⟩,3)) (.q (fV z2 1) (.b (!(Am z2 1 z3==[])) (.q (fV z2 1) (.c (jL (Am z2 1 z3)) fun nG=>.c (dH ⟨z5,nG,y8,[116,99,112]⟩) fun y13=>.b (!y13) (.k (⟨[],0,0,[]⟩,3)) (.k (⟨z5,nG,y8,[116,99,112]⟩,0)))) (.c (dH ⟨z5,0,y8,[116,99,112]⟩) fun zY=>.b (!zY) (.k (⟨[],0,0,[]⟩,3)) (.k (⟨z5,0,y8,[116,99,112]⟩,0))))))) (.k (⟨[],0,0,[]⟩,3))))))))
def Au(x0:anP):=(Gc x0).o
def aix:=afD.f0 96 [.str] [.kF,.aY] (fun a=>Gc a) Tryz.func96
inductive UF where
 | e (x0:Int)
 | h0 (v0:Int) (v1:Bool) (v2:Int) (v3:List Int)
def wG:UF->Te ((anP)) UF
 | .e x0=>.l (IntKind.wrap .u64 x0) fun z1=>.b (aF x0 0) (.g (.h0 20 (aF x0 0) (IntKind.wrap .u64 (0-z1)) [0,0,0,0,0,0,0,0,0,0,0,0,0,0,0,0,0,0,0,0])) (.g (.h0 20 (aF x0 0) z1 [0,0,0,0,0,0,0,0,0,0,0,0,0,0,0,0,0,0,0,0]))
 | .h0 v0 v1 v2 v3=>.l (!((10:Int)==0)) fun z4=>.l (IntKind.wrap .u64 (Int.tdiv v2 10)) fun z3=>.l (au (v0-1)) fun z2=>.l (au (z2-1)) fun z5=>.l (IntKind.wrap .u8 (IntKind.wrap .u64 (48+(Int.tmod v2 10)))) fun z1=>.q z4 (.q (bW 0 z2&&aF z2 20) (.q (Nat.blt (ny z2) v3.length) (.q z4 (.b (z3==0) (.b v1 (.q (bW 0 z5&&aF z5 20) (.q (Nat.blt (ny z5) (List.set v3 (ny z2) z1).length) (.q (Nat.beq (List.set (List.set v3 (ny z2) z1) (ny z5) 45).length 20&&(bW 0 z5&&bW z5 20&&bW 20 20)) (.k (List.map (fun y=>UInt8.ofNat (Int.toNat y)) (cut (List.set (List.set v3 (ny z2) z1) (ny z5) 45) z5 20)))))) (.q (Nat.beq (List.set v3 (ny z2) z1).length 20&&(bW 0 z2&&bW z2 20&&bW 20 20)) (.k (List.map (fun y=>UInt8.ofNat (Int.toNat y)) (cut (List.set v3 (ny z2) z1) z2 20))))) (.g (.h0 z2 v1 z3 (List.set v3 (ny z2) z1)))))))
def qp(x0:Int):=mu wG (.e x0)
def aiy:=aix.fl 111 [.int] [.str] wG (fun a=>.e a) (fun | .e x0=>.e [⟨.int,x0⟩] | .h0 v0 v1 v2 v3=>.h 0 ⟨34,[(3,.ptr 0 0),(4,.d (.int .i64 v0)),(5,.d (.bool v1)),(6,.d (.int .u64 v2))],[(0,.arr .byte v3 false)],1⟩) { live:=[(0,[3,4,5,6])],arr:=[(2,[(3,some .byte)]),(13,[(3,none)])] } Tryz.func111
def IQ(x0:Port):Te ((anP)) Empty:=.l (decide (x0.host.length+([58]:anP).length<=aA)) fun z5=>.l (([]:anP)++([58]:anP)) fun z4=>.l (qp x0.iW) fun z3=>.l (x0.proto==[117,100,112]) fun z2=>.l (x0.host++([58]:anP)) fun z1=>.l (z1++([]:anP)) fun z6=>.l (z6++([58]:anP)) fun z7=>.c (dH x0) fun y1=>.b (!y1) (.k []) (.b (aF 0 x0.out) (.c (qp x0.out) fun y2=>.l (z1++y2) fun sI=>.l (y2++([58]:anP)) fun z9=>.l (sI++([58]:anP)) fun z8=>.b (!(x0.host==[])) (.q z5 (.q (decide (z1.length+y2.length<=aA)) (.b (!(sI==[])) (.q (decide (sI.length+([58]:anP).length<=aA)) (.c z3 fun y3=>.q (decide (z8.length+y3.length<=aA)) (.b z2 (.q (decide ((z8++y3).length+([47,117,100,112]:anP).length<=aA)) (.k ((z8++y3)++([47,117,100,112]:anP)))) (.k (z8++y3))))) (.c z3 fun y4=>.l (sI++y4) fun Av=>.q (decide (sI.length+y4.length<=aA)) (.b z2 (.q (decide (Av.length+([47,117,100,112]:anP).length<=aA)) (.k (Av++([47,117,100,112]:anP)))) (.k Av)))))) (.b (!(y2==[])) (.q (decide (y2.length+([58]:anP).length<=aA)) (.c z3 fun y5=>.q (decide (z9.length+y5.length<=aA)) (.b z2 (.q (decide ((z9++y5).length+([47,117,100,112]:anP).length<=aA)) (.k ((z9++y5)++([47,117,100,112]:anP)))) (.k (z9++y5))))) (.c z3 fun y6=>.q (decide (y2.length+y6.length<=aA)) (.b z2 (.q (decide ((y2++y6).length+([47,117,100,112]:anP).length<=aA)) (.k ((y2++y6)++([47,117,100,112]:anP)))) (.k (y2++y6)))))) (.b (!(x0.host==[])) (.q z5 (.q (decide (z1.length+([]:anP).length<=aA)) (.b (!(z6==[])) (.q (decide (z6.length+([58]:anP).length<=aA)) (.c z3 fun y7=>.q (decide (z7.length+y7.length<=aA)) (.b z2 (.q (decide ((z7++y7).length+([47,117,100,112]:anP).length<=aA)) (.k ((z7++y7)++([47,117,100,112]:anP)))) (.k (z7++y7))))) (.c z3 fun y8=>.q (decide (z6.length+y8.length<=aA)) (.b z2 (.q (decide ((z6++y8).length+([47,117,100,112]:anP).length<=aA)) (.k ((z6++y8)++([47,117,100,112]:anP)))) (.k (z6++y8))))))) (.b (!(([]:anP)==[])) (.q (decide (([]:anP).length+([58]:anP).length<=aA)) (.c z3 fun y9=>.q (decide (z4.length+y9.length<=aA)) (.b z2 (.q (decide ((z4++y9).length+([47,117,100,112]:anP).length<=aA)) (.k ((z4++y9)++([47,117,100,112]:anP)))) (.k (z4++y9))))) (.c z3 fun iq=>.l (([]:anP)++iq) fun z12=>.q (decide (([]:anP).length+iq.length<=aA)) (.b z2 (.q (decide (z12.length+([47,117,100,112]:anP).length<=aA)) (.k (z12++([47,117,100,112]:anP)))) (.k z12))))))
def zk(x0:Port):=(IQ x0).o
def alc:=aiy.f0 97 [.kF] [.str] (fun a=>IQ a) Tryz.func97
inductive UG where
 | e (x0:Node)
 | h0 (v0:List Node) (v1:Int) (v2:Int) (v3:Int) (v4:anP) (v5:form)
 | h1 (v0:List (anP)) (v1:Int) (v2:Int) (v3:Node) (v4:Int) (v5:anP) (v6:form)
def qw:UG->Te (Node×Int) UG
 | .e x0=>.c (jR (aj x0) 2) fun y1=>.b y1 (.g (.h0 x0.kids (aC x0.kids) 0 0 [] ⟨⟨0,[],[],[]⟩,false⟩)) (.c (jR (aj x0) 3) fun y2=>.b y2 (.g (.h1 x0.keys (aC x0.keys) 0 x0 0 [] ⟨⟨0,[],[],[]⟩,false⟩)) (.c eD fun y3=>.k (aj (y3.1),y3.2)))
 | .h0 v0 v1 v2 v3 v4 v5=>.l (aj v5.n) fun z2=>.l (Am v0 v2 (dflt .ah)) fun z1=>.b (aF v2 v1) (.q (fV v0 v2) (.c (IL (aj z1)) fun y2=>.b (z1.kind==1) (.c (Au (z1.text)) fun y3=>.c (bY ⟨z2,v5.bad⟩ (!(y3.2==0))) fun y4=>.c (zk (y3.1)) fun y5=>.c (cB ⟨aj ((y4.1).n),(y4.1).bad⟩ y5 ⟨0,[],[],[]⟩) fun y6=>.g (.h0 v0 v1 (au (v2+1)) v3 v4 ⟨aj ((y6.1).n),(y6.1).bad⟩)) (.c (bY ⟨z2,v5.bad⟩ (!y2.2)) fun y7=>.c (zk (y2.1)) fun y8=>.c (cB ⟨aj ((y7.1).n),(y7.1).bad⟩ y8 ⟨0,[],[],[]⟩) fun y9=>.g (.h0 v0 v1 (au (v2+1)) v3 v4 ⟨aj ((y9.1).n),(y9.1).bad⟩)))) (.c (dD ⟨z2,v5.bad⟩) fun iq=>.k (aj (iq.2.1),iq.2.2))
 | .h1 v0 v1 v2 v3 v4 v5 v6=>.b (aF v2 v1) (.i v0 v2 fun y1=>.c (Au y1) fun y2=>.c (zk (y2.1)) fun y3=>.l (aN (!(y3==y1)) (y1==[])) fun z1=>.q (fV v3.kids v2 || !(!z1)) (.c (bY ⟨aj v6.n,v6.bad⟩ (aN z1 ((Am v3.kids v2 (dflt .ah)).kind != 0))) fun y4=>.c (cB ⟨aj ((y4.1).n),(y4.1).bad⟩ y1 ⟨0,[],[],[]⟩) fun y5=>.g (.h1 v0 v1 (au (v2+1)) v3 v4 v5 ⟨aj ((y5.1).n),(y5.1).bad⟩))) (.c (dD ⟨aj v6.n,v6.bad⟩) fun y6=>.k (aj (y6.2.1),y6.2.2))
def sJ(x0:Node):=mu qw (.e x0)
def aiz:=alc.fl 45 [.ah] [.ah,.aY] qw (fun a=>.e a) (fun | .e x0=>.e [⟨.ah,x0⟩] | .h0 v0 v1 v2 v3 v4 v5=>.h 0 ⟨92,[(2,.ptr 0 0),(4,.ptr 1 0),(21,.d (.slice .ah v0)),(22,.d (.int .i64 v1)),(23,.d (.int .i64 v2))],[(0,.box [.d (.int .i64 v3),.d (.str v4),.d (.raw (.slice none 0 0)),.d (.raw (.slice none 0 0))]),(1,.box [.d (.int .i64 v5.n.kind),.d (.str v5.n.text),.d (.slice .str v5.n.keys),.d (.slice .ah v5.n.kids),.d (.bool v5.bad)])],2⟩ | .h1 v0 v1 v2 v3 v4 v5 v6=>.h 1 ⟨92,[(1,.ptr 0 0),(2,.ptr 1 0),(4,.ptr 2 0),(55,.d (.slice .str v0)),(56,.d (.int .i64 v1)),(57,.d (.int .i64 v2))],[(0,.box [.d (.int .i64 v3.kind),.d (.str v3.text),.d (.slice .str v3.keys),.d (.slice .ah v3.kids)]),(1,.box [.d (.int .i64 v4),.d (.str v5),.d (.raw (.slice none 0 0)),.d (.raw (.slice none 0 0))]),(2,.box [.d (.int .i64 v6.n.kind),.d (.str v6.n.text),.d (.slice .str v6.n.keys),.d (.slice .ah v6.n.kids),.d (.bool v6.bad)])],3⟩) { live:=[(0,[2,4,21,22,23]),(1,[1,2,4,55,56,57])],oO:=[(0,[(4,some 2,false,.str),(4,some 3,false,.ah)]),(1,[(4,some 2,false,.str),(4,some 3,false,.ah)])] } Tryz.func45
def uL(x0:field)(x1:anP)(x2:Bool):Te (field×Bool) Empty:=.b x2 (.c (aW ⟨aj x0.n,x0.left,x0.bad⟩ x1 [116,114,117,101]) fun y1=>.l (y1.2==[116,114,117,101]) fun z1=>.k (⟨aj ((y1.1).n),(y1.1).left,aN (y1.1).bad (aab (!z1) (!(y1.2==[102,97,108,115,101])))⟩,z1)) (.c (aW ⟨aj x0.n,x0.left,x0.bad⟩ x1 [102,97,108,115,101]) fun y2=>.l (y2.2==[116,114,117,101]) fun z2=>.k (⟨aj ((y2.1).n),(y2.1).left,aN (y2.1).bad (aab (!z2) (!(y2.2==[102,97,108,115,101])))⟩,z2))
def fq(x0:field)(x1:anP)(x2:Bool):=(uL x0 x1 x2).o
def UH:=aiz.b0 106 [.str,.bool] [.bool] .kR (fun x a=>uL x a.1 a.2) Tryz.func106
inductive UJ where
 | e (x0:anP)
 | h0 (v0:anP) (v1:Int) (v2:Int)
def wH:UJ->Te (Bool) UJ
 | .e x0=>.g (.h0 x0 (x0.length) 0)
 | .h0 v0 v1 v2=>.b (aF v2 v1) (.s v0 v2 fun y1=>.b (aab (aab (aab (aN (aF y1 97) (aF 122 y1)) (aN (aF y1 65) (aF 90 y1))) (aN (aF y1 48) (aF 57 y1))) (aF (HY [46,95,45,47] y1) 0)) (.k false) (.g (.h0 v0 v1 (au (v2+1))))) (.k (aab (!(v0==[])) (bW (aC v0) 64)))
def iR(x0:anP):=mu wH (.e x0)
def UK:=UH.fl 200 [.str] [.bool] wH (fun a=>.e a) (fun | .e x0=>.e [⟨.str,x0⟩] | .h0 v0 v1 v2=>.h 0 ⟨48,[(0,.d (.str v0)),(6,.d (.int .i64 v1)),(7,.d (.int .i64 v2))],[],0⟩) { live:=[(0,[0,6,7])] } Tryz.func200
def aaX(x0 x1:anP):Te (Int) Empty:=.q (uX x0 x1) (.k (ql x0 x1))
def aaY:=(UK.W 195 Q7 Uv).f0 227 [.str,.str] [.int] (fun a=>aaX a.1 a.2) Tryz.func227
def BF(x0:anP):Te (Bool) Empty:=.c (iP x0) fun y1=>.k y1
def H6(x0:anP):=(BF x0).o
def acS:=aaY.f0 199 [.str] [.bool] (fun a=>BF a) Tryz.func199
inductive aaZ where
 | e (x0:Node)
 | h0 (v0:List (anP)) (v1:Bool) (v2:List Node) (v3:Int) (v4:Int) (v5:Int) (v6:anP) (v7:form)
 | h1 (v0:List (anP)) (v1:Int) (v2:Int) (v3:Int) (v4:anP) (v5:form)
def uM:aaZ->Te (Node×Int) aaZ
 | .e x0=>.c (nE (aj x0)) fun y1=>.c (jR (aj x0) 3) fun y2=>.b y2 (.g (.h0 x0.keys true x0.kids (aC x0.kids) 0 0 [] ⟨⟨0,[],[],[]⟩,false⟩)) (.c (bY ⟨⟨0,[],[],[]⟩,false⟩ (!y1.2)) fun y3=>.g (.h1 (y1.1) (aC (y1.1)) 0 0 [] ⟨aj ((y3.1).n),(y3.1).bad⟩))
 | .h0 v0 v1 v2 v3 v4 v5 v6 v7=>.b (aF v4 v3) (.i v2 v4 fun y1=>.c (bY ⟨aj v7.n,v7.bad⟩ (aab (y1.kind != 0) (aN (y1.kind != 3) (aF 0 (aC (y1.keys)))))) fun y2=>.g (.h0 v0 v1 v2 v3 (au (v4+1)) v5 v6 ⟨aj ((y2.1).n),(y2.1).bad⟩)) (.c (bY ⟨aj v7.n,v7.bad⟩ (!v1)) fun y3=>.g (.h1 v0 (aC v0) 0 v5 v6 ⟨aj ((y3.1).n),(y3.1).bad⟩))
 | .h1 v0 v1 v2 v3 v4 v5=>.b (aF v2 v1) (.i v0 v2 fun y1=>.c (iP y1) fun y2=>.c (bY ⟨aj v5.n,v5.bad⟩ (!y2)) fun y3=>.c (cB ⟨aj ((y3.1).n),(y3.1).bad⟩ y1 ⟨0,[],[],[]⟩) fun y4=>.g (.h1 v0 v1 (au (v2+1)) v3 v4 ⟨aj ((y4.1).n),(y4.1).bad⟩)) (.c (dD ⟨aj v5.n,v5.bad⟩) fun y5=>.k (aj (y5.2.1),y5.2.2))
def nH(x0:Node):=mu uM (.e x0)
def apF:=acS.fl 30 [.ah] [.ah,.aY] uM (fun a=>.e a) (fun | .e x0=>.e [⟨.ah,x0⟩] | .h0 v0 v1 v2 v3 v4 v5 v6 v7=>.h 0 ⟨63,[(2,.ptr 0 0),(4,.ptr 1 0),(5,.d (.slice .str v0)),(6,.d (.bool v1)),(21,.d (.slice .ah v2)),(22,.d (.int .i64 v3)),(23,.d (.int .i64 v4))],[(0,.box [.d (.int .i64 v5),.d (.str v6),.d (.raw (.slice none 0 0)),.d (.raw (.slice none 0 0))]),(1,.box [.d (.int .i64 v7.n.kind),.d (.str v7.n.text),.d (.slice .str v7.n.keys),.d (.slice .ah v7.n.kids),.d (.bool v7.bad)])],2⟩ | .h1 v0 v1 v2 v3 v4 v5=>.h 1 ⟨63,[(2,.ptr 0 0),(4,.ptr 1 0),(46,.d (.slice .str v0)),(47,.d (.int .i64 v1)),(48,.d (.int .i64 v2))],[(0,.box [.d (.int .i64 v3),.d (.str v4),.d (.raw (.slice none 0 0)),.d (.raw (.slice none 0 0))]),(1,.box [.d (.int .i64 v5.n.kind),.d (.str v5.n.text),.d (.slice .str v5.n.keys),.d (.slice .ah v5.n.kids),.d (.bool v5.bad)])],2⟩) { live:=[(0,[2,4,5,6,21,22,23]),(1,[2,4,46,47,48])],oO:=[(0,[(4,some 2,false,.str),(4,some 3,false,.ah)])] } Tryz.func30
def IU(x0:Bool):Te (Node) Empty:=.b x0 (.k (aj (dz [116,114,117,101]))) (.k (aj (dz [102,97,108,115,101])))
def lH(x0:Bool):=(IU x0).o
def ald:=apF.f0 112 [.bool] [.ah] (fun a=>IU a) Tryz.func112
inductive G9 where
 | e (x0:budget) (x1:Node) (x2:Int)
 | h0 (v0:Int) (v1:List Node) (v2:Int) (v3:Int) (v4:Int)
def fF(self:budget->Node->Int->Option (budget×Bool)):G9->Te (budget×Bool) G9
 | .e x0 x1 x2=>.l (x1.text==[]) fun z4=>.l (aC x1.kids) fun z3=>.l (aC x1.keys) fun z2=>.l (aN (!z4) (z2 != z3)) fun z6=>.l (au (z2+z3)==0) fun z5=>.l (au (x0.left-1)) fun z1=>.l (aN z6 (aF z1 z2)) fun z7=>.b (aN (aF z1 0) (aF 12 x2)) (.k (⟨z1⟩,false)) (.b (x1.kind==0) (.k (⟨z1⟩,aab z4 z5)) (.b (x1.kind==1) (.k (⟨z1⟩,z5)) (.b (x1.kind==2) (.b (aN (!z4) (aF 0 z2)) (.k (⟨z1⟩,false)) (.g (.h0 x2 x1.kids z3 0 z1))) (.b (x1.kind==3) (.q (pE x1.keys || !(!z7)) (.b (aN z7 (aC (Pl.bn x1.keys)!=z2)) (.k (⟨z1⟩,false)) (.g (.h0 x2 x1.kids z3 0 z1)))) (.k (⟨z1⟩,false))))))
 | .h0 v0 v1 v2 v3 v4=>.b (aF v3 v2) (.i v1 v3 fun y1=>.c (self ⟨v4⟩ (aj y1) (au (v0+1))) fun y2=>.b (!y2.2) (.k ((y2.1),false)) (.g (.h0 v0 v1 v2 (au (v3+1)) ((y2.1).left)))) (.k (⟨v4⟩,true))
def fG(n:Nat):budget->Node->Int->Option (budget×Bool):=Nat.rec (motive:=fun _=>budget->Node->Int->Option (budget×Bool)) (fun _ _ _=>none) (fun _ self x0 x1 x2=>mu (fF self) (.e x0 x1 x2)) n
def Tn(x0:budget)(x1:Node)(x2:Int):Option (budget×Bool):=fG IB x0 x1 x2
def Tp:=(ald.W 26 Ju Q6).br 77 [.ah,.int] [.bool] .kL (fun n x a=>fG n x a.1 a.2) (fun S=>fF fun x0 x1 x2=>S x0 (x1,x2)) (fun x a=>.e x a.1 a.2) (fun | .e x0 x1 x2=>.e [⟨.kL,x0⟩,⟨.ah,x1⟩,⟨.int,x2⟩] | .h0 v0 v1 v2 v3 v4=>.h 0 ⟨111,[(0,.ptr 0 0),(2,.d (.int .i64 v0)),(98,.d (.slice .ah v1)),(99,.d (.int .i64 v2)),(100,.d (.int .i64 v3))],[(0,.box [.d (.int .i64 v4)])],1⟩) { live:=[(0,[0,2,98,99,100])],own:=1 } Tryz.func77
def Gd(x0:Node):Te (Bool) Empty:=.c (Tn ⟨2000⟩ (aj x0) 1) fun y1=>.k y1.2
def Aw(x0:Node):=(Gd x0).o
def aiA:=Tp.f0 31 [.ah] [.bool] (fun a=>Gd a) Tryz.func31
def KF(x0:List (anP))(x1:List Node):Te (Node) Empty:=.q (decide (x0.length*16<=aB)) (.q (decide (x1.length*72<=aB)) (.c (Aw ⟨3,[],x0,x1⟩) fun y1=>.b (!y1) (.k ⟨0,[],[],[]⟩) (.k ⟨3,[],x0,x1⟩)))
def lX(x0:List (anP))(x1:List Node):=(KF x0 x1).o
def apG:=((aiA.R 83 (O5 25) (Iz (T:=23) (b:=4) (e:=25) (fn:=Tryz.f83) (by kernel_rfl) (by kernel_rfl) (by kernel_rfl) (by kernel_rfl) (by kernel_rfl) (by kernel_rfl))).R 82 (O5 9) (Iz (T:=22) (b:=4) (e:=9) (fn:=Tryz.f82) (by kernel_rfl) (by kernel_rfl) (by kernel_rfl) (by kernel_rfl) (by kernel_rfl) (by kernel_rfl))).f0 102 [.dw,.nA] [.ah] (fun a=>KF a.1 a.2) Tryz.func102
def IV(x0:Node):Te (Node×Bool) Empty:=.b (x0.kind==0) (.c (aW ⟨⟨3,x0.text,x0.keys,x0.kids⟩,aC x0.keys,false⟩ [99,111,110,100,105,116,105,111,110] [115,101,114,118,105,99,101,95,115,116,97,114,116,101,100]) fun y1=>.c (fq ⟨aj ((y1.1).n),(y1.1).left,(y1.1).bad⟩ [114,101,115,116,97,114,116] false) fun y2=>.c (fq ⟨aj ((y2.1).n),(y2.1).left,(y2.1).bad⟩ [114,101,113,117,105,114,101,100] true) fun y3=>.c (lH (y3.2)) fun y4=>.c (lH (y2.2)) fun y5=>.c (lX [[99,111,110,100,105,116,105,111,110],[114,101,113,117,105,114,101,100],[114,101,115,116,97,114,116]] [dz (y1.2),y4,y5]) fun y6=>.k (aj y6,aab (!(aN (y3.1).bad (aab (aab (!(y1.2==[115,101,114,118,105,99,101,95,115,116,97,114,116,101,100])) (!(y1.2==[115,101,114,118,105,99,101,95,104,101,97,108,116,104,121]))) (!(y1.2==[115,101,114,118,105,99,101,95,99,111,109,112,108,101,116,101,100,95,115,117,99,99,101,115,115,102,117,108,108,121]))))) ((y3.1).left==0))) (.c (aW ⟨aj x0,aC x0.keys,(x0.kind != 3)⟩ [99,111,110,100,105,116,105,111,110] [115,101,114,118,105,99,101,95,115,116,97,114,116,101,100]) fun y7=>.c (fq ⟨aj ((y7.1).n),(y7.1).left,(y7.1).bad⟩ [114,101,115,116,97,114,116] false) fun y8=>.c (fq ⟨aj ((y8.1).n),(y8.1).left,(y8.1).bad⟩ [114,101,113,117,105,114,101,100] true) fun y9=>.c (lH (y9.2)) fun iq=>.c (lH (y8.2)) fun xK=>.c (lX [[99,111,110,100,105,116,105,111,110],[114,101,113,117,105,114,101,100],[114,101,115,116,97,114,116]] [dz (y7.2),iq,xK]) fun nG=>.k (aj nG,aab (!(aN (y9.1).bad (aab (aab (!(y7.2==[115,101,114,118,105,99,101,95,115,116,97,114,116,101,100])) (!(y7.2==[115,101,114,118,105,99,101,95,104,101,97,108,116,104,121]))) (!(y7.2==[115,101,114,118,105,99,101,95,99,111,109,112,108,101,116,101,100,95,115,117,99,99,101,115,115,102,117,108,108,121]))))) ((y9.1).left==0)))
def CQ(x0:Node):=(IV x0).o
def ale:=apG.f0 101 [.ah] [.ah,.bool] (fun a=>IV a) Tryz.func101
inductive XU where
 | e (x0:Node)
 | h0 (v0:List (anP)) (v1:Int) (v2:Int) (v3:Node) (v4:Int) (v5:anP) (v6:form)
def zl:XU->Te (Node×Int) XU
 | .e x0=>.c (nE (aj x0)) fun y1=>.c (jR (aj x0) 3) fun y2=>.b y2 (.c (bY ⟨⟨0,[],[],[]⟩,false⟩ (!true)) fun y3=>.g (.h0 x0.keys (aC x0.keys) 0 x0 0 [] ⟨aj ((y3.1).n),(y3.1).bad⟩)) (.c (bY ⟨⟨0,[],[],[]⟩,false⟩ (!y1.2)) fun y4=>.g (.h0 (y1.1) (aC (y1.1)) 0 x0 0 [] ⟨aj ((y4.1).n),(y4.1).bad⟩))
 | .h0 v0 v1 v2 v3 v4 v5 v6=>.l (aj v6.n) fun z1=>.b (aF v2 v1) (.i v0 v2 fun y1=>.l (iP y1) fun z2=>.b (v3.kind==3) (.i v3.kids v2 fun y2=>.c (CQ (aj y2)) fun y3=>.q ((z2.isSome) || !(!(!y3.2))) (.c (bY ⟨z1,v6.bad⟩ (aN (!y3.2) (!(gv z2)))) fun y4=>.c (cB ⟨aj ((y4.1).n),(y4.1).bad⟩ y1 (aj (y3.1))) fun y5=>.g (.h0 v0 v1 (au (v2+1)) v3 v4 v5 ⟨aj ((y5.1).n),(y5.1).bad⟩))) (.c (CQ ⟨0,[],[],[]⟩) fun y6=>.q ((z2.isSome) || !(!(!y6.2))) (.c (bY ⟨z1,v6.bad⟩ (aN (!y6.2) (!(gv z2)))) fun y7=>.c (cB ⟨aj ((y7.1).n),(y7.1).bad⟩ y1 (aj (y6.1))) fun y8=>.g (.h0 v0 v1 (au (v2+1)) v3 v4 v5 ⟨aj ((y8.1).n),(y8.1).bad⟩)))) (.c (dD ⟨z1,v6.bad⟩) fun y9=>.k (aj (y9.2.1),y9.2.2))
def zm(x0:Node):=mu zl (.e x0)
def alf:=ale.fl 47 [.ah] [.ah,.aY] zl (fun a=>.e a) (fun | .e x0=>.e [⟨.ah,x0⟩] | .h0 v0 v1 v2 v3 v4 v5 v6=>.h 0 ⟨59,[(1,.ptr 0 0),(2,.ptr 1 0),(4,.ptr 2 0),(24,.d (.slice .str v0)),(25,.d (.int .i64 v1)),(26,.d (.int .i64 v2))],[(0,.box [.d (.int .i64 v3.kind),.d (.str v3.text),.d (.slice .str v3.keys),.d (.slice .ah v3.kids)]),(1,.box [.d (.int .i64 v4),.d (.str v5),.d (.raw (.slice none 0 0)),.d (.raw (.slice none 0 0))]),(2,.box [.d (.int .i64 v6.n.kind),.d (.str v6.n.text),.d (.slice .str v6.n.keys),.d (.slice .ah v6.n.kids),.d (.bool v6.bad)])],3⟩) { live:=[(0,[1,2,4,24,25,26])] } Tryz.func47
def BG(x0:Node):Te (Node×Int) Empty:=.l (aj x0) fun z1=>.b (x0.kind==1) (.c (lX [[115,101,114,118,105,99,101]] [z1]) fun y1=>.l (aj y1) fun z2=>.c (aW ⟨z2,aC (y1.keys),(y1.kind != 3)⟩ [115,101,114,118,105,99,101] []) fun y2=>.l (iP (y2.2)) fun z3=>.c (aW ⟨aj ((y2.1).n),(y2.1).left,(y2.1).bad⟩ [102,105,108,101] [120]) fun y3=>.l (!(aab (!(y3.1).bad) ((y3.1).left==0))) fun z4=>.q ((z3.isSome) || !(!z4)) (.b (aN (aN (aN z4 (!(gv z3))) (y3.2==[])) (aF 64 (aC (y3.2)))) (.c eD fun y4=>.k (aj (y4.1),y4.2)) (.q ((wg 10000 1000) z2) (.k (aj ((dR 1000) z2),0))))) (.c (aW ⟨z1,aC x0.keys,(x0.kind != 3)⟩ [115,101,114,118,105,99,101] []) fun y5=>.l (iP (y5.2)) fun z5=>.c (aW ⟨aj ((y5.1).n),(y5.1).left,(y5.1).bad⟩ [102,105,108,101] [120]) fun y6=>.l (!(aab (!(y6.1).bad) ((y6.1).left==0))) fun z6=>.q ((z5.isSome) || !(!z6)) (.b (aN (aN (aN z6 (!(gv z5))) (y6.2==[])) (aF 64 (aC (y6.2)))) (.c eD fun y7=>.k (aj (y7.1),y7.2)) (.q ((wg 10000 1000) z1) (.k (aj ((dR 1000) z1),0)))))
def rX(x0:Node):=(BG x0).o
def acT:=alf.f0 48 [.ah] [.ah,.aY] (fun a=>BG a) Tryz.func48
inductive XV where
 | e (x0:anP)
 | h0 (v0:anP) (v1:Int) (v2:Int)
def zo:XV->Te (Bool) XV
 | .e x0=>.g (.h0 x0 (x0.length) 0)
 | .h0 v0 v1 v2=>.b (aF v2 v1) (.s v0 v2 fun y1=>.b (aab (aab (aab (aN (aF y1 97) (aF 122 y1)) (aN (aF y1 65) (aF 90 y1))) (aN (aF y1 48) (aF 57 y1))) (aF (HY [46,95,45,47,58,61,44,43,64,37] y1) 0)) (.k false) (.g (.h0 v0 v1 (au (v2+1))))) (.k (!(v0==[])))
def IW(x0:anP):=mu zo (.e x0)
def alg:=acT.fl 201 [.str] [.bool] zo (fun a=>.e a) (fun | .e x0=>.e [⟨.str,x0⟩] | .h0 v0 v1 v2=>.h 0 ⟨43,[(0,.d (.str v0)),(6,.d (.int .i64 v1)),(7,.d (.int .i64 v2))],[],0⟩) { live:=[(0,[0,6,7])] } Tryz.func201
inductive XW where
 | e (x0:List (anP))
 | h0 (v0:List (anP)) (v1:List (anP)) (v2:Int) (v3:Int)
def zq:XW->Te ((anP)) XW
 | .e x0=>.g (.h0 [] x0 (x0.length) 0)
 | .h0 v0 v1 v2 v3=>.b (aF v3 v2) (.i v1 v3 fun y1=>.l ((fun s old new=>XT s old new (-1)) y1 [39] [39,92,39,39]) fun z1=>.l (([39]:anP)++z1) fun z2=>.l (z2++([39]:anP)) fun z3=>.c (IW y1) fun y2=>.b (!y2) (.q ((fun s old new=>UA s old new (-1)) y1 [39] [39,92,39,39]) (.q (decide (([39]:anP).length+z1.length<=aA)) (.q (decide (z2.length+([39]:anP).length<=aA)) (.q (decide ((v0.length+([z3]:List (anP)).length)*16<=aB)) (.g (.h0 (v0++([z3]:List (anP))) v1 v2 (au (v3+1)))))))) (.q (decide ((v0.length+([y1]:List (anP)).length)*16<=aB)) (.g (.h0 (v0++([y1]:List (anP))) v1 v2 (au (v3+1)))))) (.q (acL v0 [32]) (.k (Lib.join v0 [32])))
def IX(x0:List (anP)):=mu zq (.e x0)
def alh:=(alg.W 202 acN avo).fl 156 [.dw] [.str] zq (fun a=>.e a) (fun | .e x0=>.e [⟨.dw,x0⟩] | .h0 v0 v1 v2 v3=>.h 0 ⟨26,[(3,.grow .str v0 0),(6,.d (.slice .str v1)),(7,.d (.int .i64 v2)),(8,.d (.int .i64 v3))],[(0,.tail true)],1⟩) { live:=[(0,[3,6,7,8])],oO:=[(0,[(3,none,true,.str)])] } Tryz.func156
def IY(x0:Node):Te ((anP)×Bool×Bool) Empty:=.b (x0.kind==1) (.k (x0.text,false,true)) (.c (nE (aj x0)) fun y1=>.l (aC (y1.1)) fun z1=>.b (aN (!y1.2) (z1==0)) (.k ([],false,false)) (.i y1.1 0 fun y2=>.b (y2==[78,79,78,69]) (.k ([],true,(z1==1))) (.b (y2==[67,77,68,45,83,72,69,76,76]) (.b (z1==2) (.i y1.1 1 fun y3=>.k (y3,false,true)) (.k ([],false,false))) (.b (y2==[67,77,68]) (.q (bM (y1.1) 1 z1) (.c (IX (cut (y1.1) 1 z1)) fun y4=>.k (y4,false,aF 1 z1))) (.k ([],false,false))))))
def IZ(x0:Node):=(IY x0).o
def ali:=alh.f0 107 [.ah] [.str,.bool,.bool] (fun a=>IY a) Tryz.func107
inductive Sq where
 | e (x0:anP)
 | h0 (v0:anP) (v1:Int)
def ug:Sq->Te (Int) Sq
 | .e x0=>.g (.h0 x0 0)
 | .h0 v0 v1=>.l (aab (aF v1 (aC v0)) (bW 48 (tH v0 v1))) fun z1=>.q (fV v0 v1 || !(aF v1 (aC v0))) (.q (fV v0 v1 || !z1) (.b (aab z1 (bW (tH v0 v1) 57)) (.g (.h0 v0 (au (v1+1)))) (.k v1)))
def nY(x0:anP):=mu ug (.e x0)
def afE:=ali.fl 157 [.str] [.int] ug (fun a=>.e a) (fun | .e x0=>.e [⟨.str,x0⟩] | .h0 v0 v1=>.h 0 ⟨23,[(0,.d (.str v0)),(3,.d (.int .i64 v1))],[],0⟩) { live:=[(0,[0,3])] } Tryz.func157
def KG(x0:anP):Te (Int×Int×Int) Empty:=.b (x0==[]) (.k (0,0,0)) (.s x0 0 fun y1=>.b (y1==104) (.k (1,3600000,1)) (.b (y1==109) (.q (fV x0 1 || !(!(aF (aC x0) 2))) (.b (aN (aF (aC x0) 2) (tH x0 1 != 115)) (.k (2,60000,1)) (.k (4,1,2)))) (.b (y1==115) (.k (3,1000,1)) (.k (0,0,0)))))
def pG(x0:anP):=(KG x0).o
def apH:=afE.f0 158 [.str] [.int,.int,.int] (fun a=>KG a) Tryz.func158
inductive XY where
 | e (x0:anP)
 | h0 (v0:anP) (v1:Int) (v2:Int) (v3:Bool) (v4:Int)
def CS:XY->Te (Int×Int) XY
 | .e x0=>.g (.h0 x0 0 0 false 0)
 | .h0 v0 v1 v2 v3 v4=>.l (au (1099511627776-v1)) fun z1=>.b (aN (aF v4 (aC v0)) (v2==0)) (.q (bM v0 v4 (aC v0)) (.c (nY (cut v0 v4 (aC v0))) fun y1=>.l (au (v4+y1)) fun z2=>.q (bM v0 v4 z2) (.c (gN (cut v0 v4 z2) 1099511627776) fun y2=>.l (aN v3 (y2.2 != 0)) fun z3=>.q (bM v0 z2 (aC v0)) (.c (pG (cut v0 z2 (aC v0))) fun y3=>.l (au (z2+y3.2.2)) fun z5=>.l (aN z3 (aF (au (Int.tdiv z1 y3.2.1)) y2.1)) fun z4=>.b (aN (aN (y2.2==3) (y3.2.2==0)) (bW y3.1 v2)) (.k (0,3)) (.b (aab (aab (y2.2==0) (y2.1==0)) (aN (aF 0 v2) (aF z5 (aC v0)))) (.k (0,3)) (.q ((!(y3.2.1==0)) || !(!z3)) (.b (!z4) (.g (.h0 v0 (au (v1+au (y2.1*y3.2.1))) (y3.1) z4 z5)) (.g (.h0 v0 v1 (y3.1) z4 z5))))))))) (.b v3 (.k (0,9)) (.k (v1,0)))
def I4(x0:anP):=mu CS (.e x0)
def alj:=apH.fl 108 [.str] [.int,.aY] CS (fun a=>.e a) (fun | .e x0=>.e [⟨.str,x0⟩] | .h0 v0 v1 v2 v3 v4=>.h 0 ⟨105,[(0,.d (.str v0)),(4,.d (.int .i64 v1)),(5,.d (.int .i64 v2)),(6,.d (.bool v3)),(7,.d (.int .i64 v4))],[],0⟩) { live:=[(0,[0,4,5,6,7])] } Tryz.func108
inductive aa0 where
 | e (x0:Int)
 | h0 (v0:Int) (v1:anP) (v2:Ut) (v3:Int)
def BH:aa0->Te ((anP)) aa0
 | .e x0=>.b (aN (aF x0 0) (aF 1099511627776 x0)) (.k []) (.b (x0==0) (.k [48,115]) (.g (.h0 x0 [] ⟨⟨3600000,[104]⟩,⟨60000,[109]⟩,⟨1000,[115]⟩,⟨1,[109,115]⟩⟩ 0)))
 | .h0 v0 v1 v2 v3=>.l (Am [v2.e0,v2.e1,v2.e2,v2.e3] v3 (dflt .Bv)) fun z1=>.l (au (Int.tdiv v0 z1.long)) fun z2=>.b (aF v3 4) (.q (bW 0 v3&&aF v3 4) (.q (!(z1.long==0)) (.b (aF 0 z2) (.c (qp z2) fun y1=>.q (decide (y1.length+(z1.name).length<=aA)) (.q (decide (v1.length+(y1++z1.name).length<=aA)) (.g (.h0 (au (v0-au (z2*z1.long))) (v1++(y1++z1.name)) v2 (au (v3+1)))))) (.g (.h0 v0 v1 v2 (au (v3+1))))))) (.k v1)
def KH(x0:Int):=mu BH (.e x0)
def apI:=alj.fl 109 [.int] [.str] BH (fun a=>.e a) (fun | .e x0=>.e [⟨.int,x0⟩] | .h0 v0 v1 v2 v3=>.h 0 ⟨46,[(0,.d (.int .i64 v0)),(3,.d (.str v1)),(21,.st .sF v2),(22,.d (.int .i64 v3))],[],0⟩) { live:=[(0,[0,3,21,22])] } Tryz.func109
inductive Sr where
 | e (x0:Node)
 | h0 (v0:Bool) (v1:List (anP)) (v2:Int) (v3:Int) (v4:Node) (v5:Int) (v6:anP) (v7:form) (v8:field)
def uh:Sr->Te (Node×Int) Sr
 | .e x0=>.l (aj x0) fun z2=>.l (aC ([[105,110,116,101,114,118,97,108],[115,116,97,114,116,95,112,101,114,105,111,100]]:List (anP))) fun z1=>.c (fq ⟨z2,aC x0.keys,(x0.kind != 3)⟩ [100,105,115,97,98,108,101] false) fun y1=>.l (aj ((y1.1).n)) fun z3=>.q ((fun n _=>fit n) z2 [116,101,115,116]) (.b (aD z2 [116,101,115,116]) (.c (IZ (aj (aJ z2 [116,101,115,116]))) fun y2=>.c (cB ⟨⟨0,[],[],[]⟩,false⟩ [116,101,115,116] (dz (y2.1))) fun y3=>.g (.h0 (aN y1.2 y2.2.1) [[105,110,116,101,114,118,97,108],[115,116,97,114,116,95,112,101,114,105,111,100]] z1 0 x0 0 [] ⟨aj ((y3.1).n),(y3.1).bad⟩ ⟨z3,au ((y1.1).left-1),aN (y1.1).bad (!y2.2.2)⟩)) (.g (.h0 (y1.2) [[105,110,116,101,114,118,97,108],[115,116,97,114,116,95,112,101,114,105,111,100]] z1 0 x0 0 [] ⟨⟨0,[],[],[]⟩,false⟩ ⟨z3,(y1.1).left,(y1.1).bad⟩)))
 | .h0 v0 v1 v2 v3 v4 v5 v6 v7 v8=>.l (aj v7.n) fun z1=>.b (aF v3 v2) (.i v1 v3 fun y1=>.l (y1==[105,110,116,101,114,118,97,108]) fun z2=>.c (aW ⟨aj v8.n,v8.left,v8.bad⟩ y1 [49,115]) fun y2=>.l (aj ((y2.1).n)) fun z3=>.c (I4 (y2.2)) fun y3=>.l (aN (aN (y2.1).bad (y3.2 != 0)) (aab z2 (y3.1==0))) fun z4=>.q ((fun n _=>fit n) (aj v4) y1) (.b (aD (aj v4) y1) (.c (KH (y3.1)) fun y4=>.c (cB ⟨z1,v7.bad⟩ y1 (dz y4)) fun y5=>.g (.h0 v0 v1 v2 (au (v3+1)) v4 v5 v6 ⟨aj ((y5.1).n),(y5.1).bad⟩ ⟨z3,(y2.1).left,z4⟩)) (.g (.h0 v0 v1 v2 (au (v3+1)) v4 v5 v6 ⟨z1,v7.bad⟩ ⟨z3,(y2.1).left,z4⟩)))) (.c (kG ⟨aj v8.n,v8.left,v8.bad⟩ [114,101,116,114,105,101,115]) fun y6=>.b (aF 0 y6.2) (.c (qp (y6.2)) fun y7=>.c (cB ⟨z1,v7.bad⟩ [114,101,116,114,105,101,115] (dz y7)) fun y8=>.b (!(aab (!(aN (y6.1).bad (aF 10 y6.2))) ((y6.1).left==0))) (.c eD fun y9=>.k (aj (y9.1),y9.2)) (.b v0 (.c (lH true) fun iq=>.c (cB ⟨⟨0,[],[],[]⟩,false⟩ [100,105,115,97,98,108,101] iq) fun xK=>.c (dD ⟨aj ((xK.1).n),(xK.1).bad⟩) fun nG=>.k (aj (nG.2.1),nG.2.2)) (.c (dD ⟨aj ((y8.1).n),(y8.1).bad⟩) fun y13=>.k (aj (y13.2.1),y13.2.2)))) (.b (!(aab (!(y6.1).bad) ((y6.1).left==0))) (.c eD fun zY=>.k (aj (zY.1),zY.2)) (.b v0 (.c (lH true) fun y15=>.c (cB ⟨⟨0,[],[],[]⟩,false⟩ [100,105,115,97,98,108,101] y15) fun UL=>.c (dD ⟨aj ((UL.1).n),(UL.1).bad⟩) fun UM=>.k (aj (UM.2.1),UM.2.2)) (.c (dD ⟨z1,v7.bad⟩) fun UN=>.k (aj (UN.2.1),UN.2.2)))))
def uj(x0:Node):=mu uh (.e x0)
def afF:=apI.fl 49 [.ah] [.ah,.aY] uh (fun a=>.e a) (fun | .e x0=>.e [⟨.ah,x0⟩] | .h0 v0 v1 v2 v3 v4 v5 v6 v7 v8=>.h 0 ⟨139,[(1,.ptr 0 0),(2,.ptr 1 0),(4,.ptr 2 0),(5,.ptr 3 0),(6,.d (.bool v0)),(61,.d (.slice .str v1)),(62,.d (.int .i64 v2)),(63,.d (.int .i64 v3))],[(0,.box [.d (.int .i64 v4.kind),.d (.str v4.text),.d (.slice .str v4.keys),.d (.slice .ah v4.kids)]),(1,.box [.d (.int .i64 v5),.d (.str v6),.d (.raw (.slice none 0 0)),.d (.raw (.slice none 0 0))]),(2,.box [.d (.int .i64 v7.n.kind),.d (.str v7.n.text),.d (.slice .str v7.n.keys),.d (.slice .ah v7.n.kids),.d (.bool v7.bad)]),(3,.box [.d (.int .i64 v8.n.kind),.d (.str v8.n.text),.d (.slice .str v8.n.keys),.d (.slice .ah v8.n.kids),.d (.int .i64 v8.left),.d (.bool v8.bad)])],4⟩) { live:=[(0,[1,2,4,5,6,61,62,63])],oO:=[(0,[(4,some 2,false,.str),(4,some 3,false,.ah)])] } Tryz.func49
def jF(x0 x1:anP):Te ((anP)×Bool) Empty:=.c (iF x0 x1) fun y1=>.b (!y1) (.k (x0,false)) (.q (bM x0 (aC x1) (aC x0)) (.k (cut x0 (aC x1) (aC x0),true)))
def jG(x0 x1:anP):=(jF x0 x1).o
def Ep:=afF.f0 159 [.str,.str] [.str,.bool] (fun a=>jF a.1 a.2) Tryz.func159
def tC(x0 x1:anP):Te ((anP)×Bool) Empty:=.c (jG x0 x1) fun y1=>.k (y1.1,y1.2)
def tF(x0 x1:anP):=(tC x0 x1).o
def Tq:=Ep.f0 114 [.str,.str] [.str,.bool] (fun a=>tC a.1 a.2) Tryz.func114
def yh(x0:anP):Te (Bool) Empty:=.c (tF x0 [111,110,45,102,97,105,108,117,114,101,58]) fun y1=>.b y1.2 (.c (gN (y1.1) 10) fun y2=>.k (aab (y2.2==0) (aF 0 y2.1))) (.k (aN (aN (aN (x0==[110,111]) (x0==[97,108,119,97,121,115])) (x0==[117,110,108,101,115,115,45,115,116,111,112,112,101,100])) (x0==[111,110,45,102,97,105,108,117,114,101])))
def yj(x0:anP):=(yh x0).o
def Y5:=Tq.f0 113 [.str] [.bool] (fun a=>yh a) Tryz.func113
def lC(x0:Node):Te (Node×Int) Empty:=.l (yj x0.text) fun z1=>.q ((z1.isSome) || !(!(x0.kind != 1))) (.b (aN (x0.kind != 1) (!(gv z1))) (.c eD fun y1=>.k (aj (y1.1),y1.2)) (.k (aj x0,0)))
def lD(x0:Node):=(lC x0).o
def Jw:=Y5.c0 87 [.ah,.aY] [.v .ah,.c 113 [] []] (fun a=>lC a) Tryz.func87
def BI(x0:Node):Te (Node×Int) Empty:=.c (lD (aj x0)) fun y1=>.k (aj (y1.1),y1.2)
def rY(x0:Node):=(BI x0).o
def acU:=Jw.f0 50 [.ah] [.ah,.aY] (fun a=>BI a) Tryz.func50
def BJ(x0:anP):Te (Bool) Empty:=.c (gN x0 8) fun y1=>.k (y1.2==0)
def BK(x0:anP):=(BJ x0).o
def acV:=acU.f0 116 [.str] [.bool] (fun a=>BJ a) Tryz.func116
def mI(x0:Node):Te (Node×Int) Empty:=.l (BK x0.text) fun z1=>.q ((z1.isSome) || !(!(x0.kind != 1))) (.b (aN (x0.kind != 1) (!(gv z1))) (.c eD fun y1=>.k (aj (y1.1),y1.2)) (.k (aj x0,0)))
def mJ(x0:Node):=(mI x0).o
def KI:=acV.c0 87 [.ah,.aY] [.v .ah,.c 116 [] []] (fun a=>mI a) Tryz.func87
def Gf(x0:Node):Te (Node×Int) Empty:=.c (mJ (aj x0)) fun y1=>.k (aj (y1.1),y1.2)
def wJ(x0:Node):=(Gf x0).o
def aiB:=KI.f0 51 [.ah] [.ah,.aY] (fun a=>Gf a) Tryz.func51
inductive Sw where
 | e (x0:anP)
 | h0 (v0:anP) (v1:Int) (v2:Int)
def um:Sw->Te ((anP)×(anP)×Bool) Sw
 | .e x0=>.g (.h0 x0 (x0.length) 0)
 | .h0 v0 v1 v2=>.l (au (v2+1)) fun z1=>.b (aF v2 v1) (.s v0 v2 fun y1=>.b (y1==46) (.q (bM v0 0 v2) (.q (bM v0 z1 (aC v0)) (.k (cut v0 0 v2,cut v0 z1 (aC v0),true)))) (.g (.h0 v0 v1 z1))) (.k (v0,[],false))
def DX(x0:anP):=mu um (.e x0)
def afG:=aiB.fl 161 [.str] [.str,.str,.bool] um (fun a=>.e a) (fun | .e x0=>.e [⟨.str,x0⟩] | .h0 v0 v1 v2=>.h 0 ⟨24,[(0,.d (.str v0)),(7,.d (.int .i64 v1)),(8,.d (.int .i64 v2))],[],0⟩) { live:=[(0,[0,7,8])] } Tryz.func161
inductive Sy where
 | e (x0:anP)
 | h0 (v0:anP) (v1:anP) (v2:Int) (v3:Int)
def uo:Sy->Te (Int×Int) Sy
 | .e x0=>.c (DX x0) fun y1=>.l (aC (y1.2.1)) fun z1=>.l (aN (aF z1 1) (aF 3 z1)) fun z2=>.b y1.2.2 (.q (fV (y1.2.1) (au (z1-1)) || !(!z2)) (.b (aN z2 (tH (y1.2.1) (au (z1-1))==48)) (.k (0,3)) (.g (.h0 (y1.1) (y1.2.1) 0 0)))) (.g (.h0 (y1.1) (y1.2.1) 0 0))
 | .h0 v0 v1 v2 v3=>.b (aF v3 3) (.b (bW (aC v1) v3) (.g (.h0 v0 v1 (au (v2*10)) (au (v3+1)))) (.s v1 v3 fun y1=>.q (fV v1 v3 || !(!(aF y1 48))) (.b (aN (aF y1 48) (aF 57 y1)) (.k (0,3)) (.q (fV v1 v3) (.g (.h0 v0 v1 (au (au (v2*10)+au (IntKind.wrap .u8 (y1-48)))) (au (v3+1)))))))) (.c (yN v0 9007199254740) fun y3=>.l (au (y3.1*1000)) fun z1=>.b (y3.2 != 0) (.k (0,y3.2)) (.b (aF (au (9007199254740992-v2)) z1) (.k (0,9)) (.k (au (z1+v2),0))))
def DY(x0:anP):=mu uo (.e x0)
def afH:=afG.fl 118 [.str] [.int,.aY] uo (fun a=>.e a) (fun | .e x0=>.e [⟨.str,x0⟩] | .h0 v0 v1 v2 v3=>.h 0 ⟨80,[(4,.d (.str v0)),(5,.d (.str v1)),(7,.d (.int .i64 v2)),(34,.d (.int .i64 v3))],[],0⟩) { live:=[(0,[4,5,7,34])] } Tryz.func118
def DZ(x0:anP):Te (Bool) Empty:=.c (DY x0) fun y1=>.k (aab (y1.2==0) (aF 0 y1.1))
def D5(x0:anP):=(DZ x0).o
def afI:=afH.f0 117 [.str] [.bool] (fun a=>DZ a) Tryz.func117
def nI(x0:Node):Te (Node×Int) Empty:=.l (D5 x0.text) fun z1=>.q ((z1.isSome) || !(!(x0.kind != 1))) (.b (aN (x0.kind != 1) (!(gv z1))) (.c eD fun y1=>.k (aj (y1.1),y1.2)) (.k (aj x0,0)))
def nJ(x0:Node):=(nI x0).o
def Lu:=afI.c0 87 [.ah,.aY] [.v .ah,.c 117 [] []] (fun a=>nI a) Tryz.func87
def I5(x0:Node):Te (Node×Int) Empty:=.c (nJ (aj x0)) fun y1=>.k (aj (y1.1),y1.2)
def zu(x0:Node):=(I5 x0).o
def alk:=Lu.f0 52 [.ah] [.ah,.aY] (fun a=>I5 a) Tryz.func52
def I6(x0:anP):Te (Int×Bool) Empty:=.l (aab (aC x0==2) (tH x0 1==98)) fun z2=>.l (cut x0 0 1) fun z1=>.q (fV x0 1 || !(aC x0==2)) (.q (fV x0 0 || !z2) (.b (aab z2 (tH x0 0 != 98)) (.q (bM x0 0 1) (.b (z1==[]) (.b (z1==[]) (.k (0,true)) (.b (z1==[107]) (.k (1,true)) (.b (z1==[109]) (.k (2,true)) (.b (z1==[103]) (.k (3,true)) (.k (0,false)))))) (.b (z1==[98]) (.k (0,true)) (.b (z1==[107]) (.k (1,true)) (.b (z1==[109]) (.k (2,true)) (.b (z1==[103]) (.k (3,true)) (.k (0,false)))))))) (.b (x0==[]) (.b (x0==[]) (.k (0,true)) (.b (x0==[107]) (.k (1,true)) (.b (x0==[109]) (.k (2,true)) (.b (x0==[103]) (.k (3,true)) (.k (0,false)))))) (.b (x0==[98]) (.k (0,true)) (.b (x0==[107]) (.k (1,true)) (.b (x0==[109]) (.k (2,true)) (.b (x0==[103]) (.k (3,true)) (.k (0,false)))))))))
def CU(x0:anP):=(I6 x0).o
def alm:=alk.f0 162 [.str] [.int,.bool] (fun a=>I6 a) Tryz.func162
inductive UO where
 | e (x0:anP)
 | h0 (v0:anP) (v1:Int)
def wL:UO->Te (Int×Int) UO
 | .e x0=>.g (.h0 x0 (x0.length))
 | .h0 v0 v1=>.l (au (v1-1)) fun z1=>.l (aF (tH v0 z1) 48) fun z2=>.q (fV v0 z1 || !(aF 0 v1)) (.q (fV v0 z1 || !(aF 0 v1&&(!z2))) (.b (aab (aF 0 v1) (aN z2 (aF 57 (tH v0 z1)))) (.g (.h0 v0 z1)) (.q (bM v0 v1 (aC v0)) (.c (CU (cut v0 v1 (aC v0))) fun y1=>.l (au (10*y1.1)) fun z3=>.l (bW 0 z3&&bW z3 64) fun z4=>.b (!y1.2) (.k (0,3)) (.q (bM v0 0 v1) (.q z4 (.c (gN (cut v0 0 v1) (1125899906842624 / 2 ^ (Int.toNat z3))) fun y2=>.q z4 (.k (au (y2.1*2 ^ (Int.toNat z3)),y2.2)))))))))
def Gg(x0:anP):=mu wL (.e x0)
def aiC:=alm.fl 119 [.str] [.int,.aY] wL (fun a=>.e a) (fun | .e x0=>.e [⟨.str,x0⟩] | .h0 v0 v1=>.h 0 ⟨53,[(0,.d (.str v0)),(4,.d (.int .i64 v1))],[],0⟩) { live:=[(0,[0,4])] } Tryz.func119
inductive UQ where
 | e (x0:Int)
 | h0 (v0:Int) (v1:Int)
def Ay:UQ->Te (Int) UQ
 | .e x0=>.g (.h0 x0 0)
 | .h0 v0 v1=>.b (aab (aab (aF v1 3) (v0 != 0)) (bits .and .i64 v0 1023==0)) (.q (bW 0 10&&bW 10 64) (.g (.h0 (v0 / 2 ^ (Int.toNat 10)) (au (v1+1))))) (.k v1)
def nK(x0:Int):=mu Ay (.e x0)
def aiD:=aiC.fl 163 [.int] [.int] Ay (fun a=>.e a) (fun | .e x0=>.e [⟨.int,x0⟩] | .h0 v0 v1=>.h 0 ⟨20,[(0,.d (.int .i64 v0)),(3,.d (.int .i64 v1))],[],0⟩) { live:=[(0,[0,3])] } Tryz.func163
def I7(x0:Int):Te ((anP)) Empty:=.b (aN (aF x0 0) (aF 1125899906842624 x0)) (.k []) (.c (nK x0) fun y1=>.l (au (10*y1)) fun z2=>.l (Am [[],[107],[109],[103]] y1 (dflt .str)) fun z1=>.q (bW 0 z2&&bW z2 64) (.c (qp (x0 / 2 ^ (Int.toNat z2))) fun y2=>.q (bW 0 y1&&aF y1 4) (.q (decide (y2.length+z1.length<=aA)) (.k (y2++z1)))))
def I8(x0:Int):=(I7 x0).o
def aln:=aiD.f0 120 [.int] [.str] (fun a=>I7 a) Tryz.func120
def Gi(x0:Node):Te (Node×Int) Empty:=.c (Gg x0.text) fun y1=>.b (aN (aN (x0.kind != 1) (y1.2 != 0)) (y1.1==0)) (.c eD fun y2=>.k (aj (y2.1),y2.2)) (.c (I8 (y1.1)) fun y3=>.k (aj (dz y3),0))
def wM(x0:Node):=(Gi x0).o
def aiE:=aln.f0 53 [.ah] [.ah,.aY] (fun a=>Gi a) Tryz.func53
def yt(x0:Int):Te (Bool) Empty:=.c (wu x0) fun y1=>.q (((fE x0).isSome) || !(!y1)) (.k (aN y1 (gv (fE x0))))
def Er(x0:Int):=(yt x0).o
def Y6:=aiE.f0 68 [.byte] [.bool] (fun a=>yt a) Tryz.func68
def Y7(x0:Int):Te (Bool) Empty:=.c (wu x0) fun y1=>.q (((fE x0).isSome) || !(!y1)) (.k (aN (aN (aN y1 (gv (fE x0))) (x0==45)) (x0==95)))
def Y8:=Y6.f0 71 [.byte] [.bool] (fun a=>Y7 a) Tryz.func71
inductive mU where
 | e (x0:anP)
 | h0 (v0:anP) (v1:Int)
def dK:mU->Te (Bool) mU
 | .e x0=>.l (Er (tH x0 0)) fun z2=>.l (aN (aF (aC x0) 1) (aF 24 (aC x0))) fun z1=>.q (fV x0 0 || !(!z1)) (.q ((z2.isSome) || !(!z1)) (.b (aN z1 (!(gv z2))) (.k false) (.g (.h0 x0 1))))
 | .h0 v0 v1=>.b (aF v1 (aC v0)) (.s v0 v1 fun y1=>.c (wu y1) fun y2=>.q (((fE y1).isSome) || !(!y2)) (.b (!(aN (aN (aN y2 (gv (fE y1))) (y1==45)) (y1==95))) (.k false) (.g (.h0 v0 (au (v1+1)))))) (.k true)
def jB(x0:anP):=mu dK (.e x0)
def xH:=(Y8.I 71 Tryz.func71).cl 67 [.bool] [.v .str,.c 68 [] [],.c 71 [] []] dK (fun a=>.e a) (fun | .e x0=>.c [.v ⟨.str,x0⟩,.c 68 [] [],.c 71 [] []] | .h0 v0 v1=>.h 0 ⟨35,[(0,.d (.str v0)),(2,.d (.raw (.func (.func 71) #[] #[]))),(7,.d (.int .i64 v1))],[],0⟩) { live:=[(0,[0,2,7])] } Tryz.func67
def BL(x0:anP):Te (Bool) Empty:=.c (jB x0) fun y1=>.k y1
def BM(x0:anP):=(BL x0).o
def acW:=xH.f0 29 [.str] [.bool] (fun a=>BL a) Tryz.func29
end
end Go.Proofs.YtclnniijooeajaaGreatDoor.Rf
namespace Go.Proofs.YtclnniijooeajaaGreatDoor.bA
open Go Go.RowKit
section
section
variable {P:Program} {n:Nat} {r:Option Nat} {ops:Array Oper} {Q Q':Exit->Act->World->Prop} {K K':Act->World->Prop} {a:Act} {w:World}
abbrev Wd(r:Option Nat):Fence:={ Fence.wide with round:=r }
theorem aa2{f:FuncId}{args:Array Value}{R:Ending->World->Prop}:CallsIn (Wd r) n P f args w R↔Calls P f args w R:=callsIn_wide (n:=n)
theorem ayS{o:Oper}(ho:∀c,o.op ≠ .defer c)(h:o.wp P a w K Q):o.wpIn (Wd r) n P a w K Q:=by
 refine⟨fun _ _=>trivial,?_⟩;rw[show o.semAt (Wd r).round a.eval=execOp a.eval o from Oper.semAt_eq r a.eval o ho];unfold Oper.wp at h;generalize (execOp a.eval o).run P w=q at *;cases q with
 | ok x w' =>
  cases x with
  | enter f args=>exact⟨fun h=>(by cases h),aa2.2 h⟩
  | row row args=>exact⟨fun h=>(by cases h),fun c cs _=>let⟨v,w'',hr,hs⟩:=h c cs;⟨v,w'',hr,stepsIn_wide.2 hs⟩⟩
  | round l f tmps assign body=>exact h.elim
  | _=>exact h
 | halt x w'=>cases x<;>exact h
theorem aa3{F:Fence}{o:Oper}(hK:∀a w,K a w->K' a w)(hp:∀c a w,Q (.panic c) a w->Q' (.panic c) a w)(hl:LetsOut Q->LetsOut Q')(hh:o.wpIn F n P a w K Q):o.wpIn F n P a w K' Q':=by
 unfold Oper.wpIn at *;refine⟨hh.1,?_⟩;have hh:=hh.2;generalize (o.semAt F.round a.eval).run P w=q at *;cases q with
 | ok x w' =>
  cases x<;>simp only[Oper.uponIn]at hh ⊢ <;>
   first
    | exact hK _ _ hh
    | exact⟨hh.1,CallsIn.mono hh.2 (fun e w'' he=>by cases e<;>first | exact hK _ _ he | exact hp _ _ _ he | exact hl he)⟩
    | exact⟨hh.1,RowsIn.mono hh.2 (fun _ _ he=>hK _ _ he)⟩
    | exact⟨hh.1,RoundIn.mono hh.2 (fun e w'' he=>by cases e<;>first | exact hK _ _ he | exact hp _ _ _ he | exact hl he)⟩
 | halt x w'=>cases x<;>simp only[Oper.uponIn]at hh ⊢ <;> first | exact hp _ _ _ hh | exact hh
def Pg:List Oper->Bool
 | []=>true
 | o::r=>(match o.op with | .defer _=>false | _=>true)&&Pg r
theorem acX(hQ:¬ LetsOut Q):∀(l:List Oper) (a:Act) (w:World),Pg l=true->wpList P ops Q l a w->wpListIn (Wd r) n P ops Q l a w
 | [],_,_,_,h=>h
 | o::rest,a,w,hd,h=>by
  simp only[Pg,abG]at hd;unfold wpList at h;unfold wpListIn;split
  ·rename_i hw;rw[if_pos hw]at h;rcases h with h | h
   ·exact aa3 (fun a w h=>acX hQ rest a w hd.2 h) (fun _ _ _ h=>h) id (ayS (fun c hc=>by rw[hc]at hd;simp at hd) h)
   ·exact absurd h.2 hQ
  ·rename_i hw;rw[if_neg hw]at h;exact⟨fun _ _=>trivial,acX hQ rest _ w hd.2 h⟩
def Nm(K:Act->World->Prop):Exit->Act->World->Prop
 | .normal,a,w=>K a w
 | _,_,_=>False
theorem Nm.out:¬ LetsOut (Nm K):=fun⟨_,_,h⟩=>h
theorem Y9{F:Fence}{l2:List Oper}:∀(l:List Oper) (a:Act) (w:World),wpListIn F n P ops (Nm (wpListIn F n P ops Q l2)) l a w->wpListIn F n P ops Q (l++l2) a w
 | [],_,_,h=>h
 | o::rest,a,w,h=>by
  unfold wpListIn at h;rw[ae0];unfold wpListIn;split
  ·rename_i hw;rw[if_pos hw]at h;exact aa3 (fun a w h=>Y9 rest a w h) (fun _ _ _ h=>h.elim) (fun h=>absurd h Nm.out) h
  ·rename_i hw;rw[if_neg hw]at h;exact⟨h.1,Y9 rest _ w h.2⟩
end
section
variable {P:Program} {E:Env P} {O:aI E} {w0:Start} {aQ:Nat->Nat->Prop} {S:av E} {a:Act} {w w':World} {ι ι':Nat->Option Gh} {ro ro':Nat->Nat->Prop} {n:Nat} {r:Option Nat} {Q:Exit->Act->World->Prop}
structure Kept (w:World) (ι:Nat->Option Gh) (ro:Nat->Nat->Prop) (w':World) (ι':Nat->Option Gh) (ro':Nat->Nat->Prop):Prop where
 cell:∀k o,ro k o->ro' k o/\w'.cell? ⟨k,o,none⟩=w.cell? ⟨k,o,none⟩
 ext:∀id gh,ι id=some gh->ι' id=some gh
theorem bN.rek(hg:bN E w0 aQ S a w ι ro):bN E { w0 with k:=some ⟨w,ro,ι⟩ } aQ S a w ι ro :=
 ⟨⟨hg.base.below,hg.base.aT,hg.base.rE,hg.base.uE,hg.base.defers,(fun q hq=>by cases hq;exact⟨fun k o h=>⟨h,rfl⟩,fun _ _ h=>h⟩),hg.base.held⟩,hg.size,hg.tmps,hg.objs,hg.inj,hg.fresh,hg.ids⟩
theorem bN.unk(hk:w0.k=none){S':av E}{a':Act}(hg:bN E { w0 with k:=some ⟨w,ro,ι⟩ } aQ S' a' w' ι' ro'):bN E w0 aQ S' a' w' ι' ro'/\Kept w ι ro w' ι' ro' :=
 ⟨⟨⟨hg.base.below,hg.base.aT,hg.base.rE,hg.base.uE,hg.base.defers,(fun q hq=>by rw[hk]at hq;cases hq),hg.base.held⟩,hg.size,hg.tmps,hg.objs,hg.inj,hg.fresh,hg.ids⟩,⟨fun k o h=>((hg.base.keep _ rfl).1 k o h),fun id gh h=>(hg.base.keep _ rfl).2 id gh h⟩⟩
theorem bN.frame(hg:bN E w0 aQ S a w ι ro){a':Act}{m nx:Nat}{tm:List (Nat×AV E)}(hd:a'.defers=w0.dl)(hs:a'.tmps.size=m)(ht:xR E w ro ι a' tm)(hx:S.next<=nx):bN E w0 aQ ⟨m,tm,S.objs,nx⟩ a' w ι ro :=
 ⟨⟨hg.base.below,hg.base.aT,hg.base.rE,hg.base.uE,hd,hg.base.keep,hg.base.held⟩,hs,ht,hg.objs,hg.inj,fun id h=>hg.fresh id (Nat.le_trans hx h),fun id o h=>aeJ (hg.ids id o h) hx⟩
theorem bN.turn(hg:bN E w0 aQ S a w ι ro)(hk:w0.k=none){H:Nat->Option Obj}{dl:List Deferred}{a':Act}(hd:a'.defers=dl)(ht:a'.tmps=a.tmps)(hos:w'.os=w.os)(aC8:w'.tape=w.tape)(hout:w'.output=w.output)(hsize:w.heap.size<=w'.heap.size)
  (hframe:∀k,k<w.heap.size->w0.w.heap.size<=k/\(∀id gh,ι id=some gh->gh.blk≠some k)\/w'.heap[k]? = w.heap[k]?) (hcell:∀k o,k<w.heap.size->w'.cell? ⟨k,o,none⟩=w.cell? ⟨k,o,none⟩)
  (hH:∀k o,H k=some o->w'.heap[k]? = some o/\∀id gh,ι id=some gh->gh.blk≠some k):bN E { w0 with h:=H,dl:=dl } aQ S a' w' ι ro:=by
 have hfr:∀id gh g,ι id=some gh->gh.blk=some g->w'.heap[g]? = w.heap[g]? := fun id gh g h1 h2=>by
  rcases hframe g (hg.base.uE id gh g h1 h2).2 with h | h
  ·exact absurd h2 (h.2 id gh h1)
  ·exact h
 have hc:∀k o,ro k o->w'.cell? ⟨k,o,none⟩=w.cell? ⟨k,o,none⟩:=fun k o h=>hcell k o (hg.base.aT k o h)
 refine⟨⟨⟨hos.trans hg.base.below.os,aC8.trans hg.base.below.tape,hout.trans hg.base.below.output,Nat.le_trans hg.base.below.size hsize,fun k hk hne=>?_⟩,fun k o h=>aeJ (hg.base.aT k o h) hsize,hg.base.rE,fun id gh k h1 h2=>⟨(hg.base.uE id gh k h1 h2).1,aeJ (hg.base.uE id gh k h1 h2).2 hsize⟩,hd,(fun q hq=>by have:w0.k=some q:=hq;rw[hk]at this;cases this),hH⟩,by rw[ht];exact hg.size,fun t x hl=>?_,fun id o hl=>?_,hg.inj,hg.fresh,hg.ids⟩
 ·refine Eq.trans ?_ (hg.base.below.block k hk hne);rcases hframe k (aeJ hk hg.base.below.size)with h | h
  ·exact absurd (show k<w0.w.heap.size from hk) (Nat.not_lt.2 h.1)
  ·exact h
 ·obtain⟨v,h1,h2⟩:=hg.tmps t x hl;rw[<- ht]at h1 h2;exact⟨v,h1,h2.mono (fun _ _ h=>h) hc (fun _ _ h=>h)⟩
 ·have h:=hg.objs id o hl;cases o with
  | dead=>trivial
  | tail l =>intro hl;obtain⟨gh,xs,h1,h2,h3⟩:=h hl;exact⟨gh,xs,h1,h2.frame (fun g hb=>hfr id gh g h1 hb),h3⟩
  | Ji =>obtain⟨gh,g,h1,h2,h3⟩:=h;exact⟨gh,g,h1,h2,(hfr id gh g h1 h2).trans h3⟩
  | arr t l fz =>obtain⟨h0,gh,g,vs,e,h1,h2,h3,h4,h5,h6,h7⟩:=h;exact⟨h0,gh,g,vs,e,h1,h2,h3,(hfr id gh g h1 h3).trans h4,h5,fun j v c hv hj=>⟨(h6 j v c hv hj).1,(h6 j v c hv hj).2.mono (fun _ _ h=>h) hc (fun _ _ h=>h)⟩,h7⟩
  | lp st pend n tm ps assign body =>
   obtain⟨gh,g,rec,h1,h2,h3,h4,h5⟩:=h;exact⟨gh,g,rec,h1,h2,(hfr id gh g h1 h2).trans h3,h4,fun t x hl=>by obtain⟨v,q1,q2⟩:=h5 t x hl;exact⟨v,q1,q2.mono (fun _ _ h=>h) hc (fun _ _ h=>h)⟩⟩
  | mp K V l =>
   obtain⟨gh,g,es,h1,h2,h3,h4,h5,h6⟩:=h;exact⟨gh,g,es,h1,h2,h3,(hfr id gh g h1 h3).trans h4,h5,fun j e x he hx=>by obtain⟨k1,k2,k3,k4⟩:=h6 j e x he hx;exact⟨k1,k2,k3,fun i v c hv hc'=>⟨(k4 i v c hv hc').1,(k4 i v c hv hc').2.mono (fun _ _ h=>h) hc (fun _ _ h=>h)⟩⟩⟩
  | row t l =>
   obtain⟨gh,xs,h1,h2,h3,h4,h5,h6,h7⟩:=h;exact⟨gh,xs,h1,h2,h3,h4,h5.frame (fun g hb=>hfr id gh g h1 hb),fun i x j c hx hj=>by obtain⟨u,hu,hr⟩:=h6 i x j c hx hj;exact⟨u,hu,hr.mono (fun _ _ h=>h) hc⟩,h7⟩
  | box cs =>obtain⟨gh,g,vs,e,h1,h2,h3,h4,h5,h6,h7⟩:=h;exact⟨gh,g,vs,e,h1,h2,h3,(hfr id gh g h1 h3).trans h4,h5,fun j v c hv hj=>⟨(h6 j v c hv hj).1,(h6 j v c hv hj).2.mono (fun _ _ h=>h) hc (fun _ _ h=>h)⟩,h7⟩
def Nj{α:Type}(l:List (Nat×α)):List Nat->List (Nat×α)
 | []=>[]
 | i::r=>match look l i with
  | some x=>(i,x)::Nj l r
  | none=>Nj l r
theorem yu{α:Type}{l:List (Nat×α)}:∀{ids:List Nat} {t:Nat} {x:α},look (Nj l ids) t=some x->look l t=some x
 | [],_,_,h=>by cases h
 | i::r,t,x,h=>by
  unfold Nj at h;split at h
  ·rename_i y hy;simp only[aX]at h;split at h
   ·rename_i hb;have:=aax hb;subst this;cases h;exact hy
   ·exact yu h
  ·exact yu h
theorem UR{α:Type}{l:List (Nat×α)}:∀{ids:List Nat} {p:Nat×α},p∈Nj l ids->p∈l
 | [],_,h=>by cases h
 | i::r,p,h=>by
  unfold Nj at h;split at h
  ·rename_i y hy;cases h with
   | head=>exact jW _ _ _ hy
   | tail _ h=>exact UR h
  ·exact UR h
def pk(ts ids:List Nat)(nx:Nat)(S:av E):Option (av E):=match Nat.ble S.next nx with
 | true=>some ⟨S.n,Nj S.tmps ts,Nj S.objs ids,nx⟩
 | false=>none
theorem bN.pick(hnc:aR S.tmps)(hg:bN E w0 aQ S a w ι ro){ts ids:List Nat}{nx:Nat}{X:av E}(h:pk ts ids nx S=some X):aR X.tmps/\bN E w0 aQ X a w ι ro/\X.n=S.n:=by
 unfold pk at h;split at h
 ·rename_i hb;cases h;have hx:=anv hb;exact⟨fun p hp=>hnc p (UR hp),⟨hg.base,hg.size,fun t x hl=>hg.tmps t x (yu hl),fun id o hl=>hg.objs id o (yu hl),
   fun id id' o o' gh bD k h1 h2=>hg.inj id id' o o' gh bD k (yu h1) (yu h2),fun id h=>hg.fresh id (Nat.le_trans hx h),fun id o h=>aeJ (hg.ids id o (yu h)) hx⟩,rfl⟩
 ·cases h
theorem WQ(hO:aL E O)(hk:w0.k=none)(hnc:aR S.tmps)(hg:bN E w0 aQ S a w ι ro){ops:Array Oper}{L l l2:List Oper}(hL:L=l++l2)(hd:Pg l=true){ts ids:List Nat}{nx:Nat}{X:av E}(h:ng O ops S.n S.tmps l [] S.objs S.next (pk ts ids nx)=some X)
  (hq:∀a' w' ι' ro',aR X.tmps->bN E w0 aQ X a' w' ι' ro'->Kept w ι ro w' ι' ro'->wpListIn (Wd r) n P ops Q l2 a' w'):wpListIn (Wd r) n P ops Q L a w:=by
 subst hL;refine Y9 l a w (acX Nm.out l a w hd (Iw (n:=S.n) (glob:=S.tmps) hO hnc (fun S1 a' w' ι' ro' h1 h2 h3 h4=>?_) l [] S.objs S.next a w ι ro hg.rek h));obtain⟨g1,g2⟩:=h2.unk hk;obtain⟨p1,p2,_⟩:=g1.pick h1 h4;exact hq a' w' ι' ro' p1 p2 g2
theorem yP(hO:aL E O)(hk:w0.k=none)(hnc:aR S.tmps)(hg:bN E w0 aQ S a w ι ro){ops:Array Oper}{id:Nat}(hd:Pg ops.toList=true)(ts ids:List Nat)(nx:Nat)(X:av E)(h:ng O ops S.n S.tmps ops.toList [] S.objs S.next (pk ts ids nx)=some X)
  (hq:∀a' w' ι' ro',aR X.tmps->bN E w0 aQ X a' w' ι' ro'->Kept w ι ro w' ι' ro'->Q .normal a' w'):(Code.region id ops false).wpIn (Wd r) n P Q a w :=
 wpIn_region_list (WQ (l2:=[]) hO hk hnc hg (abR _).symm hd h hq)
theorem Kept.refl:Kept w ι ro w ι ro:=⟨fun _ _ h=>⟨h,rfl⟩,fun _ _ h=>h⟩
theorem Kept.trans{w2:World}{ι2:Nat->Option Gh}{XF:Nat->Nat->Prop}(h:Kept w ι ro w' ι' ro')(h':Kept w' ι' ro' w2 ι2 XF):Kept w ι ro w2 ι2 XF :=
 ⟨fun k o q=>⟨(h'.cell k o (h.cell k o q).1).1,(h'.cell k o (h.cell k o q).1).2.trans (h.cell k o q).2⟩,fun id gh q=>h'.ext id gh (h.ext id gh q)⟩
theorem xR.kept{tm:List (Nat×AV E)}(h:xR E w ro ι a tm)(hk:Kept w ι ro w' ι' ro'):xR E w' ro' ι' a tm:=fun t x hl=>by obtain⟨v,h1,h2⟩:=h t x hl;exact⟨v,h1,h2.mono (fun k o q=>(hk.cell k o q).1) (fun k o q=>(hk.cell k o q).2) hk.ext⟩
theorem XZ(w:World){l:Nat}{o o':Obj}(hl:w.heap[l]? = some o)(h1:o.isCells=false)(h2:o'.isCells=false)(k q:Nat):(w.putObj l o').cell? ⟨k,q,none⟩=w.cell? ⟨k,q,none⟩:=by
 have hlt:=(Array.getElem?_eq_some_iff.1 hl).1;by_cases e:k=l
 ·subst e;unfold World.cell?;rw[World.putObj_heap_same hlt,hl];cases o<;>cases o'<;>first | rfl | (cases h2;done) | (cases h1;done)
 ·unfold World.cell?;rw[World.putObj_heap_other e]
theorem bN.amY(hg:bN E w0 aQ S a w ι ro)(hk:w0.k=none){l:Nat}{o o':Obj}(hl:w0.h l=some o)(hb:w0.w.heap.size<=l)(h1:o.isCells=false)(h2:o'.isCells=false) :
  bN E { w0 with h:=fun k=>if k=l then some o' else w0.h k } aQ S a (w.putObj l o') ι ro/\Kept w ι ro (w.putObj l o') ι ro:=by
 obtain⟨q1,q2⟩:=hg.base.held l o hl;have hlt:=(Array.getElem?_eq_some_iff.1 q1).1;refine⟨hg.turn hk (dl:=w0.dl) hg.base.defers rfl rfl rfl rfl (by rw[World.putObj_size];exact abH _) (fun k hk'=>?_) (fun k q _=>XZ w q1 h1 h2 k q) (fun k p hp=>?_),⟨fun k q h=>⟨h,XZ w q1 h1 h2 k q⟩,fun _ _ h=>h⟩⟩
 ·by_cases e:k=l
  ·subst e;exact .inl ⟨hb,q2⟩
  ·exact .inr (World.putObj_heap_other e)
 ·by_cases e:k=l
  ·subst e;simp only[if_true]at hp;cases hp;exact⟨World.putObj_heap_same hlt,q2⟩
  ·simp only[if_neg e]at hp;obtain⟨p1,p2⟩:=hg.base.held k p hp;exact⟨(World.putObj_heap_other e).trans p1,p2⟩
theorem bN.put{m nx:Nat}{tm:List (Nat×AV E)}{objs:List (Nat×aS E)}(hg:bN E w0 aQ ⟨m,tm,objs,nx⟩ a w ι ro)(hnc:aR tm){d:Nat}{val:Value}{x:AV E}(hd:d<m)(hv:aP E w ro ι val x)(hx:d9 x=false) :
  bN E w0 aQ ⟨m,(d,x)::tm,objs,nx⟩ (a.put (some d) val) w ι ro/\aR ((d,x)::tm):=by
 refine⟨⟨⟨hg.base.below,hg.base.aT,hg.base.rE,hg.base.uE,hg.base.defers,hg.base.keep,hg.base.held⟩,Qz.trans hg.size,fun t y hl=>?_,hg.objs,hg.inj,hg.fresh,hg.ids⟩,fun p hp=>?_⟩
 ·simp only[aX]at hl;split at hl
  ·rename_i hb;have:=aax hb;subst this;cases hl;refine⟨val,?_,by cases x<;>first | exact hv | cases hx⟩;have hs:a.tmps.size=m:=hg.size;simp[Act.put,hs,hd]
  ·rename_i hb;obtain⟨v,h1,h2⟩:=hg.tmps t y hl;have hne:d≠t:=fun e=>hb (by subst e;exact Nat.beq_refl d)
   refine⟨v,(EL (fun e=>hne (by injection e))).trans h1,?_⟩;have hc:=hnc _ (jW _ _ _ hl);cases y<;>first | exact h2 | cases hc
 ·cases hp with
  | head=>exact hx
  | tail _ hp=>exact hnc p hp
theorem aiF{l:Nat}{o:Oper}{lu:Operand}{xs:Array Operand}{ts:Array TypeId}(ho:o.op = .call { callee:=.value lu,args:=xs,argTypes:=ts }){fn:FuncId}{tmps:Array Value}{assign body:Code}{K:Act->World->Prop}(hc:a.eval lu = .func (.yield l) #[] #[])
  (hy:(Instr.yield l (xs.map a.eval)).run P w = .ok (.round l fn tmps assign body) w) (hr:RoundIn (Wd none) (n-1) P l fn tmps assign body w fun e w'=>∃v,e = .returned v/\K (a.put o.dst v) w'):o.wpIn (Wd none) n P a w K Q:=by
 refine⟨fun _ _=>trivial,?_⟩;have e:(o.semAt (Wd none).round a.eval).run P w = .ok (.round l fn tmps assign body) w:=by rw[show o.semAt (Wd none).round a.eval=execOp a.eval o from Oper.semAt_none a.eval o];simp only[execOp,ho,resolve,hc,Deferred.ofValue,Sem.run_bind,Sem.run_pure,Result.andThen_ok,invoke];simpa using hy
 rw[e];exact⟨fun h=>(by cases h),hr.mono fun e w' he=>by obtain⟨v,rfl,hk⟩:=he;exact hk⟩
end
end
end Go.Proofs.YtclnniijooeajaaGreatDoor.bA
namespace Go.Proofs.YtclnniijooeajaaGreatDoor.Rf
open Go Go.RowKit Go.Sort Go.Proofs.YtclnniijooeajaaGreatDoor.bA
noncomputable def Za:jq E:=FY (E:=E) .str .str .int uX ql
def UU:FuncId:=227
noncomputable def aiG:aI E:=jX [(195,Q7)] [] [] []
noncomputable def avp:Hint E:={}
noncomputable def Zb(_G:Nat->av E->Option (List (TV E)))(x0 x1:anP):Option (List (TV E)) :=
 bif(uX x0 x1)then some [⟨.int,(ql x0 x1)⟩]else none
theorem avq(G:Nat->av E->Option (List (TV E)))(x0 x1:anP):jK aiG avp G Tryz.f227 [⟨.str,x0⟩,⟨.str,x1⟩]=Zb G x0 x1:=by kernel_rfl
theorem avr:Tryz.prog.funcs[227]? = some Tryz.f227:=by kernel_rfl
theorem avt:(Tryz.f227.name == "runtime.NumGoroutine")=false:=by kernel_rfl
theorem avu:Tryz.f227.body.isNone=false:=by kernel_rfl
theorem asb:aL E aiG:=gu (.cons Uv .nil) .nil .nil .nil
theorem aiH(h:∀(x0:anP) (x1:anP),uX x0 x1=true->Zb (Gr E Tryz.f227 [⟨.int,ql x0 x1⟩]) x0 x1=some [⟨.int,ql x0 x1⟩]):bE E UU Za:=Jr asb mix avr avt avu (fun x0 x1 hk=>(avq _ x0 x1).trans (h x0 x1 hk))
theorem asc:bE E UU Za:=aiH fun s p hk=>by simp only[Zb,hk,cond_true]
section
def I9(i:Nat):Code->Option (Array Oper)
 | .region id ops _=>bif Nat.beq id i then some ops else none
 | .seq x y=>match I9 i x with | some r=>some r | none=>I9 i y
 | .cond _ x y=>match I9 i x with | some r=>some r | none=>I9 i y
 | .block _ c=>I9 i c
 | .loop c=>I9 i c
 | .scope c=>I9 i c
 | .rangeFunc _ _ x y=>match I9 i x with | some r=>some r | none=>I9 i y
 | _=>none
def opsOf(f:Func)(i:Nat):Array Oper:=match f.body with
 | some c=>(match I9 i c with | some r=>r | none=>#[])
 | none=>#[]
noncomputable abbrev i7(i:Nat):Array Oper:=opsOf Tryz.f198 i
noncomputable def A3:Code:=.region 6 (i7 6) false
noncomputable def B4:Code:=.block 1 (.seq (.region 7 (i7 7) false) (.cond (.tmp 27) (.seq (.region 8 (i7 8) false) .ret) .skip))
def lI(rest:anP):List (Nat×aS E) :=
 [(0,.box [.d (.bool false)]),(1,.box [.d (.str rest)]),(2,.box [.d (.str [47])]),(3,.box [.d (.int .i64 0)])]
noncomputable def rc(fn:FuncId)(tms:Array Value)(D:Nat)(st:LoopState)(pe:Option Code):Loop:={ state:=st,pending:=pe,fn:=fn,tmps:=tms,params:=#[17],assign:=A3,body:=B4,defers:=D }
def hd(l D:Nat)(o:Obj):Nat->Option Obj:=fun k=>if k=l then some o else if k=D then some (.deferred (some []))else none
def Cb(W:World)(l D:Nat)(o:Obj):bA.Start:=⟨W,none,none,[],hd l D o⟩
theorem aC9(l D:Nat)(o o':Obj):(fun k=>if k=l then some o' else hd l D o k)=hd l D o':=by
 funext k;unfold hd;by_cases e:k=l
 ·rw[if_pos e,if_pos e]
 ·rw[if_neg e,if_neg e,if_neg e]
theorem aa4{W:World}{aQ:Nat->Nat->Prop}{l D:Nat}{o o':Obj}{S:av E}{a:Act}{w:World}{ι:Nat->Option Gh}{ro:Nat->Nat->Prop}(hg:bN E (Cb W l D o) aQ S a w ι ro)(hb:W.heap.size<=l)(h1:o.isCells=false)(h2:o'.isCells=false) :
  bN E (Cb W l D o') aQ S a (w.putObj l o') ι ro/\Kept w ι ro (w.putObj l o') ι ro:=by
 obtain⟨g1,g2⟩:=hg.amY rfl (l:=l) (o:=o) (o':=o') (if_pos rfl) hb h1 h2;refine⟨?_,g2⟩;have e:({ Cb W l D o with h:=fun k=>if k=l then some o' else(Cb W l D o).h k }:bA.Start)=Cb W l D o':=by show(⟨W,none,none,[],fun k=>if k=l then some o' else hd l D o k⟩:bA.Start)=_;rw[aC9];rfl
 rwa[e]at g1
theorem aa5{W:World}{aQ:Nat->Nat->Prop}{l D:Nat}{o:Obj}{S:av E}{a:Act}{w:World}{ι:Nat->Option Gh}{ro:Nat->Nat->Prop}(hg:bN E (Cb W l D o) aQ S a w ι ro):w.heap[l]? = some o:=(hg.base.held l o (if_pos rfl)).1
noncomputable def Sz:aI E:=jX [(UU,Za)] [] [] []
theorem Az:aL E Sz:=gu (.cons asc .nil) .nil .nil .nil
def jY(x:anP):Bool:=bif(bif x==[]then true else x==[46])then true else x==[46,46]
theorem aFi(x rest:anP):ng Sz (i7 6) 28 [(17,.d (.str x)),(2,.ptr 0 0)] (i7 6).toList [] (lI rest) 100 (pk [3,2] [0,1,2,3] 110)=some ⟨28,[(3,.d (.str x)),(2,.ptr 0 0)],lI rest,110⟩:=by kernel_rfl
theorem aFj(x rest:anP):ng Sz (i7 7) 28 [(3,.d (.str x)),(2,.ptr 0 0)] (i7 7).toList [] (lI rest) 110 (pk [27,2] [0,1,2,3] 120)=some ⟨28,[(27,.d (.bool (jY x))),(2,.ptr 0 0)],lI rest,120⟩:=by kernel_rfl
theorem aFk(b:Bool)(rest:anP):ng Sz (i7 8) 28 [(27,.d (.bool b)),(2,.ptr 0 0)] (i7 8).toList [] (lI rest) 120 (pk [] [0,1,2,3] 200)=some ⟨28,[],lI rest,200⟩:=by kernel_rfl
theorem KU{w0:bA.Start}{aQ:Nat->Nat->Prop}{S:av E}{a:Act}{w:World}{ι:Nat->Option Gh}{ro:Nat->Nat->Prop}(hg:bN E w0 aQ S a w ι ro){t:Nat}{b:Bool}(h:bG S.tmps [] (.tmp t) = .d (.bool b)):a.eval (.tmp t) = .bool b:=by have hc:=xU (E:=E) (asm:=[]) hg.tmps (fun j b hb=>by simp[uD]at hb) (.tmp t);rw[h]at hc;exact hc.sj
theorem aiI{W:World}{aQ:Nat->Nat->Prop}{l D fn n:Nat}{tms:Array Value}{g6 nx:Nat}{yK:Gh}{tm:List (Nat×AV E)}{rest x:anP}{a:Act}{w:World}{ι:Nat->Option Gh}{ro:Nat->Nat->Prop}
  (hW:W.heap.size<=l) (hts:tms.size=28) (h6:tms[2]? = some (.pointer (some ⟨g6,0,none⟩))) (hv0:yK.v = .pointer (some ⟨g6,0,none⟩)) (hi0:ι 0=some yK) (hnx:nx<=100)
  (hg:bN E (Cb W l D (.loop (rc fn tms D .ready none))) aQ ⟨52,tm,lI rest,nx⟩ a w ι ro) :
  (Instr.yield l #[.string ⟨x.toArray⟩]).run Tryz.prog w = .ok (.round l fn (tms.setIfInBounds 17 (.string ⟨x.toArray⟩)) A3 B4) w /\
  RoundIn (Wd none) n Tryz.prog l fn (tms.setIfInBounds 17 (.string ⟨x.toArray⟩)) A3 B4 w fun e w'=>∃v,e = .returned v/\v = .bool (!jY x)/\∃ι' ro',bN E (Cb W l D (.loop (rc fn tms D (bif jY x then .done else .ready) (bif jY x then some .ret else none)))) aQ ⟨52,tm,lI rest,200⟩ a w' ι' ro'/\Kept w ι ro w' ι' ro':=by
 have hl:=aa5 hg;refine⟨by rw[run_yield hl rfl];first | (simp[rc];done) | kernel_rfl,?_⟩;refine roundIn_of_wpIn (F:=Wd none) trivial ?_;show A3.wpIn (Wd (some l)) n Tryz.prog _ _ w;let a1:Act:={ tmps:=tms.setIfInBounds 17 (.string ⟨x.toArray⟩),defers:=[] }
 have hg1:bN E (Cb W l D (.loop (rc fn tms D .ready none))) aQ ⟨28,[(17,.d (.str x)),(2,.ptr 0 0)],lI rest,100⟩ a1 w ι ro:=by
  refine hg.frame rfl (by simp[a1,hts]) (fun t y hl=>?_) hnx;simp only[bA.look]at hl;cases hb:Nat.beq 17 t with
  | true =>rw[hb]at hl;have:=aax hb;subst this;cases hl;exact⟨.string ⟨x.toArray⟩,by simp[a1,hts],aP.d _ _ (.str x)⟩
  | false =>
   rw[hb]at hl;cases hb2:Nat.beq 2 t with
   | true =>rw[hb2]at hl;have:=aax hb2;subst this;cases hl;exact⟨.pointer (some ⟨g6,0,none⟩),by simp[a1,h6],aP.ptr yK g6 0 0 hi0 hv0⟩
   | false=>rw[hb2]at hl;cases hl
 refine yP Az rfl (fun p hp=>by simp at hp;rcases hp with rfl | rfl<;>rfl) hg1 (by kernel_rfl) [3,2] [0,1,2,3] 110 _ (aFi x rest) fun a2 w2 ι2 XF aFl hg2 hk2=>?_
 refine⟨_,run_beginRound (aa5 hg2) rfl,?_⟩;obtain⟨hg3,hk3⟩:=aa4 (o':=.loop (rc fn tms D .busy none)) hg2 hW rfl rfl;show B4.wpIn (Wd (some l)) n Tryz.prog _ a2 _;refine wpIn_block (wpIn_seq ?_);refine yP Az rfl aFl hg3 (by kernel_rfl) [27,2] [0,1,2,3] 120 _ (aFj x rest) fun a4 w4 ι4 ro4 aBb hg4 hk4=>?_
 have hb:=KU hg4 (t:=27) (b:=jY x) rfl;cases hbad:jY x with
 | false =>rw[hbad]at hb;refine wpIn_cond_false hb (wpIn_skip ?_);refine⟨_,_,run_endRound none (aa5 hg4),_,rfl,rfl,?_⟩;obtain⟨hg5,hk5⟩:=aa4 (o':=.loop (rc fn tms D .ready none)) hg4 hW rfl rfl;have hk:=((hk2.trans hk3).trans hk4).trans hk5;exact⟨ι4,ro4,hg5.frame hg.base.defers hg.size (hg.tmps.kept hk) (by show 120<=200;omega),hk⟩
 | true =>
  rw[hbad]at hb;refine wpIn_cond_true hb (wpIn_seq ?_);refine yP Az rfl aBb hg4 (by kernel_rfl) [] [0,1,2,3] 200 _ (aFk (jY x) rest) fun a5 w5 ι5 ro5 aFm hg5 hk5=>?_
  refine wpIn_ret ?_;refine⟨_,_,run_endRound (some .ret) (aa5 hg5),_,rfl,rfl,?_⟩;obtain⟨hg6,hk6⟩:=aa4 (o':=.loop (rc fn tms D .done (some .ret))) hg5 hW rfl rfl;have hk:=(((hk2.trans hk3).trans hk4).trans hk5).trans hk6;exact⟨ι5,ro5,hg6.frame hg.base.defers hg.size (hg.tmps.kept hk) (abH _),hk⟩
end
def sM:anP->List (anP)
 | []=>[[]]
 | c::r=>bif c==47 then[]::sM r else match sM r with
  | h::t=>(c::h)::t
  | []=>[[c]]
theorem UW(c:UInt8)(r:anP):sM (c::r)=bif c==47 then[]::sM r else match sM r with | h::t=>(c::h)::t | []=>[[c]]:=rfl
theorem aeE:∀(s:anP),Lib.indexByte s 47<0->sM s=[s]
 | [],_=>rfl
 | c::r,h=>by
  unfold Lib.indexByte at h;split at h
  ·exact absurd h (by decide)
  ·rename_i hc;have hr:Lib.indexByte r 47<0:=by
    rcases agD r 47 with h' | ⟨i,h',_⟩
    ·exact h'
    ·rw[h']at h;split at h
     ·rename_i he;have:(i:Int) = -1:=beq_iff_eq.1 he;omega
     ·omega
   unfold sM;rw[aeE r hr,show(c==47)=false by simpa using hc];rfl
theorem aeF:∀(s:anP) (i:Nat),Lib.indexByte s 47=(i:Int)->sM s=s.take i::sM (s.drop (i+1))
 | [],i,h=>by exact absurd h (by show ¬ ((-1:Int)=(i:Int));omega)
 | c::r,i,h=>by
  unfold Lib.indexByte at h;split at h
  ·rename_i hc;have hi:i=0:=by omega
   subst hi;have hc:(c==47)=true:=by simpa using hc
   rw[UW,hc];rfl
  ·rename_i hc;rcases agD r 47 with h' | ⟨j,h',_⟩
   ·split at h
    ·omega
    ·have:=Lib.indexByte_ge r 47;rename_i he;have he:¬ Lib.indexByte r 47 = -1:=by simpa using he
     omega
   ·rw[h']at h;split at h
    ·rename_i he;have:(j:Int) = -1:=beq_iff_eq.1 he;omega
    ·have hj:i=j+1:=by omega
     subst hj;rw[UW,aeF r j h',show(c==47)=false by simpa using hc];rfl
section
noncomputable abbrev i35(i:Nat):Array Oper:=opsOf Tryz.f241 i
noncomputable def itL:Code:=.block 3 (.seq (.region 5 (i35 5) false) (.seq (.seq (.region 6 (i35 6) false) (.cond (.tmp 33) (.exit 2) .skip)) (.seq (.region 7 (i35 7) false) (.seq (.seq (.region 8 (i35 8) false) (.cond (.tmp 42) .ret .skip)) (.region 9 (i35 9) false)))))
def YL(l:Nat):AV E:=.d (.raw (.func (.yield l) #[] #[]))
def qE(l:Nat):List (Nat×AV E):=[(0,YL l),(1,.ptr 2 0),(2,.ptr 1 0),(3,.ptr 3 0)]
theorem aFo(l:Nat)(rest:anP):ng Sz (i35 5) 52 (qE l) (i35 5).toList [] (lI rest) 5 (pk [7,0,1,2,3] [0,1,2,3] 20)=bif uX rest [47]then some ⟨52,(7,.d (.int .i64 (ql rest [47])))::qE l,lI rest,20⟩else none:=by kernel_rfl
theorem aFp(l:Nat)(i:Int)(rest:anP):ng Sz (i35 6) 52 ((7,.d (.int .i64 i))::qE l) (i35 6).toList [] (lI rest) 20 (pk [33,7,0,1,2,3] [0,1,2,3] 30)=some ⟨52,(33,.d (.bool (decide (i<0))))::(7,.d (.int .i64 i))::qE l,lI rest,30⟩:=by kernel_rfl
theorem aFq(l:Nat)(i:Int)(b:Bool)(rest:anP):ng Sz (i35 7) 52 ((33,.d (.bool b))::(7,.d (.int .i64 i))::qE l) (i35 7).toList [] (lI rest) 30 (pk [8,7,0,1,2,3] [0,1,2,3] 40) =
  bif decide ((0:Int)<=0)&&decide ((0:Int)<=au (i+0))&&decide (au (i+0)<=(rest.length:Int))then some ⟨52,(8,.d (.str (List.take (Int.toNat (au (i+0))-Int.toNat 0) (List.drop (Int.toNat 0) rest))))::(7,.d (.int .i64 i))::qE l,lI rest,40⟩else none:=by kernel_rfl
theorem aFr(l:Nat)(i:Int)(x rest:anP):ng Sz (i35 8) 52 ((8,.d (.str x))::(7,.d (.int .i64 i))::qE l) ((i35 8).toList.take 2) [] (lI rest) 40 (pk [39,40,7,0,1,2,3] [0,1,2,3] 50)=some ⟨52,(39,YL l)::(40,.d (.str x))::(7,.d (.int .i64 i))::qE l,lI rest,50⟩:=by kernel_rfl
theorem aFs(l:Nat)(i:Int)(x:anP)(b:Bool)(rest:anP):ng Sz (i35 8) 52 ((41,.d (.bool b))::(39,YL l)::(40,.d (.str x))::(7,.d (.int .i64 i))::qE l) ((i35 8).toList.drop 3) [] (lI rest) 200 (pk [42,7,0,1,2,3] [0,1,2,3] 210)=some ⟨52,(42,.d (.bool (!b)))::(7,.d (.int .i64 i))::qE l,lI rest,210⟩:=by kernel_rfl
theorem aFt(l:Nat)(i:Int)(rest:anP):ng Sz (i35 9) 52 ((42,.d (.bool false))::(7,.d (.int .i64 i))::qE l) (i35 9).toList [] (lI rest) 210 (pk [0,1,2,3] [0,1,2,3] 230) =
  bif decide ((0:Int)<=au (i+1))&&decide (au (i+1)<=(rest.length:Int))&&decide ((rest.length:Int)<=(rest.length:Int))then some ⟨52,qE l,lI (List.take (Int.toNat (rest.length:Int)-Int.toNat (au (i+1))) (List.drop (Int.toNat (au (i+1))) rest)),230⟩else none:=by kernel_rfl
theorem apJ{w0:bA.Start}{aQ:Nat->Nat->Prop}{S:av E}{a:Act}{w:World}{ι:Nat->Option Gh}{ro:Nat->Nat->Prop}(hg:bN E w0 aQ S a w ι ro){t:Nat}{c:bP E.Den}(h:bG S.tmps [] (.tmp t) = .d c):dU E w ro (a.eval (.tmp t)) c:=by
 have hc:=xU (E:=E) (asm:=[]) hg.tmps (fun j b hb=>by simp[uD]at hb) (.tmp t);rw[h]at hc;generalize a.eval (.tmp t)=v at hc;cases hc with
 | d _ _ h=>exact h
noncomputable def Ph(fn:FuncId)(tms:Array Value)(D:Nat)(b:Bool):Obj:=.loop (rc fn tms D (bif b then .done else .ready) (bif b then some .ret else none))
theorem avv{W:World}{aQ:Nat->Nat->Prop}{l D fn n:Nat}{tms:Array Value}{g6:Nat}{yK:Gh}{rest x:anP}{a:Act}{w:World}{ι:Nat->Option Gh}{ro:Nat->Nat->Prop}{i:Int}{Q:Exit->Act->World->Prop}
  (hW:W.heap.size<=l) (hts:tms.size=28) (h6:tms[2]? = some (.pointer (some ⟨g6,0,none⟩))) (hv0:yK.v = .pointer (some ⟨g6,0,none⟩)) (hi0:ι 0=some yK)
  (hg:bN E (Cb W l D (Ph fn tms D false)) aQ ⟨52,(8,.d (.str x))::(7,.d (.int .i64 i))::qE l,lI rest,40⟩ a w ι ro)
  (hK:∀a' w' ι' ro',bN E (Cb W l D (Ph fn tms D (jY x))) aQ ⟨52,(42,.d (.bool (!(!jY x))))::(7,.d (.int .i64 i))::qE l,lI rest,210⟩ a' w' ι' ro'->ι' 0=some yK->Q .normal a' w'):(Code.region 8 (i35 8) false).wpIn (Wd none) n Tryz.prog Q a w:=by
 refine wpIn_region_list ?_;refine WQ (l:=(i35 8).toList.take 2) (l2:=(i35 8).toList.drop 2) Az rfl (fun p hp=>by simp[qE,YL]at hp;rcases hp with rfl | rfl | rfl | rfl | rfl | rfl<;>rfl) hg (ahb _ _).symm (by kernel_rfl) (aFr l i x rest) fun a1 w1 ι1 XE auV hg1 hk1=>?_
 have hx:a1.eval (.tmp 40) = .string ⟨x.toArray⟩:=by have:=apJ (c:=.str x) hg1 (t:=40) rfl;generalize a1.eval (.tmp 40)=v at this;cases this;rfl
 have hy:a1.eval (.tmp 39) = .func (.yield l) #[] #[]:=by have:=apJ (c:=.raw (.func (.yield l) #[] #[])) hg1 (t:=39) rfl;generalize a1.eval (.tmp 39)=v at this;cases this;rfl
 obtain⟨q1,q2⟩:=aiI (n:=n-1) (x:=x) hW hts h6 hv0 (hk1.ext _ _ hi0) (by show 50<=100;omega) hg1;have e2:(i35 8).toList.drop 2=(i35 8)[2]! :: (i35 8).toList.drop 3:=by kernel_rfl
 rw[e2];refine wpListIn_plain (by kernel_rfl) fun K hK'=>?_
 refine aiF (show((i35 8)[2]!).op = .call { callee:=.value (.tmp 39),args:=#[.tmp 40],argTypes:=#[9] } by kernel_rfl) hy (by rw[show(#[Operand.tmp 40].map a1.eval) = #[a1.eval (.tmp 40)] by simp,hx];exact q1) (q2.mono fun e w2 he=>?_);obtain⟨v,rfl,rfl,ι2,XF,hg2,hk2⟩:=he;refine⟨_,rfl,hK' _ _ ?_⟩;have ed:((i35 8)[2]!).dst=some 41:=by kernel_rfl
 rw[ed];obtain⟨hg3,aFu⟩:=hg2.put auV (d:=41) (val:=.bool (!jY x)) (x:=.d (.bool (!jY x))) (by decide) (.d _ _ (.bool (!jY x))) rfl;exact WQ (l2:=[]) Az rfl aFu hg3 (abR _).symm (by kernel_rfl) (aFs l i x (!jY x) rest) fun a4 w4 ι4 ro4 aBb hg4 hk4=>hK a4 w4 ι4 ro4 hg4 (hk4.ext _ _ (hk2.ext _ _ (hk1.ext _ _ hi0)))
theorem UY(l:Nat):aR (qE (l:Nat)):=fun p hp=>by simp[qE,YL]at hp;rcases hp with rfl | rfl | rfl | rfl<;>rfl
theorem amZ{tm:List (Nat×AV E)}{t:Nat}{c:bP E.Den}(h:aR tm):aR ((t,.d c)::tm):=fun p hp=>by
 cases hp with
 | head=>rfl
 | tail _ hp=>exact h p hp
theorem aeG(l:Nat)(objs:List (Nat×aS E))(t:Nat)(y:AV E)(h:bA.look (qE l) t=some y):CK objs y=y:=by have:=jW _ _ _ h;simp[qE,YL]at this;rcases this with⟨_,rfl⟩ | ⟨_,rfl⟩ | ⟨_,rfl⟩ | ⟨_,rfl⟩<;>rfl
theorem ayT{W:World}{aQ:Nat->Nat->Prop}{l D fn:Nat}{tms:Array Value}{g6:Nat}{yK:Gh}{Q:Exit->Act->World->Prop}(hW:W.heap.size<=l)(hts:tms.size=28)(h6:tms[2]? = some (.pointer (some ⟨g6,0,none⟩)))(hv0:yK.v = .pointer (some ⟨g6,0,none⟩))(any:Bool)
  (hQ:∀a w ι ro rest,ι 0=some yK->jY rest=any->bN E (Cb W l D (Ph fn tms D false)) aQ ⟨52,qE l,lI rest,40⟩ a w ι ro->Q (.exit 2) a w)
  (hR:∀a w ι ro rest,ι 0=some yK->any=true->bN E (Cb W l D (Ph fn tms D true)) aQ ⟨52,[],lI rest,210⟩ a w ι ro->Q .ret a w)
  (rest:anP) (a:Act) (w:World) (ι:Nat->Option Gh) (ro:Nat->Nat->Prop) (hlen:rest.length<=1000000) (hall:(sM rest).any jY=any) (hi0:ι 0=some yK)
  (hg:bN E (Cb W l D (Ph fn tms D false)) aQ ⟨52,qE l,lI rest,5⟩ a w ι ro):uG Tryz.prog itL Q a w:=by
 induction hm:rest.length using Nat.strongRecOn generalizing rest a w ι ro with
 | _ m ih =>
 refine uG.round (wp_block ((wpIn_wide (n:=0)).1 ?_));show Code.wpIn (Wd none) 0 Tryz.prog _ _ a w;refine wpIn_seq ?_;have h5:=aFo l rest;rw[show uX rest [47]=true by simp[uX];omega,cond_true]at h5;refine yP Az rfl (UY l) hg (by kernel_rfl) _ _ _ _ h5 fun a1 w1 ι1 XE nc1 g1 k1=>?_
 refine wpIn_seq (wpIn_seq ?_);refine yP Az rfl nc1 g1 (by kernel_rfl) _ _ _ _ (aFp l (ql rest [47]) rest) fun a2 w2 ι2 XF nc2 g2 k2=>?_
 have hi2:=k2.ext _ _ (k1.ext _ _ hi0);have hb:=KU g2 (t:=33) (b:=decide (ql rest [47]<0)) rfl;rcases agD rest 47 with h | ⟨i,h1,h2⟩
 ·have h:ql rest [47]<0:=h;rw[dT h]at hb;refine wpIn_cond_true hb (wpIn_exit ?_);obtain⟨_,g3,_⟩:=g2.pick nc2 (ts:=[0,1,2,3]) (ids:=[0,1,2,3]) (nx:=40) (X:=⟨52,qE l,lI rest,40⟩) (by kernel_rfl);have:=hQ a2 w2 ι2 XF rest hi2 (by rw[<- hall,aeE rest h];simp) g3;simpa[Exit.then,Exit.inBlock]using this
 ·have hi:ql rest [47]=(i:Int):=h1;rw[hi,dF (show ¬ (i:Int)<0 by omega)]at hb;refine wpIn_cond_false hb (wpIn_skip ?_);rw[hi]at g2 nc2;have ei:au ((i:Int)+0)=(i:Int):=by rw[aU (by omega) (by omega)];omega
  have ei1:au ((i:Int)+1)=((i+1:Nat):Int):=by rw[aU (by omega) (by omega)];omega
  have h7:=aFq l (i:Int) (decide ((i:Int)<0)) rest;rw[ei,dT (show(0:Int)<=0 by omega),dT (show(0:Int)<=(i:Int) by omega),dT (show(i:Int)<=(rest.length:Int) by omega)]at h7;simp only[abW,cond_true,Int.toNat_zero,amB,aeh,aam]at h7;refine wpIn_seq ?_;refine yP Az rfl nc2 g2 (by kernel_rfl) _ _ _ _ h7 fun a3 w3 ι3 ro3 nc3 g3 k3=>?_
  refine wpIn_seq (wpIn_seq ?_);refine avv hW hts h6 hv0 (k3.ext _ _ hi2) g3 fun a4 w4 ι4 ro4 g4 hi4=>?_
  have hb4:=KU g4 (t:=42) (b:=!(!jY (rest.take i))) rfl;rw[aeF rest i h1]at hall;cases hbad:jY (rest.take i)with
  | true =>rw[hbad]at hb4 g4;refine wpIn_cond_true hb4 (wpIn_ret ?_);have:=hR a4 w4 ι4 ro4 rest hi4 (by rw[<- hall];simp[hbad]) (g4.frame g4.base.defers g4.size (fun t y h=>by cases h) (abH _));simpa[Exit.then,Exit.inBlock]using this
  | false =>
  rw[hbad]at hb4 g4;refine wpIn_cond_false hb4 (wpIn_skip ?_);have h9:=aFt l (i:Int) rest;rw[ei1,dT (show(0:Int)<=((i+1:Nat):Int) by omega),dT (show((i+1:Nat):Int)<=(rest.length:Int) by omega),dT (show(rest.length:Int)<=(rest.length:Int) by omega)]at h9;simp only[abW,cond_true,aam]at h9;rw[show List.take (rest.length-(i+1)) (List.drop (i+1) rest)=List.drop (i+1) rest from aeM (by rw[abP];omega)]at h9;refine yP Az rfl (amZ (amZ (UY l))) g4 (by kernel_rfl) _ _ _ _ h9 fun a5 w5 ι5 ro5 nc5 g5 k5=>?_
  obtain⟨nc6,g6'⟩:=Na (w0:=Cb W l D (Ph fn tms D false)) (S:=⟨52,qE l,lI (rest.drop (i+1)),230⟩) [0,1,2,3] (by decide) (qE l) (fun t y h=>⟨y,h,(aeG l _ t y h).symm⟩) (fun q h=>by cases h) nc5 g5;have g7:bN E (Cb W l D (Ph fn tms D false)) aQ ⟨52,qE l,lI (rest.drop (i+1)),5⟩ a5 w5 (fun j=>(([0,1,2,3]:List Nat)[j]?).bind ι5) ro5:=g6'.frame g6'.base.defers g6'.size g6'.tmps (by show 4<=5;omega);refine ih _ ?_ (rest.drop (i+1)) a5 w5 _ ro5 ?_ ?_ ?_ g7 rfl
  ·rw[<- hm,abP];omega
  ·rw[abP];omega
  ·rw[<- hall,aj3,hbad,ajB]
  ·exact k5.ext _ _ hi4
end
section
noncomputable def itX:Code:=match(Tryz.f241).body with
 | some (.seq (.seq _ (.cond _ x _)) _)=>x
 | _=>.skip
theorem ayU:(Tryz.f241).body=some (.seq (.seq (.region 0 (i35 0) false) (.cond (.tmp 11) itX .skip)) (.seq (.block 2 (.loop itL)) (.region 10 (i35 10) false))):=by kernel_rfl
theorem aFv(l:Nat)(rest:anP):ng Sz (i35 0) 52 (qE l) (i35 0).toList [] (lI rest) 5 (pk [11,0,1,2,3] [0,1,2,3] 20)=some ⟨52,(11,.d (.bool false))::qE l,lI rest,20⟩:=by kernel_rfl
theorem aDa(l:Nat)(rest:anP):ng Sz (i35 10) 52 (qE l) ((i35 10).toList.take 2) [] (lI rest) 40 (pk [49,50] [0,1,2,3] 50)=some ⟨52,[(49,YL l),(50,.d (.str rest))],lI rest,50⟩:=by kernel_rfl
def aBe(ι:Nat->Option Gh)(us:Array Value):Prop:=∃(gh1 gh2 gh3:Gh) (b1 b2 b3:Nat),us = #[.pointer (some ⟨b2,0,none⟩),.pointer (some ⟨b1,0,none⟩),.pointer (some ⟨b3,0,none⟩)] /\
 (ι 1=some gh1/\gh1.v = .pointer (some ⟨b1,0,none⟩))/\(ι 2=some gh2/\gh2.v = .pointer (some ⟨b2,0,none⟩))/\(ι 3=some gh3/\gh3.v = .pointer (some ⟨b3,0,none⟩))
theorem ayV{W:World}{aQ:Nat->Nat->Prop}{l D fn:Nat}{tms us:Array Value}{g6:Nat}{yK:Gh}(hW:W.heap.size<=l)(hts:tms.size=28)(h6:tms[2]? = some (.pointer (some ⟨g6,0,none⟩)))(hv0:yK.v = .pointer (some ⟨g6,0,none⟩))
  {m:Nat} {tm:List (Nat×AV E)} {s:anP} {a:Act} {w:World} {ι:Nat->Option Gh} {ro:Nat->Nat->Prop} (hs:s.length<=1000000) (hi0:ι 0=some yK) (hcap:aBe ι us)
  (hg:bN E (Cb W l D (Ph fn tms D false)) aQ ⟨m,tm,lI s,5⟩ a w ι ro) :
  Calls Tryz.prog 241 (#[.func (.yield l) #[] #[]]++us) w fun e w'=>(∃v,e = .returned v)/\∃ι' ro' rest,ι' 0=some yK/\bN E (Cb W l D (Ph fn tms D ((sM s).any jY))) aQ ⟨0,[],lI rest,210⟩ { tmps:=#[],defers:=[] } w' ι' ro':=by
 obtain⟨gh1,gh2,gh3,b1,b2,b3,rfl,⟨p1,q1⟩,⟨p2,q2⟩,⟨p3,q3⟩⟩:=hcap;refine calls_of_wp (show Tryz.prog.funcs[241]? = some Tryz.f241 by kernel_rfl) ayU ?_;have hnt:(Tryz.f241).ntmps=52:=by kernel_rfl
 rw[hnt,show(#[.func (.yield l) #[] #[]] ++ #[.pointer (some ⟨b2,0,none⟩),.pointer (some ⟨b1,0,none⟩),.pointer (some ⟨b3,0,none⟩)]:Array Value) = #[.func (.yield l) #[] #[],.pointer (some ⟨b2,0,none⟩),.pointer (some ⟨b1,0,none⟩),.pointer (some ⟨b3,0,none⟩)] by simp];generalize hA:(#[.func (.yield l) #[] #[],.pointer (some ⟨b2,0,none⟩),.pointer (some ⟨b1,0,none⟩),.pointer (some ⟨b3,0,none⟩)]:Array Value)=A;have hz:A.size=4:=by rw[<- hA];simp
 have hat:∀t,t<4->(A++Array.replicate (52-A.size) undef)[t]? = A[t]? := fun t ht=>by rw[Array.getElem?_append_left (by omega)]
 have hg1:bN E (Cb W l D (Ph fn tms D false)) aQ ⟨52,qE l,lI s,5⟩ { tmps:=A++Array.replicate (52-A.size) undef,defers:=[] } w ι ro:=by
  refine hg.frame rfl (by simp[hz]) (fun t y hl=>?_) (abH _);simp only[qE,bA.look]at hl;cases hb0:Nat.beq 0 t with
  | true =>rw[hb0]at hl;have:=aax hb0;subst this;cases hl;exact⟨_,(hat 0 (by decide)).trans (by rw[<- hA];rfl),aP.d _ _ (.raw _ rfl)⟩
  | false =>
  rw[hb0]at hl;cases hb1:Nat.beq 1 t with
  | true =>rw[hb1]at hl;have:=aax hb1;subst this;cases hl;exact⟨_,(hat 1 (by decide)).trans (by rw[<- hA];rfl),aP.ptr gh2 b2 2 0 p2 q2⟩
  | false =>
  rw[hb1]at hl;cases hb2:Nat.beq 2 t with
  | true =>rw[hb2]at hl;have:=aax hb2;subst this;cases hl;exact⟨_,(hat 2 (by decide)).trans (by rw[<- hA];rfl),aP.ptr gh1 b1 1 0 p1 q1⟩
  | false =>
  rw[hb2]at hl;cases hb3:Nat.beq 3 t with
  | true =>rw[hb3]at hl;have:=aax hb3;subst this;cases hl;exact⟨_,(hat 3 (by decide)).trans (by rw[<- hA];rfl),aP.ptr gh3 b3 3 0 p3 q3⟩
  | false=>rw[hb3]at hl;cases hl
 refine wp_seq (wp_seq ((wpIn_wide (n:=0)).1 ?_));show Code.wpIn (Wd none) 0 Tryz.prog _ _ _ w;refine yP Az rfl (UY l) hg1 (by kernel_rfl) _ _ _ _ (aFv l s) fun a1 w1 ι1 XE nc1 g1 k1=>?_
 refine wp_cond_false (KU g1 (t:=11) (b:=false) rfl) (wp_skip ?_);obtain⟨_,g2,_⟩:=g1.pick nc1 (ts:=[0,1,2,3]) (ids:=[0,1,2,3]) (nx:=20) (X:=⟨52,qE l,lI s,20⟩) (by kernel_rfl);obtain⟨nc3,g3'⟩:=Na (w0:=Cb W l D (Ph fn tms D false)) (S:=⟨52,qE l,lI s,20⟩) [0,1,2,3] (by decide) (qE l) (fun t y h=>⟨y,h,(aeG l _ t y h).symm⟩) (fun q h=>by cases h) (UY l) g2;have g3:bN E (Cb W l D (Ph fn tms D false)) aQ ⟨52,qE l,lI s,5⟩ a1 w1 (fun j=>(([0,1,2,3]:List Nat)[j]?).bind ι1) XE:=g3'.frame g3'.base.defers g3'.size g3'.tmps (by show 4<=5;omega);have hi3:(fun j=>(([0,1,2,3]:List Nat)[j]?).bind ι1) 0=some yK:=k1.ext _ _ hi0;refine wp_seq (wp_block (uG.wp (ayT hW hts h6 hv0 ((sM s).any jY) ?_ ?_ s a1 w1 (fun j=>(([0,1,2,3]:List Nat)[j]?).bind ι1) XE hs rfl hi3 g3)))
 ·intro a4 w4 ι4 ro4 rest hi4 hall g4;show Code.wp Tryz.prog _ _ a4 w4;refine(wpIn_wide (n:=0)).1 ?_;show Code.wpIn (Wd none) 0 Tryz.prog _ _ a4 w4;refine wpIn_region_list ?_;refine WQ (l:=(i35 10).toList.take 2) (l2:=(i35 10).toList.drop 2) Az rfl (UY l) g4 (ahb _ _).symm (by kernel_rfl) (aDa l rest) fun a5 w5 ι5 ro5 aFm g5 k5=>?_
  have hx:a5.eval (.tmp 50) = .string ⟨rest.toArray⟩:=by have:=apJ (c:=.str rest) g5 (t:=50) rfl;generalize a5.eval (.tmp 50)=v at this;cases this;rfl
  have hy:a5.eval (.tmp 49) = .func (.yield l) #[] #[]:=by have:=apJ (c:=.raw (.func (.yield l) #[] #[])) g5 (t:=49) rfl;generalize a5.eval (.tmp 49)=v at this;cases this;rfl
  obtain⟨u1,u2⟩:=aiI (n:=0) (x:=rest) hW hts h6 hv0 (k5.ext _ _ hi4) (by show 50<=100;omega) g5;have e2:(i35 10).toList.drop 2=(i35 10)[2]! :: []:=by kernel_rfl
  rw[e2];refine wpListIn_plain (by kernel_rfl) fun K hK'=>?_
  refine aiF (show((i35 10)[2]!).op = .call { callee:=.value (.tmp 49),args:=#[.tmp 50],argTypes:=#[9] } by kernel_rfl) hy (by rw[show(#[Operand.tmp 50].map a5.eval) = #[a5.eval (.tmp 50)] by simp,hx];exact u1) (u2.mono fun e w6 he=>?_);obtain⟨v,rfl,rfl,ι6,ro6,g6',k6⟩:=he;refine⟨_,rfl,hK' _ _ ?_⟩;have hd6:(a5.put ((i35 10)[2]!).dst (.bool (!jY rest))).defers=[]:=by have:=g6'.base.defers;cases((i35 10)[2]!).dst<;>exact this
  refine wpListIn_nil ⟨hd6,.tuple #[],(by kernel_rfl),⟨_,rfl⟩,ι6,ro6,rest,k6.ext _ _ (k5.ext _ _ hi4),?_⟩;rw[<- hall];exact g6'.frame rfl rfl (fun t y h=>by cases h) (by show 200<=210;omega)
 ·intro a4 w4 ι4 ro4 rest hi4 hall g4;refine⟨g4.base.defers,.tuple #[],(by kernel_rfl),⟨_,rfl⟩,ι4,ro4,rest,hi4,?_⟩;rw[hall];exact g4.frame rfl rfl (fun t y h=>by cases h) (abH _)
end
end Go.Proofs.YtclnniijooeajaaGreatDoor.Rf
