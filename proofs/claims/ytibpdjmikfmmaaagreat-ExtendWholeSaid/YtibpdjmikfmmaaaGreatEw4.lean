/- Part 4 of a proof: the texts B0 B1 B2 M1 MirY I1 I2 I3 I4 M2 P2, one behind the other. -/
import Derived.Test.YtibpdjmikfmmaaaGreatEw1
import Derived.Test.YtibpdjmikfmmaaaGreatEw3
import Derived.Test.YtibpdjmikfmmaaaGreatRows
import Derived.Sort.OwnSorted
import Derived.Lib.AppendZeros
import Derived.Lib.Bytealg
import Derived.Lib.Join
import Derived.Lib.Split
import Derived.Lib.Replace
import Derived.Lib.ReplaceLaws
import Derived.Deep.LoopGhost
import Derived.RangeFuncRecord
import Derived.RangeFuncCalls
import Derived.OrdersIn
import Derived.WalkKit
import Derived.Sort.Walk0
noncomputable section
namespace Go.Proofs.YtibpdjmikfmmaaaGreat.Rf
open Go Go.RowKit Go.Sort Go.Proofs.YtibpdjmikfmmaaaGreat.bB
structure Node where
 kind:Int
 text:alJ
 keys:List (alJ)
 kids:List Node
structure Named where
 name:alJ
 n:Node
structure aW where
 e0:alJ
 e1:alJ
structure gN where
 n:Node
 path:alJ
 e:Int
structure fJ where
 source:alJ
 target:alJ
 readOnly:Bool
structure Port where
 host:alJ
 out:Int
 jv:Int
 proto:alJ
structure RI where
 e0:Int
 e1:Int
 e2:Int
 e3:Int
structure RJ where
 e0:alJ
 e1:alJ
 e2:alJ
 e3:alJ
inductive Ty where
 | str | int | bK | fu | ah | dw | bJ | bool | eU | cO | dK | jS | eP | fF | pK | gu | byte | iq | jw | u64 | rE | rF | u6 | zZ
 deriving DecidableEq
abbrev Den:Ty->Type
 | .str=>alJ
 | .int=>Int
 | .bK=>List (alJ)
 | .fu=>List Node
 | .ah=>Node
 | .dw=>Named
 | .bJ=>List Named
 | .bool=>Bool
 | .eU=>Named
 | .cO=>List Named
 | .dK=>aW
 | .jS=>List aW
 | .eP=>Int
 | .fF=>gN
 | .pK=>List (List (alJ))
 | .gu=>List (List Node)
 | .byte=>Int
 | .iq=>fJ
 | .jw=>Port
 | .u64=>Int
 | .rE=>RI
 | .rF=>RJ
 | .u6=>List Int
 | .zZ=>Int
def tid:Ty->TypeId
 | .str=>9
 | .int=>3
 | .bK=>27
 | .fu=>28
 | .ah=>30
 | .dw=>43
 | .bJ=>22
 | .bool=>4
 | .eU=>47
 | .cO=>23
 | .dK=>35
 | .jS=>36
 | .eP=>31
 | .fF=>45
 | .pK=>80
 | .gu=>82
 | .byte=>5
 | .iq=>100
 | .jw=>128
 | .u64=>123
 | .rE=>145
 | .rF=>149
 | .u6=>151
 | .zZ=>91
def code:TypeId->Option Ty
 | 9=>some .str
 | 3=>some .int
 | 27=>some .bK
 | 28=>some .fu
 | 30=>some .ah
 | 43=>some .dw
 | 22=>some .bJ
 | 4=>some .bool
 | 47=>some .eU
 | 23=>some .cO
 | 35=>some .dK
 | 36=>some .jS
 | 31=>some .eP
 | 45=>some .fF
 | 80=>some .pK
 | 82=>some .gu
 | 5=>some .byte
 | 100=>some .iq
 | 128=>some .jw
 | 123=>some .u64
 | 145=>some .rE
 | 149=>some .rF
 | 151=>some .u6
 | 91=>some .zZ
 | _=>none
def agg:Ty->Bool
 | .str=>false
 | .int=>false
 | .bK=>false
 | .fu=>false
 | .ah=>true
 | .dw=>true
 | .bJ=>false
 | .bool=>false
 | .eU=>true
 | .cO=>false
 | .dK=>true
 | .jS=>false
 | .eP=>false
 | .fF=>true
 | .pK=>false
 | .gu=>false
 | .byte=>false
 | .iq=>true
 | .jw=>true
 | .u64=>false
 | .rE=>true
 | .rF=>true
 | .u6=>false
 | .zZ=>false
def size:Ty->Nat
 | .str=>1
 | .int=>1
 | .bK=>1
 | .fu=>1
 | .ah=>4
 | .dw=>5
 | .bJ=>1
 | .bool=>1
 | .eU=>5
 | .cO=>1
 | .dK=>2
 | .jS=>1
 | .eP=>1
 | .fF=>6
 | .pK=>1
 | .gu=>1
 | .byte=>1
 | .iq=>3
 | .jw=>4
 | .u64=>1
 | .rE=>4
 | .rF=>4
 | .u6=>1
 | .zZ=>1
def bytes:Ty->Nat
 | .str=>16
 | .int=>8
 | .bK=>24
 | .fu=>24
 | .ah=>72
 | .dw=>88
 | .bJ=>24
 | .bool=>1
 | .eU=>88
 | .cO=>24
 | .dK=>32
 | .jS=>24
 | .eP=>8
 | .fF=>96
 | .pK=>24
 | .gu=>24
 | .byte=>1
 | .iq=>40
 | .jw=>48
 | .u64=>8
 | .rE=>32
 | .rF=>64
 | .u6=>24
 | .zZ=>8
def cells:(t:Ty)->Den t->List (bE Den)
 | .str,x=>[.str x]
 | .int,x=>[.int .i64 x]
 | .bK,x=>[.slice .str x]
 | .fu,x=>[.slice .ah x]
 | .ah,x=>[.int .i64 x.kind,.str x.text,.slice .str x.keys,.slice .ah x.kids]
 | .dw,x=>[.str x.name,.int .i64 x.n.kind,.str x.n.text,.slice .str x.n.keys,.slice .ah x.n.kids]
 | .bJ,x=>[.slice .dw x]
 | .bool,x=>[.bool x]
 | .eU,x=>[.str x.name,.int .i64 x.n.kind,.str x.n.text,.slice .str x.n.keys,.slice .ah x.n.kids]
 | .cO,x=>[.slice .eU x]
 | .dK,x=>[.str x.e0,.str x.e1]
 | .jS,x=>[.slice .dK x]
 | .eP,x=>[.int .i64 x]
 | .fF,x=>[.int .i64 x.n.kind,.str x.n.text,.slice .str x.n.keys,.slice .ah x.n.kids,.str x.path,.int .i64 x.e]
 | .pK,x=>[.slice .bK x]
 | .gu,x=>[.slice .fu x]
 | .byte,x=>[.int .u8 x]
 | .iq,x=>[.str x.source,.str x.target,.bool x.readOnly]
 | .jw,x=>[.str x.host,.int .i64 x.out,.int .i64 x.jv,.str x.proto]
 | .u64,x=>[.int .u64 x]
 | .rE,x=>[.int .i64 x.e0,.int .i64 x.e1,.int .i64 x.e2,.int .i64 x.e3]
 | .rF,x=>[.str x.e0,.str x.e1,.str x.e2,.str x.e3]
 | .u6,x=>[.slice .byte x]
 | .zZ,x=>[.int .u64 x]
def dec:DecidableEq Ty:=inferInstance
def fold:(t:Ty)->List (bE Den)->Option (Den t)
 | .str,cs=>rd cs (pJ) fun y c=>rn c y
 | .int,cs=>rd cs (rY .i64) fun y c=>rn c y
 | .bK,cs=>rd cs (zk dec .str) fun y c=>rn c y
 | .fu,cs=>rd cs (zk dec .ah) fun y c=>rn c y
 | .ah,cs=>rd cs (rY .i64) fun y0 c=>rd c (pJ) fun y1 c=>rd c (zk dec .str) fun y2 c=>rd c (zk dec .ah) fun y3 c=>rn c (⟨y0,y1,y2,y3⟩:Node)
 | .dw,cs=>rd cs (pJ) fun y0 c=>rd c (rY .i64) fun y1 c=>rd c (pJ) fun y2 c=>rd c (zk dec .str) fun y3 c=>rd c (zk dec .ah) fun y4 c=>rn c (⟨y0,(⟨y1,y2,y3,y4⟩:Node)⟩:Named)
 | .bJ,cs=>rd cs (zk dec .dw) fun y c=>rn c y
 | .bool,cs=>rd cs (dBl) fun y c=>rn c y
 | .eU,cs=>rd cs (pJ) fun y0 c=>rd c (rY .i64) fun y1 c=>rd c (pJ) fun y2 c=>rd c (zk dec .str) fun y3 c=>rd c (zk dec .ah) fun y4 c=>rn c (⟨y0,(⟨y1,y2,y3,y4⟩:Node)⟩:Named)
 | .cO,cs=>rd cs (zk dec .eU) fun y c=>rn c y
 | .dK,cs=>rd cs (pJ) fun y0 c=>rd c (pJ) fun y1 c=>rn c (⟨y0,y1⟩:aW)
 | .jS,cs=>rd cs (zk dec .dK) fun y c=>rn c y
 | .eP,cs=>rd cs (rY .i64) fun y c=>rn c y
 | .fF,cs=>rd cs (rY .i64) fun y0 c=>rd c (pJ) fun y1 c=>rd c (zk dec .str) fun y2 c=>rd c (zk dec .ah) fun y3 c=>rd c (pJ) fun y4 c=>rd c (rY .i64) fun y5 c=>rn c (⟨(⟨y0,y1,y2,y3⟩:Node),y4,y5⟩:gN)
 | .pK,cs=>rd cs (zk dec .bK) fun y c=>rn c y
 | .gu,cs=>rd cs (zk dec .fu) fun y c=>rn c y
 | .byte,cs=>rd cs (rY .u8) fun y c=>rn c y
 | .iq,cs=>rd cs (pJ) fun y0 c=>rd c (pJ) fun y1 c=>rd c (dBl) fun y2 c=>rn c (⟨y0,y1,y2⟩:fJ)
 | .jw,cs=>rd cs (pJ) fun y0 c=>rd c (rY .i64) fun y1 c=>rd c (rY .i64) fun y2 c=>rd c (pJ) fun y3 c=>rn c (⟨y0,y1,y2,y3⟩:Port)
 | .u64,cs=>rd cs (rY .u64) fun y c=>rn c y
 | .rE,cs=>rd cs (rY .i64) fun y0 c=>rd c (rY .i64) fun y1 c=>rd c (rY .i64) fun y2 c=>rd c (rY .i64) fun y3 c=>rn c (⟨y0,y1,y2,y3⟩:RI)
 | .rF,cs=>rd cs (pJ) fun y0 c=>rd c (pJ) fun y1 c=>rd c (pJ) fun y2 c=>rd c (pJ) fun y3 c=>rn c (⟨y0,y1,y2,y3⟩:RJ)
 | .u6,cs=>rd cs (zk dec .byte) fun y c=>rn c y
 | .zZ,cs=>rd cs (rY .u64) fun y c=>rn c y
def dflt:(t:Ty)->Den t
 | .str=>[]
 | .int=>(0:Int)
 | .bK=>[]
 | .fu=>[]
 | .ah=>⟨(0:Int),[],[],[]⟩
 | .dw=>⟨[],⟨(0:Int),[],[],[]⟩⟩
 | .bJ=>[]
 | .bool=>false
 | .eU=>⟨[],⟨(0:Int),[],[],[]⟩⟩
 | .cO=>[]
 | .dK=>⟨[],[]⟩
 | .jS=>[]
 | .eP=>(0:Int)
 | .fF=>⟨⟨(0:Int),[],[],[]⟩,[],(0:Int)⟩
 | .pK=>[]
 | .gu=>[]
 | .byte=>(0:Int)
 | .iq=>⟨[],[],false⟩
 | .jw=>⟨[],(0:Int),(0:Int),[]⟩
 | .u64=>(0:Int)
 | .rE=>⟨(0:Int),(0:Int),(0:Int),(0:Int)⟩
 | .rF=>⟨[],[],[],[]⟩
 | .u6=>[]
 | .zZ=>(0:Int)
def Na:(t:Ty)->Option (Den t->Int)
 | .byte=>some fun x=>x
 | _=>none
theorem Nb:∀t f,Na t=some f->∀x,cells t x=[.int .u8 (f x)]:=by intro t f h x;cases t<;>first | (cases h;rfl) | cases h
def Nc:(t:Ty)->Option (Int->Den t)
 | .byte=>some fun x=>x
 | _=>none
theorem Ia:∀t g,Nc t=some g->∀n,cells t (g n)=[.int .u8 n]:=by intro t g h n;cases t<;>first | (cases h;rfl) | cases h
def dL(x y:aW):Bool:=x.e0==y.e0&&x.e1==y.e1
def Ew(x:aW):Bool:=decide (x.e0.length<=maxLen)&&decide (x.e1.length<=maxLen)
def Cy:(t:Ty)->Option ((Den t->Den t->Bool)×(Den t->Bool))
 | .dK=>some (dL,Ew)
 | _=>none
theorem wU:∀t q,Cy t=some q->ad2 Tryz.prog Den (tid t) (agg t) t (cells t) q
 | .dK,_,h=>by cases h;exact ajV (e:=9) ⟨by kernel_rfl,by kernel_rfl,by kernel_rfl,by kernel_rfl⟩ (by kernel_rfl) ⟨170,by kernel_rfl⟩ (fun x=>x.e0) (fun x=>x.e1) (fun x y h1 h2=>by cases x;cases y;cases h1;cases h2;rfl) (fun _=>rfl) (fun _ _=>rfl) (fun _=>rfl)
 | .str,_,h=>by cases h
 | .int,_,h=>by cases h
 | .bK,_,h=>by cases h
 | .fu,_,h=>by cases h
 | .ah,_,h=>by cases h
 | .dw,_,h=>by cases h
 | .bJ,_,h=>by cases h
 | .bool,_,h=>by cases h
 | .eU,_,h=>by cases h
 | .cO,_,h=>by cases h
 | .jS,_,h=>by cases h
 | .eP,_,h=>by cases h
 | .fF,_,h=>by cases h
 | .pK,_,h=>by cases h
 | .gu,_,h=>by cases h
 | .byte,_,h=>by cases h
 | .iq,_,h=>by cases h
 | .jw,_,h=>by cases h
 | .u64,_,h=>by cases h
 | .rE,_,h=>by cases h
 | .rF,_,h=>by cases h
 | .u6,_,h=>by cases h
 | .zZ,_,h=>by cases h
theorem o8:∀t cs x,fold t cs=some x->Cw cs (cells t x):=by
 intro t cs x h;cases t<;>(
  repeat obtain⟨_,_,_,rfl,_,h⟩:=aoe h
  obtain⟨rfl,rfl⟩:=aof h
  repeat' (first | exact trivial | exact amQ ‹_› | exact amR ‹_› | exact aoj ‹_› | exact aol ‹_› | exact aoi ‹_› | exact amO ‹_› | exact amP ‹_› | constructor))
theorem Cm:∀i t,code i=some t->i=tid t:=by intro i t h;unfold code at h;split at h<;>first | (cases h;rfl) | cases h
theorem tZ:∀t, ∃i z,Tryz.prog.info? (tid t)=some i/\i.size=size t/\i.bytes=bytes t/\i.zero=some z/\z.cells.size=size t:=by intro t;refine amN ?_ rfl;cases t<;>kernel_rfl
theorem XF:∀t,Cx Tryz.prog (tid t)=agg t:=by intro t;cases t<;>kernel_rfl
theorem XG:∀t,(Tryz.prog.underlying (tid t)).isSome=true:=by intro t;cases t<;>kernel_rfl
abbrev E:Env Tryz.prog where
 Ty:=Ty
 dec:=dec
 Den:=Den
 tid:=tid
 code:=code
 agg:=agg
 size:=size
 bytes:=bytes
 cells:=cells
 fold:=fold
 Cm:=Cm
 tZ:=tZ
 XF:=XF
 XG:=XG
 size_pos:=by intro t;cases t<;>decide
 KW:=by intro t;cases t<;>decide
 one:=by intro t h;cases t<;>first | rfl | cases h
 fA:=by intro t x;cases t<;>rfl
 dflt:=dflt
 o8:=o8
 Na:=Na
 Nc:=Nc
 Nb:=Nb
 Ia:=Ia
 Cy:=Cy
 wU:=wU
theorem mix:Tryz.prog.follows .mixedOrders=true:=by kernel_rfl
def aA(n:Int):Int:=IntKind.wrap .i64 n
def ak(x:Node):Node:=⟨x.kind,x.text,x.keys,x.kids⟩
theorem aU(x:Node):ak x=x:=by cases x;rfl
instance:Df Node:=⟨dflt .ah⟩
instance:Df Named:=⟨dflt .dw⟩
instance:Df aW:=⟨dflt .dK⟩
instance:Df gN:=⟨dflt .fF⟩
instance:Df fJ:=⟨dflt .iq⟩
instance:Df Port:=⟨dflt .jw⟩
instance:Df RI:=⟨dflt .rE⟩
instance:Df RJ:=⟨dflt .rF⟩
theorem bf{n:Int}(h : -9223372036854775808<=n)(h':n<=9223372036854775807):aA n=n:=by unfold aA;rw[IntKind.wrap_i64];omega
theorem gd{α:Type}(l:List α)(d:α)(i:Nat)(h:i<l.length):List.getD l (Int.toNat (i:Int)) d=l[i]:=by rw[ab7,List.getD,aae h];rfl
theorem d0(i:Nat):decide ((0:Int)<=(i:Int))=true:=by simp
theorem rG{i n:Nat}(h:i<n):decide ((i:Int)<(n:Int))=true:=by simp only[acJ];omega
theorem yB{i n:Nat}(h:n<=i):decide ((i:Int)<(n:Int))=false:=by simp only[decide_eq_false_iff_not];omega
theorem dT{p:Prop}[Decidable p](h:p):decide p=true:=decide_eq_true h
theorem dF{p:Prop}[Decidable p](h:¬ p):decide p=false:=decide_eq_false h
theorem fZ{a b:Int}(h:a≠b):(a != b)=true:=by simpa using h
theorem iE{a b:Int}(h:a=b):(a != b)=false:=by simp[h]
theorem fP{a b:Int}(h:a=b):(a==b)=true:=by simp[h]
theorem bZ{a b:Int}(h:a≠b):(a==b)=false:=by simpa using h
theorem mb:aL=140737488355328:=rfl
theorem amV{w:World}{ro:Nat->Nat->Prop}{u:Value}{x:alJ}(h:cu E w ro u (.str x)):u=encStr x:=by cases h;rfl
theorem YL{w:World}{ro:Nat->Nat->Prop}{xs:List Value}{l:List (alJ)}(hl:xs.length=l.length)(h:jJ E w ro .str xs l):xs=l.map encStr:=by
 apply List.ext_getElem?;intro i;by_cases hi:i<l.length
 ·obtain⟨u,hu,hd⟩:=h i l[i] 0 (.str l[i]) (aae hi) rfl;have hu:xs[i*1+0]? = some u:=hu;rw[ahL,ah7]at hu;rw[hu,amV hd];simp[hi]
 ·rw[List.getElem?_eq_none (by omega),List.getElem?_eq_none (by simp;omega)]
theorem zF{w:World}{ro:Nat->Nat->Prop}(l:List (alJ)):jJ E w ro .str (l.map encStr) l:=by
 intro i x j c hx hc;have hc:([.str x]:List (bE E.Den))[j]? = some c:=hc;cases j with
 | zero =>simp at hc;subst hc;refine⟨encStr x,?_,.str x⟩;show(l.map encStr)[i*1+0]? = some (encStr x);rw[ahL,ah7,acS,show l[i]? = some x from hx];rfl
 | succ j=>simp at hc
def rH(l:List (alJ)):Bool:=decide (l.length<=1000000)
noncomputable def ag7:OA E:=aeY (E:=E) .str false rH Pl.o7
def YM:FuncId:=56
theorem ajX:∃fn,Tryz.prog.funcs[YM]? = some fn/\(fn.name == "runtime.NumGoroutine")=false/\fn.body.isNone=false:=⟨Tryz.f56,by kernel_rfl,by kernel_rfl,by kernel_rfl⟩
noncomputable def Vx:OA E:=aeY (E:=E) .str true rH Lib.compact
def OI:FuncId:=57
theorem abh:∃fn,Tryz.prog.funcs[OI]? = some fn/\(fn.name == "runtime.NumGoroutine")=false/\fn.body.isNone=false:=⟨Tryz.f57,by kernel_rfl,by kernel_rfl,by kernel_rfl⟩
theorem Vy:Pl.o7 []=[]:=by simp[Pl.o7]
theorem ajY:Xn E YM ag7:=by
 refine⟨ajX,fun t l rest back l' h=>?_⟩;obtain⟨l,e1,hr,hb,hok,e2⟩:=YD h;cases e1;cases e2;subst hr;subst hb;have hok:rH l=true:=hok;simp only[rH,acJ]at hok;intro w ro gh xs vals hn hge hgs hown hrow fq hargs qJ
 match vals,hargs with
 | [],_ =>
 have hlen:(Pl.o7 l).length=l.length:=Pl.LM l;rcases hown with⟨hown,hblk⟩ | ⟨h0,hxs,hblk,ad,hv⟩
 ·have hx1:xs.length=l.length:=by rw[hown.1,hgs,hn];show l.length*1=_;omega
  have hxs:=YL hx1 hrow;rcases hown.2 with⟨hnil,hn0⟩ | ⟨g,cap,cur,hgv,hbase,hb,h1,h2,h3,h4⟩
  ·have hl0:l=[]:=ac1 (by omega);subst hl0;rw[hnil,Vy];refine(Tryz.slices_Sort_string_none none 0 w).mono fun e w' he=>?_
   obtain⟨rfl,rfl⟩:=he;refine⟨_,gh,[],rfl,⟨rfl,rfl,rfl,acM _,fun _ _ _=>rfl⟩,hn,hge,hgs,.inl ⟨?_,hblk⟩,zF [],fun g hg=>.inl hg,(fun h=>by cases h),fun _=>rfl⟩;rw[hnil,hn0];exact World.ownsRow_nil _ 0 _ _
  ·rw[hgv,hn];rw[hge]at hb;have hsz:gh.sz=1:=hgs;rw[hsz,ahL]at h3;rw[hsz,ahL,hn,hxs]at h4;refine(Tryz.slices_Sort_string g 0 cap l w (holds_of_block hb h4) (Array.getElem?_eq_some_iff.1 hb).1 (by omega)).mono fun e w' he=>?_
   obtain⟨rfl,n,os,rfl⟩:=he;have hg2:gh.blk=some g:=by rw[hblk,hgv];rfl
   refine⟨_,gh,(Pl.o7 l).map encStr,rfl,by rw[hg2];exact grownBy_sorted _,by rw[hlen];exact hn,hge,hgs,.inl ⟨?_,hblk⟩,zF _,fun g hg=>.inl hg,(fun h=>by cases h),fun _=>rfl⟩;rw[hgv,hn,hge,hsz];exact ownsRow_sorted (ts:=Pl.o7 l) hlen (ab8 _) hb (by omega) h2 (by rw[h3,ahL])
 ·have hl0:l=[]:=ac1 (by omega);subst hl0;rw[hv,Vy];refine(Tryz.slices_Sort_string_none ad 0 w).mono fun e w' he=>?_
  obtain⟨rfl,rfl⟩:=he;exact⟨_,gh,[],rfl,⟨rfl,rfl,rfl,acM _,fun _ _ _=>rfl⟩,hn,hge,hgs,.inr ⟨h0,rfl,hblk,ad,hv⟩,zF [],fun g hg=>.inl hg,(fun h=>by cases h),fun _=>rfl⟩
theorem TH{w:World}{base g cap n m:Nat}{e:TypeId}{xs:List Value}(h:w.ownsRow base e 1 (.slice (some ⟨g,0,none⟩) n cap) n xs)(hm:m<=n):w.ownsRow base e 1 (.slice (some ⟨g,0,none⟩) m cap) m (xs.take m):=by
 obtain⟨h1,h2⟩:=h;refine⟨by rw[acV];omega,.inr ?_⟩;rcases h2 with⟨h2,_⟩ | ⟨g',cap',cur,h2,h3,h4,h5,h6,h7,h8⟩
 ·cases h2
 ·cases h2;exact⟨g,cap,cur,rfl,h3,h4,by omega,h6,h7,by rw[<- h8,List.take_take,ahL,ahL,Nat.min_eq_left hm]⟩
theorem abj:Xn E OI Vx:=by
 refine⟨abh,fun t l rest back l' h=>?_⟩;obtain⟨l,e1,hr,hb,hok,e2⟩:=YD h;cases e1;cases e2;subst hr;subst hb;have hok:rH l=true:=hok;simp only[rH,acJ]at hok;intro w ro gh xs vals hn hge hgs hown hrow fq hargs qJ
 match vals,hargs with
 | [],_ =>
 have hlen:=Pl.OH l;rcases hown with⟨hown,hblk⟩ | ⟨h0,hxs,hblk,ad,hv⟩
 ·have hx1:xs.length=l.length:=by rw[hown.1,hgs,hn];show l.length*1=_;omega
  have hxs:=YL hx1 hrow;rcases hown.2 with⟨hnil,hn0⟩ | ⟨g,cap,cur,hgv,hbase,hb,h1,h2,h3,h4⟩
  ·have hl0:l=[]:=ac1 (by omega);subst hl0;rw[hnil];refine(Tryz.slices_Compact_string_empty none 0 w).mono fun e w' he=>?_
   obtain⟨rfl,rfl⟩:=he;refine⟨_,gh,[],rfl,⟨rfl,rfl,rfl,acM _,fun _ _ _=>rfl⟩,hn,hge,hgs,.inl ⟨?_,hblk⟩,zF [],fun g hg=>.inl hg,(fun _=>hnil.symm),(fun h=>by cases h)⟩;rw[hnil,hn0];exact World.ownsRow_nil _ 0 _ _
  ·rw[hgv,hn];rw[hge]at hb;have hsz:gh.sz=1:=hgs;rw[hsz,ahL]at h3;rw[hsz,ahL,hn,hxs]at h4;have hcap:l.length<=cap:=by omega
   refine(Tryz.slices_Compact_string g 0 cap l w (holds_of_block hb h4) (by omega) hcap).mono fun e w' he=>?_
   obtain⟨rfl,q,rfl⟩:=he;have hg2:gh.blk=some g:=by rw[hblk,hgv];rfl
   have hts:(Lib.compact l++List.replicate (l.length-(Lib.compact l).length) []).length=l.length:=by simp;omega
   have hown':=ownsRow_sorted (n:=q) (os:=#[]) (ts:=Lib.compact l++List.replicate (l.length-(Lib.compact l).length) []) hts (ab8 g) hb hcap h2 (by rw[h3,ahL]);rw[Sort.grow_empty]at hown';have hgb:=grownBy_sorted (w:=w) (g:=g) (n:=q) (os:=#[]) (Lib.compact l++List.replicate (l.length-(Lib.compact l).length) []).toArray;rw[Sort.grow_empty]at hgb;have hp:=TH hown' hlen;rw[List.map_append,List.take_left' (by simp)]at hp;exact⟨_,⟨.slice (some ⟨g,0,none⟩) (Lib.compact l).length cap,(Lib.compact l).length,E.tid .str,E.size .str,some g⟩,(Lib.compact l).map encStr,rfl,by rw[hg2];exact hgb,rfl,rfl,rfl,.inl ⟨hp,rfl⟩,zF _,
    (fun g' hg'=>.inl (by rw[hg2];exact hg')),(fun _=>rfl),(fun h=>by cases h)⟩
 ·have hl0:l=[]:=ac1 (by omega);subst hl0;rw[hv];refine(Tryz.slices_Compact_string_empty ad 0 w).mono fun e w' he=>?_
  obtain⟨rfl,rfl⟩:=he;exact⟨_,gh,[],rfl,⟨rfl,rfl,rfl,acM _,fun _ _ _=>rfl⟩,hn,hge,hgs,.inr ⟨h0,rfl,hblk,ad,hv⟩,zF [],fun g hg=>.inl hg,(fun _=>hv.symm),(fun h=>by cases h)⟩
theorem acr(C:Array Value)(n:Nat)(h:C.size=1):(Builtin.zeroCells C n).size=n:=by simp[Builtin.zeroCells,h]
set_option maxRecDepth 100000 in
theorem ajZ:Lx E 51 .str:=by
 refine⟨⟨Tryz.f51,by kernel_rfl,by kernel_rfl,by kernel_rfl⟩,fun w n h0 hb=>?_⟩;have hb:n*16<=140737488355328:=hb;by_cases hz:n=0
 ·subst hz
  go_enter Tryz.func51,Tryz.ntmps51
  go_wp2
  go_ret
  exact⟨⟨.slice none 0 0,0,E.tid .str,E.size .str,none⟩,rfl,Below.refl _ _,rfl,rfl,rfl,.inl ⟨World.ownsRow_nil w 0 _ _,rfl⟩,fun g hg=>by cases hg⟩
 ·obtain⟨k,rfl⟩:∃k:Nat,n=k:=⟨n.toNat,by omega⟩
  obtain⟨i,z,hi,his,hib,hzz,hzs⟩:=E.tZ .str;have h:=Lib.run_append_nil_zeros (P:=Tryz.prog) w 27 3 27 9 i z .i64 .i64 Tryz.underlying27 Tryz.underlying3 hi hzz k (by omega) (by rw[his];exact E.size_pos _) (by omega) (by rw[hib];show k*16<=_;omega);generalize z.cells=C at h hzs;have hC:C.size=1:=hzs;have hcap:=grownCap_ge w k 0 9
  go_enter Tryz.func51,Tryz.ntmps51
  go_wp2_with (at_builtin;refine Lib.wpList_append_run _ rfl _ _ _ _ rfl _ _ rfl rfl _ _ h ?_)
  go_ret
  refine⟨⟨.slice (some ⟨w.heap.size,0,none⟩) 0 (grownCap w k 0 9),0,E.tid .str,E.size .str,some w.heap.size⟩,rfl,((Below.refl _ _).alloc (acM _) _).drew,rfl,rfl,rfl,.inl ⟨?_,rfl⟩,fun g hg=>by cases hg;exact acM _⟩;refine World.ownsRow.drew (World.ownsRow_made w _ _ (ab8 _) ?_ ?_)
  ·exact grownCap_le_maxLen w k 0 9 (by unfold maxLen;omega)
  ·rw[Array.size_append,acr C k hC,acr C _ hC];show _=grownCap w k 0 9*1;omega
theorem YN(C:Array Value)(n:Nat)(h:C.size=4):(Builtin.zeroCells C n).size=n*4:=by simp[Builtin.zeroCells,h]
set_option maxRecDepth 100000 in
theorem ag8:Lx E 52 .ah:=by
 refine⟨⟨Tryz.f52,by kernel_rfl,by kernel_rfl,by kernel_rfl⟩,fun w n h0 hb=>?_⟩;have hb:n*72<=140737488355328:=hb;by_cases hz:n=0
 ·subst hz
  go_enter Tryz.func52,Tryz.ntmps52
  go_wp2
  go_ret
  exact⟨⟨.slice none 0 0,0,E.tid .ah,E.size .ah,none⟩,rfl,Below.refl _ _,rfl,rfl,rfl,.inl ⟨World.ownsRow_nil w 0 _ _,rfl⟩,fun g hg=>by cases hg⟩
 ·obtain⟨k,rfl⟩:∃k:Nat,n=k:=⟨n.toNat,by omega⟩
  obtain⟨i,z,hi,his,hib,hzz,hzs⟩:=E.tZ .ah;have h:=Lib.run_append_nil_zeros (P:=Tryz.prog) w 28 3 28 30 i z .i64 .i64 Tryz.underlying28 Tryz.underlying3 hi hzz k (by omega) (by rw[his];exact E.size_pos _) (by omega) (by rw[hib];show k*72<=_;omega);generalize z.cells=C at h hzs;have hC:C.size=4:=hzs;have hcap:=grownCap_ge w k 0 30
  go_enter Tryz.func52,Tryz.ntmps52
  go_wp2_with (at_builtin;refine Lib.wpList_append_run _ rfl _ _ _ _ rfl _ _ rfl rfl _ _ h ?_)
  go_ret
  refine⟨⟨.slice (some ⟨w.heap.size,0,none⟩) 0 (grownCap w k 0 30),0,E.tid .ah,E.size .ah,some w.heap.size⟩,rfl,((Below.refl _ _).alloc (acM _) _).drew,rfl,rfl,rfl,.inl ⟨?_,rfl⟩,fun g hg=>by cases hg;exact acM _⟩;refine World.ownsRow.drew (World.ownsRow_made w _ _ (ab8 _) ?_ ?_)
  ·exact grownCap_le_maxLen w k 0 30 (by unfold maxLen;omega)
  ·rw[Array.size_append,YN C k hC,YN C _ hC];show _=grownCap w k 0 30*4;omega
def lT{α:Type}(l:List α):Bool:=decide (l.length<=1000000)
theorem nI{α:Type}{l:List α}:lT l=true↔l.length<=1000000:=by simp[lT]
def rZ(s:alJ):Nat->List (alJ)->Int
 | _,[]=>-1
 | i,a::t=>if s=a then i else rZ s (i+1) t
def index(l:List (alJ))(s:alJ):Int:=rZ s 0 l
noncomputable def TI:jH E:=Gp (E:=E) .bK .str .int (fun l _=>lT l) index
def YO:FuncId:=58
noncomputable def acs:Hint E:={ live:=[(0,[0,1,7,8])] }
noncomputable def I9(v0:List (alJ))(v1:alJ)(v2 v3:Int):aD E:=aD.mk 19 [(0,.d (.slice .str v0)),(1,.d (.str v1)),(7,.d (.int .i64 v2)),(8,.d (.int .i64 v3))] [] 0
noncomputable def acu(G:fQ E)(x0:List (alJ))(x1:alJ):Option (List (TV E)) :=
 G 0 (I9 x0 x1 (x0.length:Int) 0)
noncomputable def Ja(G:fQ E)(v0:List (alJ))(v1:alJ)(v2 v3:Int):Option (List (TV E)) :=
 bif(decide (v3<v2))then(bif(decide ((0:Int)<=v3)&&decide (v3<(v0.length:Int)))then(bif(v1==(List.getD v0 (Int.toNat v3) (dflt .str)))then some [⟨.int,v3⟩]else G 0 (I9 v0 v1 v2 (aA (v3+(1:Int)))))else none)else some [⟨.int,(-1:Int)⟩]
theorem YP:aG E (ji [] [] [] []):=fI .nil .nil .nil .nil
theorem YQ{res:List (TV E)}{v0:List (alJ)}{v1:alJ}{v2 v3:Int}(h:Ja (Gr E Tryz.f58 res) v0 v1 v2 v3=some res):Ev E Tryz.f58 res 0 (I9 v0 v1 v2 v3):=Ev.of (H:=acs) YP mix (t:=fun G=>Ja G v0 v1 v2 v3) (fun G=>by kernel_rfl) h
theorem abk(h:∀(x0:List (alJ)) (x1:alJ),(fun l _=>lT l) x0 x1=true->acu (Gr E Tryz.f58 [⟨.int,index x0 x1⟩]) x0 x1=some [⟨.int,index x0 x1⟩]):bM E YO TI:=yA YP mix Tryz.func58 (by kernel_rfl) (by kernel_rfl) (fun x0 x1 hk=>fO (H:=acs) (t:=fun G=>acu G x0 x1) (fun G=>by kernel_rfl) (h x0 x1 hk))
theorem afb(l:List (alJ))(s:alJ)(hl:l.length<=1000000):∀(m i:Nat),l.length-i=m->i<=l.length->Ev E Tryz.f58 [⟨.int,rZ s i (l.drop i)⟩] 0 (I9 l s l.length i):=by
 intro m
 induction m with
 | zero =>intro i h1 h2;refine YQ ?_;simp only[Ja,yB (show l.length<=i by omega),cond_false,ace (show l.length<=i by omega)];rfl
 | succ m ih =>
  intro i h1 h2;have hi:i<l.length:=by omega
  refine YQ ?_;simp only[Ja,rG hi,d0,gd l _ i hi,acK,cond_true];rw[<- aci hi];unfold rZ;by_cases hs:s=l[i]
  ·rw[if_pos hs,show(s==l[i])=true from by simpa using hs];rfl
  ·rw[if_neg hs,show(s==l[i])=false from by simpa using hs,cond_false,bf (by omega) (by omega)];exact dP (ih (i+1) (by omega) (by omega))
theorem aj0:bM E YO TI:=abk fun l s hk=>by have:=afb l s (nI.1 hk) l.length 0 (by omega) (by omega);rw[agr]at this;exact dP this
def equal(a b:List (alJ)):Bool:=a==b
def lens(l:List (List (alJ))):Nat:=(l.map List.length).sum
def Cg(l:List (List (alJ))):Bool:=decide (l.length<=1000000)&&decide (lens l<=1000000)
noncomputable def Jb:jH E:=Es (E:=E) .pK .bK Cg List.flatten
def Vz:FuncId:=38
noncomputable def P6:Hint E:={ live:=[(0,[0,3,9,10,11]),(1,[6,25,26,27])] }
noncomputable def Ey(v0:List (List (alJ)))(v1:Int)(v2:List (List (alJ)))(v3 v4:Int):aD E:=aD.mk 36 [(0,.d (.slice .bK v0)),(3,.d (.int .i64 v1)),(9,.d (.slice .bK v2)),(10,.d (.int .i64 v3)),(11,.d (.int .i64 v4))] [] 0
noncomputable def Ez(v0:Nat)(v1:List (List (alJ)))(v2 v3:Int)(v4:List (alJ)):aD E:=aD.mk 36 [(6,.row .str v0 0),(25,.d (.slice .bK v1)),(26,.d (.int .i64 v2)),(27,.d (.int .i64 v3))] [(0,.row .str v4)] 1
noncomputable def YR(G:fQ E)(x0:List (List (alJ))):Option (List (TV E)) :=
 G 0 (Ey x0 0 x0 (x0.length:Int) 0)
noncomputable def EA(G:fQ E)(v0:List (List (alJ)))(v1:Int)(v2:List (List (alJ)))(v3 v4:Int):Option (List (TV E)) :=
 bif(decide (v4<v3))then(bif(decide ((0:Int)<=v4)&&decide (v4<(v2.length:Int)))then(bif(decide ((aA (v1+((List.getD v2 (Int.toNat v4) (dflt .bK)).length:Int)))<(0:Int)))then none else G 0 (Ey v0 (aA (v1+((List.getD v2 (Int.toNat v4) (dflt .bK)).length:Int))) v2 v3 (aA (v4+(1:Int)))))else none)else(bif(decide ((0:Int)<=v1)&&decide (v1*(16:Int)<=140737488355328))then G 1 (Ez 0 v0 (v0.length:Int) 0 [])else none)
noncomputable def EB(G:fQ E)(_v0:Nat)(v1:List (List (alJ)))(v2 v3:Int)(v4:List (alJ)):Option (List (TV E)) :=
 bif(decide (v3<v2))then(bif(decide ((0:Int)<=v3)&&decide (v3<(v1.length:Int)))then(bif(decide ((v4.length+(List.getD v1 (Int.toNat v3) (dflt .bK)).length)*16<=aL))then G 1 (Ez (v4.length+(List.getD v1 (Int.toNat v3) (dflt .bK)).length) v1 v2 (aA (v3+(1:Int))) (v4++(List.getD v1 (Int.toNat v3) (dflt .bK))))else none)else none)else some [⟨.bK,v4⟩]
theorem LP:aG E (ji [] [] [] [(51,.str)]):=fI .nil .nil .nil (.cons ajZ .nil)
theorem VA{res:List (TV E)}{v0:List (List (alJ))}{v1:Int}{v2:List (List (alJ))}{v3 v4:Int}(h:EA (Gr E Tryz.f38 res) v0 v1 v2 v3 v4=some res):Ev E Tryz.f38 res 0 (Ey v0 v1 v2 v3 v4):=Ev.of (H:=P6) LP mix (t:=fun G=>EA G v0 v1 v2 v3 v4) (fun G=>by kernel_rfl) h
theorem VB{res:List (TV E)}{v0:Nat}{v1:List (List (alJ))}{v2 v3:Int}{v4:List (alJ)}(h:EB (Gr E Tryz.f38 res) v0 v1 v2 v3 v4=some res):Ev E Tryz.f38 res 1 (Ez v0 v1 v2 v3 v4):=Ev.of (H:=P6) LP mix (t:=fun G=>EB G v0 v1 v2 v3 v4) (fun G=>by kernel_rfl) h
theorem YS(h:∀(x0:List (List (alJ))),Cg x0=true->YR (Gr E Tryz.f38 [⟨.bK,List.flatten x0⟩]) x0=some [⟨.bK,List.flatten x0⟩]):bM E Vz Jb:=uZ LP mix Tryz.func38 (by kernel_rfl) (by kernel_rfl) (fun x0 hk=>fO (H:=P6) (t:=fun G=>YR G x0) (fun G=>by kernel_rfl) (h x0 hk))
theorem VD(l:List (List (alJ)))(i:Nat)(hi:i<l.length):lens (l.take (i+1))=lens (l.take i)+l[i].length:=by unfold lens;rw[<- List.take_append_getElem hi,List.map_append,List.sum_append];rfl
theorem acv(l:List (List (alJ))):∀i,lens (l.take i)<=lens l:=by
 intro i;have:lens l=lens (l.take i)+lens (l.drop i):=by unfold lens;rw[<- List.sum_append,<- List.map_append,ag5]
 omega
theorem aj1(l:List (List (alJ)))(hl:l.length<=1000000)(hs:lens l<=1000000):∀(m i v0:Nat) (out:List (alJ)),l.length-i=m->i<=l.length->out.length=lens (l.take i)->v0=out.length ->
  Ev E Tryz.f38 [⟨.bK,out++(l.drop i).flatten⟩] 1 (Ez v0 l l.length i out):=by
 intro m
 induction m with
 | zero =>intro i v0 out h1 h2 h3 h4;refine VB ?_;simp only[EB,yB (show l.length<=i by omega),cond_false,ace (show l.length<=i by omega),List.flatten_nil,acP]
 | succ m ih =>
  intro i v0 out h1 h2 h3 h4;have hi:i<l.length:=by omega
  have h5:=VD l i hi;have h6:=acv l (i+1);refine VB ?_;simp only[EB,rG hi,d0,gd l _ i hi,acK,cond_true];rw[dT (show(out.length+l[i].length)*16<=aL by rw[mb];omega),cond_true,bf (by omega) (by omega),<- aci hi,List.flatten_cons,<- acN];exact dP (ih (i+1) _ (out++l[i]) (by omega) (by omega) (by rw[List.length_append];omega) (by rw[List.length_append]))
theorem aj2(l:List (List (alJ)))(hl:l.length<=1000000)(hs:lens l<=1000000):∀(m i:Nat),l.length-i=m->i<=l.length ->
  Ev E Tryz.f38 [⟨.bK,l.flatten⟩] 0 (Ey l (lens (l.take i)) l l.length i):=by
 intro m
 induction m with
 | zero =>intro i h1 h2;have e:l.take i=l:=ac8 (by omega);refine VA ?_;simp only[EA,yB (show l.length<=i by omega),cond_false,e,d0];rw[dT (show(lens l:Int)*16<=140737488355328 by omega),acK,cond_true];have:=aj1 l hl hs l.length 0 0 [] (by omega) (by omega) (by simp[lens]) rfl;rw[agr,ac7]at this;exact dP this
 | succ m ih =>
  intro i h1 h2;have hi:i<l.length:=by omega
  have h5:=VD l i hi;have h6:=acv l (i+1);refine VA ?_;simp only[EA,rG hi,d0,gd l _ i hi,acK,cond_true];rw[bf (n:=(lens (l.take i):Int)+(l[i].length:Int)) (by omega) (by omega),dF (by omega),cond_false,bf (by omega) (by omega),show(lens (l.take i):Int)+(l[i].length:Int)=(lens (l.take (i+1)):Nat)from by omega];exact dP (ih (i+1) (by omega) (by omega))
theorem VE:bM E Vz Jb:=YS fun l hk=>by simp only[Cg,ach,acJ]at hk;exact dP (aj2 l hk.1 hk.2 l.length 0 (by omega) (by omega))
noncomputable def LQ:jH E:=Es (E:=E) .bK .bK lT Pl.bq
def RL:FuncId:=49
noncomputable def LU(_G:fQ E)(x0:List (alJ)):Option (List (TV E)) :=
 bif(decide ((([]:List (alJ)).length+x0.length)*16<=aL))then(bif(rH (([]:List (alJ))++x0))then(bif(rH (Pl.o7 (([]:List (alJ))++x0)))then some [⟨.bK,(Lib.compact (Pl.o7 (([]:List (alJ))++x0)))⟩]else none)else none)else none
theorem afc:aG E (ji [] [] [(57,Vx),(56,ag7)] []):=fI .nil .nil (.cons abj (.cons ajY .nil)) .nil
theorem WG(h:∀(x0:List (alJ)),lT x0=true->LU (Gr E Tryz.f49 [⟨.bK,Pl.bq x0⟩]) x0=some [⟨.bK,Pl.bq x0⟩]):bM E RL LQ:=uZ afc mix Tryz.func49 (by kernel_rfl) (by kernel_rfl) (fun x0 hk=>fO (H:={}) (t:=fun G=>LU G x0) (fun G=>by kernel_rfl) (h x0 hk))
theorem afd:bM E RL LQ:=WG fun l hk=>by
 have hl:=nI.1 hk;have h1:rH (([]:List (alJ))++l)=true:=by simpa[rH]using hl
 have h2:rH (Pl.o7 (([]:List (alJ))++l))=true:=by simp only[rH,acJ,Pl.LM];simpa using hl
 simp only[LU,h1,h2,cond_true];rw[dT (show(([]:List (alJ)).length+l.length)*16<=aL by rw[mb,ag4];omega)];rfl
def both(a b:List (alJ)):List (alJ):=Pl.bq (a++b)
def Kn(a b:List (alJ)):Bool:=decide (a.length+b.length<=100000)
noncomputable def TJ:jH E:=Gp (E:=E) .bK .bK .bK Kn both
def YT:FuncId:=35
noncomputable def TK(_G:fQ E)(x0 x1:List (alJ)):Option (List (TV E)) :=
 bif(Cg ([x0,x1]:List (List (alJ))))then(bif(lT (List.flatten ([x0,x1]:List (List (alJ)))))then some [⟨.bK,(Pl.bq (List.flatten ([x0,x1]:List (List (alJ)))))⟩]else none)else none
theorem aj3:aG E (ji [(49,LQ),(38,Jb)] [] [] []):=fI (.cons afd (.cons VE .nil)) .nil .nil .nil
theorem abl(h:∀(x0:List (alJ)) (x1:List (alJ)),Kn x0 x1=true->TK (Gr E Tryz.f35 [⟨.bK,both x0 x1⟩]) x0 x1=some [⟨.bK,both x0 x1⟩]):bM E YT TJ:=yA aj3 mix Tryz.func35 (by kernel_rfl) (by kernel_rfl) (fun x0 x1 hk=>fO (H:={}) (t:=fun G=>TK G x0 x1) (fun G=>by kernel_rfl) (h x0 x1 hk))
theorem aj4:bM E YT TJ:=abl fun a b hk=>by
 simp only[Kn,acJ]at hk;have e:List.flatten [a,b]=a++b:=by simp
 have h1:Cg [a,b]=true:=by simp only[Cg,lens,ach,acJ];simp;omega
 have h2:lT (a++b)=true:=by rw[nI,List.length_append];omega
 simp only[TK,h1,e,h2,cond_true];rfl
noncomputable def afe:jH E:=Gp (E:=E) .bK .str .int (fun l _=>lT l) index
def ag9:FuncId:=50
noncomputable def aff(_G:fQ E)(x0:List (alJ))(x1:alJ):Option (List (TV E)) :=
 bif((fun l _=>lT l) x0 x1)then some [⟨.int,(index x0 x1)⟩]else none
theorem aot:aG E (ji [(58,TI)] [] [] []):=fI (.cons aj0 .nil) .nil .nil .nil
theorem aha(h:∀(x0:List (alJ)) (x1:alJ),(fun l _=>lT l) x0 x1=true->aff (Gr E Tryz.f50 [⟨.int,index x0 x1⟩]) x0 x1=some [⟨.int,index x0 x1⟩]):bM E ag9 afe:=yA aot mix Tryz.func50 (by kernel_rfl) (by kernel_rfl) (fun x0 x1 hk=>fO (H:={}) (t:=fun G=>aff G x0 x1) (fun G=>by kernel_rfl) (h x0 x1 hk))
theorem aou:bM E ag9 afe:=aha fun l s hk=>by simp only[aff,hk,cond_true]
structure form where
 n:Node
 bad:Bool
structure field where
 n:Node
 left:Int
 bad:Bool
instance:Df form:=⟨⟨dflt .ah,false⟩⟩
instance:Df field:=⟨⟨dflt .ah,0,false⟩⟩
def arY(s p:alJ):Bool:=decide (s.length<=1000000)&&decide (p.length=1)
def OJ(s p:alJ):Int:=Lib.indexByte s (p.headD 0)
def zG(s p:alJ):alJ:=bif decide (0<=OJ s p)then s.take (OJ s p).toNat else s
def Jc(s p:alJ):alJ:=bif decide (0<=OJ s p)then s.drop ((OJ s p).toNat+1)else[]
def P7(s p:alJ):Bool:=decide (0<=OJ s p)
theorem eX(x:Node):(⟨x.kind,x.text,x.keys,x.kids⟩:Node)=x:=by cases x;rfl
def zn:Node:=⟨0,[],[],[]⟩
def lk:List (alJ)->List Node->alJ->Option Node
 | a::t,v::w,k=>if k=a then some v else lk t w k
 | _,_,_=>none
def get(n:Node)(k:alJ):Option Node:=if n.kind=3 then lk n.keys n.kids k else none
def av(n:Node)(k:alJ):Node:=(get n k).getD zn
def aB(n:Node)(k:alJ):Bool:=(get n k).isSome
def fit(n:Node):Bool:=decide (n.keys.length<=1000000)&&decide (n.kids.length<=1000000)&&(n.kind != 3||decide (n.keys.length=n.kids.length))
theorem uo{n:Node}:fit n=true↔(n.keys.length<=1000000/\n.kids.length<=1000000)/\(n.kind=3->n.keys.length=n.kids.length):=by simp only[fit,ach,alC,acJ,bne_iff_ne];grind
def place(n:Node)(k:alJ):Int:=if n.kind=3 then index n.keys k else -1
noncomputable def Jd:jH E:=Gp (E:=E) .ah .str .int (fun n _=>fit n) place
def VF:FuncId:=37
noncomputable def Je(_G:fQ E)(x0:Node)(x1:alJ):Option (List (TV E)) :=
 bif(bif(x0.kind != (3:Int))then true else((x0.keys.length:Int)!=(x0.kids.length:Int)))then some [⟨.int,(-1:Int)⟩]else(bif((fun l _=>lT l) x0.keys x1)then some [⟨.int,(index x0.keys x1)⟩]else none)
theorem ahb:aG E (ji [(50,afe)] [] [] []):=fI (.cons aou .nil) .nil .nil .nil
theorem YU(h:∀(x0:Node) (x1:alJ),(fun n _=>fit n) x0 x1=true->Je (Gr E Tryz.f37 [⟨.int,place x0 x1⟩]) x0 x1=some [⟨.int,place x0 x1⟩]):bM E VF Jd:=yA ahb mix Tryz.func37 (by kernel_rfl) (by kernel_rfl) (fun x0 x1 hk=>fO (H:={}) (t:=fun G=>Je G x0 x1) (fun G=>by kernel_rfl) (h x0 x1 hk))
theorem VG:bM E VF Jd:=YU fun n k hk=>by
 have hf:=uo.1 hk;have h1:lT n.keys=true:=nI.2 hf.1.1;unfold place;by_cases h:n.kind=3
 ·rw[if_pos h];simp only[Je,h1,cond_true,iE h,cond_false];grind
 ·rw[if_neg h];simp only[Je,fZ h,cond_true]
theorem ahc:∀(keys:List (alJ)) (kids:List Node) (k:alJ) (i:Nat),keys.length=kids.length ->
  (rZ k i keys = -1/\lk keys kids k=none)\/∃(j:Nat) (h:j<kids.length),rZ k i keys=((i+j:Nat):Int)/\lk keys kids k=some kids[j]
 | [],[],k,i,_=>.inl ⟨rfl,rfl⟩
 | a::t,v::w,k,i,h=>by
  unfold rZ lk;by_cases e:k=a
  ·grind
  ·rw[if_neg e,if_neg e];rcases ahc t w k (i+1) (by simpa using h)with h1 | ⟨j,hj,h1,h2⟩
   ·exact .inl h1
   ·exact .inr ⟨j+1,by simpa using hj,by rw[h1];omega,by simpa using h2⟩
 | [],_::_,_,_,h=>by simp at h
 | _::_,[],_,_,h=>by simp at h
noncomputable def YV:jH E:=aeZ (E:=E) .ah .str .ah .bool (fun n _=>fit n) av aB
def acw:FuncId:=36
noncomputable def YW(_G:fQ E)(x0:Node)(x1:alJ):Option (List (TV E)) :=
 bif((fun n _=>fit n) (⟨x0.kind,x0.text,x0.keys,x0.kids⟩:Node) x1)then(bif(decide ((place ⟨x0.kind,x0.text,x0.keys,x0.kids⟩ x1)<(0:Int)))then some [⟨.ah,(⟨0,[],[],[]⟩:Node)⟩,⟨.bool,false⟩]else(bif(decide ((0:Int)<=(place ⟨x0.kind,x0.text,x0.keys,x0.kids⟩ x1))&&decide ((place ⟨x0.kind,x0.text,x0.keys,x0.kids⟩ x1)<(x0.kids.length:Int)))then some [⟨.ah,(⟨(List.getD x0.kids (Int.toNat (place ⟨x0.kind,x0.text,x0.keys,x0.kids⟩ x1)) (dflt .ah)).kind,(List.getD x0.kids (Int.toNat (place ⟨x0.kind,x0.text,x0.keys,x0.kids⟩ x1)) (dflt .ah)).text,(List.getD x0.kids (Int.toNat (place ⟨x0.kind,x0.text,x0.keys,x0.kids⟩ x1)) (dflt .ah)).keys,(List.getD x0.kids (Int.toNat (place ⟨x0.kind,x0.text,x0.keys,x0.kids⟩ x1)) (dflt .ah)).kids⟩:Node)⟩,⟨.bool,true⟩]else none))else none
theorem amW:aG E (ji [(37,Jd)] [] [] []):=fI (.cons VG .nil) .nil .nil .nil
theorem afg(h:∀(x0:Node) (x1:alJ),(fun n _=>fit n) x0 x1=true->YW (Gr E Tryz.f36 [⟨.ah,av x0 x1⟩,⟨.bool,aB x0 x1⟩]) x0 x1=some [⟨.ah,av x0 x1⟩,⟨.bool,aB x0 x1⟩]):bM E acw YV:=acf amW mix Tryz.func36 (by kernel_rfl) (by kernel_rfl) (fun x0 x1 hk=>fO (H:={}) (t:=fun G=>YW G x0 x1) (fun G=>by kernel_rfl) (h x0 x1 hk))
theorem amX:bM E acw YV:=afg fun n k hk=>by
 have hf:=uo.1 hk;simp only[YW,eX,hk,cond_true];by_cases h:n.kind=3
 ·have hp:place n k=rZ k 0 n.keys:=by unfold place index;rw[if_pos h]
  have hg:get n k=lk n.keys n.kids k:=if_pos h;unfold av aB;rw[hg,hp];rcases ahc n.keys n.kids k 0 (hf.2 h)with⟨h1,h2⟩ | ⟨j,hj,h1,h2⟩
  ·rw[h1,h2];rfl
  grind
 ·have hp:place n k = -1:=by unfold place;rw[if_neg h]
  have hg:get n k=none:=if_neg h;unfold av aB;rw[hg,hp];rfl
def EC(f:Node->Node->Bool):List Node->List Node->Bool
 | [],[]=>true
 | a::s,b::t=>f a b&&EC f s t
 | _,_=>false
def same:Nat->Node->Node->Bool
 | 0,_,_=>false
 | n+1,a,b=>a.kind==b.kind&&(a.text==b.text&&(a.keys==b.keys&&EC (same n) a.kids b.kids))
def dp:Nat->Node->Bool
 | 0,_=>false
 | n+1,x=>decide (x.keys.length<=1000000)&&decide (x.kids.length<=1000000)&&x.kids.all (dp n)
theorem Gt{n:Nat}{x:Node}:dp (n+1) x=true↔(x.keys.length<=1000000/\x.kids.length<=1000000)/\∀y∈x.kids,dp n y=true:=by simp only[dp,ach,acJ,agY]
def Gu(n:Nat)(a b:Node):Bool:=dp n a&&dp n b
theorem VH{f:Node->Node->Bool}:∀{a b:List Node},a.length≠b.length->EC f a b=false
 | [],[],h=>absurd rfl h
 | a::s,b::t,h=>by unfold EC;rw[VH (a:=s) (b:=t) (by simpa using h),ah8]
 | [],_::_,_=>rfl
 | _::_,[],_=>rfl
def wf(B:Nat):Nat->Node->Bool
 | 0,_=>false
 | n+1,x=>decide (x.keys.length<=B)&&decide (x.kids.length<=B)&&(x.kind != 3||decide (x.keys.length=x.kids.length))&&decide (x.text.length<=200)&&x.keys.all (fun k=>decide (k.length<=200))&&x.kids.all (wf B n)
theorem LV{B n:Nat}{x:Node}:wf B (n+1) x=true↔x.keys.length<=B/\x.kids.length<=B/\(x.kind=3->x.keys.length=x.kids.length)/\x.text.length<=200/\(∀k∈x.keys,k.length<=200)/\∀y∈x.kids,wf B n y=true:=by simp only[wf,ach,alC,acJ,bne_iff_ne,agY];grind
def wg(B:Nat):Nat->Node->Bool
 | 0,_=>false
 | n+1,x=>decide (x.keys.length<=B)&&decide (x.kids.length<=B)&&(x.kind != 3||decide (x.keys.length=x.kids.length))&&x.kids.all (wg B n)
theorem fD{B n:Nat}{x:Node}:wg B (n+1) x=true↔x.keys.length<=B/\x.kids.length<=B/\(x.kind=3->x.keys.length=x.kids.length)/\∀y∈x.kids,wg B n y=true:=by simp only[wg,ach,alC,acJ,bne_iff_ne,agY];grind
theorem u7{B n:Nat}{x:Node}(h:wg B (n+1) x=true)(hB:B<=1000000):fit x=true:=by have:=fD.1 h;exact uo.2 ⟨⟨by omega,by omega⟩,this.2.2.1⟩
theorem Xt{B:Nat}(hB:B<=1000000):∀{n:Nat} {x:Node},wg B n x=true->dp n x=true
 | 0,_,h=>by cases h
 | n+1,x,h=>by have:=fD.1 h;exact Gt.2 ⟨⟨by omega,by omega⟩,fun y hy=>Xt hB (this.2.2.2 y hy)⟩
theorem alj{B C:Nat}(hB:B<=C):∀{n:Nat} {x:Node},wg B n x=true->wg C n x=true
 | 0,_,h=>by cases h
 | n+1,x,h=>by have:=fD.1 h;exact fD.2 ⟨by omega,by omega,this.2.2.1,fun y hy=>alj hB (this.2.2.2 y hy)⟩
theorem TM{B:Nat}:∀{n:Nat} {x:Node} (k:Nat),wg B n x=true->wg B (n+k) x=true
 | 0,_,_,h=>by cases h
 | n+1,x,k,h=>by have:=fD.1 h;rw[Nat.add_right_comm];exact fD.2 ⟨this.1,this.2.1,this.2.2.1,fun y hy=>TM k (this.2.2.2 y hy)⟩
theorem alk{B:Nat}:∀{n:Nat} {x:Node},wf B n x=true->wg B n x=true
 | 0,_,h=>by cases h
 | n+1,x,h=>by have:=LV.1 h;exact fD.2 ⟨this.1,this.2.1,this.2.2.1,fun y hy=>alk (this.2.2.2.2.2 y hy)⟩
theorem ahd:∀{keys:List (alJ)} {kids:List Node} {k:alJ} {x:Node},lk keys kids k=some x->x∈kids
 | a::t,v::w,k,x,h=>by
  unfold lk at h;split at h
  ·cases h;exact ab1
  ·exact aav _ (ahd h)
 | [],_,_,_,h=>by cases h
 | _::_,[],_,_,h=>by cases h
theorem Gv:∀{keys:List (alJ)} {kids:List Node} {k:alJ},keys.length=kids.length->k∈keys->∃x,lk keys kids k=some x
 | a::t,v::w,k,hl,h=>by
  unfold lk;by_cases e:k=a
  ·exact⟨v,if_pos e⟩
  ·rw[if_neg e];exact Gv (by simpa using hl) ((List.mem_cons.1 h).resolve_left e)
 | [],_,_,_,h=>by cases h
 | _::_,[],_,hl,_=>by simp at hl
theorem iU{a:Node}{k:alJ}(h:aB a k=true):av a k∈a.kids:=by
 unfold aB at h;unfold av;cases hg:get a k with
 | none=>rw[hg]at h;cases h
 | some x =>
  unfold get at hg;split at hg
  ·exact ahd hg
  ·cases hg
theorem YX{B n:Nat}{a:Node}{k:alJ}(ha:wg B (n+1) a=true)(h3:a.kind=3)(hk:k∈a.keys):aB a k=true:=by obtain⟨x,hx⟩:=Gv ((fD.1 ha).2.2.1 h3) hk;unfold aB get;rw[if_pos h3,hx];rfl
theorem C8{B n:Nat}{a:Node}{k:alJ}(ha:wg B (n+1) a=true)(h:aB a k=true):wg B n (av a k)=true:=(fD.1 ha).2.2.2 _ (iU h)
def lX(s:alJ):Node:=⟨1,s,[],[]⟩
def je(n:Node)(k:alJ)(v:Node):Node:=bif(bif n.kind != 3 then n.kind != 0 else false)then n else bif decide (0<=index n.keys k)then⟨3,[],n.keys,n.kids.set (index n.keys k).toNat v⟩else⟨3,[],n.keys++[k],n.kids++[v]⟩
def gW:Nat->Node->Node
 | 0,x=>x
 | n+1,x=>bif(x.kids.length:Int)==0 then x else bif x.kind != 3 then⟨x.kind,x.text,[],x.kids.map (gW n)⟩else⟨x.kind,x.text,Pl.bq x.keys,(Pl.bq x.keys).map fun k=>gW n (av x k)⟩
def arZ(s:alJ)(c:Int):Int:=Lib.indexByte s c.toNat.toUInt8
def Jf(c:UInt8)(new:alJ):alJ->alJ
 | []=>[]
 | b::t=>if b==c then new++Jf c new t else b::Jf c new t
theorem VI(c:UInt8)(new:alJ)(b:UInt8)(t:alJ):Jf c new (b::t)=if b==c then new++Jf c new t else b::Jf c new t:=rfl
theorem ahe(c b:UInt8)(t:alJ):Lib.countByte (b::t) c=Lib.countByte t c+if b==c then 1 else 0:=List.count_cons
theorem YZ(c:UInt8)(new:alJ):∀t:alJ,(Jf c new t).length<=t.length+Lib.countByte t c*new.length
 | []=>ab8 _
 | b::t=>by
  have ih:=YZ c new t;rw[VI,ahe];by_cases hb:(b==c)=true
  ·rw[if_pos hb,if_pos hb,List.length_append,acj,Nat.add_mul,Nat.one_mul];omega
  ·rw[if_neg hb,if_neg hb,ah7,acj,acj];omega
section
open Go.Shelf Go.Lib
variable {P:Program} {ρ:Ren}
end
def ar0(s p:alJ)(a b:Int):Bool:=decide (s.length<=1000000)&&decide (p.length=1)&&(a==0)&&(b == -1)
def jX(s p:alJ)(_ _:Int):List (alJ):=Lib.split s p
end Go.Proofs.YtibpdjmikfmmaaaGreat.Rf
namespace Go.Proofs.YtibpdjmikfmmaaaGreat.bB
open Go Go.RowKit
section
variable {P:Program} {n:Nat} {r:Option Nat} {ops:Array Oper} {Q Q':Exit->Act->World->Prop} {K K':Act->World->Prop} {a:Act} {w:World}
def Nm(K:Act->World->Prop):Exit->Act->World->Prop
 | .normal,a,w=>K a w
 | _,_,_=>False
theorem Nm.out:¬ LetsOut (Nm K):=fun⟨_,_,h⟩=>h
end
section
variable {P:Program} {E:Env P} {O:aK E} {w0:Start} {aZ:Nat->Nat->Prop} {S:aD E} {a:Act} {w w':World} {ι ι':Nat->Option Gh} {ro ro':Nat->Nat->Prop} {n:Nat} {r:Option Nat} {Q:Exit->Act->World->Prop}
structure Kept (w:World) (ι:Nat->Option Gh) (ro:Nat->Nat->Prop) (w':World) (ι':Nat->Option Gh) (ro':Nat->Nat->Prop):Prop where
 cell:∀k o,ro k o->ro' k o/\w'.cell? ⟨k,o,none⟩=w.cell? ⟨k,o,none⟩
 ext:∀id gh,ι id=some gh->ι' id=some gh
theorem cB.frame(hg:cB E w0 aZ S a w ι ro){a':Act}{m nx:Nat}{tm:List (Nat×AV E)}(hd:a'.defers=w0.dl)(hs:a'.tmps.size=m)(ht:qH E w ro ι a' tm)(hx:S.next<=nx):cB E w0 aZ ⟨m,tm,S.objs,nx⟩ a' w ι ro :=
 ⟨⟨hg.base.below,hg.base.aO,hg.base.oZ,hg.base.sQ,hd,hg.base.keep,hg.base.held⟩,hs,ht,hg.objs,hg.inj,fun id h=>hg.fresh id (acy hx h),fun id o h=>adg (hg.ids id o h) hx⟩
def ED{α:Type}(l:List (Nat×α)):List Nat->List (Nat×α)
 | []=>[]
 | i::r=>match look l i with
  | some x=>(i,x)::ED l r
  | none=>ED l r
theorem qN{α:Type}{l:List (Nat×α)}:∀{ids:List Nat} {t:Nat} {x:α},look (ED l ids) t=some x->look l t=some x
 | [],_,_,h=>by cases h
 | i::r,t,x,h=>by
  unfold ED at h;split at h
  ·rename_i y hy;simp only[aQ]at h;split at h
   ·rename_i hb;have:=ab5 hb;subst this;cases h;exact hy
   ·exact qN h
  ·exact qN h
theorem LW{α:Type}{l:List (Nat×α)}:∀{ids:List Nat} {p:Nat×α},p∈ED l ids->p∈l
 | [],_,h=>by cases h
 | i::r,p,h=>by
  unfold ED at h;split at h
  ·rename_i y hy;cases h with
   | head=>exact gZ _ _ _ hy
   | tail _ h=>exact LW h
  ·exact LW h
def pk(ts ids:List Nat)(nx:Nat)(S:aD E):Option (aD E):=match Nat.ble S.next nx with
 | true=>some ⟨S.n,ED S.tmps ts,ED S.objs ids,nx⟩
 | false=>none
theorem cB.pick(hnc:aR S.tmps)(hg:cB E w0 aZ S a w ι ro){ts ids:List Nat}{nx:Nat}{X:aD E}(h:pk ts ids nx S=some X):aR X.tmps/\cB E w0 aZ X a w ι ro/\X.n=S.n:=by
 unfold pk at h;split at h
 ·rename_i hb;cases h;have hx:=Nat.le_of_ble_eq_true hb;exact⟨fun p hp=>hnc p (LW hp),⟨hg.base,hg.size,fun t x hl=>hg.tmps t x (qN hl),fun id o hl=>hg.objs id o (qN hl),
   fun id id' o o' gh aX k h1 h2=>hg.inj id id' o o' gh aX k (qN h1) (qN h2),fun id h=>hg.fresh id (acy hx h),fun id o h=>adg (hg.ids id o (qN h)) hx⟩,rfl⟩
 ·cases h
theorem Kept.refl:Kept w ι ro w ι ro:=⟨fun _ _ h=>⟨h,rfl⟩,fun _ _ h=>h⟩
theorem Kept.trans{w2:World}{ι2:Nat->Option Gh}{ro2:Nat->Nat->Prop}(h:Kept w ι ro w' ι' ro')(h':Kept w' ι' ro' w2 ι2 ro2):Kept w ι ro w2 ι2 ro2 :=
 ⟨fun k o q=>⟨(h'.cell k o (h.cell k o q).1).1,(h'.cell k o (h.cell k o q).1).2.trans (h.cell k o q).2⟩,fun id gh q=>h'.ext id gh (h.ext id gh q)⟩
theorem qH.kept{tm:List (Nat×AV E)}(h:qH E w ro ι a tm)(hk:Kept w ι ro w' ι' ro'):qH E w' ro' ι' a tm:=fun t x hl=>by obtain⟨v,h1,h2⟩:=h t x hl;exact⟨v,h1,h2.mono (fun k o q=>(hk.cell k o q).1) (fun k o q=>(hk.cell k o q).2) hk.ext⟩
theorem cB.put{m nx:Nat}{tm:List (Nat×AV E)}{objs:List (Nat×aH E)}(hg:cB E w0 aZ ⟨m,tm,objs,nx⟩ a w ι ro)(hnc:aR tm){d:Nat}{val:Value}{x:AV E}(hd:d<m)(hv:aJ E w ro ι val x)(hx:bY x=false) :
  cB E w0 aZ ⟨m,(d,x)::tm,objs,nx⟩ (a.put (some d) val) w ι ro/\aR ((d,x)::tm):=by
 refine⟨⟨⟨hg.base.below,hg.base.aO,hg.base.oZ,hg.base.sQ,hg.base.defers,hg.base.keep,hg.base.held⟩,Iy.trans hg.size,fun t y hl=>?_,hg.objs,hg.inj,hg.fresh,hg.ids⟩,fun p hp=>?_⟩
 ·simp only[aQ]at hl;split at hl
  ·rename_i hb;have:=ab5 hb;subst this;cases hl;refine⟨val,?_,by cases x<;>first | exact hv | cases hx⟩;have hs:a.tmps.size=m:=hg.size;simp[Act.put,hs,hd]
  ·rename_i hb;obtain⟨v,h1,h2⟩:=hg.tmps t y hl;have hne:d≠t:=fun e=>hb (by subst e;exact Nat.beq_refl d)
   refine⟨v,(wX (fun e=>hne (by injection e))).trans h1,?_⟩;have hc:=hnc _ (gZ _ _ _ hl);cases y<;>first | exact h2 | cases hc
 ·cases hp with
  | head=>exact hx
  | tail _ hp=>exact hnc p hp
end
end Go.Proofs.YtibpdjmikfmmaaaGreat.bB
namespace Go.Proofs.YtibpdjmikfmmaaaGreat.Rf
open Go Go.RowKit Go.Sort Go.Proofs.YtibpdjmikfmmaaaGreat.bB
section
def hd(l D:Nat)(o:Obj):Nat->Option Obj:=fun k=>if k=l then some o else if k=D then some (.deferred (some []))else none
def LX(x:alJ):Bool:=bif(bif x==[]then true else x==[46])then true else x==[46,46]
end
def P8:alJ->List (alJ)
 | []=>[[]]
 | c::r=>bif c==47 then[]::P8 r else match P8 r with
  | h::t=>(c::h)::t
  | []=>[[c]]
theorem ahf(c:UInt8)(r:alJ):P8 (c::r)=bif c==47 then[]::P8 r else match P8 r with | h::t=>(c::h)::t | []=>[[c]]:=rfl
section
end
section
end
section
def c1(p:Bool)(s:alJ):Bool:=bif(!p)then true else((((List.getD s (Int.toNat (0:Int)) 0).toNat:Nat):Int)!=(47:Int))
end
def fG(c:Int):Int:=bif(bif decide (97<=c)then decide (c<=122)else false)then 1 else bif(bif decide (65<=c)then decide (c<=90)else false)then 2 else bif(bif decide (48<=c)then decide (c<=57)else false)then 3 else bif c==95 then 4 else bif c==45 then 5 else bif c==46 then 6 else 0
noncomputable def Cr:jH E:=Es (E:=E) .byte .int (fun _=>true) fG
def Y0:FuncId:=45
noncomputable def TN(_G:fQ E)(x0:Int):Option (List (TV E)) :=
 bif(bif(decide ((97:Int)<=x0))then(decide (x0<=(122:Int)))else false)then some [⟨.int,(1:Int)⟩]else(bif(bif(decide ((65:Int)<=x0))then(decide (x0<=(90:Int)))else false)then some [⟨.int,(2:Int)⟩]else(bif(bif(decide ((48:Int)<=x0))then(decide (x0<=(57:Int)))else false)then some [⟨.int,(3:Int)⟩]else(bif(x0==(95:Int))then some [⟨.int,(4:Int)⟩]else(bif(x0==(45:Int))then some [⟨.int,(5:Int)⟩]else(bif(x0==(46:Int))then some [⟨.int,(6:Int)⟩]else some [⟨.int,(0:Int)⟩])))))
theorem aj5:aG E (ji [] [] [] []):=fI .nil .nil .nil .nil
theorem abm(h:∀(x0:Int),TN (Gr E Tryz.f45 [⟨.int,fG x0⟩]) x0=some [⟨.int,fG x0⟩]):bM E Y0 Cr:=uZ aj5 mix Tryz.func45 (by kernel_rfl) (by kernel_rfl) (fun x0 _=>fO (H:={}) (t:=fun G=>TN G x0) (fun G=>by kernel_rfl) (h x0))
theorem Jg:bM E Y0 Cr:=abm fun c=>by simp only[TN,fG];grind
def EF(f:UInt8->Bool->Bool):alJ->Bool->Bool
 | [],_=>true
 | c::t,b=>bif f c b then false else EF f t false
def kc(c:UInt8):Int:=fG ((c.toNat:Int))
def dI(c:UInt8)(b:Bool):Bool:=bif kc c==0 then true else(bif b then decide (3<kc c)else false)
def uP(c:UInt8)(b:Bool):Bool:=bif(bif(bif kc c==0 then true else kc c==2)then true else kc c==6)then true else(bif b then decide (3<kc c)else false)
def bD(f:UInt8->Bool->Bool)(s:alJ):Bool:=bif(bif decide ((s.length:Int)<1)then true else decide ((24:Int)<(s.length:Int)))then false else EF f s true
noncomputable def Jh:jH E:=Es (E:=E) .str .bool (fun _=>true) (bD dI)
def OL:FuncId:=43
noncomputable def RN:Hint E:={ live:=[(0,[0,3])] }
noncomputable def Aa(v0:alJ)(v1:Int):aD E:=aD.mk 33 [(0,.d (.str v0)),(3,.d (.int .i64 v1))] [] 0
noncomputable def Ji(G:fQ E)(x0:alJ):Option (List (TV E)) :=
 bif(bif(decide ((x0.length:Int)<(1:Int)))then true else(decide ((24:Int)<(x0.length:Int))))then some [⟨.bool,false⟩]else G 0 (Aa x0 0)
noncomputable def Ab(G:fQ E)(v0:alJ)(v1:Int):Option (List (TV E)) :=
 bif(decide (v1<(v0.length:Int)))then(bif(decide ((0:Int)<=v1)&&decide (v1<(v0.length:Int)))then(bif(bif((fG (((List.getD v0 (Int.toNat v1) 0).toNat:Nat):Int))==(0:Int))then true else(bif(v1==(0:Int))then(decide ((3:Int)<(fG (((List.getD v0 (Int.toNat v1) 0).toNat:Nat):Int))))else false))then some [⟨.bool,false⟩]else G 0 (Aa v0 (aA (v1+(1:Int)))))else none)else some [⟨.bool,true⟩]
theorem OM:aG E (ji [(45,Cr)] [] [] []):=fI (.cons Jg .nil) .nil .nil .nil
theorem OO{res:List (TV E)}{v0:alJ}{v1:Int}(h:Ab (Gr E Tryz.f43 res) v0 v1=some res):Ev E Tryz.f43 res 0 (Aa v0 v1):=Ev.of (H:=RN) OM mix (t:=fun G=>Ab G v0 v1) (fun G=>by kernel_rfl) h
theorem TP(h:∀(x0:alJ),Ji (Gr E Tryz.f43 [⟨.bool,(bD dI) x0⟩]) x0=some [⟨.bool,(bD dI) x0⟩]):bM E OL Jh:=uZ OM mix Tryz.func43 (by kernel_rfl) (by kernel_rfl) (fun x0 _=>fO (H:=RN) (t:=fun G=>Ji G x0) (fun G=>by kernel_rfl) (h x0))
theorem WH(s:alJ)(hs:s.length<=24):∀(m i:Nat),s.length-i=m->i<=s.length ->
  Ev E Tryz.f43 [⟨.bool,EF dI (s.drop i) ((i:Int)==0)⟩] 0 (Aa s i):=by
 intro m
 induction m with
 | zero =>intro i h1 h2;refine OO ?_;simp only[Ab,yB (show s.length<=i by omega),cond_false,ace (show s.length<=i by omega)];rfl
 | succ m ih =>
  intro i h1 h2;have hi:i<s.length:=by omega
  have e3:aA ((i:Int)+1)=((i+1:Nat):Int):=by rw[bf (by omega) (by omega)];omega
  refine OO ?_;simp only[Ab,rG hi,d0,gd s _ i hi,acK,cond_true,e3];rw[<- aci hi];simp only[EF];change (bif dI s[i] ((i:Int)==0)then _ else _)=_;cases dI s[i] ((i:Int)==0)with
  | true=>rfl
  | false =>have:=dP (ih (i+1) (by omega) (by omega));rw[bZ (show((i+1:Nat):Int)≠0 by omega)]at this;exact this
theorem abn:bM E OL Jh:=TP fun s=>by
 simp only[Ji,bD];cases hg:(bif decide ((s.length:Int)<1)then true else decide ((24:Int)<(s.length:Int)))with
 | true=>rfl
 | false =>
  have hs:s.length<=24:=by grind
  have:=dP (WH s hs s.length 0 (by omega) (by omega));rw[agr]at this;exact this
noncomputable def Jj:jH E:=Es (E:=E) .str .bool (fun _=>true) (bD uP)
def OP:FuncId:=27
noncomputable def RO:Hint E:={ live:=[(0,[0,3])] }
noncomputable def Ac(v0:alJ)(v1:Int):aD E:=aD.mk 41 [(0,.d (.str v0)),(3,.d (.int .i64 v1))] [] 0
noncomputable def Jk(G:fQ E)(x0:alJ):Option (List (TV E)) :=
 bif(bif(decide ((x0.length:Int)<(1:Int)))then true else(decide ((24:Int)<(x0.length:Int))))then some [⟨.bool,false⟩]else G 0 (Ac x0 0)
noncomputable def Ad(G:fQ E)(v0:alJ)(v1:Int):Option (List (TV E)) :=
 bif(decide (v1<(v0.length:Int)))then(bif(decide ((0:Int)<=v1)&&decide (v1<(v0.length:Int)))then(bif(bif(bif(bif((fG (((List.getD v0 (Int.toNat v1) 0).toNat:Nat):Int))==(0:Int))then true else((fG (((List.getD v0 (Int.toNat v1) 0).toNat:Nat):Int))==(2:Int)))then true else((fG (((List.getD v0 (Int.toNat v1) 0).toNat:Nat):Int))==(6:Int)))then true else(bif(v1==(0:Int))then(decide ((3:Int)<(fG (((List.getD v0 (Int.toNat v1) 0).toNat:Nat):Int))))else false))then some [⟨.bool,false⟩]else G 0 (Ac v0 (aA (v1+(1:Int)))))else none)else some [⟨.bool,true⟩]
theorem OQ:aG E (ji [(45,Cr)] [] [] []):=fI (.cons Jg .nil) .nil .nil .nil
theorem OT{res:List (TV E)}{v0:alJ}{v1:Int}(h:Ad (Gr E Tryz.f27 res) v0 v1=some res):Ev E Tryz.f27 res 0 (Ac v0 v1):=Ev.of (H:=RO) OQ mix (t:=fun G=>Ad G v0 v1) (fun G=>by kernel_rfl) h
theorem TQ(h:∀(x0:alJ),Jk (Gr E Tryz.f27 [⟨.bool,(bD uP) x0⟩]) x0=some [⟨.bool,(bD uP) x0⟩]):bM E OP Jj:=uZ OQ mix Tryz.func27 (by kernel_rfl) (by kernel_rfl) (fun x0 _=>fO (H:=RO) (t:=fun G=>Jk G x0) (fun G=>by kernel_rfl) (h x0))
theorem WI(s:alJ)(hs:s.length<=24):∀(m i:Nat),s.length-i=m->i<=s.length ->
  Ev E Tryz.f27 [⟨.bool,EF uP (s.drop i) ((i:Int)==0)⟩] 0 (Ac s i):=by
 intro m
 induction m with
 | zero =>intro i h1 h2;refine OT ?_;simp only[Ad,yB (show s.length<=i by omega),cond_false,ace (show s.length<=i by omega)];rfl
 | succ m ih =>
  intro i h1 h2;have hi:i<s.length:=by omega
  have e3:aA ((i:Int)+1)=((i+1:Nat):Int):=by rw[bf (by omega) (by omega)];omega
  refine OT ?_;simp only[Ad,rG hi,d0,gd s _ i hi,acK,cond_true,e3];rw[<- aci hi];simp only[EF];change (bif uP s[i] ((i:Int)==0)then _ else _)=_;cases uP s[i] ((i:Int)==0)with
  | true=>rfl
  | false =>have:=dP (ih (i+1) (by omega) (by omega));rw[bZ (show((i+1:Nat):Int)≠0 by omega)]at this;exact this
theorem abo:bM E OP Jj:=TQ fun s=>by
 simp only[Jk,bD];cases hg:(bif decide ((s.length:Int)<1)then true else decide ((24:Int)<(s.length:Int)))with
 | true=>rfl
 | false =>
  have hs:s.length<=24:=by grind
  have:=dP (WI s hs s.length 0 (by omega) (by omega));rw[agr]at this;exact this
def C9(c:UInt8)(b:Bool):Bool:=bif(bif kc c==0 then true else decide (4<kc c))then true else(bif b then kc c==3 else false)
noncomputable def Fj:jH E:=Es (E:=E) .str .bool (fun _=>true) (bD C9)
def LY:FuncId:=107
noncomputable def OU:Hint E:={ live:=[(0,[0,3])] }
noncomputable def yC(v0:alJ)(v1:Int):aD E:=aD.mk 37 [(0,.d (.str v0)),(3,.d (.int .i64 v1))] [] 0
noncomputable def Fp(G:fQ E)(x0:alJ):Option (List (TV E)) :=
 bif(bif(decide ((x0.length:Int)<(1:Int)))then true else(decide ((24:Int)<(x0.length:Int))))then some [⟨.bool,false⟩]else G 0 (yC x0 0)
noncomputable def yD(G:fQ E)(v0:alJ)(v1:Int):Option (List (TV E)) :=
 bif(decide (v1<(v0.length:Int)))then(bif(decide ((0:Int)<=v1)&&decide (v1<(v0.length:Int)))then(bif(bif(bif((fG (((List.getD v0 (Int.toNat v1) 0).toNat:Nat):Int))==(0:Int))then true else(decide ((4:Int)<(fG (((List.getD v0 (Int.toNat v1) 0).toNat:Nat):Int)))))then true else(bif(v1==(0:Int))then((fG (((List.getD v0 (Int.toNat v1) 0).toNat:Nat):Int))==(3:Int))else false))then some [⟨.bool,false⟩]else G 0 (yC v0 (aA (v1+(1:Int)))))else none)else some [⟨.bool,true⟩]
theorem LZ:aG E (ji [(45,Cr)] [] [] []):=fI (.cons Jg .nil) .nil .nil .nil
theorem L6{res:List (TV E)}{v0:alJ}{v1:Int}(h:yD (Gr E Tryz.f107 res) v0 v1=some res):Ev E Tryz.f107 res 0 (yC v0 v1):=Ev.of (H:=OU) LZ mix (t:=fun G=>yD G v0 v1) (fun G=>by kernel_rfl) h
theorem RP(h:∀(x0:alJ),Fp (Gr E Tryz.f107 [⟨.bool,(bD C9) x0⟩]) x0=some [⟨.bool,(bD C9) x0⟩]):bM E LY Fj:=uZ LZ mix Tryz.func107 (by kernel_rfl) (by kernel_rfl) (fun x0 _=>fO (H:=OU) (t:=fun G=>Fp G x0) (fun G=>by kernel_rfl) (h x0))
theorem abp(s:alJ)(hs:s.length<=24):∀(m i:Nat),s.length-i=m->i<=s.length ->
  Ev E Tryz.f107 [⟨.bool,EF C9 (s.drop i) ((i:Int)==0)⟩] 0 (yC s i):=by
 intro m
 induction m with
 | zero =>intro i h1 h2;refine L6 ?_;simp only[yD,yB (show s.length<=i by omega),cond_false,ace (show s.length<=i by omega)];rfl
 | succ m ih2 =>
  intro i h1 h2;have hi:i<s.length:=by omega
  have e3:aA ((i:Int)+1)=((i+1:Nat):Int):=by rw[bf (by omega) (by omega)];omega
  refine L6 ?_;simp only[yD,rG hi,d0,gd s _ i hi,e3,acK,cond_true];rw[<- aci hi];simp only[EF];change (bif C9 s[i] ((i:Int)==0)then _ else _)=_;cases C9 s[i] ((i:Int)==0)with
  | true=>rfl
  | false =>have:=dP (ih2 (i+1) (by omega) (by omega));rw[bZ (show((i+1:Nat):Int)≠0 by omega)]at this;exact this
theorem Y1:bM E LY Fj:=RP fun s=>by
 simp only[Fp,bD];cases hg:(bif decide ((s.length:Int)<1)then true else decide ((24:Int)<(s.length:Int)))with
 | true=>rfl
 | false =>
  have hs:s.length<=24:=by grind
  have:=dP (abp s hs s.length 0 (by omega) (by omega));rw[agr]at this;exact this
theorem L8{f:UInt8->Bool->Bool}{s:alJ}(h:bD f s=true):1<=s.length/\s.length<=24:=by unfold bD at h;grind
def dD(l:List (alJ))(s:alJ):Bool:=l.any (· == s)
noncomputable def afh:jH E:=Gp (E:=E) .bK .str .bool (fun l _=>lT l) dD
def ahg:FuncId:=78
noncomputable def alm:Hint E:={ live:=[(0,[0,1,5])] }
noncomputable def RQ(v0:List (alJ))(v1:alJ)(v2:Int):aD E:=aD.mk 18 [(0,.d (.slice .str v0)),(1,.d (.str v1)),(5,.d (.int .i64 v2))] [] 0
noncomputable def aln(G:fQ E)(x0:List (alJ))(x1:alJ):Option (List (TV E)) :=
 G 0 (RQ x0 x1 0)
noncomputable def RS(G:fQ E)(v0:List (alJ))(v1:alJ)(v2:Int):Option (List (TV E)) :=
 bif(decide (v2<(v0.length:Int)))then(bif(decide ((0:Int)<=v2)&&decide (v2<(v0.length:Int)))then(bif((List.getD v0 (Int.toNat v2) (dflt .str))==v1)then some [⟨.bool,true⟩]else G 0 (RQ v0 v1 (aA (v2+(1:Int)))))else none)else some [⟨.bool,false⟩]
theorem ahh:aG E (ji [] [] [] []):=fI .nil .nil .nil .nil
theorem ahi{res:List (TV E)}{v0:List (alJ)}{v1:alJ}{v2:Int}(h:RS (Gr E Tryz.f78 res) v0 v1 v2=some res):Ev E Tryz.f78 res 0 (RQ v0 v1 v2):=Ev.of (H:=alm) ahh mix (t:=fun G=>RS G v0 v1 v2) (fun G=>by kernel_rfl) h
theorem ahj(h:∀(x0:List (alJ)) (x1:alJ),(fun l _=>lT l) x0 x1=true->aln (Gr E Tryz.f78 [⟨.bool,dD x0 x1⟩]) x0 x1=some [⟨.bool,dD x0 x1⟩]):bM E ahg afh:=yA ahh mix Tryz.func78 (by kernel_rfl) (by kernel_rfl) (fun x0 x1 hk=>fO (H:=alm) (t:=fun G=>aln G x0 x1) (fun G=>by kernel_rfl) (h x0 x1 hk))
theorem apT(l:List (alJ))(s:alJ)(hs:l.length<=1000000):∀(m i:Nat),l.length-i=m->i<=l.length ->
  Ev E Tryz.f78 [⟨.bool,(l.drop i).any (· == s)⟩] 0 (RQ l s i):=by
 intro m
 induction m with
 | zero =>intro i h1 h2;refine ahi ?_;simp only[RS,yB (show l.length<=i by omega),cond_false,ace (show l.length<=i by omega)];rfl
 | succ m ih2 =>
  intro i h1 h2;have hi:i<l.length:=by omega
  have e3:aA ((i:Int)+1)=((i+1:Nat):Int):=by rw[bf (by omega) (by omega)];omega
  refine ahi ?_;simp only[RS,rG hi,d0,gd l _ i hi,e3,acK,cond_true];rw[<- aci hi];rw[alG];cases l[i]==s with
  | true=>rfl
  | false=>exact dP (ih2 (i+1) (by omega) (by omega))
theorem aov:bM E ahg afh:=ahj fun l s hk=>by have:=dP (apT l s (nI.1 hk) l.length 0 (by omega) (by omega));rw[agr]at this;exact this
def L9(out:List (alJ))(x:alJ):Bool:=match out.getLast? with
 | none=>true
 | some z=>decide (z<x)
theorem last_at(out:List (alJ))(z:alJ)(hl:out.length<=1000000):List.getD (out++[z]) (Int.toNat (aA ((((out++[z]).length:Nat):Int)-1))) (dflt .str)=z:=by rw[List.length_append,aah,bf (by omega) (by omega),show(((out.length+1:Nat):Int)-1)=(out.length:Int)from by omega,gd _ _ out.length (by simp)];simp
theorem cExpr(out:List (alJ))(x:alJ)(hl:out.length<=1000000) :
  (bif(((out.length:Nat):Int)==(0:Int))then true else(!(Op.bytesLess x (List.getD out (Int.toNat (aA (((out.length:Nat):Int)-1))) (dflt .str))||x==(List.getD out (Int.toNat (aA (((out.length:Nat):Int)-1))) (dflt .str)))))=L9 out x:=by
 rcases List.eq_nil_or_concat out with rfl | ⟨o,z,rfl⟩
 ·rfl
 ·rw[List.concat_eq_append]at hl ⊢;rw[last_at o z (by simp at hl;omega),bZ (by simp;omega),cond_false,Go.Proofs.bytesLess_eq];unfold L9;grind
theorem aow(out:List (alJ))(hl:out.length<=1000000):((decide ((0:Int)<=(aA (((out.length:Nat):Int)-1)))&&decide ((aA (((out.length:Nat):Int)-1))<(out.length:Nat))) || !(!(((out.length:Nat):Int)==(0:Int))))=true:=by
 by_cases h:out.length=0
 ·rw[h];rfl
 ·rw[bf (by omega) (by omega),dT (by omega),dT (by omega)];rfl
structure Pre (l out:List (alJ)):Prop where
 ss:Pl.SS out
 sub:∀x∈out,x∈l
 low:∀y∈l,y∉out->∀x∈out,x<y
theorem Pre.last{l out:List (alJ)}(h:Pre l out){x:alJ}(hx:x∈l):L9 out x=true↔x∉out:=by
 unfold L9;rcases List.eq_nil_or_concat out with rfl | ⟨o,z,rfl⟩
 ·simp
 ·rw[List.concat_eq_append]at h ⊢;rw[List.getLast?_concat];simp only[acJ];constructor
  ·intro hz hm;have hs:=h.ss;unfold Pl.SS at hs;grind
  ·exact fun hn=>h.low x hx hn z (by simp)
def lack(l out:List (alJ)):Nat:=l.countP fun x=>!decide (x∈out)
theorem VJ(out:List (alJ))(z:alJ)(hz:z∉out):∀(l:List (alJ)),lack l (out++[z])<=lack l out/\(z∈l->lack l (out++[z])+1<=lack l out)
 | []=>⟨acM _,fun h=>by cases h⟩
 | a::t=>by obtain⟨h1,h2⟩:=VJ out z hz t;unfold lack at *;grind
def Best(l out:List (alJ))(i:Nat)(b:Int):Prop :=
 (b = -1/\∀(k:Nat) x,k<i->l[k]? = some x->x∈out)\/∃(j:Nat) (z:alJ),j<i/\b=(j:Int)/\l[j]? = some z/\z∉out/\∀(k:Nat) x,k<i->l[k]? = some x->x∉out->z<=x
noncomputable def AQ:jH E:=Es (E:=E) .bK .bK lT Pl.bq
def RU:FuncId:=42
noncomputable def Ma:Hint E:={ live:=[(0,[0,3]),(1,[0,3,4,5])] }
noncomputable def yE(v0:List (alJ))(v1:Nat)(v2:List (alJ)):aD E:=aD.mk 55 [(0,.d (.slice .str v0)),(3,.row .str v1 0)] [(0,.row .str v2)] 1
noncomputable def yF(v0:List (alJ))(v1:Nat)(v2 v3:Int)(v4:List (alJ)):aD E:=aD.mk 55 [(0,.d (.slice .str v0)),(3,.row .str v1 0),(4,.d (.int .i64 v2)),(5,.d (.int .i64 v3))] [(0,.row .str v4)] 1
noncomputable def VK(G:fQ E)(x0:List (alJ)):Option (List (TV E)) :=
 G 0 (yE x0 0 [])
noncomputable def Jl(G:fQ E)(v0:List (alJ))(v1:Nat)(v2:List (alJ)):Option (List (TV E)) :=
 G 1 (yF v0 v1 (-1) 0 v2)
noncomputable def Ch(G:fQ E)(v0:List (alJ))(v1:Nat)(v2 v3:Int)(v4:List (alJ)):Option (List (TV E)) :=
 bif(decide (v3<(v0.length:Int)))then(bif((decide ((0:Int)<=v3)&&decide (v3<(v0.length:Int))) || !(!(((v1:Nat):Int)==(0:Int))))then(bif((decide ((0:Int)<=(aA (((v1:Nat):Int)-(1:Int))))&&decide ((aA (((v1:Nat):Int)-(1:Int)))<(v1:Nat))) || !(!(((v1:Nat):Int)==(0:Int))))then(bif((decide ((0:Int)<=v3)&&decide (v3<(v0.length:Int))) || !((bif(((v1:Nat):Int)==(0:Int))then true else(!(Op.bytesLess (List.getD v0 (Int.toNat v3) (dflt .str)) (List.getD v4 (Int.toNat (aA (((v1:Nat):Int)-(1:Int)))) (dflt .str))||(List.getD v0 (Int.toNat v3) (dflt .str))==(List.getD v4 (Int.toNat (aA (((v1:Nat):Int)-(1:Int)))) (dflt .str)))))&&(!(decide (v2<(0:Int))))))then(bif((decide ((0:Int)<=v2)&&decide (v2<(v0.length:Int))) || !((bif(((v1:Nat):Int)==(0:Int))then true else(!(Op.bytesLess (List.getD v0 (Int.toNat v3) (dflt .str)) (List.getD v4 (Int.toNat (aA (((v1:Nat):Int)-(1:Int)))) (dflt .str))||(List.getD v0 (Int.toNat v3) (dflt .str))==(List.getD v4 (Int.toNat (aA (((v1:Nat):Int)-(1:Int)))) (dflt .str)))))&&(!(decide (v2<(0:Int))))))then(bif(bif(bif(((v1:Nat):Int)==(0:Int))then true else(!(Op.bytesLess (List.getD v0 (Int.toNat v3) (dflt .str)) (List.getD v4 (Int.toNat (aA (((v1:Nat):Int)-(1:Int)))) (dflt .str))||(List.getD v0 (Int.toNat v3) (dflt .str))==(List.getD v4 (Int.toNat (aA (((v1:Nat):Int)-(1:Int)))) (dflt .str)))))then(bif(decide (v2<(0:Int)))then true else(Op.bytesLess (List.getD v0 (Int.toNat v3) (dflt .str)) (List.getD v0 (Int.toNat v2) (dflt .str))))else false)then G 1 (yF v0 v1 v3 (aA (v3+(1:Int))) v4)else G 1 (yF v0 v1 v2 (aA (v3+(1:Int))) v4))else none)else none)else none)else none)else(bif(decide (v2<(0:Int)))then some [⟨.bK,v4⟩]else(bif(decide ((0:Int)<=v2)&&decide (v2<(v0.length:Int)))then(bif(decide ((v4.length+([(List.getD v0 (Int.toNat v2) (dflt .str))]:List (alJ)).length)*16<=aL))then G 0 (yE v0 (v4.length+([(List.getD v0 (Int.toNat v2) (dflt .str))]:List (alJ)).length) (v4++([(List.getD v0 (Int.toNat v2) (dflt .str))]:List (alJ))))else none)else none))
theorem Jm:aG E (ji [] [] [] []):=fI .nil .nil .nil .nil
theorem afi{res:List (TV E)}{v0:List (alJ)}{v1:Nat}{v2:List (alJ)}(h:Jl (Gr E Tryz.f42 res) v0 v1 v2=some res):Ev E Tryz.f42 res 0 (yE v0 v1 v2):=Ev.of (H:=Ma) Jm mix (t:=fun G=>Jl G v0 v1 v2) (fun G=>by kernel_rfl) h
theorem RV{res:List (TV E)}{v0:List (alJ)}{v1:Nat}{v2 v3:Int}{v4:List (alJ)}(h:Ch (Gr E Tryz.f42 res) v0 v1 v2 v3 v4=some res):Ev E Tryz.f42 res 1 (yF v0 v1 v2 v3 v4):=Ev.of (H:=Ma) Jm mix (t:=fun G=>Ch G v0 v1 v2 v3 v4) (fun G=>by kernel_rfl) h
theorem WJ(h:∀(x0:List (alJ)),lT x0=true->VK (Gr E Tryz.f42 [⟨.bK,Pl.bq x0⟩]) x0=some [⟨.bK,Pl.bq x0⟩]):bM E RU AQ:=uZ Jm mix Tryz.func42 (by kernel_rfl) (by kernel_rfl) (fun x0 hk=>fO (H:=Ma) (t:=fun G=>VK G x0) (fun G=>by kernel_rfl) (h x0 hk))
theorem ahk(l out:List (alJ))(hl:l.length<=1000000)(hp:Pre l out)(hn:out.length+lack l out<=l.length)
  (ih:∀z,Pre l (out++[z])->(out++[z]).length+lack l (out++[z])<=l.length->lack l (out++[z])<lack l out->Ev E Tryz.f42 [⟨.bK,Pl.bq l⟩] 0 (yE l (out++[z]).length (out++[z]))) :
  ∀(m i:Nat) (b:Int),l.length-i=m->i<=l.length->Best l out i b->Ev E Tryz.f42 [⟨.bK,Pl.bq l⟩] 1 (yF l out.length b i out):=by
 have ho:out.length<=1000000:=by omega
 intro m
 induction m with
 | zero =>
  intro i b h1 h2 hb;have e:i=l.length:=by omega
  subst e;refine RV ?_;simp only[Ch,yB (acM l.length),cond_false];rcases hb with⟨rfl,hb⟩ | ⟨j,z,hj,rfl,hz,hzo,hmin⟩
  ·rw[dT (by decide),cond_true,Pl.wM hp.ss fun x=>⟨hp.sub x,fun hx=>?_⟩];obtain⟨k,hk,rfl⟩:=List.mem_iff_getElem.1 hx;exact hb k _ hk (aae hk)
  ·have hzl:l[j]=z:=by rw[aae hj]at hz;exact Option.some.inj hz
   rw[dF (by omega),cond_false,d0,rG hj,gd l _ j hj,hzl];simp only[acK,cond_true];rw[dT (show(out.length+[z].length)*16<=aL by rw[mb,aah];omega),cond_true];have hmem:z∈l:=by rw[<- hzl];exact ac0 hj
   have hlk:=(VJ out z hzo l).2 hmem;have hpre:Pre l (out++[z]):={
    ss:=by
     unfold Pl.SS;rw[List.pairwise_append];exact⟨hp.ss,List.pairwise_singleton _ _,fun x hx y hy=>by
      have:y=z:=by simpa using hy
      subst this;exact hp.low y hmem hzo x hx⟩
    sub:=fun x hx=>by
     rcases List.mem_append.1 hx with hx | hx
     ·exact hp.sub x hx
     ·have:x=z:=by simpa using hx
      subst this;exact hmem
    low:=fun y hy hyo x hx=>by
     have aox:y∉out:=fun h=>hyo (List.mem_append_left _ h)
     have hyz:y≠z:=fun h=>hyo (by rw[h];simp)
     rcases List.mem_append.1 hx with hx | hx
     ·exact hp.low y hy aox x hx
     ·have:x=z:=by simpa using hx
      subst this;obtain⟨k,hk,rfl⟩:=List.mem_iff_getElem.1 hy;exact Pl.Km (hmin k _ hk (aae hk) aox) (fun h=>hyz h.symm) }
   have:=dP (ih z hpre (by rw[List.length_append,aah];omega) (by omega));rw[List.length_append]at this;exact this
 | succ m ihm =>
  intro i b h1 h2 hb;have hi:i<l.length:=by omega
  have hgi:=aae hi;refine RV ?_;have hlast:=hp.last (ac0 hi);have e3:aA ((i:Int)+1)=((i+1:Nat):Int):=by rw[bf (by omega) (by omega)];omega
  simp only[Ch,rG hi,d0,gd l _ i hi,cExpr out _ ho,aow out ho,e3,acK,acR,cond_true];cases hc:L9 out l[i]with
  | false =>
   have hin:l[i]∈out:=Decidable.byContradiction fun h=>by rw[hlast.2 h]at hc;cases hc
   simp only[alo,acO,ahH,cond_true,cond_false];refine dP (ihm (i+1) b (by omega) (by omega) ?_);rcases hb with⟨rfl,hb⟩ | ⟨j,z,hj,rfl,hz,hzo,hmin⟩
   ·refine .inl ⟨rfl,fun k x hk hx=>?_⟩;by_cases hki:k=i
    ·subst hki;rw[hgi]at hx;cases hx;exact hin
    ·exact hb k x (by omega) hx
   ·refine .inr ⟨j,z,by omega,rfl,hz,hzo,fun k x hk hx hxo=>?_⟩;by_cases hki:k=i
    ·subst hki;rw[hgi]at hx;cases hx;exact absurd hin hxo
    ·exact hmin k x (by omega) hx hxo
  | true =>
   have hno:l[i]∉out:=hlast.1 hc;rcases hb with⟨rfl,hb⟩ | ⟨j,z,hj,rfl,hz,hzo,hmin⟩
   ·have hd:decide ((-1:Int)<0)=true:=by decide
    simp only[hd,acn,ah8,acO,ahH,cond_true];refine dP (ihm (i+1) (i:Int) (by omega) (by omega) (.inr ⟨i,l[i],by omega,rfl,hgi,hno,fun k x hk hx hxo=>?_⟩));grind
   ·have hjl:j<l.length:=by omega
    have hzl:l[j]=z:=by rw[aae hjl]at hz;exact Option.some.inj hz
    have hd:decide ((j:Int)<0)=false:=dF (by omega);simp only[hd,d0,rG hjl,gd l _ j hjl,hzl,acO,acK,acR,cond_true,cond_false,Go.Proofs.bytesLess_eq];by_cases hlt:l[i]<z
    ·rw[dT hlt,cond_true];refine dP (ihm (i+1) (i:Int) (by omega) (by omega) (.inr ⟨i,l[i],by omega,rfl,hgi,hno,fun k x hk hx hxo=>?_⟩));by_cases hki:k=i
     ·subst hki;rw[hgi]at hx;cases hx;exact Pl.P5.2 (Pl.CZ _)
     ·exact Pl.RG (Pl.P5.2 (Pl.acp hlt)) (hmin k x (by omega) hx hxo)
    ·rw[dF hlt,cond_false];refine dP (ihm (i+1) (j:Int) (by omega) (by omega) (.inr ⟨j,z,by omega,rfl,hz,hzo,fun k x hk hx hxo=>?_⟩));by_cases hki:k=i
     ·subst hki;rw[hgi]at hx;cases hx;exact Pl.P5.2 hlt
     ·exact hmin k x (by omega) hx hxo
theorem ahl(l:List (alJ))(hl:l.length<=1000000):∀(m:Nat) (out:List (alJ)),lack l out=m->Pre l out->out.length+lack l out<=l.length->Ev E Tryz.f42 [⟨.bK,Pl.bq l⟩] 0 (yE l out.length out):=by
 intro m
 induction m using Nat.strongRecOn with
 | ind m ih =>intro out hm hp hn;refine afi ?_;simp only[Jl];exact dP (ahk l out hl hp hn (fun z h1 h2 h3=>ih (lack l (out++[z])) (by omega) (out++[z]) rfl h1 h2) l.length 0 (-1) (by omega) (by omega) (.inl ⟨rfl,fun k x hk=>by omega⟩))
theorem Jo:bM E RU AQ:=WJ fun l hk=>by have hl:=nI.1 hk;have asZ:lack l []<=l.length:=List.countP_le_length;exact dP (ahl l hl _ [] rfl ⟨List.Pairwise.nil,fun x h=>(by cases h),fun y _ _ x h=>(by cases h)⟩ (by rw[ag4];omega))
noncomputable def TR:jH E:=Gp (E:=E) .bK .bK .bK Kn both
def Y2:FuncId:=41
noncomputable def TS:Hint E:={ live:=[(0,[0,1,5,6]),(1,[1,5,7])],frz:=[10] }
noncomputable def Jp(v0 v1:List (alJ))(v2:Nat)(v3:Int)(v4:List (alJ)):aD E:=aD.mk 37 [(0,.d (.slice .str v0)),(1,.d (.slice .str v1)),(5,.row .str v2 0),(6,.d (.int .i64 v3))] [(0,.row .str v4)] 1
noncomputable def Jq(v0:List (alJ))(v1:Nat)(v2:Int)(v3:List (alJ)):aD E:=aD.mk 37 [(1,.d (.slice .str v0)),(5,.row .str v1 0),(7,.d (.int .i64 v2))] [(0,.row .str v3)] 1
noncomputable def acz(G:fQ E)(x0 x1:List (alJ)):Option (List (TV E)) :=
 G 0 (Jp x0 x1 0 0 [])
noncomputable def Jr(G:fQ E)(v0 v1:List (alJ))(v2:Nat)(v3:Int)(v4:List (alJ)):Option (List (TV E)) :=
 bif(decide (v3<(v0.length:Int)))then(bif(decide ((0:Int)<=v3)&&decide (v3<(v0.length:Int)))then(bif(decide ((v4.length+([(List.getD v0 (Int.toNat v3) (dflt .str))]:List (alJ)).length)*16<=aL))then G 0 (Jp v0 v1 (v4.length+([(List.getD v0 (Int.toNat v3) (dflt .str))]:List (alJ)).length) (aA (v3+(1:Int))) (v4++([(List.getD v0 (Int.toNat v3) (dflt .str))]:List (alJ))))else none)else none)else G 1 (Jq v1 v2 0 v4)
noncomputable def Js(G:fQ E)(v0:List (alJ))(_v1:Nat)(v2:Int)(v3:List (alJ)):Option (List (TV E)) :=
 bif(decide (v2<(v0.length:Int)))then(bif(decide ((0:Int)<=v2)&&decide (v2<(v0.length:Int)))then(bif(decide ((v3.length+([(List.getD v0 (Int.toNat v2) (dflt .str))]:List (alJ)).length)*16<=aL))then G 1 (Jq v0 (v3.length+([(List.getD v0 (Int.toNat v2) (dflt .str))]:List (alJ)).length) (aA (v2+(1:Int))) (v3++([(List.getD v0 (Int.toNat v2) (dflt .str))]:List (alJ))))else none)else none)else(bif(lT v3)then some [⟨.bK,(Pl.bq v3)⟩]else none)
theorem P9:aG E (ji [(42,AQ)] [] [] []):=fI (.cons Jo .nil) .nil .nil .nil
theorem Y3{res:List (TV E)}{v0 v1:List (alJ)}{v2:Nat}{v3:Int}{v4:List (alJ)}(h:Jr (Gr E Tryz.f41 res) v0 v1 v2 v3 v4=some res):Ev E Tryz.f41 res 0 (Jp v0 v1 v2 v3 v4):=Ev.of (H:=TS) P9 mix (t:=fun G=>Jr G v0 v1 v2 v3 v4) (fun G=>by kernel_rfl) h
theorem Y4{res:List (TV E)}{v0:List (alJ)}{v1:Nat}{v2:Int}{v3:List (alJ)}(h:Js (Gr E Tryz.f41 res) v0 v1 v2 v3=some res):Ev E Tryz.f41 res 1 (Jq v0 v1 v2 v3):=Ev.of (H:=TS) P9 mix (t:=fun G=>Js G v0 v1 v2 v3) (fun G=>by kernel_rfl) h
theorem abq(h:∀(x0:List (alJ)) (x1:List (alJ)),Kn x0 x1=true->acz (Gr E Tryz.f41 [⟨.bK,both x0 x1⟩]) x0 x1=some [⟨.bK,both x0 x1⟩]):bM E Y2 TR:=yA P9 mix Tryz.func41 (by kernel_rfl) (by kernel_rfl) (fun x0 x1 hk=>fO (H:=TS) (t:=fun G=>acz G x0 x1) (fun G=>by kernel_rfl) (h x0 x1 hk))
theorem amY(b:List (alJ))(hb:b.length<=100000):∀(m i v:Nat) (out:List (alJ)),b.length-i=m->i<=b.length->out.length+m<=100000->Ev E Tryz.f41 [⟨.bK,Pl.bq (out++b.drop i)⟩] 1 (Jq b v i out):=by
 intro m
 induction m with
 | zero =>intro i v out h1 h2 h3;refine Y4 ?_;have h6:lT out=true:=nI.2 (by omega);simp only[Js,yB (show b.length<=i by omega),cond_false,ace (show b.length<=i by omega),acP,h6,cond_true]
 | succ m ih =>
  intro i v out h1 h2 h3;have hi:i<b.length:=by omega
  refine Y4 ?_;simp only[Js,rG hi,d0,gd b _ i hi,acK,cond_true];rw[dT (show(out.length+[b[i]].length)*16<=aL by rw[mb,aah];omega),cond_true,bf (by omega) (by omega),<- aci hi];have:=dP (ih (i+1) (out.length+[b[i]].length) (out++[b[i]]) (by omega) (by omega) (by rw[List.length_append,aah];omega));rw[acN]at this;exact this
theorem amZ(a b:List (alJ))(hab:a.length+b.length<=100000):∀(m i v:Nat) (out:List (alJ)),a.length-i=m->i<=a.length->out.length+m+b.length<=100000->Ev E Tryz.f41 [⟨.bK,Pl.bq (out++a.drop i++b)⟩] 0 (Jp a b v i out):=by
 intro m
 induction m with
 | zero =>intro i v out h1 h2 h3;refine Y3 ?_;simp only[Jr,yB (show a.length<=i by omega),cond_false,ace (show a.length<=i by omega),acP];exact dP (amY b (by omega) b.length 0 v out (by omega) (by omega) (by omega))
 | succ m ih =>
  intro i v out h1 h2 h3;have hi:i<a.length:=by omega
  refine Y3 ?_;simp only[Jr,rG hi,d0,gd a _ i hi,acK,cond_true];rw[dT (show(out.length+[a[i]].length)*16<=aL by rw[mb,aah];omega),cond_true,bf (by omega) (by omega),<- aci hi];have:=dP (ih (i+1) (out.length+[a[i]].length) (out++[a[i]]) (by omega) (by omega) (by rw[List.length_append,aah];omega));rw[acN out [a[i]]]at this;exact this
theorem aj6:bM E Y2 TR:=abq fun a b hk=>by simp only[Kn,acJ]at hk;have:=dP (amZ a b hk a.length 0 0 [] (by omega) (by omega) (by rw[ag4];omega));rw[agr,ac7]at this;exact this
noncomputable def TT:jH E:=Gp (E:=E) .bK .bK .bool (fun a _=>lT a) equal
def Y5:FuncId:=22
noncomputable def acA:Hint E:={ live:=[(0,[0,1,5])] }
noncomputable def Jt(v0 v1:List (alJ))(v2:Int):aD E:=aD.mk 26 [(0,.d (.slice .str v0)),(1,.d (.slice .str v1)),(5,.d (.int .i64 v2))] [] 0
noncomputable def TU(G:fQ E)(x0 x1:List (alJ)):Option (List (TV E)) :=
 bif((x0.length:Int)!=(x1.length:Int))then some [⟨.bool,false⟩]else G 0 (Jt x0 x1 0)
noncomputable def Ju(G:fQ E)(v0 v1:List (alJ))(v2:Int):Option (List (TV E)) :=
 bif(decide (v2<(v0.length:Int)))then(bif(decide ((0:Int)<=v2)&&decide (v2<(v0.length:Int)))then(bif(decide ((0:Int)<=v2)&&decide (v2<(v1.length:Int)))then(bif(!((List.getD v0 (Int.toNat v2) (dflt .str))==(List.getD v1 (Int.toNat v2) (dflt .str))))then some [⟨.bool,false⟩]else G 0 (Jt v0 v1 (aA (v2+(1:Int)))))else none)else none)else some [⟨.bool,true⟩]
theorem Y6:aG E (ji [] [] [] []):=fI .nil .nil .nil .nil
theorem Y7{res:List (TV E)}{v0 v1:List (alJ)}{v2:Int}(h:Ju (Gr E Tryz.f22 res) v0 v1 v2=some res):Ev E Tryz.f22 res 0 (Jt v0 v1 v2):=Ev.of (H:=acA) Y6 mix (t:=fun G=>Ju G v0 v1 v2) (fun G=>by kernel_rfl) h
theorem abr(h:∀(x0:List (alJ)) (x1:List (alJ)),(fun a _=>lT a) x0 x1=true->TU (Gr E Tryz.f22 [⟨.bool,equal x0 x1⟩]) x0 x1=some [⟨.bool,equal x0 x1⟩]):bM E Y5 TT:=yA Y6 mix Tryz.func22 (by kernel_rfl) (by kernel_rfl) (fun x0 x1 hk=>fO (H:=acA) (t:=fun G=>TU G x0 x1) (fun G=>by kernel_rfl) (h x0 x1 hk))
theorem afj(a b:List (alJ))(ha:a.length<=1000000)(hab:a.length=b.length):∀(m i:Nat),a.length-i=m->i<=a.length->Ev E Tryz.f22 [⟨.bool,a.drop i==b.drop i⟩] 0 (Jt a b i):=by
 intro m
 induction m with
 | zero =>intro i h1 h2;refine Y7 ?_;simp only[Ju,yB (show a.length<=i by omega),cond_false,ace (show a.length<=i by omega),ace (show b.length<=i by omega)];rfl
 | succ m ih =>
  intro i h1 h2;have hi:i<a.length:=by omega
  have hj:i<b.length:=by omega
  refine Y7 ?_;simp only[Ju,rG hi,rG hj,d0,gd a _ i hi,gd b _ i hj,acK,cond_true];rw[<- aci hi,<- aci hj,bf (by omega) (by omega)];by_cases hs:a[i]=b[i]
  ·have e:(a[i]::a.drop (i+1)==b[i]::b.drop (i+1))=(a.drop (i+1)==b.drop (i+1)):=by rw[List.cons_beq_cons];simp[hs]
   rw[e,show(a[i]==b[i])=true from by simpa using hs];exact dP (ih (i+1) (by omega) (by omega))
  ·have e:(a[i]::a.drop (i+1)==b[i]::b.drop (i+1))=false:=by rw[List.cons_beq_cons];simp[hs]
   grind
theorem aj7:bM E Y5 TT:=abr fun a b hk=>by
 simp only[TU];by_cases h:a.length=b.length
 ·rw[iE (by omega),cond_false];have:=afj a b (nI.1 hk) h a.length 0 (by omega) (by omega);rw[agr,agr]at this;exact dP this
 ·rw[fZ (by omega),cond_true];have:equal a b=false:=by simp only[equal,aia];exact fun e=>h (by rw[e])
  rw[this]
noncomputable def RX:jH E:=aeZ (E:=E) .ah .str .ah .bool (fun n _=>fit n) av aB
def acB:FuncId:=40
noncomputable def ahm:Hint E:={ live:=[(0,[1,2,4,6])] }
noncomputable def NQ(v0:alJ)(v1 v2:Int)(v3:alJ)(v4:List (alJ))(v5:List Node)(v6:Int)(v7:alJ):aD E:=aD.mk 30 [(1,.d (.str v0)),(2,.ptr 0 0),(4,.ptr 1 0),(6,.d (.int .i64 v1))] [(0,.box [.d (.int .i64 v2),.d (.str v3),.d (.slice .str v4),.d (.slice .ah v5)]),(1,.box [.d (.int .i64 v6),.d (.str v7),.d (.raw (.slice none 0 0)),.d (.raw (.slice none 0 0))])] 2
noncomputable def RY(G:fQ E)(x0:Node)(x1:alJ):Option (List (TV E)) :=
 bif(x0.kind==(3:Int))then G 0 (NQ x1 0 x0.kind x0.text x0.keys x0.kids 0 [])else some [⟨.ah,(⟨0,[],[],[]⟩:Node)⟩,⟨.bool,false⟩]
noncomputable def NR(G:fQ E)(v0:alJ)(v1 v2:Int)(v3:alJ)(v4:List (alJ))(v5:List Node)(v6:Int)(v7:alJ):Option (List (TV E)) :=
 bif(decide (v1<(v4.length:Int)))then(bif(decide ((0:Int)<=v1)&&decide (v1<(v4.length:Int)))then(bif((List.getD v4 (Int.toNat v1) (dflt .str))==v0)then(bif(decide ((0:Int)<=v1)&&decide (v1<(v5.length:Int)))then some [⟨.ah,(⟨(List.getD v5 (Int.toNat v1) (dflt .ah)).kind,(List.getD v5 (Int.toNat v1) (dflt .ah)).text,(List.getD v5 (Int.toNat v1) (dflt .ah)).keys,(List.getD v5 (Int.toNat v1) (dflt .ah)).kids⟩:Node)⟩,⟨.bool,true⟩]else none)else G 0 (NQ v0 (aA (v1+(1:Int))) v2 v3 v4 v5 v6 v7))else none)else some [⟨.ah,(⟨0,[],[],[]⟩:Node)⟩,⟨.bool,false⟩]
theorem acC:aG E (ji [] [] [] []):=fI .nil .nil .nil .nil
theorem acD{res:List (TV E)}{v0:alJ}{v1 v2:Int}{v3:alJ}{v4:List (alJ)}{v5:List Node}{v6:Int}{v7:alJ}(h:NR (Gr E Tryz.f40 res) v0 v1 v2 v3 v4 v5 v6 v7=some res):Ev E Tryz.f40 res 0 (NQ v0 v1 v2 v3 v4 v5 v6 v7):=Ev.of (H:=ahm) acC mix (t:=fun G=>NR G v0 v1 v2 v3 v4 v5 v6 v7) (fun G=>by kernel_rfl) h
theorem afk(h:∀(x0:Node) (x1:alJ),(fun n _=>fit n) x0 x1=true->RY (Gr E Tryz.f40 [⟨.ah,av x0 x1⟩,⟨.bool,aB x0 x1⟩]) x0 x1=some [⟨.ah,av x0 x1⟩,⟨.bool,aB x0 x1⟩]):bM E acB RX:=acf acC mix Tryz.func40 (by kernel_rfl) (by kernel_rfl) (fun x0 x1 hk=>fO (H:=ahm) (t:=fun G=>RY G x0 x1) (fun G=>by kernel_rfl) (h x0 x1 hk))
theorem am0(keys:List (alJ))(kids:List Node)(k:alJ)(hl:keys.length=kids.length)(i:Nat)(hi:i<keys.length):lk (keys.drop i) (kids.drop i) k=if k=keys[i]then some (kids[i]'(by omega))else lk (keys.drop (i+1)) (kids.drop (i+1)) k:=by rw[<- aci hi,<- aci (show i<kids.length by omega)];rfl
theorem ahn(n:Node)(k:alJ)(hl:n.keys.length=n.kids.length)(hb:n.keys.length<=1000000)(u0:Int)(u1:alJ):∀(m i:Nat),n.keys.length-i=m->i<=n.keys.length ->
  Ev E Tryz.f40 [⟨.ah,(lk (n.keys.drop i) (n.kids.drop i) k).getD zn⟩,⟨.bool,(lk (n.keys.drop i) (n.kids.drop i) k).isSome⟩] 0 (NQ k i n.kind n.text n.keys n.kids u0 u1):=by
 intro m
 induction m with
 | zero =>intro i h1 h2;refine acD ?_;simp only[NR,yB (show n.keys.length<=i by omega),cond_false,ace (show n.keys.length<=i by omega)];rfl
 | succ m ih =>
  intro i h1 h2;have hi:i<n.keys.length:=by omega
  have hj:i<n.kids.length:=by omega
  refine acD ?_;simp only[NR,rG hi,rG hj,d0,gd n.keys _ i hi,gd n.kids _ i hj,acK,cond_true,eX];rw[am0 n.keys n.kids k hl i hi];by_cases e:k=n.keys[i]
  ·grind
  ·rw[if_neg e,show(n.keys[i]==k)=false from by simpa using fun h=>e h.symm,cond_false,bf (by omega) (by omega)];exact dP (ih (i+1) (by omega) (by omega))
theorem acE:bM E acB RX:=afk fun n k hk=>by
 have hf:=uo.1 hk;unfold av aB get;by_cases h:n.kind=3
 ·simp only[RY,fP h,cond_true,if_pos h];have:=dP (ahn n k (hf.2 h) hf.1.1 0 [] n.keys.length 0 (by omega) (by omega));grind
 ·simp only[RY,bZ h,cond_false,if_neg h];rfl
noncomputable def tu(n:Nat):jH E:=Gp (E:=E) .ah .ah .bool (Gu n) (same n)
def wY:FuncId:=10
noncomputable def Y8:Hint E:={ live:=[(0,[2,3,5])] }
noncomputable def EG(v0 v1:Int)(v2:alJ)(v3:List (alJ))(v4:List Node)(v5:Int)(v6:alJ)(v7:List (alJ))(v8:List Node):aD E:=aD.mk 54 [(2,.ptr 0 0),(3,.ptr 1 0),(5,.d (.int .i64 v0))] [(0,.box [.d (.int .i64 v1),.d (.str v2),.d (.slice .str v3),.d (.slice .ah v4)]),(1,.box [.d (.int .i64 v5),.d (.str v6),.d (.slice .str v7),.d (.slice .ah v8)])] 2
noncomputable def Qa(_n:Nat)(G:fQ E)(x0 x1:Node):Option (List (TV E)) :=
 bif(((fun a _=>lT a) x0.keys x1.keys) || !(!(bif(x0.kind != x1.kind)then true else(!(x0.text==x1.text)))))then(bif(bif(bif(bif(x0.kind != x1.kind)then true else(!(x0.text==x1.text)))then true else(!(equal x0.keys x1.keys)))then true else((x0.kids.length:Int)!=(x1.kids.length:Int)))then some [⟨.bool,false⟩]else G 0 (EG 0 x0.kind x0.text x0.keys x0.kids x1.kind x1.text x1.keys x1.kids))else none
noncomputable def EH(n:Nat)(G:fQ E)(v0 v1:Int)(v2:alJ)(v3:List (alJ))(v4:List Node)(v5:Int)(v6:alJ)(v7:List (alJ))(v8:List Node):Option (List (TV E)) :=
 bif(decide (v0<(v4.length:Int)))then(bif(decide ((0:Int)<=v0)&&decide (v0<(v4.length:Int)))then(bif(decide ((0:Int)<=v0)&&decide (v0<(v8.length:Int)))then(bif((Gu n) (⟨(List.getD v4 (Int.toNat v0) (dflt .ah)).kind,(List.getD v4 (Int.toNat v0) (dflt .ah)).text,(List.getD v4 (Int.toNat v0) (dflt .ah)).keys,(List.getD v4 (Int.toNat v0) (dflt .ah)).kids⟩:Node) (⟨(List.getD v8 (Int.toNat v0) (dflt .ah)).kind,(List.getD v8 (Int.toNat v0) (dflt .ah)).text,(List.getD v8 (Int.toNat v0) (dflt .ah)).keys,(List.getD v8 (Int.toNat v0) (dflt .ah)).kids⟩:Node))then(bif(!((same n) (⟨(List.getD v4 (Int.toNat v0) (dflt .ah)).kind,(List.getD v4 (Int.toNat v0) (dflt .ah)).text,(List.getD v4 (Int.toNat v0) (dflt .ah)).keys,(List.getD v4 (Int.toNat v0) (dflt .ah)).kids⟩:Node) (⟨(List.getD v8 (Int.toNat v0) (dflt .ah)).kind,(List.getD v8 (Int.toNat v0) (dflt .ah)).text,(List.getD v8 (Int.toNat v0) (dflt .ah)).keys,(List.getD v8 (Int.toNat v0) (dflt .ah)).kids⟩:Node)))then some [⟨.bool,false⟩]else G 0 (EG (aA (v0+(1:Int))) v1 v2 v3 v4 v5 v6 v7 v8))else none)else none)else none)else some [⟨.bool,true⟩]
theorem aho:mI Tryz.prog 10:=⟨Tryz.f10,Tryz.func10,by kernel_rfl,by kernel_rfl⟩
theorem VL(n:Nat)(ih:bM E wY (tu n)):aG E (ji [(22,TT),(10,tu n)] [] [] []):=fI (.cons aj7 (.cons ih .nil)) .nil .nil .nil
theorem VN(n:Nat)(ih:bM E wY (tu n)){res:List (TV E)}{v0 v1:Int}{v2:alJ}{v3:List (alJ)}{v4:List Node}{v5:Int}{v6:alJ}{v7:List (alJ)}{v8:List Node}(h:EH n (Gr E Tryz.f10 res) v0 v1 v2 v3 v4 v5 v6 v7 v8=some res):Ev E Tryz.f10 res 0 (EG v0 v1 v2 v3 v4 v5 v6 v7 v8):=Ev.of (H:=Y8) (VL n ih) mix (t:=fun G=>EH n G v0 v1 v2 v3 v4 v5 v6 v7 v8) (fun G=>by kernel_rfl) h
theorem Y9(n:Nat)(ih:bM E wY (tu n))(h:∀(x0:Node) (x1:Node),(Gu (n+1)) x0 x1=true->Qa n (Gr E Tryz.f10 [⟨.bool,(same (n+1)) x0 x1⟩]) x0 x1=some [⟨.bool,(same (n+1)) x0 x1⟩]):bM E wY (tu (n+1)):=yA (VL n ih) mix Tryz.func10 (by kernel_rfl) (by kernel_rfl) (fun x0 x1 hk=>fO (H:=Y8) (t:=fun G=>Qa n G x0 x1) (fun G=>by kernel_rfl) (h x0 x1 hk))
theorem abt(n:Nat)(ih:bM E wY (tu n))(x y:Node)(ha:x.kids.length<=1000000)(hab:x.kids.length=y.kids.length)(hda:∀z∈x.kids,dp n z=true)(hdb:∀z∈y.kids,dp n z=true):∀(m i:Nat),x.kids.length-i=m->i<=x.kids.length ->
  Ev E Tryz.f10 [⟨.bool,EC (same n) (x.kids.drop i) (y.kids.drop i)⟩] 0 (EG i x.kind x.text x.keys x.kids y.kind y.text y.keys y.kids):=by
 intro m
 induction m with
 | zero =>intro i h1 h2;refine VN n ih ?_;simp only[EH,yB (show x.kids.length<=i by omega),cond_false,ace (show x.kids.length<=i by omega),ace (show y.kids.length<=i by omega)];rfl
 | succ m ih2 =>
  intro i h1 h2;have hi:i<x.kids.length:=by omega
  have hj:i<y.kids.length:=by omega
  have hok:Gu n x.kids[i] y.kids[i]=true:=by simp only[Gu,hda _ (ac0 hi),hdb _ (ac0 hj),acK]
  refine VN n ih ?_;simp only[EH,rG hi,rG hj,d0,gd x.kids _ i hi,gd y.kids _ i hj,acK,cond_true,eX,hok];rw[<- aci hi,<- aci hj,bf (by omega) (by omega)];simp only[EC];cases same n x.kids[i] y.kids[i]with
  | false=>rfl
  | true =>simp only[acn,cond_false,ahP];exact dP (ih2 (i+1) (by omega) (by omega))
theorem ahp(n:Nat):bM E wY (tu n):=by
 induction n with
 | zero=>exact amS aho fun x y=>rfl
 | succ n ih =>
  refine Y9 n ih fun a b hk=>?_
  simp only[Gu,ach]at hk;obtain⟨ha,ha2⟩:=Gt.1 hk.1;obtain⟨hb,hb2⟩:=Gt.1 hk.2;have hl:lT a.keys=true:=nI.2 ha.1;simp only[Qa,hl,acR,cond_true,same,equal];by_cases h1:a.kind=b.kind
  ·rw[iE h1,fP h1];cases a.text==b.text with
   | false=>rfl
   | true =>
    cases a.keys==b.keys with
    | false=>rfl
    | true =>
     simp only[acn,cond_false,ahP];by_cases hlen:a.kids.length=b.kids.length
     ·rw[iE (by omega),cond_false];have:=dP (abt n ih a b ha.2 hlen ha2 hb2 a.kids.length 0 (by omega) (by omega));grind
     ·rw[fZ (by omega),cond_true,VH hlen]
  ·rw[fZ h1,bZ h1];rfl
def aC:Nat->Node->Node
 | 0,x=>x
 | n+1,x=>bif x.kind==3 then⟨x.kind,x.text,Pl.bq x.keys,(Pl.bq x.keys).map fun k=>aC n (av x k)⟩else⟨x.kind,x.text,[],x.kids.map (aC n)⟩
noncomputable def iB(n:Nat):jH E:=Es (E:=E) .ah .ah (wg 10000 n) (aC n)
def mq:FuncId:=30
noncomputable def Jv:Hint E:={ live:=[(0,[1,2,3,4,5]),(1,[1,2,3,8])],qK:=[(0,[(3,some 2,true,.str),(3,some 3,true,.ah)]),(1,[(3,some 3,true,.ah)])] }
noncomputable def Ae(v0:List (alJ))(v1 v2:Int)(v3:alJ)(v4:List (alJ))(v5:List Node)(v6:Int)(v7:alJ)(v8:Int)(v9:alJ)(v10:List (alJ))(v11:List Node):aD E:=aD.mk 71 [(1,.ptr 0 0),(2,.ptr 1 0),(3,.ptr 2 0),(4,.d (.slice .str v0)),(5,.d (.int .i64 v1))] [(0,.box [.d (.int .i64 v2),.d (.str v3),.d (.slice .str v4),.d (.slice .ah v5)]),(1,.box [.d (.int .i64 v6),.d (.str v7),.d (.raw (.slice none 0 0)),.d (.raw (.slice none 0 0))]),(2,.box [.d (.int .i64 v8),.d (.str v9),.grow .str v10 3,.grow .ah v11 4]),(3,.tail true),(4,.tail true)] 5
noncomputable def Af(v0 v1:Int)(v2:alJ)(v3:List (alJ))(v4:List Node)(v5:Int)(v6:alJ)(v7:Int)(v8:alJ)(v9:List Node):aD E:=aD.mk 71 [(1,.ptr 0 0),(2,.ptr 1 0),(3,.ptr 2 0),(8,.d (.int .i64 v0))] [(0,.box [.d (.int .i64 v1),.d (.str v2),.d (.slice .str v3),.d (.slice .ah v4)]),(1,.box [.d (.int .i64 v5),.d (.str v6),.d (.raw (.slice none 0 0)),.d (.raw (.slice none 0 0))]),(2,.box [.d (.int .i64 v7),.d (.str v8),.d (.raw (.slice none 0 0)),.grow .ah v9 3]),(3,.tail true)] 4
noncomputable def Jw(_n:Nat)(G:fQ E)(x0:Node):Option (List (TV E)) :=
 bif(x0.kind==(3:Int))then(bif(lT x0.keys)then G 0 (Ae (Pl.bq x0.keys) 0 x0.kind x0.text x0.keys x0.kids 0 [] x0.kind x0.text [] [])else none)else G 1 (Af 0 x0.kind x0.text x0.keys x0.kids 0 [] x0.kind x0.text [])
noncomputable def Ag(n:Nat)(G:fQ E)(v0:List (alJ))(v1 v2:Int)(v3:alJ)(v4:List (alJ))(v5:List Node)(v6:Int)(v7:alJ)(v8:Int)(v9:alJ)(v10:List (alJ))(v11:List Node):Option (List (TV E)) :=
 bif(decide (v1<(v0.length:Int)))then(bif(decide ((0:Int)<=v1)&&decide (v1<(v0.length:Int)))then(bif((fun n _=>fit n) (⟨v2,v3,v4,v5⟩:Node) (List.getD v0 (Int.toNat v1) (dflt .str)))then(bif(decide ((0:Int)<=v1)&&decide (v1<(v0.length:Int)))then(bif(decide ((v10.length+([(List.getD v0 (Int.toNat v1) (dflt .str))]:List (alJ)).length)*16<=aL))then(bif((wg 10000 n) (⟨(av ⟨v2,v3,v4,v5⟩ (List.getD v0 (Int.toNat v1) (dflt .str))).kind,(av ⟨v2,v3,v4,v5⟩ (List.getD v0 (Int.toNat v1) (dflt .str))).text,(av ⟨v2,v3,v4,v5⟩ (List.getD v0 (Int.toNat v1) (dflt .str))).keys,(av ⟨v2,v3,v4,v5⟩ (List.getD v0 (Int.toNat v1) (dflt .str))).kids⟩:Node))then(bif(decide ((v11.length+([((aC n) (⟨(av ⟨v2,v3,v4,v5⟩ (List.getD v0 (Int.toNat v1) (dflt .str))).kind,(av ⟨v2,v3,v4,v5⟩ (List.getD v0 (Int.toNat v1) (dflt .str))).text,(av ⟨v2,v3,v4,v5⟩ (List.getD v0 (Int.toNat v1) (dflt .str))).keys,(av ⟨v2,v3,v4,v5⟩ (List.getD v0 (Int.toNat v1) (dflt .str))).kids⟩:Node))]:List Node).length)*72<=aL))then G 0 (Ae v0 (aA (v1+(1:Int))) v2 v3 v4 v5 v6 v7 v8 v9 (v10++([(List.getD v0 (Int.toNat v1) (dflt .str))]:List (alJ))) (v11++([((aC n) (⟨(av ⟨v2,v3,v4,v5⟩ (List.getD v0 (Int.toNat v1) (dflt .str))).kind,(av ⟨v2,v3,v4,v5⟩ (List.getD v0 (Int.toNat v1) (dflt .str))).text,(av ⟨v2,v3,v4,v5⟩ (List.getD v0 (Int.toNat v1) (dflt .str))).keys,(av ⟨v2,v3,v4,v5⟩ (List.getD v0 (Int.toNat v1) (dflt .str))).kids⟩:Node))]:List Node)))else none)else none)else none)else none)else none)else none)else some [⟨.ah,(⟨v8,v9,v10,v11⟩:Node)⟩]
noncomputable def Ah(n:Nat)(G:fQ E)(v0 v1:Int)(v2:alJ)(v3:List (alJ))(v4:List Node)(v5:Int)(v6:alJ)(v7:Int)(v8:alJ)(v9:List Node):Option (List (TV E)) :=
 bif(decide (v0<(v4.length:Int)))then(bif(decide ((0:Int)<=v0)&&decide (v0<(v4.length:Int)))then(bif((wg 10000 n) (⟨(List.getD v4 (Int.toNat v0) (dflt .ah)).kind,(List.getD v4 (Int.toNat v0) (dflt .ah)).text,(List.getD v4 (Int.toNat v0) (dflt .ah)).keys,(List.getD v4 (Int.toNat v0) (dflt .ah)).kids⟩:Node))then(bif(decide ((v9.length+([((aC n) (⟨(List.getD v4 (Int.toNat v0) (dflt .ah)).kind,(List.getD v4 (Int.toNat v0) (dflt .ah)).text,(List.getD v4 (Int.toNat v0) (dflt .ah)).keys,(List.getD v4 (Int.toNat v0) (dflt .ah)).kids⟩:Node))]:List Node).length)*72<=aL))then G 1 (Af (aA (v0+(1:Int))) v1 v2 v3 v4 v5 v6 v7 v8 (v9++([((aC n) (⟨(List.getD v4 (Int.toNat v0) (dflt .ah)).kind,(List.getD v4 (Int.toNat v0) (dflt .ah)).text,(List.getD v4 (Int.toNat v0) (dflt .ah)).keys,(List.getD v4 (Int.toNat v0) (dflt .ah)).kids⟩:Node))]:List Node)))else none)else none)else none)else some [⟨.ah,(⟨v7,v8,[],v9⟩:Node)⟩]
theorem abu:mI Tryz.prog 30:=⟨Tryz.f30,Tryz.func30,by kernel_rfl,by kernel_rfl⟩
theorem Fq(n:Nat)(ih:bM E mq (iB n)):aG E (ji [(42,AQ),(40,RX),(30,iB n)] [] [] []):=fI (.cons Jo (.cons acE (.cons ih .nil))) .nil .nil .nil
theorem OV(n:Nat)(ih:bM E mq (iB n)){res:List (TV E)}{v0:List (alJ)}{v1 v2:Int}{v3:alJ}{v4:List (alJ)}{v5:List Node}{v6:Int}{v7:alJ}{v8:Int}{v9:alJ}{v10:List (alJ)}{v11:List Node}(h:Ag n (Gr E Tryz.f30 res) v0 v1 v2 v3 v4 v5 v6 v7 v8 v9 v10 v11=some res):Ev E Tryz.f30 res 0 (Ae v0 v1 v2 v3 v4 v5 v6 v7 v8 v9 v10 v11):=Ev.of (H:=Jv) (Fq n ih) mix (t:=fun G=>Ag n G v0 v1 v2 v3 v4 v5 v6 v7 v8 v9 v10 v11) (fun G=>by kernel_rfl) h
theorem OW(n:Nat)(ih:bM E mq (iB n)){res:List (TV E)}{v0 v1:Int}{v2:alJ}{v3:List (alJ)}{v4:List Node}{v5:Int}{v6:alJ}{v7:Int}{v8:alJ}{v9:List Node}(h:Ah n (Gr E Tryz.f30 res) v0 v1 v2 v3 v4 v5 v6 v7 v8 v9=some res):Ev E Tryz.f30 res 1 (Af v0 v1 v2 v3 v4 v5 v6 v7 v8 v9):=Ev.of (H:=Jv) (Fq n ih) mix (t:=fun G=>Ah n G v0 v1 v2 v3 v4 v5 v6 v7 v8 v9) (fun G=>by kernel_rfl) h
theorem TW(n:Nat)(ih:bM E mq (iB n))(h:∀(x0:Node),(wg 10000 (n+1)) x0=true->Jw n (Gr E Tryz.f30 [⟨.ah,(aC (n+1)) x0⟩]) x0=some [⟨.ah,(aC (n+1)) x0⟩]):bM E mq (iB (n+1)):=uZ (Fq n ih) mix Tryz.func30 (by kernel_rfl) (by kernel_rfl) (fun x0 hk=>fO (H:=Jv) (t:=fun G=>Jw n G x0) (fun G=>by kernel_rfl) (h x0 hk))
theorem afl(n:Nat)(ih:bM E mq (iB n))(x:Node)(hx:wg 10000 (n+1) x=true)(h3:x.kind=3)(ks:List (alJ))(hks:ks.length<=10000)(hm:∀k∈ks,k∈x.keys)(u0:Int)(u1:alJ)(v0:Int)(v1:alJ) :
  ∀(m i:Nat) (ok:List (alJ)) (ov:List Node),ks.length-i=m->i<=ks.length->ok.length=i->ov.length=i ->
   Ev E Tryz.f30 [⟨.ah,(⟨v0,v1,ok++ks.drop i,ov++(ks.drop i).map fun k=>aC n (av x k)⟩:Node)⟩] 0 (Ae ks i x.kind x.text x.keys x.kids u0 u1 v0 v1 ok ov):=by
 have fx:=u7 hx (by decide);intro m
 induction m with
 | zero =>intro i ok ov h1 h2 h3 h4;refine OV n ih ?_;simp only[Ag,yB (show ks.length<=i by omega),cond_false,ace (show ks.length<=i by omega),acP,ahG]
 | succ m ih2 =>
  intro i ok ov h1 h2 h3' h4;have hi:i<ks.length:=by omega
  have e1:decide ((ok.length+[ks[i]].length)*16<=aL)=true:=dT (by rw[mb,aah];omega);have e2:∀v:Node,decide ((ov.length+[v].length)*72<=aL)=true:=fun v=>dT (by rw[mb,aah];omega)
  have hw:wg 10000 n (av x ks[i])=true:=C8 hx (YX hx h3 (hm _ (ac0 hi)));refine OV n ih ?_;simp only[Ag,rG hi,d0,gd ks _ i hi,acK,cond_true,eX,fx,e1,e2,hw];rw[<- aci hi,bf (by omega) (by omega)];have:=dP (ih2 (i+1) (ok++[ks[i]]) (ov++[aC n (av x ks[i])]) (by omega) (by omega) (by simp[h3']) (by simp[h4]));grind
theorem afm(n:Nat)(ih:bM E mq (iB n))(x:Node)(hx:wg 10000 (n+1) x=true)(u0:Int)(u1:alJ)(v0:Int)(v1:alJ) :
  ∀(m i:Nat) (ov:List Node),x.kids.length-i=m->i<=x.kids.length->ov.length=i ->
   Ev E Tryz.f30 [⟨.ah,(⟨v0,v1,[],ov++(x.kids.drop i).map (aC n)⟩:Node)⟩] 1 (Af i x.kind x.text x.keys x.kids u0 u1 v0 v1 ov):=by
 have hw:=fD.1 hx;intro m
 induction m with
 | zero =>intro i ov h1 h2 h3;refine OW n ih ?_;simp only[Ah,yB (show x.kids.length<=i by omega),cond_false,ace (show x.kids.length<=i by omega),acP,ahG]
 | succ m ih2 =>
  intro i ov h1 h2 h3;have hi:i<x.kids.length:=by omega
  have e2:∀v:Node,decide ((ov.length+[v].length)*72<=aL)=true:=fun v=>dT (by rw[mb,aah];omega)
  have hk:wg 10000 n x.kids[i]=true:=hw.2.2.2 _ (ac0 hi);refine OW n ih ?_;simp only[Ah,rG hi,d0,gd x.kids _ i hi,acK,cond_true,eX,e2,hk];rw[<- aci hi,bf (by omega) (by omega)];have:=dP (ih2 (i+1) (ov++[aC n x.kids[i]]) (by omega) (by omega) (by simp[h3]));rw[acN]at this;exact this
theorem Ai(n:Nat):bM E mq (iB n):=by
 induction n with
 | zero=>exact acg abu fun x=>rfl
 | succ n ih =>
  refine TW n ih fun x hk=>?_
  have hw:=fD.1 hk;simp only[Jw,aC];by_cases h3:x.kind=3
  ·have hl:lT x.keys=true:=nI.2 (by omega);have hs:=Pl.qE x.keys;rw[fP h3,cond_true,hl,cond_true,cond_true];have:=dP (afl n ih x hk h3 (Pl.bq x.keys) (by omega) (fun k hk=>Pl.ig.1 hk) 0 [] x.kind x.text _ 0 [] [] rfl (ab8 _) rfl rfl);grind
  ·rw[bZ h3,cond_false,cond_false];have:=dP (afm n ih x hk 0 [] x.kind x.text _ 0 [] rfl (ab8 _) rfl);grind
def wu(g:Node->Int->Int):List Node->Int->Int
 | [],l=>l
 | k::t,l=>bif decide (g k l<0)then -1 else wu g t (g k l)
def Fu(x:Node)(deep l:Int):Bool:=bif(bif(bif decide (l<0)then true else decide (12<deep))then true else decide (x.kind<0))then true else decide (3<x.kind)
def Jy(x:Node):Bool:=bif(bif(bif x.kind != 1 then decide ((0:Int)<(x.text.length:Int))else false)then true else(bif x.kind != 3 then decide ((0:Int)<(x.keys.length:Int))else false))then true else(bif decide (x.kind<2)then decide ((0:Int)<(x.kids.length:Int))else false)
def Jz(x:Node)(l:Int):Bool:=bif x.kind==3 then(bif(bif(x.keys.length:Int)!=(x.kids.length:Int)then true else decide (l<(x.kids.length:Int)))then true else((Pl.bq x.keys).length:Int)!=(x.keys.length:Int))else false
def leftV:Nat->Node->Int->Int->Int
 | 0,_,_,_=>-1
 | n+1,x,deep,left=>bif Fu x deep (left-1)then -1 else bif Jy x then -1 else bif Jz x (left-1)then -1 else wu (fun k l=>leftV n k (deep+1) l) x.kids (left-1)
theorem JA{g:Node->Int->Int}(hg:∀k l,0<=g k l->g k l+1<=l):∀(ks:List Node) (l:Int),0<=wu g ks l->wu g ks l+ks.length<=l/\∀k∈ks, ∃l',0<=g k l'/\l'<=l
 | [],l,_=>⟨by simp[wu],fun k hk=>by cases hk⟩
 | k::t,l,h=>by
  unfold wu at h ⊢;by_cases hk:g k l<0
  ·rw[dT hk,cond_true]at h;omega
  ·rw[dF hk,cond_false]at h ⊢;obtain⟨h1,h2⟩:=JA hg t (g k l) h;grind
theorem JB:∀(n:Nat) (x:Node) (d l:Int),0<=leftV n x d l->leftV n x d l+1<=l
 | 0,_,_,_,h=>by simp[leftV]at h
 | n+1,x,d,l,h=>by
  unfold leftV at h ⊢;cases h1:Fu x d (l-1)with
  | true=>rw[h1,cond_true]at h;omega
  | false =>
   cases h2:Jy x with
   | true=>grind
   | false =>
    cases h3:Jz x (l-1)with
    | true=>grind
    | false =>rw[h1,h2,h3,cond_false,cond_false,cond_false]at h;simp only[cond_false];have:=(JA (fun k l h=>JB n k (d+1) l h) x.kids (l-1) h).1;omega
def Mc(n:Nat)(_:Node)(deep left:Int):Bool:=decide (1<=n)&&decide (n<=13)&&decide (deep+n=14)&&decide (-10<=left)&&decide (left<=100000)
theorem NS{n:Nat}{x:Node}{d l:Int}:Mc n x d l=true↔(((1<=n/\n<=13)/\d+n=14) /\ -10<=l)/\l<=100000:=by simp[Mc]
noncomputable def yG(n:Nat):jH E:=fn3 (E:=E) .ah .int .int .int (Mc n) (leftV n)
def left_id:FuncId:=23
noncomputable def ahq:Hint E:={ live:=[(0,[1,2,3,7])] }
noncomputable def NT(v0 v1 v2 v3:Int)(v4:alJ)(v5:List (alJ))(v6:List Node):aD E:=aD.mk 105 [(1,.d (.int .i64 v0)),(2,.d (.int .i64 v1)),(3,.ptr 0 0),(7,.d (.int .i64 v2))] [(0,.box [.d (.int .i64 v3),.d (.str v4),.d (.slice .str v5),.d (.slice .ah v6)])] 1
noncomputable def Za(_n:Nat)(G:fQ E)(x0:Node)(x1 x2:Int):Option (List (TV E)) :=
 bif(bif(bif(bif(decide ((aA (x2-(1:Int)))<(0:Int)))then true else(decide ((12:Int)<x1)))then true else(decide (x0.kind<(0:Int))))then true else(decide ((3:Int)<x0.kind)))then some [⟨.int,(-1:Int)⟩]else(bif(bif(bif(bif(x0.kind != (1:Int))then(decide ((0:Int)<(x0.text.length:Int)))else false)then true else(bif(x0.kind != (3:Int))then(decide ((0:Int)<(x0.keys.length:Int)))else false))then true else(bif(decide (x0.kind<(2:Int)))then(decide ((0:Int)<(x0.kids.length:Int)))else false))then some [⟨.int,(-1:Int)⟩]else(bif((lT x0.keys) || !((x0.kind==(3:Int))&&(!(bif((x0.keys.length:Int)!=(x0.kids.length:Int))then true else(decide ((aA (x2-(1:Int)))<(x0.kids.length:Int)))))))then(bif(bif(x0.kind==(3:Int))then(bif(bif((x0.keys.length:Int)!=(x0.kids.length:Int))then true else(decide ((aA (x2-(1:Int)))<(x0.kids.length:Int))))then true else(((Pl.bq x0.keys).length:Int)!=(x0.keys.length:Int)))else false)then some [⟨.int,(-1:Int)⟩]else G 0 (NT x1 (aA (x2-(1:Int))) 0 x0.kind x0.text x0.keys x0.kids))else none))
noncomputable def NU(n:Nat)(G:fQ E)(v0 v1 v2 v3:Int)(v4:alJ)(v5:List (alJ))(v6:List Node):Option (List (TV E)) :=
 bif(decide (v2<(v6.length:Int)))then(bif(decide ((0:Int)<=v2)&&decide (v2<(v6.length:Int)))then(bif((Mc n) (⟨(List.getD v6 (Int.toNat v2) (dflt .ah)).kind,(List.getD v6 (Int.toNat v2) (dflt .ah)).text,(List.getD v6 (Int.toNat v2) (dflt .ah)).keys,(List.getD v6 (Int.toNat v2) (dflt .ah)).kids⟩:Node) (aA (v0+(1:Int))) v1)then(bif(decide (((leftV n) (⟨(List.getD v6 (Int.toNat v2) (dflt .ah)).kind,(List.getD v6 (Int.toNat v2) (dflt .ah)).text,(List.getD v6 (Int.toNat v2) (dflt .ah)).keys,(List.getD v6 (Int.toNat v2) (dflt .ah)).kids⟩:Node) (aA (v0+(1:Int))) v1)<(0:Int)))then some [⟨.int,(-1:Int)⟩]else G 0 (NT v0 ((leftV n) (⟨(List.getD v6 (Int.toNat v2) (dflt .ah)).kind,(List.getD v6 (Int.toNat v2) (dflt .ah)).text,(List.getD v6 (Int.toNat v2) (dflt .ah)).keys,(List.getD v6 (Int.toNat v2) (dflt .ah)).kids⟩:Node) (aA (v0+(1:Int))) v1) (aA (v2+(1:Int))) v3 v4 v5 v6))else none)else none)else some [⟨.int,v1⟩]
theorem am1:mI Tryz.prog 23:=⟨Tryz.f23,Tryz.func23,by kernel_rfl,by kernel_rfl⟩
theorem acF(n:Nat)(ih:bM E left_id (yG n)):aG E (ji [(42,AQ),(23,yG n)] [] [] []):=fI (.cons Jo (.cons ih .nil)) .nil .nil .nil
theorem acG(n:Nat)(ih:bM E left_id (yG n)){res:List (TV E)}{v0 v1 v2 v3:Int}{v4:alJ}{v5:List (alJ)}{v6:List Node}(h:NU n (Gr E Tryz.f23 res) v0 v1 v2 v3 v4 v5 v6=some res):Ev E Tryz.f23 res 0 (NT v0 v1 v2 v3 v4 v5 v6):=Ev.of (H:=ahq) (acF n ih) mix (t:=fun G=>NU n G v0 v1 v2 v3 v4 v5 v6) (fun G=>by kernel_rfl) h
theorem afn(n:Nat)(ih:bM E left_id (yG n))(h:∀(x0:Node) (x1:Int) (x2:Int),(Mc (n+1)) x0 x1 x2=true->Za n (Gr E Tryz.f23 [⟨.int,(leftV (n+1)) x0 x1 x2⟩]) x0 x1 x2=some [⟨.int,(leftV (n+1)) x0 x1 x2⟩]):bM E left_id (yG (n+1)):=agV (acF n ih) mix Tryz.func23 (by kernel_rfl) (by kernel_rfl) (fun x0 x1 x2 hk=>fO (H:=ahq) (t:=fun G=>Za n G x0 x1 x2) (fun G=>by kernel_rfl) (h x0 x1 x2 hk))
theorem ahr(n:Nat)(ih:bM E left_id (yG n))(x:Node)(d:Int)(hn1:1<=n)(hn2:n<=12)(hd:d+1+n=14):∀(m i:Nat) (l:Int),x.kids.length-i=m->i<=x.kids.length->0<=l->l+i<=100000 ->
  Ev E Tryz.f23 [⟨.int,wu (fun k l=>leftV n k (d+1) l) (x.kids.drop i) l⟩] 0 (NT d l i x.kind x.text x.keys x.kids):=by
 intro m
 induction m with
 | zero =>intro i l h1 h2 h3 h4;refine acG n ih ?_;simp only[NU,yB (show x.kids.length<=i by omega),cond_false,ace (show x.kids.length<=i by omega)];rfl
 | succ m ih2 =>
  intro i l h1 h2 h3 h4;have hi:i<x.kids.length:=by omega
  have e1:aA (d+1)=d+1:=bf (by omega) (by omega);have e2:Mc n x.kids[i] (d+1) l=true:=NS.2 ⟨⟨⟨⟨hn1,by omega⟩,by omega⟩,by omega⟩,by omega⟩;have hle:=JB n x.kids[i] (d+1) l;refine acG n ih ?_;simp only[NU,rG hi,d0,gd x.kids _ i hi,acK,cond_true,eX,e1,e2];rw[<- aci hi];simp only[wu];by_cases hk:leftV n x.kids[i] (d+1) l<0
  ·rw[dT hk];rfl
  ·rw[dF hk,cond_false,cond_false,bf (by omega) (by omega)];exact dP (ih2 (i+1) _ (by omega) (by omega) (by omega) (by have:=hle (by omega);omega))
theorem acH(n:Nat):bM E left_id (yG n):=by
 induction n with
 | zero=>exact amT am1 fun x y z=>by simp[Mc]
 | succ n ih =>
  refine afn n ih fun x d l hk=>?_
  have hk:=NS.1 hk;have e1:aA (l-1)=l-1:=bf (by omega) (by omega);simp only[Za,e1,leftV];change (bif Fu x d (l-1)then _ else bif Jy x then _ else _)=_;cases h1:Fu x d (l-1)with
  | true=>rfl
  | false =>
   cases h2:Jy x with
   | true=>rfl
   | false =>
    simp only[cond_false];have hA:¬ l-1<0/\¬ 12<d:=by unfold Fu at h1;grind
    have hcond:(lT x.keys || !(x.kind==3 && !(bif(x.keys.length:Int)!=(x.kids.length:Int)then true else decide (l-1<(x.kids.length:Int)))))=true:=by
     by_cases a1:(x.keys.length:Int)=x.kids.length
     ·by_cases a2:l-1<(x.kids.length:Int)
      ·rw[iE a1,dT a2];simp
      ·rw[nI.2 (by omega)];rfl
     ·rw[fZ a1];simp
    rw[hcond,cond_true];change (bif Jz x (l-1)then _ else _)=_;cases h3:Jz x (l-1)with
    | true=>rfl
    | false =>simp only[cond_false];have:=dP (ahr n ih x d (by omega) (by omega) (by omega) x.kids.length 0 (l-1) (by omega) (by omega) (by omega) (by omega));rw[agr]at this;exact this
def lU:Nat->Node->Bool
 | 0,_=>false
 | n+1,x=>decide (x.text.length<=200)&&(x.keys.all (fun k=>decide (k.length<=200))&&x.kids.all (lU n))
noncomputable def rT(n:Nat):jH E:=Es (E:=E) .ah .bool (dp n) (lU n)
def tC:FuncId:=24
noncomputable def TY:Hint E:={ live:=[(0,[1,3]),(1,[1,4])] }
noncomputable def JC(v0 v1:Int)(v2:alJ)(v3:List (alJ))(v4:List Node):aD E:=aD.mk 37 [(1,.ptr 0 0),(3,.d (.int .i64 v0))] [(0,.box [.d (.int .i64 v1),.d (.str v2),.d (.slice .str v3),.d (.slice .ah v4)])] 1
noncomputable def JD(v0 v1:Int)(v2:alJ)(v3:List (alJ))(v4:List Node):aD E:=aD.mk 37 [(1,.ptr 0 0),(4,.d (.int .i64 v0))] [(0,.box [.d (.int .i64 v1),.d (.str v2),.d (.slice .str v3),.d (.slice .ah v4)])] 1
noncomputable def T9(_n:Nat)(G:fQ E)(x0:Node):Option (List (TV E)) :=
 bif(decide ((200:Int)<(x0.text.length:Int)))then some [⟨.bool,false⟩]else G 0 (JC 0 x0.kind x0.text x0.keys x0.kids)
noncomputable def JE(_n:Nat)(G:fQ E)(v0 v1:Int)(v2:alJ)(v3:List (alJ))(v4:List Node):Option (List (TV E)) :=
 bif(decide (v0<(v3.length:Int)))then(bif(decide ((0:Int)<=v0)&&decide (v0<(v3.length:Int)))then(bif(decide ((200:Int)<((List.getD v3 (Int.toNat v0) (dflt .str)).length:Int)))then some [⟨.bool,false⟩]else G 0 (JC (aA (v0+(1:Int))) v1 v2 v3 v4))else none)else G 1 (JD 0 v1 v2 v3 v4)
noncomputable def JF(n:Nat)(G:fQ E)(v0 v1:Int)(v2:alJ)(v3:List (alJ))(v4:List Node):Option (List (TV E)) :=
 bif(decide (v0<(v4.length:Int)))then(bif(decide ((0:Int)<=v0)&&decide (v0<(v4.length:Int)))then(bif((dp n) (⟨(List.getD v4 (Int.toNat v0) (dflt .ah)).kind,(List.getD v4 (Int.toNat v0) (dflt .ah)).text,(List.getD v4 (Int.toNat v0) (dflt .ah)).keys,(List.getD v4 (Int.toNat v0) (dflt .ah)).kids⟩:Node))then(bif(!((lU n) (⟨(List.getD v4 (Int.toNat v0) (dflt .ah)).kind,(List.getD v4 (Int.toNat v0) (dflt .ah)).text,(List.getD v4 (Int.toNat v0) (dflt .ah)).keys,(List.getD v4 (Int.toNat v0) (dflt .ah)).kids⟩:Node)))then some [⟨.bool,false⟩]else G 1 (JD (aA (v0+(1:Int))) v1 v2 v3 v4))else none)else none)else some [⟨.bool,true⟩]
theorem aj8:mI Tryz.prog 24:=⟨Tryz.f24,Tryz.func24,by kernel_rfl,by kernel_rfl⟩
theorem Qb(n:Nat)(ih:bM E tC (rT n)):aG E (ji [(24,rT n)] [] [] []):=fI (.cons ih .nil) .nil .nil .nil
theorem Zb(n:Nat)(ih:bM E tC (rT n)){res:List (TV E)}{v0 v1:Int}{v2:alJ}{v3:List (alJ)}{v4:List Node}(h:JE n (Gr E Tryz.f24 res) v0 v1 v2 v3 v4=some res):Ev E Tryz.f24 res 0 (JC v0 v1 v2 v3 v4):=Ev.of (H:=TY) (Qb n ih) mix (t:=fun G=>JE n G v0 v1 v2 v3 v4) (fun G=>by kernel_rfl) h
theorem Zc(n:Nat)(ih:bM E tC (rT n)){res:List (TV E)}{v0 v1:Int}{v2:alJ}{v3:List (alJ)}{v4:List Node}(h:JF n (Gr E Tryz.f24 res) v0 v1 v2 v3 v4=some res):Ev E Tryz.f24 res 1 (JD v0 v1 v2 v3 v4):=Ev.of (H:=TY) (Qb n ih) mix (t:=fun G=>JF n G v0 v1 v2 v3 v4) (fun G=>by kernel_rfl) h
theorem abv(n:Nat)(ih:bM E tC (rT n))(h:∀(x0:Node),(dp (n+1)) x0=true->T9 n (Gr E Tryz.f24 [⟨.bool,(lU (n+1)) x0⟩]) x0=some [⟨.bool,(lU (n+1)) x0⟩]):bM E tC (rT (n+1)):=uZ (Qb n ih) mix Tryz.func24 (by kernel_rfl) (by kernel_rfl) (fun x0 hk=>fO (H:=TY) (t:=fun G=>T9 n G x0) (fun G=>by kernel_rfl) (h x0 hk))
theorem aoy{n:Nat}(h:n<=200):decide ((200:Int)<(n:Int))=false:=dF (by omega)
theorem alp{n:Nat}(h:¬ n<=200):decide ((200:Int)<(n:Int))=true:=dT (by omega)
theorem am2(n:Nat)(ih:bM E tC (rT n))(x:Node)(hl:x.kids.length<=1000000)(hd:∀y∈x.kids,dp n y=true):∀(m i:Nat),x.kids.length-i=m->i<=x.kids.length ->
  Ev E Tryz.f24 [⟨.bool,(x.kids.drop i).all (lU n)⟩] 1 (JD i x.kind x.text x.keys x.kids):=by
 intro m
 induction m with
 | zero =>intro i h1 h2;refine Zc n ih ?_;simp only[JF,yB (show x.kids.length<=i by omega),cond_false,ace (show x.kids.length<=i by omega)];rfl
 | succ m ih2 =>
  intro i h1 h2;have hi:i<x.kids.length:=by omega
  refine Zc n ih ?_;simp only[JF,rG hi,d0,gd x.kids _ i hi,acK,cond_true,eX,hd _ (ac0 hi)];rw[<- aci hi,bf (by omega) (by omega),agN];cases lU n x.kids[i]with
  | false=>rfl
  | true =>simp only[acn,cond_false,ahP];exact dP (ih2 (i+1) (by omega) (by omega))
theorem am3(n:Nat)(ih:bM E tC (rT n))(x:Node)(hk:x.keys.length<=1000000)(hl:x.kids.length<=1000000)(hd:∀y∈x.kids,dp n y=true):∀(m i:Nat),x.keys.length-i=m->i<=x.keys.length ->
  Ev E Tryz.f24 [⟨.bool,(x.keys.drop i).all (fun k=>decide (k.length<=200))&&x.kids.all (lU n)⟩] 0 (JC i x.kind x.text x.keys x.kids):=by
 intro m
 induction m with
 | zero =>intro i h1 h2;refine Zb n ih ?_;simp only[JE,yB (show x.keys.length<=i by omega),cond_false,ace (show x.keys.length<=i by omega)];have:=dP (am2 n ih x hl hd x.kids.length 0 (by omega) (by omega));rw[agr]at this;exact this
 | succ m ih2 =>
  intro i h1 h2;have hi:i<x.keys.length:=by omega
  refine Zb n ih ?_;simp only[JE,rG hi,d0,gd x.keys _ i hi,acK,cond_true];rw[<- aci hi,bf (by omega) (by omega),agN];by_cases h:x.keys[i].length<=200
  ·rw[aoy h,cond_false,dT h,ahP];exact dP (ih2 (i+1) (by omega) (by omega))
  ·rw[alp h,cond_true,dF h];rfl
theorem aj9(n:Nat):bM E tC (rT n):=by
 induction n with
 | zero=>exact acg aj8 fun x=>rfl
 | succ n ih =>
  refine abv n ih fun x hk=>?_
  have hk:=Gt.1 hk;simp only[T9,lU];by_cases h:x.text.length<=200
  ·rw[aoy h,cond_false,dT h,ahP];have:=dP (am3 n ih x hk.1.1 hk.1.2 hk.2 x.keys.length 0 (by omega) (by omega));rw[agr]at this;exact this
  ·rw[alp h,cond_true,dF h];rfl
theorem Zd{B:Nat}(hB:B<=1000000):∀(n:Nat) (x:Node) (d l:Int),d+(n+1:Nat)=14->l<=(B:Int)+1->0<=leftV (n+1) x d l->dp n x=true/\(lU n x=true->wf B n x=true)
 | n,x,d,l,hd,hl,h=>by
  unfold leftV at h;cases h1:Fu x d (l-1)with
  | true=>rw[h1,cond_true]at h;omega
  | false =>
   cases h2:Jy x with
   | true=>rw[h1,h2,cond_false,cond_true]at h;omega
   | false =>
    cases h3:Jz x (l-1)with
    | true=>rw[h1,h2,h3,cond_false,cond_false,cond_true]at h;omega
    | false =>
     rw[h1,h2,h3,cond_false,cond_false,cond_false]at h;have hA:¬ 12<d:=by intro a2;unfold Fu at h1;rw[dT a2]at h1;cases hx:decide (l-1<0)<;>rw[hx]at h1<;>cases h1
     obtain⟨m,rfl⟩:∃m,n=m+1:=⟨n-1,by omega⟩
     obtain⟨q1,q2⟩:=JA (fun k l h=>JB (m+1) k (d+1) l h) x.kids (l-1) h;have hrec:∀y∈x.kids,dp m y=true/\(lU m y=true->wf B m y=true):=fun y hy=>by obtain⟨l',h4,h5⟩:=q2 y hy;exact Zd hB m y (d+1) l' (by omega) (by omega) h4
     have hkeys:(x.kind=3->x.keys.length=x.kids.length)/\(x.kind≠3->x.keys.length=0):=by
      constructor
      ·intro e;unfold Jz at h3;rw[fP e,cond_true]at h3;by_cases a1:(x.keys.length:Int)=x.kids.length
       ·omega
       ·rw[fZ a1]at h3;cases h3
      ·intro e;unfold Jy at h2;grind
     have hk:x.keys.length<=B:=by
      by_cases e:x.kind=3
      ·have:=hkeys.1 e;omega
      ·have:=hkeys.2 e;omega
     refine⟨Gt.2 ⟨⟨by omega,by omega⟩,fun y hy=>(hrec y hy).1⟩,fun hs=>?_⟩;simp only[lU,ach,acJ,agY]at hs;exact LV.2 ⟨hk,by omega,hkeys.1,hs.1,hs.2.1,fun y hy=>(hrec y hy).2 (hs.2.2 y hy)⟩
 termination_by n=>n
def Ze(_:Node)(m:Int):Bool:=decide (0<=m)&&decide (m<=300)
def AU(x:Node)(m:Int):Bool:=bif decide (0<=leftV 13 x 1 m)then lU 12 x else false
noncomputable def Ua:jH E:=Gp (E:=E) .ah .int .bool Ze AU
def Zf:FuncId:=11
noncomputable def Ub(_G:fQ E)(x0:Node)(x1:Int):Option (List (TV E)) :=
 bif((Mc 13) (⟨x0.kind,x0.text,x0.keys,x0.kids⟩:Node) (1:Int) x1)then(bif(((dp 12) (⟨x0.kind,x0.text,x0.keys,x0.kids⟩:Node)) || !(decide ((0:Int)<=((leftV 13) (⟨x0.kind,x0.text,x0.keys,x0.kids⟩:Node) (1:Int) x1))))then some [⟨.bool,(bif(decide ((0:Int)<=((leftV 13) (⟨x0.kind,x0.text,x0.keys,x0.kids⟩:Node) (1:Int) x1)))then((lU 12) (⟨x0.kind,x0.text,x0.keys,x0.kids⟩:Node))else false)⟩]else none)else none
theorem akb:aG E (ji [(23,yG 13),(24,rT 12)] [] [] []):=fI (.cons (acH 13) (.cons (aj9 12) .nil)) .nil .nil .nil
theorem abw(h:∀(x0:Node) (x1:Int),Ze x0 x1=true->Ub (Gr E Tryz.f11 [⟨.bool,AU x0 x1⟩]) x0 x1=some [⟨.bool,AU x0 x1⟩]):bM E Zf Ua:=yA akb mix Tryz.func11 (by kernel_rfl) (by kernel_rfl) (fun x0 x1 hk=>fO (H:={}) (t:=fun G=>Ub G x0 x1) (fun G=>by kernel_rfl) (h x0 x1 hk))
theorem akc:bM E Zf Ua:=abw fun x m hk=>by
 have hm:0<=m/\m<=300:=by simpa[Ze]using hk
 have e1:Mc 13 x 1 m=true:=NS.2 ⟨⟨⟨by decide,by decide⟩,by omega⟩,by omega⟩;have e2:(dp 12 x || !(decide (0<=leftV 13 x 1 m)))=true:=by
  by_cases h:0<=leftV 13 x 1 m
  ·rw[(Zd (B:=300) (by decide) 12 x 1 m (by decide) (by omega) h).1];rfl
  ·rw[dF h];simp
 simp only[Ub,eX,e1,e2,cond_true];rfl
def jL(k:alJ)(v:Node):List (alJ)->List Node->List Node
 | a::t,x::w=>(bif a==k then v else x)::jL k v t w
 | _,_=>[]
theorem Me(k:alJ)(v:Node):∀(ks:List (alJ)) (vs:List Node),ks.length=vs.length->(jL k v ks vs).length=ks.length
 | [],[],_=>rfl
 | a::t,x::w,h=>by simp only[jL,acj];rw[Me k v t w (by simpa using h)]
 | [],_::_,h=>by simp at h
 | _::_,[],h=>by simp at h
theorem VO(k:alJ)(v:Node):∀(ks:List (alJ)) (vs:List Node) (y:Node),y∈jL k v ks vs->y=v\/y∈vs
 | [],vs,y,h=>by simp[jL]at h
 | _::_,[],y,h=>by simp[jL]at h
 | a::t,x::w,y,h=>by
  simp only[jL,List.mem_cons]at h;rcases h with h | h
  ·grind
  ·rcases VO k v t w y h with h | h
   ·exact .inl h
   ·exact .inr (aav _ h)
def uQ(th:Bool)(k:alJ):List (alJ):=bif th then[]else[k]
def newV(th:Bool)(v:Node):List Node:=bif th then[]else[v]
def aT(x:Node)(k:alJ)(v:Node):Node:=bif(bif x.kind != 0 then x.kind != 3 else false)then x else⟨3,[],x.keys++uQ (dD x.keys k) k,jL k v x.keys x.kids++newV (dD x.keys k) v⟩
def eY(x:Node)(_:alJ)(_:Node):Bool:=decide (x.keys.length<=100000)&&decide (x.keys.length=x.kids.length)
theorem Zg{x:Node}{k:alJ}{v:Node}:eY x k v=true↔x.keys.length<=100000/\x.keys.length=x.kids.length:=by simp[eY]
noncomputable def Uc:jH E:=fn3 (E:=E) .ah .str .ah .ah eY aT
def Zh:FuncId:=29
noncomputable def acI:Hint E:={ live:=[(0,[1,3,5,6,7,8,9])],qK:=[(0,[(7,some 2,true,.str),(7,some 3,true,.ah)])] }
noncomputable def Da(v0:alJ)(v1:Bool)(v2 v3:Int)(v4:alJ)(v5:List (alJ))(v6:List Node)(v7:Int)(v8:alJ)(v9:List (alJ))(v10:List Node)(v11:Int)(v12:alJ)(v13:Int)(v14:alJ)(v15:List (alJ))(v16:List Node):aD E:=aD.mk 75 [(1,.d (.str v0)),(3,.ptr 0 0),(5,.ptr 1 0),(6,.ptr 2 0),(7,.ptr 3 0),(8,.d (.bool v1)),(9,.d (.int .i64 v2))] [(0,.box [.d (.int .i64 v3),.d (.str v4),.d (.slice .str v5),.d (.slice .ah v6)]),(1,.box [.d (.int .i64 v7),.d (.str v8),.d (.slice .str v9),.d (.slice .ah v10)]),(2,.box [.d (.int .i64 v11),.d (.str v12),.d (.raw (.slice none 0 0)),.d (.raw (.slice none 0 0))]),(3,.box [.d (.int .i64 v13),.d (.str v14),.grow .str v15 4,.grow .ah v16 5]),(4,.tail true),(5,.tail true)] 6
noncomputable def Ud(G:fQ E)(x0:Node)(x1:alJ)(x2:Node):Option (List (TV E)) :=
 bif(bif(x0.kind != (0:Int))then(x0.kind != (3:Int))else false)then some [⟨.ah,(⟨x0.kind,x0.text,x0.keys,x0.kids⟩:Node)⟩]else G 0 (Da x1 false 0 x0.kind x0.text x0.keys x0.kids x2.kind x2.text x2.keys x2.kids 0 [] 3 [] [] [])
noncomputable def JG(G:fQ E)(v0:alJ)(v1:Bool)(v2 v3:Int)(v4:alJ)(v5:List (alJ))(v6:List Node)(v7:Int)(v8:alJ)(v9:List (alJ))(v10:List Node)(v11:Int)(v12:alJ)(v13:Int)(v14:alJ)(v15:List (alJ))(v16:List Node):Option (List (TV E)) :=
 bif(decide (v2<(v5.length:Int)))then(bif(decide ((0:Int)<=v2)&&decide (v2<(v5.length:Int)))then(bif(decide ((v15.length+([(List.getD v5 (Int.toNat v2) (dflt .str))]:List (alJ)).length)*16<=aL))then(bif(decide ((0:Int)<=v2)&&decide (v2<(v5.length:Int)))then(bif((List.getD v5 (Int.toNat v2) (dflt .str))==v0)then(bif(decide ((v16.length+([(⟨v7,v8,v9,v10⟩:Node)]:List Node).length)*72<=aL))then G 0 (Da v0 true (aA (v2+(1:Int))) v3 v4 v5 v6 v7 v8 v9 v10 v11 v12 v13 v14 (v15++([(List.getD v5 (Int.toNat v2) (dflt .str))]:List (alJ))) (v16++([(⟨v7,v8,v9,v10⟩:Node)]:List Node)))else none)else(bif(decide ((0:Int)<=v2)&&decide (v2<(v6.length:Int)))then(bif(decide ((v16.length+([(⟨(List.getD v6 (Int.toNat v2) (dflt .ah)).kind,(List.getD v6 (Int.toNat v2) (dflt .ah)).text,(List.getD v6 (Int.toNat v2) (dflt .ah)).keys,(List.getD v6 (Int.toNat v2) (dflt .ah)).kids⟩:Node)]:List Node).length)*72<=aL))then G 0 (Da v0 v1 (aA (v2+(1:Int))) v3 v4 v5 v6 v7 v8 v9 v10 v11 v12 v13 v14 (v15++([(List.getD v5 (Int.toNat v2) (dflt .str))]:List (alJ))) (v16++([(⟨(List.getD v6 (Int.toNat v2) (dflt .ah)).kind,(List.getD v6 (Int.toNat v2) (dflt .ah)).text,(List.getD v6 (Int.toNat v2) (dflt .ah)).keys,(List.getD v6 (Int.toNat v2) (dflt .ah)).kids⟩:Node)]:List Node)))else none)else none))else none)else none)else none)else(bif(!v1)then(bif(decide ((v15.length+([v0]:List (alJ)).length)*16<=aL))then(bif(decide ((v16.length+([(⟨v7,v8,v9,v10⟩:Node)]:List Node).length)*72<=aL))then some [⟨.ah,(⟨v13,v14,(v15++([v0]:List (alJ))),(v16++([(⟨v7,v8,v9,v10⟩:Node)]:List Node))⟩:Node)⟩]else none)else none)else some [⟨.ah,(⟨v13,v14,v15,v16⟩:Node)⟩])
theorem Zi:aG E (ji [] [] [] []):=fI .nil .nil .nil .nil
theorem Zj{res:List (TV E)}{v0:alJ}{v1:Bool}{v2 v3:Int}{v4:alJ}{v5:List (alJ)}{v6:List Node}{v7:Int}{v8:alJ}{v9:List (alJ)}{v10:List Node}{v11:Int}{v12:alJ}{v13:Int}{v14:alJ}{v15:List (alJ)}{v16:List Node}(h:JG (Gr E Tryz.f29 res) v0 v1 v2 v3 v4 v5 v6 v7 v8 v9 v10 v11 v12 v13 v14 v15 v16=some res):Ev E Tryz.f29 res 0 (Da v0 v1 v2 v3 v4 v5 v6 v7 v8 v9 v10 v11 v12 v13 v14 v15 v16):=Ev.of (H:=acI) Zi mix (t:=fun G=>JG G v0 v1 v2 v3 v4 v5 v6 v7 v8 v9 v10 v11 v12 v13 v14 v15 v16) (fun G=>by kernel_rfl) h
theorem abx(h:∀(x0:Node) (x1:alJ) (x2:Node),eY x0 x1 x2=true->Ud (Gr E Tryz.f29 [⟨.ah,aT x0 x1 x2⟩]) x0 x1 x2=some [⟨.ah,aT x0 x1 x2⟩]):bM E Zh Uc:=agV Zi mix Tryz.func29 (by kernel_rfl) (by kernel_rfl) (fun x0 x1 x2 hk=>fO (H:=acI) (t:=fun G=>Ud G x0 x1 x2) (fun G=>by kernel_rfl) (h x0 x1 x2 hk))
theorem am4(keys:List (alJ))(kids:List Node)(k:alJ)(v:Node)(hs:keys.length<=100000)(hl:keys.length=kids.length)(a0:Int)(a1:alJ)(u0:Int)(u1:alJ)(u2:Int)(u3:alJ):∀(m i:Nat) (th:Bool) (ok:List (alJ)) (ov:List Node),keys.length-i=m->i<=keys.length->ok.length=i->ov.length=i ->
  Ev E Tryz.f29 [⟨.ah,(⟨u2,u3,ok++(keys.drop i++uQ (th||dD (keys.drop i) k) k),ov++(jL k v (keys.drop i) (kids.drop i)++newV (th||dD (keys.drop i) k) v)⟩:Node)⟩] 0 (Da k th i a0 a1 keys kids v.kind v.text v.keys v.kids u0 u1 u2 u3 ok ov):=by
 intro m
 induction m with
 | zero =>
  intro i th ok ov h1 h2 h3 h4;refine Zj ?_;simp only[JG,yB (show keys.length<=i by omega),cond_false,ace (show keys.length<=i by omega)];cases th with
  | true=>simp[uQ,newV,jL]
  | false =>rw[acO,cond_true,dT (show(ok.length+[k].length)*16<=aL by rw[mb,aah];omega),cond_true,eX,dT (show(ov.length+[v].length)*72<=aL by rw[mb,aah];omega),cond_true];simp[uQ,newV,jL,dD]
 | succ m ih2 =>
  intro i th ok ov h1 h2 h3 h4;have hi:i<keys.length:=by omega
  have hj:i<kids.length:=by omega
  have e3:aA ((i:Int)+1)=((i+1:Nat):Int):=by rw[bf (by omega) (by omega)];omega
  refine Zj ?_;simp only[JG,rG hi,d0,gd keys _ i hi,e3,acK,cond_true,eX,rG hj,gd kids _ i hj];rw[<- aci hi];have e1:∀x:alJ,decide ((ok.length+[x].length)*16<=aL)=true:=fun x=>dT (by rw[mb,aah];omega)
  have e2:∀x:Node,decide ((ov.length+[x].length)*72<=aL)=true:=fun x=>dT (by rw[mb,aah];omega)
  simp only[e1,e2,cond_true];rw[<- aci hj];simp only[jL,dD,alG];cases hb:keys[i]==k with
  | true =>simp only[cond_true];have:=dP (ih2 (i+1) true (ok++[keys[i]]) (ov++[v]) (by omega) (by omega) (by simp[h3]) (by simp[h4]));simp only[dD,acR,ahH,acN,alq]at this ⊢;exact this
  | false =>simp only[cond_false];have:=dP (ih2 (i+1) th (ok++[keys[i]]) (ov++[kids[i]]) (by omega) (by omega) (by simp[h3]) (by simp[h4]));simp only[dD,als,acN,alq]at this ⊢;exact this
theorem akd:bM E Zh Uc:=abx fun x k v hk=>by
 obtain⟨h1,h2⟩:=Zg.1 hk;unfold aT;simp only[Ud,eX];cases hc:(bif x.kind != 0 then x.kind != 3 else false)with
 | true=>simp only[cond_true]
 | false =>simp only[cond_false];have:=dP (am4 x.keys x.kids k v h1 h2 x.kind x.text 0 [] 3 [] x.keys.length 0 false [] [] (by omega) (by omega) rfl rfl);grind
theorem apU(th:Bool)(k:alJ)(v:Node):(uQ th k).length=(newV th v).length/\(uQ th k).length<=1:=by cases th<;>exact⟨rfl,by simp[uQ]⟩
theorem w9{x:Node}{k:alJ}{v:Node}(hk:x.kind=0\/x.kind=3)(h:x.keys.length=x.kids.length) :
  (aT x k v).kind=3/\(aT x k v).keys.length=(aT x k v).kids.length/\(aT x k v).keys.length<=x.keys.length+1/\∀y∈(aT x k v).kids,y=v\/y∈x.kids:=by
 have hc:(bif x.kind != 0 then x.kind != 3 else false)=false:=by rcases hk with e | e<;>rw[e]<;>rfl
 unfold aT;rw[hc];have hw:=Me k v x.keys x.kids h;have hn:=apU (dD x.keys k) k v;refine⟨rfl,?_,?_,fun y hy=>?_⟩
 ·grind
 ·grind
 ·simp only[cond_false,List.mem_append]at hy;rcases hy with hy | hy
  ·exact VO k v _ _ y hy
  ·left;unfold newV at hy;grind
def lV(x:Node):Bool:=decide (0<=leftV 13 x 1 2000)
noncomputable def Qc:jH E:=Es (E:=E) .ah .bool (fun _=>true) lV
def VP:FuncId:=31
noncomputable def Qd(_G:fQ E)(x0:Node):Option (List (TV E)) :=
 bif((Mc 13) (⟨x0.kind,x0.text,x0.keys,x0.kids⟩:Node) (1:Int) (2000:Int))then some [⟨.bool,(decide ((0:Int)<=((leftV 13) (⟨x0.kind,x0.text,x0.keys,x0.kids⟩:Node) (1:Int) (2000:Int))))⟩]else none
theorem ahs:aG E (ji [(23,yG 13)] [] [] []):=fI (.cons (acH 13) .nil) .nil .nil .nil
theorem Zk(h:∀(x0:Node),Qd (Gr E Tryz.f31 [⟨.bool,lV x0⟩]) x0=some [⟨.bool,lV x0⟩]):bM E VP Qc:=uZ ahs mix Tryz.func31 (by kernel_rfl) (by kernel_rfl) (fun x0 _=>fO (H:={}) (t:=fun G=>Qd G x0) (fun G=>by kernel_rfl) (h x0))
theorem aht:bM E VP Qc:=Zk fun x=>by have e1:Mc 13 x 1 2000=true:=NS.2 (by decide);simp only[Qd,eX,e1,cond_true];rfl
end Go.Proofs.YtibpdjmikfmmaaaGreat.Rf
