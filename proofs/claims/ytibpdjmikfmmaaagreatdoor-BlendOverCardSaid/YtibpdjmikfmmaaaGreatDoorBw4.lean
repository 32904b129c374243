/- Part 4 of a proof: the texts B0 B1 B2 M1 MirY I1 I2 I3, one behind the other. -/
import Derived.Test.YtibpdjmikfmmaaaGreatDoorBw1
import Derived.Test.YtibpdjmikfmmaaaGreatDoorBw3
import Derived.Test.YtibpdjmikfmmaaaGreatDoorRows
import Derived.Sort.OwnSorted
import Derived.Lib.AppendZeros
import Derived.Lib.Join
import Derived.Lib.ReplaceLaws
import Derived.Deep.LoopGhost
import Derived.RangeFuncRecord
import Derived.RangeFuncCalls
import Derived.OrdersIn
noncomputable section
namespace Go.Proofs.YtibpdjmikfmmaaaGreatDoor.Rf
open Go Go.RowKit Go.Sort Go.Proofs.YtibpdjmikfmmaaaGreatDoor.bB
structure An where
 kind:Int
 text:anY
 keys:List (anY)
 kids:List An
structure jD where
 n:An
 path:anY
 e:Int
structure Named where
 name:anY
 n:An
structure ahj where
 e0:anY
 e1:anY
structure form where
 n:An
 bad:Bool
structure budget where
 left:Int
structure Port where
 host:anY
 out:Int
 jZ:Int
 proto:anY
structure gD where
 source:anY
 target:anY
 readOnly:Bool
structure field where
 n:An
 left:Int
 bad:Bool
structure yH where
 long:Int
 name:anY
structure U0 where
 e0:yH
 e1:yH
 e2:yH
 e3:yH
structure abp where
 e0:anY
 e1:anY
 e2:anY
 e3:anY
structure abq where
 e0:Int
 e1:Int
 e2:Int
 e3:Int
inductive Ty where
 | int | str | bH | ah | dP | bool | bq | iW | kL | mh | kG | kS | zm | yI | Rn | zN | Ro | mR | kM | byte | nM | LQ | mo | Rp | kH | jm | kT | Gc | BQ | tK | AL | u64 | AO | Gd
 deriving DecidableEq
abbrev Den:Ty->Type
 | .int=>Int
 | .str=>anY
 | .bH=>List (anY)
 | .ah=>An
 | .dP=>List An
 | .bool=>Bool
 | .bq=>Int
 | .iW=>jD
 | .kL=>Named
 | .mh=>List Named
 | .kG=>Named
 | .kS=>List Named
 | .zm=>ahj
 | .yI=>List ahj
 | .Rn=>Nat
 | .zN=>List (List (anY))
 | .Ro=>Nat
 | .mR=>form
 | .kM=>budget
 | .byte=>Int
 | .nM=>List (List An)
 | .LQ=>Nat
 | .mo=>Nat
 | .Rp=>Nat
 | .kH=>Port
 | .jm=>gD
 | .kT=>field
 | .Gc=>List Int
 | .BQ=>yH
 | .tK=>U0
 | .AL=>abp
 | .u64=>Int
 | .AO=>abq
 | .Gd=>Int
def tid:Ty->TypeId
 | .int=>3
 | .str=>9
 | .bH=>25
 | .ah=>27
 | .dP=>22
 | .bool=>4
 | .bq=>28
 | .iW=>32
 | .kL=>52
 | .mh=>36
 | .kG=>53
 | .kS=>37
 | .zm=>63
 | .yI=>57
 | .Rn=>70
 | .zN=>104
 | .Ro=>84
 | .mR=>86
 | .kM=>93
 | .byte=>5
 | .nM=>115
 | .LQ=>34
 | .mo=>108
 | .Rp=>68
 | .kH=>153
 | .jm=>160
 | .kT=>174
 | .Gc=>121
 | .BQ=>204
 | .tK=>205
 | .AL=>210
 | .u64=>144
 | .AO=>220
 | .Gd=>119
def code:TypeId->Option Ty
 | 3=>some .int
 | 9=>some .str
 | 25=>some .bH
 | 27=>some .ah
 | 22=>some .dP
 | 4=>some .bool
 | 28=>some .bq
 | 32=>some .iW
 | 52=>some .kL
 | 36=>some .mh
 | 53=>some .kG
 | 37=>some .kS
 | 63=>some .zm
 | 57=>some .yI
 | 70=>some .Rn
 | 104=>some .zN
 | 84=>some .Ro
 | 86=>some .mR
 | 93=>some .kM
 | 5=>some .byte
 | 115=>some .nM
 | 34=>some .LQ
 | 108=>some .mo
 | 68=>some .Rp
 | 153=>some .kH
 | 160=>some .jm
 | 174=>some .kT
 | 121=>some .Gc
 | 204=>some .BQ
 | 205=>some .tK
 | 210=>some .AL
 | 144=>some .u64
 | 220=>some .AO
 | 119=>some .Gd
 | _=>none
def agg:Ty->Bool
 | .int=>false
 | .str=>false
 | .bH=>false
 | .ah=>true
 | .dP=>false
 | .bool=>false
 | .bq=>false
 | .iW=>true
 | .kL=>true
 | .mh=>false
 | .kG=>true
 | .kS=>false
 | .zm=>true
 | .yI=>false
 | .Rn=>false
 | .zN=>false
 | .Ro=>false
 | .mR=>true
 | .kM=>true
 | .byte=>false
 | .nM=>false
 | .LQ=>false
 | .mo=>false
 | .Rp=>false
 | .kH=>true
 | .jm=>true
 | .kT=>true
 | .Gc=>false
 | .BQ=>true
 | .tK=>true
 | .AL=>true
 | .u64=>false
 | .AO=>true
 | .Gd=>false
def size:Ty->Nat
 | .int=>1
 | .str=>1
 | .bH=>1
 | .ah=>4
 | .dP=>1
 | .bool=>1
 | .bq=>1
 | .iW=>6
 | .kL=>5
 | .mh=>1
 | .kG=>5
 | .kS=>1
 | .zm=>2
 | .yI=>1
 | .Rn=>1
 | .zN=>1
 | .Ro=>1
 | .mR=>5
 | .kM=>1
 | .byte=>1
 | .nM=>1
 | .LQ=>1
 | .mo=>1
 | .Rp=>1
 | .kH=>4
 | .jm=>3
 | .kT=>6
 | .Gc=>1
 | .BQ=>2
 | .tK=>8
 | .AL=>4
 | .u64=>1
 | .AO=>4
 | .Gd=>1
def bytes:Ty->Nat
 | .int=>8
 | .str=>16
 | .bH=>24
 | .ah=>72
 | .dP=>24
 | .bool=>1
 | .bq=>8
 | .iW=>96
 | .kL=>88
 | .mh=>24
 | .kG=>88
 | .kS=>24
 | .zm=>32
 | .yI=>24
 | .Rn=>8
 | .zN=>24
 | .Ro=>8
 | .mR=>80
 | .kM=>8
 | .byte=>1
 | .nM=>24
 | .LQ=>8
 | .mo=>8
 | .Rp=>8
 | .kH=>48
 | .jm=>40
 | .kT=>88
 | .Gc=>24
 | .BQ=>24
 | .tK=>96
 | .AL=>64
 | .u64=>8
 | .AO=>32
 | .Gd=>8
def cells:(t:Ty)->Den t->List (bQ Den)
 | .int,x=>[.int .i64 x]
 | .str,x=>[.str x]
 | .bH,x=>[.slice .str x]
 | .ah,x=>[.int .i64 x.kind,.str x.text,.slice .str x.keys,.slice .ah x.kids]
 | .dP,x=>[.slice .ah x]
 | .bool,x=>[.bool x]
 | .bq,x=>[.int .i64 x]
 | .iW,x=>[.int .i64 x.n.kind,.str x.n.text,.slice .str x.n.keys,.slice .ah x.n.kids,.str x.path,.int .i64 x.e]
 | .kL,x=>[.str x.name,.int .i64 x.n.kind,.str x.n.text,.slice .str x.n.keys,.slice .ah x.n.kids]
 | .mh,x=>[.slice .kL x]
 | .kG,x=>[.str x.name,.int .i64 x.n.kind,.str x.n.text,.slice .str x.n.keys,.slice .ah x.n.kids]
 | .kS,x=>[.slice .kG x]
 | .zm,x=>[.str x.e0,.str x.e1]
 | .yI,x=>[.slice .zm x]
 | .Rn,x=>[.raw (.func (.func x) #[] #[])]
 | .zN,x=>[.slice .bH x]
 | .Ro,x=>[.raw (.func (.func x) #[] #[])]
 | .mR,x=>[.int .i64 x.n.kind,.str x.n.text,.slice .str x.n.keys,.slice .ah x.n.kids,.bool x.bad]
 | .kM,x=>[.int .i64 x.left]
 | .byte,x=>[.int .u8 x]
 | .nM,x=>[.slice .dP x]
 | .LQ,x=>[.raw (.func (.func x) #[] #[])]
 | .mo,x=>[.raw (.func (.func x) #[] #[])]
 | .Rp,x=>[.raw (.func (.func x) #[] #[])]
 | .kH,x=>[.str x.host,.int .i64 x.out,.int .i64 x.jZ,.str x.proto]
 | .jm,x=>[.str x.source,.str x.target,.bool x.readOnly]
 | .kT,x=>[.int .i64 x.n.kind,.str x.n.text,.slice .str x.n.keys,.slice .ah x.n.kids,.int .i64 x.left,.bool x.bad]
 | .Gc,x=>[.slice .byte x]
 | .BQ,x=>[.int .i64 x.long,.str x.name]
 | .tK,x=>[.int .i64 x.e0.long,.str x.e0.name,.int .i64 x.e1.long,.str x.e1.name,.int .i64 x.e2.long,.str x.e2.name,.int .i64 x.e3.long,.str x.e3.name]
 | .AL,x=>[.str x.e0,.str x.e1,.str x.e2,.str x.e3]
 | .u64,x=>[.int .u64 x]
 | .AO,x=>[.int .i64 x.e0,.int .i64 x.e1,.int .i64 x.e2,.int .i64 x.e3]
 | .Gd,x=>[.int .u64 x]
def dec:DecidableEq Ty:=inferInstance
def fold:(t:Ty)->List (bQ Den)->Option (Den t)
 | .int,cs=>rd cs (pq .i64) fun y c=>rn c y
 | .str,cs=>rd cs (pE) fun y c=>rn c y
 | .bH,cs=>rd cs (Cu dec .str) fun y c=>rn c y
 | .ah,cs=>rd cs (pq .i64) fun y0 c=>rd c (pE) fun y1 c=>rd c (Cu dec .str) fun y2 c=>rd c (Cu dec .ah) fun y3 c=>rn c (⟨y0,y1,y2,y3⟩:An)
 | .dP,cs=>rd cs (Cu dec .ah) fun y c=>rn c y
 | .bool,cs=>rd cs (dBl) fun y c=>rn c y
 | .bq,cs=>rd cs (pq .i64) fun y c=>rn c y
 | .iW,cs=>rd cs (pq .i64) fun y0 c=>rd c (pE) fun y1 c=>rd c (Cu dec .str) fun y2 c=>rd c (Cu dec .ah) fun y3 c=>rd c (pE) fun y4 c=>rd c (pq .i64) fun y5 c=>rn c (⟨(⟨y0,y1,y2,y3⟩:An),y4,y5⟩:jD)
 | .kL,cs=>rd cs (pE) fun y0 c=>rd c (pq .i64) fun y1 c=>rd c (pE) fun y2 c=>rd c (Cu dec .str) fun y3 c=>rd c (Cu dec .ah) fun y4 c=>rn c (⟨y0,(⟨y1,y2,y3,y4⟩:An)⟩:Named)
 | .mh,cs=>rd cs (Cu dec .kL) fun y c=>rn c y
 | .kG,cs=>rd cs (pE) fun y0 c=>rd c (pq .i64) fun y1 c=>rd c (pE) fun y2 c=>rd c (Cu dec .str) fun y3 c=>rd c (Cu dec .ah) fun y4 c=>rn c (⟨y0,(⟨y1,y2,y3,y4⟩:An)⟩:Named)
 | .kS,cs=>rd cs (Cu dec .kG) fun y c=>rn c y
 | .zm,cs=>rd cs (pE) fun y0 c=>rd c (pE) fun y1 c=>rn c (⟨y0,y1⟩:ahj)
 | .yI,cs=>rd cs (Cu dec .zm) fun y c=>rn c y
 | .Rn,cs=>rd cs (dFn) fun y c=>rn c y
 | .zN,cs=>rd cs (Cu dec .bH) fun y c=>rn c y
 | .Ro,cs=>rd cs (dFn) fun y c=>rn c y
 | .mR,cs=>rd cs (pq .i64) fun y0 c=>rd c (pE) fun y1 c=>rd c (Cu dec .str) fun y2 c=>rd c (Cu dec .ah) fun y3 c=>rd c (dBl) fun y4 c=>rn c (⟨(⟨y0,y1,y2,y3⟩:An),y4⟩:form)
 | .kM,cs=>rd cs (pq .i64) fun y0 c=>rn c (⟨y0⟩:budget)
 | .byte,cs=>rd cs (pq .u8) fun y c=>rn c y
 | .nM,cs=>rd cs (Cu dec .dP) fun y c=>rn c y
 | .LQ,cs=>rd cs (dFn) fun y c=>rn c y
 | .mo,cs=>rd cs (dFn) fun y c=>rn c y
 | .Rp,cs=>rd cs (dFn) fun y c=>rn c y
 | .kH,cs=>rd cs (pE) fun y0 c=>rd c (pq .i64) fun y1 c=>rd c (pq .i64) fun y2 c=>rd c (pE) fun y3 c=>rn c (⟨y0,y1,y2,y3⟩:Port)
 | .jm,cs=>rd cs (pE) fun y0 c=>rd c (pE) fun y1 c=>rd c (dBl) fun y2 c=>rn c (⟨y0,y1,y2⟩:gD)
 | .kT,cs=>rd cs (pq .i64) fun y0 c=>rd c (pE) fun y1 c=>rd c (Cu dec .str) fun y2 c=>rd c (Cu dec .ah) fun y3 c=>rd c (pq .i64) fun y4 c=>rd c (dBl) fun y5 c=>rn c (⟨(⟨y0,y1,y2,y3⟩:An),y4,y5⟩:field)
 | .Gc,cs=>rd cs (Cu dec .byte) fun y c=>rn c y
 | .BQ,cs=>rd cs (pq .i64) fun y0 c=>rd c (pE) fun y1 c=>rn c (⟨y0,y1⟩:yH)
 | .tK,cs=>rd cs (pq .i64) fun y0 c=>rd c (pE) fun y1 c=>rd c (pq .i64) fun y2 c=>rd c (pE) fun y3 c=>rd c (pq .i64) fun y4 c=>rd c (pE) fun y5 c=>rd c (pq .i64) fun y6 c=>rd c (pE) fun y7 c=>rn c (⟨(⟨y0,y1⟩:yH),(⟨y2,y3⟩:yH),(⟨y4,y5⟩:yH),(⟨y6,y7⟩:yH)⟩:U0)
 | .AL,cs=>rd cs (pE) fun y0 c=>rd c (pE) fun y1 c=>rd c (pE) fun y2 c=>rd c (pE) fun y3 c=>rn c (⟨y0,y1,y2,y3⟩:abp)
 | .u64,cs=>rd cs (pq .u64) fun y c=>rn c y
 | .AO,cs=>rd cs (pq .i64) fun y0 c=>rd c (pq .i64) fun y1 c=>rd c (pq .i64) fun y2 c=>rd c (pq .i64) fun y3 c=>rn c (⟨y0,y1,y2,y3⟩:abq)
 | .Gd,cs=>rd cs (pq .u64) fun y c=>rn c y
def dflt:(t:Ty)->Den t
 | .int=>(0:Int)
 | .str=>[]
 | .bH=>[]
 | .ah=>⟨(0:Int),[],[],[]⟩
 | .dP=>[]
 | .bool=>false
 | .bq=>(0:Int)
 | .iW=>⟨⟨(0:Int),[],[],[]⟩,[],(0:Int)⟩
 | .kL=>⟨[],⟨(0:Int),[],[],[]⟩⟩
 | .mh=>[]
 | .kG=>⟨[],⟨(0:Int),[],[],[]⟩⟩
 | .kS=>[]
 | .zm=>⟨[],[]⟩
 | .yI=>[]
 | .Rn=>(0:Nat)
 | .zN=>[]
 | .Ro=>(0:Nat)
 | .mR=>⟨⟨(0:Int),[],[],[]⟩,false⟩
 | .kM=>⟨(0:Int)⟩
 | .byte=>(0:Int)
 | .nM=>[]
 | .LQ=>(0:Nat)
 | .mo=>(0:Nat)
 | .Rp=>(0:Nat)
 | .kH=>⟨[],(0:Int),(0:Int),[]⟩
 | .jm=>⟨[],[],false⟩
 | .kT=>⟨⟨(0:Int),[],[],[]⟩,(0:Int),false⟩
 | .Gc=>[]
 | .BQ=>⟨(0:Int),[]⟩
 | .tK=>⟨⟨(0:Int),[]⟩,⟨(0:Int),[]⟩,⟨(0:Int),[]⟩,⟨(0:Int),[]⟩⟩
 | .AL=>⟨[],[],[],[]⟩
 | .u64=>(0:Int)
 | .AO=>⟨(0:Int),(0:Int),(0:Int),(0:Int)⟩
 | .Gd=>(0:Int)
def WM:(t:Ty)->Option (Den t->Int)
 | .byte=>some fun x=>x
 | _=>none
theorem WO:∀t f,WM t=some f->∀x,cells t x=[.int .u8 (f x)]:=by intro t f h x;cases t<;>first | (cases h;rfl) | cases h
def WQ:(t:Ty)->Option (Int->Den t)
 | .byte=>some fun x=>x
 | _=>none
theorem QC:∀t g,WQ t=some g->∀n,cells t (g n)=[.int .u8 n]:=by intro t g h n;cases t<;>first | (cases h;rfl) | cases h
theorem wQ:∀t cs x,fold t cs=some x->Lr cs (cells t x):=by
 intro t cs x h;cases t<;>(
  repeat obtain⟨_,_,_,rfl,_,h⟩:=aAf h
  obtain⟨rfl,rfl⟩:=aAg h
  repeat' (first | exact trivial | exact ayB ‹_› | exact ayC ‹_› | exact aAk ‹_› | exact aAl ‹_› | exact aAj ‹_› | exact ayz ‹_› | exact ayA ‹_› | constructor))
theorem Pm:∀i t,code i=some t->i=tid t:=by intro i t h;unfold code at h;split at h<;>first | (cases h;rfl) | cases h
theorem BI:∀t, ∃i z,Tryz.prog.info? (tid t)=some i/\i.size=size t/\i.bytes=bytes t/\i.zero=some z/\z.cells.size=size t:=by intro t;refine ayy ?_ rfl;cases t<;>kernel_rfl
theorem ahL:∀t,FU Tryz.prog (tid t)=agg t:=by intro t;cases t<;>kernel_rfl
theorem ahM:∀t,(Tryz.prog.underlying (tid t)).isSome=true:=by intro t;cases t<;>kernel_rfl
abbrev E:Env Tryz.prog where
 Ty:=Ty
 dec:=dec
 Den:=Den
 tid:=tid
 code:=code
 agg:=agg
 size:=size
 bytes:=bytes
 cells:=cells
 fold:=fold
 Pm:=Pm
 BI:=BI
 ahL:=ahL
 ahM:=ahM
 size_pos:=by intro t;cases t<;>decide
 Nr:=by intro t;cases t<;>decide
 one:=by intro t h;cases t<;>first | rfl | cases h
 jl:=by intro t x;cases t<;>rfl
 dflt:=dflt
 wQ:=wQ
 WM:=WM
 WQ:=WQ
 WO:=WO
 QC:=QC
theorem mix:Tryz.prog.follows .mixedOrders=true:=by kernel_rfl
def au(n:Int):Int:=IntKind.wrap .i64 n
def aj(x:An):An:=⟨x.kind,x.text,x.keys,x.kids⟩
theorem aQ(x:An):aj x=x:=by cases x;rfl
instance:Df An:=⟨dflt .ah⟩
instance:Df jD:=⟨dflt .iW⟩
instance:Df Named:=⟨dflt .kL⟩
instance:Df ahj:=⟨dflt .zm⟩
instance:Df form:=⟨dflt .mR⟩
instance:Df budget:=⟨dflt .kM⟩
instance:Df Port:=⟨dflt .kH⟩
instance:Df gD:=⟨dflt .jm⟩
instance:Df field:=⟨dflt .kT⟩
instance:Df yH:=⟨dflt .BQ⟩
instance:Df U0:=⟨dflt .tK⟩
instance:Df abp:=⟨dflt .AL⟩
instance:Df abq:=⟨dflt .AO⟩
theorem aT{n:Int}(h : -9223372036854775808<=n)(h':n<=9223372036854775807):au n=n:=by unfold au;rw[IntKind.wrap_i64];omega
theorem gd{α:Type}(l:List α)(d:α)(i:Nat)(h:i<l.length):List.getD l (Int.toNat (i:Int)) d=l[i]:=by rw[aaY,List.getD,aaO h];rfl
theorem d0(i:Nat):decide ((0:Int)<=(i:Int))=true:=by simp
theorem tL{i n:Nat}(h:i<n):decide ((i:Int)<(n:Int))=true:=by simp only[ab6];omega
theorem AP{i n:Nat}(h:n<=i):decide ((i:Int)<(n:Int))=false:=by simp only[decide_eq_false_iff_not];omega
theorem dT{p:Prop}[Decidable p](h:p):decide p=true:=decide_eq_true h
theorem dF{p:Prop}[Decidable p](h:¬ p):decide p=false:=decide_eq_false h
theorem jK{a b:Int}(h:a≠b):(a != b)=true:=by simpa using h
theorem kZ{a b:Int}(h:a=b):(a != b)=false:=by simp[h]
theorem jL{a b:Int}(h:a=b):(a==b)=true:=by simp[h]
theorem eT{a b:Int}(h:a≠b):(a==b)=false:=by simpa using h
theorem mb:av=140737488355328:=rfl
theorem ayG{w:World}{ro:Nat->Nat->Prop}{u:Value}{x:anY}(h:dU E w ro u (.str x)):u=encStr x:=by cases h;rfl
theorem aiM{w:World}{ro:Nat->Nat->Prop}{xs:List Value}{l:List (anY)}(hl:xs.length=l.length)(h:ng E w ro .str xs l):xs=l.map encStr:=by
 apply List.ext_getElem?;intro i;by_cases hi:i<l.length
 ·obtain⟨u,hu,hd⟩:=h i l[i] 0 (.str l[i]) (aaO hi) rfl;have hu:xs[i*1+0]? = some u:=hu;rw[afK,afS]at hu;rw[hu,ayG hd];simp[hi]
 ·rw[List.getElem?_eq_none (by omega),List.getElem?_eq_none (by simp;omega)]
theorem Im{w:World}{ro:Nat->Nat->Prop}(l:List (anY)):ng E w ro .str (l.map encStr) l:=by
 intro i x j c hx hc;have hc:([.str x]:List (bQ E.Den))[j]? = some c:=hc;cases j with
 | zero =>simp at hc;subst hc;refine⟨encStr x,?_,.str x⟩;show(l.map encStr)[i*1+0]? = some (encStr x);rw[afK,afS,acj,show l[i]? = some x from hx];rfl
 | succ j=>simp at hc
def zo(l:List (anY)):Bool:=decide (l.length<=1000000)
noncomputable def asq:Yi E:=apL (E:=E) .str false zo Pl.wH
def aiN:FuncId:=88
theorem avt:∃fn,Tryz.prog.funcs[aiN]? = some fn/\(fn.name == "runtime.NumGoroutine")=false/\fn.body.isNone=false:=⟨Tryz.f88,by kernel_rfl,by kernel_rfl,by kernel_rfl⟩
noncomputable def ae7:Yi E:=apL (E:=E) .str true zo Lib.compact
def Yp:FuncId:=89
theorem alJ:∃fn,Tryz.prog.funcs[Yp]? = some fn/\(fn.name == "runtime.NumGoroutine")=false/\fn.body.isNone=false:=⟨Tryz.f89,by kernel_rfl,by kernel_rfl,by kernel_rfl⟩
theorem ae8:Pl.wH []=[]:=by simp[Pl.wH]
theorem avu:ahh E aiN asq:=by
 refine⟨avt,fun t l rest back l' h=>?_⟩;obtain⟨l,e1,hr,hb,hok,e2⟩:=aiC h;cases e1;cases e2;subst hr;subst hb;have hok:zo l=true:=hok;simp only[zo,ab6]at hok;intro w ro gh xs vals hn hge hgs hown hrow iF hargs kR
 match vals,hargs with
 | [],_ =>
 have hlen:(Pl.wH l).length=l.length:=Pl.UZ l;rcases hown with⟨hown,hblk⟩ | ⟨h0,hxs,hblk,ad,hv⟩
 ·have hx1:xs.length=l.length:=by rw[hown.1,hgs,hn];show l.length*1=_;omega
  have hxs:=aiM hx1 hrow;rcases hown.2 with⟨hnil,hn0⟩ | ⟨g,cap,cur,hgv,hbase,hb,h1,h2,h3,h4⟩
  ·have hl0:l=[]:=aeP (by omega);subst hl0;rw[hnil,ae8];refine(Tryz.slices_Sort_string_none none 0 w).mono fun e w' he=>?_
   obtain⟨rfl,rfl⟩:=he;refine⟨_,gh,[],rfl,⟨rfl,rfl,rfl,ab8 _,fun _ _ _=>rfl⟩,hn,hge,hgs,.inl ⟨?_,hblk⟩,Im [],fun g hg=>.inl hg,(fun h=>by cases h),fun _=>rfl⟩;rw[hnil,hn0];exact World.ownsRow_nil _ 0 _ _
  ·rw[hgv,hn];rw[hge]at hb;have hsz:gh.sz=1:=hgs;rw[hsz,afK]at h3;rw[hsz,afK,hn,hxs]at h4;refine(Tryz.slices_Sort_string g 0 cap l w (holds_of_block hb h4) (Array.getElem?_eq_some_iff.1 hb).1 (by omega)).mono fun e w' he=>?_
   obtain⟨rfl,n,os,rfl⟩:=he;have hg2:gh.blk=some g:=by rw[hblk,hgv];rfl
   refine⟨_,gh,(Pl.wH l).map encStr,rfl,by rw[hg2];exact grownBy_sorted _,by rw[hlen];exact hn,hge,hgs,.inl ⟨?_,hblk⟩,Im _,fun g hg=>.inl hg,(fun h=>by cases h),fun _=>rfl⟩;rw[hgv,hn,hge,hsz];exact ownsRow_sorted (ts:=Pl.wH l) hlen (aa4 _) hb (by omega) h2 (by rw[h3,afK])
 ·have hl0:l=[]:=aeP (by omega);subst hl0;rw[hv,ae8];refine(Tryz.slices_Sort_string_none ad 0 w).mono fun e w' he=>?_
  obtain⟨rfl,rfl⟩:=he;exact⟨_,gh,[],rfl,⟨rfl,rfl,rfl,ab8 _,fun _ _ _=>rfl⟩,hn,hge,hgs,.inr ⟨h0,rfl,hblk,ad,hv⟩,Im [],fun g hg=>.inl hg,(fun h=>by cases h),fun _=>rfl⟩
theorem ada{w:World}{base g cap n m:Nat}{e:TypeId}{xs:List Value}(h:w.ownsRow base e 1 (.slice (some ⟨g,0,none⟩) n cap) n xs)(hm:m<=n):w.ownsRow base e 1 (.slice (some ⟨g,0,none⟩) m cap) m (xs.take m):=by
 obtain⟨h1,h2⟩:=h;refine⟨by rw[acu];omega,.inr ?_⟩;rcases h2 with⟨h2,_⟩ | ⟨g',cap',cur,h2,h3,h4,h5,h6,h7,h8⟩
 ·cases h2
 ·cases h2;exact⟨g,cap,cur,rfl,h3,h4,by omega,h6,h7,by rw[<- h8,List.take_take,afK,afK,Nat.min_eq_left hm]⟩
theorem alK:ahh E Yp ae7:=by
 refine⟨alJ,fun t l rest back l' h=>?_⟩;obtain⟨l,e1,hr,hb,hok,e2⟩:=aiC h;cases e1;cases e2;subst hr;subst hb;have hok:zo l=true:=hok;simp only[zo,ab6]at hok;intro w ro gh xs vals hn hge hgs hown hrow iF hargs kR
 match vals,hargs with
 | [],_ =>
 have hlen:=Pl.Yo l;rcases hown with⟨hown,hblk⟩ | ⟨h0,hxs,hblk,ad,hv⟩
 ·have hx1:xs.length=l.length:=by rw[hown.1,hgs,hn];show l.length*1=_;omega
  have hxs:=aiM hx1 hrow;rcases hown.2 with⟨hnil,hn0⟩ | ⟨g,cap,cur,hgv,hbase,hb,h1,h2,h3,h4⟩
  ·have hl0:l=[]:=aeP (by omega);subst hl0;rw[hnil];refine(Tryz.slices_Compact_string_empty none 0 w).mono fun e w' he=>?_
   obtain⟨rfl,rfl⟩:=he;refine⟨_,gh,[],rfl,⟨rfl,rfl,rfl,ab8 _,fun _ _ _=>rfl⟩,hn,hge,hgs,.inl ⟨?_,hblk⟩,Im [],fun g hg=>.inl hg,(fun _=>hnil.symm),(fun h=>by cases h)⟩;rw[hnil,hn0];exact World.ownsRow_nil _ 0 _ _
  ·rw[hgv,hn];rw[hge]at hb;have hsz:gh.sz=1:=hgs;rw[hsz,afK]at h3;rw[hsz,afK,hn,hxs]at h4;have hcap:l.length<=cap:=by omega
   refine(Tryz.slices_Compact_string g 0 cap l w (holds_of_block hb h4) (by omega) hcap).mono fun e w' he=>?_
   obtain⟨rfl,q,rfl⟩:=he;have hg2:gh.blk=some g:=by rw[hblk,hgv];rfl
   have hts:(Lib.compact l++List.replicate (l.length-(Lib.compact l).length) []).length=l.length:=by simp;omega
   have hown':=ownsRow_sorted (n:=q) (os:=#[]) (ts:=Lib.compact l++List.replicate (l.length-(Lib.compact l).length) []) hts (aa4 g) hb hcap h2 (by rw[h3,afK]);rw[Sort.grow_empty]at hown';have hgb:=grownBy_sorted (w:=w) (g:=g) (n:=q) (os:=#[]) (Lib.compact l++List.replicate (l.length-(Lib.compact l).length) []).toArray;rw[Sort.grow_empty]at hgb;have hp:=ada hown' hlen;rw[List.map_append,List.take_left' (by simp)]at hp;exact⟨_,⟨.slice (some ⟨g,0,none⟩) (Lib.compact l).length cap,(Lib.compact l).length,E.tid .str,E.size .str,some g⟩,(Lib.compact l).map encStr,rfl,by rw[hg2];exact hgb,rfl,rfl,rfl,.inl ⟨hp,rfl⟩,Im _,
    (fun g' hg'=>.inl (by rw[hg2];exact hg')),(fun _=>rfl),(fun h=>by cases h)⟩
 ·have hl0:l=[]:=aeP (by omega);subst hl0;rw[hv];refine(Tryz.slices_Compact_string_empty ad 0 w).mono fun e w' he=>?_
  obtain⟨rfl,rfl⟩:=he;exact⟨_,gh,[],rfl,⟨rfl,rfl,rfl,ab8 _,fun _ _ _=>rfl⟩,hn,hge,hgs,.inr ⟨h0,rfl,hblk,ad,hv⟩,Im [],fun g hg=>.inl hg,(fun _=>hv.symm),(fun h=>by cases h)⟩
theorem anl(C:Array Value)(n:Nat)(h:C.size=1):(Builtin.zeroCells C n).size=n:=by simp[Builtin.zeroCells,h]
set_option maxRecDepth 100000 in
theorem avv:abd E 90 .str:=by
 refine⟨⟨Tryz.f90,by kernel_rfl,by kernel_rfl,by kernel_rfl⟩,fun w n h0 hb=>?_⟩;have hb:n*16<=140737488355328:=hb;by_cases hz:n=0
 ·subst hz
  go_enter Tryz.func90,Tryz.ntmps90
  go_wp2
  go_ret
  exact⟨⟨.slice none 0 0,0,E.tid .str,E.size .str,none⟩,rfl,Below.refl _ _,rfl,rfl,rfl,.inl ⟨World.ownsRow_nil w 0 _ _,rfl⟩,fun g hg=>by cases hg⟩
 ·obtain⟨k,rfl⟩:∃k:Nat,n=k:=⟨n.toNat,by omega⟩
  obtain⟨i,z,hi,his,hib,hzz,hzs⟩:=E.BI .str;have h:=Lib.run_append_nil_zeros (P:=Tryz.prog) w 25 3 25 9 i z .i64 .i64 Tryz.underlying25 Tryz.underlying3 hi hzz k (by omega) (by rw[his];exact E.size_pos _) (by omega) (by rw[hib];show k*16<=_;omega);generalize z.cells=C at h hzs;have hC:C.size=1:=hzs;have hcap:=grownCap_ge w k 0 9
  go_enter Tryz.func90,Tryz.ntmps90
  go_wp2_with (at_builtin;refine Lib.wpList_append_run _ rfl _ _ _ _ rfl _ _ rfl rfl _ _ h ?_)
  go_ret
  refine⟨⟨.slice (some ⟨w.heap.size,0,none⟩) 0 (grownCap w k 0 9),0,E.tid .str,E.size .str,some w.heap.size⟩,rfl,((Below.refl _ _).alloc (ab8 _) _).drew,rfl,rfl,rfl,.inl ⟨?_,rfl⟩,fun g hg=>by cases hg;exact ab8 _⟩;refine World.ownsRow.drew (World.ownsRow_made w _ _ (aa4 _) ?_ ?_)
  ·exact grownCap_le_maxLen w k 0 9 (by unfold maxLen;omega)
  ·rw[Array.size_append,anl C k hC,anl C _ hC];show _=grownCap w k 0 9*1;omega
def mU{α:Type}(l:List α):Bool:=decide (l.length<=1000000)
theorem pF{α:Type}{l:List α}:mU l=true↔l.length<=1000000:=by simp[mU]
def AQ(s:anY):Nat->List (anY)->Int
 | _,[]=>-1
 | i,a::t=>if s=a then i else AQ s (i+1) t
def index(l:List (anY))(s:anY):Int:=AQ s 0 l
noncomputable def adb:iU E:=Cv (E:=E) .bH .str .int (fun l _=>mU l) index
def aiO:FuncId:=105
noncomputable def anm:Hint E:={ live:=[(0,[0,1,7,8])] }
noncomputable def Rq(v0:List (anY))(v1:anY)(v2 v3:Int):aI E:=aI.mk 19 [(0,.d (.slice .str v0)),(1,.d (.str v1)),(7,.d (.int .i64 v2)),(8,.d (.int .i64 v3))] [] 0
noncomputable def ano(G:gY E)(x0:List (anY))(x1:anY):Option (List (TV E)) :=
 G 0 (Rq x0 x1 (x0.length:Int) 0)
noncomputable def Rt(G:gY E)(v0:List (anY))(v1:anY)(v2 v3:Int):Option (List (TV E)) :=
 bif(decide (v3<v2))then(bif(decide ((0:Int)<=v3)&&decide (v3<(v0.length:Int)))then(bif(v1==(List.getD v0 (Int.toNat v3) (dflt .str)))then some [⟨.int,v3⟩]else G 0 (Rq v0 v1 v2 (au (v3+(1:Int)))))else none)else some [⟨.int,(-1:Int)⟩]
theorem aiP:aJ E (iV [] [] [] []):=eU .nil .nil .nil .nil
theorem aiQ{res:List (TV E)}{v0:List (anY)}{v1:anY}{v2 v3:Int}(h:Rt (Gr E Tryz.f105 res) v0 v1 v2 v3=some res):Ev E Tryz.f105 res 0 (Rq v0 v1 v2 v3):=Ev.of (H:=anm) aiP mix (t:=fun G=>Rt G v0 v1 v2 v3) (fun G=>by kernel_rfl) h
theorem alL(h:∀(x0:List (anY)) (x1:anY),(fun l _=>mU l) x0 x1=true->ano (Gr E Tryz.f105 [⟨.int,index x0 x1⟩]) x0 x1=some [⟨.int,index x0 x1⟩]):aV E aiO adb:=zl aiP mix Tryz.func105 (by kernel_rfl) (by kernel_rfl) (fun x0 x1 hk=>fT (H:=anm) (t:=fun G=>ano G x0 x1) (fun G=>by kernel_rfl) (h x0 x1 hk))
theorem apZ(l:List (anY))(s:anY)(hl:l.length<=1000000):∀(m i:Nat),l.length-i=m->i<=l.length->Ev E Tryz.f105 [⟨.int,AQ s i (l.drop i)⟩] 0 (Rq l s l.length i):=by
 intro m
 induction m with
 | zero =>intro i h1 h2;refine aiQ ?_;simp only[Rt,AP (show l.length<=i by omega),cond_false,abb (show l.length<=i by omega)];rfl
 | succ m ih =>
  intro i h1 h2;have hi:i<l.length:=by omega
  refine aiQ ?_;simp only[Rt,tL hi,d0,gd l _ i hi,acf,cond_true];rw[<- abJ hi];unfold AQ;by_cases hs:s=l[i]
  ·rw[if_pos hs,show(s==l[i])=true from by simpa using hs];rfl
  ·rw[if_neg hs,show(s==l[i])=false from by simpa using hs,cond_false,aT (by omega) (by omega)];exact dZ (ih (i+1) (by omega) (by omega))
theorem avw:aV E aiO adb:=alL fun l s hk=>by have:=apZ l s (pF.1 hk) l.length 0 (by omega) (by omega);rw[acC]at this;exact dZ this
def equal(a b:List (anY)):Bool:=a==b
noncomputable def ade:iU E:=Cv (E:=E) .bH .bH .bool (fun a _=>mU a) equal
def aiR:FuncId:=91
noncomputable def anp:Hint E:={ live:=[(0,[0,1,12,13])] }
noncomputable def Ru(v0 v1:List (anY))(v2 v3:Int):aI E:=aI.mk 26 [(0,.d (.slice .str v0)),(1,.d (.slice .str v1)),(12,.d (.int .i64 v2)),(13,.d (.int .i64 v3))] [] 0
noncomputable def adf(G:gY E)(x0 x1:List (anY)):Option (List (TV E)) :=
 bif((x0.length:Int)!=(x1.length:Int))then some [⟨.bool,false⟩]else G 0 (Ru x0 x1 (x0.length:Int) 0)
noncomputable def Rv(G:gY E)(v0 v1:List (anY))(v2 v3:Int):Option (List (TV E)) :=
 bif(decide (v3<v2))then(bif(decide ((0:Int)<=v3)&&decide (v3<(v0.length:Int)))then(bif(decide ((0:Int)<=v3)&&decide (v3<(v1.length:Int)))then(bif(!((List.getD v0 (Int.toNat v3) (dflt .str))==(List.getD v1 (Int.toNat v3) (dflt .str))))then some [⟨.bool,false⟩]else G 0 (Ru v0 v1 v2 (au (v3+(1:Int)))))else none)else none)else some [⟨.bool,true⟩]
theorem aiS:aJ E (iV [] [] [] []):=eU .nil .nil .nil .nil
theorem aiT{res:List (TV E)}{v0 v1:List (anY)}{v2 v3:Int}(h:Rv (Gr E Tryz.f91 res) v0 v1 v2 v3=some res):Ev E Tryz.f91 res 0 (Ru v0 v1 v2 v3):=Ev.of (H:=anp) aiS mix (t:=fun G=>Rv G v0 v1 v2 v3) (fun G=>by kernel_rfl) h
theorem alM(h:∀(x0:List (anY)) (x1:List (anY)),(fun a _=>mU a) x0 x1=true->adf (Gr E Tryz.f91 [⟨.bool,equal x0 x1⟩]) x0 x1=some [⟨.bool,equal x0 x1⟩]):aV E aiR ade:=zl aiS mix Tryz.func91 (by kernel_rfl) (by kernel_rfl) (fun x0 x1 hk=>fT (H:=anp) (t:=fun G=>adf G x0 x1) (fun G=>by kernel_rfl) (h x0 x1 hk))
theorem ap0(a b:List (anY))(ha:a.length<=1000000)(hab:a.length=b.length):∀(m i:Nat),a.length-i=m->i<=a.length->Ev E Tryz.f91 [⟨.bool,a.drop i==b.drop i⟩] 0 (Ru a b a.length i):=by
 intro m
 induction m with
 | zero =>intro i h1 h2;refine aiT ?_;simp only[Rv,AP (show a.length<=i by omega),cond_false,abb (show a.length<=i by omega),abb (show b.length<=i by omega)];rfl
 | succ m ih =>
  intro i h1 h2;have hi:i<a.length:=by omega
  have hj:i<b.length:=by omega
  refine aiT ?_;simp only[Rv,tL hi,tL hj,d0,gd a _ i hi,gd b _ i hj,acf,cond_true];rw[<- abJ hi,<- abJ hj,aT (by omega) (by omega)];by_cases hs:a[i]=b[i]
  ·have e:(a[i]::a.drop (i+1)==b[i]::b.drop (i+1))=(a.drop (i+1)==b.drop (i+1)):=by rw[List.cons_beq_cons];simp[hs]
   rw[e,show(a[i]==b[i])=true from by simpa using hs];exact dZ (ih (i+1) (by omega) (by omega))
  ·have e:(a[i]::a.drop (i+1)==b[i]::b.drop (i+1))=false:=by rw[List.cons_beq_cons];simp[hs]
   rw[e,show(a[i]==b[i])=false from by simpa using hs];rfl
theorem avx:aV E aiR ade:=alM fun a b hk=>by
 simp only[adf];by_cases h:a.length=b.length
 ·rw[kZ (by omega),cond_false];have:=ap0 a b (pF.1 hk) h a.length 0 (by omega) (by omega);rw[acC,acC]at this;exact dZ this
 ·rw[jK (by omega),cond_true];have:equal a b=false:=by simp only[equal,afB];exact fun e=>h (by rw[e])
  rw[this]
def lens(l:List (List (anY))):Nat:=(l.map List.length).sum
def Xq(l:List (List (anY))):Bool:=decide (l.length<=1000000)&&decide (lens l<=1000000)
noncomputable def Zu:iU E:=Ga (E:=E) .zN .bH Xq List.flatten
def ae9:FuncId:=59
noncomputable def Zv:Hint E:={ live:=[(0,[0,3,9,10,11]),(1,[6,25,26,27])] }
noncomputable def NK(v0:List (List (anY)))(v1:Int)(v2:List (List (anY)))(v3 v4:Int):aI E:=aI.mk 36 [(0,.d (.slice .bH v0)),(3,.d (.int .i64 v1)),(9,.d (.slice .bH v2)),(10,.d (.int .i64 v3)),(11,.d (.int .i64 v4))] [] 0
noncomputable def NM(v0:Nat)(v1:List (List (anY)))(v2 v3:Int)(v4:List (anY)):aI E:=aI.mk 36 [(6,.row .str v0 0),(25,.d (.slice .bH v1)),(26,.d (.int .i64 v2)),(27,.d (.int .i64 v3))] [(0,.row .str v4)] 1
noncomputable def aiU(G:gY E)(x0:List (List (anY))):Option (List (TV E)) :=
 G 0 (NK x0 0 x0 (x0.length:Int) 0)
noncomputable def NP(G:gY E)(v0:List (List (anY)))(v1:Int)(v2:List (List (anY)))(v3 v4:Int):Option (List (TV E)) :=
 bif(decide (v4<v3))then(bif(decide ((0:Int)<=v4)&&decide (v4<(v2.length:Int)))then(bif(decide ((au (v1+((List.getD v2 (Int.toNat v4) (dflt .bH)).length:Int)))<(0:Int)))then none else G 0 (NK v0 (au (v1+((List.getD v2 (Int.toNat v4) (dflt .bH)).length:Int))) v2 v3 (au (v4+(1:Int)))))else none)else(bif(decide ((0:Int)<=v1)&&decide (v1*(16:Int)<=140737488355328))then G 1 (NM 0 v0 (v0.length:Int) 0 [])else none)
noncomputable def NQ(G:gY E)(_v0:Nat)(v1:List (List (anY)))(v2 v3:Int)(v4:List (anY)):Option (List (TV E)) :=
 bif(decide (v3<v2))then(bif(decide ((0:Int)<=v3)&&decide (v3<(v1.length:Int)))then(bif(decide ((v4.length+(List.getD v1 (Int.toNat v3) (dflt .bH)).length)*16<=av))then G 1 (NM (v4.length+(List.getD v1 (Int.toNat v3) (dflt .bH)).length) v1 v2 (au (v3+(1:Int))) (v4++(List.getD v1 (Int.toNat v3) (dflt .bH))))else none)else none)else some [⟨.bH,v4⟩]
theorem U1:aJ E (iV [] [] [] [(90,.str)]):=eU .nil .nil .nil (.cons avv .nil)
theorem afa{res:List (TV E)}{v0:List (List (anY))}{v1:Int}{v2:List (List (anY))}{v3 v4:Int}(h:NP (Gr E Tryz.f59 res) v0 v1 v2 v3 v4=some res):Ev E Tryz.f59 res 0 (NK v0 v1 v2 v3 v4):=Ev.of (H:=Zv) U1 mix (t:=fun G=>NP G v0 v1 v2 v3 v4) (fun G=>by kernel_rfl) h
theorem afb{res:List (TV E)}{v0:Nat}{v1:List (List (anY))}{v2 v3:Int}{v4:List (anY)}(h:NQ (Gr E Tryz.f59 res) v0 v1 v2 v3 v4=some res):Ev E Tryz.f59 res 1 (NM v0 v1 v2 v3 v4):=Ev.of (H:=Zv) U1 mix (t:=fun G=>NQ G v0 v1 v2 v3 v4) (fun G=>by kernel_rfl) h
theorem aiV(h:∀(x0:List (List (anY))),Xq x0=true->aiU (Gr E Tryz.f59 [⟨.bH,List.flatten x0⟩]) x0=some [⟨.bH,List.flatten x0⟩]):aV E ae9 Zu:=zk U1 mix Tryz.func59 (by kernel_rfl) (by kernel_rfl) (fun x0 hk=>fT (H:=Zv) (t:=fun G=>aiU G x0) (fun G=>by kernel_rfl) (h x0 hk))
theorem afc(l:List (List (anY)))(i:Nat)(hi:i<l.length):lens (l.take (i+1))=lens (l.take i)+l[i].length:=by unfold lens;rw[<- List.take_append_getElem hi,List.map_append,List.sum_append];rfl
theorem anq(l:List (List (anY))):∀i,lens (l.take i)<=lens l:=by
 intro i;have:lens l=lens (l.take i)+lens (l.drop i):=by unfold lens;rw[<- List.sum_append,<- List.map_append,afO]
 omega
theorem avy(l:List (List (anY)))(hl:l.length<=1000000)(hs:lens l<=1000000):∀(m i v0:Nat) (out:List (anY)),l.length-i=m->i<=l.length->out.length=lens (l.take i)->v0=out.length ->
  Ev E Tryz.f59 [⟨.bH,out++(l.drop i).flatten⟩] 1 (NM v0 l l.length i out):=by
 intro m
 induction m with
 | zero =>intro i v0 out h1 h2 h3 h4;refine afb ?_;simp only[NQ,AP (show l.length<=i by omega),cond_false,abb (show l.length<=i by omega),List.flatten_nil,acg]
 | succ m ih =>
  intro i v0 out h1 h2 h3 h4;have hi:i<l.length:=by omega
  have h5:=afc l i hi;have h6:=anq l (i+1);refine afb ?_;simp only[NQ,tL hi,d0,gd l _ i hi,acf,cond_true];rw[dT (show(out.length+l[i].length)*16<=av by rw[mb];omega),cond_true,aT (by omega) (by omega),<- abJ hi,List.flatten_cons,<- ab9];exact dZ (ih (i+1) _ (out++l[i]) (by omega) (by omega) (by rw[List.length_append];omega) (by rw[List.length_append]))
theorem avz(l:List (List (anY)))(hl:l.length<=1000000)(hs:lens l<=1000000):∀(m i:Nat),l.length-i=m->i<=l.length ->
  Ev E Tryz.f59 [⟨.bH,l.flatten⟩] 0 (NK l (lens (l.take i)) l l.length i):=by
 intro m
 induction m with
 | zero =>intro i h1 h2;have e:l.take i=l:=aeV (by omega);refine afa ?_;simp only[NP,AP (show l.length<=i by omega),cond_false,e,d0];rw[dT (show(lens l:Int)*16<=140737488355328 by omega),acf,cond_true];have:=avy l hl hs l.length 0 0 [] (by omega) (by omega) (by simp[lens]) rfl;rw[acC,afn]at this;exact dZ this
 | succ m ih =>
  intro i h1 h2;have hi:i<l.length:=by omega
  have h5:=afc l i hi;have h6:=anq l (i+1);refine afa ?_;simp only[NP,tL hi,d0,gd l _ i hi,acf,cond_true];rw[aT (n:=(lens (l.take i):Int)+(l[i].length:Int)) (by omega) (by omega),dF (by omega),cond_false,aT (by omega) (by omega),show(lens (l.take i):Int)+(l[i].length:Int)=(lens (l.take (i+1)):Nat)from by omega];exact dZ (ih (i+1) (by omega) (by omega))
theorem asr:aV E ae9 Zu:=aiV fun l hk=>by simp only[Xq,abK,ab6]at hk;exact dZ (avz l hk.1 hk.2 l.length 0 (by omega) (by omega))
noncomputable def JN:iU E:=Ga (E:=E) .bH .bH mU Pl.bn
def abr:FuncId:=58
noncomputable def U2(_G:gY E)(x0:List (anY)):Option (List (TV E)) :=
 bif(decide ((([]:List (anY)).length+x0.length)*16<=av))then(bif(zo (([]:List (anY))++x0))then(bif(zo (Pl.wH (([]:List (anY))++x0)))then some [⟨.bH,(Lib.compact (Pl.wH (([]:List (anY))++x0)))⟩]else none)else none)else none
theorem ap1:aJ E (iV [] [] [(89,ae7),(88,asq)] []):=eU .nil .nil (.cons alK (.cons avu .nil)) .nil
theorem agf(h:∀(x0:List (anY)),mU x0=true->U2 (Gr E Tryz.f58 [⟨.bH,Pl.bn x0⟩]) x0=some [⟨.bH,Pl.bn x0⟩]):aV E abr JN:=zk ap1 mix Tryz.func58 (by kernel_rfl) (by kernel_rfl) (fun x0 hk=>fT (H:={}) (t:=fun G=>U2 G x0) (fun G=>by kernel_rfl) (h x0 hk))
theorem Rw:aV E abr JN:=agf fun l hk=>by
 have hl:=pF.1 hk;have h1:zo (([]:List (anY))++l)=true:=by simpa[zo]using hl
 have h2:zo (Pl.wH (([]:List (anY))++l))=true:=by simp only[zo,ab6,Pl.UZ];simpa using hl
 simp only[U2,h1,h2,cond_true];rw[dT (show(([]:List (anY)).length+l.length)*16<=av by rw[mb,List.length_nil];omega)];rfl
def both(a b:List (anY)):List (anY):=Pl.bn (a++b)
def Tf(a b:List (anY)):Bool:=decide (a.length+b.length<=100000)
noncomputable def adg:iU E:=Cv (E:=E) .bH .bH .bH Tf both
def aiW:FuncId:=33
noncomputable def adh(_G:gY E)(x0 x1:List (anY)):Option (List (TV E)) :=
 bif(Xq ([x0,x1]:List (List (anY))))then(bif(mU (List.flatten ([x0,x1]:List (List (anY)))))then some [⟨.bH,(Pl.bn (List.flatten ([x0,x1]:List (List (anY)))))⟩]else none)else none
theorem avB:aJ E (iV [(58,JN),(59,Zu)] [] [] []):=eU (.cons Rw (.cons asr .nil)) .nil .nil .nil
theorem alN(h:∀(x0:List (anY)) (x1:List (anY)),Tf x0 x1=true->adh (Gr E Tryz.f33 [⟨.bH,both x0 x1⟩]) x0 x1=some [⟨.bH,both x0 x1⟩]):aV E aiW adg:=zl avB mix Tryz.func33 (by kernel_rfl) (by kernel_rfl) (fun x0 x1 hk=>fT (H:={}) (t:=fun G=>adh G x0 x1) (fun G=>by kernel_rfl) (h x0 x1 hk))
theorem avC:aV E aiW adg:=alN fun a b hk=>by
 simp only[Tf,ab6]at hk;have e:List.flatten [a,b]=a++b:=by simp
 have h1:Xq [a,b]=true:=by simp only[Xq,lens,abK,ab6];simp;omega
 have h2:mU (a++b)=true:=by rw[pF,List.length_append];omega
 simp only[adh,h1,e,h2,cond_true];rfl
noncomputable def ap2:iU E:=Cv (E:=E) .bH .str .int (fun l _=>mU l) index
def asu:FuncId:=86
noncomputable def ap3(_G:gY E)(x0:List (anY))(x1:anY):Option (List (TV E)) :=
 bif((fun l _=>mU l) x0 x1)then some [⟨.int,(index x0 x1)⟩]else none
theorem aAu:aJ E (iV [(105,adb)] [] [] []):=eU (.cons avw .nil) .nil .nil .nil
theorem asv(h:∀(x0:List (anY)) (x1:anY),(fun l _=>mU l) x0 x1=true->ap3 (Gr E Tryz.f86 [⟨.int,index x0 x1⟩]) x0 x1=some [⟨.int,index x0 x1⟩]):aV E asu ap2:=zl aAu mix Tryz.func86 (by kernel_rfl) (by kernel_rfl) (fun x0 x1 hk=>fT (H:={}) (t:=fun G=>ap3 G x0 x1) (fun G=>by kernel_rfl) (h x0 x1 hk))
theorem aAv:aV E asu ap2:=asv fun l s hk=>by simp only[ap3,hk,cond_true]
theorem LX{w:World}{ro:Nat->Nat->Prop}{v:Value}{s:anY}(h:vI E w ro v Ty.str s):v = .string ⟨s.toArray⟩:=by
 rcases h with⟨ha,_⟩ | ⟨_,d,hd,hr⟩
 ·cases ha
 ·have hd:([.str s]:List (bQ E.Den))=[d]:=hd;injection hd with hd _
  subst hd;cases hr;rfl
theorem aiX{w:World}{ro:Nat->Nat->Prop}{v:Value}{n:Int}(h:vI E w ro v Ty.int n):v = .int .i64 n:=by
 rcases h with⟨ha,_⟩ | ⟨_,d,hd,hr⟩
 ·cases ha
 ·have hd:([.int .i64 n]:List (bQ E.Den))=[d]:=hd;injection hd with hd _
  subst hd;cases hr;rfl
theorem Xr {f:FuncId} {a b t:E.Ty} {ok:E.Den a->E.Den b->Bool} {F:E.Den a->E.Den b->E.Den t} (ex:∃fn,Tryz.prog.funcs[f]? = some fn/\(fn.name == "runtime.NumGoroutine")=false/\fn.body.isNone=false) (h:∀x y,ok x y=true->EU E f [⟨a,x⟩,⟨b,y⟩] [⟨t,F x y⟩]):aV E f (Cv a b t ok F) :=
 ⟨ex,fun args r hr=>by
  unfold Cv at hr;split at hr
  ·split at hr
   ·rename_i x hx;split at hr
    ·rename_i y hy;injection hr with hr
     injection hr with h1 h2
     subst h2;rw[iI hx,iI hy];exact h _ _ h1
    ·cases hr
   ·cases hr
  ·cases hr⟩
def vJ(s p:anY):Bool:=decide (s.length<=1000000)&&decide (p.length=1)
def qA(s p:anY):Int:=Lib.indexByte s (p.headD 0)
noncomputable def Rx:iU E:=Cv (E:=E) .str .str .int vJ qA
def asw:FuncId:=240
theorem U3:aV E asw Rx:=Xr ⟨Tryz.f240,by kernel_rfl,by kernel_rfl,by kernel_rfl⟩ fun s p hk=>by
 simp only[vJ,abK,ab6]at hk;obtain⟨c,rfl⟩:∃c,p=[c]:=by
  match p,hk.2 with
  | [c],_=>exact⟨c,rfl⟩
 intro w ro vals hargs kR
 match vals,hargs with
 | [u,v],⟨h1,h2,_⟩ =>
  have e1:u = .string ⟨s.toArray⟩:=by
   rcases h1 with⟨ha,_⟩ | ⟨_,d,hd,hr⟩
   ·cases ha
   ·have hd:([.str s]:List (bQ E.Den))=[d]:=hd;injection hd with hd _
    subst hd;cases hr;rfl
  have e2:v = .string ⟨[c].toArray⟩:=by
   rcases h2 with⟨ha,_⟩ | ⟨_,d,hd,hr⟩
   ·cases ha
   ·have hd:([.str [c]]:List (bQ E.Den))=[d]:=hd;injection hd with hd _
    subst hd;cases hr;rfl
  subst e1;subst e2;refine(Tryz.stringslite_Index_one ⟨s.toArray⟩ c w).mono fun e w' he=>?_
  obtain⟨he,rfl⟩:=he;refine⟨_,he,Below.refl _ _,.inr ⟨rfl,.int .i64 (qA s [c]),rfl,?_⟩⟩;exact .int .i64 (Lib.indexByte s c)
theorem ahk(s:anY)(c:UInt8):Lib.indexByte s c<0\/∃i:Nat,Lib.indexByte s c=i/\i<s.length:=by
 induction s with
 | nil=>exact .inl (show(-1:Int)<0 by decide)
 | cons a t ih =>
  unfold Lib.indexByte;split
  ·exact .inr ⟨0,rfl,by simp⟩
  ·rcases ih with h | ⟨i,h1,h2⟩
   ·grind
   ·right;split
    ·grind
    ·exact⟨i+1,by rw[h1];omega,by simp;omega⟩
def mI(s p:anY):anY:=bif decide (0<=qA s p)then s.take (qA s p).toNat else s
def qB(s p:anY):anY:=bif decide (0<=qA s p)then s.drop ((qA s p).toNat+1)else[]
def AU(s p:anY):Bool:=decide (0<=qA s p)
noncomputable def aiY:iU E:=apP (E:=E) .str .str .str .str .bool vJ mI qB AU
def anr:FuncId:=211
noncomputable def aiZ(_G:gY E)(x0 x1:anY):Option (List (TV E)) :=
 bif(vJ x0 x1)then(bif(decide ((0:Int)<=(qA x0 x1)))then(bif(decide ((0:Int)<=(0:Int))&&decide ((0:Int)<=(qA x0 x1))&&decide ((qA x0 x1)<=(x0.length:Int)))then(bif(decide ((0:Int)<=(au ((qA x0 x1)+(x1.length:Int))))&&decide ((au ((qA x0 x1)+(x1.length:Int)))<=(x0.length:Int))&&decide ((x0.length:Int)<=(x0.length:Int)))then some [⟨.str,(List.take (Int.toNat (qA x0 x1)-Int.toNat 0) (List.drop (Int.toNat 0) x0))⟩,⟨.str,(List.take (Int.toNat (x0.length:Int)-Int.toNat (au ((qA x0 x1)+(x1.length:Int)))) (List.drop (Int.toNat (au ((qA x0 x1)+(x1.length:Int)))) x0))⟩,⟨.bool,true⟩]else none)else none)else some [⟨.str,x0⟩,⟨.str,([]:anY)⟩,⟨.bool,false⟩])else none
theorem ayH:aJ E (iV [(240,Rx)] [] [] []):=eU (.cons U3 .nil) .nil .nil .nil
theorem ap4(h:∀(x0:anY) (x1:anY),vJ x0 x1=true->aiZ (Gr E Tryz.f211 [⟨.str,mI x0 x1⟩,⟨.str,qB x0 x1⟩,⟨.bool,AU x0 x1⟩]) x0 x1=some [⟨.str,mI x0 x1⟩,⟨.str,qB x0 x1⟩,⟨.bool,AU x0 x1⟩]):aV E anr aiY:=ane ayH mix Tryz.func211 (by kernel_rfl) (by kernel_rfl) (fun x0 x1 hk=>fT (H:={}) (t:=fun G=>aiZ G x0 x1) (fun G=>by kernel_rfl) (h x0 x1 hk))
theorem ayI:aV E anr aiY:=ap4 fun s p hk=>by
 have hk':=hk;simp only[vJ,abK,ab6]at hk';obtain⟨hs,hp⟩:=hk';simp only[aiZ,hk,cond_true,mI,qB,AU];rcases ahk s (p.headD 0)with h | ⟨i,h1,h2⟩
 ·have h:¬ 0<=qA s p:=by unfold qA;omega
  rw[dF h];rfl
 ·have e:qA s p=(i:Int):=h1;have e3:au ((i:Int)+(p.length:Int))=((i+1:Nat):Int):=by rw[hp,aT (by omega) (by omega)];omega
  have c1:List.take (Int.toNat (i:Int)-Int.toNat 0) (List.drop (Int.toNat 0) s)=s.take (Int.toNat (i:Int)):=by simp
  have c2:List.take (Int.toNat (s.length:Int)-Int.toNat ((i+1:Nat):Int)) (List.drop (Int.toNat ((i+1:Nat):Int)) s)=s.drop (Int.toNat (i:Int)+1):=by rw[aaY,aaY,aaY];exact aeV (by rw[ach];omega)
  grind
noncomputable def ai0:iU E:=apP (E:=E) .str .str .str .str .bool vJ mI qB AU
def ant:FuncId:=151
noncomputable def ai1(_G:gY E)(x0 x1:anY):Option (List (TV E)) :=
 bif(vJ x0 x1)then some [⟨.str,(mI x0 x1)⟩,⟨.str,(qB x0 x1)⟩,⟨.bool,(AU x0 x1)⟩]else none
theorem ayJ:aJ E (iV [(211,aiY)] [] [] []):=eU (.cons ayI .nil) .nil .nil .nil
theorem ap5(h:∀(x0:anY) (x1:anY),vJ x0 x1=true->ai1 (Gr E Tryz.f151 [⟨.str,mI x0 x1⟩,⟨.str,qB x0 x1⟩,⟨.bool,AU x0 x1⟩]) x0 x1=some [⟨.str,mI x0 x1⟩,⟨.str,qB x0 x1⟩,⟨.bool,AU x0 x1⟩]):aV E ant ai0:=ane ayJ mix Tryz.func151 (by kernel_rfl) (by kernel_rfl) (fun x0 x1 hk=>fT (H:={}) (t:=fun G=>ai1 G x0 x1) (fun G=>by kernel_rfl) (h x0 x1 hk))
theorem ayK:aV E ant ai0:=ap5 fun s p hk=>by simp only[ai1,hk,cond_true]
theorem fP(x:An):(⟨x.kind,x.text,x.keys,x.kids⟩:An)=x:=by cases x;rfl
def zn:An:=⟨0,[],[],[]⟩
def lk:List (anY)->List An->anY->Option An
 | a::t,v::w,k=>if k=a then some v else lk t w k
 | _,_,_=>none
def get(n:An)(k:anY):Option An:=if n.kind=3 then lk n.keys n.kids k else none
def aG(n:An)(k:anY):An:=(get n k).getD zn
def aB(n:An)(k:anY):Bool:=(get n k).isSome
def fit(n:An):Bool:=decide (n.keys.length<=1000000)&&decide (n.kids.length<=1000000)&&(n.kind != 3||decide (n.keys.length=n.kids.length))
theorem sM{n:An}:fit n=true↔(n.keys.length<=1000000/\n.kids.length<=1000000)/\(n.kind=3->n.keys.length=n.kids.length):=by simp only[fit,abK,akX,ab6,bne_iff_ne];grind
def place(n:An)(k:anY):Int:=if n.kind=3 then index n.keys k else -1
noncomputable def Ry:iU E:=Cv (E:=E) .ah .str .int (fun n _=>fit n) place
def afd:FuncId:=52
noncomputable def RA(_G:gY E)(x0:An)(x1:anY):Option (List (TV E)) :=
 bif(bif(x0.kind != (3:Int))then true else((x0.keys.length:Int)!=(x0.kids.length:Int)))then some [⟨.int,(-1:Int)⟩]else(bif((fun l _=>mU l) x0.keys x1)then some [⟨.int,(index x0.keys x1)⟩]else none)
theorem asx:aJ E (iV [(86,ap2)] [] [] []):=eU (.cons aAv .nil) .nil .nil .nil
theorem ai2(h:∀(x0:An) (x1:anY),(fun n _=>fit n) x0 x1=true->RA (Gr E Tryz.f52 [⟨.int,place x0 x1⟩]) x0 x1=some [⟨.int,place x0 x1⟩]):aV E afd Ry:=zl asx mix Tryz.func52 (by kernel_rfl) (by kernel_rfl) (fun x0 x1 hk=>fT (H:={}) (t:=fun G=>RA G x0 x1) (fun G=>by kernel_rfl) (h x0 x1 hk))
theorem afe:aV E afd Ry:=ai2 fun n k hk=>by
 have hf:=sM.1 hk;have h1:mU n.keys=true:=pF.2 hf.1.1;unfold place;by_cases h:n.kind=3
 ·rw[if_pos h];simp only[RA,h1,cond_true,kZ h,cond_false];grind
 ·rw[if_neg h];simp only[RA,jK h,cond_true]
theorem asy:∀(keys:List (anY)) (kids:List An) (k:anY) (i:Nat),keys.length=kids.length ->
  (AQ k i keys = -1/\lk keys kids k=none)\/∃(j:Nat) (h:j<kids.length),AQ k i keys=((i+j:Nat):Int)/\lk keys kids k=some kids[j]
 | [],[],k,i,_=>.inl ⟨rfl,rfl⟩
 | a::t,v::w,k,i,h=>by
  unfold AQ lk;by_cases e:k=a
  ·grind
  ·rw[if_neg e,if_neg e];rcases asy t w k (i+1) (by simpa using h)with h1 | ⟨j,hj,h1,h2⟩
   ·exact .inl h1
   ·exact .inr ⟨j+1,by simpa using hj,by rw[h1];omega,by simpa using h2⟩
 | [],_::_,_,_,h=>by simp at h
 | _::_,[],_,_,h=>by simp at h
noncomputable def abt:iU E:=apM (E:=E) .ah .str .ah .bool (fun n _=>fit n) aG aB
def anu:FuncId:=27
noncomputable def ai3(_G:gY E)(x0:An)(x1:anY):Option (List (TV E)) :=
 bif((fun n _=>fit n) (⟨x0.kind,x0.text,x0.keys,x0.kids⟩:An) x1)then(bif(decide ((place ⟨x0.kind,x0.text,x0.keys,x0.kids⟩ x1)<(0:Int)))then some [⟨.ah,(⟨0,[],[],[]⟩:An)⟩,⟨.bool,false⟩]else(bif(decide ((0:Int)<=(place ⟨x0.kind,x0.text,x0.keys,x0.kids⟩ x1))&&decide ((place ⟨x0.kind,x0.text,x0.keys,x0.kids⟩ x1)<(x0.kids.length:Int)))then some [⟨.ah,(⟨(List.getD x0.kids (Int.toNat (place ⟨x0.kind,x0.text,x0.keys,x0.kids⟩ x1)) (dflt .ah)).kind,(List.getD x0.kids (Int.toNat (place ⟨x0.kind,x0.text,x0.keys,x0.kids⟩ x1)) (dflt .ah)).text,(List.getD x0.kids (Int.toNat (place ⟨x0.kind,x0.text,x0.keys,x0.kids⟩ x1)) (dflt .ah)).keys,(List.getD x0.kids (Int.toNat (place ⟨x0.kind,x0.text,x0.keys,x0.kids⟩ x1)) (dflt .ah)).kids⟩:An)⟩,⟨.bool,true⟩]else none))else none
theorem ayL:aJ E (iV [(52,Ry)] [] [] []):=eU (.cons afe .nil) .nil .nil .nil
theorem ap6(h:∀(x0:An) (x1:anY),(fun n _=>fit n) x0 x1=true->ai3 (Gr E Tryz.f27 [⟨.ah,aG x0 x1⟩,⟨.bool,aB x0 x1⟩]) x0 x1=some [⟨.ah,aG x0 x1⟩,⟨.bool,aB x0 x1⟩]):aV E anu abt:=anb ayL mix Tryz.func27 (by kernel_rfl) (by kernel_rfl) (fun x0 x1 hk=>fT (H:={}) (t:=fun G=>ai3 G x0 x1) (fun G=>by kernel_rfl) (h x0 x1 hk))
theorem anv:aV E anu abt:=ap6 fun n k hk=>by
 have hf:=sM.1 hk;simp only[ai3,fP,hk,cond_true];by_cases h:n.kind=3
 ·have hp:place n k=AQ k 0 n.keys:=by unfold place index;rw[if_pos h]
  have hg:get n k=lk n.keys n.kids k:=if_pos h;unfold aG aB;rw[hg,hp];rcases asy n.keys n.kids k 0 (hf.2 h)with⟨h1,h2⟩ | ⟨j,hj,h1,h2⟩
  ·rw[h1,h2];rfl
  grind
 ·have hp:place n k = -1:=by unfold place;rw[if_neg h]
  have hg:get n k=none:=if_neg h;unfold aG aB;rw[hg,hp];rfl
def Gf(f:An->An->Bool):List An->List An->Bool
 | [],[]=>true
 | a::s,b::t=>f a b&&Gf f s t
 | _,_=>false
def same:Nat->An->An->Bool
 | 0,_,_=>false
 | n+1,a,b=>a.kind==b.kind&&(a.text==b.text&&(a.keys==b.keys&&Gf (same n) a.kids b.kids))
def dp:Nat->An->Bool
 | 0,_=>false
 | n+1,x=>decide (x.keys.length<=1000000)&&decide (x.kids.length<=1000000)&&x.kids.all (dp n)
theorem Gg{n:Nat}{x:An}:dp (n+1) x=true↔(x.keys.length<=1000000/\x.kids.length<=1000000)/\∀y∈x.kids,dp n y=true:=by simp only[dp,abK,ab6,afE]
def Gi(n:Nat)(a b:An):Bool:=dp n a&&dp n b
def okE(n:Nat)(a b:List An)(f:Nat):Bool:=decide (f=60)&&(decide (a.length<=1000000)&&(a.all (dp n)&&b.all (dp n)))
def Xt(n:Nat)(a b:List An)(_:Nat):Bool:=Gf (same n) a b
noncomputable def sN(n:Nat):iU E:=Cv (E:=E) .ah .ah .bool (Gi n) (same n)
def tN:FuncId:=60
noncomputable def ap7(n:Nat):iU E:=fn3 (E:=E) .dP .dP .LQ .bool (okE n) (Xt n)
def asz:FuncId:=92
noncomputable def aw9:Hint E:={ live:=[(0,[1,2,15,16,17])] }
noncomputable def abu(v0 v1:List An)(v2 v3:Int):aI E:=aI.mk 32 [(1,.d (.slice .ah v0)),(2,.d (.raw (.func (.func 60) #[] #[]))),(15,.d (.slice .ah v1)),(16,.d (.int .i64 v2)),(17,.d (.int .i64 v3))] [] 0
noncomputable def ap8(_n:Nat)(G:gY E)(x0 x1:List An):Option (List (TV E)) :=
 bif((x0.length:Int)!=(x1.length:Int))then some [⟨.bool,false⟩]else G 0 (abu x1 x0 (x0.length:Int) 0)
noncomputable def abv(n:Nat)(G:gY E)(v0 v1:List An)(v2 v3:Int):Option (List (TV E)) :=
 bif(decide (v3<v2))then(bif(decide ((0:Int)<=v3)&&decide (v3<(v1.length:Int)))then(bif(decide ((0:Int)<=v3)&&decide (v3<(v0.length:Int)))then(bif((Gi n) (⟨(List.getD v1 (Int.toNat v3) (dflt .ah)).kind,(List.getD v1 (Int.toNat v3) (dflt .ah)).text,(List.getD v1 (Int.toNat v3) (dflt .ah)).keys,(List.getD v1 (Int.toNat v3) (dflt .ah)).kids⟩:An) (⟨(List.getD v0 (Int.toNat v3) (dflt .ah)).kind,(List.getD v0 (Int.toNat v3) (dflt .ah)).text,(List.getD v0 (Int.toNat v3) (dflt .ah)).keys,(List.getD v0 (Int.toNat v3) (dflt .ah)).kids⟩:An))then(bif(!((same n) (⟨(List.getD v1 (Int.toNat v3) (dflt .ah)).kind,(List.getD v1 (Int.toNat v3) (dflt .ah)).text,(List.getD v1 (Int.toNat v3) (dflt .ah)).keys,(List.getD v1 (Int.toNat v3) (dflt .ah)).kids⟩:An) (⟨(List.getD v0 (Int.toNat v3) (dflt .ah)).kind,(List.getD v0 (Int.toNat v3) (dflt .ah)).text,(List.getD v0 (Int.toNat v3) (dflt .ah)).keys,(List.getD v0 (Int.toNat v3) (dflt .ah)).kids⟩:An)))then some [⟨.bool,false⟩]else G 0 (abu v0 v1 v2 (au (v3+(1:Int)))))else none)else none)else none)else some [⟨.bool,true⟩]
theorem asA(n:Nat)(ih:aV E tN (sN n)):aJ E (iV [(60,sN n)] [] [] []):=eU (.cons ih .nil) .nil .nil .nil
theorem asB(n:Nat)(ih:aV E tN (sN n)){res:List (TV E)}{v0 v1:List An}{v2 v3:Int}(h:abv n (Gr E Tryz.f92 res) v0 v1 v2 v3=some res):Ev E Tryz.f92 res 0 (abu v0 v1 v2 v3):=Ev.of (H:=aw9) (asA n ih) mix (t:=fun G=>abv n G v0 v1 v2 v3) (fun G=>by kernel_rfl) h
theorem asC(n:Nat)(ih:aV E tN (sN n))(hs2:∀(x0:List An) (x1:List An) (x2:Nat),(okE n) x0 x1 x2=true->x2=60)(h:∀(x0:List An) (x1:List An),(okE n) x0 x1 60=true->ap8 n (Gr E Tryz.f92 [⟨.bool,(Xt n) x0 x1 60⟩]) x0 x1=some [⟨.bool,(Xt n) x0 x1 60⟩]):aV E asz (ap7 n):=UL (asA n ih) mix Tryz.func92 (by kernel_rfl) (by kernel_rfl) (fun x0 x1 x2 hk=>by have e2:=hs2 x0 x1 x2 hk;subst e2;exact fT (H:=aw9) (t:=fun G=>ap8 n G x0 x1) (fun G=>by kernel_rfl) (h x0 x1 hk))
theorem avD(n:Nat)(ih:aV E tN (sN n))(a b:List An)(ha:a.length<=1000000)(hab:a.length=b.length)(hda:∀x∈a,dp n x=true)(hdb:∀x∈b,dp n x=true):∀(m i:Nat),a.length-i=m->i<=a.length ->
  Ev E Tryz.f92 [⟨.bool,Gf (same n) (a.drop i) (b.drop i)⟩] 0 (abu b a a.length i):=by
 intro m
 induction m with
 | zero =>intro i h1 h2;refine asB n ih ?_;simp only[abv,AP (show a.length<=i by omega),cond_false,abb (show a.length<=i by omega),abb (show b.length<=i by omega)];rfl
 | succ m ih2 =>
  intro i h1 h2;have hi:i<a.length:=by omega
  have hj:i<b.length:=by omega
  have hok:Gi n a[i] b[i]=true:=by simp only[Gi,hda _ (acw hi),hdb _ (acw hj),acf]
  refine asB n ih ?_;simp only[abv,tL hi,tL hj,d0,gd a _ i hi,gd b _ i hj,acf,cond_true,fP,hok];rw[<- abJ hi,<- abJ hj,aT (by omega) (by omega)];simp only[Gf];cases same n a[i] b[i]with
  | false=>rfl
  | true =>simp only[ab7,cond_false,afq];exact dZ (ih2 (i+1) (by omega) (by omega))
theorem U4{f:An->An->Bool}:∀{a b:List An},a.length≠b.length->Gf f a b=false
 | [],[],h=>absurd rfl h
 | a::s,b::t,h=>by unfold Gf;rw[U4 (a:=s) (b:=t) (by simpa using h),ajr]
 | [],_::_,_=>rfl
 | _::_,[],_=>rfl
theorem aAw(n:Nat)(ih:aV E tN (sN n)):aV E asz (ap7 n):=asC n ih (fun a b f hk=>by
  simp only[okE,abK,ab6]at hk;exact hk.1) fun a b hk=>by
 simp only[okE,abK,ab6,afE]at hk;simp only[ap8,Xt];by_cases h:a.length=b.length
 ·rw[kZ (by omega),cond_false];have:=avD n ih a b hk.2.1 h hk.2.2.1 hk.2.2.2 a.length 0 (by omega) (by omega);rw[acC,acC]at this;exact dZ this
 ·rw[jK (by omega),cond_true,U4 h]
noncomputable def adi(n:Nat)(_G:gY E)(x0 x1:An):Option (List (TV E)) :=
 bif(((fun a _=>mU a) x0.keys x1.keys)||!(bif(x0.kind==x1.kind)then(x0.text==x1.text)else false))then(bif(((okE n) x0.kids x1.kids 60)||!(bif(bif(x0.kind==x1.kind)then(x0.text==x1.text)else false)then(equal x0.keys x1.keys)else false))then some [⟨.bool,(bif(bif(bif(x0.kind==x1.kind)then(x0.text==x1.text)else false)then(equal x0.keys x1.keys)else false)then((Xt n) x0.kids x1.kids 60)else false)⟩]else none)else none
theorem avE:rz Tryz.prog 60:=⟨Tryz.f60,Tryz.func60,by kernel_rfl,by kernel_rfl⟩
theorem avF(n:Nat)(ih:aV E tN (sN n)):aJ E (iV [(92,ap7 n),(91,ade)] [] [] []):=eU (.cons (aAw n ih) (.cons avx .nil)) .nil .nil .nil
theorem alO(n:Nat)(ih:aV E tN (sN n))(h:∀(x0:An) (x1:An),(Gi (n+1)) x0 x1=true->adi n (Gr E Tryz.f60 [⟨.bool,(same (n+1)) x0 x1⟩]) x0 x1=some [⟨.bool,(same (n+1)) x0 x1⟩]):aV E tN (sN (n+1)):=zl (avF n ih) mix Tryz.func60 (by kernel_rfl) (by kernel_rfl) (fun x0 x1 hk=>fT (H:={}) (t:=fun G=>adi n G x0 x1) (fun G=>by kernel_rfl) (h x0 x1 hk))
theorem ap9(n:Nat)(ih:aV E tN (sN n)):aV E tN (sN (n+1)):=alO n ih fun a b hk=>by
 simp only[Gi,abK]at hk;obtain⟨ha,ha2⟩:=Gg.1 hk.1;obtain⟨hb,hb2⟩:=Gg.1 hk.2;have hl:mU a.keys=true:=pF.2 ha.1;have hE:okE n a.kids b.kids 60=true:=by simp only[okE,abK,ab6,afE];exact⟨trivial,ha.2,ha2,hb2⟩
 simp only[adi,hl,hE,aci,cond_true,same,Xt,equal];cases a.kind==b.kind<;>cases a.text==b.text<;>cases a.keys==b.keys<;>rfl
theorem avG(n:Nat):aV E tN (sN n):=by
 induction n with
 | zero=>exact anc avE fun x y=>rfl
 | succ n ih=>exact ap9 n ih
def wf(B:Nat):Nat->An->Bool
 | 0,_=>false
 | n+1,x=>decide (x.keys.length<=B)&&decide (x.kids.length<=B)&&(x.kind != 3||decide (x.keys.length=x.kids.length))&&decide (x.text.length<=200)&&x.keys.all (fun k=>decide (k.length<=200))&&x.kids.all (wf B n)
theorem U5{B n:Nat}{x:An}:wf B (n+1) x=true↔x.keys.length<=B/\x.kids.length<=B/\(x.kind=3->x.keys.length=x.kids.length)/\x.text.length<=200/\(∀k∈x.keys,k.length<=200)/\∀y∈x.kids,wf B n y=true:=by simp only[wf,abK,akX,ab6,bne_iff_ne,afE];grind
def wg(B:Nat):Nat->An->Bool
 | 0,_=>false
 | n+1,x=>decide (x.keys.length<=B)&&decide (x.kids.length<=B)&&(x.kind != 3||decide (x.keys.length=x.kids.length))&&x.kids.all (wg B n)
theorem dQ{B n:Nat}{x:An}:wg B (n+1) x=true↔x.keys.length<=B/\x.kids.length<=B/\(x.kind=3->x.keys.length=x.kids.length)/\∀y∈x.kids,wg B n y=true:=by simp only[wg,abK,akX,ab6,bne_iff_ne,afE];grind
theorem Dc{B n:Nat}{x:An}(h:wg B (n+1) x=true)(hB:B<=1000000):fit x=true:=by have:=dQ.1 h;exact sM.2 ⟨⟨by omega,by omega⟩,this.2.2.1⟩
theorem ahl{B:Nat}(hB:B<=1000000):∀{n:Nat} {x:An},wg B n x=true->dp n x=true
 | 0,_,h=>by cases h
 | n+1,x,h=>by have:=dQ.1 h;exact Gg.2 ⟨⟨by omega,by omega⟩,fun y hy=>ahl hB (this.2.2.2 y hy)⟩
theorem aqa{B C:Nat}(hB:B<=C):∀{n:Nat} {x:An},wg B n x=true->wg C n x=true
 | 0,_,h=>by cases h
 | n+1,x,h=>by have:=dQ.1 h;exact dQ.2 ⟨by omega,by omega,this.2.2.1,fun y hy=>aqa hB (this.2.2.2 y hy)⟩
theorem wW{B:Nat}:∀{n:Nat} {x:An} (k:Nat),wg B n x=true->wg B (n+k) x=true
 | 0,_,_,h=>by cases h
 | n+1,x,k,h=>by have:=dQ.1 h;rw[Nat.add_right_comm];exact dQ.2 ⟨this.1,this.2.1,this.2.2.1,fun y hy=>wW k (this.2.2.2 y hy)⟩
theorem axa{B:Nat}:∀{n:Nat} {x:An},wf B n x=true->wg B n x=true
 | 0,_,h=>by cases h
 | n+1,x,h=>by have:=U5.1 h;exact dQ.2 ⟨this.1,this.2.1,this.2.2.1,fun y hy=>axa (this.2.2.2.2.2 y hy)⟩
theorem asD:∀{keys:List (anY)} {kids:List An} {k:anY} {x:An},lk keys kids k=some x->x∈kids
 | a::t,v::w,k,x,h=>by
  unfold lk at h;split at h
  ·cases h;exact abI
  ·exact abD _ (asD h)
 | [],_,_,_,h=>by cases h
 | _::_,[],_,_,h=>by cases h
theorem PK:∀{keys:List (anY)} {kids:List An} {k:anY},keys.length=kids.length->k∈keys->∃x,lk keys kids k=some x
 | a::t,v::w,k,hl,h=>by
  unfold lk;by_cases e:k=a
  ·exact⟨v,if_pos e⟩
  ·rw[if_neg e];exact PK (by simpa using hl) ((am8.1 h).resolve_left e)
 | [],_,_,_,h=>by cases h
 | _::_,[],_,hl,_=>by simp at hl
theorem rA{a:An}{k:anY}(h:aB a k=true):aG a k∈a.kids:=by
 unfold aB at h;unfold aG;cases hg:get a k with
 | none=>rw[hg]at h;cases h
 | some x =>
  unfold get at hg;split at hg
  ·exact asD hg
  ·cases hg
theorem U6{B n:Nat}{a:An}{k:anY}(ha:wg B (n+1) a=true)(h3:a.kind=3)(hk:k∈a.keys):aB a k=true:=by obtain⟨x,hx⟩:=PK ((dQ.1 ha).2.2.1 h3) hk;unfold aB get;rw[if_pos h3,hx];rfl
theorem Gj{B n:Nat}{a:An}{k:anY}(ha:wg B (n+1) a=true)(h:aB a k=true):wg B n (aG a k)=true:=(dQ.1 ha).2.2.2 _ (rA h)
def dz(s:anY):An:=⟨1,s,[],[]⟩
noncomputable def adj:iU E:=Ga (E:=E) .str .ah (fun _=>true) dz
def ai4:FuncId:=152
noncomputable def anw(_G:gY E)(x0:anY):Option (List (TV E)) :=
 some [⟨.ah,(⟨1,x0,[],[]⟩:An)⟩]
theorem avH:aJ E (iV [] [] [] []):=eU .nil .nil .nil .nil
theorem alP(h:∀(x0:anY),anw (Gr E Tryz.f152 [⟨.ah,dz x0⟩]) x0=some [⟨.ah,dz x0⟩]):aV E ai4 adj:=zk avH mix Tryz.func152 (by kernel_rfl) (by kernel_rfl) (fun x0 _=>fT (H:={}) (t:=fun G=>anw G x0) (fun G=>by kernel_rfl) (h x0))
theorem avI:aV E ai4 adj:=alP fun _=>rfl
theorem anx(s:anY):∀(l:List (anY)) (i:Nat),AQ s i l<(i:Int)+(l.length:Int)
 | [],i=>by simp only[AQ,List.length_nil];omega
 | a::t,i=>by
  unfold AQ;split
  ·simp only[List.length_cons];omega
  ·have:=anx s t (i+1);simp only[List.length_cons];omega
def fM(n:An)(_:anY)(_:An):Bool:=fit ⟨3,[],n.keys,n.kids⟩
def aY(n:An)(k:anY)(v:An):An:=bif(bif n.kind != 3 then n.kind != 0 else false)then n else bif decide (0<=index n.keys k)then⟨3,[],n.keys,n.kids.set (index n.keys k).toNat v⟩else⟨3,[],n.keys++[k],n.kids++[v]⟩
noncomputable def adk:iU E:=fn3 (E:=E) .ah .str .ah .ah fM aY
def ai5:FuncId:=28
noncomputable def adl(_G:gY E)(x0:An)(x1:anY)(x2:An):Option (List (TV E)) :=
 bif(bif(x0.kind != (3:Int))then(x0.kind != (0:Int))else false)then some [⟨.ah,(⟨x0.kind,x0.text,x0.keys,x0.kids⟩:An)⟩]else(bif(decide (x0.keys.length*16<=av))then(bif(decide (x0.kids.length*72<=av))then(bif((fun n _=>fit n) (⟨3,[],x0.keys,x0.kids⟩:An) x1)then(bif(decide ((0:Int)<=(place ⟨3,[],x0.keys,x0.kids⟩ x1)))then(bif(decide ((0:Int)<=(place ⟨3,[],x0.keys,x0.kids⟩ x1))&&decide ((place ⟨3,[],x0.keys,x0.kids⟩ x1)<(x0.kids.length:Nat)))then some [⟨.ah,(⟨3,[],x0.keys,(List.set x0.kids (Int.toNat (place ⟨3,[],x0.keys,x0.kids⟩ x1)) (⟨x2.kind,x2.text,x2.keys,x2.kids⟩:An))⟩:An)⟩]else none)else(bif(decide ((x0.keys.length+([x1]:List (anY)).length)*16<=av))then(bif(decide ((x0.kids.length+([(⟨x2.kind,x2.text,x2.keys,x2.kids⟩:An)]:List An).length)*72<=av))then some [⟨.ah,(⟨3,[],(x0.keys++([x1]:List (anY))),(x0.kids++([(⟨x2.kind,x2.text,x2.keys,x2.kids⟩:An)]:List An))⟩:An)⟩]else none)else none))else none)else none)else none)
theorem avJ:aJ E (iV [(52,Ry)] [(54,Pz 27),(53,Pz 9)] [] []):=eU (.cons afe .nil) (.cons (IZ (T:=22) (b:=4) (e:=27) (fn:=Tryz.f54) (by kernel_rfl) (by kernel_rfl) (by kernel_rfl) (by kernel_rfl) (by kernel_rfl) (by kernel_rfl)) (.cons (IZ (T:=25) (b:=4) (e:=9) (fn:=Tryz.f53) (by kernel_rfl) (by kernel_rfl) (by kernel_rfl) (by kernel_rfl) (by kernel_rfl) (by kernel_rfl)) .nil)) .nil .nil
theorem alQ(h:∀(x0:An) (x1:anY) (x2:An),fM x0 x1 x2=true->adl (Gr E Tryz.f28 [⟨.ah,aY x0 x1 x2⟩]) x0 x1 x2=some [⟨.ah,aY x0 x1 x2⟩]):aV E ai5 adk:=UL avJ mix Tryz.func28 (by kernel_rfl) (by kernel_rfl) (fun x0 x1 x2 hk=>fT (H:={}) (t:=fun G=>adl G x0 x1 x2) (fun G=>by kernel_rfl) (h x0 x1 x2 hk))
theorem avK:aV E ai5 adk:=alQ fun n k v hk=>by
 have hk':fit ⟨3,[],n.keys,n.kids⟩=true:=hk;obtain⟨⟨h1,h2⟩,h3⟩:=sM.1 hk';have h1:n.keys.length<=1000000:=h1;have h2:n.kids.length<=1000000:=h2;have h3:n.keys.length=n.kids.length:=h3 rfl;have ep:place ⟨3,[],n.keys,n.kids⟩ k=index n.keys k:=if_pos rfl;have hlt:index n.keys k<(n.keys.length:Int):=by have:=anx k n.keys 0;unfold index;omega
 have b1:decide (n.keys.length*16<=av)=true:=dT (by rw[mb];omega);have b2:decide (n.kids.length*72<=av)=true:=dT (by rw[mb];omega);have b3:decide ((n.keys.length+[k].length)*16<=av)=true:=dT (by rw[mb,aa9];omega);have b4:decide ((n.kids.length+[v].length)*72<=av)=true:=dT (by rw[mb,aa9];omega);simp only[adl,aY,fP,hk',ep,b1,b2,b3,b4,cond_true];grind
def dS:Nat->An->An
 | 0,x=>x
 | n+1,x=>bif(x.kids.length:Int)==0 then x else bif x.kind != 3 then⟨x.kind,x.text,[],x.kids.map (dS n)⟩else⟨x.kind,x.text,Pl.bn x.keys,(Pl.bn x.keys).map fun k=>dS n (aG x k)⟩
noncomputable def pW(n:Nat):iU E:=Ga (E:=E) .ah .ah (wg 10000 n) (dS n)
def sD:FuncId:=61
noncomputable def RD:Hint E:={ live:=[(0,[2,3,24,25,26]),(1,[1,2,3,44,45,46])],nk:=[(0,[(3,some 3,true,.ah)]),(1,[(3,some 3,true,.ah)])] }
noncomputable def I4(v0:List An)(v1 v2 v3:Int)(v4:anY)(v5:Int)(v6:anY)(v7:List An):aI E:=aI.mk 65 [(2,.ptr 0 0),(3,.ptr 1 0),(24,.d (.slice .ah v0)),(25,.d (.int .i64 v1)),(26,.d (.int .i64 v2))] [(0,.box [.d (.int .i64 v3),.d (.str v4),.d (.raw (.slice none 0 0)),.d (.raw (.slice none 0 0))]),(1,.box [.d (.int .i64 v5),.d (.str v6),.d (.raw (.slice none 0 0)),.grow .ah v7 2]),(2,.tail true)] 3
noncomputable def I5(v0:List (anY))(v1 v2 v3:Int)(v4:anY)(v5:List (anY))(v6:List An)(v7:Int)(v8:anY)(v9:Int)(v10:anY)(v11:List (anY))(v12:List An):aI E:=aI.mk 65 [(1,.ptr 0 0),(2,.ptr 1 0),(3,.ptr 2 0),(44,.d (.slice .str v0)),(45,.d (.int .i64 v1)),(46,.d (.int .i64 v2))] [(0,.box [.d (.int .i64 v3),.d (.str v4),.d (.slice .str v5),.d (.slice .ah v6)]),(1,.box [.d (.int .i64 v7),.d (.str v8),.d (.raw (.slice none 0 0)),.d (.raw (.slice none 0 0))]),(2,.box [.d (.int .i64 v9),.d (.str v10),.d (.slice .str v11),.grow .ah v12 3]),(3,.tail true)] 4
noncomputable def RF(_n:Nat)(G:gY E)(x0:An):Option (List (TV E)) :=
 bif((x0.kids.length:Int)==(0:Int))then some [⟨.ah,(⟨x0.kind,x0.text,x0.keys,x0.kids⟩:An)⟩]else(bif(x0.kind != (3:Int))then G 0 (I4 x0.kids (x0.kids.length:Int) 0 0 [] x0.kind x0.text [])else(bif(mU x0.keys)then G 1 (I5 (Pl.bn x0.keys) ((Pl.bn x0.keys).length:Int) 0 x0.kind x0.text x0.keys x0.kids 0 [] x0.kind x0.text (Pl.bn x0.keys) [])else none))
noncomputable def I6(n:Nat)(G:gY E)(v0:List An)(v1 v2 v3:Int)(v4:anY)(v5:Int)(v6:anY)(v7:List An):Option (List (TV E)) :=
 bif(decide (v2<v1))then(bif(decide ((0:Int)<=v2)&&decide (v2<(v0.length:Int)))then(bif((wg 10000 n) (⟨(List.getD v0 (Int.toNat v2) (dflt .ah)).kind,(List.getD v0 (Int.toNat v2) (dflt .ah)).text,(List.getD v0 (Int.toNat v2) (dflt .ah)).keys,(List.getD v0 (Int.toNat v2) (dflt .ah)).kids⟩:An))then(bif(decide ((v7.length+([((dS n) (⟨(List.getD v0 (Int.toNat v2) (dflt .ah)).kind,(List.getD v0 (Int.toNat v2) (dflt .ah)).text,(List.getD v0 (Int.toNat v2) (dflt .ah)).keys,(List.getD v0 (Int.toNat v2) (dflt .ah)).kids⟩:An))]:List An).length)*72<=av))then G 0 (I4 v0 v1 (au (v2+(1:Int))) v3 v4 v5 v6 (v7++([((dS n) (⟨(List.getD v0 (Int.toNat v2) (dflt .ah)).kind,(List.getD v0 (Int.toNat v2) (dflt .ah)).text,(List.getD v0 (Int.toNat v2) (dflt .ah)).keys,(List.getD v0 (Int.toNat v2) (dflt .ah)).kids⟩:An))]:List An)))else none)else none)else none)else some [⟨.ah,(⟨v5,v6,[],v7⟩:An)⟩]
noncomputable def I7(n:Nat)(G:gY E)(v0:List (anY))(v1 v2 v3:Int)(v4:anY)(v5:List (anY))(v6:List An)(v7:Int)(v8:anY)(v9:Int)(v10:anY)(v11:List (anY))(v12:List An):Option (List (TV E)) :=
 bif(decide (v2<v1))then(bif(decide ((0:Int)<=v2)&&decide (v2<(v0.length:Int)))then(bif((fun n _=>fit n) (⟨v3,v4,v5,v6⟩:An) (List.getD v0 (Int.toNat v2) (dflt .str)))then(bif((wg 10000 n) (⟨(aG ⟨v3,v4,v5,v6⟩ (List.getD v0 (Int.toNat v2) (dflt .str))).kind,(aG ⟨v3,v4,v5,v6⟩ (List.getD v0 (Int.toNat v2) (dflt .str))).text,(aG ⟨v3,v4,v5,v6⟩ (List.getD v0 (Int.toNat v2) (dflt .str))).keys,(aG ⟨v3,v4,v5,v6⟩ (List.getD v0 (Int.toNat v2) (dflt .str))).kids⟩:An))then(bif(decide ((v12.length+([((dS n) (⟨(aG ⟨v3,v4,v5,v6⟩ (List.getD v0 (Int.toNat v2) (dflt .str))).kind,(aG ⟨v3,v4,v5,v6⟩ (List.getD v0 (Int.toNat v2) (dflt .str))).text,(aG ⟨v3,v4,v5,v6⟩ (List.getD v0 (Int.toNat v2) (dflt .str))).keys,(aG ⟨v3,v4,v5,v6⟩ (List.getD v0 (Int.toNat v2) (dflt .str))).kids⟩:An))]:List An).length)*72<=av))then G 1 (I5 v0 v1 (au (v2+(1:Int))) v3 v4 v5 v6 v7 v8 v9 v10 v11 (v12++([((dS n) (⟨(aG ⟨v3,v4,v5,v6⟩ (List.getD v0 (Int.toNat v2) (dflt .str))).kind,(aG ⟨v3,v4,v5,v6⟩ (List.getD v0 (Int.toNat v2) (dflt .str))).text,(aG ⟨v3,v4,v5,v6⟩ (List.getD v0 (Int.toNat v2) (dflt .str))).keys,(aG ⟨v3,v4,v5,v6⟩ (List.getD v0 (Int.toNat v2) (dflt .str))).kids⟩:An))]:List An)))else none)else none)else none)else none)else some [⟨.ah,(⟨v9,v10,v11,v12⟩:An)⟩]
theorem alR:rz Tryz.prog 61:=⟨Tryz.f61,Tryz.func61,by kernel_rfl,by kernel_rfl⟩
theorem Om(n:Nat)(ih:aV E sD (pW n)):aJ E (iV [(58,JN),(27,abt),(61,pW n)] [] [] []):=eU (.cons Rw (.cons anv (.cons ih .nil))) .nil .nil .nil
theorem Yq(n:Nat)(ih:aV E sD (pW n)){res:List (TV E)}{v0:List An}{v1 v2 v3:Int}{v4:anY}{v5:Int}{v6:anY}{v7:List An}(h:I6 n (Gr E Tryz.f61 res) v0 v1 v2 v3 v4 v5 v6 v7=some res):Ev E Tryz.f61 res 0 (I4 v0 v1 v2 v3 v4 v5 v6 v7):=Ev.of (H:=RD) (Om n ih) mix (t:=fun G=>I6 n G v0 v1 v2 v3 v4 v5 v6 v7) (fun G=>by kernel_rfl) h
theorem Yr(n:Nat)(ih:aV E sD (pW n)){res:List (TV E)}{v0:List (anY)}{v1 v2 v3:Int}{v4:anY}{v5:List (anY)}{v6:List An}{v7:Int}{v8:anY}{v9:Int}{v10:anY}{v11:List (anY)}{v12:List An}(h:I7 n (Gr E Tryz.f61 res) v0 v1 v2 v3 v4 v5 v6 v7 v8 v9 v10 v11 v12=some res):Ev E Tryz.f61 res 1 (I5 v0 v1 v2 v3 v4 v5 v6 v7 v8 v9 v10 v11 v12):=Ev.of (H:=RD) (Om n ih) mix (t:=fun G=>I7 n G v0 v1 v2 v3 v4 v5 v6 v7 v8 v9 v10 v11 v12) (fun G=>by kernel_rfl) h
theorem adn(n:Nat)(ih:aV E sD (pW n))(h:∀(x0:An),(wg 10000 (n+1)) x0=true->RF n (Gr E Tryz.f61 [⟨.ah,(dS (n+1)) x0⟩]) x0=some [⟨.ah,(dS (n+1)) x0⟩]):aV E sD (pW (n+1)):=zk (Om n ih) mix Tryz.func61 (by kernel_rfl) (by kernel_rfl) (fun x0 hk=>fT (H:=RD) (t:=fun G=>RF n G x0) (fun G=>by kernel_rfl) (h x0 hk))
theorem aqb(n:Nat)(ih:aV E sD (pW n))(x:An)(hx:wg 10000 (n+1) x=true)(h3:x.kind=3)(ks:List (anY))(hks:ks.length<=10000)(hm:∀k∈ks,k∈x.keys)(u0:Int)(u1:anY)(v0:Int)(v1:anY)(v2:List (anY)) :
  ∀(m i:Nat) (ov:List An),ks.length-i=m->i<=ks.length->ov.length=i ->
   Ev E Tryz.f61 [⟨.ah,(⟨v0,v1,v2,ov++(ks.drop i).map fun k=>dS n (aG x k)⟩:An)⟩] 1 (I5 ks ks.length i x.kind x.text x.keys x.kids u0 u1 v0 v1 v2 ov):=by
 have fx:=Dc hx (by decide);intro m
 induction m with
 | zero =>intro i ov h1 h2 h4;refine Yr n ih ?_;simp only[I7,AP (show ks.length<=i by omega),cond_false,abb (show ks.length<=i by omega),acg,afM]
 | succ m ih2 =>
  intro i ov h1 h2 h4;have hi:i<ks.length:=by omega
  have e2:∀v:An,decide ((ov.length+[v].length)*72<=av)=true:=fun v=>dT (by rw[mb,aa9];omega)
  have e3:au ((i:Int)+1)=((i+1:Nat):Int):=by rw[aT (by omega) (by omega)];omega
  have hw:wg 10000 n (aG x ks[i])=true:=Gj hx (U6 hx h3 (hm _ (acw hi)));refine Yr n ih ?_;simp only[I7,tL hi,d0,gd ks _ i hi,acf,cond_true,fP,fx,hw,e2,e3];have:=dZ (ih2 (i+1) (ov++[dS n (aG x ks[i])]) (by omega) (by omega) (by simp[h4]));rw[<- abJ hi,afu];rw[ab9]at this;exact this
theorem aqc(n:Nat)(ih:aV E sD (pW n))(l:List An)(hl:l.length<=10000)(hw:∀y∈l,wg 10000 n y=true)(u0:Int)(u1:anY)(v0:Int)(v1:anY) :
  ∀(m i:Nat) (ov:List An),l.length-i=m->i<=l.length->ov.length=i ->
   Ev E Tryz.f61 [⟨.ah,(⟨v0,v1,[],ov++(l.drop i).map (dS n)⟩:An)⟩] 0 (I4 l l.length i u0 u1 v0 v1 ov):=by
 intro m
 induction m with
 | zero =>intro i ov h1 h2 h4;refine Yq n ih ?_;simp only[I6,AP (show l.length<=i by omega),cond_false,abb (show l.length<=i by omega),acg,afM]
 | succ m ih2 =>
  intro i ov h1 h2 h4;have hi:i<l.length:=by omega
  have e2:∀v:An,decide ((ov.length+[v].length)*72<=av)=true:=fun v=>dT (by rw[mb,aa9];omega)
  have e3:au ((i:Int)+1)=((i+1:Nat):Int):=by rw[aT (by omega) (by omega)];omega
  refine Yq n ih ?_;simp only[I6,tL hi,d0,gd l _ i hi,acf,cond_true,fP,hw _ (acw hi),e2,e3];have:=dZ (ih2 (i+1) (ov++[dS n l[i]]) (by omega) (by omega) (by simp[h4]));rw[<- abJ hi,afu];rw[ab9]at this;exact this
theorem alS(n:Nat):aV E sD (pW n):=by
 induction n with
 | zero=>exact ac7 alR fun x=>rfl
 | succ n ih =>
  refine adn n ih fun x hk=>?_
  have hw:=dQ.1 hk;have h6:mU x.keys=true:=pF.2 (by omega);simp only[RF,dS,fP,h6,cond_true];by_cases h0:(x.kids.length:Int)=0
  ·rw[jL h0];rfl
  ·rw[eT h0,cond_false,cond_false];by_cases h3:x.kind=3
   ·rw[kZ h3,cond_false,cond_false];have hs:=Pl.sw x.keys;have:=dZ (aqb n ih x hk h3 (Pl.bn x.keys) (by omega) (fun k hk=>Pl.jY.1 hk) 0 [] x.kind x.text (Pl.bn x.keys) _ 0 [] rfl (aa4 _) rfl);rw[acC]at this;exact this
   ·rw[jK h3,cond_true,cond_true];have:=dZ (aqc n ih x.kids hw.2.1 hw.2.2.2 0 [] x.kind x.text _ 0 [] rfl (aa4 _) rfl);rw[acC]at this;exact this
def ado(l:List (anY))(sep:anY):Bool:=decide (l.length<=1000000)&&decide ((Lib.join l sep).length<=1000000000)
noncomputable def anz:iU E:=Cv (E:=E) .bH .str .str ado Lib.join
def avL:FuncId:=97
theorem avM:aV E avL anz:=Xr ⟨Tryz.f97,by kernel_rfl,by kernel_rfl,by kernel_rfl⟩ fun l sep hk=>by
 simp only[ado,abK,ab6]at hk;obtain⟨k1,k2⟩:=hk;intro w ro vals hargs kR
 match vals,hargs with
 | [u,v],⟨h1,h2,_⟩ =>
  rw[LX h2];have hd:dU E w ro u (.slice .str l):=by
   rcases h1 with⟨ha,_⟩ | ⟨_,d,hd,hr⟩
   ·cases ha
   ·have hd:([.slice .str l]:List (bQ E.Den))=[d]:=hd;injection hd with hd _
    subst hd;exact hr
  have none_:∀(a:Option Addr) (c:Nat),l=[]->Calls Tryz.prog 97 [.slice a 0 c,.string ⟨sep.toArray⟩].toArray w fun e w'=>∃v,e = .returned v/\Below w.heap.size w w'/\qz E w' (fun k o=>ro k o\/(w.heap.size<=k/\k<w'.heap.size)) v [⟨.str,Lib.join l sep⟩]:=fun a c hl=>by
   subst hl;refine(Tryz.strings_Join_none a c ⟨sep.toArray⟩ w).mono fun e w' he=>?_
   obtain⟨he,rfl⟩:=he;exact⟨_,he,Below.refl _ _,.inr ⟨rfl,.str [],rfl,.str []⟩⟩
  obtain⟨ad,cap,rfl,hs⟩:=hd.su;rcases hs with rfl | ⟨g,off,rfl,hc,f,f1,f2⟩
  ·exact none_ _ _ rfl
  ·cases l with
   | nil=>exact none_ _ _ rfl
   | cons x0 t =>
    have hcell:∀(i:Nat) x,(x0::t)[i]? = some x->ro g (off+i)/\w.cell? ⟨g,off+i,none⟩=some (.string ⟨x.toArray⟩):=fun i x hx=>by
     have g1:=f1 i x 0 (.str x) hx rfl;have g2:=f2 i x 0 (.str x) hx rfl;have e1:f i 0 = .string ⟨x.toArray⟩:=by generalize f i 0=u at g2;cases g2;rfl
     rw[show E.size .str=1 from rfl,afK,afS,e1]at g1;exact g1
    have hmap:(((x0::t).map fun x=>(⟨x.toArray⟩:ByteArray)).map (·.data.toList))=x0::t:=by
     rw[List.map_map]
     conv=>rhs;rw[<- List.map_id (x0::t)]
     exact ahY fun y _=>by simp
    have hj:=Tryz.strings_Join g off cap ((x0::t).map fun x=>⟨x.toArray⟩) ⟨sep.toArray⟩ w (fun j x hx=>by
     rw[acj]at hx;cases hq:(x0::t)[j]? with
     | none=>rw[hq]at hx;cases hx
     | some y=>rw[hq]at hx;cases hx;exact(hcell j y hq).2) (kR g _ (hcell 0 x0 rfl).1) (by rw[List.length_map];omega) (by rw[List.length_map];exact hc) (by rw[hmap];show(Lib.join (x0::t) sep).length<=_;omega)
    rw[hmap,List.length_map]at hj;refine hj.mono fun e w' he=>?_
    obtain⟨he,hb⟩:=he;exact⟨_,he,hb,.inr ⟨rfl,.str (Lib.join (x0::t) sep),rfl,.str _⟩⟩
theorem aCh{w:World}{ro:Nat->Nat->Prop}{u:Value}{x:Int}(h:vI E w ro u .byte x):u = .int .u8 x:=by
 rcases h with⟨ha,_⟩ | ⟨_,d,hd,hr⟩
 ·cases ha
 ·have hd:([.int .u8 x]:List (bQ E.Den))=[d]:=hd;injection hd with hd _
  subst hd;cases hr;rfl
def Io(s:anY)(c:Int):Int:=Lib.indexByte s c.toNat.toUInt8
noncomputable def anA:iU E:=Cv (E:=E) .str .byte .int (fun _ _=>true) Io
def avN:FuncId:=208
theorem avO:aV E avN anA:=Xr ⟨Tryz.f208,by kernel_rfl,by kernel_rfl,by kernel_rfl⟩ fun s c _=>by
 intro w ro vals hargs kR
 match vals,hargs with
 | [u,v],⟨h1,h2,_⟩ =>
  rw[LX h1,aCh h2];refine(Tryz.strings_IndexByte ⟨s.toArray⟩ c w).mono fun e w' he=>?_
  obtain⟨he,rfl⟩:=he;exact⟨_,he,Below.refl _ _,.inr ⟨rfl,.int .i64 (Io s c),rfl,.int .i64 _⟩⟩
def rC(c:UInt8)(new:anY):anY->anY
 | []=>[]
 | b::t=>if b==c then new++rC c new t else b::rC c new t
theorem JO(c:UInt8)(new:anY)(b:UInt8)(t:anY):rC c new (b::t)=if b==c then new++rC c new t else b::rC c new t:=rfl
theorem U7(c b:UInt8)(t:anY):Lib.countByte (b::t) c=Lib.countByte t c+if b==c then 1 else 0:=List.count_cons
theorem adp(c:UInt8)(new:anY):∀t:anY,Lib.countByte t c=0->rC c new t=t
 | [],_=>rfl
 | b::t,h=>by
  rw[U7]at h;rw[JO];by_cases hb:(b==c)=true
  ·rw[if_pos hb]at h;omega
  ·rw[if_neg hb]at h ⊢;rw[adp c new t h]
theorem ai6(c:UInt8)(new:anY):∀(t:anY) (g:Nat),Lib.countByte t c=g+1 ->
  ∃j:Nat,Lib.indexByte t c=j/\j<t.length/\Lib.countByte (t.drop (j+1)) c=g/\rC c new t=t.take j++new++rC c new (t.drop (j+1))
 | [],g,h=>by cases h
 | b::t,g,h=>by
  rw[U7]at h;rw[JO];by_cases hb:(b==c)=true
  ·rw[if_pos hb]at h;exact⟨0,by unfold Lib.indexByte;rw[if_pos hb];rfl,by simp,by show Lib.countByte t c=g;omega,by rw[if_pos hb];rfl⟩
  ·rw[if_neg hb]at h;obtain⟨j,h1,h2,h3,h4⟩:=ai6 c new t g h;refine⟨j+1,?_,by simp only[List.length_cons];omega,h3,?_⟩
   ·unfold Lib.indexByte;rw[if_neg hb,h1,if_neg (by simp)];rfl
   ·rw[if_neg hb,h4];rfl
theorem ai7(c:UInt8)(new:anY):∀t:anY,(rC c new t).length<=t.length+Lib.countByte t c*new.length
 | []=>aa4 _
 | b::t=>by
  have ih:=ai7 c new t;rw[JO,U7];by_cases hb:(b==c)=true
  ·rw[if_pos hb,if_pos hb,List.length_append,List.length_cons,Nat.add_mul,Nat.one_mul];omega
  ·rw[if_neg hb,if_neg hb,afS,List.length_cons,List.length_cons];omega
section
open Go.Shelf Go.Lib
variable {P:Program} {ρ:Ren}
set_option maxHeartbeats 16000000 in
set_option maxRecDepth 1000000 in
theorem avP(L:Lays.n154 P ρ)(X:Builder.Extra P ρ)(s new:ByteArray)(c:UInt8)(w:World)(hs:s.size<=1000000)(hn:new.size<=1000)(hne:(⟨#[c]⟩:ByteArray)≠new) :
  Calls P (ρ.f 154) #[.string s,.string ⟨#[c]⟩,.string new,.int .i64 (-1)] w fun e w'=>e = .returned (.string ⟨(rC c new.data.toList s.data.toList).toArray⟩)/\Below w.heap.size w w':=by
 obtain⟨old,hold⟩:∃o:ByteArray,o=⟨#[c]⟩:=⟨_,rfl⟩
 have hC:=Any.strings_Count_one { L with } s c w;rw[<- hold]at hC hne ⊢;have ho1:old.size=1:=by rw[hold];rfl
 obtain⟨K,hK⟩:∃K:Nat,Lib.countByte s.data.toList c=K:=⟨_,rfl⟩
 have hlenL:s.data.toList.length=s.size:=(Lib.size_eq s).symm;have hKs:K<=s.size:=by rw[<- hK,<- hlenL];exact List.count_le_length
 have hmul:K*new.size<=K*1000:=Nat.mul_le_mul_left K hn;rw[hK]at hC;have hbeq:(old.toList==new.toList)=false:=(Lib.bytes_beq_false_iff _ new).2 hne;have HO:=Any.hidR hold;clear hold hne;have t72:=L.t72;have a72:=L.a72;have z72:=L.z72;have v72:=L.v72;have u72:=run_underlying L.t72;have t70:=L.t70;have a70:=L.a70;have z70:=L.z70;have v70:=L.v70;have u70:=run_underlying L.t70;have t37:=L.t37;have a37:=L.a37;have z37:=L.z37;have v37:=L.v37;have u37:=run_underlying L.t37;have t3:=L.t3;have a3:=L.a3;have z3:=L.z3;have v3:=L.v3;have u3:=run_underlying L.t3;have t9:=L.t9;have a9:=L.a9;have z9:=L.z9;have v9:=L.v9;have u9:=run_underlying L.t9;have t4:=L.t4;have a4:=L.a4;have z4:=L.z4;have v4:=L.v4;have u4:=run_underlying L.t4;have e138:∀args w,(callFunc (ρ.f 138) args).run P w = .ok (.enter (ρ.f 138) args) w:=enters_of L.f138 (by kernel_rfl) rfl;by_cases hK0:K=0
 ·subst hK0;have hR:rC c new.data.toList s.data.toList=s.data.toList:=adp c _ _ hK;clear hK hmul hKs
  go_enter L.f154,Body.n154_ntmps ρ
  go_wp2_with (first | (go_at_fn (ρ.f 138);refine hC.mono ?_;rintro e w' ⟨rfl,hw⟩;rw[hw]))
  go_ret
  rw[hR,Lib.mk_data];exact⟨rfl,Below.refl _ _⟩
 ·have hcz:((K:Int)==0)=false:=afB.2 (by omega);have mixed:=L.mixed;have hga:=Lib.grow_arg s.size K new.size 1 (by omega) (by omega) (by omega);have e143:∀args w,(callFunc (ρ.f 143) args).run P w = .ok (.enter (ρ.f 143) args) w:=enters_of L.f143 (by kernel_rfl) rfl;have e165:∀args w,(callFunc (ρ.f 165) args).run P w = .ok (.enter (ρ.f 165) args) w:=enters_of L.f165 (by kernel_rfl) rfl;have e166:∀args w,(callFunc (ρ.f 166) args).run P w = .ok (.enter (ρ.f 166) args) w:=enters_of L.f166 (by kernel_rfl) rfl;have e169:∀args w,(callFunc (ρ.f 169) args).run P w = .ok (.enter (ρ.f 169) args) w:=enters_of L.f169 (by kernel_rfl) rfl;have HK:=Any.hidR hK;clear hK hK0
  go_enter L.f154,Body.n154_ntmps ρ
  go_wp2_with (first | (go_at_fn (ρ.f 138);refine hC.mono ?_;rintro e w' ⟨rfl,hw⟩;rw[hw]))
  clear hC;have hgb:(0:Int)<=(new.size:Int)/\(new.size:Int)<=1000:=by omega
  have aAx:wrap64 ((s.size:Int)+wrap64 ((K:Int)*((new.size:Int)-1)))=((s.size+K*new.size-K:Nat):Int):=by rw[show((1:Nat):Int)=1 from rfl,IntWalk.wrap64_in ((new.size:Int)-1) ⟨by omega,by omega⟩,afK]at hga;exact hga
  rw[aAx];clear hga aAx hgb;refine(Any.Builder_Grow_fresh { L with } X w.heap.size w.heap.size _ _ (ab8 _) (heap_alloc_new w _) (by simp) (by omega)).mono ?_;rintro e w1 ⟨rfl,hb0,hb1⟩;have A0:=Any.hidR (Or.inr hb0:Lib.IsBuilder (ρ.t 72) (ρ.t 5) w.heap.size w.heap.size (Lib.byteCells []) w1);have B0:=Any.hidR (((Below.refl w.heap.size w).alloc (ab8 _) _).trans hb1);have I0:=Any.hidR (afn (rC c new.data.toList s.data.toList));clear hb0 hb1
  go_wp2_with fail
  go_loopg [11,53] K (fun left p11 p53 wx=>∃(i from_:Nat) (done:anY),p53 = .int .i64 i/\p11 = .int .i64 from_/\i+left=K/\from_<=s.size/\done.length<=from_+i*1000 /\
   Hid (Lib.countByte (s.data.toList.drop from_) c=left)/\Hid (Lib.IsBuilder (ρ.t 72) (ρ.t 5) w.heap.size w.heap.size (Lib.byteCells done) wx)/\Hid (Below w.heap.size w wx) /\
   Hid (done++rC c new.data.toList (s.data.toList.drop from_)=rC c new.data.toList s.data.toList))
  case atStart=>exact⟨0,0,[],rfl,rfl,by omega,aa4 _,aa4 _,HK,A0,B0,I0⟩
  case round =>
   obtain⟨i,from_,done,rfl,rfl,q1,q2,q3,CT,BD,BW,RP⟩:=hrel;have hBw:w.heap.size<=wr.heap.size:=BW.out.size;have c1:(0:Int)<=(from_:Int):=by omega
   have c2:(from_:Int)<=(s.size:Int):=by omega
   cases gk with
   | zero =>
    have hiK:¬ ((i:Int)<(K:Int)):=by omega
    go_wp2_with fail
    refine(Any.Builder_WriteString { L with } X w.heap.size w.heap.size _ _ wr BD.out (by rw[Lib.byteCells_length,ByteArray.size_extract];omega) hBw).mono ?_;rintro e w3 ⟨rfl,h3,hb3⟩;have hR:done++s.data.toList.drop from_=rC c new.data.toList s.data.toList:=by have:=RP.out;rw[adp c _ _ CT.out]at this;exact this
    rw[Lib.strCells_eq,Lib.extract_to_end,<- Lib.byteCells_append,hR]at h3;have A3:=Any.hidR (Or.inr h3:Lib.IsBuilder (ρ.t 72) (ρ.t 5) w.heap.size w.heap.size _ w3);have B3:=Any.hidR (BW.out.trans hb3);have hBw3:w.heap.size<=w3.heap.size:=B3.out.size;clear h3 hb3 hR
    go_wp2_with fail
    refine(Any.Builder_String_any { L with } X w.heap.size w.heap.size _ w3 A3.out hBw3).mono ?_;rintro e w5 ⟨rfl,hb5⟩;have B5:=Any.hidR (B3.out.trans hb5);clear hb5
    go_wp2
    go_ret
    exact⟨rfl,B5.out⟩
   | succ left =>
    have hiK:(i:Int)<(K:Int):=by omega
    obtain⟨j,j1,j2,j3,j4⟩:=ai6 c new.data.toList _ left CT.out;rw[ach,hlenL]at j2;have c3:(from_:Int)<=(from_:Int)+(j:Int):=by omega
    have c4:(from_:Int)+(j:Int)<=(s.size:Int):=by omega
    have N3:=Any.hidR (show Lib.countByte (s.data.toList.drop (from_+j+1)) c=left by rw[akA]at j3;exact j3);have N4:=Any.hidR (show(done++(s.data.toList.drop from_).take j++new.data.toList)++rC c new.data.toList (s.data.toList.drop (from_+j+1))=rC c new.data.toList s.data.toList by rw[<- RP.out,j4,akA];simp only[ab9,ajU])
    have N5:=Any.hidR (show Lib.byteCells done++Lib.strCells (s.extract from_ (from_+j))++Lib.strCells new=Lib.byteCells (done++(s.data.toList.drop from_).take j++new.data.toList) by rw[Lib.strCells_eq,Lib.strCells_eq,Lib.extract_data,Nat.add_sub_cancel_left,<- Lib.byteCells_append,<- Lib.byteCells_append])
    have N6:(done++(s.data.toList.drop from_).take j++new.data.toList).length<=from_+j+1+(i+1)*1000:=by
     have e1:((s.data.toList.drop from_).take j).length<=j:=by rw[acu];omega
     have e2:new.data.toList.length<=1000:=by rw[<- Lib.size_eq];exact hn
     rw[List.length_append,List.length_append];omega
    have J1:=Any.hidR (show ∀w:World,Calls P (ρ.f 143) #[.string (s.extract from_ s.size),.string old] w fun e w'=>e = .returned (.int .i64 j)/\w'=w from fun w=>by rw[HO.out];have:=Any.strings_Index_one (P:=P) (ρ:=ρ) { L with } (s.extract from_ s.size) c w;rw[Lib.extract_to_end,j1]at this;exact this)
    clear j1 j3 j4 RP CT
    go_wp2_with (first | (go_at_fn (ρ.f 143);refine(J1.out _).mono ?_;rintro e w' ⟨rfl,hw⟩;rw[hw]))
    refine(Any.Builder_WriteString { L with } X w.heap.size w.heap.size _ (s.extract from_ (from_+j)) wr BD.out (by rw[Lib.byteCells_length,ByteArray.size_extract];omega) hBw).mono ?_;rintro e w3 ⟨rfl,h3,hb3⟩;have hBw3:w.heap.size<=w3.heap.size:=Nat.le_trans hBw hb3.size;have A3:=Any.hidR h3;have B3:=Any.hidR hb3;clear h3 hb3
    go_wp2_with fail
    refine(Any.Builder_WriteString { L with } X w.heap.size w.heap.size _ new w3 (Or.inr A3.out) (by rw[List.length_append,Lib.byteCells_length,Lib.strCells_length,ByteArray.size_extract];omega) hBw3).mono ?_;rintro e w4 ⟨rfl,h4,hb4⟩;rw[N5.out]at h4;have A4:=Any.hidR (Or.inr h4:Lib.IsBuilder (ρ.t 72) (ρ.t 5) w.heap.size w.heap.size _ w4);have B4:=Any.hidR ((BW.out.trans B3.out).trans hb4);clear h4 hb4
    go_wp2
    go_roundg left
    case measure=>omega
    case rel=>exact⟨i+1,from_+j+1,_,by first | rfl | (simp;unfold wrap64;omega),by first | rfl | simp | (simp;unfold wrap64;omega),by omega,by omega,N6,N3,A4,B4,N4⟩
end
theorem ayM {f:FuncId} {a b c d t:E.Ty} {ok:E.Den a->E.Den b->E.Den c->E.Den d->Bool} {F:E.Den a->E.Den b->E.Den c->E.Den d->E.Den t} (ex:∃fn,Tryz.prog.funcs[f]? = some fn/\(fn.name == "runtime.NumGoroutine")=false/\fn.body.isNone=false) (h:∀x y z u,ok x y z u=true->EU E f [⟨a,x⟩,⟨b,y⟩,⟨c,z⟩,⟨d,u⟩] [⟨t,F x y z u⟩]):aV E f (fn4 a b c d t ok F) :=
 ⟨ex,fun args r hr=>by
  unfold fn4 at hr;split at hr
  ·split at hr
   ·rename_i x y z u hx hy hz hu;injection hr with hr
    injection hr with h1 h2
    subst h2;rw[iI hx,iI hy,iI hz,iI hu];exact h _ _ _ _ h1
   ·cases hr
  ·cases hr⟩
def U8(s old new:anY)(n:Int):Bool:=decide (s.length<=1000000)&&decide (old.length=1)&&decide (new.length<=1000)&&(n == -1)&&!(old==new)
def Yt(s old new:anY)(_:Int):anY:=rC (old.headD 0) new s
noncomputable def anB:iU E:=fn4 (E:=E) .str .str .str .int .str U8 Yt
def avQ:FuncId:=266
theorem avR:aV E avQ anB:=ayM ⟨Tryz.f266,by kernel_rfl,by kernel_rfl,by kernel_rfl⟩ fun s old new n hk=>by
 simp only[U8,abK,ab6,beq_iff_eq,ah3,afB]at hk;obtain⟨⟨⟨⟨h1,h2⟩,h3⟩,rfl⟩,h5⟩:=hk;obtain⟨c,rfl⟩:∃c,old=[c]:=by
  match old,h2 with
  | [c],_=>exact⟨c,rfl⟩
 intro w ro vals hargs kR
 match vals,hargs with
 | [v1,v2,v3,v4],⟨q1,q2,q3,q4,_⟩ =>
  rw[LX q1,LX q2,LX q3,aiX q4];refine(avP Tryz.lays154 Tryz.Builder_Extra_154 ⟨s.toArray⟩ ⟨new.toArray⟩ c w (by simpa[ByteArray.size]using h1) (by simpa[ByteArray.size]using h3) (fun e=>h5 (by have:=congrArg (fun b:ByteArray=>b.data.toList) e;simpa using this))).mono fun e w' he=>?_
  obtain⟨he,hb⟩:=he;refine⟨_,he,hb,.inr ⟨rfl,.str (rC c new s),rfl,?_⟩⟩;exact .str _
noncomputable def adq:iU E:=fn3 (E:=E) .str .str .str .str (fun s old new=>U8 s old new (-1)) (fun s old new=>Yt s old new (-1))
def ai8:FuncId:=247
noncomputable def adr(_G:gY E)(x0 x1 x2:anY):Option (List (TV E)) :=
 bif(U8 x0 x1 x2 (-1))then some [⟨.str,(Yt x0 x1 x2 (-1))⟩]else none
theorem avS:aJ E (iV [(266,anB)] [] [] []):=eU (.cons avR .nil) .nil .nil .nil
theorem alT(h:∀(x0:anY) (x1:anY) (x2:anY),(fun s old new=>U8 s old new (-1)) x0 x1 x2=true->adr (Gr E Tryz.f247 [⟨.str,(fun s old new=>Yt s old new (-1)) x0 x1 x2⟩]) x0 x1 x2=some [⟨.str,(fun s old new=>Yt s old new (-1)) x0 x1 x2⟩]):aV E ai8 adq:=UL avS mix Tryz.func247 (by kernel_rfl) (by kernel_rfl) (fun x0 x1 x2 hk=>fT (H:={}) (t:=fun G=>adr G x0 x1 x2) (fun G=>by kernel_rfl) (h x0 x1 x2 hk))
theorem avT:aV E ai8 adq:=alT fun s old new hk=>by simp only[adr,hk,cond_true]
def RG(s p:anY)(a b:Int):Bool:=decide (s.length<=1000000)&&decide (p.length=1)&&(a==0)&&(b == -1)
def eY(s p:anY)(_ _:Int):List (anY):=Lib.split s p
def Zw:Yh E
 | [a,b,c,d]=>match jQ (E:=E) Ty.str a,jQ (E:=E) Ty.str b,jQ (E:=E) Ty.int c,jQ (E:=E) Ty.int d with
  | some s,some p,some m,some n=>some (RG s p m n,⟨Ty.str,eY s p m n⟩)
  | _,_,_,_=>none
 | _=>none
theorem aqd:Px E 242 Zw:=⟨⟨Tryz.f242,by kernel_rfl,by kernel_rfl,by kernel_rfl⟩,fun args t l hF=>by
 unfold Zw at hF;split at hF
 ·rename_i a b c d;split at hF
  ·rename_i s p m n ha hb hc hd;injection hF with hF
   injection hF with hok hF
   cases hF;rw[iI ha,iI hb,iI hc,iI hd];simp only[RG,abK,ab6,beq_iff_eq]at hok;obtain⟨⟨⟨hs,hp⟩,rfl⟩,rfl⟩:=hok;obtain⟨c,rfl⟩:∃c,p=[c]:=by
    match p,hp with
    | [c],_=>exact⟨c,rfl⟩
   intro w ro vals hargs kR
   match vals,hargs with
   | [v1,v2,v3,v4],⟨h1,h2,h3,h4,_⟩ =>
    rw[LX h1,LX h2,aiX h3,aiX h4];have hp1:1<=(⟨#[c]⟩:ByteArray).size:=ab8 1;have hle:=Lib.countB_le ⟨#[c]⟩ hp1 _ ⟨s.toArray⟩ (ab8 _);have hsz:(⟨s.toArray⟩:ByteArray).size=s.length:=by simp[ByteArray.size]
    have hix:∀x:ByteArray,Lib.indexB x ⟨#[c]⟩=Lib.indexByte x.data.toList c:=fun x=>Lib.index_one _ _
    have hct:∀x:ByteArray,Lib.countB x ⟨#[c]⟩=Lib.countByte x.data.toList c:=fun x=>Lib.count_one c _
    have hlen:=Lib.splitB_all ⟨#[c]⟩ hp1 0 _ (⟨s.toArray⟩:ByteArray) rfl;refine(Any.strings_genSplit_core Tryz.lays221 (by kernel_rfl) ⟨s.toArray⟩ ⟨#[c]⟩ 0 (-1) (Lib.countB ⟨s.toArray⟩ ⟨#[c]⟩+1) w (by omega) hp1 (aa4 _)
     (fun x k hx=>by rw[hix];exact Any.strings_Index_one (ρ:=Tryz.lays221_ren) { Tryz.lays221 with } x c _)
     (by rw[hct];exact Any.strings_Count_one (ρ:=Tryz.lays221_ren) { Tryz.lays221 with } ⟨s.toArray⟩ c w) (by decide) (by decide) (by rw[if_pos (by decide)];omega)).mono fun e w' he=>?_
    obtain⟨rfl,rfl⟩:=he;rw[Nat.add_sub_cancel,hlen];have e2:Lib.cellsOf (Lib.splitB ⟨#[c]⟩ 0 (Lib.countB ⟨s.toArray⟩ ⟨#[c]⟩) ⟨s.toArray⟩) (Lib.countB ⟨s.toArray⟩ ⟨#[c]⟩+1)=((Lib.splitB ⟨#[c]⟩ 0 (Lib.countB ⟨s.toArray⟩ ⟨#[c]⟩) ⟨s.toArray⟩).map Value.string).toArray:=by rw[<- hlen];exact Lib.cellsOf_full _
    rw[e2];have hd:(Lib.splitB ⟨#[c]⟩ 0 (Lib.countB ⟨s.toArray⟩ ⟨#[c]⟩) ⟨s.toArray⟩).map (·.data.toList)=Lib.split s [c]:=Lib.splitB_data ⟨#[c]⟩ 0 _ ⟨s.toArray⟩;generalize hL:Lib.splitB ⟨#[c]⟩ 0 (Lib.countB ⟨s.toArray⟩ ⟨#[c]⟩) ⟨s.toArray⟩=L at hlen hd ⊢;generalize hN:Lib.countB ⟨s.toArray⟩ ⟨#[c]⟩+1=N at hlen hle ⊢;have hN2:N<=1000001:=by omega
    have hl2:(Lib.split s [c]).length=N:=by rw[<- hd,List.length_map,hlen]
    have hty:E.tid Ty.str=Tryz.lays221_ren.t 9:=rfl;refine⟨⟨.slice (some ⟨w.heap.size,0,none⟩) N N,N,E.tid Ty.str,E.size Ty.str,some w.heap.size⟩,L.map Value.string,rfl,Below.alloc (Below.refl _ _) (ab8 _) _,hl2.symm,rfl,rfl,.inl ⟨⟨?_,.inr ⟨w.heap.size,N,(L.map Value.string).toArray,rfl,aa4 _,heap_alloc_new w _,ab8 _,?_,?_,?_⟩⟩,rfl⟩,?_,?_⟩
    ·show(L.map Value.string).length=N*1;rw[List.length_map,hlen,afK]
    ·show N<=maxLen;unfold maxLen;omega
    ·show(L.map Value.string).toArray.size=N*1;simp[hlen]
    ·show(L.map Value.string).toArray.toList.take (N*1)=_;rw[afK,List.toList_toArray];exact aeV (by rw[List.length_map,hlen];exact ab8 _)
    ·intro i x j k hx hc;have hi:(L.map (·.data.toList))[i]? = some x:=by rw[hd];exact hx
     rw[acj]at hi;cases hq:L[i]? with
     | none=>rw[hq]at hi;cases hi
     | some b =>
      rw[hq]at hi;injection hi with hi
      match j,hc with
      | 0,hc =>
       have hc:some (bQ.str x:bQ E.Den)=some k:=hc;injection hc with hc
       subst hc;refine⟨.string b,?_,?_⟩
       ·show(L.map Value.string)[i*1+0]? = _;rw[afK,afS,acj,hq];rfl
       ·rw[<- hi];exact .str b.data.toList
      | j+1,hc=>cases hc
    ·intro g hg;cases hg;exact ab8 _
  ·cases hF
 ·cases hF⟩
def mJ(x0 x1:anY):Te (Bool) Empty:=.l (bZ (aC x1) (aC x0)) fun z1=>.q ((bZ 0 0&&bZ 0 (aC x1)&&bZ (aC x1) (aC x0))||!z1) (.k (aab z1 (cut x0 0 (aC x1)==x1)))
def iJ(x0 x1:anY):=(mJ x0 x1).o
def EA:=(tH.e (E:=E) mix).f0 93 [.str,.str] [.bool] (fun a=>mJ a.1 a.2) Tryz.func93
def Ab(x0 x1:anY):Te (Bool) Empty:=.c (iJ x0 x1) fun y1=>.k y1
def HZ(x0 x1:anY):=(Ab x0 x1).o
def TT:=EA.f0 62 [.str,.str] [.bool] (fun a=>Ab a.1 a.2) Tryz.func62
def EB(x0:anY):Te (Bool) Empty:=.c (HZ x0 [120,45]) fun y1=>.k y1
def tO(x0:anY):=(EB x0).o
def Zx:=TT.f0 38 [.str] [.bool] (fun a=>EB a) Tryz.func38
def LY(x0:Int):Te (Bool) Empty:=.k (aab (bZ 97 x0) (bZ x0 122))
def wX(x0:Int):=(LY x0).o
def ai9:=Zx.f0 69 [.byte] [.bool] (fun a=>LY a) Tryz.func69
def Ec(x0:Int):Te (Bool) Empty:=.c (wX x0) fun y1=>.k (aM y1 (aab (bZ 65 x0) (bZ x0 90)))
def oz(x0:Int):=(Ec x0).o
def agh:=ai9.f0 95 [.byte] [.bool] (fun a=>Ec a) Tryz.func95
def Ki(x0:Int):Te (Bool) Empty:=.k (aab (bZ 48 x0) (bZ x0 57))
def fG(x0:Int):=(Ki x0).o
def agi:=agh.f0 70 [.byte] [.bool] (fun a=>Ki a) Tryz.func70
def yJ(x0:Int):Te (Bool) Empty:=.c (oz x0) fun y1=>.q (((fG x0).isSome)||!(!y1)) (.k (aM y1 (gv (fG x0))))
def EC(x0:Int):=(yJ x0).o
def Zy:=agi.f0 94 [.byte] [.bool] (fun a=>yJ a) Tryz.func94
def Zz(x0:Int):Te (Bool) Empty:=.c (oz x0) fun y1=>.q (((fG x0).isSome)||!(!y1)) (.k (aM (aM (aM (aM y1 (gv (fG x0))) (x0==45)) (x0==95)) (x0==46)))
def ZA:=Zy.f0 96 [.byte] [.bool] (fun a=>Zz a) Tryz.func96
inductive nC where
 | e (x0:anY)
 | h0 (v0:anY) (v1:Int)
def dJ:nC->Te (Bool) nC
 | .e x0=>.l (EC (uH x0 0)) fun z2=>.l (aM (aF (aC x0) 1) (aF 24 (aC x0))) fun z1=>.q (fU x0 0||!(!z1)) (.q ((z2.isSome)||!(!z1)) (.b (aM z1 (!(gv z2))) (.k false) (.g (.h0 x0 1))))
 | .h0 v0 v1=>.b (aF v1 (aC v0)) (.s v0 v1 fun y1=>.c (oz y1) fun y2=>.q (((fG y1).isSome)||!(!y2)) (.b (!(aM (aM (aM (aM y2 (gv (fG y1))) (y1==45)) (y1==95)) (y1==46))) (.k false) (.g (.h0 v0 (au (v1+1)))))) (.k true)
def jA(x0:anY):=mu dJ (.e x0)
def yh:=(ZA.I 96 Tryz.func96).cl 67 [.bool] [.v .str,.c 94 [] [],.c 96 [] []] dJ (fun a=>.e a) (fun | .e x0=>.c [.v ⟨.str,x0⟩,.c 94 [] [],.c 96 [] []] | .h0 v0 v1=>.h 0 ⟨35,[(0,sS v0),(2,sF 96),(7,sI v1)],[],0⟩) { live:=[(0,[0,2,7])] } Tryz.func67
def BR(x0:anY):Te (Bool) Empty:=.c (jA x0) fun y1=>.k y1
def iQ(x0:anY):=(BR x0).o
def ads:=yh.f0 64 [.str] [.bool] (fun a=>BR a) Tryz.func64
inductive Tg where
 | e (x0:List (anY))
 | h0 (v0:List (anY)) (v1:List (anY)) (v2:Int) (v3:Int)
def uP:Tg->Te ((anY)) Tg
 | .e x0=>.g (.h0 [] x0 (x0.length) 0)
 | .h0 v0 v1 v2 v3=>.b (aF v3 v2) (.i v1 v3 fun y1=>.b (!(y1==[])) (.q (decide ((v0.length+([y1]:List (anY)).length)*16<=av)) (.g (.h0 (v0++([y1]:List (anY))) v1 v2 (au (v3+1))))) (.g (.h0 v0 v1 v2 (au (v3+1))))) (.q (ado v0 [46]) (.k (Lib.join v0 [46])))
def zq(x0:List (anY)):=mu uP (.e x0)
def agj:=(ads.W 97 anz avM).fl 65 [.bH] [.str] uP (fun a=>.e a) (fun | .e x0=>.e [⟨.bH,x0⟩] | .h0 v0 v1 v2 v3=>.h 0 ⟨21,[(3,.grow .str v0 0),(6,sL .str v1),(7,sI v2),(8,sI v3)],[(0,.tail true)],1⟩) { live:=[(0,[3,6,7,8])],nk:=[(0,[(3,none,true,.str)])] } Tryz.func65
def I8:Te (An×Int) Empty:=.k (⟨0,[],[],[]⟩,10)
def eO:=(I8).o
def alU:=agj.f0 100 [] [.ah,.bq] (fun _=>I8) Tryz.func100
def Kj(x0:anY):Te (Bool) Empty:=.k (aab (!(x0==[])) (bZ (aC x0) 64))
def Kk(x0:anY):=(Kj x0).o
def agk:=alU.f0 147 [.str] [.bool] (fun a=>Kj a) Tryz.func147
def nN(x0:An):Te (An×Int) Empty:=.l (Kk x0.text) fun z1=>.q ((z1.isSome)||!(!(x0.kind != 1))) (.b (aM (x0.kind != 1) (!(gv z1))) (.c eO fun y1=>.k (aj (y1.1),y1.2)) (.k (aj x0,0)))
def nO(x0:An):=(nN x0).o
def LZ:=agk.c0 146 [.ah,.bq] [.v .ah,.c 147 [] []] (fun a=>nN a) Tryz.func146
def I9(x0:An):Te (An×Int) Empty:=.c (nO (aj x0)) fun y1=>.k (aj (y1.1),y1.2)
def zO(x0:An):=(I9 x0).o
def alV:=LZ.f0 111 [.ah] [.ah,.bq] (fun a=>I9 a) Tryz.func111
def Iq(x0:An)(x1:Int):Te (Bool) Empty:=.k (aab (x0.kind==x1) (bZ (aC x0.kids) 32))
def jU(x0:An)(x1:Int):=(Iq x0 x1).o
def adt:=alV.f0 73 [.ah,.int] [.bool] (fun a=>Iq a.1 a.2) Tryz.func73
inductive U9 where
 | e (x0:An)
 | h0 (v0:List (anY)) (v1:List An) (v2:Int) (v3:Int) (v4:An)
def wY:U9->Te ((List (anY))×Bool) U9
 | .e x0=>.g (.h0 [] x0.kids (x0.kids.length) 0 x0)
 | .h0 v0 v1 v2 v3 v4=>.b (aF v3 v2) (.i v1 v3 fun y1=>.b (y1.kind != 1) (.k ([],false)) (.q (decide ((v0.length+([y1.text]:List (anY)).length)*16<=av)) (.g (.h0 (v0++([y1.text]:List (anY))) v1 v2 (au (v3+1)) v4)))) (.c (jU (aj v4) 2) fun y2=>.k (v0,y2))
def nP(x0:An):=mu wY (.e x0)
def aja:=adt.fl 72 [.ah] [.bH,.bool] wY (fun a=>.e a) (fun | .e x0=>.e [⟨.ah,x0⟩] | .h0 v0 v1 v2 v3 v4=>.h 0 ⟨26,[(1,.ptr 0 0),(4,.grow .str v0 1),(8,sL .ah v1),(9,sI v2),(10,sI v3)],[(0,.box [.d (.int .i64 v4.kind),.d (.str v4.text),.d (.slice .str v4.keys),.d (.slice .ah v4.kids)]),(1,.tail true)],2⟩) { live:=[(0,[1,4,8,9,10])],nk:=[(0,[(4,none,true,.str)])] } Tryz.func72
def L6(x0:Int):Te (Bool) Empty:=.k (aM (x0==32) (x0==9))
def Gl(x0:Int):=(L6 x0).o
def ajb:=aja.f0 207 [.byte] [.bool] (fun a=>L6 a) Tryz.func207
inductive Gm where
 | e (x0:anY)
 | ZB (v0:List (anY)) (v1:List Int) (v2:Bool)
 | w9 (v0:anY) (v1:List (anY)) (v2:List Int) (v3:Int) (v4:Bool)
 | RH (v0:anY) (v1:List (anY)) (v2:List Int) (v3:Int) (v4:Bool)
 | Kl (v0:anY) (v1:List (anY)) (v2:List Int) (v3:Int) (v4:Bool)
def ig:Gm->Te ((List (anY))×Int) Gm
 | .e x0=>.l (fU x0 0) fun z1=>.b (0==aC x0) (.g (.ZB [] [] false)) (.s x0 0 fun y1=>.c (Gl y1) fun y2=>.b y2 (.g (.w9 x0 [] [] 1 false)) (.q z1 (.b (y1==39) (.g (.RH x0 [] [] 1 true)) (.q z1 (.b (y1==34) (.g (.Kl x0 [] [] 1 true)) (.q z1 (.b (y1==92) (.b (1==aC x0) (.k ([],3)) (.s x0 1 fun y6=>.q (decide (([y6]:List Int).length*1<=av)) (.g (.w9 x0 [] [y6] 2 true)))) (.q z1 (.q (decide (([y1]:List Int).length*1<=av)) (.g (.w9 x0 [] [y1] 1 true)))))))))))
 | .ZB v0 v1 v2=>.b v2 (.q (decide ((v0.length+([(List.map (fun y=>UInt8.ofNat (Int.toNat y)) v1)]:List (anY)).length)*16<=av)) (.b (decide (32<aC (v0++([(List.map (fun y=>UInt8.ofNat (Int.toNat y)) v1)]:List (anY))))) (.k ([],9)) (.k ((v0++([(List.map (fun y=>UInt8.ofNat (Int.toNat y)) v1)]:List (anY))),0)))) (.b (aF 32 (aC v0)) (.k ([],9)) (.k (v0,0)))
 | .w9 v0 v1 v2 v3 v4=>.l (fU v0 v3) fun z2=>.l (au (v3+1)) fun z1=>.b (v3==aC v0) (.g (.ZB v1 v2 v4)) (.s v0 v3 fun y1=>.c (Gl y1) fun y2=>.b y2 (.b v4 (.q (decide ((v1.length+([(List.map (fun y=>UInt8.ofNat (Int.toNat y)) v2)]:List (anY)).length)*16<=av)) (.g (.w9 v0 (v1++([(List.map (fun y=>UInt8.ofNat (Int.toNat y)) v2)]:List (anY))) [] z1 false))) (.g (.w9 v0 v1 v2 z1 v4))) (.q z2 (.b (y1==39) (.g (.RH v0 v1 v2 z1 true)) (.q z2 (.b (y1==34) (.g (.Kl v0 v1 v2 z1 true)) (.q z2 (.b (y1==92) (.b (z1==aC v0) (.k ([],3)) (.s v0 z1 fun y6=>.q (decide ((v2.length+([y6]:List Int).length)*1<=av)) (.g (.w9 v0 v1 (v2++([y6]:List Int)) (au (z1+1)) true)))) (.q z2 (.q (decide ((v2.length+([y1]:List Int).length)*1<=av)) (.g (.w9 v0 v1 (v2++([y1]:List Int)) z1 true)))))))))))
 | .RH v0 v1 v2 v3 v4=>.l (Io (cut v0 v3 (aC v0)) 39) fun z1=>.l (au (v3+z1)) fun z2=>.q (bN v0 v3 (aC v0)) (.b (bZ 0 z1) (.q (bN v0 v3 z2) (.q (decide ((v2.length+(List.map (fun b:UInt8=>((b.toNat:Nat):Int)) (cut v0 v3 z2)).length)*1<=av)) (.g (.w9 v0 v1 (v2++(List.map (fun b:UInt8=>((b.toNat:Nat):Int)) (cut v0 v3 z2))) (au (v3+au (z1+1))) v4)))) (.k ([],3)))
 | .Kl v0 v1 v2 v3 v4=>.l (fU v0 v3) fun z3=>.l (v2++([92]:List Int)) fun z2=>.l (au (v3+1)) fun z1=>.l (fU v0 z1) fun z4=>.q (z3||!((!(v3==aC v0))&&(z1==aC v0))) (.b (aM (v3==aC v0) (aab (z1==aC v0) (uH v0 v3==92))) (.k ([],3)) (.s v0 v3 fun y1=>.b (y1==34) (.g (.w9 v0 v1 v2 z1 v4)) (.q z3 (.b (y1==92) (.s v0 z1 fun y3=>.q (z4||!(y3 != 34)) (.b (aab (y3 != 34) (y3 != 92)) (.q (decide ((v2.length+([92]:List Int).length)*1<=av)) (.q z4 (.q (decide ((z2.length+([y3]:List Int).length)*1<=av)) (.g (.Kl v0 v1 (z2++([y3]:List Int)) (au (z1+1)) v4))))) (.q z4 (.q (decide ((v2.length+([y3]:List Int).length)*1<=av)) (.g (.Kl v0 v1 (v2++([y3]:List Int)) (au (z1+1)) v4)))))) (.q z3 (.q (decide ((v2.length+([y1]:List Int).length)*1<=av)) (.g (.Kl v0 v1 (v2++([y1]:List Int)) z1 v4))))))))
def Gp(x0:anY):=mu ig (.e x0)
def ajc:=(ajb.W 208 anA avO).fl 148 [.str] [.bH,.bq] ig (fun a=>.e a) (fun | .e x0=>.e [⟨.str,x0⟩] | .ZB v0 v1 v2=>.h 100 ⟨141,[(4,.grow .str v0 0),(5,.grow .byte v1 1),(7,sB v2)],[(0,.tail true),(1,.tail true)],2⟩ | .w9 v0 v1 v2 v3 v4=>.h 101 ⟨141,[(0,sS v0),(4,.grow .str v1 0),(5,.grow .byte v2 1),(6,sI v3),(7,sB v4)],[(0,.tail true),(1,.tail true)],2⟩ | .RH v0 v1 v2 v3 v4=>.h 102 ⟨141,[(0,sS v0),(4,.grow .str v1 0),(5,.grow .byte v2 1),(6,sI v3),(7,sB v4)],[(0,.tail true),(1,.tail true)],2⟩ | .Kl v0 v1 v2 v3 v4=>.h 103 ⟨141,[(0,sS v0),(4,.grow .str v1 0),(5,.grow .byte v2 1),(6,sI v3),(7,sB v4)],[(0,.tail true),(1,.tail true)],2⟩) { live:=[(100,[4,5,7]),(101,[0,4,5,6,7]),(102,[0,4,5,6,7]),(103,[0,4,5,6,7])],nk:=[(100,[(5,none,true,.byte),(4,none,true,.str)]),(101,[(5,none,true,.byte),(4,none,true,.str)]),(102,[(4,none,true,.str),(5,none,true,.byte)]),(103,[(4,none,true,.str),(5,none,true,.byte)])] } Tryz.func148
inductive abw where
 | e (x0:List (anY))
 | h0 (v0:List (anY)) (v1:Int) (v2:Int) (v3:Int) (v4:anY) (v5:Int) (v6:anY) (v7:List An)
def BS:abw->Te (An) abw
 | .e x0=>.g (.h0 x0 (x0.length) 0 0 [] 2 [] [])
 | .h0 v0 v1 v2 v3 v4 v5 v6 v7=>.b (aF v2 v1) (.i v0 v2 fun y1=>.q (decide ((v7.length+([dz y1]:List An).length)*72<=av)) (.g (.h0 v0 v1 (au (v2+1)) v3 v4 v5 v6 (v7++([dz y1]:List An))))) (.k ⟨v5,v6,[],v7⟩)
def Gq(x0:List (anY)):=mu BS (.e x0)
def aqe:=(ajc.W 152 adj avI).fl 149 [.bH] [.ah] BS (fun a=>.e a) (fun | .e x0=>.e [⟨.bH,x0⟩] | .h0 v0 v1 v2 v3 v4 v5 v6 v7=>.h 0 ⟨22,[(2,.ptr 0 0),(3,.ptr 1 0),(7,sL .str v0),(8,sI v1),(9,sI v2)],[(0,.box [sI v3,sS v4,.d (.raw (.slice none 0 0)),.d (.raw (.slice none 0 0))]),(1,.box [sI v5,sS v6,.d (.raw (.slice none 0 0)),.grow .ah v7 2]),(2,.tail true)],3⟩) { live:=[(0,[2,3,7,8,9])],nk:=[(0,[(3,some 3,true,.ah)])] } Tryz.func149
def Gs(x0:An):Te (An×Int) Empty:=.c (nP (aj x0)) fun y1=>.b (x0.kind==1) (.c (Gp x0.text) fun y2=>.b (!(y2.2==0)) (.c eO fun y3=>.k (aj (y3.1),y3.2)) (.c (Gq (y2.1)) fun y4=>.k (aj y4,0))) (.b (!y1.2) (.c eO fun y5=>.k (aj (y5.1),y5.2)) (.c (Gq (y1.1)) fun y6=>.k (aj y6,0)))
def xg(x0:An):=(Gs x0).o
def ajd:=aqe.f0 112 [.ah] [.ah,.bq] (fun a=>Gs a) Tryz.func112
def wJ(x0:Int):Te (Bool) Empty:=.c (oz x0) fun y1=>.k (aM y1 (x0==95))
def CU(x0:Int):=(wJ x0).o
def XT:=ajd.f0 209 [.byte] [.bool] (fun a=>wJ a) Tryz.func209
def XU(x0:Int):Te (Bool) Empty:=.c (oz x0) fun y1=>.q (((fG x0).isSome)||!(!y1)) (.k (aM (aM y1 (gv (fG x0))) (x0==95)))
def XV:=XT.f0 210 [.byte] [.bool] (fun a=>XU a) Tryz.func210
inductive mE where
 | e (x0:anY)
 | h0 (v0:anY) (v1:Int)
def dw:mE->Te (Bool) mE
 | .e x0=>.l (CU (uH x0 0)) fun z2=>.l (aM (aF (aC x0) 1) (aF 24 (aC x0))) fun z1=>.q (fU x0 0||!(!z1)) (.q ((z2.isSome)||!(!z1)) (.b (aM z1 (!(gv z2))) (.k false) (.g (.h0 x0 1))))
 | .h0 v0 v1=>.b (aF v1 (aC v0)) (.s v0 v1 fun y1=>.c (oz y1) fun y2=>.q (((fG y1).isSome)||!(!y2)) (.b (!(aM (aM y2 (gv (fG y1))) (y1==95))) (.k false) (.g (.h0 v0 (au (v1+1)))))) (.k true)
def jk(x0:anY):=mu dw (.e x0)
def wF:=(XV.I 210 Tryz.func210).cl 67 [.bool] [.v .str,.c 209 [] [],.c 210 [] []] dw (fun a=>.e a) (fun | .e x0=>.c [.v ⟨.str,x0⟩,.c 209 [] [],.c 210 [] []] | .h0 v0 v1=>.h 0 ⟨35,[(0,sS v0),(2,sF 210),(7,sI v1)],[],0⟩) { live:=[(0,[0,2,7])] } Tryz.func67
def Aj(x0:anY):Te (Bool) Empty:=.c (jk x0) fun y1=>.k y1
def Ak(x0:anY):=(Aj x0).o
def abx:=wF.f0 150 [.str] [.bool] (fun a=>Aj a) Tryz.func150
def yK(x0:form)(x1:Bool):Te (form×Bool) Empty:=.k (⟨aj x0.n,aM x0.bad x1⟩,x1)
def cu(x0:form)(x1:Bool):=(yK x0 x1).o
def ZC:=abx.b0 74 [.bool] [.bool] .mR (fun x a=>yK x a) Tryz.func74
def Al(x0:form)(x1:anY)(x2:An):Te (form×Unit) Empty:=.q (fM (aj x0.n) x1 (aj x2)) (.k (⟨aj (aY (aj x0.n) x1 (aj x2)),x0.bad⟩,()))
def cO(x0:form)(x1:anY)(x2:An):=(Al x0 x1 x2).o
def aby:=(ZC.W 28 adk avK).b0 75 [.str,.ah] [] .mR (fun x a=>Al x a.1 a.2) Tryz.func75
def yL(x0:form):Te (form×An×Int) Empty:=.b (aM x0.bad (aF 32 (aC x0.n.keys))) (.c eO fun y1=>.k (⟨aj x0.n,x0.bad⟩,aj (y1.1),y1.2)) (.q ((wg 10000 1000) ⟨3,x0.n.text,x0.n.keys,x0.n.kids⟩) (.k (⟨⟨3,x0.n.text,x0.n.keys,x0.n.kids⟩,x0.bad⟩,aj ((dS 1000) ⟨3,x0.n.text,x0.n.keys,x0.n.kids⟩),0)))
def dD(x0:form):=(yL x0).o
def ZE:=(aby.W 61 (pW 1000) (alS 1000)).b0 76 [] [.ah,.bq] .mR (fun x _=>yL x) Tryz.func76
inductive Va where
 | e (x0:An) (x1:Bool)
 | L8 (v0:List (anY)) (v1:Int) (v2:Int) (v3:Int) (v4:anY) (v5:form)
 | RI (v0:List (anY)) (v1:Int) (v2:Int) (v3:Int) (v4:anY) (v5:form)
 | L9 (v0:List (anY)) (v1:Int) (v2:Int) (v3:An) (v4:Int) (v5:anY) (v6:form)
 | RJ (v0:List (anY)) (v1:Int) (v2:Int) (v3:An) (v4:Int) (v5:anY) (v6:form)
def lS:Va->Te (An×Int) Va
 | .e x0 x1=>.l (nP (aj x0)) fun z2=>.l (jU (aj x0) 3) fun z1=>.b x1 (.c z2 fun y1=>.b y1.2 (.g (.L8 (y1.1) (aC (y1.1)) 0 0 [] ⟨⟨0,[],[],[]⟩,false⟩)) (.c z1 fun y2=>.b (!y2) (.c eO fun y3=>.k (aj (y3.1),y3.2)) (.g (.L9 x0.keys (aC x0.keys) 0 x0 0 [] ⟨⟨0,[],[],[]⟩,false⟩)))) (.c z2 fun y4=>.b y4.2 (.g (.RI (y4.1) (aC (y4.1)) 0 0 [] ⟨⟨0,[],[],[]⟩,false⟩)) (.c z1 fun y5=>.b (!y5) (.c eO fun y6=>.k (aj (y6.1),y6.2)) (.g (.RJ x0.keys (aC x0.keys) 0 x0 0 [] ⟨⟨0,[],[],[]⟩,false⟩))))
 | .L8 v0 v1 v2 v3 v4 v5=>.l (aj v5.n) fun z1=>.b (aF v2 v1) (.i v0 v2 fun y1=>.l (mI y1 [61]) fun z2=>.l (Ak z2) fun z3=>.q (vJ y1 [61]) (.q ((fun n _=>fit n) z1 z2) (.q ((z3.isSome)||!(!(aB z1 z2))) (.c (cu ⟨z1,v5.bad⟩ (aM (aB z1 z2) (!(gv z3)))) fun y2=>.c (cO ⟨aj ((y2.1).n),(y2.1).bad⟩ z2 (dz (qB y1 [61]))) fun y3=>.g (.L8 v0 v1 (au (v2+1)) v3 v4 ⟨aj ((y3.1).n),(y3.1).bad⟩))))) (.c (dD ⟨z1,v5.bad⟩) fun y4=>.k (aj (y4.2.1),y4.2.2))
 | .RI v0 v1 v2 v3 v4 v5=>.l (aj v5.n) fun z1=>.b (aF v2 v1) (.i v0 v2 fun y1=>.l (mI y1 [61]) fun z2=>.l (iQ z2) fun z3=>.q (vJ y1 [61]) (.q ((fun n _=>fit n) z1 z2) (.q ((z3.isSome)||!(!(aB z1 z2))) (.c (cu ⟨z1,v5.bad⟩ (aM (aB z1 z2) (!(gv z3)))) fun y2=>.c (cO ⟨aj ((y2.1).n),(y2.1).bad⟩ z2 (dz (qB y1 [61]))) fun y3=>.g (.RI v0 v1 (au (v2+1)) v3 v4 ⟨aj ((y3.1).n),(y3.1).bad⟩))))) (.c (dD ⟨z1,v5.bad⟩) fun y4=>.k (aj (y4.2.1),y4.2.2))
 | .L9 v0 v1 v2 v3 v4 v5 v6=>.b (aF v2 v1) (.i v0 v2 fun y1=>.l (Ak y1) fun z1=>.i v3.kids v2 fun y2=>.q ((z1.isSome)||!(!(aF 1 y2.kind))) (.c (cu ⟨aj v6.n,v6.bad⟩ (aM (aF 1 y2.kind) (!(gv z1)))) fun y3=>.c (cO ⟨aj ((y3.1).n),(y3.1).bad⟩ y1 (dz (y2.text))) fun y4=>.g (.L9 v0 v1 (au (v2+1)) v3 v4 v5 ⟨aj ((y4.1).n),(y4.1).bad⟩))) (.c (dD ⟨aj v6.n,v6.bad⟩) fun y5=>.k (aj (y5.2.1),y5.2.2))
 | .RJ v0 v1 v2 v3 v4 v5 v6=>.b (aF v2 v1) (.i v0 v2 fun y1=>.l (iQ y1) fun z1=>.i v3.kids v2 fun y2=>.q ((z1.isSome)||!(!(aF 1 y2.kind))) (.c (cu ⟨aj v6.n,v6.bad⟩ (aM (aF 1 y2.kind) (!(gv z1)))) fun y3=>.c (cO ⟨aj ((y3.1).n),(y3.1).bad⟩ y1 (dz (y2.text))) fun y4=>.g (.RJ v0 v1 (au (v2+1)) v3 v4 v5 ⟨aj ((y4.1).n),(y4.1).bad⟩))) (.c (dD ⟨aj v6.n,v6.bad⟩) fun y5=>.k (aj (y5.2.1),y5.2.2))
def xk(x0:An)(x1:Bool):=mu lS (.e x0 x1)
def aje:=((ZE.W 27 abt anv).W 151 ai0 ayK).fl 114 [.ah,.bool] [.ah,.bq] lS (fun a=>.e a.1 a.2) (fun | .e x0 x1=>.e [⟨.ah,x0⟩,⟨.bool,x1⟩] | .L8 v0 v1 v2 v3 v4 v5=>.h 0 ⟨100,[(4,.ptr 0 0),(6,.ptr 1 0),(7,sF 150),(27,sL .str v0),(28,sI v1),(29,sI v2)],[(0,.box [sI v3,sS v4,.d (.raw (.slice none 0 0)),.d (.raw (.slice none 0 0))]),(1,.box [.d (.int .i64 v5.n.kind),.d (.str v5.n.text),.d (.slice .str v5.n.keys),.d (.slice .ah v5.n.kids),.d (.bool v5.bad)])],2⟩ | .RI v0 v1 v2 v3 v4 v5=>.h 0 ⟨100,[(4,.ptr 0 0),(6,.ptr 1 0),(7,sF 64),(27,sL .str v0),(28,sI v1),(29,sI v2)],[(0,.box [sI v3,sS v4,.d (.raw (.slice none 0 0)),.d (.raw (.slice none 0 0))]),(1,.box [.d (.int .i64 v5.n.kind),.d (.str v5.n.text),.d (.slice .str v5.n.keys),.d (.slice .ah v5.n.kids),.d (.bool v5.bad)])],2⟩ | .L9 v0 v1 v2 v3 v4 v5 v6=>.h 1 ⟨100,[(2,.ptr 0 0),(4,.ptr 1 0),(6,.ptr 2 0),(7,sF 150),(69,sL .str v0),(70,sI v1),(71,sI v2)],[(0,.box [.d (.int .i64 v3.kind),.d (.str v3.text),.d (.slice .str v3.keys),.d (.slice .ah v3.kids)]),(1,.box [sI v4,sS v5,.d (.raw (.slice none 0 0)),.d (.raw (.slice none 0 0))]),(2,.box [.d (.int .i64 v6.n.kind),.d (.str v6.n.text),.d (.slice .str v6.n.keys),.d (.slice .ah v6.n.kids),.d (.bool v6.bad)])],3⟩ | .RJ v0 v1 v2 v3 v4 v5 v6=>.h 1 ⟨100,[(2,.ptr 0 0),(4,.ptr 1 0),(6,.ptr 2 0),(7,sF 64),(69,sL .str v0),(70,sI v1),(71,sI v2)],[(0,.box [.d (.int .i64 v3.kind),.d (.str v3.text),.d (.slice .str v3.keys),.d (.slice .ah v3.kids)]),(1,.box [sI v4,sS v5,.d (.raw (.slice none 0 0)),.d (.raw (.slice none 0 0))]),(2,.box [.d (.int .i64 v6.n.kind),.d (.str v6.n.text),.d (.slice .str v6.n.keys),.d (.slice .ah v6.n.kids),.d (.bool v6.bad)])],3⟩) { live:=[(0,[4,6,7,27,28,29]),(1,[2,4,6,7,69,70,71])],nk:=[(0,[(6,some 2,false,.str),(6,some 3,false,.ah)]),(1,[(6,some 2,false,.str),(6,some 3,false,.ah)])] } Tryz.func114
def wL(x0:field)(x1 x2:anY):Te (field×(anY)) Empty:=.l (aj x0.n) fun z1=>.q ((fun n _=>fit n) z1 x1) (.b (!(aB z1 x1)) (.k (⟨z1,x0.left,x0.bad⟩,x2)) (.k (⟨z1,au (x0.left-1),aM x0.bad ((aG z1 x1).kind != 1)⟩,(aG z1 x1).text)))
def aX(x0:field)(x1 x2:anY):=(wL x0 x1 x2).o
def XW:=aje.b0 162 [.str,.str] [.str] .kT (fun x a=>wL x a.1 a.2) Tryz.func162
inductive Ti where
 | e (x0:anY) (x1:Int)
 | h0 (v0:anY) (v1:Int) (v2:Int) (v3:Bool) (v4:Int) (v5:Int)
def oC:Ti->Te (Int×Int) Ti
 | .e x0 x1=>.q (fU x0 0||!((!(x0==[]))&&aF 1 (aC x0))) (.b (aM (x0==[]) (aab (aF 1 (aC x0)) (uH x0 0==48))) (.k (0,3)) (.g (.h0 x0 x1 0 false (aC x0) 0)))
 | .h0 v0 v1 v2 v3 v4 v5=>.b (aF v5 v4) (.s v0 v5 fun y1=>.l (au (au y1-48)) fun z2=>.l (aM (aM v3 (aF (au (Int.tdiv (au (v1-z2)) 10)) v2)) (aF v1 z2)) fun z1=>.b (aM (aF z2 0) (aF 9 z2)) (.k (0,3)) (.q ((!((10:Int)==0))||!(!v3)) (.b (!z1) (.g (.h0 v0 v1 (au (au (v2*10)+z2)) z1 v4 (au (v5+1)))) (.g (.h0 v0 v1 v2 z1 v4 (au (v5+1))))))) (.b v3 (.k (0,9)) (.k (v2,0)))
def zu(x0:anY)(x1:Int):=mu oC (.e x0 x1)
def agl:=XW.fl 198 [.str,.int] [.int,.bq] oC (fun a=>.e a.1 a.2) (fun | .e x0 x1=>.e [⟨.str,x0⟩,⟨.int,x1⟩] | .h0 v0 v1 v2 v3 v4 v5=>.h 0 ⟨61,[(0,sS v0),(1,sI v1),(6,sI v2),(7,sB v3),(23,sI v4),(24,sI v5)],[],0⟩) { live:=[(0,[0,1,6,7,23,24])] } Tryz.func198
def zw(x0:anY)(x1:Int):Te (Int×Int) Empty:=.b (aF x1 0) (.k (0,2)) (.c (zu x0 x1) fun y1=>.k (y1.1,y1.2))
def gW(x0:anY)(x1:Int):=(zw x0 x1).o
def agm:=agl.f0 132 [.str,.int] [.int,.bq] (fun a=>zw a.1 a.2) Tryz.func132
def qC(x0:field)(x1:anY):Te (field×Int) Empty:=.c (aX ⟨aj x0.n,x0.left,x0.bad⟩ x1 [48]) fun y1=>.l (aj ((y1.1).n)) fun z1=>.c (gW (y1.2) 65536) fun y2=>.q ((fun n _=>fit n) z1 x1) (.k (⟨z1,(y1.1).left,aM (aM (y1.1).bad (y2.2 != 0)) (aab (aB z1 x1) (y2.1==0))⟩,y2.1))
def kI(x0:field)(x1:anY):=(qC x0 x1).o
def Vb:=agm.b0 168 [.str] [.int] .kT (fun x a=>qC x a) Tryz.func168
def ZF(x0:anY):Te (Bool) Empty:=.c (gW x0 255) fun y1=>.k (y1.2 != 0)
def ZG:=Vb.f0 261 [.str] [.bool] (fun a=>ZF a) Tryz.func261
inductive kJ where
 | e (x0:List (anY))
 | h0 (v0:List (anY)) (v1:Int) (v2:Int)
def dG:kJ->Te (Int) kJ
 | .e x0=>.g (.h0 x0 (x0.length) 0)
 | .h0 v0 v1 v2=>.b (aF v2 v1) (.i v0 v2 fun y1=>.c (gW y1 255) fun y2=>.b (y2.2 != 0) (.k v2) (.g (.h0 v0 v1 (au (v2+1))))) (.k (-1))
def fQ(x0:List (anY)):=mu dG (.e x0)
def tQ:=(ZG.I 261 Tryz.func261).cl 269 [.int] [.v .bH,.c 261 [] []] dG (fun a=>.e a) (fun | .e x0=>.c [.v ⟨.bH,x0⟩,.c 261 [] []] | .h0 v0 v1 v2=>.h 0 ⟨19,[(0,sL .str v0),(1,sF 261),(7,sI v1),(8,sI v2)],[],0⟩) { live:=[(0,[0,1,7,8])] } Tryz.func269
def eZ(x0:List (anY)):Te (Bool) Empty:=.c (fQ x0) fun y1=>.k (bZ 0 y1)
def cZ(x0:List (anY)):=(eZ x0).o
def rQ:=tQ.c0 260 [.bool] [.v .bH,.c 261 [] []] (fun a=>eZ a) Tryz.func260
def BU(x0:anY):Te (Bool) Empty:=.l (eY x0 [46] 0 (-1)) fun z2=>.l (cZ z2) fun z1=>.q (RG x0 [46] 0 (-1)) (.q ((z1.isSome)||!(aC z2==4)) (.k (aab (aC z2==4) (!(gv z1)))))
def sO(x0:anY):=(BU x0).o
def adu:=((rQ.R 242 Zw aqd).I 213 Tryz.func213).f0 241 [.str] [.bool] (fun a=>BU a) Tryz.func241 { frz:=[2] }
def Gt(x0:Port):Te (Bool) Empty:=.l (sO x0.host) fun z2=>.l (aab (aab (aab (aab (bZ 1 x0.jZ) (bZ x0.jZ 65535)) (bZ 0 x0.out)) (bZ x0.out 65535)) (aM (x0.proto==[116,99,112]) (x0.proto==[117,100,112]))) fun z1=>.q ((z2.isSome)||!(z1&&(!(x0.host==[])))) (.k (aab z1 (aM (x0.host==[]) (gv z2))))
def dH(x0:Port):=(Gt x0).o
def ajf:=adu.f0 212 [.kH] [.bool] (fun a=>Gt a) Tryz.func212
def Ja(x0:An):Te (Port×Bool) Empty:=.c (kI ⟨aj x0,aC x0.keys,(x0.kind != 3)⟩ [116,97,114,103,101,116]) fun y1=>.c (kI ⟨aj ((y1.1).n),(y1.1).left,(y1.1).bad⟩ [112,117,98,108,105,115,104,101,100]) fun y2=>.c (aX ⟨aj ((y2.1).n),(y2.1).left,(y2.1).bad⟩ [104,111,115,116,95,105,112] []) fun y3=>.c (aX ⟨aj ((y3.1).n),(y3.1).left,(y3.1).bad⟩ [112,114,111,116,111,99,111,108] [116,99,112]) fun y4=>.l (aab (!(y4.1).bad) ((y4.1).left==0)) fun z2=>.l (dH ⟨y3.2,y2.2,y1.2,y4.2⟩) fun z1=>.q ((z1.isSome)||!z2) (.k (⟨y3.2,y2.2,y1.2,y4.2⟩,aab z2 (gv z1)))
def Jb(x0:An):=(Ja x0).o
def alW:=((ajf.I 161 Tryz.func161).I 163 Tryz.func163).f0 153 [.ah] [.kH,.bool] (fun a=>Ja a) Tryz.func153
def Ed(x0:anY):Te (Int) Empty:=.c (gW x0 65535) fun y1=>.b (aM (y1.2 != 0) (y1.1==0)) (.k (-1)) (.k y1.1)
def jN(x0:anY):=(Ed x0).o
def agn:=alW.f0 214 [.str] [.int] (fun a=>Ed a) Tryz.func214
def Gu(x0:anY):Te (Port×Int) Empty:=.l (qB x0 [47]) fun z4=>.l (dflt .str) fun z3=>.l (eY x0 [58] 0 (-1)) fun z2=>.l (au (aC z2-1)) fun z6=>.l (Ai z2 0 z3) fun z5=>.l (eY (mI x0 [47]) [58] 0 (-1)) fun z1=>.l (au (aC z1-1)) fun z8=>.l (Ai z1 0 z3) fun z7=>.q (vJ x0 [47]) (.b (AU x0 [47]) (.q (RG (mI x0 [47]) [58] 0 (-1)) (.q (fU z1 z8) (.c (jN (Ai z1 z8 z3)) fun y1=>.b (aC z1==1) (.c (dH ⟨[],0,y1,z4⟩) fun y2=>.b (!y2) (.k (⟨[],0,0,[]⟩,3)) (.k (⟨[],0,y1,z4⟩,0))) (.b (aC z1==2) (.q (fU z1 0) (.c (jN z7) fun y3=>.c (dH ⟨[],y3,y1,z4⟩) fun y4=>.b (!y4) (.k (⟨[],0,0,[]⟩,3)) (.k (⟨[],y3,y1,z4⟩,0)))) (.b (aC z1==3) (.q (fU z1 0) (.b (z7==[]) (.k (⟨[],0,0,[]⟩,3)) (.q (fU z1 1) (.b (!(Ai z1 1 z3==[])) (.q (fU z1 1) (.c (jN (Ai z1 1 z3)) fun y5=>.c (dH ⟨z7,y5,y1,z4⟩) fun y6=>.b (!y6) (.k (⟨[],0,0,[]⟩,3)) (.k (⟨z7,y5,y1,z4⟩,0)))) (.c (dH ⟨z7,0,y1,z4⟩) fun y7=>.b (!y7) (.k (⟨[],0,0,[]⟩,3)) (.k (⟨z7,0,y1,z4⟩,0))))))) (.k (⟨[],0,0,[]⟩,3))))))) (.q (RG x0 [58] 0 (-1)) (.q (fU z2 z6) (.c (jN (Ai z2 z6 z3)) fun y8=>.b (aC z2==1) (.c (dH ⟨[],0,y8,[116,99,112]⟩) fun y9=>.b (!y9) (.k (⟨[],0,0,[]⟩,3)) (.k (⟨[],0,y8,[116,99,112]⟩,0))) (.b (aC z2==2) (.q (fU z2 0) (.c (jN z5) fun iC=>.c (dH ⟨[],iC,y8,[116,99,112]⟩) fun yw=>.b (!yw) (.k (⟨[],0,0,[]⟩,3)) (.k (⟨[],iC,y8,[116,99,112]⟩,0)))) (.b (aC z2==3) (.q (fU z2 0) (.b (z5==[]) (.k (⟨[],0,0,[]⟩,3)) (.q (fU z2 1) (.b (!(Ai z2 1 z3==[])) (.q (fU z2 1) (.c (jN (Ai z2 1 z3)) fun nQ=>.c (dH ⟨z5,nQ,y8,[116,99,112]⟩) fun y13=>.b (!y13) (.k (⟨[],0,0,[]⟩,3)) (.k (⟨z5,nQ,y8,[116,99,112]⟩,0)))) (.c (dH ⟨z5,0,y8,[116,99,112]⟩) fun Am=>.b (!Am) (.k (⟨[],0,0,[]⟩,3)) (.k (⟨z5,0,y8,[116,99,112]⟩,0))))))) (.k (⟨[],0,0,[]⟩,3))))))))
def AX(x0:anY):=(Gu x0).o
def ajg:=agn.f0 154 [.str] [.kH,.bq] (fun a=>Gu a) Tryz.func154
inductive Vd where
 | e (x0:Int)
 | h0 (v0:Int) (v1:Bool) (v2:Int) (v3:List Int)
def xq:Vd->Te ((anY)) Vd
 | .e x0=>.l (IntKind.wrap .u64 x0) fun z1=>.b (aF x0 0) (.g (.h0 20 (aF x0 0) (IntKind.wrap .u64 (0-z1)) [0,0,0,0,0,0,0,0,0,0,0,0,0,0,0,0,0,0,0,0])) (.g (.h0 20 (aF x0 0) z1 [0,0,0,0,0,0,0,0,0,0,0,0,0,0,0,0,0,0,0,0]))
 | .h0 v0 v1 v2 v3=>.l (!((10:Int)==0)) fun z4=>.l (IntKind.wrap .u64 (Int.tdiv v2 10)) fun z3=>.l (au (v0-1)) fun z2=>.l (au (z2-1)) fun z5=>.l (IntKind.wrap .u8 (IntKind.wrap .u64 (48+(Int.tmod v2 10)))) fun z1=>.q z4 (.q (bZ 0 z2&&aF z2 20) (.q (Nat.blt (nL z2) v3.length) (.q z4 (.b (z3==0) (.b v1 (.q (bZ 0 z5&&aF z5 20) (.q (Nat.blt (nL z5) (List.set v3 (nL z2) z1).length) (.q (Nat.beq (List.set (List.set v3 (nL z2) z1) (nL z5) 45).length 20&&(bZ 0 z5&&bZ z5 20&&bZ 20 20)) (.k (List.map (fun y=>UInt8.ofNat (Int.toNat y)) (cut (List.set (List.set v3 (nL z2) z1) (nL z5) 45) z5 20)))))) (.q (Nat.beq (List.set v3 (nL z2) z1).length 20&&(bZ 0 z2&&bZ z2 20&&bZ 20 20)) (.k (List.map (fun y=>UInt8.ofNat (Int.toNat y)) (cut (List.set v3 (nL z2) z1) z2 20))))) (.g (.h0 z2 v1 z3 (List.set v3 (nL z2) z1)))))))
def qD(x0:Int):=mu xq (.e x0)
def ajh:=ajg.fl 169 [.int] [.str] xq (fun a=>.e a) (fun | .e x0=>.e [⟨.int,x0⟩] | .h0 v0 v1 v2 v3=>.h 0 ⟨34,[(3,.ptr 0 0),(4,sI v0),(5,sB v1),(6,.d (.int .u64 v2))],[(0,.arr .byte v3 false)],1⟩) { live:=[(0,[3,4,5,6])],arr:=[(2,[(3,some .byte)]),(13,[(3,none)])] } Tryz.func169
def Jc(x0:Port):Te ((anY)) Empty:=.l (decide (x0.host.length+([58]:anY).length<=aA)) fun z5=>.l (([]:anY)++([58]:anY)) fun z4=>.l (qD x0.jZ) fun z3=>.l (x0.proto==[117,100,112]) fun z2=>.l (x0.host++([58]:anY)) fun z1=>.l (z1++([]:anY)) fun z6=>.l (z6++([58]:anY)) fun z7=>.c (dH x0) fun y1=>.b (!y1) (.k []) (.b (aF 0 x0.out) (.c (qD x0.out) fun y2=>.l (z1++y2) fun tT=>.l (y2++([58]:anY)) fun z9=>.l (tT++([58]:anY)) fun z8=>.b (!(x0.host==[])) (.q z5 (.q (decide (z1.length+y2.length<=aA)) (.b (!(tT==[])) (.q (decide (tT.length+([58]:anY).length<=aA)) (.c z3 fun y3=>.q (decide (z8.length+y3.length<=aA)) (.b z2 (.q (decide ((z8++y3).length+([47,117,100,112]:anY).length<=aA)) (.k ((z8++y3)++([47,117,100,112]:anY)))) (.k (z8++y3))))) (.c z3 fun y4=>.l (tT++y4) fun AY=>.q (decide (tT.length+y4.length<=aA)) (.b z2 (.q (decide (AY.length+([47,117,100,112]:anY).length<=aA)) (.k (AY++([47,117,100,112]:anY)))) (.k AY)))))) (.b (!(y2==[])) (.q (decide (y2.length+([58]:anY).length<=aA)) (.c z3 fun y5=>.q (decide (z9.length+y5.length<=aA)) (.b z2 (.q (decide ((z9++y5).length+([47,117,100,112]:anY).length<=aA)) (.k ((z9++y5)++([47,117,100,112]:anY)))) (.k (z9++y5))))) (.c z3 fun y6=>.q (decide (y2.length+y6.length<=aA)) (.b z2 (.q (decide ((y2++y6).length+([47,117,100,112]:anY).length<=aA)) (.k ((y2++y6)++([47,117,100,112]:anY)))) (.k (y2++y6)))))) (.b (!(x0.host==[])) (.q z5 (.q (decide (z1.length+([]:anY).length<=aA)) (.b (!(z6==[])) (.q (decide (z6.length+([58]:anY).length<=aA)) (.c z3 fun y7=>.q (decide (z7.length+y7.length<=aA)) (.b z2 (.q (decide ((z7++y7).length+([47,117,100,112]:anY).length<=aA)) (.k ((z7++y7)++([47,117,100,112]:anY)))) (.k (z7++y7))))) (.c z3 fun y8=>.q (decide (z6.length+y8.length<=aA)) (.b z2 (.q (decide ((z6++y8).length+([47,117,100,112]:anY).length<=aA)) (.k ((z6++y8)++([47,117,100,112]:anY)))) (.k (z6++y8))))))) (.b (!(([]:anY)==[])) (.q (decide (([]:anY).length+([58]:anY).length<=aA)) (.c z3 fun y9=>.q (decide (z4.length+y9.length<=aA)) (.b z2 (.q (decide ((z4++y9).length+([47,117,100,112]:anY).length<=aA)) (.k ((z4++y9)++([47,117,100,112]:anY)))) (.k (z4++y9))))) (.c z3 fun iC=>.l (([]:anY)++iC) fun z12=>.q (decide (([]:anY).length+iC.length<=aA)) (.b z2 (.q (decide (z12.length+([47,117,100,112]:anY).length<=aA)) (.k (z12++([47,117,100,112]:anY)))) (.k z12))))))
def zP(x0:Port):=(Jc x0).o
def alX:=ajh.f0 155 [.kH] [.str] (fun a=>Jc a) Tryz.func155
inductive Ve where
 | e (x0:An)
 | h0 (v0:List An) (v1:Int) (v2:Int) (v3:Int) (v4:anY) (v5:form)
 | h1 (v0:List (anY)) (v1:Int) (v2:Int) (v3:An) (v4:Int) (v5:anY) (v6:form)
def qE:Ve->Te (An×Int) Ve
 | .e x0=>.c (jU (aj x0) 2) fun y1=>.b y1 (.g (.h0 x0.kids (aC x0.kids) 0 0 [] ⟨⟨0,[],[],[]⟩,false⟩)) (.c (jU (aj x0) 3) fun y2=>.b y2 (.g (.h1 x0.keys (aC x0.keys) 0 x0 0 [] ⟨⟨0,[],[],[]⟩,false⟩)) (.c eO fun y3=>.k (aj (y3.1),y3.2)))
 | .h0 v0 v1 v2 v3 v4 v5=>.l (aj v5.n) fun z2=>.l (Ai v0 v2 (dflt .ah)) fun z1=>.b (aF v2 v1) (.q (fU v0 v2) (.c (Jb (aj z1)) fun y2=>.b (z1.kind==1) (.c (AX (z1.text)) fun y3=>.c (cu ⟨z2,v5.bad⟩ (!(y3.2==0))) fun y4=>.c (zP (y3.1)) fun y5=>.c (cO ⟨aj ((y4.1).n),(y4.1).bad⟩ y5 ⟨0,[],[],[]⟩) fun y6=>.g (.h0 v0 v1 (au (v2+1)) v3 v4 ⟨aj ((y6.1).n),(y6.1).bad⟩)) (.c (cu ⟨z2,v5.bad⟩ (!y2.2)) fun y7=>.c (zP (y2.1)) fun y8=>.c (cO ⟨aj ((y7.1).n),(y7.1).bad⟩ y8 ⟨0,[],[],[]⟩) fun y9=>.g (.h0 v0 v1 (au (v2+1)) v3 v4 ⟨aj ((y9.1).n),(y9.1).bad⟩)))) (.c (dD ⟨z2,v5.bad⟩) fun iC=>.k (aj (iC.2.1),iC.2.2))
 | .h1 v0 v1 v2 v3 v4 v5 v6=>.b (aF v2 v1) (.i v0 v2 fun y1=>.c (AX y1) fun y2=>.c (zP (y2.1)) fun y3=>.l (aM (!(y3==y1)) (y1==[])) fun z1=>.q (fU v3.kids v2||!(!z1)) (.c (cu ⟨aj v6.n,v6.bad⟩ (aM z1 ((Ai v3.kids v2 (dflt .ah)).kind != 0))) fun y4=>.c (cO ⟨aj ((y4.1).n),(y4.1).bad⟩ y1 ⟨0,[],[],[]⟩) fun y5=>.g (.h1 v0 v1 (au (v2+1)) v3 v4 v5 ⟨aj ((y5.1).n),(y5.1).bad⟩))) (.c (dD ⟨aj v6.n,v6.bad⟩) fun y6=>.k (aj (y6.2.1),y6.2.2))
def tV(x0:An):=mu qE (.e x0)
def aji:=alX.fl 115 [.ah] [.ah,.bq] qE (fun a=>.e a) (fun | .e x0=>.e [⟨.ah,x0⟩] | .h0 v0 v1 v2 v3 v4 v5=>.h 0 ⟨92,[(2,.ptr 0 0),(4,.ptr 1 0),(21,sL .ah v0),(22,sI v1),(23,sI v2)],[(0,.box [sI v3,sS v4,.d (.raw (.slice none 0 0)),.d (.raw (.slice none 0 0))]),(1,.box [.d (.int .i64 v5.n.kind),.d (.str v5.n.text),.d (.slice .str v5.n.keys),.d (.slice .ah v5.n.kids),.d (.bool v5.bad)])],2⟩ | .h1 v0 v1 v2 v3 v4 v5 v6=>.h 1 ⟨92,[(1,.ptr 0 0),(2,.ptr 1 0),(4,.ptr 2 0),(55,sL .str v0),(56,sI v1),(57,sI v2)],[(0,.box [.d (.int .i64 v3.kind),.d (.str v3.text),.d (.slice .str v3.keys),.d (.slice .ah v3.kids)]),(1,.box [sI v4,sS v5,.d (.raw (.slice none 0 0)),.d (.raw (.slice none 0 0))]),(2,.box [.d (.int .i64 v6.n.kind),.d (.str v6.n.text),.d (.slice .str v6.n.keys),.d (.slice .ah v6.n.kids),.d (.bool v6.bad)])],3⟩) { live:=[(0,[2,4,21,22,23]),(1,[1,2,4,55,56,57])],nk:=[(0,[(4,some 2,false,.str),(4,some 3,false,.ah)]),(1,[(4,some 2,false,.str),(4,some 3,false,.ah)])] } Tryz.func115
def vk(x0:field)(x1:anY)(x2:Bool):Te (field×Bool) Empty:=.b x2 (.c (aX ⟨aj x0.n,x0.left,x0.bad⟩ x1 [116,114,117,101]) fun y1=>.l (y1.2==[116,114,117,101]) fun z1=>.k (⟨aj ((y1.1).n),(y1.1).left,aM (y1.1).bad (aab (!z1) (!(y1.2==[102,97,108,115,101])))⟩,z1)) (.c (aX ⟨aj x0.n,x0.left,x0.bad⟩ x1 [102,97,108,115,101]) fun y2=>.l (y2.2==[116,114,117,101]) fun z2=>.k (⟨aj ((y2.1).n),(y2.1).left,aM (y2.1).bad (aab (!z2) (!(y2.2==[102,97,108,115,101])))⟩,z2))
def fA(x0:field)(x1:anY)(x2:Bool):=(vk x0 x1 x2).o
def Vf:=aji.b0 164 [.str,.bool] [.bool] .kT (fun x a=>vk x a.1 a.2) Tryz.func164
inductive Vg where
 | e (x0:anY)
 | h0 (v0:anY) (v1:Int) (v2:Int)
def xu:Vg->Te (Bool) Vg
 | .e x0=>.g (.h0 x0 (x0.length) 0)
 | .h0 v0 v1 v2=>.b (aF v2 v1) (.s v0 v2 fun y1=>.b (aab (aab (aab (aM (aF y1 97) (aF 122 y1)) (aM (aF y1 65) (aF 90 y1))) (aM (aF y1 48) (aF 57 y1))) (aF (Io [46,95,45,47] y1) 0)) (.k false) (.g (.h0 v0 v1 (au (v2+1))))) (.k (aab (!(v0==[])) (bZ (aC v0) 64)))
def iX(x0:anY):=mu xu (.e x0)
def Vh:=Vf.fl 245 [.str] [.bool] xu (fun a=>.e a) (fun | .e x0=>.e [⟨.str,x0⟩] | .h0 v0 v1 v2=>.h 0 ⟨48,[(0,sS v0),(6,sI v1),(7,sI v2)],[],0⟩) { live:=[(0,[0,6,7])] } Tryz.func245
def abz(x0 x1:anY):Te (Int) Empty:=.q (vJ x0 x1) (.k (qA x0 x1))
def abA:=(Vh.W 240 Rx U3).f0 264 [.str,.str] [.int] (fun a=>abz a.1 a.2) Tryz.func264
def BX(x0:anY):Te (Bool) Empty:=.c (iQ x0) fun y1=>.k y1
def Ir(x0:anY):=(BX x0).o
def adv:=abA.f0 244 [.str] [.bool] (fun a=>BX a) Tryz.func244
inductive abB where
 | e (x0:An)
 | h0 (v0:List (anY)) (v1:Bool) (v2:List An) (v3:Int) (v4:Int) (v5:Int) (v6:anY) (v7:form)
 | h1 (v0:List (anY)) (v1:Int) (v2:Int) (v3:Int) (v4:anY) (v5:form)
def vo:abB->Te (An×Int) abB
 | .e x0=>.c (nP (aj x0)) fun y1=>.c (jU (aj x0) 3) fun y2=>.b y2 (.g (.h0 x0.keys true x0.kids (aC x0.kids) 0 0 [] ⟨⟨0,[],[],[]⟩,false⟩)) (.c (cu ⟨⟨0,[],[],[]⟩,false⟩ (!y1.2)) fun y3=>.g (.h1 (y1.1) (aC (y1.1)) 0 0 [] ⟨aj ((y3.1).n),(y3.1).bad⟩))
 | .h0 v0 v1 v2 v3 v4 v5 v6 v7=>.b (aF v4 v3) (.i v2 v4 fun y1=>.c (cu ⟨aj v7.n,v7.bad⟩ (aab (y1.kind != 0) (aM (y1.kind != 3) (aF 0 (aC (y1.keys)))))) fun y2=>.g (.h0 v0 v1 v2 v3 (au (v4+1)) v5 v6 ⟨aj ((y2.1).n),(y2.1).bad⟩)) (.c (cu ⟨aj v7.n,v7.bad⟩ (!v1)) fun y3=>.g (.h1 v0 (aC v0) 0 v5 v6 ⟨aj ((y3.1).n),(y3.1).bad⟩))
 | .h1 v0 v1 v2 v3 v4 v5=>.b (aF v2 v1) (.i v0 v2 fun y1=>.c (iQ y1) fun y2=>.c (cu ⟨aj v5.n,v5.bad⟩ (!y2)) fun y3=>.c (cO ⟨aj ((y3.1).n),(y3.1).bad⟩ y1 ⟨0,[],[],[]⟩) fun y4=>.g (.h1 v0 v1 (au (v2+1)) v3 v4 ⟨aj ((y4.1).n),(y4.1).bad⟩)) (.c (dD ⟨aj v5.n,v5.bad⟩) fun y5=>.k (aj (y5.2.1),y5.2.2))
def nR(x0:An):=mu vo (.e x0)
def aqf:=adv.fl 41 [.ah] [.ah,.bq] vo (fun a=>.e a) (fun | .e x0=>.e [⟨.ah,x0⟩] | .h0 v0 v1 v2 v3 v4 v5 v6 v7=>.h 0 ⟨63,[(2,.ptr 0 0),(4,.ptr 1 0),(5,sL .str v0),(6,sB v1),(21,sL .ah v2),(22,sI v3),(23,sI v4)],[(0,.box [sI v5,sS v6,.d (.raw (.slice none 0 0)),.d (.raw (.slice none 0 0))]),(1,.box [.d (.int .i64 v7.n.kind),.d (.str v7.n.text),.d (.slice .str v7.n.keys),.d (.slice .ah v7.n.kids),.d (.bool v7.bad)])],2⟩ | .h1 v0 v1 v2 v3 v4 v5=>.h 1 ⟨63,[(2,.ptr 0 0),(4,.ptr 1 0),(46,sL .str v0),(47,sI v1),(48,sI v2)],[(0,.box [sI v3,sS v4,.d (.raw (.slice none 0 0)),.d (.raw (.slice none 0 0))]),(1,.box [.d (.int .i64 v5.n.kind),.d (.str v5.n.text),.d (.slice .str v5.n.keys),.d (.slice .ah v5.n.kids),.d (.bool v5.bad)])],2⟩) { live:=[(0,[2,4,5,6,21,22,23]),(1,[2,4,46,47,48])],nk:=[(0,[(4,some 2,false,.str),(4,some 3,false,.ah)])] } Tryz.func41
def Jd(x0:Bool):Te (An) Empty:=.b x0 (.k (aj (dz [116,114,117,101]))) (.k (aj (dz [102,97,108,115,101])))
def lT(x0:Bool):=(Jd x0).o
def alY:=aqf.f0 170 [.bool] [.ah] (fun a=>Jd a) Tryz.func170
inductive H6 where
 | e (x0:budget) (x1:An) (x2:Int)
 | h0 (v0:Int) (v1:List An) (v2:Int) (v3:Int) (v4:Int)
def fH(self:budget->An->Int->Option (budget×Bool)):H6->Te (budget×Bool) H6
 | .e x0 x1 x2=>.l (x1.text==[]) fun z4=>.l (aC x1.kids) fun z3=>.l (aC x1.keys) fun z2=>.l (aM (!z4) (z2 != z3)) fun z6=>.l (au (z2+z3)==0) fun z5=>.l (au (x0.left-1)) fun z1=>.l (aM z6 (aF z1 z2)) fun z7=>.b (aM (aF z1 0) (aF 12 x2)) (.k (⟨z1⟩,false)) (.b (x1.kind==0) (.k (⟨z1⟩,aab z4 z5)) (.b (x1.kind==1) (.k (⟨z1⟩,z5)) (.b (x1.kind==2) (.b (aM (!z4) (aF 0 z2)) (.k (⟨z1⟩,false)) (.g (.h0 x2 x1.kids z3 0 z1))) (.b (x1.kind==3) (.q (mU x1.keys||!(!z7)) (.b (aM z7 (aC (Pl.bn x1.keys)!=z2)) (.k (⟨z1⟩,false)) (.g (.h0 x2 x1.kids z3 0 z1)))) (.k (⟨z1⟩,false))))))
 | .h0 v0 v1 v2 v3 v4=>.b (aF v3 v2) (.i v1 v3 fun y1=>.c (self ⟨v4⟩ (aj y1) (au (v0+1))) fun y2=>.b (!y2.2) (.k ((y2.1),false)) (.g (.h0 v0 v1 v2 (au (v3+1)) ((y2.1).left)))) (.k (⟨v4⟩,true))
def fI(n:Nat):budget->An->Int->Option (budget×Bool):=Nat.rec (motive:=fun _=>budget->An->Int->Option (budget×Bool)) (fun _ _ _=>none) (fun _ self x0 x1 x2=>mu (fH self) (.e x0 x1 x2)) n
def TU(x0:budget)(x1:An)(x2:Int):Option (budget×Bool):=fI qM x0 x1 x2
def TW:=(alY.W 58 JN Rw).br 77 [.ah,.int] [.bool] .kM (fun n x a=>fI n x a.1 a.2) (fun S=>fH fun x0 x1 x2=>S x0 (x1,x2)) (fun x a=>.e x a.1 a.2) (fun | .e x0 x1 x2=>.e [⟨.kM,x0⟩,⟨.ah,x1⟩,⟨.int,x2⟩] | .h0 v0 v1 v2 v3 v4=>.h 0 ⟨111,[(0,.ptr 0 0),(2,sI v0),(98,sL .ah v1),(99,sI v2),(100,sI v3)],[(0,.box [sI v4])],1⟩) { live:=[(0,[0,2,98,99,100])],own:=1 } Tryz.func77
def Gv(x0:An):Te (Bool) Empty:=.c (TU ⟨2000⟩ (aj x0) 1) fun y1=>.k y1.2
def AZ(x0:An):=(Gv x0).o
def ajj:=TW.f0 42 [.ah] [.bool] (fun a=>Gv a) Tryz.func42
def K4(x0:List (anY))(x1:List An):Te (An) Empty:=.q (decide (x0.length*16<=av)) (.q (decide (x1.length*72<=av)) (.c (AZ ⟨3,[],x0,x1⟩) fun y1=>.b (!y1) (.k ⟨0,[],[],[]⟩) (.k ⟨3,[],x0,x1⟩)))
def mq(x0:List (anY))(x1:List An):=(K4 x0 x1).o
def aqg:=((ajj.R 54 (Pz 27) (IZ (T:=22) (b:=4) (e:=27) (fn:=Tryz.f54) (by kernel_rfl) (by kernel_rfl) (by kernel_rfl) (by kernel_rfl) (by kernel_rfl) (by kernel_rfl))).R 53 (Pz 9) (IZ (T:=25) (b:=4) (e:=9) (fn:=Tryz.f53) (by kernel_rfl) (by kernel_rfl) (by kernel_rfl) (by kernel_rfl) (by kernel_rfl) (by kernel_rfl))).f0 160 [.bH,.dP] [.ah] (fun a=>K4 a.1 a.2) Tryz.func160
def Je(x0:An):Te (An×Bool) Empty:=.b (x0.kind==0) (.c (aX ⟨⟨3,x0.text,x0.keys,x0.kids⟩,aC x0.keys,false⟩ [99,111,110,100,105,116,105,111,110] [115,101,114,118,105,99,101,95,115,116,97,114,116,101,100]) fun y1=>.c (fA ⟨aj ((y1.1).n),(y1.1).left,(y1.1).bad⟩ [114,101,115,116,97,114,116] false) fun y2=>.c (fA ⟨aj ((y2.1).n),(y2.1).left,(y2.1).bad⟩ [114,101,113,117,105,114,101,100] true) fun y3=>.c (lT (y3.2)) fun y4=>.c (lT (y2.2)) fun y5=>.c (mq [[99,111,110,100,105,116,105,111,110],[114,101,113,117,105,114,101,100],[114,101,115,116,97,114,116]] [dz (y1.2),y4,y5]) fun y6=>.k (aj y6,aab (!(aM (y3.1).bad (aab (aab (!(y1.2==[115,101,114,118,105,99,101,95,115,116,97,114,116,101,100])) (!(y1.2==[115,101,114,118,105,99,101,95,104,101,97,108,116,104,121]))) (!(y1.2==[115,101,114,118,105,99,101,95,99,111,109,112,108,101,116,101,100,95,115,117,99,99,101,115,115,102,117,108,108,121]))))) ((y3.1).left==0))) (.c (aX ⟨aj x0,aC x0.keys,(x0.kind != 3)⟩ [99,111,110,100,105,116,105,111,110] [115,101,114,118,105,99,101,95,115,116,97,114,116,101,100]) fun y7=>.c (fA ⟨aj ((y7.1).n),(y7.1).left,(y7.1).bad⟩ [114,101,115,116,97,114,116] false) fun y8=>.c (fA ⟨aj ((y8.1).n),(y8.1).left,(y8.1).bad⟩ [114,101,113,117,105,114,101,100] true) fun y9=>.c (lT (y9.2)) fun iC=>.c (lT (y8.2)) fun yw=>.c (mq [[99,111,110,100,105,116,105,111,110],[114,101,113,117,105,114,101,100],[114,101,115,116,97,114,116]] [dz (y7.2),iC,yw]) fun nQ=>.k (aj nQ,aab (!(aM (y9.1).bad (aab (aab (!(y7.2==[115,101,114,118,105,99,101,95,115,116,97,114,116,101,100])) (!(y7.2==[115,101,114,118,105,99,101,95,104,101,97,108,116,104,121]))) (!(y7.2==[115,101,114,118,105,99,101,95,99,111,109,112,108,101,116,101,100,95,115,117,99,99,101,115,115,102,117,108,108,121]))))) ((y9.1).left==0)))
def Dh(x0:An):=(Je x0).o
def alZ:=aqg.f0 159 [.ah] [.ah,.bool] (fun a=>Je a) Tryz.func159
inductive Yu where
 | e (x0:An)
 | h0 (v0:List (anY)) (v1:Int) (v2:Int) (v3:An) (v4:Int) (v5:anY) (v6:form)
def zQ:Yu->Te (An×Int) Yu
 | .e x0=>.c (nP (aj x0)) fun y1=>.c (jU (aj x0) 3) fun y2=>.b y2 (.c (cu ⟨⟨0,[],[],[]⟩,false⟩ (!true)) fun y3=>.g (.h0 x0.keys (aC x0.keys) 0 x0 0 [] ⟨aj ((y3.1).n),(y3.1).bad⟩)) (.c (cu ⟨⟨0,[],[],[]⟩,false⟩ (!y1.2)) fun y4=>.g (.h0 (y1.1) (aC (y1.1)) 0 x0 0 [] ⟨aj ((y4.1).n),(y4.1).bad⟩))
 | .h0 v0 v1 v2 v3 v4 v5 v6=>.l (aj v6.n) fun z1=>.b (aF v2 v1) (.i v0 v2 fun y1=>.l (iQ y1) fun z2=>.b (v3.kind==3) (.i v3.kids v2 fun y2=>.c (Dh (aj y2)) fun y3=>.q ((z2.isSome)||!(!(!y3.2))) (.c (cu ⟨z1,v6.bad⟩ (aM (!y3.2) (!(gv z2)))) fun y4=>.c (cO ⟨aj ((y4.1).n),(y4.1).bad⟩ y1 (aj (y3.1))) fun y5=>.g (.h0 v0 v1 (au (v2+1)) v3 v4 v5 ⟨aj ((y5.1).n),(y5.1).bad⟩))) (.c (Dh ⟨0,[],[],[]⟩) fun y6=>.q ((z2.isSome)||!(!(!y6.2))) (.c (cu ⟨z1,v6.bad⟩ (aM (!y6.2) (!(gv z2)))) fun y7=>.c (cO ⟨aj ((y7.1).n),(y7.1).bad⟩ y1 (aj (y6.1))) fun y8=>.g (.h0 v0 v1 (au (v2+1)) v3 v4 v5 ⟨aj ((y8.1).n),(y8.1).bad⟩)))) (.c (dD ⟨z1,v6.bad⟩) fun y9=>.k (aj (y9.2.1),y9.2.2))
def zR(x0:An):=mu zQ (.e x0)
def al0:=alZ.fl 117 [.ah] [.ah,.bq] zQ (fun a=>.e a) (fun | .e x0=>.e [⟨.ah,x0⟩] | .h0 v0 v1 v2 v3 v4 v5 v6=>.h 0 ⟨59,[(1,.ptr 0 0),(2,.ptr 1 0),(4,.ptr 2 0),(24,sL .str v0),(25,sI v1),(26,sI v2)],[(0,.box [.d (.int .i64 v3.kind),.d (.str v3.text),.d (.slice .str v3.keys),.d (.slice .ah v3.kids)]),(1,.box [sI v4,sS v5,.d (.raw (.slice none 0 0)),.d (.raw (.slice none 0 0))]),(2,.box [.d (.int .i64 v6.n.kind),.d (.str v6.n.text),.d (.slice .str v6.n.keys),.d (.slice .ah v6.n.kids),.d (.bool v6.bad)])],3⟩) { live:=[(0,[1,2,4,24,25,26])] } Tryz.func117
def BZ(x0:An):Te (An×Int) Empty:=.l (aj x0) fun z1=>.b (x0.kind==1) (.c (mq [[115,101,114,118,105,99,101]] [z1]) fun y1=>.l (aj y1) fun z2=>.c (aX ⟨z2,aC (y1.keys),(y1.kind != 3)⟩ [115,101,114,118,105,99,101] []) fun y2=>.l (iQ (y2.2)) fun z3=>.c (aX ⟨aj ((y2.1).n),(y2.1).left,(y2.1).bad⟩ [102,105,108,101] [120]) fun y3=>.l (!(aab (!(y3.1).bad) ((y3.1).left==0))) fun z4=>.q ((z3.isSome)||!(!z4)) (.b (aM (aM (aM z4 (!(gv z3))) (y3.2==[])) (aF 64 (aC (y3.2)))) (.c eO fun y4=>.k (aj (y4.1),y4.2)) (.q ((wg 10000 1000) z2) (.k (aj ((dS 1000) z2),0))))) (.c (aX ⟨z1,aC x0.keys,(x0.kind != 3)⟩ [115,101,114,118,105,99,101] []) fun y5=>.l (iQ (y5.2)) fun z5=>.c (aX ⟨aj ((y5.1).n),(y5.1).left,(y5.1).bad⟩ [102,105,108,101] [120]) fun y6=>.l (!(aab (!(y6.1).bad) ((y6.1).left==0))) fun z6=>.q ((z5.isSome)||!(!z6)) (.b (aM (aM (aM z6 (!(gv z5))) (y6.2==[])) (aF 64 (aC (y6.2)))) (.c eO fun y7=>.k (aj (y7.1),y7.2)) (.q ((wg 10000 1000) z1) (.k (aj ((dS 1000) z1),0)))))
def sP(x0:An):=(BZ x0).o
def adw:=al0.f0 118 [.ah] [.ah,.bq] (fun a=>BZ a) Tryz.func118
inductive Yv where
 | e (x0:anY)
 | h0 (v0:anY) (v1:Int) (v2:Int)
def zS:Yv->Te (Bool) Yv
 | .e x0=>.g (.h0 x0 (x0.length) 0)
 | .h0 v0 v1 v2=>.b (aF v2 v1) (.s v0 v2 fun y1=>.b (aab (aab (aab (aM (aF y1 97) (aF 122 y1)) (aM (aF y1 65) (aF 90 y1))) (aM (aF y1 48) (aF 57 y1))) (aF (Io [46,95,45,47,58,61,44,43,64,37] y1) 0)) (.k false) (.g (.h0 v0 v1 (au (v2+1))))) (.k (!(v0==[])))
def Jf(x0:anY):=mu zS (.e x0)
def al1:=adw.fl 246 [.str] [.bool] zS (fun a=>.e a) (fun | .e x0=>.e [⟨.str,x0⟩] | .h0 v0 v1 v2=>.h 0 ⟨43,[(0,sS v0),(6,sI v1),(7,sI v2)],[],0⟩) { live:=[(0,[0,6,7])] } Tryz.func246
inductive Yw where
 | e (x0:List (anY))
 | h0 (v0:List (anY)) (v1:List (anY)) (v2:Int) (v3:Int)
def zT:Yw->Te ((anY)) Yw
 | .e x0=>.g (.h0 [] x0 (x0.length) 0)
 | .h0 v0 v1 v2 v3=>.b (aF v3 v2) (.i v1 v3 fun y1=>.l ((fun s old new=>Yt s old new (-1)) y1 [39] [39,92,39,39]) fun z1=>.l (([39]:anY)++z1) fun z2=>.l (z2++([39]:anY)) fun z3=>.c (Jf y1) fun y2=>.b (!y2) (.q ((fun s old new=>U8 s old new (-1)) y1 [39] [39,92,39,39]) (.q (decide (([39]:anY).length+z1.length<=aA)) (.q (decide (z2.length+([39]:anY).length<=aA)) (.q (decide ((v0.length+([z3]:List (anY)).length)*16<=av)) (.g (.h0 (v0++([z3]:List (anY))) v1 v2 (au (v3+1)))))))) (.q (decide ((v0.length+([y1]:List (anY)).length)*16<=av)) (.g (.h0 (v0++([y1]:List (anY))) v1 v2 (au (v3+1)))))) (.q (ado v0 [32]) (.k (Lib.join v0 [32])))
def Jg(x0:List (anY)):=mu zT (.e x0)
def al2:=(al1.W 247 adq avT).fl 216 [.bH] [.str] zT (fun a=>.e a) (fun | .e x0=>.e [⟨.bH,x0⟩] | .h0 v0 v1 v2 v3=>.h 0 ⟨26,[(3,.grow .str v0 0),(6,sL .str v1),(7,sI v2),(8,sI v3)],[(0,.tail true)],1⟩) { live:=[(0,[3,6,7,8])],nk:=[(0,[(3,none,true,.str)])] } Tryz.func216
def Jh(x0:An):Te ((anY)×Bool×Bool) Empty:=.b (x0.kind==1) (.k (x0.text,false,true)) (.c (nP (aj x0)) fun y1=>.l (aC (y1.1)) fun z1=>.b (aM (!y1.2) (z1==0)) (.k ([],false,false)) (.i y1.1 0 fun y2=>.b (y2==[78,79,78,69]) (.k ([],true,(z1==1))) (.b (y2==[67,77,68,45,83,72,69,76,76]) (.b (z1==2) (.i y1.1 1 fun y3=>.k (y3,false,true)) (.k ([],false,false))) (.b (y2==[67,77,68]) (.q (bN (y1.1) 1 z1) (.c (Jg (cut (y1.1) 1 z1)) fun y4=>.k (y4,false,aF 1 z1))) (.k ([],false,false))))))
def Ji(x0:An):=(Jh x0).o
def al3:=al2.f0 165 [.ah] [.str,.bool,.bool] (fun a=>Jh a) Tryz.func165
inductive Tj where
 | e (x0:anY)
 | h0 (v0:anY) (v1:Int)
def uQ:Tj->Te (Int) Tj
 | .e x0=>.g (.h0 x0 0)
 | .h0 v0 v1=>.l (aab (aF v1 (aC v0)) (bZ 48 (uH v0 v1))) fun z1=>.q (fU v0 v1||!(aF v1 (aC v0))) (.q (fU v0 v1||!z1) (.b (aab z1 (bZ (uH v0 v1) 57)) (.g (.h0 v0 (au (v1+1)))) (.k v1)))
def oD(x0:anY):=mu uQ (.e x0)
def agp:=al3.fl 217 [.str] [.int] uQ (fun a=>.e a) (fun | .e x0=>.e [⟨.str,x0⟩] | .h0 v0 v1=>.h 0 ⟨23,[(0,sS v0),(3,sI v1)],[],0⟩) { live:=[(0,[0,3])] } Tryz.func217
def K5(x0:anY):Te (Int×Int×Int) Empty:=.b (x0==[]) (.k (0,0,0)) (.s x0 0 fun y1=>.b (y1==104) (.k (1,3600000,1)) (.b (y1==109) (.q (fU x0 1||!(!(aF (aC x0) 2))) (.b (aM (aF (aC x0) 2) (uH x0 1 != 115)) (.k (2,60000,1)) (.k (4,1,2)))) (.b (y1==115) (.k (3,1000,1)) (.k (0,0,0)))))
def pX(x0:anY):=(K5 x0).o
def aqh:=agp.f0 218 [.str] [.int,.int,.int] (fun a=>K5 a) Tryz.func218
inductive Yx where
 | e (x0:anY)
 | h0 (v0:anY) (v1:Int) (v2:Int) (v3:Bool) (v4:Int)
def Di:Yx->Te (Int×Int) Yx
 | .e x0=>.g (.h0 x0 0 0 false 0)
 | .h0 v0 v1 v2 v3 v4=>.l (au (1099511627776-v1)) fun z1=>.b (aM (aF v4 (aC v0)) (v2==0)) (.q (bN v0 v4 (aC v0)) (.c (oD (cut v0 v4 (aC v0))) fun y1=>.l (au (v4+y1)) fun z2=>.q (bN v0 v4 z2) (.c (gW (cut v0 v4 z2) 1099511627776) fun y2=>.l (aM v3 (y2.2 != 0)) fun z3=>.q (bN v0 z2 (aC v0)) (.c (pX (cut v0 z2 (aC v0))) fun y3=>.l (au (z2+y3.2.2)) fun z5=>.l (aM z3 (aF (au (Int.tdiv z1 y3.2.1)) y2.1)) fun z4=>.b (aM (aM (y2.2==3) (y3.2.2==0)) (bZ y3.1 v2)) (.k (0,3)) (.b (aab (aab (y2.2==0) (y2.1==0)) (aM (aF 0 v2) (aF z5 (aC v0)))) (.k (0,3)) (.q ((!(y3.2.1==0))||!(!z3)) (.b (!z4) (.g (.h0 v0 (au (v1+au (y2.1*y3.2.1))) (y3.1) z4 z5)) (.g (.h0 v0 v1 (y3.1) z4 z5))))))))) (.b v3 (.k (0,9)) (.k (v1,0)))
def Jj(x0:anY):=mu Di (.e x0)
def al4:=aqh.fl 166 [.str] [.int,.bq] Di (fun a=>.e a) (fun | .e x0=>.e [⟨.str,x0⟩] | .h0 v0 v1 v2 v3 v4=>.h 0 ⟨105,[(0,sS v0),(4,sI v1),(5,sI v2),(6,sB v3),(7,sI v4)],[],0⟩) { live:=[(0,[0,4,5,6,7])] } Tryz.func166
inductive abC where
 | e (x0:Int)
 | h0 (v0:Int) (v1:anY) (v2:U0) (v3:Int)
def Ca:abC->Te ((anY)) abC
 | .e x0=>.b (aM (aF x0 0) (aF 1099511627776 x0)) (.k []) (.b (x0==0) (.k [48,115]) (.g (.h0 x0 [] ⟨⟨3600000,[104]⟩,⟨60000,[109]⟩,⟨1000,[115]⟩,⟨1,[109,115]⟩⟩ 0)))
 | .h0 v0 v1 v2 v3=>.l (Ai [v2.e0,v2.e1,v2.e2,v2.e3] v3 (dflt .BQ)) fun z1=>.l (au (Int.tdiv v0 z1.long)) fun z2=>.b (aF v3 4) (.q (bZ 0 v3&&aF v3 4) (.q (!(z1.long==0)) (.b (aF 0 z2) (.c (qD z2) fun y1=>.q (decide (y1.length+(z1.name).length<=aA)) (.q (decide (v1.length+(y1++z1.name).length<=aA)) (.g (.h0 (au (v0-au (z2*z1.long))) (v1++(y1++z1.name)) v2 (au (v3+1)))))) (.g (.h0 v0 v1 v2 (au (v3+1))))))) (.k v1)
def K6(x0:Int):=mu Ca (.e x0)
def aqi:=al4.fl 167 [.int] [.str] Ca (fun a=>.e a) (fun | .e x0=>.e [⟨.int,x0⟩] | .h0 v0 v1 v2 v3=>.h 0 ⟨46,[(0,sI v0),(3,sS v1),(21,.st .tK v2),(22,sI v3)],[],0⟩) { live:=[(0,[0,3,21,22])] } Tryz.func167
inductive Tk where
 | e (x0:An)
 | h0 (v0:Bool) (v1:List (anY)) (v2:Int) (v3:Int) (v4:An) (v5:Int) (v6:anY) (v7:form) (v8:field)
def uR:Tk->Te (An×Int) Tk
 | .e x0=>.l (aj x0) fun z2=>.l (aC ([[105,110,116,101,114,118,97,108],[115,116,97,114,116,95,112,101,114,105,111,100]]:List (anY))) fun z1=>.c (fA ⟨z2,aC x0.keys,(x0.kind != 3)⟩ [100,105,115,97,98,108,101] false) fun y1=>.l (aj ((y1.1).n)) fun z3=>.q ((fun n _=>fit n) z2 [116,101,115,116]) (.b (aB z2 [116,101,115,116]) (.c (Ji (aj (aG z2 [116,101,115,116]))) fun y2=>.c (cO ⟨⟨0,[],[],[]⟩,false⟩ [116,101,115,116] (dz (y2.1))) fun y3=>.g (.h0 (aM y1.2 y2.2.1) [[105,110,116,101,114,118,97,108],[115,116,97,114,116,95,112,101,114,105,111,100]] z1 0 x0 0 [] ⟨aj ((y3.1).n),(y3.1).bad⟩ ⟨z3,au ((y1.1).left-1),aM (y1.1).bad (!y2.2.2)⟩)) (.g (.h0 (y1.2) [[105,110,116,101,114,118,97,108],[115,116,97,114,116,95,112,101,114,105,111,100]] z1 0 x0 0 [] ⟨⟨0,[],[],[]⟩,false⟩ ⟨z3,(y1.1).left,(y1.1).bad⟩)))
 | .h0 v0 v1 v2 v3 v4 v5 v6 v7 v8=>.l (aj v7.n) fun z1=>.b (aF v3 v2) (.i v1 v3 fun y1=>.l (y1==[105,110,116,101,114,118,97,108]) fun z2=>.c (aX ⟨aj v8.n,v8.left,v8.bad⟩ y1 [49,115]) fun y2=>.l (aj ((y2.1).n)) fun z3=>.c (Jj (y2.2)) fun y3=>.l (aM (aM (y2.1).bad (y3.2 != 0)) (aab z2 (y3.1==0))) fun z4=>.q ((fun n _=>fit n) (aj v4) y1) (.b (aB (aj v4) y1) (.c (K6 (y3.1)) fun y4=>.c (cO ⟨z1,v7.bad⟩ y1 (dz y4)) fun y5=>.g (.h0 v0 v1 v2 (au (v3+1)) v4 v5 v6 ⟨aj ((y5.1).n),(y5.1).bad⟩ ⟨z3,(y2.1).left,z4⟩)) (.g (.h0 v0 v1 v2 (au (v3+1)) v4 v5 v6 ⟨z1,v7.bad⟩ ⟨z3,(y2.1).left,z4⟩)))) (.c (kI ⟨aj v8.n,v8.left,v8.bad⟩ [114,101,116,114,105,101,115]) fun y6=>.b (aF 0 y6.2) (.c (qD (y6.2)) fun y7=>.c (cO ⟨z1,v7.bad⟩ [114,101,116,114,105,101,115] (dz y7)) fun y8=>.b (!(aab (!(aM (y6.1).bad (aF 10 y6.2))) ((y6.1).left==0))) (.c eO fun y9=>.k (aj (y9.1),y9.2)) (.b v0 (.c (lT true) fun iC=>.c (cO ⟨⟨0,[],[],[]⟩,false⟩ [100,105,115,97,98,108,101] iC) fun yw=>.c (dD ⟨aj ((yw.1).n),(yw.1).bad⟩) fun nQ=>.k (aj (nQ.2.1),nQ.2.2)) (.c (dD ⟨aj ((y8.1).n),(y8.1).bad⟩) fun y13=>.k (aj (y13.2.1),y13.2.2)))) (.b (!(aab (!(y6.1).bad) ((y6.1).left==0))) (.c eO fun Am=>.k (aj (Am.1),Am.2)) (.b v0 (.c (lT true) fun y15=>.c (cO ⟨⟨0,[],[],[]⟩,false⟩ [100,105,115,97,98,108,101] y15) fun Vi=>.c (dD ⟨aj ((Vi.1).n),(Vi.1).bad⟩) fun Vj=>.k (aj (Vj.2.1),Vj.2.2)) (.c (dD ⟨z1,v7.bad⟩) fun Vk=>.k (aj (Vk.2.1),Vk.2.2)))))
def uS(x0:An):=mu uR (.e x0)
def agq:=aqi.fl 119 [.ah] [.ah,.bq] uR (fun a=>.e a) (fun | .e x0=>.e [⟨.ah,x0⟩] | .h0 v0 v1 v2 v3 v4 v5 v6 v7 v8=>.h 0 ⟨139,[(1,.ptr 0 0),(2,.ptr 1 0),(4,.ptr 2 0),(5,.ptr 3 0),(6,sB v0),(61,sL .str v1),(62,sI v2),(63,sI v3)],[(0,.box [.d (.int .i64 v4.kind),.d (.str v4.text),.d (.slice .str v4.keys),.d (.slice .ah v4.kids)]),(1,.box [sI v5,sS v6,.d (.raw (.slice none 0 0)),.d (.raw (.slice none 0 0))]),(2,.box [.d (.int .i64 v7.n.kind),.d (.str v7.n.text),.d (.slice .str v7.n.keys),.d (.slice .ah v7.n.kids),.d (.bool v7.bad)]),(3,.box [.d (.int .i64 v8.n.kind),.d (.str v8.n.text),.d (.slice .str v8.n.keys),.d (.slice .ah v8.n.kids),.d (.int .i64 v8.left),.d (.bool v8.bad)])],4⟩) { live:=[(0,[1,2,4,5,6,61,62,63])],nk:=[(0,[(4,some 2,false,.str),(4,some 3,false,.ah)])] } Tryz.func119
def jG(x0 x1:anY):Te ((anY)×Bool) Empty:=.c (iJ x0 x1) fun y1=>.b (!y1) (.k (x0,false)) (.q (bN x0 (aC x1) (aC x0)) (.k (cut x0 (aC x1) (aC x0),true)))
def jH(x0 x1:anY):=(jG x0 x1).o
def ED:=agq.f0 219 [.str,.str] [.str,.bool] (fun a=>jG a.1 a.2) Tryz.func219
def uF(x0 x1:anY):Te ((anY)×Bool) Empty:=.c (jH x0 x1) fun y1=>.k (y1.1,y1.2)
def uG(x0 x1:anY):=(uF x0 x1).o
def TY:=ED.f0 172 [.str,.str] [.str,.bool] (fun a=>uF a.1 a.2) Tryz.func172
def yM(x0:anY):Te (Bool) Empty:=.c (uG x0 [111,110,45,102,97,105,108,117,114,101,58]) fun y1=>.b y1.2 (.c (gW (y1.1) 10) fun y2=>.k (aab (y2.2==0) (aF 0 y2.1))) (.k (aM (aM (aM (x0==[110,111]) (x0==[97,108,119,97,121,115])) (x0==[117,110,108,101,115,115,45,115,116,111,112,112,101,100])) (x0==[111,110,45,102,97,105,108,117,114,101])))
def yN(x0:anY):=(yM x0).o
def ZH:=TY.f0 171 [.str] [.bool] (fun a=>yM a) Tryz.func171
def lK(x0:An):Te (An×Int) Empty:=.l (yN x0.text) fun z1=>.q ((z1.isSome)||!(!(x0.kind != 1))) (.b (aM (x0.kind != 1) (!(gv z1))) (.c eO fun y1=>.k (aj (y1.1),y1.2)) (.k (aj x0,0)))
def lM(x0:An):=(lK x0).o
def JQ:=ZH.c0 146 [.ah,.bq] [.v .ah,.c 171 [] []] (fun a=>lK a) Tryz.func146
def Cb(x0:An):Te (An×Int) Empty:=.c (lM (aj x0)) fun y1=>.k (aj (y1.1),y1.2)
def sQ(x0:An):=(Cb x0).o
def adx:=JQ.f0 120 [.ah] [.ah,.bq] (fun a=>Cb a) Tryz.func120
def Cc(x0:anY):Te (Bool) Empty:=.c (gW x0 8) fun y1=>.k (y1.2==0)
def Ce(x0:anY):=(Cc x0).o
def ady:=adx.f0 173 [.str] [.bool] (fun a=>Cc a) Tryz.func173
def mW(x0:An):Te (An×Int) Empty:=.l (Ce x0.text) fun z1=>.q ((z1.isSome)||!(!(x0.kind != 1))) (.b (aM (x0.kind != 1) (!(gv z1))) (.c eO fun y1=>.k (aj (y1.1),y1.2)) (.k (aj x0,0)))
def mX(x0:An):=(mW x0).o
def K7:=ady.c0 146 [.ah,.bq] [.v .ah,.c 173 [] []] (fun a=>mW a) Tryz.func146
def Gw(x0:An):Te (An×Int) Empty:=.c (mX (aj x0)) fun y1=>.k (aj (y1.1),y1.2)
def xw(x0:An):=(Gw x0).o
def ajk:=K7.f0 121 [.ah] [.ah,.bq] (fun a=>Gw a) Tryz.func121
inductive Tm where
 | e (x0:anY)
 | h0 (v0:anY) (v1:Int) (v2:Int)
def uT:Tm->Te ((anY)×(anY)×Bool) Tm
 | .e x0=>.g (.h0 x0 (x0.length) 0)
 | .h0 v0 v1 v2=>.l (au (v2+1)) fun z1=>.b (aF v2 v1) (.s v0 v2 fun y1=>.b (y1==46) (.q (bN v0 0 v2) (.q (bN v0 z1 (aC v0)) (.k (cut v0 0 v2,cut v0 z1 (aC v0),true)))) (.g (.h0 v0 v1 z1))) (.k (v0,[],false))
def Ee(x0:anY):=mu uT (.e x0)
def agr:=ajk.fl 220 [.str] [.str,.str,.bool] uT (fun a=>.e a) (fun | .e x0=>.e [⟨.str,x0⟩] | .h0 v0 v1 v2=>.h 0 ⟨24,[(0,sS v0),(7,sI v1),(8,sI v2)],[],0⟩) { live:=[(0,[0,7,8])] } Tryz.func220
inductive Tn where
 | e (x0:anY)
 | h0 (v0:anY) (v1:anY) (v2:Int) (v3:Int)
def uU:Tn->Te (Int×Int) Tn
 | .e x0=>.c (Ee x0) fun y1=>.l (aC (y1.2.1)) fun z1=>.l (aM (aF z1 1) (aF 3 z1)) fun z2=>.b y1.2.2 (.q (fU (y1.2.1) (au (z1-1))||!(!z2)) (.b (aM z2 (uH (y1.2.1) (au (z1-1))==48)) (.k (0,3)) (.g (.h0 (y1.1) (y1.2.1) 0 0)))) (.g (.h0 (y1.1) (y1.2.1) 0 0))
 | .h0 v0 v1 v2 v3=>.b (aF v3 3) (.b (bZ (aC v1) v3) (.g (.h0 v0 v1 (au (v2*10)) (au (v3+1)))) (.s v1 v3 fun y1=>.q (fU v1 v3||!(!(aF y1 48))) (.b (aM (aF y1 48) (aF 57 y1)) (.k (0,3)) (.q (fU v1 v3) (.g (.h0 v0 v1 (au (au (v2*10)+au (IntKind.wrap .u8 (y1-48)))) (au (v3+1)))))))) (.c (zu v0 9007199254740) fun y3=>.l (au (y3.1*1000)) fun z1=>.b (y3.2 != 0) (.k (0,y3.2)) (.b (aF (au (9007199254740992-v2)) z1) (.k (0,9)) (.k (au (z1+v2),0))))
def Ef(x0:anY):=mu uU (.e x0)
def ags:=agr.fl 175 [.str] [.int,.bq] uU (fun a=>.e a) (fun | .e x0=>.e [⟨.str,x0⟩] | .h0 v0 v1 v2 v3=>.h 0 ⟨80,[(4,sS v0),(5,sS v1),(7,sI v2),(34,sI v3)],[],0⟩) { live:=[(0,[4,5,7,34])] } Tryz.func175
def Eh(x0:anY):Te (Bool) Empty:=.c (Ef x0) fun y1=>.k (aab (y1.2==0) (aF 0 y1.1))
def Ei(x0:anY):=(Eh x0).o
def agt:=ags.f0 174 [.str] [.bool] (fun a=>Eh a) Tryz.func174
def nS(x0:An):Te (An×Int) Empty:=.l (Ei x0.text) fun z1=>.q ((z1.isSome)||!(!(x0.kind != 1))) (.b (aM (x0.kind != 1) (!(gv z1))) (.c eO fun y1=>.k (aj (y1.1),y1.2)) (.k (aj x0,0)))
def nT(x0:An):=(nS x0).o
def Ma:=agt.c0 146 [.ah,.bq] [.v .ah,.c 174 [] []] (fun a=>nS a) Tryz.func146
def Jk(x0:An):Te (An×Int) Empty:=.c (nT (aj x0)) fun y1=>.k (aj (y1.1),y1.2)
def zU(x0:An):=(Jk x0).o
def al5:=Ma.f0 122 [.ah] [.ah,.bq] (fun a=>Jk a) Tryz.func122
def Jl(x0:anY):Te (Int×Bool) Empty:=.l (aab (aC x0==2) (uH x0 1==98)) fun z2=>.l (cut x0 0 1) fun z1=>.q (fU x0 1||!(aC x0==2)) (.q (fU x0 0||!z2) (.b (aab z2 (uH x0 0 != 98)) (.q (bN x0 0 1) (.b (z1==[]) (.b (z1==[]) (.k (0,true)) (.b (z1==[107]) (.k (1,true)) (.b (z1==[109]) (.k (2,true)) (.b (z1==[103]) (.k (3,true)) (.k (0,false)))))) (.b (z1==[98]) (.k (0,true)) (.b (z1==[107]) (.k (1,true)) (.b (z1==[109]) (.k (2,true)) (.b (z1==[103]) (.k (3,true)) (.k (0,false)))))))) (.b (x0==[]) (.b (x0==[]) (.k (0,true)) (.b (x0==[107]) (.k (1,true)) (.b (x0==[109]) (.k (2,true)) (.b (x0==[103]) (.k (3,true)) (.k (0,false)))))) (.b (x0==[98]) (.k (0,true)) (.b (x0==[107]) (.k (1,true)) (.b (x0==[109]) (.k (2,true)) (.b (x0==[103]) (.k (3,true)) (.k (0,false)))))))))
def Dj(x0:anY):=(Jl x0).o
def al6:=al5.f0 221 [.str] [.int,.bool] (fun a=>Jl a) Tryz.func221
inductive Vl where
 | e (x0:anY)
 | h0 (v0:anY) (v1:Int)
def xA:Vl->Te (Int×Int) Vl
 | .e x0=>.g (.h0 x0 (x0.length))
 | .h0 v0 v1=>.l (au (v1-1)) fun z1=>.l (aF (uH v0 z1) 48) fun z2=>.q (fU v0 z1||!(aF 0 v1)) (.q (fU v0 z1||!(aF 0 v1&&(!z2))) (.b (aab (aF 0 v1) (aM z2 (aF 57 (uH v0 z1)))) (.g (.h0 v0 z1)) (.q (bN v0 v1 (aC v0)) (.c (Dj (cut v0 v1 (aC v0))) fun y1=>.l (au (10*y1.1)) fun z3=>.l (bZ 0 z3&&bZ z3 64) fun z4=>.b (!y1.2) (.k (0,3)) (.q (bN v0 0 v1) (.q z4 (.c (gW (cut v0 0 v1) (1125899906842624 / 2 ^ (Int.toNat z3))) fun y2=>.q z4 (.k (au (y2.1*2 ^ (Int.toNat z3)),y2.2)))))))))
def Gy(x0:anY):=mu xA (.e x0)
def ajl:=al6.fl 176 [.str] [.int,.bq] xA (fun a=>.e a) (fun | .e x0=>.e [⟨.str,x0⟩] | .h0 v0 v1=>.h 0 ⟨53,[(0,sS v0),(4,sI v1)],[],0⟩) { live:=[(0,[0,4])] } Tryz.func176
inductive Vm where
 | e (x0:Int)
 | h0 (v0:Int) (v1:Int)
def A8:Vm->Te (Int) Vm
 | .e x0=>.g (.h0 x0 0)
 | .h0 v0 v1=>.b (aab (aab (aF v1 3) (v0 != 0)) (bits .and .i64 v0 1023==0)) (.q (bZ 0 10&&bZ 10 64) (.g (.h0 (v0 / 2 ^ (Int.toNat 10)) (au (v1+1))))) (.k v1)
def nV(x0:Int):=mu A8 (.e x0)
def ajm:=ajl.fl 222 [.int] [.int] A8 (fun a=>.e a) (fun | .e x0=>.e [⟨.int,x0⟩] | .h0 v0 v1=>.h 0 ⟨20,[(0,sI v0),(3,sI v1)],[],0⟩) { live:=[(0,[0,3])] } Tryz.func222
def Jm(x0:Int):Te ((anY)) Empty:=.b (aM (aF x0 0) (aF 1125899906842624 x0)) (.k []) (.c (nV x0) fun y1=>.l (au (10*y1)) fun z2=>.l (Ai [[],[107],[109],[103]] y1 (dflt .str)) fun z1=>.q (bZ 0 z2&&bZ z2 64) (.c (qD (x0 / 2 ^ (Int.toNat z2))) fun y2=>.q (bZ 0 y1&&aF y1 4) (.q (decide (y2.length+z1.length<=aA)) (.k (y2++z1)))))
def Jo(x0:Int):=(Jm x0).o
def al7:=ajm.f0 177 [.int] [.str] (fun a=>Jm a) Tryz.func177
def Gz(x0:An):Te (An×Int) Empty:=.c (Gy x0.text) fun y1=>.b (aM (aM (x0.kind != 1) (y1.2 != 0)) (y1.1==0)) (.c eO fun y2=>.k (aj (y2.1),y2.2)) (.c (Jo (y1.1)) fun y3=>.k (aj (dz y3),0))
def xB(x0:An):=(Gz x0).o
def ajn:=al7.f0 123 [.ah] [.ah,.bq] (fun a=>Gz a) Tryz.func123
def yO(x0:Int):Te (Bool) Empty:=.c (wX x0) fun y1=>.q (((fG x0).isSome)||!(!y1)) (.k (aM y1 (gv (fG x0))))
def EF(x0:Int):=(yO x0).o
def ZI:=ajn.f0 68 [.byte] [.bool] (fun a=>yO a) Tryz.func68
def ZJ(x0:Int):Te (Bool) Empty:=.c (wX x0) fun y1=>.q (((fG x0).isSome)||!(!y1)) (.k (aM (aM (aM y1 (gv (fG x0))) (x0==45)) (x0==95)))
def ZK:=ZI.f0 71 [.byte] [.bool] (fun a=>ZJ a) Tryz.func71
inductive nD where
 | e (x0:anY)
 | h0 (v0:anY) (v1:Int)
def dK:nD->Te (Bool) nD
 | .e x0=>.l (EF (uH x0 0)) fun z2=>.l (aM (aF (aC x0) 1) (aF 24 (aC x0))) fun z1=>.q (fU x0 0||!(!z1)) (.q ((z2.isSome)||!(!z1)) (.b (aM z1 (!(gv z2))) (.k false) (.g (.h0 x0 1))))
 | .h0 v0 v1=>.b (aF v1 (aC v0)) (.s v0 v1 fun y1=>.c (wX y1) fun y2=>.q (((fG y1).isSome)||!(!y2)) (.b (!(aM (aM (aM y2 (gv (fG y1))) (y1==45)) (y1==95))) (.k false) (.g (.h0 v0 (au (v1+1)))))) (.k true)
def jB(x0:anY):=mu dK (.e x0)
def yj:=(ZK.I 71 Tryz.func71).cl 67 [.bool] [.v .str,.c 68 [] [],.c 71 [] []] dK (fun a=>.e a) (fun | .e x0=>.c [.v ⟨.str,x0⟩,.c 68 [] [],.c 71 [] []] | .h0 v0 v1=>.h 0 ⟨35,[(0,sS v0),(2,sF 71),(7,sI v1)],[],0⟩) { live:=[(0,[0,2,7])] } Tryz.func67
def Cg(x0:anY):Te (Bool) Empty:=.c (jB x0) fun y1=>.k y1
def Ch(x0:anY):=(Cg x0).o
def adz:=yj.f0 40 [.str] [.bool] (fun a=>Cg a) Tryz.func40
end Go.Proofs.YtibpdjmikfmmaaaGreatDoor.Rf
namespace Go.Proofs.YtibpdjmikfmmaaaGreatDoor.bB
open Go Go.RowKit
section
variable {P:Program} {n:Nat} {r:Option Nat} {ops:Array Oper} {Q Q':Exit->Act->World->Prop} {K K':Act->World->Prop} {a:Act} {w:World}
abbrev Wd(r:Option Nat):Fence:={ Fence.wide with round:=r }
theorem abE{f:FuncId}{args:Array Value}{R:Ending->World->Prop}:CallsIn (Wd r) n P f args w R↔Calls P f args w R:=callsIn_wide (n:=n)
theorem ayN{o:Oper}(ho:∀c,o.op ≠ .defer c)(h:o.wp P a w K Q):o.wpIn (Wd r) n P a w K Q:=by
 refine⟨fun _ _=>trivial,?_⟩;rw[show o.semAt (Wd r).round a.eval=execOp a.eval o from Oper.semAt_eq r a.eval o ho];unfold Oper.wp at h;generalize (execOp a.eval o).run P w=q at *;cases q with
 | ok x w' =>
  cases x with
  | enter f args=>exact⟨fun h=>(by cases h),abE.2 h⟩
  | row row args=>exact⟨fun h=>(by cases h),fun c cs _=>let⟨v,w'',hr,hs⟩:=h c cs;⟨v,w'',hr,stepsIn_wide.2 hs⟩⟩
  | round l f tmps assign body=>exact h.elim
  | _=>exact h
 | halt x w'=>cases x<;>exact h
theorem abF{F:Fence}{o:Oper}(hK:∀a w,K a w->K' a w)(hp:∀c a w,Q (.panic c) a w->Q' (.panic c) a w)(hl:LetsOut Q->LetsOut Q')(hh:o.wpIn F n P a w K Q):o.wpIn F n P a w K' Q':=by
 unfold Oper.wpIn at *;refine⟨hh.1,?_⟩;have hh:=hh.2;generalize (o.semAt F.round a.eval).run P w=q at *;cases q with
 | ok x w' =>
  cases x<;>simp only[Oper.uponIn]at hh ⊢ <;>
   first
    | exact hK _ _ hh
    | exact⟨hh.1,CallsIn.mono hh.2 (fun e w'' he=>by cases e<;>first | exact hK _ _ he | exact hp _ _ _ he | exact hl he)⟩
    | exact⟨hh.1,RowsIn.mono hh.2 (fun _ _ he=>hK _ _ he)⟩
    | exact⟨hh.1,RoundIn.mono hh.2 (fun e w'' he=>by cases e<;>first | exact hK _ _ he | exact hp _ _ _ he | exact hl he)⟩
 | halt x w'=>cases x<;>simp only[Oper.uponIn]at hh ⊢ <;> first | exact hp _ _ _ hh | exact hh
def PL:List Oper->Bool
 | []=>true
 | o::r=>(match o.op with | .defer _=>false | _=>true)&&PL r
theorem adA(hQ:¬ LetsOut Q):∀(l:List Oper) (a:Act) (w:World),PL l=true->wpList P ops Q l a w->wpListIn (Wd r) n P ops Q l a w
 | [],_,_,_,h=>h
 | o::rest,a,w,hd,h=>by
  simp only[PL,abK]at hd;unfold wpList at h;unfold wpListIn;split
  ·rename_i hw;rw[if_pos hw]at h;rcases h with h | h
   ·exact abF (fun a w h=>adA hQ rest a w hd.2 h) (fun _ _ _ h=>h) id (ayN (fun c hc=>by rw[hc]at hd;simp at hd) h)
   ·exact absurd h.2 hQ
  ·rename_i hw;rw[if_neg hw]at h;exact⟨fun _ _=>trivial,adA hQ rest _ w hd.2 h⟩
def Nm(K:Act->World->Prop):Exit->Act->World->Prop
 | .normal,a,w=>K a w
 | _,_,_=>False
theorem Nm.out:¬ LetsOut (Nm K):=fun⟨_,_,h⟩=>h
theorem ZL{F:Fence}{l2:List Oper}:∀(l:List Oper) (a:Act) (w:World),wpListIn F n P ops (Nm (wpListIn F n P ops Q l2)) l a w->wpListIn F n P ops Q (l++l2) a w
 | [],_,_,h=>h
 | o::rest,a,w,h=>by
  unfold wpListIn at h;rw[aft];unfold wpListIn;split
  ·rename_i hw;rw[if_pos hw]at h;exact abF (fun a w h=>ZL rest a w h) (fun _ _ _ h=>h.elim) (fun h=>absurd h Nm.out) h
  ·rename_i hw;rw[if_neg hw]at h;exact⟨h.1,ZL rest _ w h.2⟩
end
section
variable {P:Program} {E:Env P} {O:aR E} {w0:Start} {aP:Nat->Nat->Prop} {S:aI E} {a:Act} {w w':World} {ι ι':Nat->Option Gh} {ro ro':Nat->Nat->Prop} {n:Nat} {r:Option Nat} {Q:Exit->Act->World->Prop}
structure Kept (w:World) (ι:Nat->Option Gh) (ro:Nat->Nat->Prop) (w':World) (ι':Nat->Option Gh) (ro':Nat->Nat->Prop):Prop where
 cell:∀k o,ro k o->ro' k o/\w'.cell? ⟨k,o,none⟩=w.cell? ⟨k,o,none⟩
 ext:∀id gh,ι id=some gh->ι' id=some gh
theorem bO.rek(hg:bO E w0 aP S a w ι ro):bO E { w0 with k:=some ⟨w,ro,ι⟩ } aP S a w ι ro :=
 ⟨⟨hg.base.below,hg.base.aZ,hg.base.rU,hg.base.uZ,hg.base.defers,(fun q hq=>by cases hq;exact⟨fun k o h=>⟨h,rfl⟩,fun _ _ h=>h⟩),hg.base.held⟩,hg.size,hg.tmps,hg.objs,hg.inj,hg.fresh,hg.ids⟩
theorem bO.unk(hk:w0.k=none){S':aI E}{a':Act}(hg:bO E { w0 with k:=some ⟨w,ro,ι⟩ } aP S' a' w' ι' ro'):bO E w0 aP S' a' w' ι' ro'/\Kept w ι ro w' ι' ro' :=
 ⟨⟨⟨hg.base.below,hg.base.aZ,hg.base.rU,hg.base.uZ,hg.base.defers,(fun q hq=>by rw[hk]at hq;cases hq),hg.base.held⟩,hg.size,hg.tmps,hg.objs,hg.inj,hg.fresh,hg.ids⟩,⟨fun k o h=>((hg.base.keep _ rfl).1 k o h),fun id gh h=>(hg.base.keep _ rfl).2 id gh h⟩⟩
theorem bO.frame(hg:bO E w0 aP S a w ι ro){a':Act}{m nx:Nat}{tm:List (Nat×AV E)}(hd:a'.defers=w0.dl)(hs:a'.tmps.size=m)(ht:yE E w ro ι a' tm)(hx:S.next<=nx):bO E w0 aP ⟨m,tm,S.objs,nx⟩ a' w ι ro :=
 ⟨⟨hg.base.below,hg.base.aZ,hg.base.rU,hg.base.uZ,hd,hg.base.keep,hg.base.held⟩,hs,ht,hg.objs,hg.inj,fun id h=>hg.fresh id (Nat.le_trans hx h),fun id o h=>afg (hg.ids id o h) hx⟩
theorem bO.turn(hg:bO E w0 aP S a w ι ro)(hk:w0.k=none){H:Nat->Option Obj}{dl:List Deferred}{a':Act}(hd:a'.defers=dl)(ht:a'.tmps=a.tmps)(hos:w'.os=w.os)(aCi:w'.tape=w.tape)(hout:w'.output=w.output)(hsize:w.heap.size<=w'.heap.size)
  (hframe:∀k,k<w.heap.size->w0.w.heap.size<=k/\(∀id gh,ι id=some gh->gh.blk≠some k)\/w'.heap[k]? = w.heap[k]?) (hcell:∀k o,k<w.heap.size->w'.cell? ⟨k,o,none⟩=w.cell? ⟨k,o,none⟩)
  (hH:∀k o,H k=some o->w'.heap[k]? = some o/\∀id gh,ι id=some gh->gh.blk≠some k):bO E { w0 with h:=H,dl:=dl } aP S a' w' ι ro:=by
 have hfr:∀id gh g,ι id=some gh->gh.blk=some g->w'.heap[g]? = w.heap[g]? := fun id gh g h1 h2=>by
  rcases hframe g (hg.base.uZ id gh g h1 h2).2 with h | h
  ·exact absurd h2 (h.2 id gh h1)
  ·exact h
 have hc:∀k o,ro k o->w'.cell? ⟨k,o,none⟩=w.cell? ⟨k,o,none⟩:=fun k o h=>hcell k o (hg.base.aZ k o h)
 refine⟨⟨⟨hos.trans hg.base.below.os,aCi.trans hg.base.below.tape,hout.trans hg.base.below.output,Nat.le_trans hg.base.below.size hsize,fun k hk hne=>?_⟩,fun k o h=>afg (hg.base.aZ k o h) hsize,hg.base.rU,fun id gh k h1 h2=>⟨(hg.base.uZ id gh k h1 h2).1,afg (hg.base.uZ id gh k h1 h2).2 hsize⟩,hd,(fun q hq=>by have:w0.k=some q:=hq;rw[hk]at this;cases this),hH⟩,by rw[ht];exact hg.size,fun t x hl=>?_,fun id o hl=>?_,hg.inj,hg.fresh,hg.ids⟩
 ·refine Eq.trans ?_ (hg.base.below.block k hk hne);rcases hframe k (afg hk hg.base.below.size)with h | h
  ·exact absurd (show k<w0.w.heap.size from hk) (Nat.not_lt.2 h.1)
  ·exact h
 ·obtain⟨v,h1,h2⟩:=hg.tmps t x hl;rw[<- ht]at h1 h2;exact⟨v,h1,h2.mono (fun _ _ h=>h) hc (fun _ _ h=>h)⟩
 ·have h:=hg.objs id o hl;cases o with
  | dead=>trivial
  | tail l =>intro hl;obtain⟨gh,xs,h1,h2,h3⟩:=h hl;exact⟨gh,xs,h1,h2.frame (fun g hb=>hfr id gh g h1 hb),h3⟩
  | X6 =>obtain⟨gh,g,h1,h2,h3⟩:=h;exact⟨gh,g,h1,h2,(hfr id gh g h1 h2).trans h3⟩
  | arr t l fz =>obtain⟨h0,gh,g,vs,e,h1,h2,h3,h4,h5,h6,h7⟩:=h;exact⟨h0,gh,g,vs,e,h1,h2,h3,(hfr id gh g h1 h3).trans h4,h5,fun j v c hv hj=>⟨(h6 j v c hv hj).1,(h6 j v c hv hj).2.mono (fun _ _ h=>h) hc (fun _ _ h=>h)⟩,h7⟩
  | lp st pend n tm ps assign body =>
   obtain⟨gh,g,rec,h1,h2,h3,h4,h5⟩:=h;exact⟨gh,g,rec,h1,h2,(hfr id gh g h1 h2).trans h3,h4,fun t x hl=>by obtain⟨v,q1,q2⟩:=h5 t x hl;exact⟨v,q1,q2.mono (fun _ _ h=>h) hc (fun _ _ h=>h)⟩⟩
  | mp K V l =>
   obtain⟨gh,g,es,h1,h2,h3,h4,h5,h6⟩:=h;exact⟨gh,g,es,h1,h2,h3,(hfr id gh g h1 h3).trans h4,h5,fun j e x he hx=>by obtain⟨k1,k2,k3,k4⟩:=h6 j e x he hx;exact⟨k1,k2,k3,fun i v c hv hc'=>⟨(k4 i v c hv hc').1,(k4 i v c hv hc').2.mono (fun _ _ h=>h) hc (fun _ _ h=>h)⟩⟩⟩
  | row t l =>
   obtain⟨gh,xs,h1,h2,h3,h4,h5,h6,h7⟩:=h;exact⟨gh,xs,h1,h2,h3,h4,h5.frame (fun g hb=>hfr id gh g h1 hb),fun i x j c hx hj=>by obtain⟨u,hu,hr⟩:=h6 i x j c hx hj;exact⟨u,hu,hr.mono (fun _ _ h=>h) hc⟩,h7⟩
  | box cs =>obtain⟨gh,g,vs,e,h1,h2,h3,h4,h5,h6,h7⟩:=h;exact⟨gh,g,vs,e,h1,h2,h3,(hfr id gh g h1 h3).trans h4,h5,fun j v c hv hj=>⟨(h6 j v c hv hj).1,(h6 j v c hv hj).2.mono (fun _ _ h=>h) hc (fun _ _ h=>h)⟩,h7⟩
def NR{α:Type}(l:List (Nat×α)):List Nat->List (Nat×α)
 | []=>[]
 | i::r=>match look l i with
  | some x=>(i,x)::NR l r
  | none=>NR l r
theorem yP{α:Type}{l:List (Nat×α)}:∀{ids:List Nat} {t:Nat} {x:α},look (NR l ids) t=some x->look l t=some x
 | [],_,_,h=>by cases h
 | i::r,t,x,h=>by
  unfold NR at h;split at h
  ·rename_i y hy;simp only[bf]at h;split at h
   ·rename_i hb;have:=abe hb;subst this;cases h;exact hy
   ·exact yP h
  ·exact yP h
theorem Vn{α:Type}{l:List (Nat×α)}:∀{ids:List Nat} {p:Nat×α},p∈NR l ids->p∈l
 | [],_,h=>by cases h
 | i::r,p,h=>by
  unfold NR at h;split at h
  ·rename_i y hy;cases h with
   | head=>exact j5 _ _ _ hy
   | tail _ h=>exact Vn h
  ·exact Vn h
def pk(ts ids:List Nat)(nx:Nat)(S:aI E):Option (aI E):=match Nat.ble S.next nx with
 | true=>some ⟨S.n,NR S.tmps ts,NR S.objs ids,nx⟩
 | false=>none
theorem bO.pick(hnc:aS S.tmps)(hg:bO E w0 aP S a w ι ro){ts ids:List Nat}{nx:Nat}{X:aI E}(h:pk ts ids nx S=some X):aS X.tmps/\bO E w0 aP X a w ι ro/\X.n=S.n:=by
 unfold pk at h;split at h
 ·rename_i hb;cases h;have hx:=Nat.le_of_ble_eq_true hb;exact⟨fun p hp=>hnc p (Vn hp),⟨hg.base,hg.size,fun t x hl=>hg.tmps t x (yP hl),fun id o hl=>hg.objs id o (yP hl),
   fun id id' o o' gh bE k h1 h2=>hg.inj id id' o o' gh bE k (yP h1) (yP h2),fun id h=>hg.fresh id (Nat.le_trans hx h),fun id o h=>afg (hg.ids id o (yP h)) hx⟩,rfl⟩
 ·cases h
theorem Xu(hO:aJ E O)(hk:w0.k=none)(hnc:aS S.tmps)(hg:bO E w0 aP S a w ι ro){ops:Array Oper}{L l l2:List Oper}(hL:L=l++l2)(hd:PL l=true){ts ids:List Nat}{nx:Nat}{X:aI E}(h:nI O ops S.n S.tmps l [] S.objs S.next (pk ts ids nx)=some X)
  (hq:∀a' w' ι' ro',aS X.tmps->bO E w0 aP X a' w' ι' ro'->Kept w ι ro w' ι' ro'->wpListIn (Wd r) n P ops Q l2 a' w'):wpListIn (Wd r) n P ops Q L a w:=by
 subst hL;refine ZL l a w (adA Nm.out l a w hd (IX (n:=S.n) (glob:=S.tmps) hO hnc (fun S1 a' w' ι' ro' h1 h2 h3 h4=>?_) l [] S.objs S.next a w ι ro hg.rek h));obtain⟨g1,g2⟩:=h2.unk hk;obtain⟨p1,p2,_⟩:=g1.pick h1 h4;exact hq a' w' ι' ro' p1 p2 g2
theorem zx(hO:aJ E O)(hk:w0.k=none)(hnc:aS S.tmps)(hg:bO E w0 aP S a w ι ro){ops:Array Oper}{id:Nat}(hd:PL ops.toList=true)(ts ids:List Nat)(nx:Nat)(X:aI E)(h:nI O ops S.n S.tmps ops.toList [] S.objs S.next (pk ts ids nx)=some X)
  (hq:∀a' w' ι' ro',aS X.tmps->bO E w0 aP X a' w' ι' ro'->Kept w ι ro w' ι' ro'->Q .normal a' w'):(Code.region id ops false).wpIn (Wd r) n P Q a w :=
 wpIn_region_list (Xu (l2:=[]) hO hk hnc hg (acg _).symm hd h hq)
theorem Kept.refl:Kept w ι ro w ι ro:=⟨fun _ _ h=>⟨h,rfl⟩,fun _ _ h=>h⟩
theorem Kept.trans{w2:World}{ι2:Nat->Option Gh}{Yg:Nat->Nat->Prop}(h:Kept w ι ro w' ι' ro')(h':Kept w' ι' ro' w2 ι2 Yg):Kept w ι ro w2 ι2 Yg :=
 ⟨fun k o q=>⟨(h'.cell k o (h.cell k o q).1).1,(h'.cell k o (h.cell k o q).1).2.trans (h.cell k o q).2⟩,fun id gh q=>h'.ext id gh (h.ext id gh q)⟩
theorem yE.kept{tm:List (Nat×AV E)}(h:yE E w ro ι a tm)(hk:Kept w ι ro w' ι' ro'):yE E w' ro' ι' a tm:=fun t x hl=>by obtain⟨v,h1,h2⟩:=h t x hl;exact⟨v,h1,h2.mono (fun k o q=>(hk.cell k o q).1) (fun k o q=>(hk.cell k o q).2) hk.ext⟩
theorem Yy(w:World){l:Nat}{o o':Obj}(hl:w.heap[l]? = some o)(h1:o.isCells=false)(h2:o'.isCells=false)(k q:Nat):(w.putObj l o').cell? ⟨k,q,none⟩=w.cell? ⟨k,q,none⟩:=by
 have hlt:=(Array.getElem?_eq_some_iff.1 hl).1;by_cases e:k=l
 ·subst e;unfold World.cell?;rw[World.putObj_heap_same hlt,hl];cases o<;>cases o'<;>first | rfl | (cases h2;done) | (cases h1;done)
 ·unfold World.cell?;rw[World.putObj_heap_other e]
theorem bO.anC(hg:bO E w0 aP S a w ι ro)(hk:w0.k=none){l:Nat}{o o':Obj}(hl:w0.h l=some o)(hb:w0.w.heap.size<=l)(h1:o.isCells=false)(h2:o'.isCells=false) :
  bO E { w0 with h:=fun k=>if k=l then some o' else w0.h k } aP S a (w.putObj l o') ι ro/\Kept w ι ro (w.putObj l o') ι ro:=by
 obtain⟨q1,q2⟩:=hg.base.held l o hl;have hlt:=(Array.getElem?_eq_some_iff.1 q1).1;refine⟨hg.turn hk (dl:=w0.dl) hg.base.defers rfl rfl rfl rfl (by rw[World.putObj_size];exact ab8 _) (fun k hk'=>?_) (fun k q _=>Yy w q1 h1 h2 k q) (fun k p hp=>?_),⟨fun k q h=>⟨h,Yy w q1 h1 h2 k q⟩,fun _ _ h=>h⟩⟩
 ·by_cases e:k=l
  ·subst e;exact .inl ⟨hb,q2⟩
  ·exact .inr (World.putObj_heap_other e)
 ·by_cases e:k=l
  ·subst e;simp only[if_true]at hp;cases hp;exact⟨World.putObj_heap_same hlt,q2⟩
  ·simp only[if_neg e]at hp;obtain⟨p1,p2⟩:=hg.base.held k p hp;exact⟨(World.putObj_heap_other e).trans p1,p2⟩
theorem bO.put{m nx:Nat}{tm:List (Nat×AV E)}{objs:List (Nat×aU E)}(hg:bO E w0 aP ⟨m,tm,objs,nx⟩ a w ι ro)(hnc:aS tm){d:Nat}{val:Value}{x:AV E}(hd:d<m)(hv:aO E w ro ι val x)(hx:eF x=false) :
  bO E w0 aP ⟨m,(d,x)::tm,objs,nx⟩ (a.put (some d) val) w ι ro/\aS ((d,x)::tm):=by
 refine⟨⟨⟨hg.base.below,hg.base.aZ,hg.base.rU,hg.base.uZ,hg.base.defers,hg.base.keep,hg.base.held⟩,QT.trans hg.size,fun t y hl=>?_,hg.objs,hg.inj,hg.fresh,hg.ids⟩,fun p hp=>?_⟩
 ·simp only[bf]at hl;split at hl
  ·rename_i hb;have:=abe hb;subst this;cases hl;refine⟨val,?_,by cases x<;>first | exact hv | cases hx⟩;have hs:a.tmps.size=m:=hg.size;simp[Act.put,hs,hd]
  ·rename_i hb;obtain⟨v,h1,h2⟩:=hg.tmps t y hl;have hne:d≠t:=fun e=>hb (by subst e;exact Nat.beq_refl d)
   refine⟨v,(EW (fun e=>hne (by injection e))).trans h1,?_⟩;have hc:=hnc _ (j5 _ _ _ hl);cases y<;>first | exact h2 | cases hc
 ·cases hp with
  | head=>exact hx
  | tail _ hp=>exact hnc p hp
theorem ajo{l:Nat}{o:Oper}{lJ:Operand}{xs:Array Operand}{ts:Array TypeId}(ho:o.op = .call { callee:=.value lJ,args:=xs,argTypes:=ts }){fn:FuncId}{tmps:Array Value}{assign body:Code}{K:Act->World->Prop}(hc:a.eval lJ = .func (.yield l) #[] #[])
  (hy:(Instr.yield l (xs.map a.eval)).run P w = .ok (.round l fn tmps assign body) w) (hr:RoundIn (Wd none) (n-1) P l fn tmps assign body w fun e w'=>∃v,e = .returned v/\K (a.put o.dst v) w'):o.wpIn (Wd none) n P a w K Q:=by
 refine⟨fun _ _=>trivial,?_⟩;have e:(o.semAt (Wd none).round a.eval).run P w = .ok (.round l fn tmps assign body) w:=by rw[show o.semAt (Wd none).round a.eval=execOp a.eval o from Oper.semAt_none a.eval o];simp only[execOp,ho,resolve,hc,Deferred.ofValue,Sem.run_bind,Sem.run_pure,Result.andThen_ok,invoke];simpa using hy
 rw[e];exact⟨fun h=>(by cases h),hr.mono fun e w' he=>by obtain⟨v,rfl,hk⟩:=he;exact hk⟩
end
end Go.Proofs.YtibpdjmikfmmaaaGreatDoor.bB
namespace Go.Proofs.YtibpdjmikfmmaaaGreatDoor.Rf
open Go Go.RowKit Go.Sort Go.Proofs.YtibpdjmikfmmaaaGreatDoor.bB
noncomputable def ZM:iU E:=Cv (E:=E) .str .str .int vJ qA
def Vo:FuncId:=264
noncomputable def ZN(_G:gY E)(x0 x1:anY):Option (List (TV E)) :=
 bif(vJ x0 x1)then some [⟨.int,(qA x0 x1)⟩]else none
theorem asE:aJ E (iV [(240,Rx)] [] [] []):=eU (.cons U3 .nil) .nil .nil .nil
theorem ajp(h:∀(x0:anY) (x1:anY),vJ x0 x1=true->ZN (Gr E Tryz.f264 [⟨.int,qA x0 x1⟩]) x0 x1=some [⟨.int,qA x0 x1⟩]):aV E Vo ZM:=zl asE mix Tryz.func264 (by kernel_rfl) (by kernel_rfl) (fun x0 x1 hk=>fT (H:={}) (t:=fun G=>ZN G x0 x1) (fun G=>by kernel_rfl) (h x0 x1 hk))
theorem asF:aV E Vo ZM:=ajp fun s p hk=>by simp only[ZN,hk,cond_true]
section
def Jp(i:Nat):Code->Option (Array Oper)
 | .region id ops _=>bif Nat.beq id i then some ops else none
 | .seq x y=>match Jp i x with | some r=>some r | none=>Jp i y
 | .cond _ x y=>match Jp i x with | some r=>some r | none=>Jp i y
 | .block _ c=>Jp i c
 | .loop c=>Jp i c
 | .scope c=>Jp i c
 | .rangeFunc _ _ x y=>match Jp i x with | some r=>some r | none=>Jp i y
 | _=>none
def opsOf(f:Func)(i:Nat):Array Oper:=match f.body with
 | some c=>(match Jp i c with | some r=>r | none=>#[])
 | none=>#[]
noncomputable abbrev i7(i:Nat):Array Oper:=opsOf Tryz.f243 i
noncomputable def A3:Code:=.region 6 (i7 6) false
noncomputable def B4:Code:=.block 1 (.seq (.region 7 (i7 7) false) (.cond (.tmp 27) (.seq (.region 8 (i7 8) false) .ret) .skip))
def lU(rest:anY):List (Nat×aU E) :=
 [(0,.box [.d (.bool false)]),(1,.box [.d (.str rest)]),(2,.box [.d (.str [47])]),(3,.box [.d (.int .i64 0)])]
noncomputable def rc(fn:FuncId)(tms:Array Value)(D:Nat)(st:LoopState)(pe:Option Code):Loop:={ state:=st,pending:=pe,fn:=fn,tmps:=tms,params:=#[17],assign:=A3,body:=B4,defers:=D }
def hd(l D:Nat)(o:Obj):Nat->Option Obj:=fun k=>if k=l then some o else if k=D then some (.deferred (some []))else none
def Cw(W:World)(l D:Nat)(o:Obj):bB.Start:=⟨W,none,none,[],hd l D o⟩
theorem aCj(l D:Nat)(o o':Obj):(fun k=>if k=l then some o' else hd l D o k)=hd l D o':=by
 funext k;unfold hd;by_cases e:k=l
 ·rw[if_pos e,if_pos e]
 ·rw[if_neg e,if_neg e,if_neg e]
theorem abG{W:World}{aP:Nat->Nat->Prop}{l D:Nat}{o o':Obj}{S:aI E}{a:Act}{w:World}{ι:Nat->Option Gh}{ro:Nat->Nat->Prop}(hg:bO E (Cw W l D o) aP S a w ι ro)(hb:W.heap.size<=l)(h1:o.isCells=false)(h2:o'.isCells=false) :
  bO E (Cw W l D o') aP S a (w.putObj l o') ι ro/\Kept w ι ro (w.putObj l o') ι ro:=by
 obtain⟨g1,g2⟩:=hg.anC rfl (l:=l) (o:=o) (o':=o') (if_pos rfl) hb h1 h2;refine⟨?_,g2⟩;have e:({ Cw W l D o with h:=fun k=>if k=l then some o' else(Cw W l D o).h k }:bB.Start)=Cw W l D o':=by show(⟨W,none,none,[],fun k=>if k=l then some o' else hd l D o k⟩:bB.Start)=_;rw[aCj];rfl
 rwa[e]at g1
theorem abH{W:World}{aP:Nat->Nat->Prop}{l D:Nat}{o:Obj}{S:aI E}{a:Act}{w:World}{ι:Nat->Option Gh}{ro:Nat->Nat->Prop}(hg:bO E (Cw W l D o) aP S a w ι ro):w.heap[l]? = some o:=(hg.base.held l o (if_pos rfl)).1
noncomputable def Tp:aR E:=iV [(Vo,ZM)] [] [] []
theorem A9:aJ E Tp:=eU (.cons asF .nil) .nil .nil .nil
def j6(x:anY):Bool:=bif(bif x==[]then true else x==[46])then true else x==[46,46]
theorem aEt(x rest:anY):nI Tp (i7 6) 28 [(17,.d (.str x)),(2,.ptr 0 0)] (i7 6).toList [] (lU rest) 100 (pk [3,2] [0,1,2,3] 110)=some ⟨28,[(3,.d (.str x)),(2,.ptr 0 0)],lU rest,110⟩:=by kernel_rfl
theorem aEu(x rest:anY):nI Tp (i7 7) 28 [(3,.d (.str x)),(2,.ptr 0 0)] (i7 7).toList [] (lU rest) 110 (pk [27,2] [0,1,2,3] 120)=some ⟨28,[(27,.d (.bool (j6 x))),(2,.ptr 0 0)],lU rest,120⟩:=by kernel_rfl
theorem aEv(b:Bool)(rest:anY):nI Tp (i7 8) 28 [(27,.d (.bool b)),(2,.ptr 0 0)] (i7 8).toList [] (lU rest) 120 (pk [] [0,1,2,3] 200)=some ⟨28,[],lU rest,200⟩:=by kernel_rfl
theorem Lh{w0:bB.Start}{aP:Nat->Nat->Prop}{S:aI E}{a:Act}{w:World}{ι:Nat->Option Gh}{ro:Nat->Nat->Prop}(hg:bO E w0 aP S a w ι ro){t:Nat}{b:Bool}(h:bG S.tmps [] (.tmp t) = .d (.bool b)):a.eval (.tmp t) = .bool b:=by have hc:=yF (E:=E) (asm:=[]) hg.tmps (fun j b hb=>by simp[uY]at hb) (.tmp t);rw[h]at hc;exact hc.tq
theorem ajq{W:World}{aP:Nat->Nat->Prop}{l D fn n:Nat}{tms:Array Value}{g6 nx:Nat}{zi:Gh}{tm:List (Nat×AV E)}{rest x:anY}{a:Act}{w:World}{ι:Nat->Option Gh}{ro:Nat->Nat->Prop}
  (hW:W.heap.size<=l) (hts:tms.size=28) (h6:tms[2]? = some (.pointer (some ⟨g6,0,none⟩))) (hv0:zi.v = .pointer (some ⟨g6,0,none⟩)) (hi0:ι 0=some zi) (hnx:nx<=100)
  (hg:bO E (Cw W l D (.loop (rc fn tms D .ready none))) aP ⟨52,tm,lU rest,nx⟩ a w ι ro) :
  (Instr.yield l #[.string ⟨x.toArray⟩]).run Tryz.prog w = .ok (.round l fn (tms.setIfInBounds 17 (.string ⟨x.toArray⟩)) A3 B4) w /\
  RoundIn (Wd none) n Tryz.prog l fn (tms.setIfInBounds 17 (.string ⟨x.toArray⟩)) A3 B4 w fun e w'=>∃v,e = .returned v/\v = .bool (!j6 x)/\∃ι' ro',bO E (Cw W l D (.loop (rc fn tms D (bif j6 x then .done else .ready) (bif j6 x then some .ret else none)))) aP ⟨52,tm,lU rest,200⟩ a w' ι' ro'/\Kept w ι ro w' ι' ro':=by
 have hl:=abH hg;refine⟨by rw[run_yield hl rfl];first | (simp[rc];done) | kernel_rfl,?_⟩;refine roundIn_of_wpIn (F:=Wd none) trivial ?_;show A3.wpIn (Wd (some l)) n Tryz.prog _ _ w;let a1:Act:={ tmps:=tms.setIfInBounds 17 (.string ⟨x.toArray⟩),defers:=[] }
 have hg1:bO E (Cw W l D (.loop (rc fn tms D .ready none))) aP ⟨28,[(17,.d (.str x)),(2,.ptr 0 0)],lU rest,100⟩ a1 w ι ro:=by
  refine hg.frame rfl (by simp[a1,hts]) (fun t y hl=>?_) hnx;simp only[bB.look]at hl;cases hb:Nat.beq 17 t with
  | true =>rw[hb]at hl;have:=abe hb;subst this;cases hl;exact⟨.string ⟨x.toArray⟩,by simp[a1,hts],aO.d _ _ (.str x)⟩
  | false =>
   rw[hb]at hl;cases hb2:Nat.beq 2 t with
   | true =>rw[hb2]at hl;have:=abe hb2;subst this;cases hl;exact⟨.pointer (some ⟨g6,0,none⟩),by simp[a1,h6],aO.ptr zi g6 0 0 hi0 hv0⟩
   | false=>rw[hb2]at hl;cases hl
 refine zx A9 rfl (fun p hp=>by simp at hp;rcases hp with rfl | rfl<;>rfl) hg1 (by kernel_rfl) [3,2] [0,1,2,3] 110 _ (aEt x rest) fun a2 w2 ι2 Yg aEw hg2 hk2=>?_
 refine⟨_,run_beginRound (abH hg2) rfl,?_⟩;obtain⟨hg3,hk3⟩:=abG (o':=.loop (rc fn tms D .busy none)) hg2 hW rfl rfl;show B4.wpIn (Wd (some l)) n Tryz.prog _ a2 _;refine wpIn_block (wpIn_seq ?_);refine zx A9 rfl aEw hg3 (by kernel_rfl) [27,2] [0,1,2,3] 120 _ (aEu x rest) fun a4 w4 ι4 ro4 aAy hg4 hk4=>?_
 have hb:=Lh hg4 (t:=27) (b:=j6 x) rfl;cases hbad:j6 x with
 | false =>rw[hbad]at hb;refine wpIn_cond_false hb (wpIn_skip ?_);refine⟨_,_,run_endRound none (abH hg4),_,rfl,rfl,?_⟩;obtain⟨hg5,hk5⟩:=abG (o':=.loop (rc fn tms D .ready none)) hg4 hW rfl rfl;have hk:=((hk2.trans hk3).trans hk4).trans hk5;exact⟨ι4,ro4,hg5.frame hg.base.defers hg.size (hg.tmps.kept hk) (by show 120<=200;omega),hk⟩
 | true =>
  rw[hbad]at hb;refine wpIn_cond_true hb (wpIn_seq ?_);refine zx A9 rfl aAy hg4 (by kernel_rfl) [] [0,1,2,3] 200 _ (aEv (j6 x) rest) fun a5 w5 ι5 ro5 aEx hg5 hk5=>?_
  refine wpIn_ret ?_;refine⟨_,_,run_endRound (some .ret) (abH hg5),_,rfl,rfl,?_⟩;obtain⟨hg6,hk6⟩:=abG (o':=.loop (rc fn tms D .done (some .ret))) hg5 hW rfl rfl;have hk:=(((hk2.trans hk3).trans hk4).trans hk5).trans hk6;exact⟨ι5,ro5,hg6.frame hg.base.defers hg.size (hg.tmps.kept hk) (ab8 _),hk⟩
end
def tX:anY->List (anY)
 | []=>[[]]
 | c::r=>bif c==47 then[]::tX r else match tX r with
  | h::t=>(c::h)::t
  | []=>[[c]]
theorem Vp(c:UInt8)(r:anY):tX (c::r)=bif c==47 then[]::tX r else match tX r with | h::t=>(c::h)::t | []=>[[c]]:=rfl
theorem afi:∀(s:anY),Lib.indexByte s 47<0->tX s=[s]
 | [],_=>rfl
 | c::r,h=>by
  unfold Lib.indexByte at h;split at h
  ·exact absurd h (by decide)
  ·rename_i hc;have hr:Lib.indexByte r 47<0:=by
    rcases ahk r 47 with h' | ⟨i,h',_⟩
    ·exact h'
    ·rw[h']at h;split at h
     ·rename_i he;have:(i:Int) = -1:=beq_iff_eq.1 he;omega
     ·omega
   unfold tX;rw[afi r hr,show(c==47)=false by simpa using hc];rfl
theorem afj:∀(s:anY) (i:Nat),Lib.indexByte s 47=(i:Int)->tX s=s.take i::tX (s.drop (i+1))
 | [],i,h=>by exact absurd h (by show ¬ ((-1:Int)=(i:Int));omega)
 | c::r,i,h=>by
  unfold Lib.indexByte at h;split at h
  ·rename_i hc;have hi:i=0:=by omega
   subst hi;have hc:(c==47)=true:=by simpa using hc
   rw[Vp,hc];rfl
  ·rename_i hc;rcases ahk r 47 with h' | ⟨j,h',_⟩
   ·split at h
    ·omega
    ·have:=Lib.indexByte_ge r 47;rename_i he;have he:¬ Lib.indexByte r 47 = -1:=by simpa using he
     omega
   ·rw[h']at h;split at h
    ·rename_i he;have:(j:Int) = -1:=beq_iff_eq.1 he;omega
    ·have hj:i=j+1:=by omega
     subst hj;rw[Vp,afj r j h',show(c==47)=false by simpa using hc];rfl
section
noncomputable abbrev i35(i:Nat):Array Oper:=opsOf Tryz.f275 i
noncomputable def itL:Code:=.block 3 (.seq (.region 5 (i35 5) false) (.seq (.seq (.region 6 (i35 6) false) (.cond (.tmp 33) (.exit 2) .skip)) (.seq (.region 7 (i35 7) false) (.seq (.seq (.region 8 (i35 8) false) (.cond (.tmp 42) .ret .skip)) (.region 9 (i35 9) false)))))
def YL(l:Nat):AV E:=.d (.raw (.func (.yield l) #[] #[]))
def qN(l:Nat):List (Nat×AV E):=[(0,YL l),(1,.ptr 2 0),(2,.ptr 1 0),(3,.ptr 3 0)]
theorem aEy(l:Nat)(rest:anY):nI Tp (i35 5) 52 (qN l) (i35 5).toList [] (lU rest) 5 (pk [7,0,1,2,3] [0,1,2,3] 20)=bif vJ rest [47]then some ⟨52,(7,.d (.int .i64 (qA rest [47])))::qN l,lU rest,20⟩else none:=by kernel_rfl
theorem aEz(l:Nat)(i:Int)(rest:anY):nI Tp (i35 6) 52 ((7,.d (.int .i64 i))::qN l) (i35 6).toList [] (lU rest) 20 (pk [33,7,0,1,2,3] [0,1,2,3] 30)=some ⟨52,(33,.d (.bool (decide (i<0))))::(7,.d (.int .i64 i))::qN l,lU rest,30⟩:=by kernel_rfl
theorem aEA(l:Nat)(i:Int)(b:Bool)(rest:anY):nI Tp (i35 7) 52 ((33,.d (.bool b))::(7,.d (.int .i64 i))::qN l) (i35 7).toList [] (lU rest) 30 (pk [8,7,0,1,2,3] [0,1,2,3] 40) =
  bif decide ((0:Int)<=0)&&decide ((0:Int)<=au (i+0))&&decide (au (i+0)<=(rest.length:Int))then some ⟨52,(8,.d (.str (List.take (Int.toNat (au (i+0))-Int.toNat 0) (List.drop (Int.toNat 0) rest))))::(7,.d (.int .i64 i))::qN l,lU rest,40⟩else none:=by kernel_rfl
theorem aEB(l:Nat)(i:Int)(x rest:anY):nI Tp (i35 8) 52 ((8,.d (.str x))::(7,.d (.int .i64 i))::qN l) ((i35 8).toList.take 2) [] (lU rest) 40 (pk [39,40,7,0,1,2,3] [0,1,2,3] 50)=some ⟨52,(39,YL l)::(40,.d (.str x))::(7,.d (.int .i64 i))::qN l,lU rest,50⟩:=by kernel_rfl
theorem aEC(l:Nat)(i:Int)(x:anY)(b:Bool)(rest:anY):nI Tp (i35 8) 52 ((41,.d (.bool b))::(39,YL l)::(40,.d (.str x))::(7,.d (.int .i64 i))::qN l) ((i35 8).toList.drop 3) [] (lU rest) 200 (pk [42,7,0,1,2,3] [0,1,2,3] 210)=some ⟨52,(42,.d (.bool (!b)))::(7,.d (.int .i64 i))::qN l,lU rest,210⟩:=by kernel_rfl
theorem aED(l:Nat)(i:Int)(rest:anY):nI Tp (i35 9) 52 ((42,.d (.bool false))::(7,.d (.int .i64 i))::qN l) (i35 9).toList [] (lU rest) 210 (pk [0,1,2,3] [0,1,2,3] 230) =
  bif decide ((0:Int)<=au (i+1))&&decide (au (i+1)<=(rest.length:Int))&&decide ((rest.length:Int)<=(rest.length:Int))then some ⟨52,qN l,lU (List.take (Int.toNat (rest.length:Int)-Int.toNat (au (i+1))) (List.drop (Int.toNat (au (i+1))) rest)),230⟩else none:=by kernel_rfl
theorem aqj{w0:bB.Start}{aP:Nat->Nat->Prop}{S:aI E}{a:Act}{w:World}{ι:Nat->Option Gh}{ro:Nat->Nat->Prop}(hg:bO E w0 aP S a w ι ro){t:Nat}{c:bQ E.Den}(h:bG S.tmps [] (.tmp t) = .d c):dU E w ro (a.eval (.tmp t)) c:=by
 have hc:=yF (E:=E) (asm:=[]) hg.tmps (fun j b hb=>by simp[uY]at hb) (.tmp t);rw[h]at hc;generalize a.eval (.tmp t)=v at hc;cases hc with
 | d _ _ h=>exact h
noncomputable def PN(fn:FuncId)(tms:Array Value)(D:Nat)(b:Bool):Obj:=.loop (rc fn tms D (bif b then .done else .ready) (bif b then some .ret else none))
theorem avU{W:World}{aP:Nat->Nat->Prop}{l D fn n:Nat}{tms:Array Value}{g6:Nat}{zi:Gh}{rest x:anY}{a:Act}{w:World}{ι:Nat->Option Gh}{ro:Nat->Nat->Prop}{i:Int}{Q:Exit->Act->World->Prop}
  (hW:W.heap.size<=l) (hts:tms.size=28) (h6:tms[2]? = some (.pointer (some ⟨g6,0,none⟩))) (hv0:zi.v = .pointer (some ⟨g6,0,none⟩)) (hi0:ι 0=some zi)
  (hg:bO E (Cw W l D (PN fn tms D false)) aP ⟨52,(8,.d (.str x))::(7,.d (.int .i64 i))::qN l,lU rest,40⟩ a w ι ro)
  (hK:∀a' w' ι' ro',bO E (Cw W l D (PN fn tms D (j6 x))) aP ⟨52,(42,.d (.bool (!(!j6 x))))::(7,.d (.int .i64 i))::qN l,lU rest,210⟩ a' w' ι' ro'->ι' 0=some zi->Q .normal a' w'):(Code.region 8 (i35 8) false).wpIn (Wd none) n Tryz.prog Q a w:=by
 refine wpIn_region_list ?_;refine Xu (l:=(i35 8).toList.take 2) (l2:=(i35 8).toList.drop 2) A9 rfl (fun p hp=>by simp[qN,YL]at hp;rcases hp with rfl | rfl | rfl | rfl | rfl | rfl<;>rfl) hg (afO _ _).symm (by kernel_rfl) (aEB l i x rest) fun a1 w1 ι1 Yf avj hg1 hk1=>?_
 have hx:a1.eval (.tmp 40) = .string ⟨x.toArray⟩:=by have:=aqj (c:=.str x) hg1 (t:=40) rfl;generalize a1.eval (.tmp 40)=v at this;cases this;rfl
 have hy:a1.eval (.tmp 39) = .func (.yield l) #[] #[]:=by have:=aqj (c:=.raw (.func (.yield l) #[] #[])) hg1 (t:=39) rfl;generalize a1.eval (.tmp 39)=v at this;cases this;rfl
 obtain⟨q1,q2⟩:=ajq (n:=n-1) (x:=x) hW hts h6 hv0 (hk1.ext _ _ hi0) (by show 50<=100;omega) hg1;have e2:(i35 8).toList.drop 2=(i35 8)[2]! :: (i35 8).toList.drop 3:=by kernel_rfl
 rw[e2];refine wpListIn_plain (by kernel_rfl) fun K hK'=>?_
 refine ajo (show((i35 8)[2]!).op = .call { callee:=.value (.tmp 39),args:=#[.tmp 40],argTypes:=#[9] } by kernel_rfl) hy (by rw[show(#[Operand.tmp 40].map a1.eval) = #[a1.eval (.tmp 40)] by simp,hx];exact q1) (q2.mono fun e w2 he=>?_);obtain⟨v,rfl,rfl,ι2,Yg,hg2,hk2⟩:=he;refine⟨_,rfl,hK' _ _ ?_⟩;have ed:((i35 8)[2]!).dst=some 41:=by kernel_rfl
 rw[ed];obtain⟨hg3,aEE⟩:=hg2.put avj (d:=41) (val:=.bool (!j6 x)) (x:=.d (.bool (!j6 x))) (by decide) (.d _ _ (.bool (!j6 x))) rfl;exact Xu (l2:=[]) A9 rfl aEE hg3 (acg _).symm (by kernel_rfl) (aEC l i x (!j6 x) rest) fun a4 w4 ι4 ro4 aAy hg4 hk4=>hK a4 w4 ι4 ro4 hg4 (hk4.ext _ _ (hk2.ext _ _ (hk1.ext _ _ hi0)))
theorem Vq(l:Nat):aS (qN (l:Nat)):=fun p hp=>by simp[qN,YL]at hp;rcases hp with rfl | rfl | rfl | rfl<;>rfl
theorem anD{tm:List (Nat×AV E)}{t:Nat}{c:bQ E.Den}(h:aS tm):aS ((t,.d c)::tm):=fun p hp=>by
 cases hp with
 | head=>rfl
 | tail _ hp=>exact h p hp
theorem afk(l:Nat)(objs:List (Nat×aU E))(t:Nat)(y:AV E)(h:bB.look (qN l) t=some y):Db objs y=y:=by have:=j5 _ _ _ h;simp[qN,YL]at this;rcases this with⟨_,rfl⟩ | ⟨_,rfl⟩ | ⟨_,rfl⟩ | ⟨_,rfl⟩<;>rfl
theorem ayO{W:World}{aP:Nat->Nat->Prop}{l D fn:Nat}{tms:Array Value}{g6:Nat}{zi:Gh}{Q:Exit->Act->World->Prop}(hW:W.heap.size<=l)(hts:tms.size=28)(h6:tms[2]? = some (.pointer (some ⟨g6,0,none⟩)))(hv0:zi.v = .pointer (some ⟨g6,0,none⟩))(any:Bool)
  (hQ:∀a w ι ro rest,ι 0=some zi->j6 rest=any->bO E (Cw W l D (PN fn tms D false)) aP ⟨52,qN l,lU rest,40⟩ a w ι ro->Q (.exit 2) a w)
  (hR:∀a w ι ro rest,ι 0=some zi->any=true->bO E (Cw W l D (PN fn tms D true)) aP ⟨52,[],lU rest,210⟩ a w ι ro->Q .ret a w)
  (rest:anY) (a:Act) (w:World) (ι:Nat->Option Gh) (ro:Nat->Nat->Prop) (hlen:rest.length<=1000000) (hall:(tX rest).any j6=any) (hi0:ι 0=some zi)
  (hg:bO E (Cw W l D (PN fn tms D false)) aP ⟨52,qN l,lU rest,5⟩ a w ι ro):u7 Tryz.prog itL Q a w:=by
 induction hm:rest.length using Nat.strongRecOn generalizing rest a w ι ro with
 | _ m ih =>
 refine u7.round (wp_block ((wpIn_wide (n:=0)).1 ?_));show Code.wpIn (Wd none) 0 Tryz.prog _ _ a w;refine wpIn_seq ?_;have h5:=aEy l rest;rw[show vJ rest [47]=true by simp[vJ];omega,cond_true]at h5;refine zx A9 rfl (Vq l) hg (by kernel_rfl) _ _ _ _ h5 fun a1 w1 ι1 Yf nc1 g1 k1=>?_
 refine wpIn_seq (wpIn_seq ?_);refine zx A9 rfl nc1 g1 (by kernel_rfl) _ _ _ _ (aEz l (qA rest [47]) rest) fun a2 w2 ι2 Yg nc2 g2 k2=>?_
 have hi2:=k2.ext _ _ (k1.ext _ _ hi0);have hb:=Lh g2 (t:=33) (b:=decide (qA rest [47]<0)) rfl;rcases ahk rest 47 with h | ⟨i,h1,h2⟩
 ·have h:qA rest [47]<0:=h;rw[dT h]at hb;refine wpIn_cond_true hb (wpIn_exit ?_);obtain⟨_,g3,_⟩:=g2.pick nc2 (ts:=[0,1,2,3]) (ids:=[0,1,2,3]) (nx:=40) (X:=⟨52,qN l,lU rest,40⟩) (by kernel_rfl);have:=hQ a2 w2 ι2 Yg rest hi2 (by rw[<- hall,afi rest h];simp) g3;simpa[Exit.then,Exit.inBlock]using this
 ·have hi:qA rest [47]=(i:Int):=h1;rw[hi,dF (show ¬ (i:Int)<0 by omega)]at hb;refine wpIn_cond_false hb (wpIn_skip ?_);rw[hi]at g2 nc2;have ei:au ((i:Int)+0)=(i:Int):=by rw[aT (by omega) (by omega)];omega
  have ei1:au ((i:Int)+1)=((i+1:Nat):Int):=by rw[aT (by omega) (by omega)];omega
  have h7:=aEA l (i:Int) (decide ((i:Int)<0)) rest;rw[ei,dT (show(0:Int)<=0 by omega),dT (show(0:Int)<=(i:Int) by omega),dT (show(i:Int)<=(rest.length:Int) by omega)]at h7;simp only[acf,cond_true,Int.toNat_zero,am6,acC,aaY]at h7;refine wpIn_seq ?_;refine zx A9 rfl nc2 g2 (by kernel_rfl) _ _ _ _ h7 fun a3 w3 ι3 ro3 nc3 g3 k3=>?_
  refine wpIn_seq (wpIn_seq ?_);refine avU hW hts h6 hv0 (k3.ext _ _ hi2) g3 fun a4 w4 ι4 ro4 g4 hi4=>?_
  have hb4:=Lh g4 (t:=42) (b:=!(!j6 (rest.take i))) rfl;rw[afj rest i h1]at hall;cases hbad:j6 (rest.take i)with
  | true =>rw[hbad]at hb4 g4;refine wpIn_cond_true hb4 (wpIn_ret ?_);have:=hR a4 w4 ι4 ro4 rest hi4 (by rw[<- hall];simp[hbad]) (g4.frame g4.base.defers g4.size (fun t y h=>by cases h) (ab8 _));simpa[Exit.then,Exit.inBlock]using this
  | false =>
  rw[hbad]at hb4 g4;refine wpIn_cond_false hb4 (wpIn_skip ?_);have h9:=aED l (i:Int) rest;rw[ei1,dT (show(0:Int)<=((i+1:Nat):Int) by omega),dT (show((i+1:Nat):Int)<=(rest.length:Int) by omega),dT (show(rest.length:Int)<=(rest.length:Int) by omega)]at h9;simp only[acf,cond_true,aaY]at h9;rw[show List.take (rest.length-(i+1)) (List.drop (i+1) rest)=List.drop (i+1) rest from aeV (by rw[ach];omega)]at h9;refine zx A9 rfl (anD (anD (Vq l))) g4 (by kernel_rfl) _ _ _ _ h9 fun a5 w5 ι5 ro5 nc5 g5 k5=>?_
  obtain⟨nc6,g6'⟩:=NG (w0:=Cw W l D (PN fn tms D false)) (S:=⟨52,qN l,lU (rest.drop (i+1)),230⟩) [0,1,2,3] (by decide) (qN l) (fun t y h=>⟨y,h,(afk l _ t y h).symm⟩) (fun q h=>by cases h) nc5 g5;have g7:bO E (Cw W l D (PN fn tms D false)) aP ⟨52,qN l,lU (rest.drop (i+1)),5⟩ a5 w5 (fun j=>(([0,1,2,3]:List Nat)[j]?).bind ι5) ro5:=g6'.frame g6'.base.defers g6'.size g6'.tmps (by show 4<=5;omega);refine ih _ ?_ (rest.drop (i+1)) a5 w5 _ ro5 ?_ ?_ ?_ g7 rfl
  ·rw[<- hm,ach];omega
  ·rw[ach];omega
  ·rw[<- hall,aj1,hbad,akg]
  ·exact k5.ext _ _ hi4
end
section
noncomputable def itX:Code:=match(Tryz.f275).body with
 | some (.seq (.seq _ (.cond _ x _)) _)=>x
 | _=>.skip
theorem ayP:(Tryz.f275).body=some (.seq (.seq (.region 0 (i35 0) false) (.cond (.tmp 11) itX .skip)) (.seq (.block 2 (.loop itL)) (.region 10 (i35 10) false))):=by kernel_rfl
theorem aEF(l:Nat)(rest:anY):nI Tp (i35 0) 52 (qN l) (i35 0).toList [] (lU rest) 5 (pk [11,0,1,2,3] [0,1,2,3] 20)=some ⟨52,(11,.d (.bool false))::qN l,lU rest,20⟩:=by kernel_rfl
theorem aCk(l:Nat)(rest:anY):nI Tp (i35 10) 52 (qN l) ((i35 10).toList.take 2) [] (lU rest) 40 (pk [49,50] [0,1,2,3] 50)=some ⟨52,[(49,YL l),(50,.d (.str rest))],lU rest,50⟩:=by kernel_rfl
def aAA(ι:Nat->Option Gh)(us:Array Value):Prop:=∃(gh1 gh2 gh3:Gh) (b1 b2 b3:Nat),us = #[.pointer (some ⟨b2,0,none⟩),.pointer (some ⟨b1,0,none⟩),.pointer (some ⟨b3,0,none⟩)] /\
 (ι 1=some gh1/\gh1.v = .pointer (some ⟨b1,0,none⟩))/\(ι 2=some gh2/\gh2.v = .pointer (some ⟨b2,0,none⟩))/\(ι 3=some gh3/\gh3.v = .pointer (some ⟨b3,0,none⟩))
theorem ayQ{W:World}{aP:Nat->Nat->Prop}{l D fn:Nat}{tms us:Array Value}{g6:Nat}{zi:Gh}(hW:W.heap.size<=l)(hts:tms.size=28)(h6:tms[2]? = some (.pointer (some ⟨g6,0,none⟩)))(hv0:zi.v = .pointer (some ⟨g6,0,none⟩))
  {m:Nat} {tm:List (Nat×AV E)} {s:anY} {a:Act} {w:World} {ι:Nat->Option Gh} {ro:Nat->Nat->Prop} (hs:s.length<=1000000) (hi0:ι 0=some zi) (hcap:aAA ι us)
  (hg:bO E (Cw W l D (PN fn tms D false)) aP ⟨m,tm,lU s,5⟩ a w ι ro) :
  Calls Tryz.prog 275 (#[.func (.yield l) #[] #[]]++us) w fun e w'=>(∃v,e = .returned v)/\∃ι' ro' rest,ι' 0=some zi/\bO E (Cw W l D (PN fn tms D ((tX s).any j6))) aP ⟨0,[],lU rest,210⟩ { tmps:=#[],defers:=[] } w' ι' ro':=by
 obtain⟨gh1,gh2,gh3,b1,b2,b3,rfl,⟨p1,q1⟩,⟨p2,q2⟩,⟨p3,q3⟩⟩:=hcap;refine calls_of_wp (show Tryz.prog.funcs[275]? = some Tryz.f275 by kernel_rfl) ayP ?_;have hnt:(Tryz.f275).ntmps=52:=by kernel_rfl
 rw[hnt,show(#[.func (.yield l) #[] #[]] ++ #[.pointer (some ⟨b2,0,none⟩),.pointer (some ⟨b1,0,none⟩),.pointer (some ⟨b3,0,none⟩)]:Array Value) = #[.func (.yield l) #[] #[],.pointer (some ⟨b2,0,none⟩),.pointer (some ⟨b1,0,none⟩),.pointer (some ⟨b3,0,none⟩)] by simp];generalize hA:(#[.func (.yield l) #[] #[],.pointer (some ⟨b2,0,none⟩),.pointer (some ⟨b1,0,none⟩),.pointer (some ⟨b3,0,none⟩)]:Array Value)=A;have hz:A.size=4:=by rw[<- hA];simp
 have hat:∀t,t<4->(A++Array.replicate (52-A.size) undef)[t]? = A[t]? := fun t ht=>by rw[Array.getElem?_append_left (by omega)]
 have hg1:bO E (Cw W l D (PN fn tms D false)) aP ⟨52,qN l,lU s,5⟩ { tmps:=A++Array.replicate (52-A.size) undef,defers:=[] } w ι ro:=by
  refine hg.frame rfl (by simp[hz]) (fun t y hl=>?_) (ab8 _);simp only[qN,bB.look]at hl;cases hb0:Nat.beq 0 t with
  | true =>rw[hb0]at hl;have:=abe hb0;subst this;cases hl;exact⟨_,(hat 0 (by decide)).trans (by rw[<- hA];rfl),aO.d _ _ (.raw _ rfl)⟩
  | false =>
  rw[hb0]at hl;cases hb1:Nat.beq 1 t with
  | true =>rw[hb1]at hl;have:=abe hb1;subst this;cases hl;exact⟨_,(hat 1 (by decide)).trans (by rw[<- hA];rfl),aO.ptr gh2 b2 2 0 p2 q2⟩
  | false =>
  rw[hb1]at hl;cases hb2:Nat.beq 2 t with
  | true =>rw[hb2]at hl;have:=abe hb2;subst this;cases hl;exact⟨_,(hat 2 (by decide)).trans (by rw[<- hA];rfl),aO.ptr gh1 b1 1 0 p1 q1⟩
  | false =>
  rw[hb2]at hl;cases hb3:Nat.beq 3 t with
  | true =>rw[hb3]at hl;have:=abe hb3;subst this;cases hl;exact⟨_,(hat 3 (by decide)).trans (by rw[<- hA];rfl),aO.ptr gh3 b3 3 0 p3 q3⟩
  | false=>rw[hb3]at hl;cases hl
 refine wp_seq (wp_seq ((wpIn_wide (n:=0)).1 ?_));show Code.wpIn (Wd none) 0 Tryz.prog _ _ _ w;refine zx A9 rfl (Vq l) hg1 (by kernel_rfl) _ _ _ _ (aEF l s) fun a1 w1 ι1 Yf nc1 g1 k1=>?_
 refine wp_cond_false (Lh g1 (t:=11) (b:=false) rfl) (wp_skip ?_);obtain⟨_,g2,_⟩:=g1.pick nc1 (ts:=[0,1,2,3]) (ids:=[0,1,2,3]) (nx:=20) (X:=⟨52,qN l,lU s,20⟩) (by kernel_rfl);obtain⟨nc3,g3'⟩:=NG (w0:=Cw W l D (PN fn tms D false)) (S:=⟨52,qN l,lU s,20⟩) [0,1,2,3] (by decide) (qN l) (fun t y h=>⟨y,h,(afk l _ t y h).symm⟩) (fun q h=>by cases h) (Vq l) g2;have g3:bO E (Cw W l D (PN fn tms D false)) aP ⟨52,qN l,lU s,5⟩ a1 w1 (fun j=>(([0,1,2,3]:List Nat)[j]?).bind ι1) Yf:=g3'.frame g3'.base.defers g3'.size g3'.tmps (by show 4<=5;omega);have hi3:(fun j=>(([0,1,2,3]:List Nat)[j]?).bind ι1) 0=some zi:=k1.ext _ _ hi0;refine wp_seq (wp_block (u7.wp (ayO hW hts h6 hv0 ((tX s).any j6) ?_ ?_ s a1 w1 (fun j=>(([0,1,2,3]:List Nat)[j]?).bind ι1) Yf hs rfl hi3 g3)))
 ·intro a4 w4 ι4 ro4 rest hi4 hall g4;show Code.wp Tryz.prog _ _ a4 w4;refine(wpIn_wide (n:=0)).1 ?_;show Code.wpIn (Wd none) 0 Tryz.prog _ _ a4 w4;refine wpIn_region_list ?_;refine Xu (l:=(i35 10).toList.take 2) (l2:=(i35 10).toList.drop 2) A9 rfl (Vq l) g4 (afO _ _).symm (by kernel_rfl) (aCk l rest) fun a5 w5 ι5 ro5 aEx g5 k5=>?_
  have hx:a5.eval (.tmp 50) = .string ⟨rest.toArray⟩:=by have:=aqj (c:=.str rest) g5 (t:=50) rfl;generalize a5.eval (.tmp 50)=v at this;cases this;rfl
  have hy:a5.eval (.tmp 49) = .func (.yield l) #[] #[]:=by have:=aqj (c:=.raw (.func (.yield l) #[] #[])) g5 (t:=49) rfl;generalize a5.eval (.tmp 49)=v at this;cases this;rfl
  obtain⟨u1,u2⟩:=ajq (n:=0) (x:=rest) hW hts h6 hv0 (k5.ext _ _ hi4) (by show 50<=100;omega) g5;have e2:(i35 10).toList.drop 2=(i35 10)[2]! :: []:=by kernel_rfl
  rw[e2];refine wpListIn_plain (by kernel_rfl) fun K hK'=>?_
  refine ajo (show((i35 10)[2]!).op = .call { callee:=.value (.tmp 49),args:=#[.tmp 50],argTypes:=#[9] } by kernel_rfl) hy (by rw[show(#[Operand.tmp 50].map a5.eval) = #[a5.eval (.tmp 50)] by simp,hx];exact u1) (u2.mono fun e w6 he=>?_);obtain⟨v,rfl,rfl,ι6,ro6,g6',k6⟩:=he;refine⟨_,rfl,hK' _ _ ?_⟩;have hd6:(a5.put ((i35 10)[2]!).dst (.bool (!j6 rest))).defers=[]:=by have:=g6'.base.defers;cases((i35 10)[2]!).dst<;>exact this
  refine wpListIn_nil ⟨hd6,.tuple #[],(by kernel_rfl),⟨_,rfl⟩,ι6,ro6,rest,k6.ext _ _ (k5.ext _ _ hi4),?_⟩;rw[<- hall];exact g6'.frame rfl rfl (fun t y h=>by cases h) (by show 200<=210;omega)
 ·intro a4 w4 ι4 ro4 rest hi4 hall g4;refine⟨g4.base.defers,.tuple #[],(by kernel_rfl),⟨_,rfl⟩,ι4,ro4,rest,hi4,?_⟩;rw[hall];exact g4.frame rfl rfl (fun t y h=>by cases h) (ab8 _)
end
end Go.Proofs.YtibpdjmikfmmaaaGreatDoor.Rf
