/- Part 4 of a proof: the texts B0 B1 B2 M1 MirY I1 I2 I3, one behind the other. -/
import Derived.Test.YtclnniijooeajaaGreatDoorSw1
import Derived.Test.YtclnniijooeajaaGreatDoorSw3
import Derived.Test.YtclnniijooeajaaGreatDoorRows
import Derived.Sort.OwnSorted
import Derived.Lib.AppendZeros
import Derived.Lib.Join
import Derived.Lib.ReplaceLaws
import Derived.Deep.LoopGhost
import Derived.RangeFuncRecord
import Derived.RangeFuncCalls
import Derived.OrdersIn
noncomputable section
namespace Go.Proofs.YtclnniijooeajaaGreatDoor.Rf
open Go Go.RowKit Go.Sort Go.Proofs.YtclnniijooeajaaGreatDoor.bg
structure Node where
 kind:Int
 text:aqO
 keys:List (aqO)
 kids:List Node
structure BP where
 n:Node
 path:aqO
 e:Int
structure form where
 n:Node
 bad:Bool
structure budget where
 left:Int
structure Port where
 host:aqO
 out:Int
 iP:Int
 proto:aqO
structure fO where
 source:aqO
 target:aqO
 readOnly:Bool
structure field where
 n:Node
 left:Int
 bad:Bool
structure xA where
 long:Int
 name:aqO
structure Tz where
 e0:xA
 e1:xA
 e2:xA
 e3:xA
structure aai where
 e0:aqO
 e1:aqO
 e2:aqO
 e3:aqO
structure aaj where
 e0:Int
 e1:Int
 e2:Int
 e3:Int
inductive Ty where
 | int | str | cu | jT | ah | bool | aW | gL | I9 | jh | Ja | jO | iQ | byte | Jb | jl | gZ | je | xZ | vB | mR | uf | u64 | ug | x9
 deriving DecidableEq
abbrev Den:Ty->Type
 | .int=>Int
 | .str=>aqO
 | .cu=>List (aqO)
 | .jT=>List Node
 | .ah=>Node
 | .bool=>Bool
 | .aW=>Int
 | .gL=>BP
 | .I9=>Nat
 | .jh=>Nat
 | .Ja=>Nat
 | .jO=>form
 | .iQ=>budget
 | .byte=>Int
 | .Jb=>Nat
 | .jl=>Port
 | .gZ=>fO
 | .je=>field
 | .xZ=>List Int
 | .vB=>xA
 | .mR=>Tz
 | .uf=>aai
 | .u64=>Int
 | .ug=>aaj
 | .x9=>Int
def tid:Ty->TypeId
 | .int=>3
 | .str=>9
 | .cu=>22
 | .jT=>23
 | .ah=>25
 | .bool=>4
 | .aW=>28
 | .gL=>32
 | .I9=>46
 | .jh=>43
 | .Ja=>61
 | .jO=>63
 | .iQ=>70
 | .byte=>5
 | .Jb=>41
 | .jl=>82
 | .gZ=>89
 | .je=>103
 | .xZ=>126
 | .vB=>134
 | .mR=>135
 | .uf=>141
 | .u64=>137
 | .ug=>167
 | .x9=>121
def code:TypeId->Option Ty
 | 3=>some .int
 | 9=>some .str
 | 22=>some .cu
 | 23=>some .jT
 | 25=>some .ah
 | 4=>some .bool
 | 28=>some .aW
 | 32=>some .gL
 | 46=>some .I9
 | 43=>some .jh
 | 61=>some .Ja
 | 63=>some .jO
 | 70=>some .iQ
 | 5=>some .byte
 | 41=>some .Jb
 | 82=>some .jl
 | 89=>some .gZ
 | 103=>some .je
 | 126=>some .xZ
 | 134=>some .vB
 | 135=>some .mR
 | 141=>some .uf
 | 137=>some .u64
 | 167=>some .ug
 | 121=>some .x9
 | _=>none
def agg:Ty->Bool
 | .int=>false
 | .str=>false
 | .cu=>false
 | .jT=>false
 | .ah=>true
 | .bool=>false
 | .aW=>false
 | .gL=>true
 | .I9=>false
 | .jh=>false
 | .Ja=>false
 | .jO=>true
 | .iQ=>true
 | .byte=>false
 | .Jb=>false
 | .jl=>true
 | .gZ=>true
 | .je=>true
 | .xZ=>false
 | .vB=>true
 | .mR=>true
 | .uf=>true
 | .u64=>false
 | .ug=>true
 | .x9=>false
def size:Ty->Nat
 | .int=>1
 | .str=>1
 | .cu=>1
 | .jT=>1
 | .ah=>4
 | .bool=>1
 | .aW=>1
 | .gL=>6
 | .I9=>1
 | .jh=>1
 | .Ja=>1
 | .jO=>5
 | .iQ=>1
 | .byte=>1
 | .Jb=>1
 | .jl=>4
 | .gZ=>3
 | .je=>6
 | .xZ=>1
 | .vB=>2
 | .mR=>8
 | .uf=>4
 | .u64=>1
 | .ug=>4
 | .x9=>1
def bytes:Ty->Nat
 | .int=>8
 | .str=>16
 | .cu=>24
 | .jT=>24
 | .ah=>72
 | .bool=>1
 | .aW=>8
 | .gL=>96
 | .I9=>8
 | .jh=>8
 | .Ja=>8
 | .jO=>80
 | .iQ=>8
 | .byte=>1
 | .Jb=>8
 | .jl=>48
 | .gZ=>40
 | .je=>88
 | .xZ=>24
 | .vB=>24
 | .mR=>96
 | .uf=>64
 | .u64=>8
 | .ug=>32
 | .x9=>8
def cells:(t:Ty)->Den t->List (bC Den)
 | .int,x=>[.int .i64 x]
 | .str,x=>[.str x]
 | .cu,x=>[.slice .str x]
 | .jT,x=>[.slice .ah x]
 | .ah,x=>[.int .i64 x.kind,.str x.text,.slice .str x.keys,.slice .ah x.kids]
 | .bool,x=>[.bool x]
 | .aW,x=>[.int .i64 x]
 | .gL,x=>[.int .i64 x.n.kind,.str x.n.text,.slice .str x.n.keys,.slice .ah x.n.kids,.str x.path,.int .i64 x.e]
 | .I9,x=>[.raw (.func (.func x) #[] #[])]
 | .jh,x=>[.raw (.func (.func x) #[] #[])]
 | .Ja,x=>[.raw (.func (.func x) #[] #[])]
 | .jO,x=>[.int .i64 x.n.kind,.str x.n.text,.slice .str x.n.keys,.slice .ah x.n.kids,.bool x.bad]
 | .iQ,x=>[.int .i64 x.left]
 | .byte,x=>[.int .u8 x]
 | .Jb,x=>[.raw (.func (.func x) #[] #[])]
 | .jl,x=>[.str x.host,.int .i64 x.out,.int .i64 x.iP,.str x.proto]
 | .gZ,x=>[.str x.source,.str x.target,.bool x.readOnly]
 | .je,x=>[.int .i64 x.n.kind,.str x.n.text,.slice .str x.n.keys,.slice .ah x.n.kids,.int .i64 x.left,.bool x.bad]
 | .xZ,x=>[.slice .byte x]
 | .vB,x=>[.int .i64 x.long,.str x.name]
 | .mR,x=>[.int .i64 x.e0.long,.str x.e0.name,.int .i64 x.e1.long,.str x.e1.name,.int .i64 x.e2.long,.str x.e2.name,.int .i64 x.e3.long,.str x.e3.name]
 | .uf,x=>[.str x.e0,.str x.e1,.str x.e2,.str x.e3]
 | .u64,x=>[.int .u64 x]
 | .ug,x=>[.int .i64 x.e0,.int .i64 x.e1,.int .i64 x.e2,.int .i64 x.e3]
 | .x9,x=>[.int .u64 x]
def dec:DecidableEq Ty:=inferInstance
def arz:List (bC Den)->Option (Den .int)
 | [c]=>qE .i64 c
 | _=>none
def arA:List (bC Den)->Option (Den .str)
 | [c]=>uH c
 | _=>none
def ahv:List (bC Den)->Option (Den .cu)
 | [c]=>Oc dec .str c
 | _=>none
def Rq:List (bC Den)->Option (Den .jT)
 | [c]=>Oc dec .ah c
 | _=>none
def MX:List (bC Den)->Option (Den .ah)
 | [c0,c1,c2,c3]=>(qE .i64 c0).bind fun y0=>(uH c1).bind fun y1=>(Oc dec .str c2).bind fun y2=>(Oc dec .ah c3).bind fun y3=>some (⟨y0,y1,y2,y3⟩:Node)
 | _=>none
def amj:List (bC Den)->Option (Den .bool)
 | [c]=>dBl c
 | _=>none
def TA:List (bC Den)->Option (Den .aW)
 | [c]=>qE .i64 c
 | _=>none
def ER:List (bC Den)->Option (Den .gL)
 | [c0,c1,c2,c3,c4,c5]=>(qE .i64 c0).bind fun y0=>(uH c1).bind fun y1=>(Oc dec .str c2).bind fun y2=>(Oc dec .ah c3).bind fun y3=>(uH c4).bind fun y4=>(qE .i64 c5).bind fun y5=>some (⟨(⟨y0,y1,y2,y3⟩:Node),y4,y5⟩:BP)
 | _=>none
def amk:List (bC Den)->Option (Den .I9)
 | [c]=>dFn c
 | _=>none
def KF:List (bC Den)->Option (Den .jh)
 | [c]=>dFn c
 | _=>none
def aml:List (bC Den)->Option (Den .Ja)
 | [c]=>dFn c
 | _=>none
def KG:List (bC Den)->Option (Den .jO)
 | [c0,c1,c2,c3,c4]=>(qE .i64 c0).bind fun y0=>(uH c1).bind fun y1=>(Oc dec .str c2).bind fun y2=>(Oc dec .ah c3).bind fun y3=>(dBl c4).bind fun y4=>some (⟨(⟨y0,y1,y2,y3⟩:Node),y4⟩:form)
 | _=>none
def Gi:List (bC Den)->Option (Den .iQ)
 | [c0]=>(qE .i64 c0).bind fun y0=>some (⟨y0⟩:budget)
 | _=>none
def amm:List (bC Den)->Option (Den .byte)
 | [c]=>qE .u8 c
 | _=>none
def amn:List (bC Den)->Option (Den .Jb)
 | [c]=>dFn c
 | _=>none
def MZ:List (bC Den)->Option (Den .jl)
 | [c0,c1,c2,c3]=>(uH c0).bind fun y0=>(qE .i64 c1).bind fun y1=>(qE .i64 c2).bind fun y2=>(uH c3).bind fun y3=>some (⟨y0,y1,y2,y3⟩:Port)
 | _=>none
def KH:List (bC Den)->Option (Den .gZ)
 | [c0,c1,c2]=>(uH c0).bind fun y0=>(uH c1).bind fun y1=>(dBl c2).bind fun y2=>some (⟨y0,y1,y2⟩:fO)
 | _=>none
def Jc:List (bC Den)->Option (Den .je)
 | [c0,c1,c2,c3,c4,c5]=>(qE .i64 c0).bind fun y0=>(uH c1).bind fun y1=>(Oc dec .str c2).bind fun y2=>(Oc dec .ah c3).bind fun y3=>(qE .i64 c4).bind fun y4=>(dBl c5).bind fun y5=>some (⟨(⟨y0,y1,y2,y3⟩:Node),y4,y5⟩:field)
 | _=>none
def adV:List (bC Den)->Option (Den .xZ)
 | [c]=>Oc dec .byte c
 | _=>none
def Yg:List (bC Den)->Option (Den .vB)
 | [c0,c1]=>(qE .i64 c0).bind fun y0=>(uH c1).bind fun y1=>some (⟨y0,y1⟩:xA)
 | _=>none
def M0:List (bC Den)->Option (Den .mR)
 | [c0,c1,c2,c3,c4,c5,c6,c7]=>(qE .i64 c0).bind fun y0=>(uH c1).bind fun y1=>(qE .i64 c2).bind fun y2=>(uH c3).bind fun y3=>(qE .i64 c4).bind fun y4=>(uH c5).bind fun y5=>(qE .i64 c6).bind fun y6=>(uH c7).bind fun y7=>some (⟨(⟨y0,y1⟩:xA),(⟨y2,y3⟩:xA),(⟨y4,y5⟩:xA),(⟨y6,y7⟩:xA)⟩:Tz)
 | _=>none
def TB:List (bC Den)->Option (Den .uf)
 | [c0,c1,c2,c3]=>(uH c0).bind fun y0=>(uH c1).bind fun y1=>(uH c2).bind fun y2=>(uH c3).bind fun y3=>some (⟨y0,y1,y2,y3⟩:aai)
 | _=>none
def arB:List (bC Den)->Option (Den .u64)
 | [c]=>qE .u64 c
 | _=>none
def TD:List (bC Den)->Option (Den .ug)
 | [c0,c1,c2,c3]=>(qE .i64 c0).bind fun y0=>(qE .i64 c1).bind fun y1=>(qE .i64 c2).bind fun y2=>(qE .i64 c3).bind fun y3=>some (⟨y0,y1,y2,y3⟩:aaj)
 | _=>none
def adW:List (bC Den)->Option (Den .x9)
 | [c]=>qE .u64 c
 | _=>none
def fold:(t:Ty)->List (bC Den)->Option (Den t)
 | .int=>arz
 | .str=>arA
 | .cu=>ahv
 | .jT=>Rq
 | .ah=>MX
 | .bool=>amj
 | .aW=>TA
 | .gL=>ER
 | .I9=>amk
 | .jh=>KF
 | .Ja=>aml
 | .jO=>KG
 | .iQ=>Gi
 | .byte=>amm
 | .Jb=>amn
 | .jl=>MZ
 | .gZ=>KH
 | .je=>Jc
 | .xZ=>adV
 | .vB=>Yg
 | .mR=>M0
 | .uf=>TB
 | .u64=>arB
 | .ug=>TD
 | .x9=>adW
def dflt:(t:Ty)->Den t
 | .int=>(0:Int)
 | .str=>[]
 | .cu=>[]
 | .jT=>[]
 | .ah=>⟨(0:Int),[],[],[]⟩
 | .bool=>false
 | .aW=>(0:Int)
 | .gL=>⟨⟨(0:Int),[],[],[]⟩,[],(0:Int)⟩
 | .I9=>(0:Nat)
 | .jh=>(0:Nat)
 | .Ja=>(0:Nat)
 | .jO=>⟨⟨(0:Int),[],[],[]⟩,false⟩
 | .iQ=>⟨(0:Int)⟩
 | .byte=>(0:Int)
 | .Jb=>(0:Nat)
 | .jl=>⟨[],(0:Int),(0:Int),[]⟩
 | .gZ=>⟨[],[],false⟩
 | .je=>⟨⟨(0:Int),[],[],[]⟩,(0:Int),false⟩
 | .xZ=>[]
 | .vB=>⟨(0:Int),[]⟩
 | .mR=>⟨⟨(0:Int),[]⟩,⟨(0:Int),[]⟩,⟨(0:Int),[]⟩,⟨(0:Int),[]⟩⟩
 | .uf=>⟨[],[],[],[]⟩
 | .u64=>(0:Int)
 | .ug=>⟨(0:Int),(0:Int),(0:Int),(0:Int)⟩
 | .x9=>(0:Int)
def Vo:(t:Ty)->Option (Den t->Int)
 | .byte=>some fun x=>x
 | _=>none
theorem Vp:∀t f,Vo t=some f->∀x,cells t x=[.int .u8 (f x)]:=by intro t f h x;cases t<;>first | (cases h;rfl) | cases h
def Vq:(t:Ty)->Option (Int->Den t)
 | .byte=>some fun x=>x
 | _=>none
theorem Pw:∀t g,Vq t=some g->∀n,cells t (g n)=[.int .u8 n]:=by intro t g h n;cases t<;>first | (cases h;rfl) | cases h
theorem arC:∀cs x,arz cs=some x->jW cs (cells .int x):=by
 intro cs x h
 match cs,h with
 | [c],h=>exact⟨jk h,trivial⟩
theorem arD:∀cs x,arA cs=some x->jW cs (cells .str x):=by
 intro cs x h
 match cs,h with
 | [c],h=>exact⟨kI h,trivial⟩
theorem aky:∀cs x,ahv cs=some x->jW cs (cells .cu x):=by
 intro cs x h
 match cs,h with
 | [c],h=>exact⟨zJ h,trivial⟩
theorem Yh:∀cs x,Rq cs=some x->jW cs (cells .jT x):=by
 intro cs x h
 match cs,h with
 | [c],h=>exact⟨zJ h,trivial⟩
theorem abZ:∀cs x,MX cs=some x->jW cs (cells .ah x):=by
 intro cs x h
 match cs,h with
 | [c0,c1,c2,c3],h =>unfold MX at h;obtain⟨y0,h0,h⟩:=Option.bind_eq_some_iff.1 h;obtain⟨y1,h1,h⟩:=Option.bind_eq_some_iff.1 h;obtain⟨y2,h2,h⟩:=Option.bind_eq_some_iff.1 h;obtain⟨y3,h3,h⟩:=Option.bind_eq_some_iff.1 h;cases h;exact⟨jk h0,kI h1,zJ h2,zJ h3,trivial⟩
theorem ao2:∀cs x,amj cs=some x->jW cs (cells .bool x):=by
 intro cs x h
 match cs,h with
 | [c],h=>exact⟨ZY h,trivial⟩
theorem aak:∀cs x,TA cs=some x->jW cs (cells .aW x):=by
 intro cs x h
 match cs,h with
 | [c],h=>exact⟨jk h,trivial⟩
theorem TF:∀cs x,ER cs=some x->jW cs (cells .gL x):=by
 intro cs x h
 match cs,h with
 | [c0,c1,c2,c3,c4,c5],h =>unfold ER at h;obtain⟨y0,h0,h⟩:=Option.bind_eq_some_iff.1 h;obtain⟨y1,h1,h⟩:=Option.bind_eq_some_iff.1 h;obtain⟨y2,h2,h⟩:=Option.bind_eq_some_iff.1 h;obtain⟨y3,h3,h⟩:=Option.bind_eq_some_iff.1 h;obtain⟨y4,h4,h⟩:=Option.bind_eq_some_iff.1 h;obtain⟨y5,h5,h⟩:=Option.bind_eq_some_iff.1 h;cases h;exact⟨jk h0,kI h1,zJ h2,zJ h3,kI h4,jk h5,trivial⟩
theorem ao3:∀cs x,amk cs=some x->jW cs (cells .I9 x):=by
 intro cs x h
 match cs,h with
 | [c],h=>exact⟨ZX h,trivial⟩
theorem Sb:∀cs x,KF cs=some x->jW cs (cells .jh x):=by
 intro cs x h
 match cs,h with
 | [c],h=>exact⟨ZX h,trivial⟩
theorem ao4:∀cs x,aml cs=some x->jW cs (cells .Ja x):=by
 intro cs x h
 match cs,h with
 | [c],h=>exact⟨ZX h,trivial⟩
theorem aal:∀cs x,KG cs=some x->jW cs (cells .jO x):=by
 intro cs x h
 match cs,h with
 | [c0,c1,c2,c3,c4],h =>unfold KG at h;obtain⟨y0,h0,h⟩:=Option.bind_eq_some_iff.1 h;obtain⟨y1,h1,h⟩:=Option.bind_eq_some_iff.1 h;obtain⟨y2,h2,h⟩:=Option.bind_eq_some_iff.1 h;obtain⟨y3,h3,h⟩:=Option.bind_eq_some_iff.1 h;obtain⟨y4,h4,h⟩:=Option.bind_eq_some_iff.1 h;cases h;exact⟨jk h0,kI h1,zJ h2,zJ h3,ZY h4,trivial⟩
theorem Wx:∀cs x,Gi cs=some x->jW cs (cells .iQ x):=by
 intro cs x h
 match cs,h with
 | [c0],h =>unfold Gi at h;obtain⟨y0,h0,h⟩:=Option.bind_eq_some_iff.1 h;cases h;exact⟨jk h0,trivial⟩
theorem ao5:∀cs x,amm cs=some x->jW cs (cells .byte x):=by
 intro cs x h
 match cs,h with
 | [c],h=>exact⟨jk h,trivial⟩
theorem ao6:∀cs x,amn cs=some x->jW cs (cells .Jb x):=by
 intro cs x h
 match cs,h with
 | [c],h=>exact⟨ZX h,trivial⟩
theorem ab0:∀cs x,MZ cs=some x->jW cs (cells .jl x):=by
 intro cs x h
 match cs,h with
 | [c0,c1,c2,c3],h =>unfold MZ at h;obtain⟨y0,h0,h⟩:=Option.bind_eq_some_iff.1 h;obtain⟨y1,h1,h⟩:=Option.bind_eq_some_iff.1 h;obtain⟨y2,h2,h⟩:=Option.bind_eq_some_iff.1 h;obtain⟨y3,h3,h⟩:=Option.bind_eq_some_iff.1 h;cases h;exact⟨kI h0,jk h1,jk h2,kI h3,trivial⟩
theorem aam:∀cs x,KH cs=some x->jW cs (cells .gZ x):=by
 intro cs x h
 match cs,h with
 | [c0,c1,c2],h =>unfold KH at h;obtain⟨y0,h0,h⟩:=Option.bind_eq_some_iff.1 h;obtain⟨y1,h1,h⟩:=Option.bind_eq_some_iff.1 h;obtain⟨y2,h2,h⟩:=Option.bind_eq_some_iff.1 h;cases h;exact⟨kI h0,kI h1,ZY h2,trivial⟩
theorem Yi:∀cs x,Jc cs=some x->jW cs (cells .je x):=by
 intro cs x h
 match cs,h with
 | [c0,c1,c2,c3,c4,c5],h =>unfold Jc at h;obtain⟨y0,h0,h⟩:=Option.bind_eq_some_iff.1 h;obtain⟨y1,h1,h⟩:=Option.bind_eq_some_iff.1 h;obtain⟨y2,h2,h⟩:=Option.bind_eq_some_iff.1 h;obtain⟨y3,h3,h⟩:=Option.bind_eq_some_iff.1 h;obtain⟨y4,h4,h⟩:=Option.bind_eq_some_iff.1 h;obtain⟨y5,h5,h⟩:=Option.bind_eq_some_iff.1 h;cases h;exact⟨jk h0,kI h1,zJ h2,zJ h3,jk h4,ZY h5,trivial⟩
theorem ahw:∀cs x,adV cs=some x->jW cs (cells .xZ x):=by
 intro cs x h
 match cs,h with
 | [c],h=>exact⟨zJ h,trivial⟩
theorem akz:∀cs x,Yg cs=some x->jW cs (cells .vB x):=by
 intro cs x h
 match cs,h with
 | [c0,c1],h =>unfold Yg at h;obtain⟨y0,h0,h⟩:=Option.bind_eq_some_iff.1 h;obtain⟨y1,h1,h⟩:=Option.bind_eq_some_iff.1 h;cases h;exact⟨jk h0,kI h1,trivial⟩
theorem ab1:∀cs x,M0 cs=some x->jW cs (cells .mR x):=by
 intro cs x h
 match cs,h with
 | [c0,c1,c2,c3,c4,c5,c6,c7],h =>unfold M0 at h;obtain⟨y0,h0,h⟩:=Option.bind_eq_some_iff.1 h;obtain⟨y1,h1,h⟩:=Option.bind_eq_some_iff.1 h;obtain⟨y2,h2,h⟩:=Option.bind_eq_some_iff.1 h;obtain⟨y3,h3,h⟩:=Option.bind_eq_some_iff.1 h;obtain⟨y4,h4,h⟩:=Option.bind_eq_some_iff.1 h;obtain⟨y5,h5,h⟩:=Option.bind_eq_some_iff.1 h;obtain⟨y6,h6,h⟩:=Option.bind_eq_some_iff.1 h;obtain⟨y7,h7,h⟩:=Option.bind_eq_some_iff.1 h;cases h;exact⟨jk h0,kI h1,jk h2,kI h3,jk h4,kI h5,jk h6,kI h7,trivial⟩
theorem ahx:∀cs x,TB cs=some x->jW cs (cells .uf x):=by
 intro cs x h
 match cs,h with
 | [c0,c1,c2,c3],h =>unfold TB at h;obtain⟨y0,h0,h⟩:=Option.bind_eq_some_iff.1 h;obtain⟨y1,h1,h⟩:=Option.bind_eq_some_iff.1 h;obtain⟨y2,h2,h⟩:=Option.bind_eq_some_iff.1 h;obtain⟨y3,h3,h⟩:=Option.bind_eq_some_iff.1 h;cases h;exact⟨kI h0,kI h1,kI h2,kI h3,trivial⟩
theorem arE:∀cs x,arB cs=some x->jW cs (cells .u64 x):=by
 intro cs x h
 match cs,h with
 | [c],h=>exact⟨jk h,trivial⟩
theorem ahy:∀cs x,TD cs=some x->jW cs (cells .ug x):=by
 intro cs x h
 match cs,h with
 | [c0,c1,c2,c3],h =>unfold TD at h;obtain⟨y0,h0,h⟩:=Option.bind_eq_some_iff.1 h;obtain⟨y1,h1,h⟩:=Option.bind_eq_some_iff.1 h;obtain⟨y2,h2,h⟩:=Option.bind_eq_some_iff.1 h;obtain⟨y3,h3,h⟩:=Option.bind_eq_some_iff.1 h;cases h;exact⟨jk h0,jk h1,jk h2,jk h3,trivial⟩
theorem ahz:∀cs x,adW cs=some x->jW cs (cells .x9 x):=by
 intro cs x h
 match cs,h with
 | [c],h=>exact⟨jk h,trivial⟩
theorem vF:∀t cs x,fold t cs=some x->jW cs (cells t x):=fun t=>match t with
 | .int=>arC
 | .str=>arD
 | .cu=>aky
 | .jT=>Yh
 | .ah=>abZ
 | .bool=>ao2
 | .aW=>aak
 | .gL=>TF
 | .I9=>ao3
 | .jh=>Sb
 | .Ja=>ao4
 | .jO=>aal
 | .iQ=>Wx
 | .byte=>ao5
 | .Jb=>ao6
 | .jl=>ab0
 | .gZ=>aam
 | .je=>Yi
 | .xZ=>ahw
 | .vB=>akz
 | .mR=>ab1
 | .uf=>ahx
 | .u64=>arE
 | .ug=>ahy
 | .x9=>ahz
theorem NW:∀i t,code i=some t->i=tid t:=by intro i t h;unfold code at h;split at h<;>first | (cases h;rfl) | cases h
theorem DU:∀t, ∃i z,Tryz.prog.info? (tid t)=some i/\i.size=size t/\i.bytes=bytes t/\i.zero=some z/\z.cells.size=size t:=by intro t;refine axO ?_ rfl;cases t<;>kernel_rfl
theorem agv:∀t,EB Tryz.prog (tid t)=agg t:=by intro t;cases t<;>kernel_rfl
theorem agw:∀t,(Tryz.prog.underlying (tid t)).isSome=true:=by intro t;cases t<;>kernel_rfl
abbrev E:Env Tryz.prog where
 Ty:=Ty
 dec:=dec
 Den:=Den
 tid:=tid
 code:=code
 agg:=agg
 size:=size
 bytes:=bytes
 cells:=cells
 fold:=fold
 NW:=NW
 DU:=DU
 agv:=agv
 agw:=agw
 size_pos:=by intro t;cases t<;>decide
 L6:=by intro t;cases t<;>decide
 one:=by intro t h;cases t<;>first | rfl | cases h
 jd:=by intro t x;cases t<;>rfl
 dflt:=dflt
 vF:=vF
 Vo:=Vo
 Vq:=Vq
 Vp:=Vp
 Pw:=Pw
theorem mix:Tryz.prog.follows .mixedOrders=true:=by kernel_rfl
def ak(n:Int):Int:=IntKind.wrap .i64 n
def aj(x:Node):Node:=⟨x.kind,x.text,x.keys,x.kids⟩
theorem bf(x:Node):aj x=x:=by cases x;rfl
instance:Df Node:=⟨dflt .ah⟩
instance:Df BP:=⟨dflt .gL⟩
instance:Df form:=⟨dflt .jO⟩
instance:Df budget:=⟨dflt .iQ⟩
instance:Df Port:=⟨dflt .jl⟩
instance:Df fO:=⟨dflt .gZ⟩
instance:Df field:=⟨dflt .je⟩
instance:Df xA:=⟨dflt .vB⟩
instance:Df Tz:=⟨dflt .mR⟩
instance:Df aai:=⟨dflt .uf⟩
instance:Df aaj:=⟨dflt .ug⟩
theorem aV{n:Int}(h : -9223372036854775808<=n)(h':n<=9223372036854775807):ak n=n:=by unfold ak;rw[IntKind.wrap_i64];omega
theorem gd{α:Type}(l:List α)(d:α)(i:Nat)(h:i<l.length):List.getD l (Int.toNat (i:Int)) d=l[i]:=by rw[aaE,List.getD,aaz h];rfl
theorem d0(i:Nat):decide ((0:Int)<=(i:Int))=true:=by simp
theorem zl{i n:Nat}(h:i<n):decide ((i:Int)<(n:Int))=true:=by simp only[adB];omega
theorem Iy{i n:Nat}(h:n<=i):decide ((i:Int)<(n:Int))=false:=by simp only[decide_eq_false_iff_not];omega
theorem dT{p:Prop}[Decidable p](h:p):decide p=true:=decide_eq_true h
theorem dF{p:Prop}[Decidable p](h:¬ p):decide p=false:=decide_eq_false h
theorem kr{a b:Int}(h:a≠b):(a != b)=true:=by simpa using h
theorem nK{a b:Int}(h:a=b):(a != b)=false:=by simp[h]
theorem iU{a b:Int}(h:a=b):(a==b)=true:=by simp[h]
theorem eT{a b:Int}(h:a≠b):(a==b)=false:=by simpa using h
theorem mb:aB=140737488355328:=rfl
theorem axT{w:World}{ro:Nat->Nat->Prop}{u:Value}{x:aqO}(h:dO E w ro u (.str x)):u=encStr x:=by cases h;rfl
theorem ahA{w:World}{ro:Nat->Nat->Prop}{xs:List Value}{l:List (aqO)}(hl:xs.length=l.length)(h:mH E w ro .str xs l):xs=l.map encStr:=by
 apply List.ext_getElem?;intro i;by_cases hi:i<l.length
 ·obtain⟨u,hu,hd⟩:=h i l[i] 0 (.str l[i]) (aaz hi) rfl;have hu:xs[i*1+0]? = some u:=hu;rw[agD,ai4]at hu;rw[hu,axT hd];simp[hi]
 ·rw[List.getElem?_eq_none (by omega),List.getElem?_eq_none (by simp;omega)]
theorem Gj{w:World}{ro:Nat->Nat->Prop}(l:List (aqO)):mH E w ro .str (l.map encStr) l:=by
 intro i x j c hx hc;have hc:([.str x]:List (bC E.Den))[j]? = some c:=hc;cases j with
 | zero =>simp at hc;subst hc;refine⟨encStr x,?_,.str x⟩;show(l.map encStr)[i*1+0]? = some (encStr x);rw[agD,ai4,adT,show l[i]? = some x from hx];rfl
 | succ j=>simp at hc
def yc(l:List (aqO)):Bool:=decide (l.length<=1000000)
noncomputable def arF:WU E:=aoO (E:=E) .str false yc Pl.tY
def ahB:FuncId:=62
theorem auN:∃fn,Tryz.prog.funcs[ahB]? = some fn/\(fn.name == "runtime.NumGoroutine")=false/\fn.body.isNone=false:=⟨Tryz.f62,by kernel_rfl,by kernel_rfl,by kernel_rfl⟩
noncomputable def adX:WU E:=aoO (E:=E) .str true yc Lib.compact
def Xa:FuncId:=63
theorem akA:∃fn,Tryz.prog.funcs[Xa]? = some fn/\(fn.name == "runtime.NumGoroutine")=false/\fn.body.isNone=false:=⟨Tryz.f63,by kernel_rfl,by kernel_rfl,by kernel_rfl⟩
theorem adY:Pl.tY []=[]:=by simp[Pl.tY]
theorem auO:afY E ahB arF:=by
 refine⟨auN,fun t l rest back l' h=>?_⟩;obtain⟨l,e1,hr,hb,hok,e2⟩:=ahh h;cases e1;cases e2;subst hr;subst hb;have hok:yc l=true:=hok;simp only[yc,adB]at hok;intro w ro gh xs vals hn hge hgs hown hrow iw hargs kH
 match vals,hargs with
 | [],_ =>
 have hlen:(Pl.tY l).length=l.length:=Pl.Tw l;rcases hown with⟨hown,hblk⟩ | ⟨h0,hxs,hblk,ad,hv⟩
 ·have hx1:xs.length=l.length:=by rw[hown.1,hgs,hn];show l.length*1=_;omega
  have hxs:=ahA hx1 hrow;rcases hown.2 with⟨hnil,hn0⟩ | ⟨g,cap,cur,hgv,hbase,hb,h1,h2,h3,h4⟩
  ·have hl0:l=[]:=aeg (by omega);subst hl0;rw[hnil,adY];refine(Tryz.slices_Sort_string_none none 0 w).mono fun e w' he=>?_
   obtain⟨rfl,rfl⟩:=he;refine⟨_,gh,[],rfl,⟨rfl,rfl,rfl,abn _,fun _ _ _=>rfl⟩,hn,hge,hgs,.inl ⟨?_,hblk⟩,Gj [],fun g hg=>.inl hg,(fun h=>by cases h),fun _=>rfl⟩;rw[hnil,hn0];exact World.ownsRow_nil _ 0 _ _
  ·rw[hgv,hn];rw[hge]at hb;have hsz:gh.sz=1:=hgs;rw[hsz,agD]at h3;rw[hsz,agD,hn,hxs]at h4;refine(Tryz.slices_Sort_string g 0 cap l w (holds_of_block hb h4) (Array.getElem?_eq_some_iff.1 hb).1 (by omega)).mono fun e w' he=>?_
   obtain⟨rfl,n,os,rfl⟩:=he;have hg2:gh.blk=some g:=by rw[hblk,hgv];rfl
   refine⟨_,gh,(Pl.tY l).map encStr,rfl,by rw[hg2];exact grownBy_sorted _,by rw[hlen];exact hn,hge,hgs,.inl ⟨?_,hblk⟩,Gj _,fun g hg=>.inl hg,(fun h=>by cases h),fun _=>rfl⟩;rw[hgv,hn,hge,hsz];exact ownsRow_sorted (ts:=Pl.tY l) hlen (aaG _) hb (by omega) h2 (by rw[h3,agD])
 ·have hl0:l=[]:=aeg (by omega);subst hl0;rw[hv,adY];refine(Tryz.slices_Sort_string_none ad 0 w).mono fun e w' he=>?_
  obtain⟨rfl,rfl⟩:=he;exact⟨_,gh,[],rfl,⟨rfl,rfl,rfl,abn _,fun _ _ _=>rfl⟩,hn,hge,hgs,.inr ⟨h0,rfl,hblk,ad,hv⟩,Gj [],fun g hg=>.inl hg,(fun h=>by cases h),fun _=>rfl⟩
theorem ab2{w:World}{base g cap n m:Nat}{e:TypeId}{xs:List Value}(h:w.ownsRow base e 1 (.slice (some ⟨g,0,none⟩) n cap) n xs)(hm:m<=n):w.ownsRow base e 1 (.slice (some ⟨g,0,none⟩) m cap) m (xs.take m):=by
 obtain⟨h1,h2⟩:=h;refine⟨by rw[ad6];omega,.inr ?_⟩;rcases h2 with⟨h2,_⟩ | ⟨g',cap',cur,h2,h3,h4,h5,h6,h7,h8⟩
 ·cases h2
 ·cases h2;exact⟨g,cap,cur,rfl,h3,h4,by omega,h6,h7,by rw[<- h8,List.take_take,agD,agD,Nat.min_eq_left hm]⟩
theorem akB:afY E Xa adX:=by
 refine⟨akA,fun t l rest back l' h=>?_⟩;obtain⟨l,e1,hr,hb,hok,e2⟩:=ahh h;cases e1;cases e2;subst hr;subst hb;have hok:yc l=true:=hok;simp only[yc,adB]at hok;intro w ro gh xs vals hn hge hgs hown hrow iw hargs kH
 match vals,hargs with
 | [],_ =>
 have hlen:=Pl.W9 l;rcases hown with⟨hown,hblk⟩ | ⟨h0,hxs,hblk,ad,hv⟩
 ·have hx1:xs.length=l.length:=by rw[hown.1,hgs,hn];show l.length*1=_;omega
  have hxs:=ahA hx1 hrow;rcases hown.2 with⟨hnil,hn0⟩ | ⟨g,cap,cur,hgv,hbase,hb,h1,h2,h3,h4⟩
  ·have hl0:l=[]:=aeg (by omega);subst hl0;rw[hnil];refine(Tryz.slices_Compact_string_empty none 0 w).mono fun e w' he=>?_
   obtain⟨rfl,rfl⟩:=he;refine⟨_,gh,[],rfl,⟨rfl,rfl,rfl,abn _,fun _ _ _=>rfl⟩,hn,hge,hgs,.inl ⟨?_,hblk⟩,Gj [],fun g hg=>.inl hg,(fun _=>hnil.symm),(fun h=>by cases h)⟩;rw[hnil,hn0];exact World.ownsRow_nil _ 0 _ _
  ·rw[hgv,hn];rw[hge]at hb;have hsz:gh.sz=1:=hgs;rw[hsz,agD]at h3;rw[hsz,agD,hn,hxs]at h4;have hcap:l.length<=cap:=by omega
   refine(Tryz.slices_Compact_string g 0 cap l w (holds_of_block hb h4) (by omega) hcap).mono fun e w' he=>?_
   obtain⟨rfl,q,rfl⟩:=he;have hg2:gh.blk=some g:=by rw[hblk,hgv];rfl
   have hts:(Lib.compact l++List.replicate (l.length-(Lib.compact l).length) []).length=l.length:=by simp;omega
   have hown':=ownsRow_sorted (n:=q) (os:=#[]) (ts:=Lib.compact l++List.replicate (l.length-(Lib.compact l).length) []) hts (aaG g) hb hcap h2 (by rw[h3,agD]);rw[Sort.grow_empty]at hown';have hgb:=grownBy_sorted (w:=w) (g:=g) (n:=q) (os:=#[]) (Lib.compact l++List.replicate (l.length-(Lib.compact l).length) []).toArray;rw[Sort.grow_empty]at hgb;have hp:=ab2 hown' hlen;rw[List.map_append,List.take_left' (by simp)]at hp;exact⟨_,⟨.slice (some ⟨g,0,none⟩) (Lib.compact l).length cap,(Lib.compact l).length,E.tid .str,E.size .str,some g⟩,(Lib.compact l).map encStr,rfl,by rw[hg2];exact hgb,rfl,rfl,rfl,.inl ⟨hp,rfl⟩,Gj _,
    (fun g' hg'=>.inl (by rw[hg2];exact hg')),(fun _=>rfl),(fun h=>by cases h)⟩
 ·have hl0:l=[]:=aeg (by omega);subst hl0;rw[hv];refine(Tryz.slices_Compact_string_empty ad 0 w).mono fun e w' he=>?_
  obtain⟨rfl,rfl⟩:=he;exact⟨_,gh,[],rfl,⟨rfl,rfl,rfl,abn _,fun _ _ _=>rfl⟩,hn,hge,hgs,.inr ⟨h0,rfl,hblk,ad,hv⟩,Gj [],fun g hg=>.inl hg,(fun _=>hv.symm),(fun h=>by cases h)⟩
def nL{α:Type}(l:List α):Bool:=decide (l.length<=1000000)
theorem sW{α:Type}{l:List α}:nL l=true↔l.length<=1000000:=by simp[nL]
def zM(s:aqO):Nat->List (aqO)->Int
 | _,[]=>-1
 | i,a::t=>if s=a then i else zM s (i+1) t
def index(l:List (aqO))(s:aqO):Int:=zM s 0 l
noncomputable def ab3:jC E:=Ir (E:=E) .cu .str .int (fun l _=>nL l) index
def ahC:FuncId:=193
noncomputable def ab4:aI E:=jX [] [] [] []
noncomputable def amo:Hint E:={ live:=[(0,[0,1,7,8])] }
noncomputable def KI(v0:List (aqO))(v1:aqO)(v2 v3:Int):au E:=au.mk 19 [(0,.d (.slice .str v0)),(1,.d (.str v1)),(7,.d (.int .i64 v2)),(8,.d (.int .i64 v3))] [] 0
noncomputable def amq(G:Nat->au E->Option (List (TV E)))(x0:List (aqO))(x1:aqO):Option (List (TV E)) :=
 G 0 (KI x0 x1 (x0.length:Int) 0)
theorem axU(G:Nat->au E->Option (List (TV E)))(x0:List (aqO))(x1:aqO):jR ab4 amo G Tryz.f193 [⟨.cu,x0⟩,⟨.str,x1⟩]=amq G x0 x1:=by kernel_rfl
noncomputable def Qm(G:Nat->au E->Option (List (TV E)))(v0:List (aqO))(v1:aqO)(v2 v3:Int):Option (List (TV E)) :=
 bif(decide (v3<v2))then(bif(decide ((0:Int)<=v3)&&decide (v3<(v0.length:Int)))then(bif(v1==(List.getD v0 (Int.toNat v3) (dflt .str)))then some [⟨.int,v3⟩]else G 0 (KI v0 v1 v2 (ak (v3+(1:Int)))))else none)else some [⟨.int,(-1:Int)⟩]
theorem auP(G:Nat->au E->Option (List (TV E)))(v0:List (aqO))(v1:aqO)(v2 v3:Int):uG ab4 amo G Tryz.f193 0 (KI v0 v1 v2 v3)=Qm G v0 v1 v2 v3:=by kernel_rfl
theorem axV:Tryz.prog.funcs[193]? = some Tryz.f193:=by kernel_rfl
theorem axW:(Tryz.f193.name == "runtime.NumGoroutine")=false:=by kernel_rfl
theorem axX:Tryz.f193.body.isNone=false:=by kernel_rfl
theorem ahD:aK E ab4:=gq .nil .nil .nil .nil
theorem ahE{res:List (TV E)}{v0:List (aqO)}{v1:aqO}{v2 v3:Int}(h:Qm (Gr E Tryz.f193 res) v0 v1 v2 v3=some res):Ev E Tryz.f193 res 0 (KI v0 v1 v2 v3):=Ev.step ahD mix ((auP _ v0 v1 v2 v3).trans h)
theorem akC(h:∀(x0:List (aqO)) (x1:aqO),(fun l _=>nL l) x0 x1=true->amq (Gr E Tryz.f193 [⟨.int,index x0 x1⟩]) x0 x1=some [⟨.int,index x0 x1⟩]):bG E ahC ab3:=Iu ahD mix axV axW axX (fun x0 x1 hk=>(axU _ x0 x1).trans (h x0 x1 hk))
theorem ao7(l:List (aqO))(s:aqO)(hl:l.length<=1000000):∀(m i:Nat),l.length-i=m->i<=l.length->Ev E Tryz.f193 [⟨.int,zM s i (l.drop i)⟩] 0 (KI l s l.length i):=by
 intro m
 induction m with
 | zero =>intro i h1 h2;refine ahE ?_;simp only[Qm,Iy (show l.length<=i by omega),cond_false,aa9 (show l.length<=i by omega)];rfl
 | succ m ih =>
  intro i h1 h2;have hi:i<l.length:=by omega
  refine ahE ?_;simp only[Qm,zl hi,d0,gd l _ i hi,adM,cond_true];rw[<- abl hi];unfold zM;by_cases hs:s=l[i]
  ·rw[if_pos hs,show(s==l[i])=true from by simpa using hs];rfl
  ·rw[if_neg hs,show(s==l[i])=false from by simpa using hs,cond_false,aV (by omega) (by omega)];exact gG (ih (i+1) (by omega) (by omega))
theorem auQ:bG E ahC ab3:=akC fun l s hk=>by have:=ao7 l s (sW.1 hk) l.length 0 (by omega) (by omega);rw[aed]at this;exact gG this
def equal(a b:List (aqO)):Bool:=a==b
def lens(l:List (List (aqO))):Nat:=(l.map List.length).sum
noncomputable def Iz:jC E:=EO (E:=E) .cu .cu nL Pl.bA
def aan:FuncId:=26
noncomputable def adZ:aI E:=jX [] [] [(63,adX),(62,arF)] []
noncomputable def arG:Hint E:={}
noncomputable def TG(_G:Nat->au E->Option (List (TV E)))(x0:List (aqO)):Option (List (TV E)) :=
 bif(decide ((([]:List (aqO)).length+x0.length)*16<=aB))then(bif(yc (([]:List (aqO))++x0))then(bif(yc (Pl.tY (([]:List (aqO))++x0)))then some [⟨.cu,(Lib.compact (Pl.tY (([]:List (aqO))++x0)))⟩]else none)else none)else none
theorem arH(G:Nat->au E->Option (List (TV E)))(x0:List (aqO)):jR adZ arG G Tryz.f26 [⟨.cu,x0⟩]=TG G x0:=by kernel_rfl
theorem arJ:Tryz.prog.funcs[26]? = some Tryz.f26:=by kernel_rfl
theorem arK:(Tryz.f26.name == "runtime.NumGoroutine")=false:=by kernel_rfl
theorem arL:Tryz.f26.body.isNone=false:=by kernel_rfl
theorem ao8:aK E adZ:=gq .nil .nil (.cons akB (.cons auO .nil)) .nil
theorem aeY(h:∀(x0:List (aqO)),nL x0=true->TG (Gr E Tryz.f26 [⟨.cu,Pl.bA x0⟩]) x0=some [⟨.cu,Pl.bA x0⟩]):bG E aan Iz:=zK ao8 mix arJ arK arL (fun x0 hk=>(arH _ x0).trans (h x0 hk))
theorem Qn:bG E aan Iz:=aeY fun l hk=>by
 have hl:=sW.1 hk;have h1:yc (([]:List (aqO))++l)=true:=by simpa[yc]using hl
 have h2:yc (Pl.tY (([]:List (aqO))++l))=true:=by simp only[yc,adB,Pl.Tw];simpa using hl
 simp only[TG,h1,h2,cond_true];rw[dT (show(([]:List (aqO)).length+l.length)*16<=aB by rw[mb,List.length_nil];omega)];rfl
def both(a b:List (aqO)):List (aqO):=Pl.bA (a++b)
noncomputable def ao9:jC E:=Ir (E:=E) .cu .str .int (fun l _=>nL l) index
def arM:FuncId:=146
noncomputable def awt:aI E:=jX [(193,ab3)] [] [] []
noncomputable def aB7:Hint E:={}
noncomputable def apa(_G:Nat->au E->Option (List (TV E)))(x0:List (aqO))(x1:aqO):Option (List (TV E)) :=
 bif((fun l _=>nL l) x0 x1)then some [⟨.int,(index x0 x1)⟩]else none
theorem aB8(G:Nat->au E->Option (List (TV E)))(x0:List (aqO))(x1:aqO):jR awt aB7 G Tryz.f146 [⟨.cu,x0⟩,⟨.str,x1⟩]=apa G x0 x1:=by kernel_rfl
theorem aB9:Tryz.prog.funcs[146]? = some Tryz.f146:=by kernel_rfl
theorem aCa:(Tryz.f146.name == "runtime.NumGoroutine")=false:=by kernel_rfl
theorem aCb:Tryz.f146.body.isNone=false:=by kernel_rfl
theorem aAa:aK E awt:=gq (.cons auQ .nil) .nil .nil .nil
theorem arN(h:∀(x0:List (aqO)) (x1:aqO),(fun l _=>nL l) x0 x1=true->apa (Gr E Tryz.f146 [⟨.int,index x0 x1⟩]) x0 x1=some [⟨.int,index x0 x1⟩]):bG E arM ao9:=Iu aAa mix aB9 aCa aCb (fun x0 x1 hk=>(aB8 _ x0 x1).trans (h x0 x1 hk))
theorem aAb:bG E arM ao9:=arN fun l s hk=>by simp only[apa,hk,cond_true]
theorem KJ{w:World}{ro:Nat->Nat->Prop}{v:Value}{s:aqO}(h:uF E w ro v Ty.str s):v = .string ⟨s.toArray⟩:=by
 rcases h with⟨ha,_⟩ | ⟨_,d,hd,hr⟩
 ·cases ha
 ·have hd:([.str s]:List (bC E.Den))=[d]:=hd;injection hd with hd _
  subst hd;cases hr;rfl
theorem ahF{w:World}{ro:Nat->Nat->Prop}{v:Value}{n:Int}(h:uF E w ro v Ty.int n):v = .int .i64 n:=by
 rcases h with⟨ha,_⟩ | ⟨_,d,hd,hr⟩
 ·cases ha
 ·have hd:([.int .i64 n]:List (bC E.Den))=[d]:=hd;injection hd with hd _
  subst hd;cases hr;rfl
theorem ab5 {f:FuncId} {a b t:E.Ty} {ok:E.Den a->E.Den b->Bool} {F:E.Den a->E.Den b->E.Den t} (ex:∃fn,Tryz.prog.funcs[f]? = some fn/\(fn.name == "runtime.NumGoroutine")=false/\fn.body.isNone=false) (h:∀x y,ok x y=true->DW E f [⟨a,x⟩,⟨b,y⟩] [⟨t,F x y⟩]):bG E f (Ir a b t ok F) :=
 ⟨ex,fun args r hr=>by
  unfold Ir at hr;split at hr
  ·split at hr
   ·rename_i x hx;split at hr
    ·rename_i y hy;injection hr with hr
     injection hr with h1 h2
     subst h2;rw[iC hx,iC hy];exact h _ _ h1
    ·cases hr
   ·cases hr
  ·cases hr⟩
def uI(s p:aqO):Bool:=decide (s.length<=1000000)&&decide (p.length=1)
def pR(s p:aqO):Int:=Lib.indexByte s (p.headD 0)
noncomputable def Qo:jC E:=Ir (E:=E) .str .str .int uI pR
def arO:FuncId:=195
theorem TH:bG E arO Qo:=ab5 ⟨Tryz.f195,by kernel_rfl,by kernel_rfl,by kernel_rfl⟩ fun s p hk=>by
 simp only[uI,abj,adB]at hk;obtain⟨c,rfl⟩:∃c,p=[c]:=by
  match p,hk.2 with
  | [c],_=>exact⟨c,rfl⟩
 intro w ro vals hargs kH
 match vals,hargs with
 | [u,v],⟨h1,h2,_⟩ =>
  have e1:u = .string ⟨s.toArray⟩:=by
   rcases h1 with⟨ha,_⟩ | ⟨_,d,hd,hr⟩
   ·cases ha
   ·have hd:([.str s]:List (bC E.Den))=[d]:=hd;injection hd with hd _
    subst hd;cases hr;rfl
  have e2:v = .string ⟨[c].toArray⟩:=by
   rcases h2 with⟨ha,_⟩ | ⟨_,d,hd,hr⟩
   ·cases ha
   ·have hd:([.str [c]]:List (bC E.Den))=[d]:=hd;injection hd with hd _
    subst hd;cases hr;rfl
  subst e1;subst e2;refine(Tryz.stringslite_Index_one ⟨s.toArray⟩ c w).mono fun e w' he=>?_
  obtain⟨he,rfl⟩:=he;refine⟨_,he,Below.refl _ _,.inr ⟨rfl,.int .i64 (pR s [c]),rfl,?_⟩⟩;exact .int .i64 (Lib.indexByte s c)
theorem af2(s:aqO)(c:UInt8):Lib.indexByte s c<0\/∃i:Nat,Lib.indexByte s c=i/\i<s.length:=by
 induction s with
 | nil=>exact .inl (show(-1:Int)<0 by decide)
 | cons a t ih =>
  unfold Lib.indexByte;split
  ·exact .inr ⟨0,rfl,by simp⟩
  ·rcases ih with h | ⟨i,h1,h2⟩
   ·left;split
    ·decide
    ·have:=Lib.indexByte_ge t c;rename_i hne;exfalso;have:Lib.indexByte t c = -1:=by omega
     rw[this]at hne;exact hne rfl
   ·right;split
    ·rename_i he;rw[h1]at he;have:(i:Int) = -1:=(beq_iff_eq.1 he)
     omega
    ·exact⟨i+1,by rw[h1];omega,by simp;omega⟩
def lU(s p:aqO):aqO:=bif decide (0<=pR s p)then s.take (pR s p).toNat else s
def pU(s p:aqO):aqO:=bif decide (0<=pR s p)then s.drop ((pR s p).toNat+1)else[]
def zN(s p:aqO):Bool:=decide (0<=pR s p)
noncomputable def ahG:jC E:=aoS (E:=E) .str .str .str .str .bool uI lU pU zN
def amr:FuncId:=151
noncomputable def arP:aI E:=jX [(195,Qo)] [] [] []
noncomputable def aAc:Hint E:={}
noncomputable def ahH(_G:Nat->au E->Option (List (TV E)))(x0 x1:aqO):Option (List (TV E)) :=
 bif(uI x0 x1)then(bif(decide ((0:Int)<=(pR x0 x1)))then(bif(decide ((0:Int)<=(0:Int))&&decide ((0:Int)<=(pR x0 x1))&&decide ((pR x0 x1)<=(x0.length:Int)))then(bif(decide ((0:Int)<=(ak ((pR x0 x1)+(x1.length:Int))))&&decide ((ak ((pR x0 x1)+(x1.length:Int)))<=(x0.length:Int))&&decide ((x0.length:Int)<=(x0.length:Int)))then some [⟨.str,(List.take (Int.toNat (pR x0 x1)-Int.toNat 0) (List.drop (Int.toNat 0) x0))⟩,⟨.str,(List.take (Int.toNat (x0.length:Int)-Int.toNat (ak ((pR x0 x1)+(x1.length:Int)))) (List.drop (Int.toNat (ak ((pR x0 x1)+(x1.length:Int)))) x0))⟩,⟨.bool,true⟩]else none)else none)else some [⟨.str,x0⟩,⟨.str,([]:aqO)⟩,⟨.bool,false⟩])else none
theorem aAd(G:Nat->au E->Option (List (TV E)))(x0 x1:aqO):jR arP aAc G Tryz.f151 [⟨.str,x0⟩,⟨.str,x1⟩]=ahH G x0 x1:=by kernel_rfl
theorem aAe:Tryz.prog.funcs[151]? = some Tryz.f151:=by kernel_rfl
theorem aAf:(Tryz.f151.name == "runtime.NumGoroutine")=false:=by kernel_rfl
theorem aAg:Tryz.f151.body.isNone=false:=by kernel_rfl
theorem axY:aK E arP:=gq (.cons TH .nil) .nil .nil .nil
theorem apb(h:∀(x0:aqO) (x1:aqO),uI x0 x1=true->ahH (Gr E Tryz.f151 [⟨.str,lU x0 x1⟩,⟨.str,pU x0 x1⟩,⟨.bool,zN x0 x1⟩]) x0 x1=some [⟨.str,lU x0 x1⟩,⟨.str,pU x0 x1⟩,⟨.bool,zN x0 x1⟩]):bG E amr ahG:=amc axY mix aAe aAf aAg (fun x0 x1 hk=>(aAd _ x0 x1).trans (h x0 x1 hk))
theorem axZ:bG E amr ahG:=apb fun s p hk=>by
 have hk':=hk;simp only[uI,abj,adB]at hk';obtain⟨hs,hp⟩:=hk';simp only[ahH,hk,cond_true,lU,pU,zN];rcases af2 s (p.headD 0)with h | ⟨i,h1,h2⟩
 ·have h:¬ 0<=pR s p:=by unfold pR;omega
  rw[dF h];rfl
 ·have e:pR s p=(i:Int):=h1;have e3:ak ((i:Int)+(p.length:Int))=((i+1:Nat):Int):=by rw[hp,aV (by omega) (by omega)];omega
  have c1:List.take (Int.toNat (i:Int)-Int.toNat 0) (List.drop (Int.toNat 0) s)=s.take (Int.toNat (i:Int)):=by simp
  have c2:List.take (Int.toNat (s.length:Int)-Int.toNat ((i+1:Nat):Int)) (List.drop (Int.toNat ((i+1:Nat):Int)) s)=s.drop (Int.toNat (i:Int)+1):=by rw[aaE,aaE,aaE];exact aej (by rw[adH];omega)
  rw[e,e3,c1,c2,dT (show(0:Int)<=(i:Int) by omega),dT (show(i:Int)<=(s.length:Int) by omega),dT (show(0:Int)<=((i+1:Nat):Int) by omega),dT (show((i+1:Nat):Int)<=(s.length:Int) by omega),dT (show(s.length:Int)<=(s.length:Int) by omega)];rfl
noncomputable def ahI:jC E:=aoS (E:=E) .str .str .str .str .bool uI lU pU zN
def ams:FuncId:=93
noncomputable def arQ:aI E:=jX [(151,ahG)] [] [] []
noncomputable def aAh:Hint E:={}
noncomputable def ahJ(_G:Nat->au E->Option (List (TV E)))(x0 x1:aqO):Option (List (TV E)) :=
 bif(uI x0 x1)then some [⟨.str,(lU x0 x1)⟩,⟨.str,(pU x0 x1)⟩,⟨.bool,(zN x0 x1)⟩]else none
theorem aAi(G:Nat->au E->Option (List (TV E)))(x0 x1:aqO):jR arQ aAh G Tryz.f93 [⟨.str,x0⟩,⟨.str,x1⟩]=ahJ G x0 x1:=by kernel_rfl
theorem aAj:Tryz.prog.funcs[93]? = some Tryz.f93:=by kernel_rfl
theorem aAk:(Tryz.f93.name == "runtime.NumGoroutine")=false:=by kernel_rfl
theorem aAl:Tryz.f93.body.isNone=false:=by kernel_rfl
theorem ax0:aK E arQ:=gq (.cons axZ .nil) .nil .nil .nil
theorem apc(h:∀(x0:aqO) (x1:aqO),uI x0 x1=true->ahJ (Gr E Tryz.f93 [⟨.str,lU x0 x1⟩,⟨.str,pU x0 x1⟩,⟨.bool,zN x0 x1⟩]) x0 x1=some [⟨.str,lU x0 x1⟩,⟨.str,pU x0 x1⟩,⟨.bool,zN x0 x1⟩]):bG E ams ahI:=amc ax0 mix aAj aAk aAl (fun x0 x1 hk=>(aAi _ x0 x1).trans (h x0 x1 hk))
theorem ax1:bG E ams ahI:=apc fun s p hk=>by simp only[ahJ,hk,cond_true]
theorem gB(x:Node):(⟨x.kind,x.text,x.keys,x.kids⟩:Node)=x:=by cases x;rfl
def zn:Node:=⟨0,[],[],[]⟩
def lk:List (aqO)->List Node->aqO->Option Node
 | a::t,v::w,k=>if k=a then some v else lk t w k
 | _,_,_=>none
def get(n:Node)(k:aqO):Option Node:=if n.kind=3 then lk n.keys n.kids k else none
def aJ(n:Node)(k:aqO):Node:=(get n k).getD zn
def aD(n:Node)(k:aqO):Bool:=(get n k).isSome
def fit(n:Node):Bool:=decide (n.keys.length<=1000000)&&decide (n.kids.length<=1000000)&&(n.kind != 3||decide (n.keys.length=n.kids.length))
theorem qY{n:Node}:fit n=true↔(n.keys.length<=1000000/\n.kids.length<=1000000)/\(n.kind=3->n.keys.length=n.kids.length):=by
 simp only[fit,abj,amf,adB,bne_iff_ne];constructor
 ·rintro⟨h,h2⟩;exact⟨h,fun e=>h2.resolve_left (fun h=>h e)⟩
 ·rintro⟨h,h2⟩;refine⟨h,?_⟩;by_cases e:n.kind=3
  ·exact .inr (h2 e)
  ·exact .inl e
def place(n:Node)(k:aqO):Int:=if n.kind=3 then index n.keys k else -1
noncomputable def Qp:jC E:=Ir (E:=E) .ah .str .int (fun n _=>fit n) place
def ad2:FuncId:=84
noncomputable def ahK:aI E:=jX [(146,ao9)] [] [] []
noncomputable def auR:Hint E:={}
noncomputable def Qq(_G:Nat->au E->Option (List (TV E)))(x0:Node)(x1:aqO):Option (List (TV E)) :=
 bif(bif(x0.kind != (3:Int))then true else((x0.keys.length:Int)!=(x0.kids.length:Int)))then some [⟨.int,(-1:Int)⟩]else(bif((fun l _=>nL l) x0.keys x1)then some [⟨.int,(index x0.keys x1)⟩]else none)
theorem auS(G:Nat->au E->Option (List (TV E)))(x0:Node)(x1:aqO):jR ahK auR G Tryz.f84 [⟨.ah,x0⟩,⟨.str,x1⟩]=Qq G x0 x1:=by kernel_rfl
theorem auT:Tryz.prog.funcs[84]? = some Tryz.f84:=by kernel_rfl
theorem auU:(Tryz.f84.name == "runtime.NumGoroutine")=false:=by kernel_rfl
theorem auV:Tryz.f84.body.isNone=false:=by kernel_rfl
theorem arR:aK E ahK:=gq (.cons aAb .nil) .nil .nil .nil
theorem ahL(h:∀(x0:Node) (x1:aqO),(fun n _=>fit n) x0 x1=true->Qq (Gr E Tryz.f84 [⟨.int,place x0 x1⟩]) x0 x1=some [⟨.int,place x0 x1⟩]):bG E ad2 Qp:=Iu arR mix auT auU auV (fun x0 x1 hk=>(auS _ x0 x1).trans (h x0 x1 hk))
theorem ad3:bG E ad2 Qp:=ahL fun n k hk=>by
 have hf:=qY.1 hk;have h1:nL n.keys=true:=sW.2 hf.1.1;unfold place;by_cases h:n.kind=3
 ·rw[if_pos h];simp only[Qq,h1,cond_true,nK h,cond_false];rw[nK (by have:=hf.2 h;omega),cond_false]
 ·rw[if_neg h];simp only[Qq,kr h,cond_true]
theorem arS:∀(keys:List (aqO)) (kids:List Node) (k:aqO) (i:Nat),keys.length=kids.length ->
  (zM k i keys = -1/\lk keys kids k=none)\/∃(j:Nat) (h:j<kids.length),zM k i keys=((i+j:Nat):Int)/\lk keys kids k=some kids[j]
 | [],[],k,i,_=>.inl ⟨rfl,rfl⟩
 | a::t,v::w,k,i,h=>by
  unfold zM lk;by_cases e:k=a
  ·rw[if_pos e,if_pos e];exact .inr ⟨0,by simp,by simp,rfl⟩
  ·rw[if_neg e,if_neg e];rcases arS t w k (i+1) (by simpa using h)with h1 | ⟨j,hj,h1,h2⟩
   ·exact .inl h1
   ·exact .inr ⟨j+1,by simpa using hj,by rw[h1];omega,by simpa using h2⟩
 | [],_::_,_,_,h=>by simp at h
 | _::_,[],_,_,h=>by simp at h
noncomputable def aao:jC E:=aoP (E:=E) .ah .str .ah .bool (fun n _=>fit n) aJ aD
def amt:FuncId:=85
noncomputable def arT:aI E:=jX [(84,Qp)] [] [] []
noncomputable def aAm:Hint E:={}
noncomputable def ahM(_G:Nat->au E->Option (List (TV E)))(x0:Node)(x1:aqO):Option (List (TV E)) :=
 bif((fun n _=>fit n) (⟨x0.kind,x0.text,x0.keys,x0.kids⟩:Node) x1)then(bif(decide ((place ⟨x0.kind,x0.text,x0.keys,x0.kids⟩ x1)<(0:Int)))then some [⟨.ah,(⟨0,[],[],[]⟩:Node)⟩,⟨.bool,false⟩]else(bif(decide ((0:Int)<=(place ⟨x0.kind,x0.text,x0.keys,x0.kids⟩ x1))&&decide ((place ⟨x0.kind,x0.text,x0.keys,x0.kids⟩ x1)<(x0.kids.length:Int)))then some [⟨.ah,(⟨(List.getD x0.kids (Int.toNat (place ⟨x0.kind,x0.text,x0.keys,x0.kids⟩ x1)) (dflt .ah)).kind,(List.getD x0.kids (Int.toNat (place ⟨x0.kind,x0.text,x0.keys,x0.kids⟩ x1)) (dflt .ah)).text,(List.getD x0.kids (Int.toNat (place ⟨x0.kind,x0.text,x0.keys,x0.kids⟩ x1)) (dflt .ah)).keys,(List.getD x0.kids (Int.toNat (place ⟨x0.kind,x0.text,x0.keys,x0.kids⟩ x1)) (dflt .ah)).kids⟩:Node)⟩,⟨.bool,true⟩]else none))else none
theorem aAn(G:Nat->au E->Option (List (TV E)))(x0:Node)(x1:aqO):jR arT aAm G Tryz.f85 [⟨.ah,x0⟩,⟨.str,x1⟩]=ahM G x0 x1:=by kernel_rfl
theorem aAo:Tryz.prog.funcs[85]? = some Tryz.f85:=by kernel_rfl
theorem aAp:(Tryz.f85.name == "runtime.NumGoroutine")=false:=by kernel_rfl
theorem aAq:Tryz.f85.body.isNone=false:=by kernel_rfl
theorem ax2:aK E arT:=gq (.cons ad3 .nil) .nil .nil .nil
theorem apd(h:∀(x0:Node) (x1:aqO),(fun n _=>fit n) x0 x1=true->ahM (Gr E Tryz.f85 [⟨.ah,aJ x0 x1⟩,⟨.bool,aD x0 x1⟩]) x0 x1=some [⟨.ah,aJ x0 x1⟩,⟨.bool,aD x0 x1⟩]):bG E amt aao:=amb ax2 mix aAo aAp aAq (fun x0 x1 hk=>(aAn _ x0 x1).trans (h x0 x1 hk))
theorem amu:bG E amt aao:=apd fun n k hk=>by
 have hf:=qY.1 hk;simp only[ahM,gB,hk,cond_true];by_cases h:n.kind=3
 ·have hp:place n k=zM k 0 n.keys:=by unfold place index;rw[if_pos h]
  have hg:get n k=lk n.keys n.kids k:=if_pos h;unfold aJ aD;rw[hg,hp];rcases arS n.keys n.kids k 0 (hf.2 h)with⟨h1,h2⟩ | ⟨j,hj,h1,h2⟩
  ·rw[h1,h2];rfl
  ·rw[h1,h2,aeC,dF (by omega),cond_false,d0,zl hj,adM,cond_true,gd n.kids _ j hj];rfl
 ·have hp:place n k = -1:=by unfold place;rw[if_neg h]
  have hg:get n k=none:=if_neg h;unfold aJ aD;rw[hg,hp];rfl
def Ms(f:Node->Node->Bool):List Node->List Node->Bool
 | [],[]=>true
 | a::s,b::t=>f a b&&Ms f s t
 | _,_=>false
def same:Nat->Node->Node->Bool
 | 0,_,_=>false
 | n+1,a,b=>a.kind==b.kind&&(a.text==b.text&&(a.keys==b.keys&&Ms (same n) a.kids b.kids))
def dp:Nat->Node->Bool
 | 0,_=>false
 | n+1,x=>decide (x.keys.length<=1000000)&&decide (x.kids.length<=1000000)&&x.kids.all (dp n)
theorem KL{n:Nat}{x:Node}:dp (n+1) x=true↔(x.keys.length<=1000000/\x.kids.length<=1000000)/\∀y∈x.kids,dp n y=true:=by simp only[dp,abj,adB,ahn]
def Oo(n:Nat)(a b:Node):Bool:=dp n a&&dp n b
theorem ad4{f:Node->Node->Bool}:∀{a b:List Node},a.length≠b.length->Ms f a b=false
 | [],[],h=>absurd rfl h
 | a::s,b::t,h=>by unfold Ms;rw[ad4 (a:=s) (b:=t) (by simpa using h),ajK]
 | [],_::_,_=>rfl
 | _::_,[],_=>rfl
def wf(B:Nat):Nat->Node->Bool
 | 0,_=>false
 | n+1,x=>decide (x.keys.length<=B)&&decide (x.kids.length<=B)&&(x.kind != 3||decide (x.keys.length=x.kids.length))&&decide (x.text.length<=200)&&x.keys.all (fun k=>decide (k.length<=200))&&x.kids.all (wf B n)
theorem TI{B n:Nat}{x:Node}:wf B (n+1) x=true↔x.keys.length<=B/\x.kids.length<=B/\(x.kind=3->x.keys.length=x.kids.length)/\x.text.length<=200/\(∀k∈x.keys,k.length<=200)/\∀y∈x.kids,wf B n y=true:=by
 simp only[wf,abj,amf,adB,bne_iff_ne,ahn];constructor
 ·rintro⟨⟨⟨⟨⟨h1,h2⟩,h3⟩,h4⟩,h5⟩,h6⟩;exact⟨h1,h2,fun e=>h3.resolve_left (fun h=>h e),h4,h5,h6⟩
 ·rintro⟨h1,h2,h3,h4,h5,h6⟩;refine⟨⟨⟨⟨⟨h1,h2⟩,?_⟩,h4⟩,h5⟩,h6⟩;by_cases e:x.kind=3
  ·exact .inr (h3 e)
  ·exact .inl e
def wg(B:Nat):Nat->Node->Bool
 | 0,_=>false
 | n+1,x=>decide (x.keys.length<=B)&&decide (x.kids.length<=B)&&(x.kind != 3||decide (x.keys.length=x.kids.length))&&x.kids.all (wg B n)
theorem fE{B n:Nat}{x:Node}:wg B (n+1) x=true↔x.keys.length<=B/\x.kids.length<=B/\(x.kind=3->x.keys.length=x.kids.length)/\∀y∈x.kids,wg B n y=true:=by
 simp only[wg,abj,amf,adB,bne_iff_ne,ahn];constructor
 ·rintro⟨⟨⟨h1,h2⟩,h3⟩,h6⟩;exact⟨h1,h2,fun e=>h3.resolve_left (fun h=>h e),h6⟩
 ·rintro⟨h1,h2,h3,h6⟩;refine⟨⟨⟨h1,h2⟩,?_⟩,h6⟩;by_cases e:x.kind=3
  ·exact .inr (h3 e)
  ·exact .inl e
theorem Oq{B n:Nat}{x:Node}(h:wg B (n+1) x=true)(hB:B<=1000000):fit x=true:=by have:=fE.1 h;exact qY.2 ⟨⟨by omega,by omega⟩,this.2.2.1⟩
theorem ape{B:Nat}(hB:B<=1000000):∀{n:Nat} {x:Node},wg B n x=true->dp n x=true
 | 0,_,h=>by cases h
 | n+1,x,h=>by have:=fE.1 h;exact KL.2 ⟨⟨by omega,by omega⟩,fun y hy=>ape hB (this.2.2.2 y hy)⟩
theorem apf{B C:Nat}(hB:B<=C):∀{n:Nat} {x:Node},wg B n x=true->wg C n x=true
 | 0,_,h=>by cases h
 | n+1,x,h=>by have:=fE.1 h;exact fE.2 ⟨by omega,by omega,this.2.2.1,fun y hy=>apf hB (this.2.2.2 y hy)⟩
theorem vK{B:Nat}:∀{n:Nat} {x:Node} (k:Nat),wg B n x=true->wg B (n+k) x=true
 | 0,_,_,h=>by cases h
 | n+1,x,k,h=>by have:=fE.1 h;rw[Nat.add_right_comm];exact fE.2 ⟨this.1,this.2.1,this.2.2.1,fun y hy=>vK k (this.2.2.2 y hy)⟩
theorem awu{B:Nat}:∀{n:Nat} {x:Node},wf B n x=true->wg B n x=true
 | 0,_,h=>by cases h
 | n+1,x,h=>by have:=TI.1 h;exact fE.2 ⟨this.1,this.2.1,this.2.2.1,fun y hy=>awu (this.2.2.2.2.2 y hy)⟩
theorem arU:∀{keys:List (aqO)} {kids:List Node} {k:aqO} {x:Node},lk keys kids k=some x->x∈kids
 | a::t,v::w,k,x,h=>by
  unfold lk at h;split at h
  ·cases h;exact abd
  ·exact abb _ (arU h)
 | [],_,_,_,h=>by cases h
 | _::_,[],_,_,h=>by cases h
theorem VU:∀{keys:List (aqO)} {kids:List Node} {k:aqO},keys.length=kids.length->k∈keys->∃x,lk keys kids k=some x
 | a::t,v::w,k,hl,h=>by
  unfold lk;by_cases e:k=a
  ·exact⟨v,if_pos e⟩
  ·rw[if_neg e];exact VU (by simpa using hl) ((List.mem_cons.1 h).resolve_left e)
 | [],_,_,_,h=>by cases h
 | _::_,[],_,hl,_=>by simp at hl
theorem xB{a:Node}{k:aqO}(h:aD a k=true):aJ a k∈a.kids:=by
 unfold aD at h;unfold aJ;cases hg:get a k with
 | none=>rw[hg]at h;cases h
 | some x =>
  unfold get at hg;split at hg
  ·exact arU hg
  ·cases hg
theorem TK{B n:Nat}{a:Node}{k:aqO}(ha:wg B (n+1) a=true)(h3:a.kind=3)(hk:k∈a.keys):aD a k=true:=by obtain⟨x,hx⟩:=VU ((fE.1 ha).2.2.1 h3) hk;unfold aD get;rw[if_pos h3,hx];rfl
theorem TM{B n:Nat}{a:Node}{k:aqO}(ha:wg B (n+1) a=true)(h:aD a k=true):wg B n (aJ a k)=true:=(fE.1 ha).2.2.2 _ (xB h)
def dx(s:aqO):Node:=⟨1,s,[],[]⟩
noncomputable def ab6:jC E:=EO (E:=E) .str .ah (fun _=>true) dx
def ahN:FuncId:=94
noncomputable def amv:aI E:=jX [] [] [] []
noncomputable def ax3:Hint E:={}
noncomputable def amw(_G:Nat->au E->Option (List (TV E)))(x0:aqO):Option (List (TV E)) :=
 some [⟨.ah,(⟨1,x0,[],[]⟩:Node)⟩]
theorem ax4(G:Nat->au E->Option (List (TV E)))(x0:aqO):jR amv ax3 G Tryz.f94 [⟨.str,x0⟩]=amw G x0:=by kernel_rfl
theorem ax5:Tryz.prog.funcs[94]? = some Tryz.f94:=by kernel_rfl
theorem ax6:(Tryz.f94.name == "runtime.NumGoroutine")=false:=by kernel_rfl
theorem ax7:Tryz.f94.body.isNone=false:=by kernel_rfl
theorem auW:aK E amv:=gq .nil .nil .nil .nil
theorem akD(h:∀(x0:aqO),amw (Gr E Tryz.f94 [⟨.ah,dx x0⟩]) x0=some [⟨.ah,dx x0⟩]):bG E ahN ab6:=zK auW mix ax5 ax6 ax7 (fun x0 _=>(ax4 _ x0).trans (h x0))
theorem auX:bG E ahN ab6:=akD fun _=>rfl
theorem amx(s:aqO):∀(l:List (aqO)) (i:Nat),zM s i l<(i:Int)+(l.length:Int)
 | [],i=>by simp only[zM,List.length_nil];omega
 | a::t,i=>by
  unfold zM;split
  ·simp only[List.length_cons];omega
  ·have:=amx s t (i+1);simp only[List.length_cons];omega
def fU(n:Node)(_:aqO)(_:Node):Bool:=fit ⟨3,[],n.keys,n.kids⟩
def bD(n:Node)(k:aqO)(v:Node):Node:=bif(bif n.kind != 3 then n.kind != 0 else false)then n else bif decide (0<=index n.keys k)then⟨3,[],n.keys,n.kids.set (index n.keys k).toNat v⟩else⟨3,[],n.keys++[k],n.kids++[v]⟩
noncomputable def ab7:jC E:=fn3 (E:=E) .ah .str .ah .ah fU bD
def ahO:FuncId:=38
noncomputable def amy:aI E:=jX [(84,Qp)] [(83,Og 25),(82,Og 9)] [] []
noncomputable def ax8:Hint E:={}
noncomputable def ab8(_G:Nat->au E->Option (List (TV E)))(x0:Node)(x1:aqO)(x2:Node):Option (List (TV E)) :=
 bif(bif(x0.kind != (3:Int))then(x0.kind != (0:Int))else false)then some [⟨.ah,(⟨x0.kind,x0.text,x0.keys,x0.kids⟩:Node)⟩]else(bif(decide (x0.keys.length*16<=aB))then(bif(decide (x0.kids.length*72<=aB))then(bif((fun n _=>fit n) (⟨3,[],x0.keys,x0.kids⟩:Node) x1)then(bif(decide ((0:Int)<=(place ⟨3,[],x0.keys,x0.kids⟩ x1)))then(bif(decide ((0:Int)<=(place ⟨3,[],x0.keys,x0.kids⟩ x1))&&decide ((place ⟨3,[],x0.keys,x0.kids⟩ x1)<(x0.kids.length:Nat)))then some [⟨.ah,(⟨3,[],x0.keys,(List.set x0.kids (Int.toNat (place ⟨3,[],x0.keys,x0.kids⟩ x1)) (⟨x2.kind,x2.text,x2.keys,x2.kids⟩:Node))⟩:Node)⟩]else none)else(bif(decide ((x0.keys.length+([x1]:List (aqO)).length)*16<=aB))then(bif(decide ((x0.kids.length+([(⟨x2.kind,x2.text,x2.keys,x2.kids⟩:Node)]:List Node).length)*72<=aB))then some [⟨.ah,(⟨3,[],(x0.keys++([x1]:List (aqO))),(x0.kids++([(⟨x2.kind,x2.text,x2.keys,x2.kids⟩:Node)]:List Node))⟩:Node)⟩]else none)else none))else none)else none)else none)
theorem ax9(G:Nat->au E->Option (List (TV E)))(x0:Node)(x1:aqO)(x2:Node):jR amy ax8 G Tryz.f38 [⟨.ah,x0⟩,⟨.str,x1⟩,⟨.ah,x2⟩]=ab8 G x0 x1 x2:=by kernel_rfl
theorem aya:Tryz.prog.funcs[38]? = some Tryz.f38:=by kernel_rfl
theorem ayb:(Tryz.f38.name == "runtime.NumGoroutine")=false:=by kernel_rfl
theorem ayc:Tryz.f38.body.isNone=false:=by kernel_rfl
theorem auY:aK E amy:=gq (.cons ad3 .nil) (.cons (GX (T:=23) (b:=4) (e:=25) (fn:=Tryz.f83) (by kernel_rfl) (by kernel_rfl) (by kernel_rfl) (by kernel_rfl) (by kernel_rfl) (by kernel_rfl)) (.cons (GX (T:=22) (b:=4) (e:=9) (fn:=Tryz.f82) (by kernel_rfl) (by kernel_rfl) (by kernel_rfl) (by kernel_rfl) (by kernel_rfl) (by kernel_rfl)) .nil)) .nil .nil
theorem akE(h:∀(x0:Node) (x1:aqO) (x2:Node),fU x0 x1 x2=true->ab8 (Gr E Tryz.f38 [⟨.ah,bD x0 x1 x2⟩]) x0 x1 x2=some [⟨.ah,bD x0 x1 x2⟩]):bG E ahO ab7:=Z0 auY mix aya ayb ayc (fun x0 x1 x2 hk=>(ax9 _ x0 x1 x2).trans (h x0 x1 x2 hk))
theorem auZ:bG E ahO ab7:=akE fun n k v hk=>by
 have hk':fit ⟨3,[],n.keys,n.kids⟩=true:=hk;obtain⟨⟨h1,h2⟩,h3⟩:=qY.1 hk';have h1:n.keys.length<=1000000:=h1;have h2:n.kids.length<=1000000:=h2;have h3:n.keys.length=n.kids.length:=h3 rfl;have ep:place ⟨3,[],n.keys,n.kids⟩ k=index n.keys k:=if_pos rfl;have hlt:index n.keys k<(n.keys.length:Int):=by have:=amx k n.keys 0;unfold index;omega
 have b1:decide (n.keys.length*16<=aB)=true:=dT (by rw[mb];omega);have b2:decide (n.kids.length*72<=aB)=true:=dT (by rw[mb];omega);have b3:decide ((n.keys.length+[k].length)*16<=aB)=true:=dT (by rw[mb,aa8];omega);have b4:decide ((n.kids.length+[v].length)*72<=aB)=true:=dT (by rw[mb,aa8];omega);simp only[ab8,bD,gB,hk',ep,b1,b2,b3,b4,cond_true];cases(bif n.kind != 3 then n.kind != 0 else false)with
 | true=>rfl
 | false =>
  simp only[cond_false];by_cases h0:0<=index n.keys k
  ·rw[dT h0,dT (show index n.keys k<(n.kids.length:Int) by omega)];rfl
  ·rw[dF h0];rfl
def fP:Nat->Node->Node
 | 0,x=>x
 | n+1,x=>bif(x.kids.length:Int)==0 then x else bif x.kind != 3 then⟨x.kind,x.text,[],x.kids.map (fP n)⟩else⟨x.kind,x.text,Pl.bA x.keys,(Pl.bA x.keys).map fun k=>fP n (aJ x k)⟩
noncomputable def oN(n:Nat):jC E:=EO (E:=E) .ah .ah (wg 10000 n) (fP n)
def qV:FuncId:=39
noncomputable def JU(n:Nat):aI E:=jX [(26,Iz),(85,aao),(39,oN n)] [] [] []
noncomputable def Qr:Hint E:={ live:=[(0,[2,3,24,25,26]),(1,[1,2,3,44,45,46])],oC:=[(0,[(3,some 3,true,.ah)]),(1,[(3,some 3,true,.ah)])] }
noncomputable def BQ(v0:List Node)(v1 v2 v3:Int)(v4:aqO)(v5:Int)(v6:aqO)(v7:List Node):au E:=au.mk 65 [(2,.ptr 0 0),(3,.ptr 1 0),(24,.d (.slice .ah v0)),(25,.d (.int .i64 v1)),(26,.d (.int .i64 v2))] [(0,.box [.d (.int .i64 v3),.d (.str v4),.d (.raw (.slice none 0 0)),.d (.raw (.slice none 0 0))]),(1,.box [.d (.int .i64 v5),.d (.str v6),.d (.raw (.slice none 0 0)),.grow .ah v7 2]),(2,.tail true)] 3
noncomputable def BR(v0:List (aqO))(v1 v2 v3:Int)(v4:aqO)(v5:List (aqO))(v6:List Node)(v7:Int)(v8:aqO)(v9:Int)(v10:aqO)(v11:List (aqO))(v12:List Node):au E:=au.mk 65 [(1,.ptr 0 0),(2,.ptr 1 0),(3,.ptr 2 0),(44,.d (.slice .str v0)),(45,.d (.int .i64 v1)),(46,.d (.int .i64 v2))] [(0,.box [.d (.int .i64 v3),.d (.str v4),.d (.slice .str v5),.d (.slice .ah v6)]),(1,.box [.d (.int .i64 v7),.d (.str v8),.d (.raw (.slice none 0 0)),.d (.raw (.slice none 0 0))]),(2,.box [.d (.int .i64 v9),.d (.str v10),.d (.slice .str v11),.grow .ah v12 3]),(3,.tail true)] 4
noncomputable def Qs(_n:Nat)(G:Nat->au E->Option (List (TV E)))(x0:Node):Option (List (TV E)) :=
 bif((x0.kids.length:Int)==(0:Int))then some [⟨.ah,(⟨x0.kind,x0.text,x0.keys,x0.kids⟩:Node)⟩]else(bif(x0.kind != (3:Int))then G 0 (BQ x0.kids (x0.kids.length:Int) 0 0 [] x0.kind x0.text [])else(bif(nL x0.keys)then G 1 (BR (Pl.bA x0.keys) ((Pl.bA x0.keys).length:Int) 0 x0.kind x0.text x0.keys x0.kids 0 [] x0.kind x0.text (Pl.bA x0.keys) [])else none))
theorem apg(n:Nat)(G:Nat->au E->Option (List (TV E)))(x0:Node):jR (JU n) Qr G Tryz.f39 [⟨.ah,x0⟩]=Qs n G x0:=by kernel_rfl
noncomputable def GZ(n:Nat)(G:Nat->au E->Option (List (TV E)))(v0:List Node)(v1 v2 v3:Int)(v4:aqO)(v5:Int)(v6:aqO)(v7:List Node):Option (List (TV E)) :=
 bif(decide (v2<v1))then(bif(decide ((0:Int)<=v2)&&decide (v2<(v0.length:Int)))then(bif((wg 10000 n) (⟨(List.getD v0 (Int.toNat v2) (dflt .ah)).kind,(List.getD v0 (Int.toNat v2) (dflt .ah)).text,(List.getD v0 (Int.toNat v2) (dflt .ah)).keys,(List.getD v0 (Int.toNat v2) (dflt .ah)).kids⟩:Node))then(bif(decide ((v7.length+([((fP n) (⟨(List.getD v0 (Int.toNat v2) (dflt .ah)).kind,(List.getD v0 (Int.toNat v2) (dflt .ah)).text,(List.getD v0 (Int.toNat v2) (dflt .ah)).keys,(List.getD v0 (Int.toNat v2) (dflt .ah)).kids⟩:Node))]:List Node).length)*72<=aB))then G 0 (BQ v0 v1 (ak (v2+(1:Int))) v3 v4 v5 v6 (v7++([((fP n) (⟨(List.getD v0 (Int.toNat v2) (dflt .ah)).kind,(List.getD v0 (Int.toNat v2) (dflt .ah)).text,(List.getD v0 (Int.toNat v2) (dflt .ah)).keys,(List.getD v0 (Int.toNat v2) (dflt .ah)).kids⟩:Node))]:List Node)))else none)else none)else none)else some [⟨.ah,(⟨v5,v6,[],v7⟩:Node)⟩]
theorem akF(n:Nat)(G:Nat->au E->Option (List (TV E)))(v0:List Node)(v1 v2 v3:Int)(v4:aqO)(v5:Int)(v6:aqO)(v7:List Node):uG (JU n) Qr G Tryz.f39 0 (BQ v0 v1 v2 v3 v4 v5 v6 v7)=GZ n G v0 v1 v2 v3 v4 v5 v6 v7:=by kernel_rfl
noncomputable def G5(n:Nat)(G:Nat->au E->Option (List (TV E)))(v0:List (aqO))(v1 v2 v3:Int)(v4:aqO)(v5:List (aqO))(v6:List Node)(v7:Int)(v8:aqO)(v9:Int)(v10:aqO)(v11:List (aqO))(v12:List Node):Option (List (TV E)) :=
 bif(decide (v2<v1))then(bif(decide ((0:Int)<=v2)&&decide (v2<(v0.length:Int)))then(bif((fun n _=>fit n) (⟨v3,v4,v5,v6⟩:Node) (List.getD v0 (Int.toNat v2) (dflt .str)))then(bif((wg 10000 n) (⟨(aJ ⟨v3,v4,v5,v6⟩ (List.getD v0 (Int.toNat v2) (dflt .str))).kind,(aJ ⟨v3,v4,v5,v6⟩ (List.getD v0 (Int.toNat v2) (dflt .str))).text,(aJ ⟨v3,v4,v5,v6⟩ (List.getD v0 (Int.toNat v2) (dflt .str))).keys,(aJ ⟨v3,v4,v5,v6⟩ (List.getD v0 (Int.toNat v2) (dflt .str))).kids⟩:Node))then(bif(decide ((v12.length+([((fP n) (⟨(aJ ⟨v3,v4,v5,v6⟩ (List.getD v0 (Int.toNat v2) (dflt .str))).kind,(aJ ⟨v3,v4,v5,v6⟩ (List.getD v0 (Int.toNat v2) (dflt .str))).text,(aJ ⟨v3,v4,v5,v6⟩ (List.getD v0 (Int.toNat v2) (dflt .str))).keys,(aJ ⟨v3,v4,v5,v6⟩ (List.getD v0 (Int.toNat v2) (dflt .str))).kids⟩:Node))]:List Node).length)*72<=aB))then G 1 (BR v0 v1 (ak (v2+(1:Int))) v3 v4 v5 v6 v7 v8 v9 v10 v11 (v12++([((fP n) (⟨(aJ ⟨v3,v4,v5,v6⟩ (List.getD v0 (Int.toNat v2) (dflt .str))).kind,(aJ ⟨v3,v4,v5,v6⟩ (List.getD v0 (Int.toNat v2) (dflt .str))).text,(aJ ⟨v3,v4,v5,v6⟩ (List.getD v0 (Int.toNat v2) (dflt .str))).keys,(aJ ⟨v3,v4,v5,v6⟩ (List.getD v0 (Int.toNat v2) (dflt .str))).kids⟩:Node))]:List Node)))else none)else none)else none)else none)else some [⟨.ah,(⟨v9,v10,v11,v12⟩:Node)⟩]
theorem akG(n:Nat)(G:Nat->au E->Option (List (TV E)))(v0:List (aqO))(v1 v2 v3:Int)(v4:aqO)(v5:List (aqO))(v6:List Node)(v7:Int)(v8:aqO)(v9:Int)(v10:aqO)(v11:List (aqO))(v12:List Node):uG (JU n) Qr G Tryz.f39 1 (BR v0 v1 v2 v3 v4 v5 v6 v7 v8 v9 v10 v11 v12)=G5 n G v0 v1 v2 v3 v4 v5 v6 v7 v8 v9 v10 v11 v12:=by kernel_rfl
theorem aap:Tryz.prog.funcs[39]? = some Tryz.f39:=by kernel_rfl
theorem aaq:(Tryz.f39.name == "runtime.NumGoroutine")=false:=by kernel_rfl
theorem aar:Tryz.f39.body.isNone=false:=by kernel_rfl
theorem akH:∃fn,Tryz.prog.funcs[39]? = some fn/\(fn.name == "runtime.NumGoroutine")=false/\fn.body.isNone=false:=⟨Tryz.f39,aap,aaq,aar⟩
theorem M4(n:Nat)(ih:bG E qV (oN n)):aK E (JU n):=gq (.cons Qn (.cons amu (.cons ih .nil))) .nil .nil .nil
theorem Xb(n:Nat)(ih:bG E qV (oN n)){res:List (TV E)}{v0:List Node}{v1 v2 v3:Int}{v4:aqO}{v5:Int}{v6:aqO}{v7:List Node}(h:GZ n (Gr E Tryz.f39 res) v0 v1 v2 v3 v4 v5 v6 v7=some res):Ev E Tryz.f39 res 0 (BQ v0 v1 v2 v3 v4 v5 v6 v7):=Ev.step (M4 n ih) mix ((akF n _ v0 v1 v2 v3 v4 v5 v6 v7).trans h)
theorem Xc(n:Nat)(ih:bG E qV (oN n)){res:List (TV E)}{v0:List (aqO)}{v1 v2 v3:Int}{v4:aqO}{v5:List (aqO)}{v6:List Node}{v7:Int}{v8:aqO}{v9:Int}{v10:aqO}{v11:List (aqO)}{v12:List Node}(h:G5 n (Gr E Tryz.f39 res) v0 v1 v2 v3 v4 v5 v6 v7 v8 v9 v10 v11 v12=some res):Ev E Tryz.f39 res 1 (BR v0 v1 v2 v3 v4 v5 v6 v7 v8 v9 v10 v11 v12):=Ev.step (M4 n ih) mix ((akG n _ v0 v1 v2 v3 v4 v5 v6 v7 v8 v9 v10 v11 v12).trans h)
theorem ab9(n:Nat)(ih:bG E qV (oN n))(h:∀(x0:Node),(wg 10000 (n+1)) x0=true->Qs n (Gr E Tryz.f39 [⟨.ah,(fP (n+1)) x0⟩]) x0=some [⟨.ah,(fP (n+1)) x0⟩]):bG E qV (oN (n+1)):=zK (M4 n ih) mix aap aaq aar (fun x0 hk=>(apg n _ x0).trans (h x0 hk))
theorem aph(n:Nat)(ih:bG E qV (oN n))(x:Node)(hx:wg 10000 (n+1) x=true)(h3:x.kind=3)(ks:List (aqO))(hks:ks.length<=10000)(hm:∀k∈ks,k∈x.keys)(u0:Int)(u1:aqO)(v0:Int)(v1:aqO)(v2:List (aqO)) :
  ∀(m i:Nat) (ov:List Node),ks.length-i=m->i<=ks.length->ov.length=i ->
   Ev E Tryz.f39 [⟨.ah,(⟨v0,v1,v2,ov++(ks.drop i).map fun k=>fP n (aJ x k)⟩:Node)⟩] 1 (BR ks ks.length i x.kind x.text x.keys x.kids u0 u1 v0 v1 v2 ov):=by
 have fx:=Oq hx (by decide);intro m
 induction m with
 | zero =>intro i ov h1 h2 h4;refine Xc n ih ?_;simp only[G5,Iy (show ks.length<=i by omega),cond_false,aa9 (show ks.length<=i by omega),aeb,aib]
 | succ m ih2 =>
  intro i ov h1 h2 h4;have hi:i<ks.length:=by omega
  have e2:∀v:Node,decide ((ov.length+[v].length)*72<=aB)=true:=fun v=>dT (by rw[mb,aa8];omega)
  have e3:ak ((i:Int)+1)=((i+1:Nat):Int):=by rw[aV (by omega) (by omega)];omega
  have hw:wg 10000 n (aJ x ks[i])=true:=TM hx (TK hx h3 (hm _ (aee hi)));refine Xc n ih ?_;simp only[G5,zl hi,d0,gd ks _ i hi,adM,cond_true,gB,fx,hw,e2,e3];have:=gG (ih2 (i+1) (ov++[fP n (aJ x ks[i])]) (by omega) (by omega) (by simp[h4]));rw[<- abl hi,aeH];rw[abt]at this;exact this
theorem apj(n:Nat)(ih:bG E qV (oN n))(l:List Node)(hl:l.length<=10000)(hw:∀y∈l,wg 10000 n y=true)(u0:Int)(u1:aqO)(v0:Int)(v1:aqO) :
  ∀(m i:Nat) (ov:List Node),l.length-i=m->i<=l.length->ov.length=i ->
   Ev E Tryz.f39 [⟨.ah,(⟨v0,v1,[],ov++(l.drop i).map (fP n)⟩:Node)⟩] 0 (BQ l l.length i u0 u1 v0 v1 ov):=by
 intro m
 induction m with
 | zero =>intro i ov h1 h2 h4;refine Xb n ih ?_;simp only[GZ,Iy (show l.length<=i by omega),cond_false,aa9 (show l.length<=i by omega),aeb,aib]
 | succ m ih2 =>
  intro i ov h1 h2 h4;have hi:i<l.length:=by omega
  have e2:∀v:Node,decide ((ov.length+[v].length)*72<=aB)=true:=fun v=>dT (by rw[mb,aa8];omega)
  have e3:ak ((i:Int)+1)=((i+1:Nat):Int):=by rw[aV (by omega) (by omega)];omega
  refine Xb n ih ?_;simp only[GZ,zl hi,d0,gd l _ i hi,adM,cond_true,gB,hw _ (aee hi),e2,e3];have:=gG (ih2 (i+1) (ov++[fP n l[i]]) (by omega) (by omega) (by simp[h4]));rw[<- abl hi,aeH];rw[abt]at this;exact this
theorem akI(n:Nat):bG E qV (oN n):=by
 induction n with
 | zero=>exact abV akH fun x=>rfl
 | succ n ih =>
  refine ab9 n ih fun x hk=>?_
  have hw:=fE.1 hk;have h6:nL x.keys=true:=sW.2 (by omega);simp only[Qs,fP,gB,h6,cond_true];by_cases h0:(x.kids.length:Int)=0
  ·rw[iU h0];rfl
  ·rw[eT h0,cond_false,cond_false];by_cases h3:x.kind=3
   ·rw[nK h3,cond_false,cond_false];have hs:=Pl.tZ x.keys;have:=gG (aph n ih x hk h3 (Pl.bA x.keys) (by omega) (fun k hk=>Pl.jN.1 hk) 0 [] x.kind x.text (Pl.bA x.keys) _ 0 [] rfl (aaG _) rfl);rw[aed]at this;exact this
   ·rw[kr h3,cond_true,cond_true];have:=gG (apj n ih x.kids hw.2.1 hw.2.2.2 0 [] x.kind x.text _ 0 [] rfl (aaG _) rfl);rw[aed]at this;exact this
def acd(l:List (aqO))(sep:aqO):Bool:=decide (l.length<=1000000)&&decide ((Lib.join l sep).length<=1000000000)
noncomputable def amA:jC E:=Ir (E:=E) .cu .str .str acd Lib.join
def au0:FuncId:=145
theorem au1:bG E au0 amA:=ab5 ⟨Tryz.f145,by kernel_rfl,by kernel_rfl,by kernel_rfl⟩ fun l sep hk=>by
 simp only[acd,abj,adB]at hk;obtain⟨k1,k2⟩:=hk;intro w ro vals hargs kH
 match vals,hargs with
 | [u,v],⟨h1,h2,_⟩ =>
  rw[KJ h2];have hd:dO E w ro u (.slice .str l):=by
   rcases h1 with⟨ha,_⟩ | ⟨_,d,hd,hr⟩
   ·cases ha
   ·have hd:([.slice .str l]:List (bC E.Den))=[d]:=hd;injection hd with hd _
    subst hd;exact hr
  have none_:∀(a:Option Addr) (c:Nat),l=[]->Calls Tryz.prog 145 [.slice a 0 c,.string ⟨sep.toArray⟩].toArray w fun e w'=>∃v,e = .returned v/\Below w.heap.size w w'/\pQ E w' (fun k o=>ro k o\/(w.heap.size<=k/\k<w'.heap.size)) v [⟨.str,Lib.join l sep⟩]:=fun a c hl=>by
   subst hl;refine(Tryz.strings_Join_none a c ⟨sep.toArray⟩ w).mono fun e w' he=>?_
   obtain⟨he,rfl⟩:=he;exact⟨_,he,Below.refl _ _,.inr ⟨rfl,.str [],rfl,.str []⟩⟩
  obtain⟨ad,cap,rfl,hs⟩:=hd.qU;rcases hs with rfl | ⟨g,off,rfl,hc,f,f1,f2⟩
  ·exact none_ _ _ rfl
  ·cases l with
   | nil=>exact none_ _ _ rfl
   | cons x0 t =>
    have hcell:∀(i:Nat) x,(x0::t)[i]? = some x->ro g (off+i)/\w.cell? ⟨g,off+i,none⟩=some (.string ⟨x.toArray⟩):=fun i x hx=>by
     have g1:=f1 i x 0 (.str x) hx rfl;have g2:=f2 i x 0 (.str x) hx rfl;have e1:f i 0 = .string ⟨x.toArray⟩:=by generalize f i 0=u at g2;cases g2;rfl
     rw[show E.size .str=1 from rfl,agD,ai4,e1]at g1;exact g1
    have hmap:(((x0::t).map fun x=>(⟨x.toArray⟩:ByteArray)).map (·.data.toList))=x0::t:=by
     rw[List.map_map]
     conv=>rhs;rw[<- List.map_id (x0::t)]
     exact ajr fun y _=>by simp
    have hj:=Tryz.strings_Join g off cap ((x0::t).map fun x=>⟨x.toArray⟩) ⟨sep.toArray⟩ w (fun j x hx=>by
     rw[adT]at hx;cases hq:(x0::t)[j]? with
     | none=>rw[hq]at hx;cases hx
     | some y=>rw[hq]at hx;cases hx;exact(hcell j y hq).2) (kH g _ (hcell 0 x0 rfl).1) (by rw[List.length_map];omega) (by rw[List.length_map];exact hc) (by rw[hmap];show(Lib.join (x0::t) sep).length<=_;omega)
    rw[hmap,List.length_map]at hj;refine hj.mono fun e w' he=>?_
    obtain⟨he,hb⟩:=he;exact⟨_,he,hb,.inr ⟨rfl,.str (Lib.join (x0::t) sep),rfl,.str _⟩⟩
theorem aCc{w:World}{ro:Nat->Nat->Prop}{u:Value}{x:Int}(h:uF E w ro u .byte x):u = .int .u8 x:=by
 rcases h with⟨ha,_⟩ | ⟨_,d,hd,hr⟩
 ·cases ha
 ·have hd:([.int .u8 x]:List (bC E.Den))=[d]:=hd;injection hd with hd _
  subst hd;cases hr;rfl
def Gl(s:aqO)(c:Int):Int:=Lib.indexByte s c.toNat.toUInt8
noncomputable def amB:jC E:=Ir (E:=E) .str .byte .int (fun _ _=>true) Gl
def au2:FuncId:=148
theorem au3:bG E au2 amB:=ab5 ⟨Tryz.f148,by kernel_rfl,by kernel_rfl,by kernel_rfl⟩ fun s c _=>by
 intro w ro vals hargs kH
 match vals,hargs with
 | [u,v],⟨h1,h2,_⟩ =>
  rw[KJ h1,aCc h2];refine(Tryz.strings_IndexByte ⟨s.toArray⟩ c w).mono fun e w' he=>?_
  obtain⟨he,rfl⟩:=he;exact⟨_,he,Below.refl _ _,.inr ⟨rfl,.int .i64 (Gl s c),rfl,.int .i64 _⟩⟩
def qF(c:UInt8)(new:aqO):aqO->aqO
 | []=>[]
 | b::t=>if b==c then new++qF c new t else b::qF c new t
theorem IB(c:UInt8)(new:aqO)(b:UInt8)(t:aqO):qF c new (b::t)=if b==c then new++qF c new t else b::qF c new t:=rfl
theorem TN(c b:UInt8)(t:aqO):Lib.countByte (b::t) c=Lib.countByte t c+if b==c then 1 else 0:=List.count_cons
theorem ace(c:UInt8)(new:aqO):∀t:aqO,Lib.countByte t c=0->qF c new t=t
 | [],_=>rfl
 | b::t,h=>by
  rw[TN]at h;rw[IB];by_cases hb:(b==c)=true
  ·rw[if_pos hb]at h;omega
  ·rw[if_neg hb]at h ⊢;rw[ace c new t h]
theorem ahP(c:UInt8)(new:aqO):∀(t:aqO) (g:Nat),Lib.countByte t c=g+1 ->
  ∃j:Nat,Lib.indexByte t c=j/\j<t.length/\Lib.countByte (t.drop (j+1)) c=g/\qF c new t=t.take j++new++qF c new (t.drop (j+1))
 | [],g,h=>by cases h
 | b::t,g,h=>by
  rw[TN]at h;rw[IB];by_cases hb:(b==c)=true
  ·rw[if_pos hb]at h;exact⟨0,by unfold Lib.indexByte;rw[if_pos hb];rfl,by simp,by show Lib.countByte t c=g;omega,by rw[if_pos hb];rfl⟩
  ·rw[if_neg hb]at h;obtain⟨j,h1,h2,h3,h4⟩:=ahP c new t g h;refine⟨j+1,?_,by simp only[List.length_cons];omega,h3,?_⟩
   ·unfold Lib.indexByte;rw[if_neg hb,h1,if_neg (by simp)];rfl
   ·rw[if_neg hb,h4];rfl
theorem ahQ(c:UInt8)(new:aqO):∀t:aqO,(qF c new t).length<=t.length+Lib.countByte t c*new.length
 | []=>aaG _
 | b::t=>by
  have ih:=ahQ c new t;rw[IB,TN];by_cases hb:(b==c)=true
  ·rw[if_pos hb,if_pos hb,List.length_append,List.length_cons,Nat.add_mul,Nat.one_mul];omega
  ·rw[if_neg hb,if_neg hb,ai4,List.length_cons,List.length_cons];omega
section
open Go.Shelf Go.Lib
variable {P:Program} {ρ:Ren}
set_option maxHeartbeats 16000000 in
set_option maxRecDepth 1000000 in
theorem au4(L:Lays.n154 P ρ)(X:Builder.Extra P ρ)(s new:ByteArray)(c:UInt8)(w:World)(hs:s.size<=1000000)(hn:new.size<=1000)(hne:(⟨#[c]⟩:ByteArray)≠new) :
  Calls P (ρ.f 154) #[.string s,.string ⟨#[c]⟩,.string new,.int .i64 (-1)] w fun e w'=>e = .returned (.string ⟨(qF c new.data.toList s.data.toList).toArray⟩)/\Below w.heap.size w w':=by
 obtain⟨old,hold⟩:∃o:ByteArray,o=⟨#[c]⟩:=⟨_,rfl⟩
 have hC:=Any.strings_Count_one { L with } s c w;rw[<- hold]at hC hne ⊢;have ho1:old.size=1:=by rw[hold];rfl
 obtain⟨K,hK⟩:∃K:Nat,Lib.countByte s.data.toList c=K:=⟨_,rfl⟩
 have hlenL:s.data.toList.length=s.size:=(Lib.size_eq s).symm;have hKs:K<=s.size:=by rw[<- hK,<- hlenL];exact List.count_le_length
 have hmul:K*new.size<=K*1000:=Nat.mul_le_mul_left K hn;rw[hK]at hC;have hbeq:(old.toList==new.toList)=false:=(Lib.bytes_beq_false_iff _ new).2 hne;have HO:=Any.hidR hold;clear hold hne;have t72:=L.t72;have a72:=L.a72;have z72:=L.z72;have v72:=L.v72;have u72:=run_underlying L.t72;have t70:=L.t70;have a70:=L.a70;have z70:=L.z70;have v70:=L.v70;have u70:=run_underlying L.t70;have t37:=L.t37;have a37:=L.a37;have z37:=L.z37;have v37:=L.v37;have u37:=run_underlying L.t37;have t3:=L.t3;have a3:=L.a3;have z3:=L.z3;have v3:=L.v3;have u3:=run_underlying L.t3;have t9:=L.t9;have a9:=L.a9;have z9:=L.z9;have v9:=L.v9;have u9:=run_underlying L.t9;have t4:=L.t4;have a4:=L.a4;have z4:=L.z4;have v4:=L.v4;have u4:=run_underlying L.t4;have e138:∀args w,(callFunc (ρ.f 138) args).run P w = .ok (.enter (ρ.f 138) args) w:=enters_of L.f138 (by kernel_rfl) rfl;by_cases hK0:K=0
 ·subst hK0;have hR:qF c new.data.toList s.data.toList=s.data.toList:=ace c _ _ hK;clear hK hmul hKs
  go_enter L.f154,Body.n154_ntmps ρ
  go_wp2_with (first | (go_at_fn (ρ.f 138);refine hC.mono ?_;rintro e w' ⟨rfl,hw⟩;rw[hw]))
  go_ret
  rw[hR,Lib.mk_data];exact⟨rfl,Below.refl _ _⟩
 ·have hcz:((K:Int)==0)=false:=agA.2 (by omega);have mixed:=L.mixed;have hga:=Lib.grow_arg s.size K new.size 1 (by omega) (by omega) (by omega);have e143:∀args w,(callFunc (ρ.f 143) args).run P w = .ok (.enter (ρ.f 143) args) w:=enters_of L.f143 (by kernel_rfl) rfl;have e165:∀args w,(callFunc (ρ.f 165) args).run P w = .ok (.enter (ρ.f 165) args) w:=enters_of L.f165 (by kernel_rfl) rfl;have e166:∀args w,(callFunc (ρ.f 166) args).run P w = .ok (.enter (ρ.f 166) args) w:=enters_of L.f166 (by kernel_rfl) rfl;have e169:∀args w,(callFunc (ρ.f 169) args).run P w = .ok (.enter (ρ.f 169) args) w:=enters_of L.f169 (by kernel_rfl) rfl;have HK:=Any.hidR hK;clear hK hK0
  go_enter L.f154,Body.n154_ntmps ρ
  go_wp2_with (first | (go_at_fn (ρ.f 138);refine hC.mono ?_;rintro e w' ⟨rfl,hw⟩;rw[hw]))
  clear hC;have hgb:(0:Int)<=(new.size:Int)/\(new.size:Int)<=1000:=by omega
  have aAr:wrap64 ((s.size:Int)+wrap64 ((K:Int)*((new.size:Int)-1)))=((s.size+K*new.size-K:Nat):Int):=by rw[show((1:Nat):Int)=1 from rfl,IntWalk.wrap64_in ((new.size:Int)-1) ⟨by omega,by omega⟩,agD]at hga;exact hga
  rw[aAr];clear hga aAr hgb;refine(Any.Builder_Grow_fresh { L with } X w.heap.size w.heap.size _ _ (abn _) (heap_alloc_new w _) (by simp) (by omega)).mono ?_;rintro e w1 ⟨rfl,hb0,hb1⟩;have A0:=Any.hidR (Or.inr hb0:Lib.IsBuilder (ρ.t 72) (ρ.t 5) w.heap.size w.heap.size (Lib.byteCells []) w1);have B0:=Any.hidR (((Below.refl w.heap.size w).alloc (abn _) _).trans hb1);have I0:=Any.hidR (aei (qF c new.data.toList s.data.toList));clear hb0 hb1
  go_wp2_with fail
  go_loopg [11,53] K (fun left p11 p53 wx=>∃(i from_:Nat) (done:aqO),p53 = .int .i64 i/\p11 = .int .i64 from_/\i+left=K/\from_<=s.size/\done.length<=from_+i*1000 /\
   Hid (Lib.countByte (s.data.toList.drop from_) c=left)/\Hid (Lib.IsBuilder (ρ.t 72) (ρ.t 5) w.heap.size w.heap.size (Lib.byteCells done) wx)/\Hid (Below w.heap.size w wx) /\
   Hid (done++qF c new.data.toList (s.data.toList.drop from_)=qF c new.data.toList s.data.toList))
  case atStart=>exact⟨0,0,[],rfl,rfl,by omega,aaG _,aaG _,HK,A0,B0,I0⟩
  case round =>
   obtain⟨i,from_,done,rfl,rfl,q1,q2,q3,CT,BD,BW,RP⟩:=hrel;have hBw:w.heap.size<=wr.heap.size:=BW.out.size;have c1:(0:Int)<=(from_:Int):=by omega
   have c2:(from_:Int)<=(s.size:Int):=by omega
   cases gk with
   | zero =>
    have hiK:¬ ((i:Int)<(K:Int)):=by omega
    go_wp2_with fail
    refine(Any.Builder_WriteString { L with } X w.heap.size w.heap.size _ _ wr BD.out (by rw[Lib.byteCells_length,ByteArray.size_extract];omega) hBw).mono ?_;rintro e w3 ⟨rfl,h3,hb3⟩;have hR:done++s.data.toList.drop from_=qF c new.data.toList s.data.toList:=by have:=RP.out;rw[ace c _ _ CT.out]at this;exact this
    rw[Lib.strCells_eq,Lib.extract_to_end,<- Lib.byteCells_append,hR]at h3;have A3:=Any.hidR (Or.inr h3:Lib.IsBuilder (ρ.t 72) (ρ.t 5) w.heap.size w.heap.size _ w3);have B3:=Any.hidR (BW.out.trans hb3);have hBw3:w.heap.size<=w3.heap.size:=B3.out.size;clear h3 hb3 hR
    go_wp2_with fail
    refine(Any.Builder_String_any { L with } X w.heap.size w.heap.size _ w3 A3.out hBw3).mono ?_;rintro e w5 ⟨rfl,hb5⟩;have B5:=Any.hidR (B3.out.trans hb5);clear hb5
    go_wp2
    go_ret
    exact⟨rfl,B5.out⟩
   | succ left =>
    have hiK:(i:Int)<(K:Int):=by omega
    obtain⟨j,j1,j2,j3,j4⟩:=ahP c new.data.toList _ left CT.out;rw[adH,hlenL]at j2;have c3:(from_:Int)<=(from_:Int)+(j:Int):=by omega
    have c4:(from_:Int)+(j:Int)<=(s.size:Int):=by omega
    have N3:=Any.hidR (show Lib.countByte (s.data.toList.drop (from_+j+1)) c=left by rw[ama]at j3;exact j3);have N4:=Any.hidR (show(done++(s.data.toList.drop from_).take j++new.data.toList)++qF c new.data.toList (s.data.toList.drop (from_+j+1))=qF c new.data.toList s.data.toList by rw[<- RP.out,j4,ama];simp only[abt,al3])
    have N5:=Any.hidR (show Lib.byteCells done++Lib.strCells (s.extract from_ (from_+j))++Lib.strCells new=Lib.byteCells (done++(s.data.toList.drop from_).take j++new.data.toList) by rw[Lib.strCells_eq,Lib.strCells_eq,Lib.extract_data,Nat.add_sub_cancel_left,<- Lib.byteCells_append,<- Lib.byteCells_append])
    have N6:(done++(s.data.toList.drop from_).take j++new.data.toList).length<=from_+j+1+(i+1)*1000:=by
     have e1:((s.data.toList.drop from_).take j).length<=j:=by rw[ad6];omega
     have e2:new.data.toList.length<=1000:=by rw[<- Lib.size_eq];exact hn
     rw[List.length_append,List.length_append];omega
    have J1:=Any.hidR (show ∀w:World,Calls P (ρ.f 143) #[.string (s.extract from_ s.size),.string old] w fun e w'=>e = .returned (.int .i64 j)/\w'=w from fun w=>by rw[HO.out];have:=Any.strings_Index_one (P:=P) (ρ:=ρ) { L with } (s.extract from_ s.size) c w;rw[Lib.extract_to_end,j1]at this;exact this)
    clear j1 j3 j4 RP CT
    go_wp2_with (first | (go_at_fn (ρ.f 143);refine(J1.out _).mono ?_;rintro e w' ⟨rfl,hw⟩;rw[hw]))
    refine(Any.Builder_WriteString { L with } X w.heap.size w.heap.size _ (s.extract from_ (from_+j)) wr BD.out (by rw[Lib.byteCells_length,ByteArray.size_extract];omega) hBw).mono ?_;rintro e w3 ⟨rfl,h3,hb3⟩;have hBw3:w.heap.size<=w3.heap.size:=Nat.le_trans hBw hb3.size;have A3:=Any.hidR h3;have B3:=Any.hidR hb3;clear h3 hb3
    go_wp2_with fail
    refine(Any.Builder_WriteString { L with } X w.heap.size w.heap.size _ new w3 (Or.inr A3.out) (by rw[List.length_append,Lib.byteCells_length,Lib.strCells_length,ByteArray.size_extract];omega) hBw3).mono ?_;rintro e w4 ⟨rfl,h4,hb4⟩;rw[N5.out]at h4;have A4:=Any.hidR (Or.inr h4:Lib.IsBuilder (ρ.t 72) (ρ.t 5) w.heap.size w.heap.size _ w4);have B4:=Any.hidR ((BW.out.trans B3.out).trans hb4);clear h4 hb4
    go_wp2
    go_roundg left
    case measure=>omega
    case rel=>exact⟨i+1,from_+j+1,_,by first | rfl | (simp;unfold wrap64;omega),by first | rfl | simp | (simp;unfold wrap64;omega),by omega,by omega,N6,N3,A4,B4,N4⟩
end
theorem ayd {f:FuncId} {a b c d t:E.Ty} {ok:E.Den a->E.Den b->E.Den c->E.Den d->Bool} {F:E.Den a->E.Den b->E.Den c->E.Den d->E.Den t} (ex:∃fn,Tryz.prog.funcs[f]? = some fn/\(fn.name == "runtime.NumGoroutine")=false/\fn.body.isNone=false) (h:∀x y z u,ok x y z u=true->DW E f [⟨a,x⟩,⟨b,y⟩,⟨c,z⟩,⟨d,u⟩] [⟨t,F x y z u⟩]):bG E f (fn4 a b c d t ok F) :=
 ⟨ex,fun args r hr=>by
  unfold fn4 at hr;split at hr
  ·split at hr
   ·rename_i x y z u hx hy hz hu;injection hr with hr
    injection hr with h1 h2
    subst h2;rw[iC hx,iC hy,iC hz,iC hu];exact h _ _ _ _ h1
   ·cases hr
  ·cases hr⟩
def TP(s old new:aqO)(n:Int):Bool:=decide (s.length<=1000000)&&decide (old.length=1)&&decide (new.length<=1000)&&(n == -1) && !(old==new)
def Xd(s old new:aqO)(_:Int):aqO:=qF (old.headD 0) new s
noncomputable def amC:jC E:=fn4 (E:=E) .str .str .str .int .str TP Xd
def au5:FuncId:=229
theorem au6:bG E au5 amC:=ayd ⟨Tryz.f229,by kernel_rfl,by kernel_rfl,by kernel_rfl⟩ fun s old new n hk=>by
 simp only[TP,abj,adB,beq_iff_eq,ajC,agA]at hk;obtain⟨⟨⟨⟨h1,h2⟩,h3⟩,rfl⟩,h5⟩:=hk;obtain⟨c,rfl⟩:∃c,old=[c]:=by
  match old,h2 with
  | [c],_=>exact⟨c,rfl⟩
 intro w ro vals hargs kH
 match vals,hargs with
 | [v1,v2,v3,v4],⟨q1,q2,q3,q4,_⟩ =>
  rw[KJ q1,KJ q2,KJ q3,ahF q4];refine(au4 Tryz.lays154 Tryz.Builder_Extra_154 ⟨s.toArray⟩ ⟨new.toArray⟩ c w (by simpa[ByteArray.size]using h1) (by simpa[ByteArray.size]using h3) (fun e=>h5 (by have:=congrArg (fun b:ByteArray=>b.data.toList) e;simpa using this))).mono fun e w' he=>?_
  obtain⟨he,hb⟩:=he;refine⟨_,he,hb,.inr ⟨rfl,.str (qF c new s),rfl,?_⟩⟩;exact .str _
noncomputable def acf:jC E:=fn3 (E:=E) .str .str .str .str (fun s old new=>TP s old new (-1)) (fun s old new=>Xd s old new (-1))
def ahR:FuncId:=202
noncomputable def amD:aI E:=jX [(229,amC)] [] [] []
noncomputable def aye:Hint E:={}
noncomputable def acg(_G:Nat->au E->Option (List (TV E)))(x0 x1 x2:aqO):Option (List (TV E)) :=
 bif(TP x0 x1 x2 (-1))then some [⟨.str,(Xd x0 x1 x2 (-1))⟩]else none
theorem ayf(G:Nat->au E->Option (List (TV E)))(x0 x1 x2:aqO):jR amD aye G Tryz.f202 [⟨.str,x0⟩,⟨.str,x1⟩,⟨.str,x2⟩]=acg G x0 x1 x2:=by kernel_rfl
theorem ayg:Tryz.prog.funcs[202]? = some Tryz.f202:=by kernel_rfl
theorem ayh:(Tryz.f202.name == "runtime.NumGoroutine")=false:=by kernel_rfl
theorem ayi:Tryz.f202.body.isNone=false:=by kernel_rfl
theorem au7:aK E amD:=gq (.cons au6 .nil) .nil .nil .nil
theorem akJ(h:∀(x0:aqO) (x1:aqO) (x2:aqO),(fun s old new=>TP s old new (-1)) x0 x1 x2=true->acg (Gr E Tryz.f202 [⟨.str,(fun s old new=>Xd s old new (-1)) x0 x1 x2⟩]) x0 x1 x2=some [⟨.str,(fun s old new=>Xd s old new (-1)) x0 x1 x2⟩]):bG E ahR acf:=Z0 au7 mix ayg ayh ayi (fun x0 x1 x2 hk=>(ayf _ x0 x1 x2).trans (h x0 x1 x2 hk))
theorem au8:bG E ahR acf:=akJ fun s old new hk=>by simp only[acg,hk,cond_true]
def Qt(s p:aqO)(a b:Int):Bool:=decide (s.length<=1000000)&&decide (p.length=1)&&(a==0)&&(b == -1)
def d9(s p:aqO)(_ _:Int):List (aqO):=Lib.split s p
def Yj:WT E
 | [a,b,c,d]=>match kJ (E:=E) Ty.str a,kJ (E:=E) Ty.str b,kJ (E:=E) Ty.int c,kJ (E:=E) Ty.int d with
  | some s,some p,some m,some n=>some (Qt s p m n,⟨Ty.str,d9 s p m n⟩)
  | _,_,_,_=>none
 | _=>none
theorem apk:Od E 197 Yj:=⟨⟨Tryz.f197,by kernel_rfl,by kernel_rfl,by kernel_rfl⟩,fun args t l hF=>by
 unfold Yj at hF;split at hF
 ·rename_i a b c d;split at hF
  ·rename_i s p m n ha hb hc hd;injection hF with hF
   injection hF with hok hF
   cases hF;rw[iC ha,iC hb,iC hc,iC hd];simp only[Qt,abj,adB,beq_iff_eq]at hok;obtain⟨⟨⟨hs,hp⟩,rfl⟩,rfl⟩:=hok;obtain⟨c,rfl⟩:∃c,p=[c]:=by
    match p,hp with
    | [c],_=>exact⟨c,rfl⟩
   intro w ro vals hargs kH
   match vals,hargs with
   | [v1,v2,v3,v4],⟨h1,h2,h3,h4,_⟩ =>
    rw[KJ h1,KJ h2,ahF h3,ahF h4];have hp1:1<=(⟨#[c]⟩:ByteArray).size:=abn 1;have hle:=Lib.countB_le ⟨#[c]⟩ hp1 _ ⟨s.toArray⟩ (abn _);have hsz:(⟨s.toArray⟩:ByteArray).size=s.length:=by simp[ByteArray.size]
    have hix:∀x:ByteArray,Lib.indexB x ⟨#[c]⟩=Lib.indexByte x.data.toList c:=fun x=>Lib.index_one _ _
    have hct:∀x:ByteArray,Lib.countB x ⟨#[c]⟩=Lib.countByte x.data.toList c:=fun x=>Lib.count_one c _
    have hlen:=Lib.splitB_all ⟨#[c]⟩ hp1 0 _ (⟨s.toArray⟩:ByteArray) rfl;refine(Any.strings_genSplit_core Tryz.lays221 (by kernel_rfl) ⟨s.toArray⟩ ⟨#[c]⟩ 0 (-1) (Lib.countB ⟨s.toArray⟩ ⟨#[c]⟩+1) w (by omega) hp1 (aaG _)
     (fun x k hx=>by rw[hix];exact Any.strings_Index_one (ρ:=Tryz.lays221_ren) { Tryz.lays221 with } x c _)
     (by rw[hct];exact Any.strings_Count_one (ρ:=Tryz.lays221_ren) { Tryz.lays221 with } ⟨s.toArray⟩ c w) (by decide) (by decide) (by rw[if_pos (by decide)];omega)).mono fun e w' he=>?_
    obtain⟨rfl,rfl⟩:=he;rw[Nat.add_sub_cancel,hlen];have e2:Lib.cellsOf (Lib.splitB ⟨#[c]⟩ 0 (Lib.countB ⟨s.toArray⟩ ⟨#[c]⟩) ⟨s.toArray⟩) (Lib.countB ⟨s.toArray⟩ ⟨#[c]⟩+1)=((Lib.splitB ⟨#[c]⟩ 0 (Lib.countB ⟨s.toArray⟩ ⟨#[c]⟩) ⟨s.toArray⟩).map Value.string).toArray:=by rw[<- hlen];exact Lib.cellsOf_full _
    rw[e2];have hd:(Lib.splitB ⟨#[c]⟩ 0 (Lib.countB ⟨s.toArray⟩ ⟨#[c]⟩) ⟨s.toArray⟩).map (·.data.toList)=Lib.split s [c]:=Lib.splitB_data ⟨#[c]⟩ 0 _ ⟨s.toArray⟩;generalize hL:Lib.splitB ⟨#[c]⟩ 0 (Lib.countB ⟨s.toArray⟩ ⟨#[c]⟩) ⟨s.toArray⟩=L at hlen hd ⊢;generalize hN:Lib.countB ⟨s.toArray⟩ ⟨#[c]⟩+1=N at hlen hle ⊢;have hN2:N<=1000001:=by omega
    have hl2:(Lib.split s [c]).length=N:=by rw[<- hd,List.length_map,hlen]
    have hty:E.tid Ty.str=Tryz.lays221_ren.t 9:=rfl;refine⟨⟨.slice (some ⟨w.heap.size,0,none⟩) N N,N,E.tid Ty.str,E.size Ty.str,some w.heap.size⟩,L.map Value.string,rfl,Below.alloc (Below.refl _ _) (abn _) _,hl2.symm,rfl,rfl,.inl ⟨⟨?_,.inr ⟨w.heap.size,N,(L.map Value.string).toArray,rfl,aaG _,heap_alloc_new w _,abn _,?_,?_,?_⟩⟩,rfl⟩,?_,?_⟩
    ·show(L.map Value.string).length=N*1;rw[List.length_map,hlen,agD]
    ·show N<=maxLen;unfold maxLen;omega
    ·show(L.map Value.string).toArray.size=N*1;simp[hlen]
    ·show(L.map Value.string).toArray.toList.take (N*1)=_;rw[agD,List.toList_toArray];exact aej (by rw[List.length_map,hlen];exact abn _)
    ·intro i x j k hx hc;have hi:(L.map (·.data.toList))[i]? = some x:=by rw[hd];exact hx
     rw[adT]at hi;cases hq:L[i]? with
     | none=>rw[hq]at hi;cases hi
     | some b =>
      rw[hq]at hi;injection hi with hi
      match j,hc with
      | 0,hc =>
       have hc:some (bC.str x:bC E.Den)=some k:=hc;injection hc with hc
       subst hc;refine⟨.string b,?_,?_⟩
       ·show(L.map Value.string)[i*1+0]? = _;rw[agD,ai4,adT,hq];rfl
       ·rw[<- hi];exact .str b.data.toList
      | j+1,hc=>cases hc
    ·intro g hg;cases hg;exact abn _
  ·cases hF
 ·cases hF⟩
section
def lV(x0 x1:aqO):Te (Bool) Empty:=.l (bV (aC x1) (aC x0)) fun z1=>.q ((bV 0 0&&bV 0 (aC x1)&&bV (aC x1) (aC x0)) || !z1) (.k (aab z1 (cut x0 0 (aC x1)==x1)))
def iD(x0 x1:aqO):=(lV x0 x1).o
def Du:=(tX.e (E:=E) mix).f0 86 [.str,.str] [.bool] (fun a=>lV a.1 a.2) Tryz.func86
def yY(x0 x1:aqO):Te (Bool) Empty:=.c (iD x0 x1) fun y1=>.k y1
def FY(x0 x1:aqO):=(yY x0 x1).o
def Sc:=Du.f0 40 [.str,.str] [.bool] (fun a=>yY a.1 a.2) Tryz.func40
def Dv(x0:aqO):Te (Bool) Empty:=.c (FY x0 [120,45]) fun y1=>.k y1
def rG(x0:aqO):=(Dv x0).o
def Yk:=Sc.f0 19 [.str] [.bool] (fun a=>Dv a) Tryz.func19
def KM(x0:Int):Te (Bool) Empty:=.k (aab (bV 97 x0) (bV x0 122))
def vL(x0:Int):=(KM x0).o
def ahS:=Yk.f0 69 [.byte] [.bool] (fun a=>KM a) Tryz.func69
def CY(x0:Int):Te (Bool) Empty:=.c (vL x0) fun y1=>.k (aL y1 (aab (bV 65 x0) (bV x0 90)))
def nM(x0:Int):=(CY x0).o
def aeZ:=ahS.f0 143 [.byte] [.bool] (fun a=>CY a) Tryz.func143
def Jd(x0:Int):Te (Bool) Empty:=.k (aab (bV 48 x0) (bV x0 57))
def fA(x0:Int):=(Jd x0).o
def ae0:=aeZ.f0 70 [.byte] [.bool] (fun a=>Jd a) Tryz.func70
def xC(x0:Int):Te (Bool) Empty:=.c (nM x0) fun y1=>.q (((fA x0).isSome) || !(!y1)) (.k (aL y1 (gv (fA x0))))
def Dw(x0:Int):=(xC x0).o
def Yl:=ae0.f0 142 [.byte] [.bool] (fun a=>xC a) Tryz.func142
def Ym(x0:Int):Te (Bool) Empty:=.c (nM x0) fun y1=>.q (((fA x0).isSome) || !(!y1)) (.k (aL (aL (aL (aL y1 (gv (fA x0))) (x0==45)) (x0==95)) (x0==46)))
def Yn:=Yl.f0 144 [.byte] [.bool] (fun a=>Ym a) Tryz.func144
inductive mq where
 | e (x0:aqO)
 | h0 (v0:aqO) (v1:Int)
def dH:mq->Te (Bool) mq
 | .e x0=>.l (Dw (sH x0 0)) fun z2=>.l (aL (aF (aC x0) 1) (aF 24 (aC x0))) fun z1=>.q (fZ x0 0 || !(!z1)) (.q ((z2.isSome) || !(!z1)) (.b (aL z1 (!(gv z2))) (.k false) (.g (.h0 x0 1))))
 | .h0 v0 v1=>.b (aF v1 (aC v0)) (.s v0 v1 fun y1=>.c (nM y1) fun y2=>.q (((fA y1).isSome) || !(!y2)) (.b (!(aL (aL (aL (aL y2 (gv (fA y1))) (y1==45)) (y1==95)) (y1==46))) (.k false) (.g (.h0 v0 (ak (v1+1)))))) (.k true)
def jq(x0:aqO):=mu dH (.e x0)
def wR:=(Yn.I 144 Tryz.func144).cl 67 [.bool] [.v .str,.c 142 [] [],.c 144 [] []] dH (fun a=>.e a) (fun | .e x0=>.c [.v ⟨.str,x0⟩,.c 142 [] [],.c 144 [] []] | .h0 v0 v1=>.h 0 ⟨35,[(0,.d (.str v0)),(2,.d (.raw (.func (.func 144) #[] #[]))),(7,.d (.int .i64 v1))],[],0⟩) { live:=[(0,[0,2,7])] } Tryz.func67
def Az(x0:aqO):Te (Bool) Empty:=.c (jq x0) fun y1=>.k y1
def iL(x0:aqO):=(Az x0).o
def ach:=wR.f0 65 [.str] [.bool] (fun a=>Az a) Tryz.func65
inductive Rt where
 | e (x0:List (aqO))
 | h0 (v0:List (aqO)) (v1:List (aqO)) (v2:Int) (v3:Int)
def Ru:Rt->Te ((aqO)) Rt
 | .e x0=>.g (.h0 [] x0 (x0.length) 0)
 | .h0 v0 v1 v2 v3=>.b (aF v3 v2) (.i v1 v3 fun y1=>.b (!(y1==[])) (.q (decide ((v0.length+([y1]:List (aqO)).length)*16<=aB)) (.g (.h0 (v0++([y1]:List (aqO))) v1 v2 (ak (v3+1))))) (.g (.h0 v0 v1 v2 (ak (v3+1))))) (.q (acd v0 [46]) (.k (Lib.join v0 [46])))
def Rv(x0:List (aqO)):=mu Ru (.e x0)
def ae1:=(ach.W 145 amA au1).fl 66 [.cu] [.str] Ru (fun a=>.e a) (fun | .e x0=>.e [⟨.cu,x0⟩] | .h0 v0 v1 v2 v3=>.h 0 ⟨21,[(3,.grow .str v0 0),(6,.d (.slice .str v1)),(7,.d (.int .i64 v2)),(8,.d (.int .i64 v3))],[(0,.tail true)],1⟩) { live:=[(0,[3,6,7,8])],oC:=[(0,[(3,none,true,.str)])] } Tryz.func66
def G6:Te (Node×Int) Empty:=.k (⟨0,[],[],[]⟩,10)
def dW:=(G6).o
def akK:=ae1.f0 90 [] [.ah,.aW] (fun _=>G6) Tryz.func90
def Je(x0:aqO):Te (Bool) Empty:=.k (aab (!(x0==[])) (bV (aC x0) 64))
def Jf(x0:aqO):=(Je x0).o
def ae2:=akK.f0 88 [.str] [.bool] (fun a=>Je a) Tryz.func88
def mU(x0:Node):Te (Node×Int) Empty:=.l (Jf x0.text) fun z1=>.q ((z1.isSome) || !(!(x0.kind != 1))) (.b (aL (x0.kind != 1) (!(gv z1))) (.c dW fun y1=>.k (aj (y1.1),y1.2)) (.k (aj x0,0)))
def mV(x0:Node):=(mU x0).o
def KN:=ae2.c0 87 [.ah,.aW] [.v .ah,.c 88 [] []] (fun a=>mU a) Tryz.func87
def G7(x0:Node):Te (Node×Int) Empty:=.c (mV (aj x0)) fun y1=>.k (aj (y1.1),y1.2)
def yK(x0:Node):=(G7 x0).o
def akL:=KN.f0 41 [.ah] [.ah,.aW] (fun a=>G7 a) Tryz.func41
def Gm(x0:Node)(x1:Int):Te (Bool) Empty:=.k (aab (x0.kind==x1) (bV (aC x0.kids) 32))
def jJ(x0:Node)(x1:Int):=(Gm x0 x1).o
def aci:=akL.f0 73 [.ah,.int] [.bool] (fun a=>Gm a.1 a.2) Tryz.func73
inductive TQ where
 | e (x0:Node)
 | h0 (v0:List (aqO)) (v1:List Node) (v2:Int) (v3:Int) (v4:Node)
def vM:TQ->Te ((List (aqO))×Bool) TQ
 | .e x0=>.g (.h0 [] x0.kids (x0.kids.length) 0 x0)
 | .h0 v0 v1 v2 v3 v4=>.b (aF v3 v2) (.i v1 v3 fun y1=>.b (y1.kind != 1) (.k ([],false)) (.q (decide ((v0.length+([y1.text]:List (aqO)).length)*16<=aB)) (.g (.h0 (v0++([y1.text]:List (aqO))) v1 v2 (ak (v3+1)) v4)))) (.c (jJ (aj v4) 2) fun y2=>.k (v0,y2))
def mW(x0:Node):=mu vM (.e x0)
def ahT:=aci.fl 72 [.ah] [.cu,.bool] vM (fun a=>.e a) (fun | .e x0=>.e [⟨.ah,x0⟩] | .h0 v0 v1 v2 v3 v4=>.h 0 ⟨26,[(1,.ptr 0 0),(4,.grow .str v0 1),(8,.d (.slice .ah v1)),(9,.d (.int .i64 v2)),(10,.d (.int .i64 v3))],[(0,.box [.d (.int .i64 v4.kind),.d (.str v4.text),.d (.slice .str v4.keys),.d (.slice .ah v4.kids)]),(1,.tail true)],2⟩) { live:=[(0,[1,4,8,9,10])],oC:=[(0,[(4,none,true,.str)])] } Tryz.func72
def KO(x0:Int):Te (Bool) Empty:=.k (aL (x0==32) (x0==9))
def ES(x0:Int):=(KO x0).o
def ahU:=ahT.f0 147 [.byte] [.bool] (fun a=>KO a) Tryz.func147
inductive ET where
 | e (x0:aqO)
 | Yo (v0:List (aqO)) (v1:List Int) (v2:Bool)
 | vN (v0:aqO) (v1:List (aqO)) (v2:List Int) (v3:Int) (v4:Bool)
 | Qu (v0:aqO) (v1:List (aqO)) (v2:List Int) (v3:Int) (v4:Bool)
 | Jg (v0:aqO) (v1:List (aqO)) (v2:List Int) (v3:Int) (v4:Bool)
def gN:ET->Te ((List (aqO))×Int) ET
 | .e x0=>.l (fZ x0 0) fun z1=>.b (0==aC x0) (.g (.Yo [] [] false)) (.s x0 0 fun y1=>.c (ES y1) fun y2=>.b y2 (.g (.vN x0 [] [] 1 false)) (.q z1 (.b (y1==39) (.g (.Qu x0 [] [] 1 true)) (.q z1 (.b (y1==34) (.g (.Jg x0 [] [] 1 true)) (.q z1 (.b (y1==92) (.b (1==aC x0) (.k ([],3)) (.s x0 1 fun y6=>.q (decide (([y6]:List Int).length*1<=aB)) (.g (.vN x0 [] [y6] 2 true)))) (.q z1 (.q (decide (([y1]:List Int).length*1<=aB)) (.g (.vN x0 [] [y1] 1 true)))))))))))
 | .Yo v0 v1 v2=>.b v2 (.q (decide ((v0.length+([(List.map (fun y=>UInt8.ofNat (Int.toNat y)) v1)]:List (aqO)).length)*16<=aB)) (.b (decide (32<aC (v0++([(List.map (fun y=>UInt8.ofNat (Int.toNat y)) v1)]:List (aqO))))) (.k ([],9)) (.k ((v0++([(List.map (fun y=>UInt8.ofNat (Int.toNat y)) v1)]:List (aqO))),0)))) (.b (aF 32 (aC v0)) (.k ([],9)) (.k (v0,0)))
 | .vN v0 v1 v2 v3 v4=>.l (fZ v0 v3) fun z2=>.l (ak (v3+1)) fun z1=>.b (v3==aC v0) (.g (.Yo v1 v2 v4)) (.s v0 v3 fun y1=>.c (ES y1) fun y2=>.b y2 (.b v4 (.q (decide ((v1.length+([(List.map (fun y=>UInt8.ofNat (Int.toNat y)) v2)]:List (aqO)).length)*16<=aB)) (.g (.vN v0 (v1++([(List.map (fun y=>UInt8.ofNat (Int.toNat y)) v2)]:List (aqO))) [] z1 false))) (.g (.vN v0 v1 v2 z1 v4))) (.q z2 (.b (y1==39) (.g (.Qu v0 v1 v2 z1 true)) (.q z2 (.b (y1==34) (.g (.Jg v0 v1 v2 z1 true)) (.q z2 (.b (y1==92) (.b (z1==aC v0) (.k ([],3)) (.s v0 z1 fun y6=>.q (decide ((v2.length+([y6]:List Int).length)*1<=aB)) (.g (.vN v0 v1 (v2++([y6]:List Int)) (ak (z1+1)) true)))) (.q z2 (.q (decide ((v2.length+([y1]:List Int).length)*1<=aB)) (.g (.vN v0 v1 (v2++([y1]:List Int)) z1 true)))))))))))
 | .Qu v0 v1 v2 v3 v4=>.l (Gl (cut v0 v3 (aC v0)) 39) fun z1=>.l (ak (v3+z1)) fun z2=>.q (bN v0 v3 (aC v0)) (.b (bV 0 z1) (.q (bN v0 v3 z2) (.q (decide ((v2.length+(List.map (fun b:UInt8=>((b.toNat:Nat):Int)) (cut v0 v3 z2)).length)*1<=aB)) (.g (.vN v0 v1 (v2++(List.map (fun b:UInt8=>((b.toNat:Nat):Int)) (cut v0 v3 z2))) (ak (v3+ak (z1+1))) v4)))) (.k ([],3)))
 | .Jg v0 v1 v2 v3 v4=>.l (fZ v0 v3) fun z3=>.l (v2++([92]:List Int)) fun z2=>.l (ak (v3+1)) fun z1=>.l (fZ v0 z1) fun z4=>.q (z3 || !((!(v3==aC v0))&&(z1==aC v0))) (.b (aL (v3==aC v0) (aab (z1==aC v0) (sH v0 v3==92))) (.k ([],3)) (.s v0 v3 fun y1=>.b (y1==34) (.g (.vN v0 v1 v2 z1 v4)) (.q z3 (.b (y1==92) (.s v0 z1 fun y3=>.q (z4 || !(y3 != 34)) (.b (aab (y3 != 34) (y3 != 92)) (.q (decide ((v2.length+([92]:List Int).length)*1<=aB)) (.q z4 (.q (decide ((z2.length+([y3]:List Int).length)*1<=aB)) (.g (.Jg v0 v1 (z2++([y3]:List Int)) (ak (z1+1)) v4))))) (.q z4 (.q (decide ((v2.length+([y3]:List Int).length)*1<=aB)) (.g (.Jg v0 v1 (v2++([y3]:List Int)) (ak (z1+1)) v4)))))) (.q z3 (.q (decide ((v2.length+([y1]:List Int).length)*1<=aB)) (.g (.Jg v0 v1 (v2++([y1]:List Int)) z1 v4))))))))
def EU(x0:aqO):=mu gN (.e x0)
def ahV:=(ahU.W 148 amB au3).fl 89 [.str] [.cu,.aW] gN (fun a=>.e a) (fun | .e x0=>.e [⟨.str,x0⟩] | .Yo v0 v1 v2=>.h 100 ⟨141,[(4,.grow .str v0 0),(5,.grow .byte v1 1),(7,.d (.bool v2))],[(0,.tail true),(1,.tail true)],2⟩ | .vN v0 v1 v2 v3 v4=>.h 101 ⟨141,[(0,.d (.str v0)),(4,.grow .str v1 0),(5,.grow .byte v2 1),(6,.d (.int .i64 v3)),(7,.d (.bool v4))],[(0,.tail true),(1,.tail true)],2⟩ | .Qu v0 v1 v2 v3 v4=>.h 102 ⟨141,[(0,.d (.str v0)),(4,.grow .str v1 0),(5,.grow .byte v2 1),(6,.d (.int .i64 v3)),(7,.d (.bool v4))],[(0,.tail true),(1,.tail true)],2⟩ | .Jg v0 v1 v2 v3 v4=>.h 103 ⟨141,[(0,.d (.str v0)),(4,.grow .str v1 0),(5,.grow .byte v2 1),(6,.d (.int .i64 v3)),(7,.d (.bool v4))],[(0,.tail true),(1,.tail true)],2⟩) { live:=[(100,[4,5,7]),(101,[0,4,5,6,7]),(102,[0,4,5,6,7]),(103,[0,4,5,6,7])],oC:=[(100,[(5,none,true,.byte),(4,none,true,.str)]),(101,[(5,none,true,.byte),(4,none,true,.str)]),(102,[(4,none,true,.str),(5,none,true,.byte)]),(103,[(4,none,true,.str),(5,none,true,.byte)])] } Tryz.func89
inductive aas where
 | e (x0:List (aqO))
 | h0 (v0:List (aqO)) (v1:Int) (v2:Int) (v3:Int) (v4:aqO) (v5:Int) (v6:aqO) (v7:List Node)
def AA:aas->Te (Node) aas
 | .e x0=>.g (.h0 x0 (x0.length) 0 0 [] 2 [] [])
 | .h0 v0 v1 v2 v3 v4 v5 v6 v7=>.b (aF v2 v1) (.i v0 v2 fun y1=>.q (decide ((v7.length+([dx y1]:List Node).length)*72<=aB)) (.g (.h0 v0 v1 (ak (v2+1)) v3 v4 v5 v6 (v7++([dx y1]:List Node))))) (.k ⟨v5,v6,[],v7⟩)
def EW(x0:List (aqO)):=mu AA (.e x0)
def apl:=(ahV.W 94 ab6 auX).fl 91 [.cu] [.ah] AA (fun a=>.e a) (fun | .e x0=>.e [⟨.cu,x0⟩] | .h0 v0 v1 v2 v3 v4 v5 v6 v7=>.h 0 ⟨22,[(2,.ptr 0 0),(3,.ptr 1 0),(7,.d (.slice .str v0)),(8,.d (.int .i64 v1)),(9,.d (.int .i64 v2))],[(0,.box [.d (.int .i64 v3),.d (.str v4),.d (.raw (.slice none 0 0)),.d (.raw (.slice none 0 0))]),(1,.box [.d (.int .i64 v5),.d (.str v6),.d (.raw (.slice none 0 0)),.grow .ah v7 2]),(2,.tail true)],3⟩) { live:=[(0,[2,3,7,8,9])],oC:=[(0,[(3,some 3,true,.ah)])] } Tryz.func91
def EX(x0:Node):Te (Node×Int) Empty:=.c (mW (aj x0)) fun y1=>.b (x0.kind==1) (.c (EU x0.text) fun y2=>.b (!(y2.2==0)) (.c dW fun y3=>.k (aj (y3.1),y3.2)) (.c (EW (y2.1)) fun y4=>.k (aj y4,0))) (.b (!y1.2) (.c dW fun y5=>.k (aj (y5.1),y5.2)) (.c (EW (y1.1)) fun y6=>.k (aj y6,0)))
def vO(x0:Node):=(EX x0).o
def ahW:=apl.f0 42 [.ah] [.ah,.aW] (fun a=>EX a) Tryz.func42
def vC(x0:Int):Te (Bool) Empty:=.c (nM x0) fun y1=>.k (aL y1 (x0==95))
def BI(x0:Int):=(vC x0).o
def Wy:=ahW.f0 149 [.byte] [.bool] (fun a=>vC a) Tryz.func149
def Wz(x0:Int):Te (Bool) Empty:=.c (nM x0) fun y1=>.q (((fA x0).isSome) || !(!y1)) (.k (aL (aL y1 (gv (fA x0))) (x0==95)))
def WA:=Wy.f0 150 [.byte] [.bool] (fun a=>Wz a) Tryz.func150
inductive lN where
 | e (x0:aqO)
 | h0 (v0:aqO) (v1:Int)
def dw:lN->Te (Bool) lN
 | .e x0=>.l (BI (sH x0 0)) fun z2=>.l (aL (aF (aC x0) 1) (aF 24 (aC x0))) fun z1=>.q (fZ x0 0 || !(!z1)) (.q ((z2.isSome) || !(!z1)) (.b (aL z1 (!(gv z2))) (.k false) (.g (.h0 x0 1))))
 | .h0 v0 v1=>.b (aF v1 (aC v0)) (.s v0 v1 fun y1=>.c (nM y1) fun y2=>.q (((fA y1).isSome) || !(!y2)) (.b (!(aL (aL y2 (gv (fA y1))) (y1==95))) (.k false) (.g (.h0 v0 (ak (v1+1)))))) (.k true)
def jc(x0:aqO):=mu dw (.e x0)
def vv:=(WA.I 150 Tryz.func150).cl 67 [.bool] [.v .str,.c 149 [] [],.c 150 [] []] dw (fun a=>.e a) (fun | .e x0=>.c [.v ⟨.str,x0⟩,.c 149 [] [],.c 150 [] []] | .h0 v0 v1=>.h 0 ⟨35,[(0,.d (.str v0)),(2,.d (.raw (.func (.func 150) #[] #[]))),(7,.d (.int .i64 v1))],[],0⟩) { live:=[(0,[0,2,7])] } Tryz.func67
def zm(x0:aqO):Te (Bool) Empty:=.c (jc x0) fun y1=>.k y1
def zo(x0:aqO):=(zm x0).o
def aat:=vv.f0 92 [.str] [.bool] (fun a=>zm a) Tryz.func92
def xD(x0:form)(x1:Bool):Te (form×Bool) Empty:=.k (⟨aj x0.n,aL x0.bad x1⟩,x1)
def bX(x0:form)(x1:Bool):=(xD x0 x1).o
def Yp:=aat.b0 74 [.bool] [.bool] .jO (fun x a=>xD x a) Tryz.func74
def zq(x0:form)(x1:aqO)(x2:Node):Te (form×Unit) Empty:=.q (fU (aj x0.n) x1 (aj x2)) (.k (⟨aj (bD (aj x0.n) x1 (aj x2)),x0.bad⟩,()))
def bZ(x0:form)(x1:aqO)(x2:Node):=(zq x0 x1 x2).o
def aau:=(Yp.W 38 ab7 auZ).b0 75 [.str,.ah] [] .jO (fun x a=>zq x a.1 a.2) Tryz.func75
def xE(x0:form):Te (form×Node×Int) Empty:=.b (aL x0.bad (aF 32 (aC x0.n.keys))) (.c dW fun y1=>.k (⟨aj x0.n,x0.bad⟩,aj (y1.1),y1.2)) (.q ((wg 10000 1000) ⟨3,x0.n.text,x0.n.keys,x0.n.kids⟩) (.k (⟨⟨3,x0.n.text,x0.n.keys,x0.n.kids⟩,x0.bad⟩,aj ((fP 1000) ⟨3,x0.n.text,x0.n.keys,x0.n.kids⟩),0)))
def dA(x0:form):=(xE x0).o
def Yq:=(aau.W 39 (oN 1000) (akI 1000)).b0 76 [] [.ah,.aW] .jO (fun x _=>xE x) Tryz.func76
inductive TR where
 | e (x0:Node) (x1:Bool)
 | Qv (v0:List (aqO)) (v1:Int) (v2:Int) (v3:Int) (v4:aqO) (v5:form)
 | Qw (v0:List (aqO)) (v1:Int) (v2:Int) (v3:Int) (v4:aqO) (v5:form)
 | Qx (v0:List (aqO)) (v1:Int) (v2:Int) (v3:Node) (v4:Int) (v5:aqO) (v6:form)
 | Qy (v0:List (aqO)) (v1:Int) (v2:Int) (v3:Node) (v4:Int) (v5:aqO) (v6:form)
def kY:TR->Te (Node×Int) TR
 | .e x0 x1=>.l (mW (aj x0)) fun z2=>.l (jJ (aj x0) 3) fun z1=>.b x1 (.c z2 fun y1=>.b y1.2 (.g (.Qw (y1.1) (aC (y1.1)) 0 0 [] ⟨⟨0,[],[],[]⟩,false⟩)) (.c z1 fun y2=>.b (!y2) (.c dW fun y3=>.k (aj (y3.1),y3.2)) (.g (.Qy x0.keys (aC x0.keys) 0 x0 0 [] ⟨⟨0,[],[],[]⟩,false⟩)))) (.c z2 fun y4=>.b y4.2 (.g (.Qv (y4.1) (aC (y4.1)) 0 0 [] ⟨⟨0,[],[],[]⟩,false⟩)) (.c z1 fun y5=>.b (!y5) (.c dW fun y6=>.k (aj (y6.1),y6.2)) (.g (.Qx x0.keys (aC x0.keys) 0 x0 0 [] ⟨⟨0,[],[],[]⟩,false⟩))))
 | .Qv v0 v1 v2 v3 v4 v5=>.l (aj v5.n) fun z1=>.b (aF v2 v1) (.i v0 v2 fun y1=>.l (lU y1 [61]) fun z2=>.l (iL z2) fun z3=>.q (uI y1 [61]) (.q ((fun n _=>fit n) z1 z2) (.q ((z3.isSome) || !(!(aD z1 z2))) (.c (bX ⟨z1,v5.bad⟩ (aL (aD z1 z2) (!(gv z3)))) fun y2=>.c (bZ ⟨aj ((y2.1).n),(y2.1).bad⟩ z2 (dx (pU y1 [61]))) fun y3=>.g (.Qv v0 v1 (ak (v2+1)) v3 v4 ⟨aj ((y3.1).n),(y3.1).bad⟩))))) (.c (dA ⟨z1,v5.bad⟩) fun y4=>.k (aj (y4.2.1),y4.2.2))
 | .Qw v0 v1 v2 v3 v4 v5=>.l (aj v5.n) fun z1=>.b (aF v2 v1) (.i v0 v2 fun y1=>.l (lU y1 [61]) fun z2=>.l (zo z2) fun z3=>.q (uI y1 [61]) (.q ((fun n _=>fit n) z1 z2) (.q ((z3.isSome) || !(!(aD z1 z2))) (.c (bX ⟨z1,v5.bad⟩ (aL (aD z1 z2) (!(gv z3)))) fun y2=>.c (bZ ⟨aj ((y2.1).n),(y2.1).bad⟩ z2 (dx (pU y1 [61]))) fun y3=>.g (.Qw v0 v1 (ak (v2+1)) v3 v4 ⟨aj ((y3.1).n),(y3.1).bad⟩))))) (.c (dA ⟨z1,v5.bad⟩) fun y4=>.k (aj (y4.2.1),y4.2.2))
 | .Qx v0 v1 v2 v3 v4 v5 v6=>.b (aF v2 v1) (.i v0 v2 fun y1=>.l (iL y1) fun z1=>.i v3.kids v2 fun y2=>.q ((z1.isSome) || !(!(aF 1 y2.kind))) (.c (bX ⟨aj v6.n,v6.bad⟩ (aL (aF 1 y2.kind) (!(gv z1)))) fun y3=>.c (bZ ⟨aj ((y3.1).n),(y3.1).bad⟩ y1 (dx (y2.text))) fun y4=>.g (.Qx v0 v1 (ak (v2+1)) v3 v4 v5 ⟨aj ((y4.1).n),(y4.1).bad⟩))) (.c (dA ⟨aj v6.n,v6.bad⟩) fun y5=>.k (aj (y5.2.1),y5.2.2))
 | .Qy v0 v1 v2 v3 v4 v5 v6=>.b (aF v2 v1) (.i v0 v2 fun y1=>.l (zo y1) fun z1=>.i v3.kids v2 fun y2=>.q ((z1.isSome) || !(!(aF 1 y2.kind))) (.c (bX ⟨aj v6.n,v6.bad⟩ (aL (aF 1 y2.kind) (!(gv z1)))) fun y3=>.c (bZ ⟨aj ((y3.1).n),(y3.1).bad⟩ y1 (dx (y2.text))) fun y4=>.g (.Qy v0 v1 (ak (v2+1)) v3 v4 v5 ⟨aj ((y4.1).n),(y4.1).bad⟩))) (.c (dA ⟨aj v6.n,v6.bad⟩) fun y5=>.k (aj (y5.2.1),y5.2.2))
def vP(x0:Node)(x1:Bool):=mu kY (.e x0 x1)
def ahX:=((Yq.W 85 aao amu).W 93 ahI ax1).fl 44 [.ah,.bool] [.ah,.aW] kY (fun a=>.e a.1 a.2) (fun | .e x0 x1=>.e [⟨.ah,x0⟩,⟨.bool,x1⟩] | .Qv v0 v1 v2 v3 v4 v5=>.h 0 ⟨100,[(4,.ptr 0 0),(6,.ptr 1 0),(7,.d (.raw (.func (.func 65) #[] #[]))),(27,.d (.slice .str v0)),(28,.d (.int .i64 v1)),(29,.d (.int .i64 v2))],[(0,.box [.d (.int .i64 v3),.d (.str v4),.d (.raw (.slice none 0 0)),.d (.raw (.slice none 0 0))]),(1,.box [.d (.int .i64 v5.n.kind),.d (.str v5.n.text),.d (.slice .str v5.n.keys),.d (.slice .ah v5.n.kids),.d (.bool v5.bad)])],2⟩ | .Qw v0 v1 v2 v3 v4 v5=>.h 0 ⟨100,[(4,.ptr 0 0),(6,.ptr 1 0),(7,.d (.raw (.func (.func 92) #[] #[]))),(27,.d (.slice .str v0)),(28,.d (.int .i64 v1)),(29,.d (.int .i64 v2))],[(0,.box [.d (.int .i64 v3),.d (.str v4),.d (.raw (.slice none 0 0)),.d (.raw (.slice none 0 0))]),(1,.box [.d (.int .i64 v5.n.kind),.d (.str v5.n.text),.d (.slice .str v5.n.keys),.d (.slice .ah v5.n.kids),.d (.bool v5.bad)])],2⟩ | .Qx v0 v1 v2 v3 v4 v5 v6=>.h 1 ⟨100,[(2,.ptr 0 0),(4,.ptr 1 0),(6,.ptr 2 0),(7,.d (.raw (.func (.func 65) #[] #[]))),(69,.d (.slice .str v0)),(70,.d (.int .i64 v1)),(71,.d (.int .i64 v2))],[(0,.box [.d (.int .i64 v3.kind),.d (.str v3.text),.d (.slice .str v3.keys),.d (.slice .ah v3.kids)]),(1,.box [.d (.int .i64 v4),.d (.str v5),.d (.raw (.slice none 0 0)),.d (.raw (.slice none 0 0))]),(2,.box [.d (.int .i64 v6.n.kind),.d (.str v6.n.text),.d (.slice .str v6.n.keys),.d (.slice .ah v6.n.kids),.d (.bool v6.bad)])],3⟩ | .Qy v0 v1 v2 v3 v4 v5 v6=>.h 1 ⟨100,[(2,.ptr 0 0),(4,.ptr 1 0),(6,.ptr 2 0),(7,.d (.raw (.func (.func 92) #[] #[]))),(69,.d (.slice .str v0)),(70,.d (.int .i64 v1)),(71,.d (.int .i64 v2))],[(0,.box [.d (.int .i64 v3.kind),.d (.str v3.text),.d (.slice .str v3.keys),.d (.slice .ah v3.kids)]),(1,.box [.d (.int .i64 v4),.d (.str v5),.d (.raw (.slice none 0 0)),.d (.raw (.slice none 0 0))]),(2,.box [.d (.int .i64 v6.n.kind),.d (.str v6.n.text),.d (.slice .str v6.n.keys),.d (.slice .ah v6.n.kids),.d (.bool v6.bad)])],3⟩) { live:=[(0,[4,6,7,27,28,29]),(1,[2,4,6,7,69,70,71])],oC:=[(0,[(6,some 2,false,.str),(6,some 3,false,.ah)]),(1,[(6,some 2,false,.str),(6,some 3,false,.ah)])] } Tryz.func44
def vD(x0:field)(x1 x2:aqO):Te (field×(aqO)) Empty:=.l (aj x0.n) fun z1=>.q ((fun n _=>fit n) z1 x1) (.b (!(aD z1 x1)) (.k (⟨z1,x0.left,x0.bad⟩,x2)) (.k (⟨z1,ak (x0.left-1),aL x0.bad ((aJ z1 x1).kind != 1)⟩,(aJ z1 x1).text)))
def aU(x0:field)(x1 x2:aqO):=(vD x0 x1 x2).o
def WB:=ahX.b0 104 [.str,.str] [.str] .je (fun x a=>vD x a.1 a.2) Tryz.func104
inductive Rw where
 | e (x0:aqO) (x1:Int)
 | h0 (v0:aqO) (v1:Int) (v2:Int) (v3:Bool) (v4:Int) (v5:Int)
def nN:Rw->Te (Int×Int) Rw
 | .e x0 x1=>.q (fZ x0 0 || !((!(x0==[]))&&aF 1 (aC x0))) (.b (aL (x0==[]) (aab (aF 1 (aC x0)) (sH x0 0==48))) (.k (0,3)) (.g (.h0 x0 x1 0 false (aC x0) 0)))
 | .h0 v0 v1 v2 v3 v4 v5=>.b (aF v5 v4) (.s v0 v5 fun y1=>.l (ak (ak y1-48)) fun z2=>.l (aL (aL v3 (aF (ak (Int.tdiv (ak (v1-z2)) 10)) v2)) (aF v1 z2)) fun z1=>.b (aL (aF z2 0) (aF 9 z2)) (.k (0,3)) (.q ((!((10:Int)==0)) || !(!v3)) (.b (!z1) (.g (.h0 v0 v1 (ak (ak (v2*10)+z2)) z1 v4 (ak (v5+1)))) (.g (.h0 v0 v1 v2 z1 v4 (ak (v5+1))))))) (.b v3 (.k (0,9)) (.k (v2,0)))
def yg(x0:aqO)(x1:Int):=mu nN (.e x0 x1)
def ae3:=WB.fl 160 [.str,.int] [.int,.aW] nN (fun a=>.e a.1 a.2) (fun | .e x0 x1=>.e [⟨.str,x0⟩,⟨.int,x1⟩] | .h0 v0 v1 v2 v3 v4 v5=>.h 0 ⟨61,[(0,.d (.str v0)),(1,.d (.int .i64 v1)),(6,.d (.int .i64 v2)),(7,.d (.bool v3)),(23,.d (.int .i64 v4)),(24,.d (.int .i64 v5))],[],0⟩) { live:=[(0,[0,1,6,7,23,24])] } Tryz.func160
def yh(x0:aqO)(x1:Int):Te (Int×Int) Empty:=.b (aF x1 0) (.k (0,2)) (.c (yg x0 x1) fun y1=>.k (y1.1,y1.2))
def gI(x0:aqO)(x1:Int):=(yh x0 x1).o
def ae4:=ae3.f0 115 [.str,.int] [.int,.aW] (fun a=>yh a.1 a.2) Tryz.func115
def pV(x0:field)(x1:aqO):Te (field×Int) Empty:=.c (aU ⟨aj x0.n,x0.left,x0.bad⟩ x1 [48]) fun y1=>.l (aj ((y1.1).n)) fun z1=>.c (gI (y1.2) 65536) fun y2=>.q ((fun n _=>fit n) z1 x1) (.k (⟨z1,(y1.1).left,aL (aL (y1.1).bad (y2.2 != 0)) (aab (aD z1 x1) (y2.1==0))⟩,y2.1))
def ku(x0:field)(x1:aqO):=(pV x0 x1).o
def TS:=ae4.b0 110 [.str] [.int] .je (fun x a=>pV x a) Tryz.func110
def Yr(x0:aqO):Te (Bool) Empty:=.c (gI x0 255) fun y1=>.k (y1.2 != 0)
def Yt:=TS.f0 224 [.str] [.bool] (fun a=>Yr a) Tryz.func224
inductive kC where
 | e (x0:List (aqO))
 | h0 (v0:List (aqO)) (v1:Int) (v2:Int)
def dB:kC->Te (Int) kC
 | .e x0=>.g (.h0 x0 (x0.length) 0)
 | .h0 v0 v1 v2=>.b (aF v2 v1) (.i v0 v2 fun y1=>.c (gI y1 255) fun y2=>.b (y2.2 != 0) (.k v2) (.g (.h0 v0 v1 (ak (v2+1))))) (.k (-1))
def fF(x0:List (aqO)):=mu dB (.e x0)
def rH:=(Yt.I 224 Tryz.func224).cl 235 [.int] [.v .cu,.c 224 [] []] dB (fun a=>.e a) (fun | .e x0=>.c [.v ⟨.cu,x0⟩,.c 224 [] []] | .h0 v0 v1 v2=>.h 0 ⟨19,[(0,.d (.slice .str v0)),(1,.d (.raw (.func (.func 224) #[] #[]))),(7,.d (.int .i64 v1)),(8,.d (.int .i64 v2))],[],0⟩) { live:=[(0,[0,1,7,8])] } Tryz.func235
def eD(x0:List (aqO)):Te (Bool) Empty:=.c (fF x0) fun y1=>.k (bV 0 y1)
def dh(x0:List (aqO)):=(eD x0).o
def qJ:=rH.c0 223 [.bool] [.v .cu,.c 224 [] []] (fun a=>eD a) Tryz.func223
def AB(x0:aqO):Te (Bool) Empty:=.l (d9 x0 [46] 0 (-1)) fun z2=>.l (dh z2) fun z1=>.q (Qt x0 [46] 0 (-1)) (.q ((z1.isSome) || !(aC z2==4)) (.k (aab (aC z2==4) (!(gv z1)))))
def qZ(x0:aqO):=(AB x0).o
def acj:=((qJ.R 197 Yj apk).I 153 Tryz.func153).f0 196 [.str] [.bool] (fun a=>AB a) Tryz.func196 { frz:=[2] }
def EY(x0:Port):Te (Bool) Empty:=.l (qZ x0.host) fun z2=>.l (aab (aab (aab (aab (bV 1 x0.iP) (bV x0.iP 65535)) (bV 0 x0.out)) (bV x0.out 65535)) (aL (x0.proto==[116,99,112]) (x0.proto==[117,100,112]))) fun z1=>.q ((z2.isSome) || !(z1&&(!(x0.host==[])))) (.k (aab z1 (aL (x0.host==[]) (gv z2))))
def dD(x0:Port):=(EY x0).o
def ahY:=acj.f0 152 [.jl] [.bool] (fun a=>EY a) Tryz.func152
def G8(x0:Node):Te (Port×Bool) Empty:=.c (ku ⟨aj x0,aC x0.keys,(x0.kind != 3)⟩ [116,97,114,103,101,116]) fun y1=>.c (ku ⟨aj ((y1.1).n),(y1.1).left,(y1.1).bad⟩ [112,117,98,108,105,115,104,101,100]) fun y2=>.c (aU ⟨aj ((y2.1).n),(y2.1).left,(y2.1).bad⟩ [104,111,115,116,95,105,112] []) fun y3=>.c (aU ⟨aj ((y3.1).n),(y3.1).left,(y3.1).bad⟩ [112,114,111,116,111,99,111,108] [116,99,112]) fun y4=>.l (aab (!(y4.1).bad) ((y4.1).left==0)) fun z2=>.l (dD ⟨y3.2,y2.2,y1.2,y4.2⟩) fun z1=>.q ((z1.isSome) || !z2) (.k (⟨y3.2,y2.2,y1.2,y4.2⟩,aab z2 (gv z1)))
def G9(x0:Node):=(G8 x0).o
def akM:=((ahY.I 103 Tryz.func103).I 105 Tryz.func105).f0 95 [.ah] [.jl,.bool] (fun a=>G8 a) Tryz.func95
def CZ(x0:aqO):Te (Int) Empty:=.c (gI x0 65535) fun y1=>.b (aL (y1.2 != 0) (y1.1==0)) (.k (-1)) (.k y1.1)
def jE(x0:aqO):=(CZ x0).o
def ae5:=akM.f0 154 [.str] [.int] (fun a=>CZ a) Tryz.func154
def EZ(x0:aqO):Te (Port×Int) Empty:=.l (pU x0 [47]) fun z4=>.l (dflt .str) fun z3=>.l (d9 x0 [58] 0 (-1)) fun z2=>.l (ak (aC z2-1)) fun z6=>.l (zL z2 0 z3) fun z5=>.l (d9 (lU x0 [47]) [58] 0 (-1)) fun z1=>.l (ak (aC z1-1)) fun z8=>.l (zL z1 0 z3) fun z7=>.q (uI x0 [47]) (.b (zN x0 [47]) (.q (Qt (lU x0 [47]) [58] 0 (-1)) (.q (fZ z1 z8) (.c (jE (zL z1 z8 z3)) fun y1=>.b (aC z1==1) (.c (dD ⟨[],0,y1,z4⟩) fun y2=>.b (!y2) (.k (⟨[],0,0,[]⟩,3)) (.k (⟨[],0,y1,z4⟩,0))) (.b (aC z1==2) (.q (fZ z1 0) (.c (jE z7) fun y3=>.c (dD ⟨[],y3,y1,z4⟩) fun y4=>.b (!y4) (.k (⟨[],0,0,[]⟩,3)) (.k (⟨[],y3,y1,z4⟩,0)))) (.b (aC z1==3) (.q (fZ z1 0) (.b (z7==[]) (.k (⟨[],0,0,[]⟩,3)) (.q (fZ z1 1) (.b (!(zL z1 1 z3==[])) (.q (fZ z1 1) (.c (jE (zL z1 1 z3)) fun y5=>.c (dD ⟨z7,y5,y1,z4⟩) fun y6=>.b (!y6) (.k (⟨[],0,0,[]⟩,3)) (.k (⟨z7,y5,y1,z4⟩,0)))) (.c (dD ⟨z7,0,y1,z4⟩) fun y7=>.b (!y7) (.k (⟨[],0,0,[]⟩,3)) (.k (⟨z7,0,y1,z4⟩,0))))))) (.k (⟨[],0,0,[]⟩,3))))))) (.q (Qt x0 [58] 0 (-1)) (.q (fZ z2 z6) (.c (jE (zL z2 z6 z3)) fun y8=>.b (aC z2==1) (.c (dD ⟨[],0,y8,[116,99,112]⟩) fun y9=>.b (!y9) (.k (⟨[],0,0,[]⟩,3)) (.k (⟨[],0,y8,[116,99,112]⟩,0))) (.b (aC z2==2) (.q (fZ z2 0) (.c (jE z5) fun ig=>.c (dD ⟨[],ig,y8,[116,99,112]⟩) fun wW=>.b (!wW) (.k (⟨[],0,0,[]⟩,3)) (.k (⟨[],ig,y8,[116,99,112]⟩,0)))) (.b (aC z2==3) (.q (fZ z2 0) (.b (z5==[]) (.k (⟨[],0,0,[]⟩,3)) (.q (fZ z2 1) (.b (!(zL z2 1 z3==[])) (.q (fZ z2 1) (.c (jE (zL z2 1 z3)) fun mX=>.c (dD ⟨z5,mX,y8,[116,99,112]⟩) fun y13=>.b (!y13) (.k (⟨[],0,0,[]⟩,3)) (.k (⟨z5,mX,y8,[116,99,112]⟩,0)))) (.c (dD ⟨z5,0,y8,[116,99,112]⟩) fun zu=>.b (!zu) (.k (⟨[],0,0,[]⟩,3)) (.k (⟨z5,0,y8,[116,99,112]⟩,0))))))) (.k (⟨[],0,0,[]⟩,3))))))))
def zO(x0:aqO):=(EZ x0).o
def ahZ:=ae5.f0 96 [.str] [.jl,.aW] (fun a=>EZ a) Tryz.func96
inductive TT where
 | e (x0:Int)
 | h0 (v0:Int) (v1:Bool) (v2:Int) (v3:List Int)
def vQ:TT->Te ((aqO)) TT
 | .e x0=>.l (IntKind.wrap .u64 x0) fun z1=>.b (aF x0 0) (.g (.h0 20 (aF x0 0) (IntKind.wrap .u64 (0-z1)) [0,0,0,0,0,0,0,0,0,0,0,0,0,0,0,0,0,0,0,0])) (.g (.h0 20 (aF x0 0) z1 [0,0,0,0,0,0,0,0,0,0,0,0,0,0,0,0,0,0,0,0]))
 | .h0 v0 v1 v2 v3=>.l (!((10:Int)==0)) fun z4=>.l (IntKind.wrap .u64 (Int.tdiv v2 10)) fun z3=>.l (ak (v0-1)) fun z2=>.l (ak (z2-1)) fun z5=>.l (IntKind.wrap .u8 (IntKind.wrap .u64 (48+(Int.tmod v2 10)))) fun z1=>.q z4 (.q (bV 0 z2&&aF z2 20) (.q (Nat.blt (mQ z2) v3.length) (.q z4 (.b (z3==0) (.b v1 (.q (bV 0 z5&&aF z5 20) (.q (Nat.blt (mQ z5) (List.set v3 (mQ z2) z1).length) (.q (Nat.beq (List.set (List.set v3 (mQ z2) z1) (mQ z5) 45).length 20&&(bV 0 z5&&bV z5 20&&bV 20 20)) (.k (List.map (fun y=>UInt8.ofNat (Int.toNat y)) (cut (List.set (List.set v3 (mQ z2) z1) (mQ z5) 45) z5 20)))))) (.q (Nat.beq (List.set v3 (mQ z2) z1).length 20&&(bV 0 z2&&bV z2 20&&bV 20 20)) (.k (List.map (fun y=>UInt8.ofNat (Int.toNat y)) (cut (List.set v3 (mQ z2) z1) z2 20))))) (.g (.h0 z2 v1 z3 (List.set v3 (mQ z2) z1)))))))
def pW(x0:Int):=mu vQ (.e x0)
def ah0:=ahZ.fl 111 [.int] [.str] vQ (fun a=>.e a) (fun | .e x0=>.e [⟨.int,x0⟩] | .h0 v0 v1 v2 v3=>.h 0 ⟨34,[(3,.ptr 0 0),(4,.d (.int .i64 v0)),(5,.d (.bool v1)),(6,.d (.int .u64 v2))],[(0,.arr .byte v3 false)],1⟩) { live:=[(0,[3,4,5,6])],arr:=[(2,[(3,some .byte)]),(13,[(3,none)])] } Tryz.func111
def He(x0:Port):Te ((aqO)) Empty:=.l (decide (x0.host.length+([58]:aqO).length<=aA)) fun z5=>.l (([]:aqO)++([58]:aqO)) fun z4=>.l (pW x0.iP) fun z3=>.l (x0.proto==[117,100,112]) fun z2=>.l (x0.host++([58]:aqO)) fun z1=>.l (z1++([]:aqO)) fun z6=>.l (z6++([58]:aqO)) fun z7=>.c (dD x0) fun y1=>.b (!y1) (.k []) (.b (aF 0 x0.out) (.c (pW x0.out) fun y2=>.l (z1++y2) fun rJ=>.l (y2++([58]:aqO)) fun z9=>.l (rJ++([58]:aqO)) fun z8=>.b (!(x0.host==[])) (.q z5 (.q (decide (z1.length+y2.length<=aA)) (.b (!(rJ==[])) (.q (decide (rJ.length+([58]:aqO).length<=aA)) (.c z3 fun y3=>.q (decide (z8.length+y3.length<=aA)) (.b z2 (.q (decide ((z8++y3).length+([47,117,100,112]:aqO).length<=aA)) (.k ((z8++y3)++([47,117,100,112]:aqO)))) (.k (z8++y3))))) (.c z3 fun y4=>.l (rJ++y4) fun zP=>.q (decide (rJ.length+y4.length<=aA)) (.b z2 (.q (decide (zP.length+([47,117,100,112]:aqO).length<=aA)) (.k (zP++([47,117,100,112]:aqO)))) (.k zP)))))) (.b (!(y2==[])) (.q (decide (y2.length+([58]:aqO).length<=aA)) (.c z3 fun y5=>.q (decide (z9.length+y5.length<=aA)) (.b z2 (.q (decide ((z9++y5).length+([47,117,100,112]:aqO).length<=aA)) (.k ((z9++y5)++([47,117,100,112]:aqO)))) (.k (z9++y5))))) (.c z3 fun y6=>.q (decide (y2.length+y6.length<=aA)) (.b z2 (.q (decide ((y2++y6).length+([47,117,100,112]:aqO).length<=aA)) (.k ((y2++y6)++([47,117,100,112]:aqO)))) (.k (y2++y6)))))) (.b (!(x0.host==[])) (.q z5 (.q (decide (z1.length+([]:aqO).length<=aA)) (.b (!(z6==[])) (.q (decide (z6.length+([58]:aqO).length<=aA)) (.c z3 fun y7=>.q (decide (z7.length+y7.length<=aA)) (.b z2 (.q (decide ((z7++y7).length+([47,117,100,112]:aqO).length<=aA)) (.k ((z7++y7)++([47,117,100,112]:aqO)))) (.k (z7++y7))))) (.c z3 fun y8=>.q (decide (z6.length+y8.length<=aA)) (.b z2 (.q (decide ((z6++y8).length+([47,117,100,112]:aqO).length<=aA)) (.k ((z6++y8)++([47,117,100,112]:aqO)))) (.k (z6++y8))))))) (.b (!(([]:aqO)==[])) (.q (decide (([]:aqO).length+([58]:aqO).length<=aA)) (.c z3 fun y9=>.q (decide (z4.length+y9.length<=aA)) (.b z2 (.q (decide ((z4++y9).length+([47,117,100,112]:aqO).length<=aA)) (.k ((z4++y9)++([47,117,100,112]:aqO)))) (.k (z4++y9))))) (.c z3 fun ig=>.l (([]:aqO)++ig) fun z12=>.q (decide (([]:aqO).length+ig.length<=aA)) (.b z2 (.q (decide (z12.length+([47,117,100,112]:aqO).length<=aA)) (.k (z12++([47,117,100,112]:aqO)))) (.k z12))))))
def yL(x0:Port):=(He x0).o
def akN:=ah0.f0 97 [.jl] [.str] (fun a=>He a) Tryz.func97
inductive TU where
 | e (x0:Node)
 | h0 (v0:List Node) (v1:Int) (v2:Int) (v3:Int) (v4:aqO) (v5:form)
 | h1 (v0:List (aqO)) (v1:Int) (v2:Int) (v3:Node) (v4:Int) (v5:aqO) (v6:form)
def pX:TU->Te (Node×Int) TU
 | .e x0=>.c (jJ (aj x0) 2) fun y1=>.b y1 (.g (.h0 x0.kids (aC x0.kids) 0 0 [] ⟨⟨0,[],[],[]⟩,false⟩)) (.c (jJ (aj x0) 3) fun y2=>.b y2 (.g (.h1 x0.keys (aC x0.keys) 0 x0 0 [] ⟨⟨0,[],[],[]⟩,false⟩)) (.c dW fun y3=>.k (aj (y3.1),y3.2)))
 | .h0 v0 v1 v2 v3 v4 v5=>.l (aj v5.n) fun z2=>.l (zL v0 v2 (dflt .ah)) fun z1=>.b (aF v2 v1) (.q (fZ v0 v2) (.c (G9 (aj z1)) fun y2=>.b (z1.kind==1) (.c (zO (z1.text)) fun y3=>.c (bX ⟨z2,v5.bad⟩ (!(y3.2==0))) fun y4=>.c (yL (y3.1)) fun y5=>.c (bZ ⟨aj ((y4.1).n),(y4.1).bad⟩ y5 ⟨0,[],[],[]⟩) fun y6=>.g (.h0 v0 v1 (ak (v2+1)) v3 v4 ⟨aj ((y6.1).n),(y6.1).bad⟩)) (.c (bX ⟨z2,v5.bad⟩ (!y2.2)) fun y7=>.c (yL (y2.1)) fun y8=>.c (bZ ⟨aj ((y7.1).n),(y7.1).bad⟩ y8 ⟨0,[],[],[]⟩) fun y9=>.g (.h0 v0 v1 (ak (v2+1)) v3 v4 ⟨aj ((y9.1).n),(y9.1).bad⟩)))) (.c (dA ⟨z2,v5.bad⟩) fun ig=>.k (aj (ig.2.1),ig.2.2))
 | .h1 v0 v1 v2 v3 v4 v5 v6=>.b (aF v2 v1) (.i v0 v2 fun y1=>.c (zO y1) fun y2=>.c (yL (y2.1)) fun y3=>.l (aL (!(y3==y1)) (y1==[])) fun z1=>.q (fZ v3.kids v2 || !(!z1)) (.c (bX ⟨aj v6.n,v6.bad⟩ (aL z1 ((zL v3.kids v2 (dflt .ah)).kind != 0))) fun y4=>.c (bZ ⟨aj ((y4.1).n),(y4.1).bad⟩ y1 ⟨0,[],[],[]⟩) fun y5=>.g (.h1 v0 v1 (ak (v2+1)) v3 v4 v5 ⟨aj ((y5.1).n),(y5.1).bad⟩))) (.c (dA ⟨aj v6.n,v6.bad⟩) fun y6=>.k (aj (y6.2.1),y6.2.2))
def rM(x0:Node):=mu pX (.e x0)
def ah1:=akN.fl 45 [.ah] [.ah,.aW] pX (fun a=>.e a) (fun | .e x0=>.e [⟨.ah,x0⟩] | .h0 v0 v1 v2 v3 v4 v5=>.h 0 ⟨92,[(2,.ptr 0 0),(4,.ptr 1 0),(21,.d (.slice .ah v0)),(22,.d (.int .i64 v1)),(23,.d (.int .i64 v2))],[(0,.box [.d (.int .i64 v3),.d (.str v4),.d (.raw (.slice none 0 0)),.d (.raw (.slice none 0 0))]),(1,.box [.d (.int .i64 v5.n.kind),.d (.str v5.n.text),.d (.slice .str v5.n.keys),.d (.slice .ah v5.n.kids),.d (.bool v5.bad)])],2⟩ | .h1 v0 v1 v2 v3 v4 v5 v6=>.h 1 ⟨92,[(1,.ptr 0 0),(2,.ptr 1 0),(4,.ptr 2 0),(55,.d (.slice .str v0)),(56,.d (.int .i64 v1)),(57,.d (.int .i64 v2))],[(0,.box [.d (.int .i64 v3.kind),.d (.str v3.text),.d (.slice .str v3.keys),.d (.slice .ah v3.kids)]),(1,.box [.d (.int .i64 v4),.d (.str v5),.d (.raw (.slice none 0 0)),.d (.raw (.slice none 0 0))]),(2,.box [.d (.int .i64 v6.n.kind),.d (.str v6.n.text),.d (.slice .str v6.n.keys),.d (.slice .ah v6.n.kids),.d (.bool v6.bad)])],3⟩) { live:=[(0,[2,4,21,22,23]),(1,[1,2,4,55,56,57])],oC:=[(0,[(4,some 2,false,.str),(4,some 3,false,.ah)]),(1,[(4,some 2,false,.str),(4,some 3,false,.ah)])] } Tryz.func45
def uh(x0:field)(x1:aqO)(x2:Bool):Te (field×Bool) Empty:=.b x2 (.c (aU ⟨aj x0.n,x0.left,x0.bad⟩ x1 [116,114,117,101]) fun y1=>.l (y1.2==[116,114,117,101]) fun z1=>.k (⟨aj ((y1.1).n),(y1.1).left,aL (y1.1).bad (aab (!z1) (!(y1.2==[102,97,108,115,101])))⟩,z1)) (.c (aU ⟨aj x0.n,x0.left,x0.bad⟩ x1 [102,97,108,115,101]) fun y2=>.l (y2.2==[116,114,117,101]) fun z2=>.k (⟨aj ((y2.1).n),(y2.1).left,aL (y2.1).bad (aab (!z2) (!(y2.2==[102,97,108,115,101])))⟩,z2))
def eU(x0:field)(x1:aqO)(x2:Bool):=(uh x0 x1 x2).o
def TW:=ah1.b0 106 [.str,.bool] [.bool] .je (fun x a=>uh x a.1 a.2) Tryz.func106
inductive TY where
 | e (x0:aqO)
 | h0 (v0:aqO) (v1:Int) (v2:Int)
def vR:TY->Te (Bool) TY
 | .e x0=>.g (.h0 x0 (x0.length) 0)
 | .h0 v0 v1 v2=>.b (aF v2 v1) (.s v0 v2 fun y1=>.b (aab (aab (aab (aL (aF y1 97) (aF 122 y1)) (aL (aF y1 65) (aF 90 y1))) (aL (aF y1 48) (aF 57 y1))) (aF (Gl [46,95,45,47] y1) 0)) (.k false) (.g (.h0 v0 v1 (ak (v2+1))))) (.k (aab (!(v0==[])) (bV (aC v0) 64)))
def iN(x0:aqO):=mu vR (.e x0)
def T9:=TW.fl 200 [.str] [.bool] vR (fun a=>.e a) (fun | .e x0=>.e [⟨.str,x0⟩] | .h0 v0 v1 v2=>.h 0 ⟨48,[(0,.d (.str v0)),(6,.d (.int .i64 v1)),(7,.d (.int .i64 v2))],[],0⟩) { live:=[(0,[0,6,7])] } Tryz.func200
def aav(x0 x1:aqO):Te (Int) Empty:=.q (uI x0 x1) (.k (pR x0 x1))
def aaw:=(T9.W 195 Qo TH).f0 227 [.str,.str] [.int] (fun a=>aav a.1 a.2) Tryz.func227
def AJ(x0:aqO):Te (Bool) Empty:=.c (iL x0) fun y1=>.k y1
def Gp(x0:aqO):=(AJ x0).o
def acn:=aaw.f0 199 [.str] [.bool] (fun a=>AJ a) Tryz.func199
inductive aax where
 | e (x0:Node)
 | h0 (v0:List (aqO)) (v1:Bool) (v2:List Node) (v3:Int) (v4:Int) (v5:Int) (v6:aqO) (v7:form)
 | h1 (v0:List (aqO)) (v1:Int) (v2:Int) (v3:Int) (v4:aqO) (v5:form)
def uj:aax->Te (Node×Int) aax
 | .e x0=>.c (mW (aj x0)) fun y1=>.c (jJ (aj x0) 3) fun y2=>.b y2 (.g (.h0 x0.keys true x0.kids (aC x0.kids) 0 0 [] ⟨⟨0,[],[],[]⟩,false⟩)) (.c (bX ⟨⟨0,[],[],[]⟩,false⟩ (!y1.2)) fun y3=>.g (.h1 (y1.1) (aC (y1.1)) 0 0 [] ⟨aj ((y3.1).n),(y3.1).bad⟩))
 | .h0 v0 v1 v2 v3 v4 v5 v6 v7=>.b (aF v4 v3) (.i v2 v4 fun y1=>.c (bX ⟨aj v7.n,v7.bad⟩ (aab (y1.kind != 0) (aL (y1.kind != 3) (aF 0 (aC (y1.keys)))))) fun y2=>.g (.h0 v0 v1 v2 v3 (ak (v4+1)) v5 v6 ⟨aj ((y2.1).n),(y2.1).bad⟩)) (.c (bX ⟨aj v7.n,v7.bad⟩ (!v1)) fun y3=>.g (.h1 v0 (aC v0) 0 v5 v6 ⟨aj ((y3.1).n),(y3.1).bad⟩))
 | .h1 v0 v1 v2 v3 v4 v5=>.b (aF v2 v1) (.i v0 v2 fun y1=>.c (iL y1) fun y2=>.c (bX ⟨aj v5.n,v5.bad⟩ (!y2)) fun y3=>.c (bZ ⟨aj ((y3.1).n),(y3.1).bad⟩ y1 ⟨0,[],[],[]⟩) fun y4=>.g (.h1 v0 v1 (ak (v2+1)) v3 v4 ⟨aj ((y4.1).n),(y4.1).bad⟩)) (.c (dA ⟨aj v5.n,v5.bad⟩) fun y5=>.k (aj (y5.2.1),y5.2.2))
def um(x0:Node):=mu uj (.e x0)
def apm:=acn.fl 30 [.ah] [.ah,.aW] uj (fun a=>.e a) (fun | .e x0=>.e [⟨.ah,x0⟩] | .h0 v0 v1 v2 v3 v4 v5 v6 v7=>.h 0 ⟨63,[(2,.ptr 0 0),(4,.ptr 1 0),(5,.d (.slice .str v0)),(6,.d (.bool v1)),(21,.d (.slice .ah v2)),(22,.d (.int .i64 v3)),(23,.d (.int .i64 v4))],[(0,.box [.d (.int .i64 v5),.d (.str v6),.d (.raw (.slice none 0 0)),.d (.raw (.slice none 0 0))]),(1,.box [.d (.int .i64 v7.n.kind),.d (.str v7.n.text),.d (.slice .str v7.n.keys),.d (.slice .ah v7.n.kids),.d (.bool v7.bad)])],2⟩ | .h1 v0 v1 v2 v3 v4 v5=>.h 1 ⟨63,[(2,.ptr 0 0),(4,.ptr 1 0),(46,.d (.slice .str v0)),(47,.d (.int .i64 v1)),(48,.d (.int .i64 v2))],[(0,.box [.d (.int .i64 v3),.d (.str v4),.d (.raw (.slice none 0 0)),.d (.raw (.slice none 0 0))]),(1,.box [.d (.int .i64 v5.n.kind),.d (.str v5.n.text),.d (.slice .str v5.n.keys),.d (.slice .ah v5.n.kids),.d (.bool v5.bad)])],2⟩) { live:=[(0,[2,4,5,6,21,22,23]),(1,[2,4,46,47,48])],oC:=[(0,[(4,some 2,false,.str),(4,some 3,false,.ah)])] } Tryz.func30
def Hf(x0:Bool):Te (Node) Empty:=.b x0 (.k (aj (dx [116,114,117,101]))) (.k (aj (dx [102,97,108,115,101])))
def kZ(x0:Bool):=(Hf x0).o
def akO:=apm.f0 112 [.bool] [.ah] (fun a=>Hf a) Tryz.func112
inductive FZ where
 | e (x0:budget) (x1:Node) (x2:Int)
 | h0 (v0:Int) (v1:List Node) (v2:Int) (v3:Int) (v4:Int)
def fB(self:budget->Node->Int->Option (budget×Bool)):FZ->Te (budget×Bool) FZ
 | .e x0 x1 x2=>.l (x1.text==[]) fun z4=>.l (aC x1.kids) fun z3=>.l (aC x1.keys) fun z2=>.l (aL (!z4) (z2 != z3)) fun z6=>.l (ak (z2+z3)==0) fun z5=>.l (ak (x0.left-1)) fun z1=>.l (aL z6 (aF z1 z2)) fun z7=>.b (aL (aF z1 0) (aF 12 x2)) (.k (⟨z1⟩,false)) (.b (x1.kind==0) (.k (⟨z1⟩,aab z4 z5)) (.b (x1.kind==1) (.k (⟨z1⟩,z5)) (.b (x1.kind==2) (.b (aL (!z4) (aF 0 z2)) (.k (⟨z1⟩,false)) (.g (.h0 x2 x1.kids z3 0 z1))) (.b (x1.kind==3) (.q (nL x1.keys || !(!z7)) (.b (aL z7 (aC (Pl.bA x1.keys)!=z2)) (.k (⟨z1⟩,false)) (.g (.h0 x2 x1.kids z3 0 z1)))) (.k (⟨z1⟩,false))))))
 | .h0 v0 v1 v2 v3 v4=>.b (aF v3 v2) (.i v1 v3 fun y1=>.c (self ⟨v4⟩ (aj y1) (ak (v0+1))) fun y2=>.b (!y2.2) (.k ((y2.1),false)) (.g (.h0 v0 v1 v2 (ak (v3+1)) ((y2.1).left)))) (.k (⟨v4⟩,true))
def fC(n:Nat):budget->Node->Int->Option (budget×Bool):=Nat.rec (motive:=fun _=>budget->Node->Int->Option (budget×Bool)) (fun _ _ _=>none) (fun _ self x0 x1 x2=>mu (fB self) (.e x0 x1 x2)) n
def Sd(x0:budget)(x1:Node)(x2:Int):Option (budget×Bool):=fC GY x0 x1 x2
def Sg:=(akO.W 26 Iz Qn).br 77 [.ah,.int] [.bool] .iQ (fun n x a=>fC n x a.1 a.2) (fun S=>fB fun x0 x1 x2=>S x0 (x1,x2)) (fun x a=>.e x a.1 a.2) (fun | .e x0 x1 x2=>.e [⟨.iQ,x0⟩,⟨.ah,x1⟩,⟨.int,x2⟩] | .h0 v0 v1 v2 v3 v4=>.h 0 ⟨111,[(0,.ptr 0 0),(2,.d (.int .i64 v0)),(98,.d (.slice .ah v1)),(99,.d (.int .i64 v2)),(100,.d (.int .i64 v3))],[(0,.box [.d (.int .i64 v4)])],1⟩) { live:=[(0,[0,2,98,99,100])],own:=1 } Tryz.func77
def E5(x0:Node):Te (Bool) Empty:=.c (Sd ⟨2000⟩ (aj x0) 1) fun y1=>.k y1.2
def zQ(x0:Node):=(E5 x0).o
def ah2:=Sg.f0 31 [.ah] [.bool] (fun a=>E5 a) Tryz.func31
def JV(x0:List (aqO))(x1:List Node):Te (Node) Empty:=.q (decide (x0.length*16<=aB)) (.q (decide (x1.length*72<=aB)) (.c (zQ ⟨3,[],x0,x1⟩) fun y1=>.b (!y1) (.k ⟨0,[],[],[]⟩) (.k ⟨3,[],x0,x1⟩)))
def lK(x0:List (aqO))(x1:List Node):=(JV x0 x1).o
def apn:=((ah2.R 83 (Og 25) (GX (T:=23) (b:=4) (e:=25) (fn:=Tryz.f83) (by kernel_rfl) (by kernel_rfl) (by kernel_rfl) (by kernel_rfl) (by kernel_rfl) (by kernel_rfl))).R 82 (Og 9) (GX (T:=22) (b:=4) (e:=9) (fn:=Tryz.f82) (by kernel_rfl) (by kernel_rfl) (by kernel_rfl) (by kernel_rfl) (by kernel_rfl) (by kernel_rfl))).f0 102 [.cu,.jT] [.ah] (fun a=>JV a.1 a.2) Tryz.func102
def Hg(x0:Node):Te (Node×Bool) Empty:=.b (x0.kind==0) (.c (aU ⟨⟨3,x0.text,x0.keys,x0.kids⟩,aC x0.keys,false⟩ [99,111,110,100,105,116,105,111,110] [115,101,114,118,105,99,101,95,115,116,97,114,116,101,100]) fun y1=>.c (eU ⟨aj ((y1.1).n),(y1.1).left,(y1.1).bad⟩ [114,101,115,116,97,114,116] false) fun y2=>.c (eU ⟨aj ((y2.1).n),(y2.1).left,(y2.1).bad⟩ [114,101,113,117,105,114,101,100] true) fun y3=>.c (kZ (y3.2)) fun y4=>.c (kZ (y2.2)) fun y5=>.c (lK [[99,111,110,100,105,116,105,111,110],[114,101,113,117,105,114,101,100],[114,101,115,116,97,114,116]] [dx (y1.2),y4,y5]) fun y6=>.k (aj y6,aab (!(aL (y3.1).bad (aab (aab (!(y1.2==[115,101,114,118,105,99,101,95,115,116,97,114,116,101,100])) (!(y1.2==[115,101,114,118,105,99,101,95,104,101,97,108,116,104,121]))) (!(y1.2==[115,101,114,118,105,99,101,95,99,111,109,112,108,101,116,101,100,95,115,117,99,99,101,115,115,102,117,108,108,121]))))) ((y3.1).left==0))) (.c (aU ⟨aj x0,aC x0.keys,(x0.kind != 3)⟩ [99,111,110,100,105,116,105,111,110] [115,101,114,118,105,99,101,95,115,116,97,114,116,101,100]) fun y7=>.c (eU ⟨aj ((y7.1).n),(y7.1).left,(y7.1).bad⟩ [114,101,115,116,97,114,116] false) fun y8=>.c (eU ⟨aj ((y8.1).n),(y8.1).left,(y8.1).bad⟩ [114,101,113,117,105,114,101,100] true) fun y9=>.c (kZ (y9.2)) fun ig=>.c (kZ (y8.2)) fun wW=>.c (lK [[99,111,110,100,105,116,105,111,110],[114,101,113,117,105,114,101,100],[114,101,115,116,97,114,116]] [dx (y7.2),ig,wW]) fun mX=>.k (aj mX,aab (!(aL (y9.1).bad (aab (aab (!(y7.2==[115,101,114,118,105,99,101,95,115,116,97,114,116,101,100])) (!(y7.2==[115,101,114,118,105,99,101,95,104,101,97,108,116,104,121]))) (!(y7.2==[115,101,114,118,105,99,101,95,99,111,109,112,108,101,116,101,100,95,115,117,99,99,101,115,115,102,117,108,108,121]))))) ((y9.1).left==0)))
def BS(x0:Node):=(Hg x0).o
def akP:=apn.f0 101 [.ah] [.ah,.bool] (fun a=>Hg a) Tryz.func101
inductive Xe where
 | e (x0:Node)
 | h0 (v0:List (aqO)) (v1:Int) (v2:Int) (v3:Node) (v4:Int) (v5:aqO) (v6:form)
def yM:Xe->Te (Node×Int) Xe
 | .e x0=>.c (mW (aj x0)) fun y1=>.c (jJ (aj x0) 3) fun y2=>.b y2 (.c (bX ⟨⟨0,[],[],[]⟩,false⟩ (!true)) fun y3=>.g (.h0 x0.keys (aC x0.keys) 0 x0 0 [] ⟨aj ((y3.1).n),(y3.1).bad⟩)) (.c (bX ⟨⟨0,[],[],[]⟩,false⟩ (!y1.2)) fun y4=>.g (.h0 (y1.1) (aC (y1.1)) 0 x0 0 [] ⟨aj ((y4.1).n),(y4.1).bad⟩))
 | .h0 v0 v1 v2 v3 v4 v5 v6=>.l (aj v6.n) fun z1=>.b (aF v2 v1) (.i v0 v2 fun y1=>.l (iL y1) fun z2=>.b (v3.kind==3) (.i v3.kids v2 fun y2=>.c (BS (aj y2)) fun y3=>.q ((z2.isSome) || !(!(!y3.2))) (.c (bX ⟨z1,v6.bad⟩ (aL (!y3.2) (!(gv z2)))) fun y4=>.c (bZ ⟨aj ((y4.1).n),(y4.1).bad⟩ y1 (aj (y3.1))) fun y5=>.g (.h0 v0 v1 (ak (v2+1)) v3 v4 v5 ⟨aj ((y5.1).n),(y5.1).bad⟩))) (.c (BS ⟨0,[],[],[]⟩) fun y6=>.q ((z2.isSome) || !(!(!y6.2))) (.c (bX ⟨z1,v6.bad⟩ (aL (!y6.2) (!(gv z2)))) fun y7=>.c (bZ ⟨aj ((y7.1).n),(y7.1).bad⟩ y1 (aj (y6.1))) fun y8=>.g (.h0 v0 v1 (ak (v2+1)) v3 v4 v5 ⟨aj ((y8.1).n),(y8.1).bad⟩)))) (.c (dA ⟨z1,v6.bad⟩) fun y9=>.k (aj (y9.2.1),y9.2.2))
def yN(x0:Node):=mu yM (.e x0)
def akQ:=akP.fl 47 [.ah] [.ah,.aW] yM (fun a=>.e a) (fun | .e x0=>.e [⟨.ah,x0⟩] | .h0 v0 v1 v2 v3 v4 v5 v6=>.h 0 ⟨59,[(1,.ptr 0 0),(2,.ptr 1 0),(4,.ptr 2 0),(24,.d (.slice .str v0)),(25,.d (.int .i64 v1)),(26,.d (.int .i64 v2))],[(0,.box [.d (.int .i64 v3.kind),.d (.str v3.text),.d (.slice .str v3.keys),.d (.slice .ah v3.kids)]),(1,.box [.d (.int .i64 v4),.d (.str v5),.d (.raw (.slice none 0 0)),.d (.raw (.slice none 0 0))]),(2,.box [.d (.int .i64 v6.n.kind),.d (.str v6.n.text),.d (.slice .str v6.n.keys),.d (.slice .ah v6.n.kids),.d (.bool v6.bad)])],3⟩) { live:=[(0,[1,2,4,24,25,26])] } Tryz.func47
def AL(x0:Node):Te (Node×Int) Empty:=.l (aj x0) fun z1=>.b (x0.kind==1) (.c (lK [[115,101,114,118,105,99,101]] [z1]) fun y1=>.l (aj y1) fun z2=>.c (aU ⟨z2,aC (y1.keys),(y1.kind != 3)⟩ [115,101,114,118,105,99,101] []) fun y2=>.l (iL (y2.2)) fun z3=>.c (aU ⟨aj ((y2.1).n),(y2.1).left,(y2.1).bad⟩ [102,105,108,101] [120]) fun y3=>.l (!(aab (!(y3.1).bad) ((y3.1).left==0))) fun z4=>.q ((z3.isSome) || !(!z4)) (.b (aL (aL (aL z4 (!(gv z3))) (y3.2==[])) (aF 64 (aC (y3.2)))) (.c dW fun y4=>.k (aj (y4.1),y4.2)) (.q ((wg 10000 1000) z2) (.k (aj ((fP 1000) z2),0))))) (.c (aU ⟨z1,aC x0.keys,(x0.kind != 3)⟩ [115,101,114,118,105,99,101] []) fun y5=>.l (iL (y5.2)) fun z5=>.c (aU ⟨aj ((y5.1).n),(y5.1).left,(y5.1).bad⟩ [102,105,108,101] [120]) fun y6=>.l (!(aab (!(y6.1).bad) ((y6.1).left==0))) fun z6=>.q ((z5.isSome) || !(!z6)) (.b (aL (aL (aL z6 (!(gv z5))) (y6.2==[])) (aF 64 (aC (y6.2)))) (.c dW fun y7=>.k (aj (y7.1),y7.2)) (.q ((wg 10000 1000) z1) (.k (aj ((fP 1000) z1),0)))))
def q8(x0:Node):=(AL x0).o
def aco:=akQ.f0 48 [.ah] [.ah,.aW] (fun a=>AL a) Tryz.func48
inductive Xf where
 | e (x0:aqO)
 | h0 (v0:aqO) (v1:Int) (v2:Int)
def yO:Xf->Te (Bool) Xf
 | .e x0=>.g (.h0 x0 (x0.length) 0)
 | .h0 v0 v1 v2=>.b (aF v2 v1) (.s v0 v2 fun y1=>.b (aab (aab (aab (aL (aF y1 97) (aF 122 y1)) (aL (aF y1 65) (aF 90 y1))) (aL (aF y1 48) (aF 57 y1))) (aF (Gl [46,95,45,47,58,61,44,43,64,37] y1) 0)) (.k false) (.g (.h0 v0 v1 (ak (v2+1))))) (.k (!(v0==[])))
def Hl(x0:aqO):=mu yO (.e x0)
def akR:=aco.fl 201 [.str] [.bool] yO (fun a=>.e a) (fun | .e x0=>.e [⟨.str,x0⟩] | .h0 v0 v1 v2=>.h 0 ⟨43,[(0,.d (.str v0)),(6,.d (.int .i64 v1)),(7,.d (.int .i64 v2))],[],0⟩) { live:=[(0,[0,6,7])] } Tryz.func201
inductive Xg where
 | e (x0:List (aqO))
 | h0 (v0:List (aqO)) (v1:List (aqO)) (v2:Int) (v3:Int)
def yP:Xg->Te ((aqO)) Xg
 | .e x0=>.g (.h0 [] x0 (x0.length) 0)
 | .h0 v0 v1 v2 v3=>.b (aF v3 v2) (.i v1 v3 fun y1=>.l ((fun s old new=>Xd s old new (-1)) y1 [39] [39,92,39,39]) fun z1=>.l (([39]:aqO)++z1) fun z2=>.l (z2++([39]:aqO)) fun z3=>.c (Hl y1) fun y2=>.b (!y2) (.q ((fun s old new=>TP s old new (-1)) y1 [39] [39,92,39,39]) (.q (decide (([39]:aqO).length+z1.length<=aA)) (.q (decide (z2.length+([39]:aqO).length<=aA)) (.q (decide ((v0.length+([z3]:List (aqO)).length)*16<=aB)) (.g (.h0 (v0++([z3]:List (aqO))) v1 v2 (ak (v3+1)))))))) (.q (decide ((v0.length+([y1]:List (aqO)).length)*16<=aB)) (.g (.h0 (v0++([y1]:List (aqO))) v1 v2 (ak (v3+1)))))) (.q (acd v0 [32]) (.k (Lib.join v0 [32])))
def Ho(x0:List (aqO)):=mu yP (.e x0)
def akS:=(akR.W 202 acf au8).fl 156 [.cu] [.str] yP (fun a=>.e a) (fun | .e x0=>.e [⟨.cu,x0⟩] | .h0 v0 v1 v2 v3=>.h 0 ⟨26,[(3,.grow .str v0 0),(6,.d (.slice .str v1)),(7,.d (.int .i64 v2)),(8,.d (.int .i64 v3))],[(0,.tail true)],1⟩) { live:=[(0,[3,6,7,8])],oC:=[(0,[(3,none,true,.str)])] } Tryz.func156
def Hq(x0:Node):Te ((aqO)×Bool×Bool) Empty:=.b (x0.kind==1) (.k (x0.text,false,true)) (.c (mW (aj x0)) fun y1=>.l (aC (y1.1)) fun z1=>.b (aL (!y1.2) (z1==0)) (.k ([],false,false)) (.i y1.1 0 fun y2=>.b (y2==[78,79,78,69]) (.k ([],true,(z1==1))) (.b (y2==[67,77,68,45,83,72,69,76,76]) (.b (z1==2) (.i y1.1 1 fun y3=>.k (y3,false,true)) (.k ([],false,false))) (.b (y2==[67,77,68]) (.q (bN (y1.1) 1 z1) (.c (Ho (cut (y1.1) 1 z1)) fun y4=>.k (y4,false,aF 1 z1))) (.k ([],false,false))))))
def Hr(x0:Node):=(Hq x0).o
def akT:=akS.f0 107 [.ah] [.str,.bool,.bool] (fun a=>Hq a) Tryz.func107
inductive Rx where
 | e (x0:aqO)
 | h0 (v0:aqO) (v1:Int)
def sZ:Rx->Te (Int) Rx
 | .e x0=>.g (.h0 x0 0)
 | .h0 v0 v1=>.l (aab (aF v1 (aC v0)) (bV 48 (sH v0 v1))) fun z1=>.q (fZ v0 v1 || !(aF v1 (aC v0))) (.q (fZ v0 v1 || !z1) (.b (aab z1 (bV (sH v0 v1) 57)) (.g (.h0 v0 (ak (v1+1)))) (.k v1)))
def nO(x0:aqO):=mu sZ (.e x0)
def ae6:=akT.fl 157 [.str] [.int] sZ (fun a=>.e a) (fun | .e x0=>.e [⟨.str,x0⟩] | .h0 v0 v1=>.h 0 ⟨23,[(0,.d (.str v0)),(3,.d (.int .i64 v1))],[],0⟩) { live:=[(0,[0,3])] } Tryz.func157
def JW(x0:aqO):Te (Int×Int×Int) Empty:=.b (x0==[]) (.k (0,0,0)) (.s x0 0 fun y1=>.b (y1==104) (.k (1,3600000,1)) (.b (y1==109) (.q (fZ x0 1 || !(!(aF (aC x0) 2))) (.b (aL (aF (aC x0) 2) (sH x0 1 != 115)) (.k (2,60000,1)) (.k (4,1,2)))) (.b (y1==115) (.k (3,1000,1)) (.k (0,0,0)))))
def oO(x0:aqO):=(JW x0).o
def apo:=ae6.f0 158 [.str] [.int,.int,.int] (fun a=>JW a) Tryz.func158
inductive Xh where
 | e (x0:aqO)
 | h0 (v0:aqO) (v1:Int) (v2:Int) (v3:Bool) (v4:Int)
def BU:Xh->Te (Int×Int) Xh
 | .e x0=>.g (.h0 x0 0 0 false 0)
 | .h0 v0 v1 v2 v3 v4=>.l (ak (1099511627776-v1)) fun z1=>.b (aL (aF v4 (aC v0)) (v2==0)) (.q (bN v0 v4 (aC v0)) (.c (nO (cut v0 v4 (aC v0))) fun y1=>.l (ak (v4+y1)) fun z2=>.q (bN v0 v4 z2) (.c (gI (cut v0 v4 z2) 1099511627776) fun y2=>.l (aL v3 (y2.2 != 0)) fun z3=>.q (bN v0 z2 (aC v0)) (.c (oO (cut v0 z2 (aC v0))) fun y3=>.l (ak (z2+y3.2.2)) fun z5=>.l (aL z3 (aF (ak (Int.tdiv z1 y3.2.1)) y2.1)) fun z4=>.b (aL (aL (y2.2==3) (y3.2.2==0)) (bV y3.1 v2)) (.k (0,3)) (.b (aab (aab (y2.2==0) (y2.1==0)) (aL (aF 0 v2) (aF z5 (aC v0)))) (.k (0,3)) (.q ((!(y3.2.1==0)) || !(!z3)) (.b (!z4) (.g (.h0 v0 (ak (v1+ak (y2.1*y3.2.1))) (y3.1) z4 z5)) (.g (.h0 v0 v1 (y3.1) z4 z5))))))))) (.b v3 (.k (0,9)) (.k (v1,0)))
def Ht(x0:aqO):=mu BU (.e x0)
def akU:=apo.fl 108 [.str] [.int,.aW] BU (fun a=>.e a) (fun | .e x0=>.e [⟨.str,x0⟩] | .h0 v0 v1 v2 v3 v4=>.h 0 ⟨105,[(0,.d (.str v0)),(4,.d (.int .i64 v1)),(5,.d (.int .i64 v2)),(6,.d (.bool v3)),(7,.d (.int .i64 v4))],[],0⟩) { live:=[(0,[0,4,5,6,7])] } Tryz.func108
inductive aay where
 | e (x0:Int)
 | h0 (v0:Int) (v1:aqO) (v2:Tz) (v3:Int)
def AO:aay->Te ((aqO)) aay
 | .e x0=>.b (aL (aF x0 0) (aF 1099511627776 x0)) (.k []) (.b (x0==0) (.k [48,115]) (.g (.h0 x0 [] ⟨⟨3600000,[104]⟩,⟨60000,[109]⟩,⟨1000,[115]⟩,⟨1,[109,115]⟩⟩ 0)))
 | .h0 v0 v1 v2 v3=>.l (zL [v2.e0,v2.e1,v2.e2,v2.e3] v3 (dflt .vB)) fun z1=>.l (ak (Int.tdiv v0 z1.long)) fun z2=>.b (aF v3 4) (.q (bV 0 v3&&aF v3 4) (.q (!(z1.long==0)) (.b (aF 0 z2) (.c (pW z2) fun y1=>.q (decide (y1.length+(z1.name).length<=aA)) (.q (decide (v1.length+(y1++z1.name).length<=aA)) (.g (.h0 (ak (v0-ak (z2*z1.long))) (v1++(y1++z1.name)) v2 (ak (v3+1)))))) (.g (.h0 v0 v1 v2 (ak (v3+1))))))) (.k v1)
def JX(x0:Int):=mu AO (.e x0)
def apq:=akU.fl 109 [.int] [.str] AO (fun a=>.e a) (fun | .e x0=>.e [⟨.int,x0⟩] | .h0 v0 v1 v2 v3=>.h 0 ⟨46,[(0,.d (.int .i64 v0)),(3,.d (.str v1)),(21,.st .mR v2),(22,.d (.int .i64 v3))],[],0⟩) { live:=[(0,[0,3,21,22])] } Tryz.func109
inductive Ry where
 | e (x0:Node)
 | h0 (v0:Bool) (v1:List (aqO)) (v2:Int) (v3:Int) (v4:Node) (v5:Int) (v6:aqO) (v7:form) (v8:field)
def tq:Ry->Te (Node×Int) Ry
 | .e x0=>.l (aj x0) fun z2=>.l (aC ([[105,110,116,101,114,118,97,108],[115,116,97,114,116,95,112,101,114,105,111,100]]:List (aqO))) fun z1=>.c (eU ⟨z2,aC x0.keys,(x0.kind != 3)⟩ [100,105,115,97,98,108,101] false) fun y1=>.l (aj ((y1.1).n)) fun z3=>.q ((fun n _=>fit n) z2 [116,101,115,116]) (.b (aD z2 [116,101,115,116]) (.c (Hr (aj (aJ z2 [116,101,115,116]))) fun y2=>.c (bZ ⟨⟨0,[],[],[]⟩,false⟩ [116,101,115,116] (dx (y2.1))) fun y3=>.g (.h0 (aL y1.2 y2.2.1) [[105,110,116,101,114,118,97,108],[115,116,97,114,116,95,112,101,114,105,111,100]] z1 0 x0 0 [] ⟨aj ((y3.1).n),(y3.1).bad⟩ ⟨z3,ak ((y1.1).left-1),aL (y1.1).bad (!y2.2.2)⟩)) (.g (.h0 (y1.2) [[105,110,116,101,114,118,97,108],[115,116,97,114,116,95,112,101,114,105,111,100]] z1 0 x0 0 [] ⟨⟨0,[],[],[]⟩,false⟩ ⟨z3,(y1.1).left,(y1.1).bad⟩)))
 | .h0 v0 v1 v2 v3 v4 v5 v6 v7 v8=>.l (aj v7.n) fun z1=>.b (aF v3 v2) (.i v1 v3 fun y1=>.l (y1==[105,110,116,101,114,118,97,108]) fun z2=>.c (aU ⟨aj v8.n,v8.left,v8.bad⟩ y1 [49,115]) fun y2=>.l (aj ((y2.1).n)) fun z3=>.c (Ht (y2.2)) fun y3=>.l (aL (aL (y2.1).bad (y3.2 != 0)) (aab z2 (y3.1==0))) fun z4=>.q ((fun n _=>fit n) (aj v4) y1) (.b (aD (aj v4) y1) (.c (JX (y3.1)) fun y4=>.c (bZ ⟨z1,v7.bad⟩ y1 (dx y4)) fun y5=>.g (.h0 v0 v1 v2 (ak (v3+1)) v4 v5 v6 ⟨aj ((y5.1).n),(y5.1).bad⟩ ⟨z3,(y2.1).left,z4⟩)) (.g (.h0 v0 v1 v2 (ak (v3+1)) v4 v5 v6 ⟨z1,v7.bad⟩ ⟨z3,(y2.1).left,z4⟩)))) (.c (ku ⟨aj v8.n,v8.left,v8.bad⟩ [114,101,116,114,105,101,115]) fun y6=>.b (aF 0 y6.2) (.c (pW (y6.2)) fun y7=>.c (bZ ⟨z1,v7.bad⟩ [114,101,116,114,105,101,115] (dx y7)) fun y8=>.b (!(aab (!(aL (y6.1).bad (aF 10 y6.2))) ((y6.1).left==0))) (.c dW fun y9=>.k (aj (y9.1),y9.2)) (.b v0 (.c (kZ true) fun ig=>.c (bZ ⟨⟨0,[],[],[]⟩,false⟩ [100,105,115,97,98,108,101] ig) fun wW=>.c (dA ⟨aj ((wW.1).n),(wW.1).bad⟩) fun mX=>.k (aj (mX.2.1),mX.2.2)) (.c (dA ⟨aj ((y8.1).n),(y8.1).bad⟩) fun y13=>.k (aj (y13.2.1),y13.2.2)))) (.b (!(aab (!(y6.1).bad) ((y6.1).left==0))) (.c dW fun zu=>.k (aj (zu.1),zu.2)) (.b v0 (.c (kZ true) fun y15=>.c (bZ ⟨⟨0,[],[],[]⟩,false⟩ [100,105,115,97,98,108,101] y15) fun Ua=>.c (dA ⟨aj ((Ua.1).n),(Ua.1).bad⟩) fun Ub=>.k (aj (Ub.2.1),Ub.2.2)) (.c (dA ⟨z1,v7.bad⟩) fun Uc=>.k (aj (Uc.2.1),Uc.2.2)))))
def tu(x0:Node):=mu tq (.e x0)
def ae7:=apq.fl 49 [.ah] [.ah,.aW] tq (fun a=>.e a) (fun | .e x0=>.e [⟨.ah,x0⟩] | .h0 v0 v1 v2 v3 v4 v5 v6 v7 v8=>.h 0 ⟨139,[(1,.ptr 0 0),(2,.ptr 1 0),(4,.ptr 2 0),(5,.ptr 3 0),(6,.d (.bool v0)),(61,.d (.slice .str v1)),(62,.d (.int .i64 v2)),(63,.d (.int .i64 v3))],[(0,.box [.d (.int .i64 v4.kind),.d (.str v4.text),.d (.slice .str v4.keys),.d (.slice .ah v4.kids)]),(1,.box [.d (.int .i64 v5),.d (.str v6),.d (.raw (.slice none 0 0)),.d (.raw (.slice none 0 0))]),(2,.box [.d (.int .i64 v7.n.kind),.d (.str v7.n.text),.d (.slice .str v7.n.keys),.d (.slice .ah v7.n.kids),.d (.bool v7.bad)]),(3,.box [.d (.int .i64 v8.n.kind),.d (.str v8.n.text),.d (.slice .str v8.n.keys),.d (.slice .ah v8.n.kids),.d (.int .i64 v8.left),.d (.bool v8.bad)])],4⟩) { live:=[(0,[1,2,4,5,6,61,62,63])],oC:=[(0,[(4,some 2,false,.str),(4,some 3,false,.ah)])] } Tryz.func49
def jy(x0 x1:aqO):Te ((aqO)×Bool) Empty:=.c (iD x0 x1) fun y1=>.b (!y1) (.k (x0,false)) (.q (bN x0 (aC x1) (aC x0)) (.k (cut x0 (aC x1) (aC x0),true)))
def jA(x0 x1:aqO):=(jy x0 x1).o
def Dx:=ae7.f0 159 [.str,.str] [.str,.bool] (fun a=>jy a.1 a.2) Tryz.func159
def sF(x0 x1:aqO):Te ((aqO)×Bool) Empty:=.c (jA x0 x1) fun y1=>.k (y1.1,y1.2)
def sG(x0 x1:aqO):=(sF x0 x1).o
def Si:=Dx.f0 114 [.str,.str] [.str,.bool] (fun a=>sF a.1 a.2) Tryz.func114
def xG(x0:aqO):Te (Bool) Empty:=.c (sG x0 [111,110,45,102,97,105,108,117,114,101,58]) fun y1=>.b y1.2 (.c (gI (y1.1) 10) fun y2=>.k (aab (y2.2==0) (aF 0 y2.1))) (.k (aL (aL (aL (x0==[110,111]) (x0==[97,108,119,97,121,115])) (x0==[117,110,108,101,115,115,45,115,116,111,112,112,101,100])) (x0==[111,110,45,102,97,105,108,117,114,101])))
def xH(x0:aqO):=(xG x0).o
def Yu:=Si.f0 113 [.str] [.bool] (fun a=>xG a) Tryz.func113
def kT(x0:Node):Te (Node×Int) Empty:=.l (xH x0.text) fun z1=>.q ((z1.isSome) || !(!(x0.kind != 1))) (.b (aL (x0.kind != 1) (!(gv z1))) (.c dW fun y1=>.k (aj (y1.1),y1.2)) (.k (aj x0,0)))
def kW(x0:Node):=(kT x0).o
def IC:=Yu.c0 87 [.ah,.aW] [.v .ah,.c 113 [] []] (fun a=>kT a) Tryz.func87
def AP(x0:Node):Te (Node×Int) Empty:=.c (kW (aj x0)) fun y1=>.k (aj (y1.1),y1.2)
def q9(x0:Node):=(AP x0).o
def acp:=IC.f0 50 [.ah] [.ah,.aW] (fun a=>AP a) Tryz.func50
def AQ(x0:aqO):Te (Bool) Empty:=.c (gI x0 8) fun y1=>.k (y1.2==0)
def AU(x0:aqO):=(AQ x0).o
def acr:=acp.f0 116 [.str] [.bool] (fun a=>AQ a) Tryz.func116
def l9(x0:Node):Te (Node×Int) Empty:=.l (AU x0.text) fun z1=>.q ((z1.isSome) || !(!(x0.kind != 1))) (.b (aL (x0.kind != 1) (!(gv z1))) (.c dW fun y1=>.k (aj (y1.1),y1.2)) (.k (aj x0,0)))
def mg(x0:Node):=(l9 x0).o
def JY:=acr.c0 87 [.ah,.aW] [.v .ah,.c 116 [] []] (fun a=>l9 a) Tryz.func87
def E8(x0:Node):Te (Node×Int) Empty:=.c (mg (aj x0)) fun y1=>.k (aj (y1.1),y1.2)
def vS(x0:Node):=(E8 x0).o
def ah3:=JY.f0 51 [.ah] [.ah,.aW] (fun a=>E8 a) Tryz.func51
inductive RA where
 | e (x0:aqO)
 | h0 (v0:aqO) (v1:Int) (v2:Int)
def tC:RA->Te ((aqO)×(aqO)×Bool) RA
 | .e x0=>.g (.h0 x0 (x0.length) 0)
 | .h0 v0 v1 v2=>.l (ak (v2+1)) fun z1=>.b (aF v2 v1) (.s v0 v2 fun y1=>.b (y1==46) (.q (bN v0 0 v2) (.q (bN v0 z1 (aC v0)) (.k (cut v0 0 v2,cut v0 z1 (aC v0),true)))) (.g (.h0 v0 v1 z1))) (.k (v0,[],false))
def C8(x0:aqO):=mu tC (.e x0)
def ae8:=ah3.fl 161 [.str] [.str,.str,.bool] tC (fun a=>.e a) (fun | .e x0=>.e [⟨.str,x0⟩] | .h0 v0 v1 v2=>.h 0 ⟨24,[(0,.d (.str v0)),(7,.d (.int .i64 v1)),(8,.d (.int .i64 v2))],[],0⟩) { live:=[(0,[0,7,8])] } Tryz.func161
inductive RD where
 | e (x0:aqO)
 | h0 (v0:aqO) (v1:aqO) (v2:Int) (v3:Int)
def tF:RD->Te (Int×Int) RD
 | .e x0=>.c (C8 x0) fun y1=>.l (aC (y1.2.1)) fun z1=>.l (aL (aF z1 1) (aF 3 z1)) fun z2=>.b y1.2.2 (.q (fZ (y1.2.1) (ak (z1-1)) || !(!z2)) (.b (aL z2 (sH (y1.2.1) (ak (z1-1))==48)) (.k (0,3)) (.g (.h0 (y1.1) (y1.2.1) 0 0)))) (.g (.h0 (y1.1) (y1.2.1) 0 0))
 | .h0 v0 v1 v2 v3=>.b (aF v3 3) (.b (bV (aC v1) v3) (.g (.h0 v0 v1 (ak (v2*10)) (ak (v3+1)))) (.s v1 v3 fun y1=>.q (fZ v1 v3 || !(!(aF y1 48))) (.b (aL (aF y1 48) (aF 57 y1)) (.k (0,3)) (.q (fZ v1 v3) (.g (.h0 v0 v1 (ak (ak (v2*10)+ak (IntKind.wrap .u8 (y1-48)))) (ak (v3+1)))))))) (.c (yg v0 9007199254740) fun y3=>.l (ak (y3.1*1000)) fun z1=>.b (y3.2 != 0) (.k (0,y3.2)) (.b (aF (ak (9007199254740992-v2)) z1) (.k (0,9)) (.k (ak (z1+v2),0))))
def C9(x0:aqO):=mu tF (.e x0)
def ae9:=ae8.fl 118 [.str] [.int,.aW] tF (fun a=>.e a) (fun | .e x0=>.e [⟨.str,x0⟩] | .h0 v0 v1 v2 v3=>.h 0 ⟨80,[(4,.d (.str v0)),(5,.d (.str v1)),(7,.d (.int .i64 v2)),(34,.d (.int .i64 v3))],[],0⟩) { live:=[(0,[4,5,7,34])] } Tryz.func118
def Da(x0:aqO):Te (Bool) Empty:=.c (C9 x0) fun y1=>.k (aab (y1.2==0) (aF 0 y1.1))
def Db(x0:aqO):=(Da x0).o
def afa:=ae9.f0 117 [.str] [.bool] (fun a=>Da a) Tryz.func117
def mY(x0:Node):Te (Node×Int) Empty:=.l (Db x0.text) fun z1=>.q ((z1.isSome) || !(!(x0.kind != 1))) (.b (aL (x0.kind != 1) (!(gv z1))) (.c dW fun y1=>.k (aj (y1.1),y1.2)) (.k (aj x0,0)))
def mZ(x0:Node):=(mY x0).o
def KP:=afa.c0 87 [.ah,.aW] [.v .ah,.c 117 [] []] (fun a=>mY a) Tryz.func87
def Hu(x0:Node):Te (Node×Int) Empty:=.c (mZ (aj x0)) fun y1=>.k (aj (y1.1),y1.2)
def yQ(x0:Node):=(Hu x0).o
def akV:=KP.f0 52 [.ah] [.ah,.aW] (fun a=>Hu a) Tryz.func52
def Hw(x0:aqO):Te (Int×Bool) Empty:=.l (aab (aC x0==2) (sH x0 1==98)) fun z2=>.l (cut x0 0 1) fun z1=>.q (fZ x0 1 || !(aC x0==2)) (.q (fZ x0 0 || !z2) (.b (aab z2 (sH x0 0 != 98)) (.q (bN x0 0 1) (.b (z1==[]) (.b (z1==[]) (.k (0,true)) (.b (z1==[107]) (.k (1,true)) (.b (z1==[109]) (.k (2,true)) (.b (z1==[103]) (.k (3,true)) (.k (0,false)))))) (.b (z1==[98]) (.k (0,true)) (.b (z1==[107]) (.k (1,true)) (.b (z1==[109]) (.k (2,true)) (.b (z1==[103]) (.k (3,true)) (.k (0,false)))))))) (.b (x0==[]) (.b (x0==[]) (.k (0,true)) (.b (x0==[107]) (.k (1,true)) (.b (x0==[109]) (.k (2,true)) (.b (x0==[103]) (.k (3,true)) (.k (0,false)))))) (.b (x0==[98]) (.k (0,true)) (.b (x0==[107]) (.k (1,true)) (.b (x0==[109]) (.k (2,true)) (.b (x0==[103]) (.k (3,true)) (.k (0,false)))))))))
def BX(x0:aqO):=(Hw x0).o
def akW:=akV.f0 162 [.str] [.int,.bool] (fun a=>Hw a) Tryz.func162
inductive Ud where
 | e (x0:aqO)
 | h0 (v0:aqO) (v1:Int)
def vT:Ud->Te (Int×Int) Ud
 | .e x0=>.g (.h0 x0 (x0.length))
 | .h0 v0 v1=>.l (ak (v1-1)) fun z1=>.l (aF (sH v0 z1) 48) fun z2=>.q (fZ v0 z1 || !(aF 0 v1)) (.q (fZ v0 z1 || !(aF 0 v1&&(!z2))) (.b (aab (aF 0 v1) (aL z2 (aF 57 (sH v0 z1)))) (.g (.h0 v0 z1)) (.q (bN v0 v1 (aC v0)) (.c (BX (cut v0 v1 (aC v0))) fun y1=>.l (ak (10*y1.1)) fun z3=>.l (bV 0 z3&&bV z3 64) fun z4=>.b (!y1.2) (.k (0,3)) (.q (bN v0 0 v1) (.q z4 (.c (gI (cut v0 0 v1) (1125899906842624 / 2 ^ (Int.toNat z3))) fun y2=>.q z4 (.k (ak (y2.1*2 ^ (Int.toNat z3)),y2.2)))))))))
def E9(x0:aqO):=mu vT (.e x0)
def ah4:=akW.fl 119 [.str] [.int,.aW] vT (fun a=>.e a) (fun | .e x0=>.e [⟨.str,x0⟩] | .h0 v0 v1=>.h 0 ⟨53,[(0,.d (.str v0)),(4,.d (.int .i64 v1))],[],0⟩) { live:=[(0,[0,4])] } Tryz.func119
inductive Ue where
 | e (x0:Int)
 | h0 (v0:Int) (v1:Int)
def zR:Ue->Te (Int) Ue
 | .e x0=>.g (.h0 x0 0)
 | .h0 v0 v1=>.b (aab (aab (aF v1 3) (v0 != 0)) (bits .and .i64 v0 1023==0)) (.q (bV 0 10&&bV 10 64) (.g (.h0 (v0 / 2 ^ (Int.toNat 10)) (ak (v1+1))))) (.k v1)
def ng(x0:Int):=mu zR (.e x0)
def ah5:=ah4.fl 163 [.int] [.int] zR (fun a=>.e a) (fun | .e x0=>.e [⟨.int,x0⟩] | .h0 v0 v1=>.h 0 ⟨20,[(0,.d (.int .i64 v0)),(3,.d (.int .i64 v1))],[],0⟩) { live:=[(0,[0,3])] } Tryz.func163
def Hy(x0:Int):Te ((aqO)) Empty:=.b (aL (aF x0 0) (aF 1125899906842624 x0)) (.k []) (.c (ng x0) fun y1=>.l (ak (10*y1)) fun z2=>.l (zL [[],[107],[109],[103]] y1 (dflt .str)) fun z1=>.q (bV 0 z2&&bV z2 64) (.c (pW (x0 / 2 ^ (Int.toNat z2))) fun y2=>.q (bV 0 y1&&aF y1 4) (.q (decide (y2.length+z1.length<=aA)) (.k (y2++z1)))))
def Hz(x0:Int):=(Hy x0).o
def akX:=ah5.f0 120 [.int] [.str] (fun a=>Hy a) Tryz.func120
def Fb(x0:Node):Te (Node×Int) Empty:=.c (E9 x0.text) fun y1=>.b (aL (aL (x0.kind != 1) (y1.2 != 0)) (y1.1==0)) (.c dW fun y2=>.k (aj (y2.1),y2.2)) (.c (Hz (y1.1)) fun y3=>.k (aj (dx y3),0))
def vU(x0:Node):=(Fb x0).o
def ah6:=akX.f0 53 [.ah] [.ah,.aW] (fun a=>Fb a) Tryz.func53
def KQ(x0:Int):Te (Bool) Empty:=.c (vL x0) fun y1=>.q (((fA x0).isSome) || !(!y1)) (.k (aL y1 (gv (fA x0))))
def Yv(x0:Int):=(KQ x0).o
def Yw:=ah6.f0 68 [.byte] [.bool] (fun a=>KQ a) Tryz.func68
def Yx(x0:Int):Te (Bool) Empty:=.c (vL x0) fun y1=>.q (((fA x0).isSome) || !(!y1)) (.k (aL (aL (aL y1 (gv (fA x0))) (x0==45)) (x0==95)))
def Yy:=Yw.f0 71 [.byte] [.bool] (fun a=>Yx a) Tryz.func71
inductive mD where
 | e (x0:aqO)
 | h0 (v0:aqO) (v1:Int)
def mE:mD->Te (Bool) mD
 | .e x0=>.l (Yv (sH x0 0)) fun z2=>.l (aL (aF (aC x0) 1) (aF 24 (aC x0))) fun z1=>.q (fZ x0 0 || !(!z1)) (.q ((z2.isSome) || !(!z1)) (.b (aL z1 (!(gv z2))) (.k false) (.g (.h0 x0 1))))
 | .h0 v0 v1=>.b (aF v1 (aC v0)) (.s v0 v1 fun y1=>.c (vL y1) fun y2=>.q (((fA y1).isSome) || !(!y2)) (.b (!(aL (aL (aL y2 (gv (fA y1))) (y1==45)) (y1==95))) (.k false) (.g (.h0 v0 (ak (v1+1)))))) (.k true)
def wT(x0:aqO):=mu mE (.e x0)
def wU:=(Yy.I 71 Tryz.func71).cl 67 [.bool] [.v .str,.c 68 [] [],.c 71 [] []] mE (fun a=>.e a) (fun | .e x0=>.c [.v ⟨.str,x0⟩,.c 68 [] [],.c 71 [] []] | .h0 v0 v1=>.h 0 ⟨35,[(0,.d (.str v0)),(2,.d (.raw (.func (.func 71) #[] #[]))),(7,.d (.int .i64 v1))],[],0⟩) { live:=[(0,[0,2,7])] } Tryz.func67
def Ot(x0:aqO):Te (Bool) Empty:=.c (wT x0) fun y1=>.k y1
def Ou(x0:aqO):=(Ot x0).o
def acs:=wU.f0 29 [.str] [.bool] (fun a=>Ot a) Tryz.func29
end
end Go.Proofs.YtclnniijooeajaaGreatDoor.Rf
namespace Go.Proofs.YtclnniijooeajaaGreatDoor.bg
open Go Go.RowKit
section
section
variable {P:Program} {n:Nat} {r:Option Nat} {ops:Array Oper} {Q Q':Exit->Act->World->Prop} {K K':Act->World->Prop} {a:Act} {w:World}
abbrev Wd(r:Option Nat):Fence:={ Fence.wide with round:=r }
theorem aaA{f:FuncId}{args:Array Value}{R:Ending->World->Prop}:CallsIn (Wd r) n P f args w R↔Calls P f args w R:=callsIn_wide (n:=n)
theorem ayj{o:Oper}(ho:∀c,o.op ≠ .defer c)(h:o.wp P a w K Q):o.wpIn (Wd r) n P a w K Q:=by
 refine⟨fun _ _=>trivial,?_⟩;rw[show o.semAt (Wd r).round a.eval=execOp a.eval o from Oper.semAt_eq r a.eval o ho];unfold Oper.wp at h;generalize (execOp a.eval o).run P w=q at *;cases q with
 | ok x w' =>
  cases x with
  | enter f args=>exact⟨fun h=>(by cases h),aaA.2 h⟩
  | row row args=>exact⟨fun h=>(by cases h),fun c cs _=>let⟨v,w'',hr,hs⟩:=h c cs;⟨v,w'',hr,stepsIn_wide.2 hs⟩⟩
  | round l f tmps assign body=>exact h.elim
  | _=>exact h
 | halt x w'=>cases x<;>exact h
theorem aaB{F:Fence}{o:Oper}(hK:∀a w,K a w->K' a w)(hp:∀c a w,Q (.panic c) a w->Q' (.panic c) a w)(hl:LetsOut Q->LetsOut Q')(hh:o.wpIn F n P a w K Q):o.wpIn F n P a w K' Q':=by
 unfold Oper.wpIn at *;refine⟨hh.1,?_⟩;have hh:=hh.2;generalize (o.semAt F.round a.eval).run P w=q at *;cases q with
 | ok x w' =>
  cases x<;>simp only[Oper.uponIn]at hh ⊢ <;>
   first
    | exact hK _ _ hh
    | exact⟨hh.1,CallsIn.mono hh.2 (fun e w'' he=>by cases e<;>first | exact hK _ _ he | exact hp _ _ _ he | exact hl he)⟩
    | exact⟨hh.1,RowsIn.mono hh.2 (fun _ _ he=>hK _ _ he)⟩
    | exact⟨hh.1,RoundIn.mono hh.2 (fun e w'' he=>by cases e<;>first | exact hK _ _ he | exact hp _ _ _ he | exact hl he)⟩
 | halt x w'=>cases x<;>simp only[Oper.uponIn]at hh ⊢ <;> first | exact hp _ _ _ hh | exact hh
def Ov:List Oper->Bool
 | []=>true
 | o::r=>(match o.op with | .defer _=>false | _=>true)&&Ov r
theorem acu(hQ:¬ LetsOut Q):∀(l:List Oper) (a:Act) (w:World),Ov l=true->wpList P ops Q l a w->wpListIn (Wd r) n P ops Q l a w
 | [],_,_,_,h=>h
 | o::rest,a,w,hd,h=>by
  simp only[Ov,abj]at hd;unfold wpList at h;unfold wpListIn;split
  ·rename_i hw;rw[if_pos hw]at h;rcases h with h | h
   ·exact aaB (fun a w h=>acu hQ rest a w hd.2 h) (fun _ _ _ h=>h) id (ayj (fun c hc=>by rw[hc]at hd;simp at hd) h)
   ·exact absurd h.2 hQ
  ·rename_i hw;rw[if_neg hw]at h;exact⟨fun _ _=>trivial,acu hQ rest _ w hd.2 h⟩
def Nm(K:Act->World->Prop):Exit->Act->World->Prop
 | .normal,a,w=>K a w
 | _,_,_=>False
theorem Nm.out:¬ LetsOut (Nm K):=fun⟨_,_,h⟩=>h
theorem Yz{F:Fence}{l2:List Oper}:∀(l:List Oper) (a:Act) (w:World),wpListIn F n P ops (Nm (wpListIn F n P ops Q l2)) l a w->wpListIn F n P ops Q (l++l2) a w
 | [],_,_,h=>h
 | o::rest,a,w,h=>by
  unfold wpListIn at h;rw[aeF];unfold wpListIn;split
  ·rename_i hw;rw[if_pos hw]at h;exact aaB (fun a w h=>Yz rest a w h) (fun _ _ _ h=>h.elim) (fun h=>absurd h Nm.out) h
  ·rename_i hw;rw[if_neg hw]at h;exact⟨h.1,Yz rest _ w h.2⟩
end
section
variable {P:Program} {E:Env P} {O:aI E} {w0:Start} {aP:Nat->Nat->Prop} {S:au E} {a:Act} {w w':World} {ι ι':Nat->Option Gh} {ro ro':Nat->Nat->Prop} {n:Nat} {r:Option Nat} {Q:Exit->Act->World->Prop}
structure Kept (w:World) (ι:Nat->Option Gh) (ro:Nat->Nat->Prop) (w':World) (ι':Nat->Option Gh) (ro':Nat->Nat->Prop):Prop where
 cell:∀k o,ro k o->ro' k o/\w'.cell? ⟨k,o,none⟩=w.cell? ⟨k,o,none⟩
 ext:∀id gh,ι id=some gh->ι' id=some gh
theorem bO.rek(hg:bO E w0 aP S a w ι ro):bO E { w0 with k:=some ⟨w,ro,ι⟩ } aP S a w ι ro :=
 ⟨⟨hg.base.below,hg.base.aT,hg.base.qN,hg.base.tO,hg.base.defers,(fun q hq=>by cases hq;exact⟨fun k o h=>⟨h,rfl⟩,fun _ _ h=>h⟩),hg.base.held⟩,hg.size,hg.tmps,hg.objs,hg.inj,hg.fresh,hg.ids⟩
theorem bO.unk(hk:w0.k=none){S':au E}{a':Act}(hg:bO E { w0 with k:=some ⟨w,ro,ι⟩ } aP S' a' w' ι' ro'):bO E w0 aP S' a' w' ι' ro'/\Kept w ι ro w' ι' ro' :=
 ⟨⟨⟨hg.base.below,hg.base.aT,hg.base.qN,hg.base.tO,hg.base.defers,(fun q hq=>by rw[hk]at hq;cases hq),hg.base.held⟩,hg.size,hg.tmps,hg.objs,hg.inj,hg.fresh,hg.ids⟩,⟨fun k o h=>((hg.base.keep _ rfl).1 k o h),fun id gh h=>(hg.base.keep _ rfl).2 id gh h⟩⟩
theorem bO.frame(hg:bO E w0 aP S a w ι ro){a':Act}{m nx:Nat}{tm:List (Nat×AV E)}(hd:a'.defers=w0.dl)(hs:a'.tmps.size=m)(ht:xg E w ro ι a' tm)(hx:S.next<=nx):bO E w0 aP ⟨m,tm,S.objs,nx⟩ a' w ι ro :=
 ⟨⟨hg.base.below,hg.base.aT,hg.base.qN,hg.base.tO,hd,hg.base.keep,hg.base.held⟩,hs,ht,hg.objs,hg.inj,fun id h=>hg.fresh id (Nat.le_trans hx h),fun id o h=>aeh (hg.ids id o h) hx⟩
theorem bO.turn(hg:bO E w0 aP S a w ι ro)(hk:w0.k=none){H:Nat->Option Obj}{dl:List Deferred}{a':Act}(hd:a'.defers=dl)(ht:a'.tmps=a.tmps)(hos:w'.os=w.os)(aCd:w'.tape=w.tape)(hout:w'.output=w.output)(hsize:w.heap.size<=w'.heap.size)
  (hframe:∀k,k<w.heap.size->w0.w.heap.size<=k/\(∀id gh,ι id=some gh->gh.blk≠some k)\/w'.heap[k]? = w.heap[k]?) (hcell:∀k o,k<w.heap.size->w'.cell? ⟨k,o,none⟩=w.cell? ⟨k,o,none⟩)
  (hH:∀k o,H k=some o->w'.heap[k]? = some o/\∀id gh,ι id=some gh->gh.blk≠some k):bO E { w0 with h:=H,dl:=dl } aP S a' w' ι ro:=by
 have hfr:∀id gh g,ι id=some gh->gh.blk=some g->w'.heap[g]? = w.heap[g]? := fun id gh g h1 h2=>by
  rcases hframe g (hg.base.tO id gh g h1 h2).2 with h | h
  ·exact absurd h2 (h.2 id gh h1)
  ·exact h
 have hc:∀k o,ro k o->w'.cell? ⟨k,o,none⟩=w.cell? ⟨k,o,none⟩:=fun k o h=>hcell k o (hg.base.aT k o h)
 refine⟨⟨⟨hos.trans hg.base.below.os,aCd.trans hg.base.below.tape,hout.trans hg.base.below.output,Nat.le_trans hg.base.below.size hsize,fun k hk hne=>?_⟩,fun k o h=>aeh (hg.base.aT k o h) hsize,hg.base.qN,fun id gh k h1 h2=>⟨(hg.base.tO id gh k h1 h2).1,aeh (hg.base.tO id gh k h1 h2).2 hsize⟩,hd,(fun q hq=>by have:w0.k=some q:=hq;rw[hk]at this;cases this),hH⟩,by rw[ht];exact hg.size,fun t x hl=>?_,fun id o hl=>?_,hg.inj,hg.fresh,hg.ids⟩
 ·refine Eq.trans ?_ (hg.base.below.block k hk hne);rcases hframe k (aeh hk hg.base.below.size)with h | h
  ·exact absurd (show k<w0.w.heap.size from hk) (Nat.not_lt.2 h.1)
  ·exact h
 ·obtain⟨v,h1,h2⟩:=hg.tmps t x hl;rw[<- ht]at h1 h2;exact⟨v,h1,h2.mono (fun _ _ h=>h) hc (fun _ _ h=>h)⟩
 ·have h:=hg.objs id o hl;cases o with
  | dead=>trivial
  | tail l =>intro hl;obtain⟨gh,xs,h1,h2,h3⟩:=h hl;exact⟨gh,xs,h1,h2.frame (fun g hb=>hfr id gh g h1 hb),h3⟩
  | Ih =>obtain⟨gh,g,h1,h2,h3⟩:=h;exact⟨gh,g,h1,h2,(hfr id gh g h1 h2).trans h3⟩
  | arr t l fz =>obtain⟨h0,gh,g,vs,e,h1,h2,h3,h4,h5,h6,h7⟩:=h;exact⟨h0,gh,g,vs,e,h1,h2,h3,(hfr id gh g h1 h3).trans h4,h5,fun j v c hv hj=>⟨(h6 j v c hv hj).1,(h6 j v c hv hj).2.mono (fun _ _ h=>h) hc (fun _ _ h=>h)⟩,h7⟩
  | lp st pend n tm ps assign body =>
   obtain⟨gh,g,rec,h1,h2,h3,h4,h5⟩:=h;exact⟨gh,g,rec,h1,h2,(hfr id gh g h1 h2).trans h3,h4,fun t x hl=>by obtain⟨v,q1,q2⟩:=h5 t x hl;exact⟨v,q1,q2.mono (fun _ _ h=>h) hc (fun _ _ h=>h)⟩⟩
  | mp K V l =>
   obtain⟨gh,g,es,h1,h2,h3,h4,h5,h6⟩:=h;exact⟨gh,g,es,h1,h2,h3,(hfr id gh g h1 h3).trans h4,h5,fun j e x he hx=>by obtain⟨k1,k2,k3,k4⟩:=h6 j e x he hx;exact⟨k1,k2,k3,fun i v c hv hc'=>⟨(k4 i v c hv hc').1,(k4 i v c hv hc').2.mono (fun _ _ h=>h) hc (fun _ _ h=>h)⟩⟩⟩
  | row t l =>
   obtain⟨gh,xs,h1,h2,h3,h4,h5,h6,h7⟩:=h;exact⟨gh,xs,h1,h2,h3,h4,h5.frame (fun g hb=>hfr id gh g h1 hb),fun i x j c hx hj=>by obtain⟨u,hu,hr⟩:=h6 i x j c hx hj;exact⟨u,hu,hr.mono (fun _ _ h=>h) hc⟩,h7⟩
  | box cs =>obtain⟨gh,g,vs,e,h1,h2,h3,h4,h5,h6,h7⟩:=h;exact⟨gh,g,vs,e,h1,h2,h3,(hfr id gh g h1 h3).trans h4,h5,fun j v c hv hj=>⟨(h6 j v c hv hj).1,(h6 j v c hv hj).2.mono (fun _ _ h=>h) hc (fun _ _ h=>h)⟩,h7⟩
def Mt{α:Type}(l:List (Nat×α)):List Nat->List (Nat×α)
 | []=>[]
 | i::r=>match look l i with
  | some x=>(i,x)::Mt l r
  | none=>Mt l r
theorem xI{α:Type}{l:List (Nat×α)}:∀{ids:List Nat} {t:Nat} {x:α},look (Mt l ids) t=some x->look l t=some x
 | [],_,_,h=>by cases h
 | i::r,t,x,h=>by
  unfold Mt at h;split at h
  ·rename_i y hy;simp only[aX]at h;split at h
   ·rename_i hb;have:=aaF hb;subst this;cases h;exact hy
   ·exact xI h
  ·exact xI h
theorem Uf{α:Type}{l:List (Nat×α)}:∀{ids:List Nat} {p:Nat×α},p∈Mt l ids->p∈l
 | [],_,h=>by cases h
 | i::r,p,h=>by
  unfold Mt at h;split at h
  ·rename_i y hy;cases h with
   | head=>exact jQ _ _ _ hy
   | tail _ h=>exact Uf h
  ·exact Uf h
def pk(ts ids:List Nat)(nx:Nat)(S:au E):Option (au E):=match Nat.ble S.next nx with
 | true=>some ⟨S.n,Mt S.tmps ts,Mt S.objs ids,nx⟩
 | false=>none
theorem bO.pick(hnc:aR S.tmps)(hg:bO E w0 aP S a w ι ro){ts ids:List Nat}{nx:Nat}{X:au E}(h:pk ts ids nx S=some X):aR X.tmps/\bO E w0 aP X a w ι ro/\X.n=S.n:=by
 unfold pk at h;split at h
 ·rename_i hb;cases h;have hx:=ani hb;exact⟨fun p hp=>hnc p (Uf hp),⟨hg.base,hg.size,fun t x hl=>hg.tmps t x (xI hl),fun id o hl=>hg.objs id o (xI hl),
   fun id id' o o' gh bq k h1 h2=>hg.inj id id' o o' gh bq k (xI h1) (xI h2),fun id h=>hg.fresh id (Nat.le_trans hx h),fun id o h=>aeh (hg.ids id o (xI h)) hx⟩,rfl⟩
 ·cases h
theorem VW(hO:aK E O)(hk:w0.k=none)(hnc:aR S.tmps)(hg:bO E w0 aP S a w ι ro){ops:Array Oper}{L l l2:List Oper}(hL:L=l++l2)(hd:Ov l=true){ts ids:List Nat}{nx:Nat}{X:au E}(h:mK O ops S.n S.tmps l [] S.objs S.next (pk ts ids nx)=some X)
  (hq:∀a' w' ι' ro',aR X.tmps->bO E w0 aP X a' w' ι' ro'->Kept w ι ro w' ι' ro'->wpListIn (Wd r) n P ops Q l2 a' w'):wpListIn (Wd r) n P ops Q L a w:=by
 subst hL;refine Yz l a w (acu Nm.out l a w hd (GU (n:=S.n) (glob:=S.tmps) hO hnc (fun S1 a' w' ι' ro' h1 h2 h3 h4=>?_) l [] S.objs S.next a w ι ro hg.rek h));obtain⟨g1,g2⟩:=h2.unk hk;obtain⟨p1,p2,_⟩:=g1.pick h1 h4;exact hq a' w' ι' ro' p1 p2 g2
theorem yj(hO:aK E O)(hk:w0.k=none)(hnc:aR S.tmps)(hg:bO E w0 aP S a w ι ro){ops:Array Oper}{id:Nat}(hd:Ov ops.toList=true)(ts ids:List Nat)(nx:Nat)(X:au E)(h:mK O ops S.n S.tmps ops.toList [] S.objs S.next (pk ts ids nx)=some X)
  (hq:∀a' w' ι' ro',aR X.tmps->bO E w0 aP X a' w' ι' ro'->Kept w ι ro w' ι' ro'->Q .normal a' w'):(Code.region id ops false).wpIn (Wd r) n P Q a w :=
 wpIn_region_list (VW (l2:=[]) hO hk hnc hg (aeb _).symm hd h hq)
theorem Kept.refl:Kept w ι ro w ι ro:=⟨fun _ _ h=>⟨h,rfl⟩,fun _ _ h=>h⟩
theorem Kept.trans{w2:World}{ι2:Nat->Option Gh}{WS:Nat->Nat->Prop}(h:Kept w ι ro w' ι' ro')(h':Kept w' ι' ro' w2 ι2 WS):Kept w ι ro w2 ι2 WS :=
 ⟨fun k o q=>⟨(h'.cell k o (h.cell k o q).1).1,(h'.cell k o (h.cell k o q).1).2.trans (h.cell k o q).2⟩,fun id gh q=>h'.ext id gh (h.ext id gh q)⟩
theorem xg.kept{tm:List (Nat×AV E)}(h:xg E w ro ι a tm)(hk:Kept w ι ro w' ι' ro'):xg E w' ro' ι' a tm:=fun t x hl=>by obtain⟨v,h1,h2⟩:=h t x hl;exact⟨v,h1,h2.mono (fun k o q=>(hk.cell k o q).1) (fun k o q=>(hk.cell k o q).2) hk.ext⟩
theorem Xi(w:World){l:Nat}{o o':Obj}(hl:w.heap[l]? = some o)(h1:o.isCells=false)(h2:o'.isCells=false)(k q:Nat):(w.putObj l o').cell? ⟨k,q,none⟩=w.cell? ⟨k,q,none⟩:=by
 have hlt:=(Array.getElem?_eq_some_iff.1 hl).1;by_cases e:k=l
 ·subst e;unfold World.cell?;rw[World.putObj_heap_same hlt,hl];cases o<;>cases o'<;>first | rfl | (cases h2;done) | (cases h1;done)
 ·unfold World.cell?;rw[World.putObj_heap_other e]
theorem bO.amE(hg:bO E w0 aP S a w ι ro)(hk:w0.k=none){l:Nat}{o o':Obj}(hl:w0.h l=some o)(hb:w0.w.heap.size<=l)(h1:o.isCells=false)(h2:o'.isCells=false) :
  bO E { w0 with h:=fun k=>if k=l then some o' else w0.h k } aP S a (w.putObj l o') ι ro/\Kept w ι ro (w.putObj l o') ι ro:=by
 obtain⟨q1,q2⟩:=hg.base.held l o hl;have hlt:=(Array.getElem?_eq_some_iff.1 q1).1;refine⟨hg.turn hk (dl:=w0.dl) hg.base.defers rfl rfl rfl rfl (by rw[World.putObj_size];exact abn _) (fun k hk'=>?_) (fun k q _=>Xi w q1 h1 h2 k q) (fun k p hp=>?_),⟨fun k q h=>⟨h,Xi w q1 h1 h2 k q⟩,fun _ _ h=>h⟩⟩
 ·by_cases e:k=l
  ·subst e;exact .inl ⟨hb,q2⟩
  ·exact .inr (World.putObj_heap_other e)
 ·by_cases e:k=l
  ·subst e;simp only[if_true]at hp;cases hp;exact⟨World.putObj_heap_same hlt,q2⟩
  ·simp only[if_neg e]at hp;obtain⟨p1,p2⟩:=hg.base.held k p hp;exact⟨(World.putObj_heap_other e).trans p1,p2⟩
theorem bO.put{m nx:Nat}{tm:List (Nat×AV E)}{objs:List (Nat×aS E)}(hg:bO E w0 aP ⟨m,tm,objs,nx⟩ a w ι ro)(hnc:aR tm){d:Nat}{val:Value}{x:AV E}(hd:d<m)(hv:aO E w ro ι val x)(hx:dU x=false) :
  bO E w0 aP ⟨m,(d,x)::tm,objs,nx⟩ (a.put (some d) val) w ι ro/\aR ((d,x)::tm):=by
 refine⟨⟨⟨hg.base.below,hg.base.aT,hg.base.qN,hg.base.tO,hg.base.defers,hg.base.keep,hg.base.held⟩,PV.trans hg.size,fun t y hl=>?_,hg.objs,hg.inj,hg.fresh,hg.ids⟩,fun p hp=>?_⟩
 ·simp only[aX]at hl;split at hl
  ·rename_i hb;have:=aaF hb;subst this;cases hl;refine⟨val,?_,by cases x<;>first | exact hv | cases hx⟩;have hs:a.tmps.size=m:=hg.size;simp[Act.put,hs,hd]
  ·rename_i hb;obtain⟨v,h1,h2⟩:=hg.tmps t y hl;have hne:d≠t:=fun e=>hb (by subst e;exact Nat.beq_refl d)
   refine⟨v,(DX (fun e=>hne (by injection e))).trans h1,?_⟩;have hc:=hnc _ (jQ _ _ _ hl);cases y<;>first | exact h2 | cases hc
 ·cases hp with
  | head=>exact hx
  | tail _ hp=>exact hnc p hp
theorem ah7{l:Nat}{o:Oper}{kS:Operand}{xs:Array Operand}{ts:Array TypeId}(ho:o.op = .call { callee:=.value kS,args:=xs,argTypes:=ts }){fn:FuncId}{tmps:Array Value}{assign body:Code}{K:Act->World->Prop}(hc:a.eval kS = .func (.yield l) #[] #[])
  (hy:(Instr.yield l (xs.map a.eval)).run P w = .ok (.round l fn tmps assign body) w) (hr:RoundIn (Wd none) (n-1) P l fn tmps assign body w fun e w'=>∃v,e = .returned v/\K (a.put o.dst v) w'):o.wpIn (Wd none) n P a w K Q:=by
 refine⟨fun _ _=>trivial,?_⟩;have e:(o.semAt (Wd none).round a.eval).run P w = .ok (.round l fn tmps assign body) w:=by rw[show o.semAt (Wd none).round a.eval=execOp a.eval o from Oper.semAt_none a.eval o];simp only[execOp,ho,resolve,hc,Deferred.ofValue,Sem.run_bind,Sem.run_pure,Result.andThen_ok,invoke];simpa using hy
 rw[e];exact⟨fun h=>(by cases h),hr.mono fun e w' he=>by obtain⟨v,rfl,hk⟩:=he;exact hk⟩
end
end
end Go.Proofs.YtclnniijooeajaaGreatDoor.bg
namespace Go.Proofs.YtclnniijooeajaaGreatDoor.Rf
open Go Go.RowKit Go.Sort Go.Proofs.YtclnniijooeajaaGreatDoor.bg
noncomputable def YA:jC E:=Ir (E:=E) .str .str .int uI pR
def Ug:FuncId:=227
noncomputable def ah8:aI E:=jX [(195,Qo)] [] [] []
noncomputable def au9:Hint E:={}
noncomputable def YB(_G:Nat->au E->Option (List (TV E)))(x0 x1:aqO):Option (List (TV E)) :=
 bif(uI x0 x1)then some [⟨.int,(pR x0 x1)⟩]else none
theorem ava(G:Nat->au E->Option (List (TV E)))(x0 x1:aqO):jR ah8 au9 G Tryz.f227 [⟨.str,x0⟩,⟨.str,x1⟩]=YB G x0 x1:=by kernel_rfl
theorem avb:Tryz.prog.funcs[227]? = some Tryz.f227:=by kernel_rfl
theorem avc:(Tryz.f227.name == "runtime.NumGoroutine")=false:=by kernel_rfl
theorem avd:Tryz.f227.body.isNone=false:=by kernel_rfl
theorem arV:aK E ah8:=gq (.cons TH .nil) .nil .nil .nil
theorem ah9(h:∀(x0:aqO) (x1:aqO),uI x0 x1=true->YB (Gr E Tryz.f227 [⟨.int,pR x0 x1⟩]) x0 x1=some [⟨.int,pR x0 x1⟩]):bG E Ug YA:=Iu arV mix avb avc avd (fun x0 x1 hk=>(ava _ x0 x1).trans (h x0 x1 hk))
theorem arW:bG E Ug YA:=ah9 fun s p hk=>by simp only[YB,hk,cond_true]
section
def HV(i:Nat):Code->Option (Array Oper)
 | .region id ops _=>bif Nat.beq id i then some ops else none
 | .seq x y=>match HV i x with | some r=>some r | none=>HV i y
 | .cond _ x y=>match HV i x with | some r=>some r | none=>HV i y
 | .block _ c=>HV i c
 | .loop c=>HV i c
 | .scope c=>HV i c
 | .rangeFunc _ _ x y=>match HV i x with | some r=>some r | none=>HV i y
 | _=>none
def opsOf(f:Func)(i:Nat):Array Oper:=match f.body with
 | some c=>(match HV i c with | some r=>r | none=>#[])
 | none=>#[]
noncomputable abbrev i7(i:Nat):Array Oper:=opsOf Tryz.f198 i
noncomputable def A3:Code:=.region 6 (i7 6) false
noncomputable def B4:Code:=.block 1 (.seq (.region 7 (i7 7) false) (.cond (.tmp 27) (.seq (.region 8 (i7 8) false) .ret) .skip))
def lg(rest:aqO):List (Nat×aS E) :=
 [(0,.box [.d (.bool false)]),(1,.box [.d (.str rest)]),(2,.box [.d (.str [47])]),(3,.box [.d (.int .i64 0)])]
noncomputable def rc(fn:FuncId)(tms:Array Value)(D:Nat)(st:LoopState)(pe:Option Code):Loop:={ state:=st,pending:=pe,fn:=fn,tmps:=tms,params:=#[17],assign:=A3,body:=B4,defers:=D }
def hd(l D:Nat)(o:Obj):Nat->Option Obj:=fun k=>if k=l then some o else if k=D then some (.deferred (some []))else none
def Bh(W:World)(l D:Nat)(o:Obj):bg.Start:=⟨W,none,none,[],hd l D o⟩
theorem aCe(l D:Nat)(o o':Obj):(fun k=>if k=l then some o' else hd l D o k)=hd l D o':=by
 funext k;unfold hd;by_cases e:k=l
 ·rw[if_pos e,if_pos e]
 ·rw[if_neg e,if_neg e,if_neg e]
theorem aaC{W:World}{aP:Nat->Nat->Prop}{l D:Nat}{o o':Obj}{S:au E}{a:Act}{w:World}{ι:Nat->Option Gh}{ro:Nat->Nat->Prop}(hg:bO E (Bh W l D o) aP S a w ι ro)(hb:W.heap.size<=l)(h1:o.isCells=false)(h2:o'.isCells=false) :
  bO E (Bh W l D o') aP S a (w.putObj l o') ι ro/\Kept w ι ro (w.putObj l o') ι ro:=by
 obtain⟨g1,g2⟩:=hg.amE rfl (l:=l) (o:=o) (o':=o') (if_pos rfl) hb h1 h2;refine⟨?_,g2⟩;have e:({ Bh W l D o with h:=fun k=>if k=l then some o' else(Bh W l D o).h k }:bg.Start)=Bh W l D o':=by show(⟨W,none,none,[],fun k=>if k=l then some o' else hd l D o k⟩:bg.Start)=_;rw[aCe];rfl
 rwa[e]at g1
theorem aaD{W:World}{aP:Nat->Nat->Prop}{l D:Nat}{o:Obj}{S:au E}{a:Act}{w:World}{ι:Nat->Option Gh}{ro:Nat->Nat->Prop}(hg:bO E (Bh W l D o) aP S a w ι ro):w.heap[l]? = some o:=(hg.base.held l o (if_pos rfl)).1
noncomputable def RF:aI E:=jX [(Ug,YA)] [] [] []
theorem zS:aK E RF:=gq (.cons arW .nil) .nil .nil .nil
def jS(x:aqO):Bool:=bif(bif x==[]then true else x==[46])then true else x==[46,46]
theorem aEh(x rest:aqO):mK RF (i7 6) 28 [(17,.d (.str x)),(2,.ptr 0 0)] (i7 6).toList [] (lg rest) 100 (pk [3,2] [0,1,2,3] 110)=some ⟨28,[(3,.d (.str x)),(2,.ptr 0 0)],lg rest,110⟩:=by kernel_rfl
theorem aEi(x rest:aqO):mK RF (i7 7) 28 [(3,.d (.str x)),(2,.ptr 0 0)] (i7 7).toList [] (lg rest) 110 (pk [27,2] [0,1,2,3] 120)=some ⟨28,[(27,.d (.bool (jS x))),(2,.ptr 0 0)],lg rest,120⟩:=by kernel_rfl
theorem aEj(b:Bool)(rest:aqO):mK RF (i7 8) 28 [(27,.d (.bool b)),(2,.ptr 0 0)] (i7 8).toList [] (lg rest) 120 (pk [] [0,1,2,3] 200)=some ⟨28,[],lg rest,200⟩:=by kernel_rfl
theorem Ke{w0:bg.Start}{aP:Nat->Nat->Prop}{S:au E}{a:Act}{w:World}{ι:Nat->Option Gh}{ro:Nat->Nat->Prop}(hg:bO E w0 aP S a w ι ro){t:Nat}{b:Bool}(h:bF S.tmps [] (.tmp t) = .d (.bool b)):a.eval (.tmp t) = .bool b:=by have hc:=xk (E:=E) (asm:=[]) hg.tmps (fun j b hb=>by simp[tN]at hb) (.tmp t);rw[h]at hc;exact hc.rC
theorem aia{W:World}{aP:Nat->Nat->Prop}{l D fn n:Nat}{tms:Array Value}{g6 nx:Nat}{xY:Gh}{tm:List (Nat×AV E)}{rest x:aqO}{a:Act}{w:World}{ι:Nat->Option Gh}{ro:Nat->Nat->Prop}
  (hW:W.heap.size<=l) (hts:tms.size=28) (h6:tms[2]? = some (.pointer (some ⟨g6,0,none⟩))) (hv0:xY.v = .pointer (some ⟨g6,0,none⟩)) (hi0:ι 0=some xY) (hnx:nx<=100)
  (hg:bO E (Bh W l D (.loop (rc fn tms D .ready none))) aP ⟨52,tm,lg rest,nx⟩ a w ι ro) :
  (Instr.yield l #[.string ⟨x.toArray⟩]).run Tryz.prog w = .ok (.round l fn (tms.setIfInBounds 17 (.string ⟨x.toArray⟩)) A3 B4) w /\
  RoundIn (Wd none) n Tryz.prog l fn (tms.setIfInBounds 17 (.string ⟨x.toArray⟩)) A3 B4 w fun e w'=>∃v,e = .returned v/\v = .bool (!jS x)/\∃ι' ro',bO E (Bh W l D (.loop (rc fn tms D (bif jS x then .done else .ready) (bif jS x then some .ret else none)))) aP ⟨52,tm,lg rest,200⟩ a w' ι' ro'/\Kept w ι ro w' ι' ro':=by
 have hl:=aaD hg;refine⟨by rw[run_yield hl rfl];first | (simp[rc];done) | kernel_rfl,?_⟩;refine roundIn_of_wpIn (F:=Wd none) trivial ?_;show A3.wpIn (Wd (some l)) n Tryz.prog _ _ w;let a1:Act:={ tmps:=tms.setIfInBounds 17 (.string ⟨x.toArray⟩),defers:=[] }
 have hg1:bO E (Bh W l D (.loop (rc fn tms D .ready none))) aP ⟨28,[(17,.d (.str x)),(2,.ptr 0 0)],lg rest,100⟩ a1 w ι ro:=by
  refine hg.frame rfl (by simp[a1,hts]) (fun t y hl=>?_) hnx;simp only[bg.look]at hl;cases hb:Nat.beq 17 t with
  | true =>rw[hb]at hl;have:=aaF hb;subst this;cases hl;exact⟨.string ⟨x.toArray⟩,by simp[a1,hts],aO.d _ _ (.str x)⟩
  | false =>
   rw[hb]at hl;cases hb2:Nat.beq 2 t with
   | true =>rw[hb2]at hl;have:=aaF hb2;subst this;cases hl;exact⟨.pointer (some ⟨g6,0,none⟩),by simp[a1,h6],aO.ptr xY g6 0 0 hi0 hv0⟩
   | false=>rw[hb2]at hl;cases hl
 refine yj zS rfl (fun p hp=>by simp at hp;rcases hp with rfl | rfl<;>rfl) hg1 (by kernel_rfl) [3,2] [0,1,2,3] 110 _ (aEh x rest) fun a2 w2 ι2 WS aEk hg2 hk2=>?_
 refine⟨_,run_beginRound (aaD hg2) rfl,?_⟩;obtain⟨hg3,hk3⟩:=aaC (o':=.loop (rc fn tms D .busy none)) hg2 hW rfl rfl;show B4.wpIn (Wd (some l)) n Tryz.prog _ a2 _;refine wpIn_block (wpIn_seq ?_);refine yj zS rfl aEk hg3 (by kernel_rfl) [27,2] [0,1,2,3] 120 _ (aEi x rest) fun a4 w4 ι4 ro4 aAs hg4 hk4=>?_
 have hb:=Ke hg4 (t:=27) (b:=jS x) rfl;cases hbad:jS x with
 | false =>rw[hbad]at hb;refine wpIn_cond_false hb (wpIn_skip ?_);refine⟨_,_,run_endRound none (aaD hg4),_,rfl,rfl,?_⟩;obtain⟨hg5,hk5⟩:=aaC (o':=.loop (rc fn tms D .ready none)) hg4 hW rfl rfl;have hk:=((hk2.trans hk3).trans hk4).trans hk5;exact⟨ι4,ro4,hg5.frame hg.base.defers hg.size (hg.tmps.kept hk) (by show 120<=200;omega),hk⟩
 | true =>
  rw[hbad]at hb;refine wpIn_cond_true hb (wpIn_seq ?_);refine yj zS rfl aAs hg4 (by kernel_rfl) [] [0,1,2,3] 200 _ (aEj (jS x) rest) fun a5 w5 ι5 ro5 aEl hg5 hk5=>?_
  refine wpIn_ret ?_;refine⟨_,_,run_endRound (some .ret) (aaD hg5),_,rfl,rfl,?_⟩;obtain⟨hg6,hk6⟩:=aaC (o':=.loop (rc fn tms D .done (some .ret))) hg5 hW rfl rfl;have hk:=(((hk2.trans hk3).trans hk4).trans hk5).trans hk6;exact⟨ι5,ro5,hg6.frame hg.base.defers hg.size (hg.tmps.kept hk) (abn _),hk⟩
end
def rP:aqO->List (aqO)
 | []=>[[]]
 | c::r=>bif c==47 then[]::rP r else match rP r with
  | h::t=>(c::h)::t
  | []=>[[c]]
theorem Uh(c:UInt8)(r:aqO):rP (c::r)=bif c==47 then[]::rP r else match rP r with | h::t=>(c::h)::t | []=>[[c]]:=rfl
theorem ad7:∀(s:aqO),Lib.indexByte s 47<0->rP s=[s]
 | [],_=>rfl
 | c::r,h=>by
  unfold Lib.indexByte at h;split at h
  ·exact absurd h (by decide)
  ·rename_i hc;have hr:Lib.indexByte r 47<0:=by
    rcases af2 r 47 with h' | ⟨i,h',_⟩
    ·exact h'
    ·rw[h']at h;split at h
     ·rename_i he;have:(i:Int) = -1:=beq_iff_eq.1 he;omega
     ·omega
   unfold rP;rw[ad7 r hr,show(c==47)=false by simpa using hc];rfl
theorem ad8:∀(s:aqO) (i:Nat),Lib.indexByte s 47=(i:Int)->rP s=s.take i::rP (s.drop (i+1))
 | [],i,h=>by exact absurd h (by show ¬ ((-1:Int)=(i:Int));omega)
 | c::r,i,h=>by
  unfold Lib.indexByte at h;split at h
  ·rename_i hc;have hi:i=0:=by omega
   subst hi;have hc:(c==47)=true:=by simpa using hc
   rw[Uh,hc];rfl
  ·rename_i hc;rcases af2 r 47 with h' | ⟨j,h',_⟩
   ·split at h
    ·omega
    ·have:=Lib.indexByte_ge r 47;rename_i he;have he:¬ Lib.indexByte r 47 = -1:=by simpa using he
     omega
   ·rw[h']at h;split at h
    ·rename_i he;have:(j:Int) = -1:=beq_iff_eq.1 he;omega
    ·have hj:i=j+1:=by omega
     subst hj;rw[Uh,ad8 r j h',show(c==47)=false by simpa using hc];rfl
section
noncomputable abbrev i35(i:Nat):Array Oper:=opsOf Tryz.f241 i
noncomputable def itL:Code:=.block 3 (.seq (.region 5 (i35 5) false) (.seq (.seq (.region 6 (i35 6) false) (.cond (.tmp 33) (.exit 2) .skip)) (.seq (.region 7 (i35 7) false) (.seq (.seq (.region 8 (i35 8) false) (.cond (.tmp 42) .ret .skip)) (.region 9 (i35 9) false)))))
def YL(l:Nat):AV E:=.d (.raw (.func (.yield l) #[] #[]))
def qh(l:Nat):List (Nat×AV E):=[(0,YL l),(1,.ptr 2 0),(2,.ptr 1 0),(3,.ptr 3 0)]
theorem aEm(l:Nat)(rest:aqO):mK RF (i35 5) 52 (qh l) (i35 5).toList [] (lg rest) 5 (pk [7,0,1,2,3] [0,1,2,3] 20)=bif uI rest [47]then some ⟨52,(7,.d (.int .i64 (pR rest [47])))::qh l,lg rest,20⟩else none:=by kernel_rfl
theorem aEn(l:Nat)(i:Int)(rest:aqO):mK RF (i35 6) 52 ((7,.d (.int .i64 i))::qh l) (i35 6).toList [] (lg rest) 20 (pk [33,7,0,1,2,3] [0,1,2,3] 30)=some ⟨52,(33,.d (.bool (decide (i<0))))::(7,.d (.int .i64 i))::qh l,lg rest,30⟩:=by kernel_rfl
theorem aEo(l:Nat)(i:Int)(b:Bool)(rest:aqO):mK RF (i35 7) 52 ((33,.d (.bool b))::(7,.d (.int .i64 i))::qh l) (i35 7).toList [] (lg rest) 30 (pk [8,7,0,1,2,3] [0,1,2,3] 40) =
  bif decide ((0:Int)<=0)&&decide ((0:Int)<=ak (i+0))&&decide (ak (i+0)<=(rest.length:Int))then some ⟨52,(8,.d (.str (List.take (Int.toNat (ak (i+0))-Int.toNat 0) (List.drop (Int.toNat 0) rest))))::(7,.d (.int .i64 i))::qh l,lg rest,40⟩else none:=by kernel_rfl
theorem aEp(l:Nat)(i:Int)(x rest:aqO):mK RF (i35 8) 52 ((8,.d (.str x))::(7,.d (.int .i64 i))::qh l) ((i35 8).toList.take 2) [] (lg rest) 40 (pk [39,40,7,0,1,2,3] [0,1,2,3] 50)=some ⟨52,(39,YL l)::(40,.d (.str x))::(7,.d (.int .i64 i))::qh l,lg rest,50⟩:=by kernel_rfl
theorem aEq(l:Nat)(i:Int)(x:aqO)(b:Bool)(rest:aqO):mK RF (i35 8) 52 ((41,.d (.bool b))::(39,YL l)::(40,.d (.str x))::(7,.d (.int .i64 i))::qh l) ((i35 8).toList.drop 3) [] (lg rest) 200 (pk [42,7,0,1,2,3] [0,1,2,3] 210)=some ⟨52,(42,.d (.bool (!b)))::(7,.d (.int .i64 i))::qh l,lg rest,210⟩:=by kernel_rfl
theorem aEr(l:Nat)(i:Int)(rest:aqO):mK RF (i35 9) 52 ((42,.d (.bool false))::(7,.d (.int .i64 i))::qh l) (i35 9).toList [] (lg rest) 210 (pk [0,1,2,3] [0,1,2,3] 230) =
  bif decide ((0:Int)<=ak (i+1))&&decide (ak (i+1)<=(rest.length:Int))&&decide ((rest.length:Int)<=(rest.length:Int))then some ⟨52,qh l,lg (List.take (Int.toNat (rest.length:Int)-Int.toNat (ak (i+1))) (List.drop (Int.toNat (ak (i+1))) rest)),230⟩else none:=by kernel_rfl
theorem apr{w0:bg.Start}{aP:Nat->Nat->Prop}{S:au E}{a:Act}{w:World}{ι:Nat->Option Gh}{ro:Nat->Nat->Prop}(hg:bO E w0 aP S a w ι ro){t:Nat}{c:bC E.Den}(h:bF S.tmps [] (.tmp t) = .d c):dO E w ro (a.eval (.tmp t)) c:=by
 have hc:=xk (E:=E) (asm:=[]) hg.tmps (fun j b hb=>by simp[tN]at hb) (.tmp t);rw[h]at hc;generalize a.eval (.tmp t)=v at hc;cases hc with
 | d _ _ h=>exact h
noncomputable def Ow(fn:FuncId)(tms:Array Value)(D:Nat)(b:Bool):Obj:=.loop (rc fn tms D (bif b then .done else .ready) (bif b then some .ret else none))
theorem ave{W:World}{aP:Nat->Nat->Prop}{l D fn n:Nat}{tms:Array Value}{g6:Nat}{xY:Gh}{rest x:aqO}{a:Act}{w:World}{ι:Nat->Option Gh}{ro:Nat->Nat->Prop}{i:Int}{Q:Exit->Act->World->Prop}
  (hW:W.heap.size<=l) (hts:tms.size=28) (h6:tms[2]? = some (.pointer (some ⟨g6,0,none⟩))) (hv0:xY.v = .pointer (some ⟨g6,0,none⟩)) (hi0:ι 0=some xY)
  (hg:bO E (Bh W l D (Ow fn tms D false)) aP ⟨52,(8,.d (.str x))::(7,.d (.int .i64 i))::qh l,lg rest,40⟩ a w ι ro)
  (hK:∀a' w' ι' ro',bO E (Bh W l D (Ow fn tms D (jS x))) aP ⟨52,(42,.d (.bool (!(!jS x))))::(7,.d (.int .i64 i))::qh l,lg rest,210⟩ a' w' ι' ro'->ι' 0=some xY->Q .normal a' w'):(Code.region 8 (i35 8) false).wpIn (Wd none) n Tryz.prog Q a w:=by
 refine wpIn_region_list ?_;refine VW (l:=(i35 8).toList.take 2) (l2:=(i35 8).toList.drop 2) zS rfl (fun p hp=>by simp[qh,YL]at hp;rcases hp with rfl | rfl | rfl | rfl | rfl | rfl<;>rfl) hg (aif _ _).symm (by kernel_rfl) (aEp l i x rest) fun a1 w1 ι1 WR auF hg1 hk1=>?_
 have hx:a1.eval (.tmp 40) = .string ⟨x.toArray⟩:=by have:=apr (c:=.str x) hg1 (t:=40) rfl;generalize a1.eval (.tmp 40)=v at this;cases this;rfl
 have hy:a1.eval (.tmp 39) = .func (.yield l) #[] #[]:=by have:=apr (c:=.raw (.func (.yield l) #[] #[])) hg1 (t:=39) rfl;generalize a1.eval (.tmp 39)=v at this;cases this;rfl
 obtain⟨q1,q2⟩:=aia (n:=n-1) (x:=x) hW hts h6 hv0 (hk1.ext _ _ hi0) (by show 50<=100;omega) hg1;have e2:(i35 8).toList.drop 2=(i35 8)[2]! :: (i35 8).toList.drop 3:=by kernel_rfl
 rw[e2];refine wpListIn_plain (by kernel_rfl) fun K hK'=>?_
 refine ah7 (show((i35 8)[2]!).op = .call { callee:=.value (.tmp 39),args:=#[.tmp 40],argTypes:=#[9] } by kernel_rfl) hy (by rw[show(#[Operand.tmp 40].map a1.eval) = #[a1.eval (.tmp 40)] by simp,hx];exact q1) (q2.mono fun e w2 he=>?_);obtain⟨v,rfl,rfl,ι2,WS,hg2,hk2⟩:=he;refine⟨_,rfl,hK' _ _ ?_⟩;have ed:((i35 8)[2]!).dst=some 41:=by kernel_rfl
 rw[ed];obtain⟨hg3,aEs⟩:=hg2.put auF (d:=41) (val:=.bool (!jS x)) (x:=.d (.bool (!jS x))) (by decide) (.d _ _ (.bool (!jS x))) rfl;exact VW (l2:=[]) zS rfl aEs hg3 (aeb _).symm (by kernel_rfl) (aEq l i x (!jS x) rest) fun a4 w4 ι4 ro4 aAs hg4 hk4=>hK a4 w4 ι4 ro4 hg4 (hk4.ext _ _ (hk2.ext _ _ (hk1.ext _ _ hi0)))
theorem Ui(l:Nat):aR (qh (l:Nat)):=fun p hp=>by simp[qh,YL]at hp;rcases hp with rfl | rfl | rfl | rfl<;>rfl
theorem amF{tm:List (Nat×AV E)}{t:Nat}{c:bC E.Den}(h:aR tm):aR ((t,.d c)::tm):=fun p hp=>by
 cases hp with
 | head=>rfl
 | tail _ hp=>exact h p hp
theorem ad9(l:Nat)(objs:List (Nat×aS E))(t:Nat)(y:AV E)(h:bg.look (qh l) t=some y):BO objs y=y:=by have:=jQ _ _ _ h;simp[qh,YL]at this;rcases this with⟨_,rfl⟩ | ⟨_,rfl⟩ | ⟨_,rfl⟩ | ⟨_,rfl⟩<;>rfl
theorem ayk{W:World}{aP:Nat->Nat->Prop}{l D fn:Nat}{tms:Array Value}{g6:Nat}{xY:Gh}{Q:Exit->Act->World->Prop}(hW:W.heap.size<=l)(hts:tms.size=28)(h6:tms[2]? = some (.pointer (some ⟨g6,0,none⟩)))(hv0:xY.v = .pointer (some ⟨g6,0,none⟩))(any:Bool)
  (hQ:∀a w ι ro rest,ι 0=some xY->jS rest=any->bO E (Bh W l D (Ow fn tms D false)) aP ⟨52,qh l,lg rest,40⟩ a w ι ro->Q (.exit 2) a w)
  (hR:∀a w ι ro rest,ι 0=some xY->any=true->bO E (Bh W l D (Ow fn tms D true)) aP ⟨52,[],lg rest,210⟩ a w ι ro->Q .ret a w)
  (rest:aqO) (a:Act) (w:World) (ι:Nat->Option Gh) (ro:Nat->Nat->Prop) (hlen:rest.length<=1000000) (hall:(rP rest).any jS=any) (hi0:ι 0=some xY)
  (hg:bO E (Bh W l D (Ow fn tms D false)) aP ⟨52,qh l,lg rest,5⟩ a w ι ro):tT Tryz.prog itL Q a w:=by
 induction hm:rest.length using Nat.strongRecOn generalizing rest a w ι ro with
 | _ m ih =>
 refine tT.round (wp_block ((wpIn_wide (n:=0)).1 ?_));show Code.wpIn (Wd none) 0 Tryz.prog _ _ a w;refine wpIn_seq ?_;have h5:=aEm l rest;rw[show uI rest [47]=true by simp[uI];omega,cond_true]at h5;refine yj zS rfl (Ui l) hg (by kernel_rfl) _ _ _ _ h5 fun a1 w1 ι1 WR nc1 g1 k1=>?_
 refine wpIn_seq (wpIn_seq ?_);refine yj zS rfl nc1 g1 (by kernel_rfl) _ _ _ _ (aEn l (pR rest [47]) rest) fun a2 w2 ι2 WS nc2 g2 k2=>?_
 have hi2:=k2.ext _ _ (k1.ext _ _ hi0);have hb:=Ke g2 (t:=33) (b:=decide (pR rest [47]<0)) rfl;rcases af2 rest 47 with h | ⟨i,h1,h2⟩
 ·have h:pR rest [47]<0:=h;rw[dT h]at hb;refine wpIn_cond_true hb (wpIn_exit ?_);obtain⟨_,g3,_⟩:=g2.pick nc2 (ts:=[0,1,2,3]) (ids:=[0,1,2,3]) (nx:=40) (X:=⟨52,qh l,lg rest,40⟩) (by kernel_rfl);have:=hQ a2 w2 ι2 WS rest hi2 (by rw[<- hall,ad7 rest h];simp) g3;simpa[Exit.then,Exit.inBlock]using this
 ·have hi:pR rest [47]=(i:Int):=h1;rw[hi,dF (show ¬ (i:Int)<0 by omega)]at hb;refine wpIn_cond_false hb (wpIn_skip ?_);rw[hi]at g2 nc2;have ei:ak ((i:Int)+0)=(i:Int):=by rw[aV (by omega) (by omega)];omega
  have ei1:ak ((i:Int)+1)=((i+1:Nat):Int):=by rw[aV (by omega) (by omega)];omega
  have h7:=aEo l (i:Int) (decide ((i:Int)<0)) rest;rw[ei,dT (show(0:Int)<=0 by omega),dT (show(0:Int)<=(i:Int) by omega),dT (show(i:Int)<=(rest.length:Int) by omega)]at h7;simp only[adM,cond_true,Int.toNat_zero,amg,aed,aaE]at h7;refine wpIn_seq ?_;refine yj zS rfl nc2 g2 (by kernel_rfl) _ _ _ _ h7 fun a3 w3 ι3 ro3 nc3 g3 k3=>?_
  refine wpIn_seq (wpIn_seq ?_);refine ave hW hts h6 hv0 (k3.ext _ _ hi2) g3 fun a4 w4 ι4 ro4 g4 hi4=>?_
  have hb4:=Ke g4 (t:=42) (b:=!(!jS (rest.take i))) rfl;rw[ad8 rest i h1]at hall;cases hbad:jS (rest.take i)with
  | true =>rw[hbad]at hb4 g4;refine wpIn_cond_true hb4 (wpIn_ret ?_);have:=hR a4 w4 ι4 ro4 rest hi4 (by rw[<- hall];simp[hbad]) (g4.frame g4.base.defers g4.size (fun t y h=>by cases h) (abn _));simpa[Exit.then,Exit.inBlock]using this
  | false =>
  rw[hbad]at hb4 g4;refine wpIn_cond_false hb4 (wpIn_skip ?_);have h9:=aEr l (i:Int) rest;rw[ei1,dT (show(0:Int)<=((i+1:Nat):Int) by omega),dT (show((i+1:Nat):Int)<=(rest.length:Int) by omega),dT (show(rest.length:Int)<=(rest.length:Int) by omega)]at h9;simp only[adM,cond_true,aaE]at h9;rw[show List.take (rest.length-(i+1)) (List.drop (i+1) rest)=List.drop (i+1) rest from aej (by rw[adH];omega)]at h9;refine yj zS rfl (amF (amF (Ui l))) g4 (by kernel_rfl) _ _ _ _ h9 fun a5 w5 ι5 ro5 nc5 g5 k5=>?_
  obtain⟨nc6,g6'⟩:=Mk (w0:=Bh W l D (Ow fn tms D false)) (S:=⟨52,qh l,lg (rest.drop (i+1)),230⟩) [0,1,2,3] (by decide) (qh l) (fun t y h=>⟨y,h,(ad9 l _ t y h).symm⟩) (fun q h=>by cases h) nc5 g5;have g7:bO E (Bh W l D (Ow fn tms D false)) aP ⟨52,qh l,lg (rest.drop (i+1)),5⟩ a5 w5 (fun j=>(([0,1,2,3]:List Nat)[j]?).bind ι5) ro5:=g6'.frame g6'.base.defers g6'.size g6'.tmps (by show 4<=5;omega);refine ih _ ?_ (rest.drop (i+1)) a5 w5 _ ro5 ?_ ?_ ?_ g7 rfl
  ·rw[<- hm,adH];omega
  ·rw[adH];omega
  ·rw[<- hall,al6,hbad,ajH]
  ·exact k5.ext _ _ hi4
end
section
noncomputable def itX:Code:=match(Tryz.f241).body with
 | some (.seq (.seq _ (.cond _ x _)) _)=>x
 | _=>.skip
theorem ayl:(Tryz.f241).body=some (.seq (.seq (.region 0 (i35 0) false) (.cond (.tmp 11) itX .skip)) (.seq (.block 2 (.loop itL)) (.region 10 (i35 10) false))):=by kernel_rfl
theorem aEt(l:Nat)(rest:aqO):mK RF (i35 0) 52 (qh l) (i35 0).toList [] (lg rest) 5 (pk [11,0,1,2,3] [0,1,2,3] 20)=some ⟨52,(11,.d (.bool false))::qh l,lg rest,20⟩:=by kernel_rfl
theorem aCf(l:Nat)(rest:aqO):mK RF (i35 10) 52 (qh l) ((i35 10).toList.take 2) [] (lg rest) 40 (pk [49,50] [0,1,2,3] 50)=some ⟨52,[(49,YL l),(50,.d (.str rest))],lg rest,50⟩:=by kernel_rfl
def aAu(ι:Nat->Option Gh)(us:Array Value):Prop:=∃(gh1 ZV gh3:Gh) (b1 b2 b3:Nat),us = #[.pointer (some ⟨b2,0,none⟩),.pointer (some ⟨b1,0,none⟩),.pointer (some ⟨b3,0,none⟩)] /\
 (ι 1=some gh1/\gh1.v = .pointer (some ⟨b1,0,none⟩))/\(ι 2=some ZV/\ZV.v = .pointer (some ⟨b2,0,none⟩))/\(ι 3=some gh3/\gh3.v = .pointer (some ⟨b3,0,none⟩))
theorem aym{W:World}{aP:Nat->Nat->Prop}{l D fn:Nat}{tms us:Array Value}{g6:Nat}{xY:Gh}(hW:W.heap.size<=l)(hts:tms.size=28)(h6:tms[2]? = some (.pointer (some ⟨g6,0,none⟩)))(hv0:xY.v = .pointer (some ⟨g6,0,none⟩))
  {m:Nat} {tm:List (Nat×AV E)} {s:aqO} {a:Act} {w:World} {ι:Nat->Option Gh} {ro:Nat->Nat->Prop} (hs:s.length<=1000000) (hi0:ι 0=some xY) (hcap:aAu ι us)
  (hg:bO E (Bh W l D (Ow fn tms D false)) aP ⟨m,tm,lg s,5⟩ a w ι ro) :
  Calls Tryz.prog 241 (#[.func (.yield l) #[] #[]]++us) w fun e w'=>(∃v,e = .returned v)/\∃ι' ro' rest,ι' 0=some xY/\bO E (Bh W l D (Ow fn tms D ((rP s).any jS))) aP ⟨0,[],lg rest,210⟩ { tmps:=#[],defers:=[] } w' ι' ro':=by
 obtain⟨gh1,ZV,gh3,b1,b2,b3,rfl,⟨p1,q1⟩,⟨p2,q2⟩,⟨p3,q3⟩⟩:=hcap;refine calls_of_wp (show Tryz.prog.funcs[241]? = some Tryz.f241 by kernel_rfl) ayl ?_;have hnt:(Tryz.f241).ntmps=52:=by kernel_rfl
 rw[hnt,show(#[.func (.yield l) #[] #[]] ++ #[.pointer (some ⟨b2,0,none⟩),.pointer (some ⟨b1,0,none⟩),.pointer (some ⟨b3,0,none⟩)]:Array Value) = #[.func (.yield l) #[] #[],.pointer (some ⟨b2,0,none⟩),.pointer (some ⟨b1,0,none⟩),.pointer (some ⟨b3,0,none⟩)] by simp];generalize hA:(#[.func (.yield l) #[] #[],.pointer (some ⟨b2,0,none⟩),.pointer (some ⟨b1,0,none⟩),.pointer (some ⟨b3,0,none⟩)]:Array Value)=A;have hz:A.size=4:=by rw[<- hA];simp
 have hat:∀t,t<4->(A++Array.replicate (52-A.size) undef)[t]? = A[t]? := fun t ht=>by rw[Array.getElem?_append_left (by omega)]
 have hg1:bO E (Bh W l D (Ow fn tms D false)) aP ⟨52,qh l,lg s,5⟩ { tmps:=A++Array.replicate (52-A.size) undef,defers:=[] } w ι ro:=by
  refine hg.frame rfl (by simp[hz]) (fun t y hl=>?_) (abn _);simp only[qh,bg.look]at hl;cases hb0:Nat.beq 0 t with
  | true =>rw[hb0]at hl;have:=aaF hb0;subst this;cases hl;exact⟨_,(hat 0 (by decide)).trans (by rw[<- hA];rfl),aO.d _ _ (.raw _ rfl)⟩
  | false =>
  rw[hb0]at hl;cases hb1:Nat.beq 1 t with
  | true =>rw[hb1]at hl;have:=aaF hb1;subst this;cases hl;exact⟨_,(hat 1 (by decide)).trans (by rw[<- hA];rfl),aO.ptr ZV b2 2 0 p2 q2⟩
  | false =>
  rw[hb1]at hl;cases hb2:Nat.beq 2 t with
  | true =>rw[hb2]at hl;have:=aaF hb2;subst this;cases hl;exact⟨_,(hat 2 (by decide)).trans (by rw[<- hA];rfl),aO.ptr gh1 b1 1 0 p1 q1⟩
  | false =>
  rw[hb2]at hl;cases hb3:Nat.beq 3 t with
  | true =>rw[hb3]at hl;have:=aaF hb3;subst this;cases hl;exact⟨_,(hat 3 (by decide)).trans (by rw[<- hA];rfl),aO.ptr gh3 b3 3 0 p3 q3⟩
  | false=>rw[hb3]at hl;cases hl
 refine wp_seq (wp_seq ((wpIn_wide (n:=0)).1 ?_));show Code.wpIn (Wd none) 0 Tryz.prog _ _ _ w;refine yj zS rfl (Ui l) hg1 (by kernel_rfl) _ _ _ _ (aEt l s) fun a1 w1 ι1 WR nc1 g1 k1=>?_
 refine wp_cond_false (Ke g1 (t:=11) (b:=false) rfl) (wp_skip ?_);obtain⟨_,g2,_⟩:=g1.pick nc1 (ts:=[0,1,2,3]) (ids:=[0,1,2,3]) (nx:=20) (X:=⟨52,qh l,lg s,20⟩) (by kernel_rfl);obtain⟨nc3,g3'⟩:=Mk (w0:=Bh W l D (Ow fn tms D false)) (S:=⟨52,qh l,lg s,20⟩) [0,1,2,3] (by decide) (qh l) (fun t y h=>⟨y,h,(ad9 l _ t y h).symm⟩) (fun q h=>by cases h) (Ui l) g2;have g3:bO E (Bh W l D (Ow fn tms D false)) aP ⟨52,qh l,lg s,5⟩ a1 w1 (fun j=>(([0,1,2,3]:List Nat)[j]?).bind ι1) WR:=g3'.frame g3'.base.defers g3'.size g3'.tmps (by show 4<=5;omega);have hi3:(fun j=>(([0,1,2,3]:List Nat)[j]?).bind ι1) 0=some xY:=k1.ext _ _ hi0;refine wp_seq (wp_block (tT.wp (ayk hW hts h6 hv0 ((rP s).any jS) ?_ ?_ s a1 w1 (fun j=>(([0,1,2,3]:List Nat)[j]?).bind ι1) WR hs rfl hi3 g3)))
 ·intro a4 w4 ι4 ro4 rest hi4 hall g4;show Code.wp Tryz.prog _ _ a4 w4;refine(wpIn_wide (n:=0)).1 ?_;show Code.wpIn (Wd none) 0 Tryz.prog _ _ a4 w4;refine wpIn_region_list ?_;refine VW (l:=(i35 10).toList.take 2) (l2:=(i35 10).toList.drop 2) zS rfl (Ui l) g4 (aif _ _).symm (by kernel_rfl) (aCf l rest) fun a5 w5 ι5 ro5 aEl g5 k5=>?_
  have hx:a5.eval (.tmp 50) = .string ⟨rest.toArray⟩:=by have:=apr (c:=.str rest) g5 (t:=50) rfl;generalize a5.eval (.tmp 50)=v at this;cases this;rfl
  have hy:a5.eval (.tmp 49) = .func (.yield l) #[] #[]:=by have:=apr (c:=.raw (.func (.yield l) #[] #[])) g5 (t:=49) rfl;generalize a5.eval (.tmp 49)=v at this;cases this;rfl
  obtain⟨u1,u2⟩:=aia (n:=0) (x:=rest) hW hts h6 hv0 (k5.ext _ _ hi4) (by show 50<=100;omega) g5;have e2:(i35 10).toList.drop 2=(i35 10)[2]! :: []:=by kernel_rfl
  rw[e2];refine wpListIn_plain (by kernel_rfl) fun K hK'=>?_
  refine ah7 (show((i35 10)[2]!).op = .call { callee:=.value (.tmp 49),args:=#[.tmp 50],argTypes:=#[9] } by kernel_rfl) hy (by rw[show(#[Operand.tmp 50].map a5.eval) = #[a5.eval (.tmp 50)] by simp,hx];exact u1) (u2.mono fun e w6 he=>?_);obtain⟨v,rfl,rfl,ι6,ro6,g6',k6⟩:=he;refine⟨_,rfl,hK' _ _ ?_⟩;have hd6:(a5.put ((i35 10)[2]!).dst (.bool (!jS rest))).defers=[]:=by have:=g6'.base.defers;cases((i35 10)[2]!).dst<;>exact this
  refine wpListIn_nil ⟨hd6,.tuple #[],(by kernel_rfl),⟨_,rfl⟩,ι6,ro6,rest,k6.ext _ _ (k5.ext _ _ hi4),?_⟩;rw[<- hall];exact g6'.frame rfl rfl (fun t y h=>by cases h) (by show 200<=210;omega)
 ·intro a4 w4 ι4 ro4 rest hi4 hall g4;refine⟨g4.base.defers,.tuple #[],(by kernel_rfl),⟨_,rfl⟩,ι4,ro4,rest,hi4,?_⟩;rw[hall];exact g4.frame rfl rfl (fun t y h=>by cases h) (abn _)
end
end Go.Proofs.YtclnniijooeajaaGreatDoor.Rf
