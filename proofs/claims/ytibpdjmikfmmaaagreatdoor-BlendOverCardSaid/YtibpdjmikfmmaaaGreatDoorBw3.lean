/- Part 3 of a proof: the texts MirO MirP MirQ MirR MirU MirW MirX MirBx MirTr Shelf Plain PlainK, one behind the other. -/
import Derived.Test.YtibpdjmikfmmaaaGreatDoorBw1
import Derived.Test.YtibpdjmikfmmaaaGreatDoorBw2
import Derived.Scope
import Derived.Lib.SliceRun
import Derived.KernelRfl
import Derived.Shelf.Strings.Builder1
import Derived.Shelf.Strings.Builder2
import Derived.Shelf.Strings.OnBuilder
import Derived.Shelf.Small.Bits
import Derived.Shelf.Small.Strs
import Derived.Shelf.Small.Wraps
import Derived.Shelf.Strings.BuilderF
import Derived.Shelf.Strings.BuilderK
import Derived.Shelf.Utf8.RuneCount
import Derived.Shelf.Strings.Builder2Cap
import Derived.Shelf.Strconv.Itoa0
import Derived.Shelf.Strings.Search1
import Derived.Shelf.Strings.Search2
import Derived.Shelf.Strings.Search3
import Derived.Shelf.Strings.Cut
import Derived.Shelf.Strings.Count
import Derived.Shelf.LaysM
import Derived.Shelf.Strings.Shaped
import Derived.Shelf.Sort.Plain
import Derived.Shelf.Strings.Prefix
import Derived.Shelf.Strings.Split
import Derived.Shelf.Strings.Replace
import Derived.Shelf.Strings.SplitShaped
import Derived.Shelf.Unicode.Decode
import Derived.Shelf.Strings.RuneCount
import Derived.Shelf.Strings.Explode
import Derived.Shelf.Unicode.DecodeSlow
import Derived.Shelf.Unicode.DecodeAny
import Derived.Shelf.Slices.Turned
import Derived.Ground.Names2Prog
import Derived.Shelf.Slices.Clone
import Derived.Shelf.Slices.CompactS
import Derived.Shelf.Slices.Cells
import Derived.Shelf.Slices.In.SortNone
import Derived.Ground.SlgnProg
import Derived.Shelf.SlicesE.Clone
import Derived.Test.YtibpdjmikfmmaaaGreatDoorProg
import Derived.Lib.SlicesCompact
noncomputable section
namespace Go.Proofs.YtibpdjmikfmmaaaGreatDoor.bB
open Go Go.RowKit
section
variable {P:Program} {E:Env P}
def Zk(objs:List (Nat×aU E)):AV E->AV E
 | .row t n id=>match look objs id with
  | some (.row t' l)=>.grow t' l id
  | _=>.row t n id
 | v=>v
def acY(objs:List (Nat×aU E)):AV E->AV E
 | .agg cs=>.agg (cs.map (Zk objs))
 | .wP cs=>.wP (cs.map (Zk objs))
 | v=>Zk objs v
def az7(objs:List (Nat×aU E)):aU E->aU E
 | .row _ _=>.tail true
 | .box cs=>.box (cs.map (Zk objs))
 | o=>o
def aiu(objs:List (Nat×aU E)):List (Nat×AV E)->List (Nat×AV E)
 | []=>[]
 | (t,v)::r=>(t,acY objs v)::aiu objs r
def ahb(objs:List (Nat×aU E)):List (Nat×aU E)->List (Nat×aU E)
 | []=>[]
 | (i,o)::r=>(i,az7 objs o)::ahb objs r
def zL(S:aI E):aI E:=⟨S.n,aiu S.objs S.tmps,ahb S.objs S.objs,S.next⟩
structure Hint (E:Env P) where
 live:List (Nat×List Nat):=[]
 frz:List Nat:=[]
 nk:List (Nat×List (Nat×Option Nat×Bool×E.Ty)):=[]
 split:List (Nat×List (Nat×Nat)):=[]
 opn:List (Nat×List Nat):=[]
 rounds:Nat:=5
 lst:List Nat:=[]
 arr:List (Nat×List (Nat×Option E.Ty)):=[]
 own:Nat:=0
def UC(id:Nat)(ds:List (bQ E.Den)):AV E->AV E
 | .ptr id' off=>match Nat.beq id' id with
  | true=>.lN (ds.drop off)
  | false=>.ptr id' off
 | v=>v
def acZ(id:Nat)(ds:List (bQ E.Den)):AV E->AV E
 | .agg cs=>.agg (cs.map (UC id ds))
 | .wP cs=>.wP (cs.map (UC id ds))
 | v=>UC id ds v
def avf(id:Nat)(ds:List (bQ E.Den))(i:Nat):aU E->aU E
 | .box cs=>match Nat.beq i id with
  | true=>.dead
  | false=>.box (cs.map (UC id ds))
 | o=>o
def aiv(id:Nat)(ds:List (bQ E.Den)):List (Nat×AV E)->List (Nat×AV E)
 | []=>[]
 | (t,v)::r=>(t,acZ id ds v)::aiv id ds r
def ahc(id:Nat)(ds:List (bQ E.Den)):List (Nat×aU E)->List (Nat×aU E)
 | []=>[]
 | (i,o)::r=>(i,avf id ds i o)::ahc id ds r
def Xj(t:Nat)(S:aI E):aI E:=match look S.tmps t with
 | some (.ptr id _)=>match look S.objs id with
  | some (.box cs)=>match toDs cs with
   | some ds=>⟨S.n,aiv id ds S.tmps,ahc id ds S.objs,S.next⟩
   | none=>S
  | _=>S
 | _=>S
def ND:List Nat->aI E->aI E
 | [],S=>S
 | t::r,S=>ND r (Xj t S)
def Xk(p:Nat×Option E.Ty)(S:aI E):aI E:=match look S.tmps p.1 with
 | some (.ptr id _)=>(match look S.objs id,p.2 with
  | some (.box cs),some t=>(match E.agg t,toDs cs with
   | false,some ds=>(match aaJ t ds with
    | some l=>⟨S.n,S.tmps,(id,.arr t l false)::S.objs,S.next⟩
    | none=>S)
   | _,_=>S)
  | some (.arr t l false),none=>⟨S.n,S.tmps,(id,.arr t l true)::S.objs,S.next⟩
  | _,_=>S)
 | _=>S
def aiw:List (Nat×Option E.Ty)->aI E->aI E
 | [],S=>S
 | p::r,S=>aiw r (Xk p S)
def splitN{R:Type}(k:aI E->Option R)(S:aI E)(t:Nat)(kd:IntKind)(i:Int):Nat->Nat->Option R
 | 0,_=>none
 | m+1,j=>bif i==(j:Int)then k ⟨S.n,(t,.d (.int kd (j:Int)))::S.tmps,S.objs,S.next⟩else splitN k S t kd i m (j+1)
def splitK{R:Type}:List (Nat×Nat)->aI E->(aI E->Option R)->Option R
 | [],S,k=>k S
 | (t,n)::r,S,k=>match look S.tmps t with
  | some (.d (.int kd i))=>splitN (fun S'=>splitK r S' k) S t kd i n 0
  | _=>none
def ac0(g:Bool)(t:E.Ty)(dY:Nat):AV E:=match g with
 | true=>.grow t [] dY
 | false=>.d (.slice t [])
def Oh(g:Bool)(S:aI E):List (Nat×aU E):=match g with
 | true=>(S.next,.tail true)::S.objs
 | false=>S.objs
def ac1(s:Nat)(off:Option Nat)(g:Bool)(t:E.Ty)(S:aI E):aI E:=match look S.tmps s with
 | some v=>match off with
  | none=>bif isNil v then⟨S.n,(s,ac0 g t S.next)::S.tmps,Oh g S,S.next+1⟩else S
  | some o=>match v with
   | .ptr id _=>match look S.objs id with
    | some (.box cs)=>match cs[o]? with
     | some u=>bif isNil u then⟨S.n,S.tmps,(id,.box (cs.set o (ac0 g t S.next)))::Oh g S,S.next+1⟩else S
     | none=>S
    | _=>S
   | _=>S
 | none=>S
def aix:List (Nat×Option Nat×Bool×E.Ty)->aI E->aI E
 | [],S=>S
 | (s,off,g,t)::r,S=>aix r (ac1 s off g t S)
def Q5:List Nat->Nat->Bool
 | [],_=>false
 | i::r,j=>Nat.beq i j||Q5 r j
def ny:List Nat->Nat->Option Nat
 | [],_=>none
 | i::r,j=>if Nat.beq i j then some 0 else(match ny r j with | some q=>some (q+1) | none=>none)
def addN(l:List Nat)(i:Nat):List Nat:=match ny l i with
 | some _=>l
 | none=>l++[i]
def UD(l:List Nat):List Nat->List Nat
 | []=>l
 | i::r=>UD (addN l i) r
def az8:AV E->List Nat
 | .grow _ _ id=>[id]
 | .ptr id _=>[id]
 | .row _ _ id=>[id]
 | .elt id _ _=>[id]
 | .Lp _ id=>[id]
 | .mp id=>[id]
 | .yl id=>[id]
 | .mk _ id=>[id]
 | _=>[]
def ahd:List (AV E)->List Nat
 | []=>[]
 | v::r=>az8 v++ahd r
def aEr:AV E->List Nat
 | .agg cs=>ahd cs
 | v=>az8 v
def aw2:List (Nat×AV E)->List Nat
 | []=>[]
 | (_,v)::r=>aEr v++aw2 r
def az9(objs:List (Nat×aU E)):List Nat->List Nat
 | []=>[]
 | i::r=>(match look objs i with | some (.box cs)=>ahd cs | some (.mp _ _ l)=>ahd (l.flatMap (·.2)) | _=>[])++az9 objs r
def KZ:AV E->Bool
 | .d _=>true
 | .st _ _=>true
 | _=>false
def UE(ids:List Nat):AV E->AV E
 | .grow t l id=>match ny ids id with
  | some j=>.grow t l j
  | none=>.d (.slice t l)
 | .ptr id off=>match ny ids id with
  | some j=>.ptr j off
  | none=>.any
 | .row t n id=>match ny ids id with
  | some j=>.row t n j
  | none=>.any
 | .elt id i off=>match ny ids id with
  | some j=>.elt j i off
  | none=>.any
 | .fn f a b=>bif a.all KZ&&b.all KZ then .fn f a b else .any
 | .Lp n id=>match ny ids id with
  | some j=>.Lp n j
  | none=>.any
 | .mp id=>match ny ids id with
  | some j=>.mp j
  | none=>.any
 | .yl id=>match ny ids id with
  | some j=>.yl j
  | none=>.any
 | .mk T id=>match ny ids id with
  | some j=>.mk T j
  | none=>.any
 | .d c=>.d c
 | .st t x=>.st t x
 | .lN cs=>.lN cs
 | _=>.any
def Q6(ids:List Nat):AV E->AV E
 | .agg cs=>.agg (cs.map (UE ids))
 | v=>UE ids v
def aAa(ids:List Nat):aU E->aU E
 | .box cs=>.box (cs.map (UE ids))
 | .mp K V l=>.mp K V (l.map fun x=>(x.1,x.2.map (UE ids)))
 | .lp _ _ _ _ _ _ _=>.dead
 | o=>o
def Db(objs:List (Nat×aU E)):AV E->AV E
 | .grow t l id=>match look objs id with
  | some (.tail true)=>.grow t l id
  | _=>.d (.slice t l)
 | v=>v
def Xl(S:aI E):List Nat->List (Nat×AV E)
 | []=>[]
 | t::r=>match look S.tmps t with | some x=>(t,Db S.objs x)::Xl S r | none=>Xl S r
def Zl(ids:List Nat):List (Nat×AV E)->List (Nat×AV E)
 | []=>[]
 | (t,v)::r=>(t,Q6 ids v)::Zl ids r
def aa5(objs:List (Nat×aU E))(ids:List Nat):List Nat->Nat->List (Nat×aU E)
 | [],_=>[]
 | i::r,j=>(j,match look objs i with | some o=>aAa ids o | none=>.dead)::aa5 objs ids r (j+1)
def apC(own:Nat)(live:List Nat)(S:aI E):aI E :=
 let kept:=Xl S live;let aAb:=UD (List.range own) (aw2 kept);let ids:=UD aAb (az9 S.objs aAb)
 ⟨S.n,Zl ids kept,aa5 S.objs ids ids 0,ids.length⟩
inductive dN where
 | normal
 | exit (id:Nat)
 | ret
 | goto (l:Nat)
def dN.toExit:dN->Exit
 | .normal=>.normal
 | .exit id=>.exit id
 | .ret=>.ret
 | .goto l=>.goto l
def AB:Code->Bool
 | .seq a b=>AB a&&AB b
 | .cond _ a b=>AB a&&AB b
 | .block _ b=>AB b
 | .loop b=>AB b
 | .scope b=>AB b
 | .goto _=>false
 | _=>true
def bT:Code->Nat
 | .scope b=>(match AB b with
  | true=>bT b
  | false=>0)
 | .seq a b=>bT a+bT b
 | .cond _ a b=>bT a+bT b
 | .block _ b=>bT b
 | .loop b=>bT b+1
 | _=>0
def UF{α:Type}(l:List (Nat×List α))(i:Nat):List α:=match look l i with
 | some x=>x
 | none=>[]
def LD(h:Hint E)(i:Nat)(S:aI E):aI E:=apC h.own (UF h.live i) (aix (UF h.nk i) S)
def aw3{R:Type}(O:aR E)(ops:Array Oper)(dr:Bool)(S:aI E)(k:aI E->Option R):Option R:=match dr with
 | true=>LA O ops S.n S.tmps S.objs S.next ops.toList [] 0 k
 | false=>nI O ops S.n S.tmps ops.toList [] S.objs S.next k
def JK{R:Type}(b:Bool)(O:aR E)(ops:Array Oper)(dr:Bool)(S:aI E)(k:aI E->Option R):Option R:=match b,dr with
 | true,true=>ais O ops S k
 | _,_=>aw3 O ops dr S k
def Zm{R:Type}(f:aI E->Option R)(k:dN->aI E->Option R)(e:dN)(S:aI E):Option R:=match e with
 | .normal=>f S
 | .exit id=>k (.exit id) S
 | .ret=>k .ret S
 | .goto l=>k (.goto l) S
def JL{R:Type}(id:Nat)(k:dN->aI E->Option R)(e:dN)(S:aI E):Option R:=match e with
 | .normal=>k .normal S
 | .exit i=>(match Nat.beq i id with | true=>k .normal S | false=>k (.exit i) S)
 | .ret=>k .ret S
 | .goto l=>k (.goto l) S
def fD:Code->Bool
 | .seq a b=>fD a||fD b
 | .cond _ a b=>fD a||fD b
 | .block _ b=>fD b
 | .loop b=>fD b
 | .scope b=>!(AB b)
 | _=>false
def aa6{R:Type}(h:Hint E)(G:Nat->aI E->Option R)(c:Code)(k:dN->aI E->Option R)(e:dN)(S:aI E):Option R:=match e with
 | .normal=>k .normal S
 | .exit id=>k (.exit id) S
 | .ret=>k .ret S
 | .goto l=>(match findLabel c l with | some _=>G (100+l) (LD h (100+l) S) | none=>none)
def ahe{R:Type}(k:dN->aI E->Option R)(e:dN)(S:aI E):Option R:=match e with
 | .normal=>k .normal S
 | .exit id=>k (.exit id) S
 | .ret=>k .ret S
 | .goto _=>none
def nK{R:Type}(O:aR E)(h:Hint E)(G:Nat->aI E->Option R):Nat->Code->aI E->(dN->aI E->Option R)->Option R
 | _,.skip,S,k=>k .normal S
 | _,.region id ops dr,S,k=>splitK (UF h.split id) (ND (UF h.opn id) (aiw (UF h.arr id) (match Q5 h.frz id with | true=>zL S | false=>S))) fun S'=>JK (Q5 h.lst id) O ops dr S' (k .normal)
 | i,.seq x y,S,k=>(match fD x&&fD y with
  | true=>none
  | false=>nK O h G i x S (Zm (fun S'=>nK O h G (i+bT x) y S' k) k))
 | i,.cond c x y,S,k=>(match fD x||fD y with
  | true=>none
  | false=>match bG S.tmps [] c with
   | .d (.bool b)=>bif b then nK O h G i x S k else nK O h G (i+bT x) y S k
   | _=>none)
 | i,.scope c,S,k=>(match AB c with
  | true=>nK O h G i c S (ahe k)
  | false=>(match fD c,bT c with
   | false,0=>nK O h G i c S (aa6 h G c k)
   | _,_=>none))
 | _,.label _,S,k=>k .normal S
 | _,.goto l,S,k=>k (.goto l) S
 | i,.block id body,S,k=>nK O h G i body S (JL id k)
 | i,.loop _,S,_=>G i (LD h i S)
 | _,.exit id,S,k=>k (.exit id) S
 | _,.ret,S,k=>k .ret S
 | _,_,_,_=>none
def Kh{R:Type}(O:aR E)(h:Hint E)(G:Nat->aI E->Option R):Nat->Code->Nat->(dN->aI E->Option R)->Option (Nat×Code×(dN->aI E->Option R))
 | i,.loop b,0,k=>some (i,b,k)
 | i,.loop b,j+1,k=>Kh O h G (i+1) b j (Zm (fun S=>G i (LD h i S)) k)
 | i,.seq x y,j,k=>match Nat.blt j (bT x)with
  | true=>Kh O h G i x j (Zm (fun S'=>nK O h G (i+bT x) y S' k) k)
  | false=>Kh O h G (i+bT x) y (j-bT x) k
 | i,.cond _ x y,j,k=>match Nat.blt j (bT x)with
  | true=>Kh O h G i x j k
  | false=>Kh O h G (i+bT x) y (j-bT x) k
 | i,.block id b,j,k=>Kh O h G i b j (JL id k)
 | i,.scope b,j,k=>(match AB b with
  | true=>Kh O h G i b j (ahe k)
  | false=>none)
 | _,_,_,_=>none
def ac2{R:Type}(O:aR E)(h:Hint E)(G:Nat->aI E->Option R):Nat->Code->(dN->aI E->Option R)->Option (Code×(dN->aI E->Option R))
 | _,.scope c,k=>some (c,k)
 | i,.seq x y,k=>(match fD x,fD y with
  | true,false=>ac2 O h G i x (Zm (fun S'=>nK O h G (i+bT x) y S' k) k)
  | false,true=>ac2 O h G (i+bT x) y k
  | _,_=>none)
 | i,.block id b,k=>ac2 O h G i b (JL id k)
 | _,_,_=>none
def aAc{R:Type}(O:aR E)(h:Hint E)(G:Nat->aI E->Option R)(c:Code)(l:Nat)(S:aI E)(k:dN->aI E->Option R):Option R:=match ac2 O h G 0 c k with
 | some (sc,k')=>(match findLabel sc l with
  | some rest=>(match fD rest,bT rest with
   | false,0=>nK O h G 0 rest S (aa6 h G sc k')
   | _,_=>none)
  | none=>none)
 | none=>none
def aiy{R:Type}(O:aR E)(h:Hint E)(G:Nat->aI E->Option R)(c:Code)(j:Nat)(S:aI E)(k:dN->aI E->Option R):Option R:=match Nat.ble 100 j with
 | true=>(match Nat.ble (bT c) 100 with
  | true=>aAc O h G c (j-100) S k
  | false=>none)
 | false=>(match fD c with
  | true=>none
  | false=>(match Kh O h G 0 c j k with
   | some (i,b,k)=>nK O h G (i+1) b S (Zm (fun S=>G i (LD h i S)) k)
   | none=>none))
end
section
variable {P:Program} {E:Env P} {w:World} {ro:Nat->Nat->Prop} {ι:Nat->Option Gh} {S:aI E} {a:Act} {w0:Start} {aP:Nat->Nat->Prop}
theorem u6:∀(c:Code),AB c=true->fD c=false
 | .seq a b,h=>by simp only[AB,abK]at h;simp only[fD,u6 a h.1,u6 b h.2,Bool.or_self]
 | .cond _ a b,h=>by simp only[AB,abK]at h;simp only[fD,u6 a h.1,u6 b h.2,Bool.or_self]
 | .block _ b,h=>u6 b h
 | .loop b,h=>u6 b h
 | .scope b,h=>by have h:AB b=true:=h;simp only[fD,h,ab7]
 | .skip,_=>rfl
 | .ret,_=>rfl
 | .exit _,_=>rfl
 | .region ..,_=>rfl
 | .label _,_=>rfl
 | .goto _,_=>rfl
 | .rangeFunc ..,_=>rfl
 | .refuse _,_=>rfl
theorem aiz{v:AV E}(h:isNil v=true):v = .d (.raw (.slice none 0 0)):=by
 unfold isNil at h;split at h
 ·rfl
 ·cases h
def Q7(E:Env P)(t:E.Ty):Gh:=⟨.slice none 0 0,0,E.tid t,E.size t,none⟩
theorem aa7(g:Bool)(t:E.Ty)(hg:bO E w0 aP S a w ι ro):∃ι',(∀id gh,ι id=some gh->ι' id=some gh)/\bO E w0 aP ⟨S.n,S.tmps,Oh g S,S.next+1⟩ a w ι' ro/\aO E w ro ι' (.slice none 0 0) (ac0 g t S.next):=by
 cases g with
 | false =>exact⟨ι,fun _ _ h=>h,⟨hg.base,hg.size,hg.tmps,hg.objs,hg.inj,fun id h=>hg.fresh id (by have h:S.next+1<=id:=h;omega),fun id o h=>by have:=hg.ids id o h;show id<S.next+1;omega⟩,.d _ _ (.nil t none 0)⟩
 | true =>
  have hfresh:=hg.fresh S.next (ab8 _);have hext:=Ur ι S.next (Q7 E t) hfresh;have hnew:mV ι S.next (Q7 E t) S.next=some (Q7 E t):=if_pos rfl;have hold:∀id,id≠S.next->mV ι S.next (Q7 E t) id=ι id:=fun id h=>if_neg h
  refine⟨mV ι S.next (Q7 E t),hext,⟨⟨hg.base.below,hg.base.aZ,hg.base.rU,fun id gh k h1 h2=>?_,hg.base.defers,fun q hq=>⟨(hg.base.keep q hq).1,fun id gh h=>hext id gh ((hg.base.keep q hq).2 id gh h)⟩,fun k o h=>⟨(hg.base.held k o h).1,fun id gh h1 h2=>by by_cases e:id=S.next;(· subst e;rw[hnew]at h1;cases h1;cases h2);(· rw[hold id e]at h1;exact(hg.base.held k o h).2 id gh h1 h2)⟩⟩,hg.size,fun t' x hl=>?_,fun id o hl=>?_,?_,fun id h=>?_,fun id o hl=>?_⟩,?_⟩
  ·by_cases e:id=S.next
   ·subst e;rw[hnew]at h1;cases h1;cases h2
   ·rw[hold id e]at h1;exact hg.base.uZ id gh k h1 h2
  ·obtain⟨v,hv,hs⟩:=hg.tmps t' x hl;exact⟨v,hv,hs.mono (fun _ _ h=>h) (fun _ _ _=>rfl) hext⟩
  ·simp only[Oh,bf]at hl;split at hl
   ·rename_i hb;have:=abe hb;subst this;cases hl;intro _;exact⟨Q7 E t,[],hnew,.inl ⟨World.ownsRow_nil w 0 _ _,rfl⟩,fun g hg=>by cases hg⟩
   ·rename_i hb;have hne:id≠S.next:=fun e=>by subst e;simp at hb
    have h:=hg.objs id o hl;cases o with
    | dead=>trivial
    | box cs =>obtain⟨gh,g,vs,ty,h1,h2,hb,h3,h4,h5,h6⟩:=h;exact⟨gh,g,vs,ty,hext _ _ h1,h2,hb,h3,h4,fun j v c hv hc=>⟨(h5 j v c hv hc).1,(h5 j v c hv hc).2.mono (fun _ _ h=>h) (fun _ _ _=>rfl) hext⟩,h6⟩
    | tail l =>intro hl;obtain⟨gh,xs,h1,h2⟩:=h hl;exact⟨gh,xs,hext _ _ h1,h2⟩
    | X6 =>obtain⟨gh,g,h1,h2⟩:=h;exact⟨gh,g,hext _ _ h1,h2⟩
    | arr t l fz =>obtain⟨h0,gh,g,vs,ty,h1,h2,hb,h3,h4,h5,h6⟩:=h;exact⟨h0,gh,g,vs,ty,hext _ _ h1,h2,hb,h3,h4,fun j v c hv hc=>⟨(h5 j v c hv hc).1,(h5 j v c hv hc).2.mono (fun _ _ h=>h) (fun _ _ _=>rfl) hext⟩,h6⟩
    | lp st pend n tm ps assign body =>
     obtain⟨gh,g,rec,h1,h2,h3,h4,h5⟩:=h;exact⟨gh,g,rec,hext _ _ h1,h2,h3,h4,fun t x hl=>by obtain⟨v,q1,q2⟩:=h5 t x hl;exact⟨v,q1,q2.mono (fun _ _ h=>h) (fun _ _ _=>rfl) hext⟩⟩
    | mp K V l =>
     obtain⟨gh,g,es,h1,h2,h3,h4,h5,h6⟩:=h;exact⟨gh,g,es,hext _ _ h1,h2,h3,h4,h5,fun j e x he hx=>by obtain⟨k1,k2,k3,k4⟩:=h6 j e x he hx;exact⟨k1,k2,k3,fun i v c hv hc=>⟨(k4 i v c hv hc).1,(k4 i v c hv hc).2.mono (fun _ _ h=>h) (fun _ _ _=>rfl) hext⟩⟩⟩
    | row t l =>obtain⟨gh,xs,h1,h2⟩:=h;exact⟨gh,xs,hext _ _ h1,h2⟩
  ·intro id id' o o' gh bE k hl hl' l1 l2 i1 i2 b1 b2;by_cases e:id=S.next
   ·subst e;rw[hnew]at i1;cases i1;cases b1
   ·by_cases e':id'=S.next
    ·subst e';rw[hnew]at i2;cases i2;cases b2
    ·rw[hold id e]at i1;rw[hold id' e']at i2;simp only[Oh,bf]at hl hl';rw[if_neg (fun hb=>e (abe hb).symm)]at hl;rw[if_neg (fun hb=>e' (abe hb).symm)]at hl';exact hg.inj id id' o o' gh bE k hl hl' l1 l2 i1 i2 b1 b2
  ·have h:S.next+1<=id:=h;rw[hold id (by omega)];exact hg.fresh id (by omega)
  ·simp only[Oh,bf]at hl;show id<S.next+1;split at hl
   ·rename_i hb;have:=abe hb;omega
   ·have:=hg.ids id o hl;omega
  ·exact .grow (Q7 E t) t [] S.next hnew rfl rfl rfl (.nil t none 0)
theorem aeQ{g:Bool}{t:E.Ty}{i:Nat}:eF (ac0 (E:=E) g t i)=false:=by cases g<;>rfl
theorem apD(s:Nat)(off:Option Nat)(g:Bool)(t:E.Ty)(hnc:aS S.tmps)(hg:bO E w0 aP S a w ι ro):∃ι',aS (ac1 s off g t S).tmps/\bO E w0 aP (ac1 s off g t S) a w ι' ro/\(ac1 s off g t S).n=S.n:=by
 have same:∃ι',aS S.tmps/\bO E w0 aP S a w ι' ro/\S.n=S.n:=⟨ι,hnc,hg,rfl⟩
 unfold ac1;split
 ·rename_i v hv;split
  ·cases hn:isNil v with
   | false=>exact same
   | true =>
    simp only[cond_true];obtain rfl:=aiz hn;obtain⟨ι',hext,hg',hr⟩:=aa7 g t hg;obtain⟨u,hu,hs⟩:=hg.tmps s _ hv;have hu':u = .slice none 0 0:=aO.jT hs;subst hu';refine⟨ι',fun p hp=>?_,⟨hg'.base,hg'.size,fun t' x hl=>?_,hg'.objs,hg'.inj,hg'.fresh,hg'.ids⟩,trivial⟩
    ·cases hp with
     | head=>exact aeQ
     | tail _ hp=>exact hnc p hp
    ·simp only[bf]at hl;split at hl
     ·rename_i hb;have:=abe hb;subst this;cases hl;refine⟨_,hu,?_⟩;have hc:=aeQ (E:=E) (g:=g) (t:=t) (i:=S.next);generalize ac0 g t S.next=y at hr hc;cases y<;>first | exact hr | cases hc
     ·exact hg'.tmps t' x hl
  ·rename_i o;split
   ·rename_i id off';split
    ·rename_i cs eD;split
     ·rename_i u hu;cases hn:isNil u with
      | false=>exact same
      | true =>
       simp only[cond_true];obtain rfl:=aiz hn;obtain⟨ι',hext,hg',hr⟩:=aa7 g t hg;have hlt:=hg.ids id _ eD;have CS:look (Oh g S) id=some (.box cs):=by
        cases g with
        | false=>exact eD
        | true=>simp only[Oh,bf];rw[if_neg (fun hb=>by have:=abe hb;omega)];exact eD
       refine⟨ι',hnc,⟨hg'.base,hg'.size,hg'.tmps,fun id' o' hl=>?_,?_,hg'.fresh,fun id' o' hl=>?_⟩,trivial⟩
       ·simp only[bf]at hl;split at hl
        ·rename_i hb;have:=abe hb;subst this;cases hl;obtain⟨gh,g',vs,ty,h1,h2,hb,h3,h4,h5,h6⟩:=hg'.objs id _ CS;refine⟨gh,g',vs,ty,h1,h2,hb,h3,by simp[h4],fun j v c hv hc=>?_,h6⟩;have hjl:j<cs.length:=by have:=(List.getElem?_eq_some_iff.1 hc).1;simpa using this
         have hcj:=aaO hjl;have h5j:=h5 j v _ hv hcj;refine⟨h5j.1,?_⟩;by_cases hjo:j=o
         ·subst hjo;rw[List.getElem?_set_self hjl]at hc;cases hc;have h5u:=(h5 j v _ hv hu).2;have:v = .slice none 0 0:=aO.jT h5u;subst this;exact hr
         grind
        ·exact hg'.objs id' o' hl
       ·intro i1 i2 o1 o2 gh bE k hl hl' l1 l2 e1 e2 b1 b2;have lift:∀i ob,look ((id,aU.box (cs.set o (ac0 g t S.next)))::Oh g S) i=some ob->ob.live=true->∃Us,look (Oh g S) i=some Us/\Us.live=true:=by
         intro i ob h hl;simp only[bf]at h;split at h
         ·rename_i hb;have:=abe hb;subst this;exact⟨_,CS,rfl⟩
         ·exact⟨ob,h,hl⟩
        obtain⟨q1,g1,g2⟩:=lift i1 o1 hl l1;obtain⟨q2,g3,g4⟩:=lift i2 o2 hl' l2;exact hg'.inj i1 i2 q1 q2 gh bE k g1 g3 g2 g4 e1 e2 b1 b2
       ·simp only[bf]at hl;split at hl
        ·rename_i hb;have:=abe hb;grind
        ·exact hg'.ids id' o' hl
     ·exact same
    ·exact same
   ·exact same
 ·exact same
theorem aa8:∀(l:List (Nat×Option Nat×Bool×E.Ty)) (S:aI E) (ι:Nat->Option Gh),aS S.tmps->bO E w0 aP S a w ι ro->∃ι',aS (aix l S).tmps/\bO E w0 aP (aix l S) a w ι' ro/\(aix l S).n=S.n
 | [],S,ι,hnc,hg=>⟨ι,hnc,hg,rfl⟩
 | (s,off,g,t)::r,S,ι,hnc,hg=>by obtain⟨ι1,h1,h2,h3⟩:=apD s off g t hnc hg;obtain⟨ι2,h4,h5,h6⟩:=aa8 r (ac1 s off g t S) ι1 h1 h2;exact⟨ι2,h4,h5,h6.trans h3⟩
theorem aeR{objs:List (Nat×aU E)}:∀{l:List (Nat×AV E)} {t:Nat} {y:AV E},look (aiu objs l) t=some y->∃x,look l t=some x/\y=acY objs x
 | [],_,_,h=>by cases h
 | (u,x)::r,t,y,h=>by
  simp only[aiu,bf]at h ⊢;split at h
  ·grind
  ·rename_i hb;rw[if_neg hb];exact aeR h
theorem F6{objs:List (Nat×aU E)}:∀{l:List (Nat×aU E)} {t:Nat} {y:aU E},look (ahb objs l) t=some y->∃x,look l t=some x/\y=az7 objs x
 | [],_,_,h=>by cases h
 | (u,x)::r,t,y,h=>by
  simp only[ahb,bf]at h ⊢;split at h
  ·grind
  ·rename_i hb;rw[if_neg hb];exact F6 h
theorem ar8{objs:List (Nat×aU E)}{x:AV E}:eF (Zk objs x)=eF x:=by
 cases x<;>try rfl
 rename_i t n id;show eF (match look objs id with | some (.row t' l)=>.grow t' l id | _=>.row t n id)=false;split<;>rfl
theorem aeS{objs:List (Nat×aU E)}{x:AV E}:eF (acY objs x)=eF x:=by have h:=ar8 (objs:=objs) (x:=x);cases x<;>first | rfl | exact h
theorem Yd{objs:List (Nat×aU E)}:∀{l:List (Nat×AV E)},aS l->aS (aiu objs l)
 | [],_=>fun p h=>by cases h
 | (t,x)::r,hn=>fun p h=>by
  cases h with
  | head=>exact aeS.trans (hn (t,x) abI)
  | tail _ h=>exact Yd (fun p h=>hn p (abD _ h)) p h
def Q8(objs:List (Nat×aU E))(ι:Nat->Option Gh)(ro:Nat->Nat->Prop):Nat->Nat->Prop:=fun k o =>ro k o\/∃id t l gh,look objs id=some (.row t l)/\ι id=some gh/\gh.blk=some k/\o<gh.n*gh.sz
theorem Eb(hnc:aS S.tmps)(hg:bO E w0 aP S a w ι ro):aS (zL S).tmps/\bO E w0 aP (zL S) a w ι (Q8 S.objs ι ro):=by
 have hro:∀k o,ro k o->Q8 S.objs ι ro k o:=fun _ _ h=>.inl h
 have one:∀(v:Value) (x:AV E),aO E w ro ι v x->aO E w (Q8 S.objs ι ro) ι v (Zk S.objs x):=by
  intro v x h;have hm:=h.mono (w':=w) hro (fun _ _ _=>rfl) (fun _ _ h=>h);cases h with
  | row gh t id ad cap h1 h2 h3 h4 h5 =>
   show aO E w _ ι gh.v (match look S.objs id with | some (.row t' l)=>.grow t' l id | _=>.row t gh.n id);split
   ·rename_i t' l eD;obtain⟨bE,xs,hi',hn,hge,hgs,hown,hrow,iF⟩:=hg.objs id _ eD;rw[h1]at hi';cases hi';refine .grow gh t' l id h1 hn hge hgs ?_;have hown':=hown;unfold sW at hown';rw[hn,hge,hgs]at hown';refine Ke hown' (fun g o hb ho=>.inr ⟨id,t',l,gh,eD,h1,hb,by rw[hn,hgs];exact ho⟩) (hrow.mono hro (fun _ _ _=>rfl))
   ·exact hm
  | _=>exact hm
 have many:∀(vs:Array Value) (cs:List (AV E)),(∀(j:Nat) v c,vs[j]? = some v->cs[j]? = some c->aO E w ro ι v c)->∀(j:Nat) v c,vs[j]? = some v->(cs.map (Zk S.objs))[j]? = some c->aO E w (Q8 S.objs ι ro) ι v c:=by grind
 have all:∀(v:Value) (x:AV E),aO E w ro ι v x->aO E w (Q8 S.objs ι ro) ι v (acY S.objs x):=by
  intro v x h;have h1:=one v x h;cases h with
  | agg vs cs hs hi=>exact .agg vs _ (by simp[hs]) (many vs cs hi)
  | wP vs cs hs hi=>exact .wP vs _ (by simp[hs]) (many vs cs hi)
  | _=>exact h1
 have ahf:∀id ob,look S.objs id=some ob->ob.live=true->∀gh k,ι id=some gh->gh.blk=some k->∀id' t l bE,look S.objs id'=some (.row t l)->ι id'=some bE->bE.blk=some k->id=id' :=
  fun id ob h1 h2 gh k h3 h4 id' t l bE h5 h6 h7=>hg.inj id id' ob _ gh bE k h1 h5 h2 rfl h3 h6 h4 h7
 refine⟨Yd hnc,⟨hg.base.below,fun k o h=>?_,fun k o h=>?_,hg.base.uZ,hg.base.defers,fun q hq=>⟨fun k o h=>⟨.inl ((hg.base.keep q hq).1 k o h).1,((hg.base.keep q hq).1 k o h).2⟩,(hg.base.keep q hq).2⟩,hg.base.held⟩,hg.size,fun t y hl=>?_,fun id o hl=>?_,?_,hg.fresh,fun id o hl=>?_⟩
 ·rcases h with h | ⟨id,t,l,gh,_,hi,hb,_⟩
  ·exact hg.base.aZ k o h
  ·exact(hg.base.uZ id gh k hi hb).2
 ·rcases h with h | ⟨id,t,l,gh,_,hi,hb,_⟩
  ·exact hg.base.rU k o h
  ·exact .inr (hg.base.uZ id gh k hi hb).1
 ·obtain⟨x,hx,rfl⟩:=aeR hl;obtain⟨v,hv,hs⟩:=hg.tmps t x hx;have hc:eF x=false:=hnc _ (j5 _ _ _ hx);have hr:aO E w ro ι v x:=by cases x<;>first | exact hs | cases hc
  refine⟨v,hv,?_⟩;have h2:=all v x hr;have h3:eF (acY S.objs x)=false:=aeS.trans hc;generalize acY S.objs x=y at h2 h3;cases y<;>first | exact h2 | cases h3
 ·obtain⟨o',ho',rfl⟩:=F6 hl;have h:=hg.objs id o' ho';cases o' with
  | dead=>trivial
  | box cs =>
   obtain⟨gh,g,vs,ty,h1,h2,hb,h3,h4,h5,h6⟩:=h;refine⟨gh,g,vs,ty,h1,h2,hb,h3,by simp[h4],fun j v c hv hc=>⟨?_,many vs cs (fun j v c hv hc=>(h5 j v c hv hc).2) j v c hv hc⟩,fun o hr=>?_,h6.2⟩
   ·grind
   ·rcases hr with hr | ⟨id',t,l,bE,CS,hi',hb',_⟩
    ·exact h6.1 o hr
    ·have:=ahf id _ ho' rfl gh g h1 hb id' t l bE CS hi' hb';subst this;rw[ho']at CS;cases CS
  | tail live =>
   intro hlive;obtain⟨gh,xs,h1,h2,h3⟩:=h hlive;refine⟨gh,xs,h1,h2,fun g hb o ho hr=>?_⟩;rcases hr with hr | ⟨id',t,l,bE,CS,hi',hb',_⟩
   ·exact h3 g hb o ho hr
   ·have:=ahf id _ ho' hlive gh g h1 hb id' t l bE CS hi' hb';subst this;rw[ho']at CS;cases CS
  | X6=>exact h
  | arr t l fz =>
   obtain⟨h0,gh,g,vs,ty,h1,h2,hb,h3,h4,h5,h6,h7⟩:=h;refine⟨h0,gh,g,vs,ty,h1,h2,hb,h3,h4,fun j v c hv hc=>⟨(h5 j v c hv hc).1,(h5 j v c hv hc).2.mono (fun _ _ h=>.inl h) (fun _ _ _=>rfl) (fun _ _ h=>h)⟩,⟨fun hf o hr=>?_,fun hf o ho=>.inl (h6.2 hf o ho)⟩,h7⟩;rcases hr with hr | ⟨id',t,l,bE,CS,hi',hb',_⟩
   ·exact h6.1 hf o hr
   ·have:=ahf id _ ho' rfl gh g h1 hb id' t l bE CS hi' hb';subst this;rw[ho']at CS;cases CS
  | lp st pend n tm ps assign body =>
   obtain⟨gh,g,rec,h1,h2,h3,h4,h5⟩:=h;exact⟨gh,g,rec,h1,h2,h3,h4,fun t x hl=>by obtain⟨v,q1,q2⟩:=h5 t x hl;exact⟨v,q1,q2.mono (fun _ _ h=>.inl h) (fun _ _ _=>rfl) (fun _ _ h=>h)⟩⟩
  | mp K V l =>
   obtain⟨gh,g,es,h1,h2,h3,h4,h5,h6⟩:=h;exact⟨gh,g,es,h1,h2,h3,h4,h5,fun j e x he hx=>by obtain⟨k1,k2,k3,k4⟩:=h6 j e x he hx;exact⟨k1,k2,k3,fun i v c hv hc=>⟨(k4 i v c hv hc).1,(k4 i v c hv hc).2.mono (fun _ _ h=>.inl h) (fun _ _ _=>rfl) (fun _ _ h=>h)⟩⟩⟩
  | row t l =>
   intro _;obtain⟨gh,xs,h1,hn,hge,hgs,hown,hrow,iF⟩:=h;refine⟨gh,xs,h1,hown,fun g hb o ho hr=>?_⟩;rcases hr with hr | ⟨id',t',l',bE,CS,hi',hb',aGn⟩
   ·exact iF g hb o hr
   ·have:=ahf id _ ho' rfl gh g h1 hb id' t' l' bE CS hi' hb';grind
 ·intro id id' o o' gh bE k hl hl' l1 l2 i1 i2 b1 b2;obtain⟨q,hq,rfl⟩:=F6 hl;obtain⟨q',hq',rfl⟩:=F6 hl';have e1:q.live=true:=by cases q<;>first | exact l1 | rfl
  have e2:q'.live=true:=by cases q'<;>first | exact l2 | rfl
  exact hg.inj id id' q q' gh bE k hq hq' e1 e2 i1 i2 b1 b2
 ·obtain⟨q,hq,rfl⟩:=F6 hl;exact hg.ids id q hq
theorem ar9{id:Nat}{ds:List (bQ E.Den)}{x:AV E}:eF (UC id ds x)=eF x:=by
 cases x<;>try rfl
 rename_i id' off;show eF (match Nat.beq id' id with | true=>.lN (ds.drop off) | false=>.ptr id' off)=false;split<;>rfl
theorem aeT{id:Nat}{ds:List (bQ E.Den)}{x:AV E}:eF (acZ id ds x)=eF x:=by have h:=ar9 (id:=id) (ds:=ds) (x:=x);cases x<;>first | rfl | exact h
theorem Ye{id:Nat}{ds:List (bQ E.Den)}:∀{l:List (Nat×AV E)},aS l->aS (aiv id ds l)
 | [],_=>fun p h=>by cases h
 | (t,x)::r,hn=>fun p h=>by
  cases h with
  | head=>exact aeT.trans (hn (t,x) abI)
  | tail _ h=>exact Ye (fun p h=>hn p (abD _ h)) p h
theorem aeU{id:Nat}{ds:List (bQ E.Den)}:∀{l:List (Nat×AV E)} {t:Nat} {y:AV E},look (aiv id ds l) t=some y->∃x,look l t=some x/\y=acZ id ds x
 | [],_,_,h=>by cases h
 | (u,x)::r,t,y,h=>by
  simp only[aiv,bf]at h ⊢;split at h
  ·grind
  ·rename_i hb;rw[if_neg hb];exact aeU h
theorem F7{id:Nat}{ds:List (bQ E.Den)}:∀{l:List (Nat×aU E)} {t:Nat} {y:aU E},look (ahc id ds l) t=some y->∃x,look l t=some x/\y=avf id ds t x
 | [],_,_,h=>by cases h
 | (u,x)::r,t,y,h=>by
  simp only[ahc,bf]at h ⊢;split at h
  ·rename_i hb;rw[if_pos hb];cases h;rw[abe hb];exact⟨x,rfl,rfl⟩
  ·rename_i hb;rw[if_neg hb];exact F7 h
theorem alG(t:Nat)(hnc:aS S.tmps)(hg:bO E w0 aP S a w ι ro):∃ro',aS (Xj t S).tmps/\bO E w0 aP (Xj t S) a w ι ro'/\(Xj t S).n=S.n:=by
 have same:∃ro',aS S.tmps/\bO E w0 aP S a w ι ro'/\S.n=S.n:=⟨ro,hnc,hg,rfl⟩
 unfold Xj;split
 ·rename_i id aGo hv;split
  ·rename_i cs eD;split
   ·rename_i ds hds;obtain⟨gh,g,vs,ty,h1,h2,hb,h3,h4,h5,h6⟩:=hg.objs id _ eD;have hlt:=(hg.base.uZ id gh g h1 hb)
    have hdl:=toDs_len hds;let ro':Nat->Nat->Prop:=fun k o=>ro k o\/(k=g/\o<cs.length)
    have hro:∀k o,ro k o->ro' k o:=fun _ _ h=>.inl h
    have one:∀(v:Value) (x:AV E),aO E w ro ι v x->aO E w ro' ι v (UC id ds x):=by
     intro v x h;have hm:=h.mono (w':=w) hro (fun _ _ _=>rfl) (fun _ _ h=>h);cases h with
     | ptr bE g' id' off i1 i2 =>
      show aO E w ro' ι _ (match Nat.beq id' id with | true=>.lN (ds.drop off) | false=>.ptr id' off);split
      ·rename_i hbq;have:=abe hbq;subst this;rw[h1]at i1;cases i1;rw[h2]at i2;cases i2;refine .lN g off (fun j=>vs.getD (off+j) undef) (ds.drop off) (fun j c hc=>?_) (fun j c hc=>?_)
       ·rw[afs]at hc;have hj:off+j<cs.length:=by rw[<- hdl];exact(List.getElem?_eq_some_iff.1 hc).1
        have hjv:off+j<vs.size:=by omega
        refine⟨.inr ⟨rfl,hj⟩,?_⟩;simp[World.cell?,h3,hjv,Array.getD]
       ·rw[afs]at hc;have hj:off+j<cs.length:=by rw[<- hdl];exact(List.getElem?_eq_some_iff.1 hc).1
        have hjv:off+j<vs.size:=by omega
        have hvj:vs[off+j]? = some vs[off+j]:=afm hjv;have hcj:=aaO hj;have hr:=toD_rep (h5 _ _ _ hvj hcj).2 (toDs_at hds _ _ _ hcj hc);have e:vs.getD (off+j) undef=vs[off+j]:=by simp[Array.getD,hjv]
        rw[e];exact hr.mono hro (fun _ _ _=>rfl)
      ·exact hm
     | _=>exact hm
    have many:∀(vs:Array Value) (cs:List (AV E)),(∀(j:Nat) v c,vs[j]? = some v->cs[j]? = some c->aO E w ro ι v c)->∀(j:Nat) v c,vs[j]? = some v->(cs.map (UC id ds))[j]? = some c->aO E w ro' ι v c:=by grind
    have all:∀(v:Value) (x:AV E),aO E w ro ι v x->aO E w ro' ι v (acZ id ds x):=by
     intro v x h;have h1:=one v x h;cases h with
     | agg vs cs hs hi=>exact .agg vs _ (by simp[hs]) (many vs cs hi)
     | wP vs cs hs hi=>exact .wP vs _ (by simp[hs]) (many vs cs hi)
     | _=>exact h1
    have other:∀id' ob bE g',look S.objs id'=some ob->ob.live=true->ι id'=some bE->bE.blk=some g'->id'≠id->g'≠g:=by intro id' ob bE g' q1 q2 q3 q4 hne e;subst e;exact hne (hg.inj id' id ob _ bE gh g' q1 eD q2 rfl q3 h1 q4 hb)
    refine⟨ro',Ye hnc,⟨⟨hg.base.below,fun k o h=>?_,fun k o h=>?_,hg.base.uZ,hg.base.defers,fun q hq=>⟨fun k o h=>⟨.inl ((hg.base.keep q hq).1 k o h).1,((hg.base.keep q hq).1 k o h).2⟩,(hg.base.keep q hq).2⟩,hg.base.held⟩,hg.size,fun t y hl=>?_,fun id' o hl=>?_,?_,hg.fresh,fun id' o hl=>?_⟩,rfl⟩
    ·rcases h with h | ⟨rfl,_⟩
     ·exact hg.base.aZ k o h
     ·exact hlt.2
    ·rcases h with h | ⟨rfl,_⟩
     ·exact hg.base.rU k o h
     ·exact .inr hlt.1
    ·obtain⟨x,hx,rfl⟩:=aeU hl;obtain⟨v,hv,hs⟩:=hg.tmps t x hx;have hc:eF x=false:=hnc _ (j5 _ _ _ hx);have hr:aO E w ro ι v x:=by cases x<;>first | exact hs | cases hc
     refine⟨v,hv,?_⟩;have h2:=all v x hr;have h3:eF (acZ id ds x)=false:=aeT.trans hc;generalize acZ id ds x=y at h2 h3;cases y<;>first | exact h2 | cases h3
    ·obtain⟨o',ho',rfl⟩:=F7 hl;have h:=hg.objs id' o' ho';cases o' with
     | dead=>trivial
     | box cs' =>
      show kE E w ro' ι id' (match Nat.beq id' id with | true=>.dead | false=>.box (cs'.map (UC id ds)));split
      ·trivial
      ·rename_i hbq;have hne:id'≠id:=fun e=>by subst e;simp at hbq
       obtain⟨bE,g',vs',ty',q1,q2,qb,q3,q4,q5,q6⟩:=h;refine⟨bE,g',vs',ty',q1,q2,qb,q3,by simp[q4],fun j v c hv hc=>⟨?_,many vs' cs' (fun j v c hv hc=>(q5 j v c hv hc).2) j v c hv hc⟩,fun o hr=>?_,q6.2⟩
       ·have hj:j<cs'.length:=by have:=(List.getElem?_eq_some_iff.1 hc).1;simpa using this
        exact(q5 j v _ hv (aaO hj)).1
       ·rcases hr with hr | ⟨hr,_⟩
        ·exact q6.1 o hr
        ·exact other id' _ bE g' ho' rfl q1 qb hne hr
     | tail live =>
      intro hlive;obtain⟨bE,xs,q1,q2,q3⟩:=h hlive;have hne:id'≠id:=fun e=>by subst e;rw[eD]at ho';cases ho'
      refine⟨bE,xs,q1,q2,fun g' hb' o ho hr=>?_⟩;rcases hr with hr | ⟨hr,_⟩
      ·exact q3 g' hb' o ho hr
      ·exact other id' _ bE g' ho' hlive q1 hb' hne hr
     | X6=>exact h
     | arr t l fz =>
      obtain⟨h0,bE,g',vs',ty',q1,q2,qb,q3,q4,q5,q6,q7⟩:=h;have hne:id'≠id:=fun e=>by subst e;rw[eD]at ho';cases ho'
      refine⟨h0,bE,g',vs',ty',q1,q2,qb,q3,q4,fun j v c hv hc=>⟨(q5 j v c hv hc).1,(q5 j v c hv hc).2.mono hro (fun _ _ _=>rfl) (fun _ _ h=>h)⟩,⟨fun hf o hr=>?_,fun hf o ho=>.inl (q6.2 hf o ho)⟩,q7⟩;rcases hr with hr | ⟨hr,_⟩
      ·exact q6.1 hf o hr
      ·exact other id' _ bE g' ho' rfl q1 qb hne hr
     | lp st pend n tm ps assign body =>
      obtain⟨bE,g',rec,q1,q2,q3,q4,q5⟩:=h;exact⟨bE,g',rec,q1,q2,q3,q4,fun t x hl=>by obtain⟨v,u1,u2⟩:=q5 t x hl;exact⟨v,u1,u2.mono hro (fun _ _ _=>rfl) (fun _ _ h=>h)⟩⟩
     | mp K V l =>
      obtain⟨bE,g',es,q1,q2,q3,q4,q5,q6⟩:=h;exact⟨bE,g',es,q1,q2,q3,q4,q5,fun j e x he hx=>by obtain⟨k1,k2,k3,k4⟩:=q6 j e x he hx;exact⟨k1,k2,k3,fun i v c hv hc=>⟨(k4 i v c hv hc).1,(k4 i v c hv hc).2.mono hro (fun _ _ _=>rfl) (fun _ _ h=>h)⟩⟩⟩
     | row t l =>
      obtain⟨bE,xs,q1,hn,hge,hgs,hown,hrow,iF⟩:=h;have hne:id'≠id:=fun e=>by subst e;rw[eD]at ho';cases ho'
      refine⟨bE,xs,q1,hn,hge,hgs,hown,hrow.mono hro (fun _ _ _=>rfl),fun g' hb' o hr=>?_⟩;rcases hr with hr | ⟨hr,_⟩
      ·exact iF g' hb' o hr
      ·exact other id' _ bE g' ho' rfl q1 hb' hne hr
    ·intro i1 i2 o o' gh1 gh2 k hl hl' l1 l2 e1 e2 b1 b2;obtain⟨q,hq,rfl⟩:=F7 hl;obtain⟨q',hq',rfl⟩:=F7 hl';have lv:∀i (q:aU E),(avf id ds i q).live=true->q.live=true:=by
      intro i q h;cases q<;>first | exact h | rfl
     exact hg.inj i1 i2 q q' gh1 gh2 k hq hq' (lv _ _ l1) (lv _ _ l2) e1 e2 b1 b2
    ·obtain⟨q,hq,rfl⟩:=F7 hl;exact hg.ids id' q hq
   ·exact same
  ·exact same
 ·exact same
theorem Oi:∀(l:List Nat) (S:aI E) (ro:Nat->Nat->Prop),aS S.tmps->bO E w0 aP S a w ι ro->∃ro',aS (ND l S).tmps/\bO E w0 aP (ND l S) a w ι ro'/\(ND l S).n=S.n
 | [],S,ro,hnc,hg=>⟨ro,hnc,hg,rfl⟩
 | t::r,S,ro,hnc,hg=>by obtain⟨Yf,h1,h2,h3⟩:=alG t hnc hg;obtain⟨Yg,h4,h5,h6⟩:=Oi r (Xj t S) Yf h1 h2;exact⟨Yg,h4,h5,h6.trans h3⟩
theorem kE.aCe{w:World}{ro ro':Nat->Nat->Prop}{ι:Nat->Option Gh}{g:Nat}(hro:∀k o,ro k o->ro' k o)(hnew:∀k o,ro' k o->ro k o\/k=g){id:Nat}{ob:aU E}(h:kE E w ro ι id ob)
  (hne:ob.live=true->∀gh g',ι id=some gh->gh.blk=some g'->g'≠g):kE E w ro' ι id ob:=by
 have mono:∀{v:Value} {x:AV E},aO E w ro ι v x->aO E w ro' ι v x:=fun h=>h.mono hro (fun _ _ _=>rfl) (fun _ _ h=>h)
 cases ob with
 | dead=>trivial
 | box cs =>obtain⟨gh,g',vs,ty,q1,q2,qb,q3,q4,q5,q6,q7⟩:=h;exact⟨gh,g',vs,ty,q1,q2,qb,q3,q4,fun j v c hv hc=>⟨(q5 j v c hv hc).1,mono (q5 j v c hv hc).2⟩,fun o hr=>(hnew _ _ hr).elim (q6 o) (hne rfl gh g' q1 qb),q7⟩
 | tail live =>intro hlive;obtain⟨gh,xs,q1,q2,q3⟩:=h hlive;exact⟨gh,xs,q1,q2,fun g' hb o ho hr=>(hnew _ _ hr).elim (q3 g' hb o ho) (hne hlive gh g' q1 hb)⟩
 | X6=>exact h
 | arr t l fz =>obtain⟨h0,gh,g',vs,ty,q1,q2,qb,q3,q4,q5,q6,q7⟩:=h;exact⟨h0,gh,g',vs,ty,q1,q2,qb,q3,q4,fun j v c hv hc=>⟨(q5 j v c hv hc).1,mono (q5 j v c hv hc).2⟩,⟨fun hf o hr=>(hnew _ _ hr).elim (q6.1 hf o) (hne rfl gh g' q1 qb),fun hf o ho=>hro _ _ (q6.2 hf o ho)⟩,q7⟩
 | lp st pend n tm ps assign body =>
  obtain⟨gh,g',rec,q1,q2,q3,q4,q5⟩:=h;exact⟨gh,g',rec,q1,q2,q3,q4,fun t x hl=>by obtain⟨v,u1,u2⟩:=q5 t x hl;exact⟨v,u1,mono u2⟩⟩
 | mp K V l =>
  obtain⟨gh,g',es,q1,q2,q3,q4,q5,q6⟩:=h;exact⟨gh,g',es,q1,q2,q3,q4,q5,fun j e x he hx=>by obtain⟨k1,k2,k3,k4⟩:=q6 j e x he hx;exact⟨k1,k2,k3,fun i v c hv hc=>⟨(k4 i v c hv hc).1,mono (k4 i v c hv hc).2⟩⟩⟩
 | row t l =>obtain⟨gh,xs,q1,hn,hge,hgs,hown,hrow,iF⟩:=h;exact⟨gh,xs,q1,hn,hge,hgs,hown,hrow.mono hro (fun _ _ _=>rfl),fun g' hb o hr=>(hnew _ _ hr).elim (iF g' hb o) (hne rfl gh g' q1 hb)⟩
theorem bO.other{id g:Nat}{gh:Gh}{ob Us:aU E}{ro':Nat->Nat->Prop}(hnc:aS S.tmps)(hg:bO E w0 aP S a w ι ro)(eD:look S.objs id=some ob)(hl:ob.live=true)(hi:ι id=some gh)(hb:gh.blk=some g)
  (hro:∀k o,ro k o->ro' k o) (hnew:∀k o,ro' k o->ro k o\/k=g) (h':kE E w ro' ι id Us):bO E w0 aP ⟨S.n,S.tmps,(id,Us)::S.objs,S.next⟩ a w ι ro':=by
 have hlt:=hg.base.uZ id gh g hi hb;refine⟨⟨hg.base.below,fun k o h=>?_,fun k o h=>?_,hg.base.uZ,hg.base.defers,fun q hq=>⟨fun k o h=>⟨hro _ _ ((hg.base.keep q hq).1 k o h).1,((hg.base.keep q hq).1 k o h).2⟩,(hg.base.keep q hq).2⟩,hg.base.held⟩,hg.size,fun t x hx=>?_,fun id' o ho=>?_,?_,hg.fresh,fun id' o ho=>?_⟩
 ·rcases hnew k o h with h | rfl
  ·exact hg.base.aZ k o h
  ·exact hlt.2
 ·rcases hnew k o h with h | rfl
  ·exact hg.base.rU k o h
  ·exact .inr hlt.1
 ·obtain⟨v,hv,hs⟩:=hg.tmps t x hx;have hc:eF x=false:=hnc _ (j5 _ _ _ hx);exact⟨v,hv,CQ.mono hro (fun _ _ _=>rfl) (fun _ _ h=>h) hs⟩
 ·simp only[bf]at ho;split at ho
  ·rename_i hbq;have:=abe hbq;subst this;cases ho;exact h'
  ·rename_i hbq;refine(hg.objs id' o ho).aCe hro hnew fun hl' bE g' hi' hb' e=>?_
   subst e;have:=hg.inj id' id o ob bE gh g' ho eD hl' hl hi' hi hb' hb;subst this;exact hbq (Nat.beq_refl _)
 ·have pre:∀i o,look ((id,Us)::S.objs) i=some o->o.live=true->∃o',look S.objs i=some o'/\o'.live=true:=fun i o h hl'=>by
   simp only[bf]at h;split at h
   ·rename_i hbq;have:=abe hbq;subst this;exact⟨ob,eD,hl⟩
   ·exact⟨o,h,hl'⟩
  intro i1 i2 o1 o2 g1 g2 k h1 h2 l1 l2 e1 e2 b1 b2;obtain⟨p1,q1,r1⟩:=pre i1 o1 h1 l1;obtain⟨p2,q2,r2⟩:=pre i2 o2 h2 l2;exact hg.inj i1 i2 p1 p2 g1 g2 k q1 q2 r1 r2 e1 e2 b1 b2
 ·simp only[bf]at ho;split at ho
  ·rename_i hbq;have:=abe hbq;subst this;exact hg.ids id ob eD
  ·exact hg.ids id' o ho
theorem alH(p:Nat×Option E.Ty)(hnc:aS S.tmps)(hg:bO E w0 aP S a w ι ro):∃ro',aS (Xk p S).tmps/\bO E w0 aP (Xk p S) a w ι ro'/\(Xk p S).n=S.n:=by
 have same:∃ro',aS S.tmps/\bO E w0 aP S a w ι ro'/\S.n=S.n:=⟨ro,hnc,hg,rfl⟩
 unfold Xk;split
 ·rename_i id off hv;split
  ·rename_i cs t eD hp;split
   ·rename_i ds hag hds;split
    ·rename_i l hl;obtain⟨gh,g,vs,ty,h1,h2,hb,h3,h4,h5,h6,h7⟩:=hg.objs id _ eD;obtain⟨q1,q2⟩:=aeG hl;have hdl:=toDs_len hds;refine⟨ro,hnc,hg.other hnc eD rfl h1 hb (fun _ _ h=>h) (fun _ _ h=>.inl h) ⟨hag,gh,g,vs,ty,h1,h2,hb,h3,by rw[h4,Ie,q1,<- hdl],fun j v c hv hc=>?_,⟨fun _=>h6,fun hf=>by cases hf⟩,h7⟩,rfl⟩;unfold qw at hc;rw[acj]at hc;cases hj:l[j]? with
     | none=>rw[hj]at hc;cases hc
     | some x =>
      rw[hj]at hc;cases hc;obtain⟨d,hd,hle⟩:=q2 j x hj;obtain⟨c0,r1,r2⟩:=Za hag x;rw[r1]at hle;have hjc:j<cs.length:=by rw[<- hdl];exact(List.getElem?_eq_some_iff.1 hd).1
      obtain⟨g1,g2⟩:=h5 j v _ hv (aaO hjc);have hdr:=toD_rep g2 (toDs_at hds _ _ _ (aaO hjc) hd);refine⟨g1,?_⟩;rw[r2];exact .d _ _ ((hle.at_ 0 d c0 rfl rfl).rep hdr)
    ·exact same
   ·exact same
  ·rename_i t l eD hp;obtain⟨h0,gh,g,vs,ty,h1,h2,hb,h3,h4,h5,h6,h7⟩:=hg.objs id _ eD;refine⟨fun k o=>ro k o\/(k=g/\o<l.length),hnc,hg.other hnc eD rfl h1 hb (fun _ _ h=>.inl h) (fun _ _ h=>h.imp (fun h=>h) And.left) ⟨h0,gh,g,vs,ty,h1,h2,hb,h3,h4,fun j v c hv hc=>⟨(h5 j v c hv hc).1,(h5 j v c hv hc).2.mono (fun _ _ h=>.inl h) (fun _ _ _=>rfl) (fun _ _ h=>h)⟩,⟨fun hf=>(by cases hf),fun _ o ho=>.inr ⟨rfl,ho⟩⟩,h7⟩,rfl⟩
  ·exact same
 ·exact same
theorem Q9:∀(l:List (Nat×Option E.Ty)) (S:aI E) (ro:Nat->Nat->Prop),aS S.tmps->bO E w0 aP S a w ι ro->∃ro',aS (aiw l S).tmps/\bO E w0 aP (aiw l S) a w ι ro'/\(aiw l S).n=S.n
 | [],S,ro,hnc,hg=>⟨ro,hnc,hg,rfl⟩
 | p::r,S,ro,hnc,hg=>by obtain⟨Yf,h1,h2,h3⟩:=alH p hnc hg;obtain⟨Yg,h4,h5,h6⟩:=Q9 r (Xk p S) Yf h1 h2;exact⟨Yg,h4,h5,h6.trans h3⟩
theorem UG{R:Type}{k:aI E->Option R}{rr:R}{t:Nat}{kd:IntKind}{i:Int}(hnc:aS S.tmps)(hg:bO E w0 aP S a w ι ro)(hl:look S.tmps t=some (.d (.int kd i))) :
  ∀(m j:Nat),splitN k S t kd i m j=some rr->∃S',aS S'.tmps/\bO E w0 aP S' a w ι ro/\S'.n=S.n/\k S'=some rr
 | 0,_,h=>by cases h
 | m+1,j,h=>by
  unfold splitN at h;cases hb:i==(j:Int)with
  | false=>rw[hb]at h;exact UG hnc hg hl m (j+1) h
  | true =>
   rw[hb]at h;have e:i=(j:Int):=by simpa using hb
   subst e;refine⟨⟨S.n,(t,.d (.int kd (j:Int)))::S.tmps,S.objs,S.next⟩,fun p hp=>?_,⟨hg.base,hg.size,fun t' x hl'=>?_,hg.objs,hg.inj,hg.fresh,hg.ids⟩,rfl,h⟩
   ·cases hp with
    | head=>rfl
    | tail _ hp=>exact hnc p hp
   ·simp only[bf]at hl';split at hl'
    ·rename_i hb;have:=abe hb;subst this;cases hl';exact hg.tmps _ _ hl
    ·exact hg.tmps t' x hl'
theorem LG{R:Type}{k:aI E->Option R}{rr:R}:∀(l:List (Nat×Nat)) (S:aI E),aS S.tmps->bO E w0 aP S a w ι ro->splitK l S k=some rr->∃S',aS S'.tmps/\bO E w0 aP S' a w ι ro/\S'.n=S.n/\k S'=some rr
 | [],S,hnc,hg,h=>⟨S,hnc,hg,rfl,h⟩
 | (t,n)::r,S,hnc,hg,h=>by
  unfold splitK at h;split at h
  ·rename_i kd i hl;obtain⟨S1,h1,h2,h3,h4⟩:=UG hnc hg hl n 0 h;obtain⟨S2,h5,h6,h7,h8⟩:=LG r S1 h1 h2 h4;exact⟨S2,h5,h6,h7.trans h3,h8⟩
  ·cases h
theorem yG:∀{l:List Nat} {i j:Nat},ny l i=some j->l[j]? = some i
 | [],_,_,h=>by cases h
 | x::r,i,j,h=>by
  unfold ny at h;split at h
  ·rename_i hb;cases h;simp[abe hb]
  ·split at h
   ·rename_i q hq;cases h;simpa using yG hq
   ·cases h
theorem aeW:∀{l:List Nat} {i:Nat},ny l i=none->i∉l
 | [],_,_=>by simp
 | x::r,i,h=>by
  unfold ny at h;split at h
  ·cases h
  ·rename_i hb;split at h
   ·cases h
   ·rename_i hq;have:=aeW hq;intro hm;cases hm with
    | head=>simp at hb
    | tail _ hm=>exact this hm
theorem apE{l:List Nat}{i:Nat}(h:l.Nodup):(addN l i).Nodup:=by
 unfold addN;split
 ·exact h
 ·rename_i hn;rw[List.nodup_append];refine⟨h,by simp,fun x hx y hy e=>?_⟩;simp at hy;subst hy;subst e;exact aeW hn hx
theorem LH:∀{m l:List Nat},l.Nodup->(UD l m).Nodup
 | [],_,h=>h
 | _::r,_,h=>LH (m:=r) (apE h)
theorem aeX{ι':Nat->Option Gh}{v:Value}{x:AV E}(hc:KZ x=true)(h:aO E w ro ι v x):aO E w ro ι' v x:=by
 cases h with
 | d _ c h=>exact .d _ c h
 | st vs t x ha h=>exact .st vs t x ha h
 | _=>cases hc
theorem aiA{ids:List Nat}{v:Value}{x:AV E}(h:aO E w ro ι v x):aO E w ro (fun j=>(ids[j]?).bind ι) v (UE ids x):=by
 cases h with
 | d _ c h=>exact .d _ c h
 | st vs t x ha h=>exact .st vs t x ha h
 | lN g off f cs h1 h2=>exact .lN g off f cs h1 h2
 | grow gh t l id h1 h2 h3 h4 h5 =>
  show aO E w ro _ gh.v (match ny ids id with | some j=>.grow t l j | none=>.d (.slice t l));cases hj:ny ids id with
  | some j=>exact .grow gh t l j (show(ids[j]?).bind ι=some gh by rw[yG hj];exact h1) h2 h3 h4 h5
  | none=>exact .d _ _ h5
 | ptr gh g id off h1 h2 =>
  show aO E w ro _ _ (match ny ids id with | some j=>.ptr j off | none=>.any);cases hj:ny ids id with
  | some j=>exact .ptr gh g j off (show(ids[j]?).bind ι=some gh by rw[yG hj];exact h1) h2
  | none=>exact .any _
 | row gh t id ad cap h1 h2 h3 h4 h5 =>
  show aO E w ro _ gh.v (match ny ids id with | some j=>.row t gh.n j | none=>.any);cases hj:ny ids id with
  | some j=>exact .row gh t j ad cap (show(ids[j]?).bind ι=some gh by rw[yG hj];exact h1) h2 h3 h4 h5
  | none=>exact .any _
 | elt gh g id i off cap h1 h2 h3 =>
  show aO E w ro _ _ (match ny ids id with | some j=>.elt j i off | none=>.any);cases hj:ny ids id with
  | some j=>exact .elt gh g j i off cap (show(ids[j]?).bind ι=some gh by rw[yG hj];exact h1) h2 h3
  | none=>exact .any _
 | yl gh l id h1 h2 =>
  show aO E w ro _ _ (match ny ids id with | some j=>.yl j | none=>.any);cases hj:ny ids id with
  | some j=>exact .yl gh l j (show(ids[j]?).bind ι=some gh by rw[yG hj];exact h1) h2
  | none=>exact .any _
 | mp gh g id h1 h2 =>
  show aO E w ro _ _ (match ny ids id with | some j=>.mp j | none=>.any);cases hj:ny ids id with
  | some j=>exact .mp gh g j (show(ids[j]?).bind ι=some gh by rw[yG hj];exact h1) h2
  | none=>exact .any _
 | Lp gh g id n cap h1 h2 =>
  show aO E w ro _ _ (match ny ids id with | some j=>.Lp n j | none=>.any);cases hj:ny ids id with
  | some j=>exact .Lp gh g j n cap (show(ids[j]?).bind ι=some gh by rw[yG hj];exact h1) h2
  | none=>exact .any _
 | mk gh v g T id h1 h2 h3 h4 =>
  show aO E w ro _ _ (match ny ids id with | some j=>.mk T j | none=>.any);cases hj:ny ids id with
  | some j=>exact .mk gh _ g T j (show(ids[j]?).bind ι=some gh by rw[yG hj];exact h1) h2 h3 h4
  | none=>exact .any _
 | fn f vs us a b h1 h2 h3 h4 =>
  show aO E w ro _ _ (bif a.all KZ&&b.all KZ then .fn f a b else .any);cases hc:a.all KZ&&b.all KZ with
  | false=>exact .any _
  | true =>rw[abK,afE,afE]at hc;exact .fn f vs us a b h1 h2 (fun j v c hv hj=>aeX (hc.1 c (afD hj)) (h3 j v c hv hj)) fun j v c hv hj=>aeX (hc.2 c (afD hj)) (h4 j v c hv hj)
 | _=>exact .any _
theorem ac3{ids:List Nat}{vs:Array Value}{cs:List (AV E)}(h:∀(j:Nat) v c,vs[j]? = some v->cs[j]? = some c->aO E w ro ι v c):∀(j:Nat) v c,vs[j]? = some v->(cs.map (UE ids))[j]? = some c->aO E w ro (fun j=>(ids[j]?).bind ι) v c:=by
 intro j v c hv hc;rw[acj]at hc;cases hx:cs[j]? with
 | none=>rw[hx]at hc;cases hc
 | some y =>rw[hx]at hc;cases hc;exact aiA (h j v y hv hx)
theorem avg{ids:List Nat}{v:Value}{x:AV E}(h:aO E w ro ι v x):aO E w ro (fun j=>(ids[j]?).bind ι) v (Q6 ids x):=by
 have one:=aiA (ids:=ids) h;cases h with
 | agg vs cs h1 h2=>exact .agg vs _ (by simp[h1]) (ac3 h2)
 | _=>exact one
theorem apF{objs:List (Nat×aU E)}{v:Value}{x:AV E}(h:aO E w ro ι v x):aO E w ro ι v (Db objs x):=by
 have h0:=h;cases h with
 | grow gh t l id h1 h2 h3 h4 h5 =>
  show aO E w ro ι gh.v (match look objs id with | some (.tail true)=>.grow t l id | _=>.d (.slice t l));split
  ·exact h0
  ·exact .d _ _ h5
 | _=>exact h0
theorem apG{live:List Nat}{t:Nat}{y:AV E}(h:look (Xl S live) t=some y):∃x,look S.tmps t=some x/\y=Db S.objs x:=by
 induction live with
 | nil=>cases h
 | cons u r ih =>
  unfold Xl at h;cases hx:look S.tmps u with
  | some x =>
   rw[hx]at h;simp only[bf]at h;split at h
   ·rename_i hb;have:=abe hb;grind
   ·exact ih h
  | none =>rw[hx]at h;exact ih h
theorem aeY{ids:List Nat}:∀{l:List (Nat×AV E)} {t:Nat} {y:AV E},look (Zl ids l) t=some y->∃x,look l t=some x/\y=Q6 ids x
 | [],_,_,h=>by cases h
 | (u,x)::r,t,y,h=>by
  simp only[Zl,bf]at h ⊢;split at h
  ·grind
  ·rename_i hb;rw[if_neg hb];exact aeY h
theorem F8{objs:List (Nat×aU E)}{ids:List Nat}:∀{l:List Nat} {j q:Nat} {o:aU E},look (aa5 objs ids l j) q=some o->∃i,j<=q/\l[q-j]? = some i/\(o = .dead\/∃o',look objs i=some o'/\o=aAa ids o')
 | [],_,_,_,h=>by cases h
 | i::r,j,q,o,h=>by
  simp only[aa5,bf]at h;split at h
  ·rename_i hb;have:=abe hb;subst this;refine⟨i,ab8 _,by simp,?_⟩;grind
  ·obtain⟨i',h1,h2,h3⟩:=F8 h;grind
theorem Oj{ids:List Nat}:∀(l:List (Nat×AV E)),aS (Zl ids l)
 | []=>fun p h=>by cases h
 | (t,x)::r=>fun p h=>by
  cases h with
  | tail _ h=>exact Oj r p h
  | head =>
   simp only;cases x with
   | cond=>rfl
   | agg=>rfl
   | any=>rfl
   | d=>rfl
   | st=>rfl
   | wP=>rfl
   | lN=>rfl
   | sd=>rfl
   | fn f a b=>simp only[Q6,UE];cases a.all KZ&&b.all KZ<;>rfl
   | _=>simp only[Q6,UE];split<;>rfl
theorem avh{ι':Nat->Option Gh}{v:Value}{c:AV E}{t:E.Ty}{l:List (E.Den t)}{j:Nat}(h:aO E w ro ι v c)(hc:(qw t l)[j]? = some c):aO E w ro ι' v c:=by
 unfold qw at hc;rw[acj]at hc;cases hl:l[j]? with
 | none=>rw[hl]at hc;cases hc
 | some x =>
  rw[hl]at hc;cases hc;unfold cell1 at h ⊢;cases h with
  | d _ _ hd=>exact .d _ _ hd
theorem NG(ids:List Nat)(hnd:ids.Nodup)(kept:List (Nat×AV E))(hkept:∀t y,look kept t=some y->∃z,look S.tmps t=some z/\y=Db S.objs z)(hio:∀q,w0.k=some q->∀id gh,q.ι id=some gh->ids[id]? = some id)(hnc:aS S.tmps)(hg:bO E w0 aP S a w ι ro) :
  aS (Zl ids kept)/\bO E w0 aP ⟨S.n,Zl ids kept,aa5 S.objs ids ids 0,ids.length⟩ a w (fun j=>(ids[j]?).bind ι) ro:=by
 refine⟨Oj _,⟨hg.base.below,hg.base.aZ,hg.base.rU,fun id gh k h1 h2=>?_,hg.base.defers,(fun q hq=>⟨(hg.base.keep q hq).1,fun id gh h=>by simp only[hio q hq id gh h];exact(hg.base.keep q hq).2 id gh h⟩),fun k o h=>⟨(hg.base.held k o h).1,fun id gh h1 h2=>by cases hj:ids[id]? with | none=>(simp only[hj]at h1;cases h1) | some i=>(simp only[hj]at h1;exact(hg.base.held k o h).2 i gh h1 h2)⟩⟩,hg.size,fun t y hl=>?_,fun id o hl=>?_,?_,fun id h=>?_,fun id o hl=>?_⟩
 ·cases hj:ids[id]? with
  | none=>simp only[hj]at h1;cases h1
  | some i=>simp only[hj]at h1;exact hg.base.uZ i gh k h1 h2
 ·obtain⟨x,hx,rfl⟩:=aeY hl;obtain⟨z,hz,rfl⟩:=hkept _ _ hx;obtain⟨v,hv,hs⟩:=hg.tmps t z hz;have hc:eF z=false:=hnc _ (j5 _ _ _ hz);have hr:aO E w ro ι v z:=by cases z<;>first | exact hs | cases hc
  refine⟨v,hv,?_⟩;have h2:=avg (ids:=ids) (apF (objs:=S.objs) hr);have h3:eF (Q6 ids (Db S.objs z))=false:=by have:=Oj (ids:=ids) [(0,Db S.objs z)];exact this (0,Q6 ids (Db S.objs z)) abI
  show CQ E w ro _ a.tmps v (Q6 ids (Db S.objs z));generalize Q6 ids (Db S.objs z)=y at h2 h3;cases y<;>first | exact h2 | cases h3
 ·obtain⟨i,_,hi,h⟩:=F8 hl;simp only[am6]at hi;rcases h with rfl | ⟨o',ho',rfl⟩
  ·trivial
  ·have h:=hg.objs i o' ho';have hi':(fun j=>(ids[j]?).bind ι) id=ι i:=by
    grind
   cases o' with
   | tail l =>intro hl;obtain⟨gh,xs,h1,h2,h3⟩:=h hl;exact⟨gh,xs,hi'.trans h1,h2,h3⟩
   | X6 =>obtain⟨gh,g,h1,h2⟩:=h;exact⟨gh,g,hi'.trans h1,h2⟩
   | arr t l fz =>obtain⟨h0,gh,g,vs,ty,h1,h2,hb,h3,h4,h5,h6⟩:=h;exact⟨h0,gh,g,vs,ty,hi'.trans h1,h2,hb,h3,h4,fun j v c hv hc=>⟨(h5 j v c hv hc).1,avh (h5 j v c hv hc).2 hc⟩,h6⟩
   | mp K V l =>
    obtain⟨gh,g,es,h1,h2,h3,h4,h5,h6⟩:=h;refine⟨gh,g,es,hi'.trans h1,h2,h3,by simpa using h4,by simpa using h5,fun j e x he hx=>?_⟩;rw[acj]at hx;cases hl':l[j]? with
    | none=>rw[hl']at hx;cases hx
    | some y =>
     rw[hl']at hx;cases hx;obtain⟨k1,k2,k3,k4⟩:=h6 j e y he hl';refine⟨k1,k2,by simpa using k3,fun i v c hv hc=>⟨?_,ac3 (fun j v c hv hc=>(k4 j v c hv hc).2) i v c hv hc⟩⟩;have hj:i<y.2.length:=by have:=(List.getElem?_eq_some_iff.1 hc).1;simpa using this
     exact(k4 i v _ hv (aaO hj)).1
   | row t l =>obtain⟨gh,xs,h1,h2⟩:=h;exact⟨gh,xs,hi'.trans h1,h2⟩
   | box cs =>
    obtain⟨gh,g,vs,ty,h1,h2,hb,h3,h4,h5,h6⟩:=h;exact⟨gh,g,vs,ty,hi'.trans h1,h2,hb,h3,by simp[h4],fun j v c hv hc=>⟨by
     have hj:j<cs.length:=by have:=(List.getElem?_eq_some_iff.1 hc).1;simpa using this
     exact(h5 j v _ hv (aaO hj)).1,ac3 (fun j v c hv hc=>(h5 j v c hv hc).2) j v c hv hc⟩,h6⟩
   | _=>trivial
 ·intro id id' o o' gh bE k hl hl' l1 l2 i1 i2 b1 b2;obtain⟨i,_,hi,h⟩:=F8 hl;obtain⟨i',_,hi',h'⟩:=F8 hl';simp only[am6]at hi hi';rcases h with rfl | ⟨q,hq,rfl⟩
  ·cases l1
  rcases h' with rfl | ⟨q',hq',rfl⟩
  ·cases l2
  have e1:q.live=true:=by cases q<;>first | exact l1 | cases l1
  have e2:q'.live=true:=by cases q'<;>first | exact l2 | cases l2
  simp only at i1 i2;have i1':(ids[id]?).bind ι=some gh:=i1;have i2':(ids[id']?).bind ι=some bE:=i2;rw[show ids[id]? = some i from hi]at i1';rw[show ids[id']? = some i' from hi']at i2';have:=hg.inj i i' q q' gh bE k hq hq' e1 e2 i1' i2' b1 b2;subst this;have hlt:=(List.getElem?_eq_some_iff.1 hi).1;have hlt':=(List.getElem?_eq_some_iff.1 hi').1;exact(List.getElem?_inj hlt hnd).1 (hi.trans hi'.symm)
 ·grind
 ·obtain⟨i,_,hi,_⟩:=F8 hl;grind
theorem avi{l:List Nat}{i j x:Nat}(h:l[j]? = some x):(addN l i)[j]? = some x:=by unfold addN;grind
theorem Ra{j x:Nat}:∀{m l:List Nat},l[j]? = some x->(UD l m)[j]? = some x
 | [],_,h=>h
 | _::r,_,h=>Ra (m:=r) (avi h)
def KOk(own:Nat)(w0:Start):Prop:=∀q,w0.k=some q->∀id gh,q.ι id=some gh->id<own
theorem KOk.none{own:Nat}{w0:Start}(h:w0.k=none):KOk own w0:=fun q hq=>by rw[h]at hq;cases hq
theorem alI(own:Nat)(live:List Nat)(hio:KOk own w0)(hnc:aS S.tmps)(hg:bO E w0 aP S a w ι ro):∃ι',aS (apC own live S).tmps/\bO E w0 aP (apC own live S) a w ι' ro :=
 ⟨_,NG _ (LH (LH List.nodup_range)) (Xl S live) (fun _ _ h=>apG h) (fun q hq id gh h=>Ra (Ra (by rw[List.getElem?_range (hio q hq id gh h)]))) hnc hg⟩
end
section
variable {P:Program} {E:Env P} {O:aR E} {w0:Start} {aP:Nat->Nat->Prop}
theorem UH{R:Type}(hO:aJ E O)(dB:P.follows .mixedOrders=true){S:aI E}{a:Act}{w:World}{ι:Nat->Option Gh}{ro:Nat->Nat->Prop}(hnc:aS S.tmps)(hg:bO E w0 aP S a w ι ro){k:aI E->Option R}{rr:R}{Q:Exit->Act->World->Prop}{b dr:Bool}{ops:Array Oper}{id:Nat}
  (hk:∀S' a' w' ι' ro',aS S'.tmps->bO E w0 aP S' a' w' ι' ro'->S'.n=S.n->k S'=some rr->Q .normal a' w') (h:JK b O ops dr S k=some rr):(Code.region id ops dr).wp P Q a w:=by
 have old:aw3 O ops dr S k=some rr->(Code.region id ops dr).wp P Q a w:=fun h=>by
  cases dr with
  | true=>exact air (n:=S.n) (glob:=S.tmps) (objs:=S.objs) (next:=S.next) hO dB hnc hg hk h
  | false=>exact wp_region_list (IX (n:=S.n) (glob:=S.tmps) hO hnc hk ops.toList [] S.objs S.next a w ι ro hg h)
 unfold JK at h;split at h
 ·exact ait hO dB hnc hg hk h
 ·exact old h
end
section
variable {P:Program} {E:Env P}
def ac4(S:aI E)(r:ResultVar):Option (AV E):=match r with
 | .tmp q=>some (aaE [] (look S.tmps q))
 | .cell q ty=>Ug S.objs ty (aaE [] (look S.tmps q))
def ac5(S:aI E):List ResultVar->List TypeId->Option (List (TV E))
 | [],[]=>some []
 | r::rs,T::Ts=>match E.code T with
  | some t=>match ac4 S r with
   | some v=>match FV t v with
    | some x=>match ac5 S rs Ts with
     | some xs=>some (⟨t,x⟩::xs)
     | none=>none
    | none=>none
   | none=>none
  | none=>none
 | _,_=>none
def Rb:List (TV E)->Nat->List (Nat×AV E)
 | [],_=>[]
 | ⟨t,x⟩::r,i=>(i,iw t x)::Rb r (i+1)
def UJ(fn:Func)(args:List (TV E)):aI E:=⟨args.length+(fn.ntmps-args.length),Rb args 0,[],0⟩
def LJ(fn:Func)(e:dN)(S:aI E):Option (List (TV E)):=match e with
 | .exit _=>none
 | .goto _=>none
 | _=>ac5 (zL S) fn.results.toList fn.resultTypes.toList
abbrev gY(E:Env P):=Nat->aI E->Option (List (TV E))
def Ij(O:aR E)(h:Hint E)(G:gY E)(fn:Func)(args:List (TV E)):Option (List (TV E)):=match fn.body with
 | some c=>nK O h G 0 c (UJ fn args) (LJ fn)
 | none=>none
def apH(O:aR E)(h:Hint E)(G:gY E)(fn:Func)(j:Nat)(S:aI E):Option (List (TV E)):=match fn.body with
 | some c=>aiy O h G c j S (LJ fn)
 | none=>none
end
section
variable {P:Program}
def u7(P:Program)(c:Code)(Q:Exit->Act->World->Prop)(a:Act)(w:World):Prop :=
 ∀b k cs, ∃e a' w',Q e a' w'/\Arrives P (lone (b.at a (.code c :: .inLoop c::k)) cs w) b k cs e a' w'
theorem u7.wp{c:Code}{Q:Exit->Act->World->Prop}{a:Act}{w:World}(h:u7 P c Q a w):(Code.loop c).wp P Q a w:=by intro b k cs;obtain⟨e,a',w',hq,harr⟩:=h b k cs;exact⟨e,a',w',hq,.of_steps (.one step_loop) harr⟩
theorem u7.round{c:Code}{Q:Exit->Act->World->Prop}{a:Act}{w:World}(h:c.wp P (Exit.then (u7 P c Q) Q) a w):u7 P c Q a w:=by
 intro b k cs;obtain⟨e,a₁,w₁,hq,harr⟩:=h b (.inLoop c::k) cs;cases e with
 | normal =>obtain⟨e₂,a₂,w₂,hq₂,harr₂⟩:=hq b k cs;exact⟨e₂,a₂,w₂,hq₂,.of_steps (Steps.trans harr (.one step_inLoop)) harr₂⟩
 | _=>exact⟨_,a₁,w₁,hq,.pass (x:=.inLoop c) rfl (fun _ _=>.inl (by simp)) harr⟩
def LK(P:Program)(c rest:Code)(Q:Exit->Act->World->Prop)(a:Act)(w:World):Prop :=
 ∀b k cs, ∃e a' w',Q e a' w'/\Arrives P (lone (b.at a (.code rest :: .inScope c::k)) cs w) b k cs e a' w'
def Pv(P:Program)(c:Code)(Q:Exit->Act->World->Prop):Exit->Act->World->Prop
 | .goto l,a,w=>∃rest,findLabel c l=some rest/\LK P c rest Q a w
 | e,a,w=>Q e a w
theorem LK.of{c rest:Code}{Q:Exit->Act->World->Prop}{a:Act}{w:World}(h:rest.wp P (Pv P c Q) a w):LK P c rest Q a w:=by
 intro b k cs;obtain⟨e,a₁,w₁,hq,harr⟩:=h b (.inScope c::k) cs;cases e with
 | normal=>exact⟨.normal,a₁,w₁,hq,Steps.trans harr (.one step_inScope)⟩
 | exit id=>exact⟨.exit id,a₁,w₁,hq,fun k' hk=>harr k' (by simp[exitTo,hk])⟩
 | goto l' =>
  obtain⟨rest',hf,hJ⟩:=hq;have hg:gotoIn l' (.inScope c::k)=some (.code rest' :: .inScope c::k):=by simp[gotoIn,hf]
  obtain⟨e₂,a₂,w₂,hq₂,harr₂⟩:=hJ b k cs;exact⟨e₂,a₂,w₂,hq₂,.of_steps (harr _ hg) harr₂⟩
 | _=>exact⟨_,a₁,w₁,hq,harr⟩
theorem aeZ{c:Code}{Q:Exit->Act->World->Prop}{a:Act}{w:World}(h:c.wp P (Pv P c Q) a w):(Code.scope c).wp P Q a w:=by
 intro b k cs;obtain⟨e,a₁,w₁,hq,harr⟩:=h b (.inScope c::k) cs;cases e with
 | normal=>exact⟨.normal,a₁,w₁,hq,.head step_scope (Steps.trans harr (.one step_inScope))⟩
 | exit id=>exact⟨.exit id,a₁,w₁,hq,fun k' hk=>.head step_scope (harr k' (by simp[exitTo,hk]))⟩
 | goto l' =>
  obtain⟨rest',hf,hJ⟩:=hq;have hg:gotoIn l' (.inScope c::k)=some (.code rest' :: .inScope c::k):=by simp[gotoIn,hf]
  obtain⟨e₂,a₂,w₂,hq₂,harr₂⟩:=hJ b k cs;exact⟨e₂,a₂,w₂,hq₂,.of_steps (.head step_scope (harr _ hg)) harr₂⟩
 | _=>exact⟨_,a₁,w₁,hq,.of_steps (.one step_scope) harr⟩
def o9(P:Program):Code->(Exit->Act->World->Prop)->Option (Code×(Exit->Act->World->Prop))
 | .scope c,Q=>some (c,Q)
 | .seq x y,Q=>(match fD x with
  | true=>o9 P x (Exit.then (y.wp P Q) Q)
  | false=>o9 P y Q)
 | .block id b,Q=>o9 P b (Exit.inBlock id Q)
 | _,_=>none
def mQ(P:Program):Code->Nat->(Exit->Act->World->Prop)->Option (Code×(Exit->Act->World->Prop))
 | .loop b,0,Q=>some (b,Q)
 | .loop b,j+1,Q=>mQ P b j (Exit.then (u7 P b Q) Q)
 | .seq x y,j,Q=>match Nat.blt j (bT x)with
  | true=>mQ P x j (Exit.then (y.wp P Q) Q)
  | false=>mQ P y (j-bT x) Q
 | .cond _ x y,j,Q=>match Nat.blt j (bT x)with
  | true=>mQ P x j Q
  | false=>mQ P y (j-bT x) Q
 | .block id b,j,Q=>mQ P b j (Exit.inBlock id Q)
 | .scope b,j,Q=>(match AB b with
  | true=>mQ P b j (Exit.noGoto Q)
  | false=>none)
 | _,_,_=>none
def Placed(P:Program)(c0:Code)(Q0:Exit->Act->World->Prop)(i:Nat)(c:Code)(Q:Exit->Act->World->Prop):Prop :=
 ∀j,j<bT c->mQ P c0 (i+j) Q0=mQ P c j Q
theorem Rc{a b:Nat}(h:a<b):Nat.blt a b=true:=by simpa[Nat.blt_eq]using h
theorem NH{a b:Nat}(h:b<=a):Nat.blt a b=false:=by
 cases hb:Nat.blt a b with
 | false=>rfl
 | true=>rw[Nat.blt_eq]at hb;omega
section
variable {c0:Code} {Q0 Q:Exit->Act->World->Prop} {i:Nat}
theorem Placed.seq{x y:Code}(h:Placed P c0 Q0 i (.seq x y) Q):Placed P c0 Q0 i x (Exit.then (y.wp P Q) Q)/\Placed P c0 Q0 (i+bT x) y Q:=by
 refine⟨fun j hj=>?_,fun j hj=>?_⟩
 ·rw[h j (by show j<bT x+bT y;omega)];simp only[mQ,Rc hj]
 ·rw[ajU,h (bT x+j) (by show bT x+j<bT x+bT y;omega)];simp only[mQ,NH (show bT x<=bT x+j by omega),Nat.add_sub_cancel_left]
theorem Placed.cond{c:Operand}{x y:Code}(h:Placed P c0 Q0 i (.cond c x y) Q):Placed P c0 Q0 i x Q/\Placed P c0 Q0 (i+bT x) y Q:=by
 refine⟨fun j hj=>?_,fun j hj=>?_⟩
 ·rw[h j (by show j<bT x+bT y;omega)];simp only[mQ,Rc hj]
 ·rw[ajU,h (bT x+j) (by show bT x+j<bT x+bT y;omega)];simp only[mQ,NH (show bT x<=bT x+j by omega),Nat.add_sub_cancel_left]
theorem Placed.block{id:Nat}{b:Code}(h:Placed P c0 Q0 i (.block id b) Q):Placed P c0 Q0 i b (Exit.inBlock id Q):=fun j hj=>h j hj
theorem Placed.scope{b:Code}(hb:AB b=true)(h:Placed P c0 Q0 i (.scope b) Q):Placed P c0 Q0 i b (Exit.noGoto Q):=fun j hj=>by rw[h j (by simp only[bT,hb];exact hj)];simp only[mQ,hb]
theorem Placed.head{b:Code}(h:Placed P c0 Q0 i (.loop b) Q):mQ P c0 i Q0=some (b,Q):=h 0 (by show 0<bT b+1;omega)
theorem Placed.inner{b:Code}(h:Placed P c0 Q0 i (.loop b) Q):Placed P c0 Q0 (i+1) b (Exit.then (u7 P b Q) Q):=fun j hj=>by rw[ajU,Nat.add_comm 1 j];exact h (j+1) (by show j+1<bT b+1;omega)
theorem Placed.am9{c:Code}(h:bT c=0):Placed P c0 Q0 i c Q:=fun j hj=>by omega
theorem Placed.whole:Placed P c0 Q0 0 c0 Q0:=fun j _=>by rw[afr]
end
end
section
variable {P:Program} {E:Env P} {O:aR E} {h:Hint E} {w0:Start} {aP:Nat->Nat->Prop} {n:Nat} {c0:Code} {Q0:Exit->Act->World->Prop}
def aAd(E:Env P)(w0:Start)(aP:Nat->Nat->Prop)(n:Nat)(c0:Code)(Q0:Exit->Act->World->Prop)(i:Nat)(S:aI E):Prop :=
 ∀b Q,mQ P c0 i Q0=some (b,Q)->∀a w ι ro,aS S.tmps->bO E w0 aP S a w ι ro->S.n=n->u7 P b Q a w
def aCf(E:Env P)(w0:Start)(aP:Nat->Nat->Prop)(n:Nat)(c0:Code)(Q0:Exit->Act->World->Prop)(i:Nat)(S:aI E):Prop :=
 ∀l,i=100+l->∀sc Q rest,o9 P c0 Q0=some (sc,Q)->findLabel sc l=some rest->∀a w ι ro,aS S.tmps->bO E w0 aP S a w ι ro->S.n=n->rest.wp P (Pv P sc Q) a w
def UK(E:Env P)(w0:Start)(aP:Nat->Nat->Prop)(n:Nat)(c0:Code)(Q0:Exit->Act->World->Prop)(i:Nat)(S:aI E):Prop:=aAd E w0 aP n c0 Q0 i S/\aCf E w0 aP n c0 Q0 i S
theorem zM:∀(c:Code) (j:Nat) (Q:Exit->Act->World->Prop),bT c<=j->mQ P c j Q=none
 | .loop b,0,Q,h=>by simp[bT]at h
 | .loop b,j+1,Q,h=>zM b j _ (by simp only[bT]at h;omega)
 | .seq x y,j,Q,h=>by simp only[bT]at h;simp only[mQ,NH (show bT x<=j by omega)];exact zM y _ Q (by omega)
 | .cond _ x y,j,Q,h=>by simp only[bT]at h;simp only[mQ,NH (show bT x<=j by omega)];exact zM y _ Q (by omega)
 | .block id b,j,Q,h=>zM b j _ (by simpa only [bT]using h)
 | .skip,_,_,_=>rfl
 | .ret,_,_,_=>rfl
 | .exit _,_,_,_=>rfl
 | .region ..,_,_,_=>rfl
 | .scope b,j,Q,h=>by
  unfold mQ;split
  ·rename_i hb;exact zM b j _ (by simp only[bT,hb]at h;exact h)
  ·rfl
 | .label _,_,_,_=>rfl
 | .goto _,_,_,_=>rfl
 | .rangeFunc ..,_,_,_=>rfl
 | .refuse _,_,_,_=>rfl
theorem AJ(hh:Hint E)(i:Nat)(hio:KOk hh.own w0){S:aI E}{a:Act}{w:World}{ι:Nat->Option Gh}{ro:Nat->Nat->Prop}(hnc:aS S.tmps)(hg:bO E w0 aP S a w ι ro)(hn:S.n=n) :
  ∃ι',aS (LD hh i S).tmps/\bO E w0 aP (LD hh i S) a w ι' ro/\(LD hh i S).n=n:=by
 obtain⟨ι1,avj,hg1,hn1⟩:=aa8 (UF hh.nk i) S ι hnc hg;obtain⟨ι',hnc',hg'⟩:=alI hh.own (UF hh.live i) hio avj hg1;exact⟨ι',hnc',hg',hn1.trans hn⟩
theorem tF{R:Type}(hO:aJ E O)(dB:P.follows .mixedOrders=true){G:Nat->aI E->Option R}{rr:R}(hG:∀i S,G i S=some rr->KOk h.own w0/\UK E w0 aP n c0 Q0 i S) :
  ∀(c:Code) (i:Nat) (S:aI E) (k:dN->aI E->Option R) (Q:Exit->Act->World->Prop) (a:Act) (w:World) (ι:Nat->Option Gh) (ro:Nat->Nat->Prop),Placed P c0 Q0 i c Q->(fD c=true->o9 P c Q=o9 P c0 Q0) ->
  aS S.tmps->bO E w0 aP S a w ι ro->S.n=n->nK O h G i c S k=some rr ->
  (∀e S' a' w' ι' ro',aS S'.tmps->bO E w0 aP S' a' w' ι' ro'->S'.n=n->k e S'=some rr->Q e.toExit a' w')->c.wp P Q a w:=by
 intro c
 induction c with
 | skip=>intro i S k Q a w ι ro _ _ hnc hg hn h hk;exact wp_skip (hk .normal S a w ι ro hnc hg hn h)
 | ret=>intro i S k Q a w ι ro _ _ hnc hg hn h hk;exact wp_ret (hk .ret S a w ι ro hnc hg hn h)
 | exit id=>intro i S k Q a w ι ro _ _ hnc hg hn h hk;exact wp_exit (hk (.exit id) S a w ι ro hnc hg hn h)
 | region id ops draw =>
  intro i S k Q a w ι ro _ _ hnc hg hn hh hk;have go:∀(S:aI E) (ro:Nat->Nat->Prop),aS S.tmps->bO E w0 aP S a w ι ro->S.n=n->JK (Q5 h.lst id) O ops draw S (k .normal)=some rr->(Code.region id ops draw).wp P Q a w:=fun S ro hnc hg hn hq =>UH hO dB hnc hg (fun S' a' w' ι' ro' h1 h2 h3 h4=>hk .normal S' a' w' ι' ro' h1 h2 (h3.trans hn) h4) hq
  simp only[nK]at hh;have fin:∀(l1:List (Nat×Nat)) (l2:List Nat) (S:aI E) (ro:Nat->Nat->Prop),aS S.tmps->bO E w0 aP S a w ι ro->S.n=n->splitK l1 (ND l2 S) (fun S'=>JK (Q5 h.lst id) O ops draw S' (k .normal))=some rr->(Code.region id ops draw).wp P Q a w:=by intro l1 l2 S ro hnc hg hn h;obtain⟨Yf,g1,g2,g3⟩:=Oi l2 S ro hnc hg;obtain⟨S2,g4,g5,g6,g7⟩:=LG _ _ g1 g2 h;grind
  split at hh
  ·obtain⟨h1,h2⟩:=Eb hnc hg;obtain⟨roA,a1,a2,a3⟩:=Q9 (UF h.arr id) (zL S) _ h1 h2;exact fin _ _ _ roA a1 a2 (a3.trans hn) hh
  ·obtain⟨roA,a1,a2,a3⟩:=Q9 (UF h.arr id) S ro hnc hg;exact fin _ _ _ roA a1 a2 (a3.trans hn) hh
 | seq x y Pw ihy =>
  intro i S k Q a w ι ro hp hs hnc hg hn h hk;simp only[nK]at h;split at h
  ·cases h
  ·rename_i hxy;have sx:fD x=true->o9 P x (Exit.then (y.wp P Q) Q)=o9 P c0 Q0:=fun hx=>by
    rw[<- hs (by simp only[fD,hx,aci])];simp only[o9,hx]
   have sy:fD y=true->o9 P y Q=o9 P c0 Q0:=fun hy=>by
    have hx:fD x=false:=by grind
    rw[<- hs (by simp only[fD,hy,afZ])];simp only[o9,hx]
   refine wp_seq (Pw i S _ _ a w ι ro hp.seq.1 sx hnc hg hn h fun e S' a' w' ι' ro' h1 h2 h3 h4=>?_);cases e with
   | normal=>exact ihy _ S' k Q a' w' ι' ro' hp.seq.2 sy h1 h2 h3 h4 hk
   | exit id=>exact hk (.exit id) S' a' w' ι' ro' h1 h2 h3 h4
   | ret=>exact hk .ret S' a' w' ι' ro' h1 h2 h3 h4
   | goto l=>exact hk (.goto l) S' a' w' ι' ro' h1 h2 h3 h4
 | cond c x y Pw ihy =>
  intro i S k Q a w ι ro hp _ hnc hg hn h hk;have hc:=yF (E:=E) (asm:=[]) hg.tmps (fun j b hb=>by simp[uY]at hb) c;simp only[nK]at h;split at h
  ·cases h
  ·rename_i hxy;rw[Bool.or_eq_false_iff]at hxy;split at h
   ·rename_i b hb;rw[hb]at hc;have hc:=hc.tq;cases b with
    | true=>exact wp_cond_true hc (Pw i S k Q a w ι ro hp.cond.1 (fun e=>by rw[hxy.1]at e;cases e) hnc hg hn h hk)
    | false=>exact wp_cond_false hc (ihy _ S k Q a w ι ro hp.cond.2 (fun e=>by rw[hxy.2]at e;cases e) hnc hg hn h hk)
   ·cases h
 | block id body ih =>
  intro i S k Q a w ι ro hp hs hnc hg hn h hk;refine wp_block (ih i S _ _ a w ι ro hp.block hs hnc hg hn h fun e S' a' w' ι' ro' h1 h2 h3 h4=>?_);cases e with
  | goto l=>exact hk (.goto l) S' a' w' ι' ro' h1 h2 h3 h4
  | normal=>exact hk .normal S' a' w' ι' ro' h1 h2 h3 h4
  | ret=>exact hk .ret S' a' w' ι' ro' h1 h2 h3 h4
  | exit i =>
   simp only[dN.toExit,Exit.inBlock,JL]at h4 ⊢;cases hb:Nat.beq i id with
   | true =>rw[hb]at h4;rw[if_pos (abe hb)];exact hk .normal S' a' w' ι' ro' h1 h2 h3 h4
   | false =>rw[hb]at h4;rw[if_neg (fun e=>by subst e;simp at hb)];exact hk (.exit i) S' a' w' ι' ro' h1 h2 h3 h4
 | loop body ih =>intro i S k Q a w ι ro hp _ hnc hg hn hh hk;obtain⟨ι',h1,h2,h3⟩:=AJ h i (hG i _ hh).1 hnc hg hn;exact((hG i _ hh).2.1 body Q hp.head a w ι' ro h1 h2 h3).wp
 | label l=>intro i S k Q a w ι ro _ _ hnc hg hn h hk;exact wp_label (hk .normal S a w ι ro hnc hg hn h)
 | goto l=>intro i S k Q a w ι ro _ _ hnc hg hn h hk;exact wp_goto (hk (.goto l) S a w ι ro hnc hg hn h)
 | scope c ih =>
  intro i S k Q a w ι ro hp hs hnc hg hn hh hk;simp only[nK]at hh;split at hh
  ·rename_i hng;refine wp_scope_straight (ih i S (ahe k) (Exit.noGoto Q) a w ι ro (hp.scope hng) (fun e=>by rw[u6 c hng]at e;cases e) hnc hg hn hh fun e S' a' w' ι' ro' h1 h2 h3 h4=>?_);cases e with
   | normal=>exact hk .normal S' a' w' ι' ro' h1 h2 h3 h4
   | exit id=>exact hk (.exit id) S' a' w' ι' ro' h1 h2 h3 h4
   | ret=>exact hk .ret S' a' w' ι' ro' h1 h2 h3 h4
   | goto l=>cases h4
  rename_i hng;have hs1:fD (.scope c)=true:=by simp only[fD,hng,acn]
  split at hh
  ·rename_i hns hz;refine aeZ (ih i S _ _ a w ι ro (Placed.am9 hz) (fun e=>by rw[hns]at e;cases e) hnc hg hn hh fun e S' a' w' ι' ro' h1 h2 h3 h4=>?_);cases e with
   | normal=>exact hk .normal S' a' w' ι' ro' h1 h2 h3 h4
   | exit id=>exact hk (.exit id) S' a' w' ι' ro' h1 h2 h3 h4
   | ret=>exact hk .ret S' a' w' ι' ro' h1 h2 h3 h4
   | goto l =>
    simp only[aa6]at h4;split at h4
    ·rename_i rest hf;obtain⟨ι2,g1,g2,g3⟩:=AJ h (100+l) (hG _ _ h4).1 h1 h2 h3;exact⟨rest,hf,LK.of ((hG _ _ h4).2.2 l rfl c Q rest (hs hs1).symm hf a' w' ι2 ro' g1 g2 g3)⟩
    ·cases h4
  ·cases hh
 | _=>intro i S k Q a w ι ro _ _ hnc hg hn h hk;cases h
theorem apI{R:Type}(hO:aJ E O)(dB:P.follows .mixedOrders=true){G:Nat->aI E->Option R}{rr:R}(hG:∀i S,G i S=some rr->KOk h.own w0/\UK E w0 aP n c0 Q0 i S) :
  ∀(c:Code) (i j:Nat) (k:dN->aI E->Option R) (Q:Exit->Act->World->Prop) (i':Nat) (b:Code) (k':dN->aI E->Option R),Placed P c0 Q0 i c Q->fD c=false->Kh O h G i c j k=some (i',b,k') ->
  (∀e S' a' w' ι' ro',aS S'.tmps->bO E w0 aP S' a' w' ι' ro'->S'.n=n->k e S'=some rr->Q e.toExit a' w') ->
  i'=i+j/\fD b=false/\∃Q',Placed P c0 Q0 i' (.loop b) Q'/\∀e S' a' w' ι' ro',aS S'.tmps->bO E w0 aP S' a' w' ι' ro'->S'.n=n->k' e S'=some rr->Q' e.toExit a' w':=by
 intro c
 induction c with
 | seq x y Pw ihy =>
  intro i j k Q i' b k' hp hns hc hk;simp only[Kh]at hc;split at hc
  ·rename_i hj;refine Pw i j _ _ i' b k' hp.seq.1 (Bool.or_eq_false_iff.1 hns).1 hc fun e S' a' w' ι' ro' h1 h2 h3 h4=>?_
   cases e with
   | normal=>exact tF hO dB hG y _ S' k Q a' w' ι' ro' hp.seq.2 (fun e=>by rw[(Bool.or_eq_false_iff.1 hns).2]at e;cases e) h1 h2 h3 h4 hk
   | goto l=>exact hk (.goto l) S' a' w' ι' ro' h1 h2 h3 h4
   | exit id=>exact hk (.exit id) S' a' w' ι' ro' h1 h2 h3 h4
   | ret=>exact hk .ret S' a' w' ι' ro' h1 h2 h3 h4
  ·rename_i hj;have hle:bT x<=j:=by
    rcases afR j (bT x)with h | h
    ·rw[Rc h]at hj;cases hj
    ·exact h
   obtain⟨e1,rest⟩:=ihy _ _ k Q i' b k' hp.seq.2 (Bool.or_eq_false_iff.1 hns).2 hc hk;exact⟨by omega,rest⟩
 | cond c x y Pw ihy =>
  intro i j k Q i' b k' hp hns hc hk;simp only[Kh]at hc;split at hc
  ·exact Pw i j k Q i' b k' hp.cond.1 (Bool.or_eq_false_iff.1 hns).1 hc hk
  ·rename_i hj;have hle:bT x<=j:=by
    rcases afR j (bT x)with h | h
    ·rw[Rc h]at hj;cases hj
    ·exact h
   obtain⟨e1,rest⟩:=ihy _ _ k Q i' b k' hp.cond.2 (Bool.or_eq_false_iff.1 hns).2 hc hk;exact⟨by omega,rest⟩
 | scope c ih =>
  intro i j k Q i' b k' hp hns hc hk;simp only[Kh]at hc;split at hc
  ·rename_i hng;refine ih i j (ahe k) (Exit.noGoto Q) i' b k' (hp.scope hng) (u6 c hng) hc fun e S' a' w' ι' ro' h1 h2 h3 h4=>?_
   cases e with
   | normal=>exact hk .normal S' a' w' ι' ro' h1 h2 h3 h4
   | exit id=>exact hk (.exit id) S' a' w' ι' ro' h1 h2 h3 h4
   | ret=>exact hk .ret S' a' w' ι' ro' h1 h2 h3 h4
   | goto l=>cases h4
  ·cases hc
 | block id body ih =>
  intro i j k Q i' b k' hp hns hc hk;refine ih i j _ _ i' b k' hp.block hns hc fun e S' a' w' ι' ro' h1 h2 h3 h4=>?_
  cases e with
  | goto l=>exact hk (.goto l) S' a' w' ι' ro' h1 h2 h3 h4
  | normal=>exact hk .normal S' a' w' ι' ro' h1 h2 h3 h4
  | ret=>exact hk .ret S' a' w' ι' ro' h1 h2 h3 h4
  | exit i =>
   simp only[dN.toExit,Exit.inBlock,JL]at h4 ⊢;cases hb:Nat.beq i id with
   | true =>rw[hb]at h4;rw[if_pos (abe hb)];exact hk .normal S' a' w' ι' ro' h1 h2 h3 h4
   | false =>rw[hb]at h4;rw[if_neg (fun e=>by subst e;simp at hb)];exact hk (.exit i) S' a' w' ι' ro' h1 h2 h3 h4
 | loop body ih =>
  intro i j k Q i' b k' hp hns hc hk;cases j with
  | zero =>cases hc;exact⟨rfl,hns,Q,hp,hk⟩
  | succ j =>
   obtain⟨e1,rest⟩:=ih (i+1) j _ _ i' b k' hp.inner hns hc fun e S' a' w' ι' ro' h1 h2 h3 h4=>(by
    cases e with
    | normal =>obtain⟨ι2,g1,g2,g3⟩:=AJ h i (hG i _ h4).1 h1 h2 h3;exact(hG i _ h4).2.1 body Q hp.head a' w' ι2 ro' g1 g2 g3
    | exit id=>exact hk (.exit id) S' a' w' ι' ro' h1 h2 h3 h4
    | goto l=>exact hk (.goto l) S' a' w' ι' ro' h1 h2 h3 h4
    | ret=>exact hk .ret S' a' w' ι' ro' h1 h2 h3 h4)
   exact⟨by omega,rest⟩
 | _=>intro i j k Q i' b k' hp hns hc hk;cases hc
theorem apJ{R:Type}(hO:aJ E O)(dB:P.follows .mixedOrders=true){G:Nat->aI E->Option R}{rr:R}(hG:∀i S,G i S=some rr->KOk h.own w0/\UK E w0 aP n c0 Q0 i S) :
  ∀(c:Code) (i:Nat) (k:dN->aI E->Option R) (Q:Exit->Act->World->Prop) (sc:Code) (k':dN->aI E->Option R),Placed P c0 Q0 i c Q->ac2 O h G i c k=some (sc,k') ->
  (∀e S' a' w' ι' ro',aS S'.tmps->bO E w0 aP S' a' w' ι' ro'->S'.n=n->k e S'=some rr->Q e.toExit a' w') ->
  ∃Q',o9 P c Q=some (sc,Q')/\∀e S' a' w' ι' ro',aS S'.tmps->bO E w0 aP S' a' w' ι' ro'->S'.n=n->k' e S'=some rr->Q' e.toExit a' w':=by
 intro c
 induction c with
 | scope c ih =>intro i k Q sc k' hp hc hk;cases hc;exact⟨Q,rfl,hk⟩
 | seq x y Pw ihy =>
  intro i k Q sc k' hp hc hk;simp only[ac2]at hc;split at hc
  ·rename_i hx hy;simp only[o9,hx];refine Pw i _ _ sc k' hp.seq.1 hc fun e S' a' w' ι' ro' h1 h2 h3 h4=>?_
   cases e with
   | normal=>exact tF hO dB hG y _ S' k Q a' w' ι' ro' hp.seq.2 (fun e=>by rw[hy]at e;cases e) h1 h2 h3 h4 hk
   | exit id=>exact hk (.exit id) S' a' w' ι' ro' h1 h2 h3 h4
   | goto l=>exact hk (.goto l) S' a' w' ι' ro' h1 h2 h3 h4
   | ret=>exact hk .ret S' a' w' ι' ro' h1 h2 h3 h4
  ·rename_i hx hy;simp only[o9,hx];exact ihy _ k Q sc k' hp.seq.2 hc hk
  ·cases hc
 | block id body ih =>
  intro i k Q sc k' hp hc hk;refine ih i _ _ sc k' hp.block hc fun e S' a' w' ι' ro' h1 h2 h3 h4=>?_
  cases e with
  | normal=>exact hk .normal S' a' w' ι' ro' h1 h2 h3 h4
  | goto l=>exact hk (.goto l) S' a' w' ι' ro' h1 h2 h3 h4
  | ret=>exact hk .ret S' a' w' ι' ro' h1 h2 h3 h4
  | exit i =>
   simp only[dN.toExit,Exit.inBlock,JL]at h4 ⊢;cases hb:Nat.beq i id with
   | true =>rw[hb]at h4;rw[if_pos (abe hb)];exact hk .normal S' a' w' ι' ro' h1 h2 h3 h4
   | false =>rw[hb]at h4;rw[if_neg (fun e=>by subst e;simp at hb)];exact hk (.exit i) S' a' w' ι' ro' h1 h2 h3 h4
 | _=>intro i k Q sc k' hp hc hk;cases hc
theorem Rh{R:Type}(hO:aJ E O)(dB:P.follows .mixedOrders=true){G:Nat->aI E->Option R}{rr:R}(hG:∀i S,G i S=some rr->KOk h.own w0/\UK E w0 aP n c0 Q0 i S){j:Nat}{S:aI E}{k:dN->aI E->Option R}
  (hk:∀e S' a' w' ι' ro',aS S'.tmps->bO E w0 aP S' a' w' ι' ro'->S'.n=n->k e S'=some rr->Q0 e.toExit a' w') (hs:aiy O h G c0 j S k=some rr):UK E w0 aP n c0 Q0 j S:=by
 unfold aiy at hs;split at hs
 ·rename_i hj;have hj:=Nat.le_of_ble_eq_true hj;split at hs
  ·rename_i hn;have hnl:=Nat.le_of_ble_eq_true hn;refine⟨fun b Q hc=>?_,fun l hl sc Q rest hsc hf a w ι ro hnc hg hn=>?_⟩
   ·rw[zM c0 j Q0 (by omega)]at hc;cases hc
   ·unfold aAc at hs;split at hs
    ·rename_i sc2 k2 hc;obtain⟨Q2,q1,q2⟩:=apJ hO dB hG c0 0 k Q0 sc2 k2 Placed.whole hc hk;rw[hsc]at q1;cases q1;subst hl;rw[Nat.add_sub_cancel_left,hf]at hs;simp only at hs;split at hs
     ·rename_i hns hz;refine tF hO dB hG rest 0 S _ _ a w ι ro (Placed.am9 hz) (fun e=>by rw[hns]at e;cases e) hnc hg hn hs fun e S' a' w' ι' ro' h1 h2 h3 h4=>?_
      cases e with
      | normal=>exact q2 .normal S' a' w' ι' ro' h1 h2 h3 h4
      | exit id=>exact q2 (.exit id) S' a' w' ι' ro' h1 h2 h3 h4
      | ret=>exact q2 .ret S' a' w' ι' ro' h1 h2 h3 h4
      | goto l =>
       simp only[aa6]at h4;split at h4
       ·rename_i aw4 hf2;obtain⟨ι2,g1,g2,g3⟩:=AJ h (100+l) (hG _ _ h4).1 h1 h2 h3;exact⟨aw4,hf2,LK.of ((hG _ _ h4).2.2 l rfl sc Q aw4 hsc hf2 a' w' ι2 ro' g1 g2 g3)⟩
       ·cases h4
     ·cases hs
    ·cases hs
  ·cases hs
 rename_i hj;split at hs
 ·cases hs
 rename_i hns;split at hs
 ·rename_i i b k' hc;refine⟨?_,fun l hl=>absurd (Nat.ble_eq_true_of_le (show 100<=j by omega)) (by rw[hj];decide)⟩;obtain⟨e1,hnb,Q',hp,hk'⟩:=apI hO dB hG c0 0 j k Q0 i b k' Placed.whole hns hc hk;rw[afr]at e1;subst e1;intro b2 Q2 hc2 a w ι ro hnc hg hn;rw[hp.head]at hc2;cases hc2;refine u7.round (tF hO dB hG b (i+1) S _ _ a w ι ro hp.inner (fun e=>by rw[hnb]at e;cases e) hnc hg hn hs fun e S' a' w' ι' ro' h1 h2 h3 h4=>?_);cases e with
  | normal =>obtain⟨ι2,g1,g2,g3⟩:=AJ h i (hG i _ h4).1 h1 h2 h3;exact(hG i _ h4).2.1 b Q' hp.head a' w' ι2 ro' g1 g2 g3
  | exit id=>exact hk' (.exit id) S' a' w' ι' ro' h1 h2 h3 h4
  | goto l=>exact hk' (.goto l) S' a' w' ι' ro' h1 h2 h3 h4
  | ret=>exact hk' .ret S' a' w' ι' ro' h1 h2 h3 h4
 ·cases hs
theorem Ri:∀{args:List (TV E)} {i t:Nat} {x:AV E},look (Rb args i) t=some x->i<=t/\∃y,args[t-i]? = some y/\x=iw y.1 y.2
 | [],_,_,_,h=>by cases h
 | ⟨ty,y⟩::r,i,t,x,h=>by
  simp only[Rb,bf]at h;split at h
  ·rename_i hb;have:=abe hb;subst this;cases h;exact⟨ab8 _,⟨ty,y⟩,by simp,rfl⟩
  ·rename_i hb;obtain⟨h1,z,h2,h3⟩:=Ri h;grind
theorem wV{t:E.Ty}{x:E.Den t}:eF (iw t x)=false:=by
 unfold iw;split
 ·rfl
 ·split<;>rfl
theorem LM:∀(args:List (TV E)) (i:Nat),aS (Rb args i)
 | [],_=>fun p h=>by cases h
 | ⟨t,x⟩::r,i=>fun p h=>by
  cases h with
  | head=>exact wV
  | tail _ h=>exact LM r (i+1) p h
def Zn(tmps:Array Value):ResultVar->Sem Value
 | .tmp t=>pure (tmps.getD t undef)
 | .cell q ty=>do loadVar ty (<- asAddr (tmps.getD q undef))
theorem Zo{S:aI E}{a:Act}{w:World}{ι:Nat->Option Gh}{ro:Nat->Nat->Prop}(hg:bO E w0 aP S a w ι ro){r:ResultVar}{x:AV E}(h:ac4 S r=some x) :
  ∃v,(Zn a.tmps r).run P w = .ok v w/\aO E w ro ι v x:=by
 have apu:Xc a []:=fun j b hb=>by simp[uY]at hb
 cases r with
 | tmp t =>cases h;exact⟨_,rfl,yF (E:=E) hg.tmps apu (.tmp t)⟩
 | cell q ty =>
  have hv:=yF (E:=E) hg.tmps apu (.tmp q);change aO E w ro ι (a.tmps.getD q undef) (aaE [] (look S.tmps q))at hv;generalize hu:a.tmps.getD q undef=u at hv;obtain⟨val,hrun,hr⟩:=Ta (S:=S) hg.objs hv h;refine⟨val,?_,hr⟩;show(do loadVar ty (<- asAddr (a.tmps.getD q undef)):Sem Value).run P w=_;rw[hu];simp only[Instr.loadAt,Sem.run_bind]at hrun ⊢;cases u with
  | pointer p =>
   cases p with
   | some ad=>simpa[Instr.sureAddr,asAddr]using hrun
   | none=>simp[Instr.sureAddr,stuck,Result.andThen]at hrun
  | _=>simp[Instr.sureAddr,stuck,Result.andThen]at hrun
theorem Zp{S:aI E}{a:Act}{w:World}{ι:Nat->Option Gh}{ro:Nat->Nat->Prop}(hg:bO E w0 aP S a w ι ro):∀{rs:List ResultVar} {Ts:List TypeId} {xs:List (TV E)},ac5 S rs Ts=some xs ->
  ∃vs:List Value,(rs.mapM (Zn a.tmps)).run P w=Result.ok vs w/\gF E w ro vs xs
 | [],[],xs,h=>by cases h;exact⟨[],by simp,trivial⟩
 | r::rs,T::Ts,xs,h=>by
  unfold ac5 at h;split at h
  ·rename_i t ht;split at h
   ·rename_i v hv;split at h
    ·rename_i x hx;split at h
     ·rename_i ys hys;cases h;obtain⟨u,hu,hr⟩:=Zo hg hv;obtain⟨us,X9,hrs⟩:=Zp hg hys;exact⟨u::us,by rw[List.mapM_cons];simp only[Sem.run_bind,hu,Result.andThen_ok,X9,Sem.run_pure],Ay hr hx,hrs⟩
     ·cases h
    ·cases h
   ·cases h
  ·cases h
 | [],_::_,_,h=>by cases h
 | _::_,[],_,h=>by cases h
theorem ac6{w w':World}(h:w.grownBy w' none):Below w.heap.size w w':=⟨h.os,h.tape,h.output,h.size,fun k hk=>h.block k hk (fun e=>by cases e)⟩
def ahg(E:Env P)(fn:Func)(res:List (TV E))(w:World)(ro:Nat->Nat->Prop):Exit->Act->World->Prop :=
 bodyPost P fn fun e w'=>∃v,e = .returned v/\Below w.heap.size w w'/\qz E w' (fun k o=>ro k o\/(w.heap.size<=k/\k<w'.heap.size)) v res
theorem F9{fn:Func}{res:List (TV E)}{w:World}{ro:Nat->Nat->Prop}{e:dN}{S':aI E}{a':Act}{w':World}{ι':Nat->Option Gh}{ro':Nat->Nat->Prop}(hnc':aS S'.tmps)(hg':bO E ⟨w,none,none,[],fun _=>none⟩ ro S' a' w' ι' ro')(hk:LJ fn e S'=some res) :
  ahg E fn res w ro e.toExit a' w':=by
 obtain⟨_,hg'⟩:=Eb hnc' hg';generalize Q8 S'.objs ι' ro'=ro' at hg';have fin:ac5 (zL S') fn.results.toList fn.resultTypes.toList=some res->a'.defers=[]/\∃v,(results fn a'.tmps).run P w' = .ok v w' /\
   (∃v',Ending.returned v = .returned v'/\Below w.heap.size w w'/\qz E w' (fun k o=>ro k o\/(w.heap.size<=k/\k<w'.heap.size)) v' res):=by
  intro hres;obtain⟨vs,hvs,hrep⟩:=Zp hg' hres;have hmono:gF E w' (fun k o=>ro k o\/(w.heap.size<=k/\k<w'.heap.size)) vs res:=by
   have hmm:∀(vs:List Value) (rs:List (TV E)),gF E w' ro' vs rs->gF E w' (fun k o=>ro k o\/(w.heap.size<=k/\k<w'.heap.size)) vs rs:=by
    intro vs
    induction vs with
    | nil=>intro rs h;cases rs<;>exact h
    | cons v vs ih =>
     intro rs h;cases rs with
     | nil=>exact h
     | cons r rs =>
      exact⟨h.1.mono (fun k o hk=>by
       rcases hg'.base.rU k o hk with h | h
       ·exact .inl h
       ·rcases h with h | h
        ·exact .inr ⟨h,hg'.base.aZ k o hk⟩
        ·cases h) (fun _ _ _=>rfl),ih rs h.2⟩
   exact hmm vs res hrep
  have hl:=(gF.at_ vs res hrep).1;refine⟨hg'.base.defers,if h:vs.length=1 then vs[0]else .tuple vs.toArray,?_,_,rfl,ac6 hg'.base.below,?_⟩
  ·show(do let vs <- fn.results.mapM (Zn a'.tmps);pure (if h:vs.size=1 then vs[0]else .tuple vs):Sem Value).run P w'=_;rw[Array.mapM_eq_mapM_toList];simp only[Sem.run_bind,Sem.run_map,hvs];simp[Result.andThen]
  ·unfold qz;split
   ·rename_i t x
    match vs,hl,hmono with
    | [v],_,hm=>exact hm.1
   ·rename_i hne;by_cases h1:vs.length=1
    ·exfalso
     match res,hl.symm.trans h1,hne with
     | [⟨t,x⟩],_,hne=>exact hne t x rfl
    ·rw[dif_neg h1];exact⟨vs,rfl,hmono⟩
 cases e with
 | exit id=>cases hk
 | goto l=>cases hk
 | _=>exact fin hk
def Ev(E:Env P)(fn:Func)(res:List (TV E))(i:Nat)(S:aI E):Prop :=
 ∀(w0:World) aP n c,fn.body=some c->UK E ⟨w0,none,none,[],fun _=>none⟩ aP n c (ahg E fn res w0 aP) i S
open Classical in
def Gr(E:Env P)(fn:Func)(res:List (TV E))(i:Nat)(S:aI E):Option (List (TV E)):=if Ev E fn res i S then some res else none
theorem dZ{fn:Func}{res:List (TV E)}{i:Nat}{S:aI E}(h:Ev E fn res i S):Gr E fn res i S=some res:=if_pos h
theorem apK{fn:Func}{res r:List (TV E)}{i:Nat}{S:aI E}(h:Gr E fn res i S=some r):Ev E fn res i S:=by
 unfold Gr at h;split at h
 ·assumption
 ·cases h
theorem Ev.step(hO:aJ E O)(dB:P.follows .mixedOrders=true){fn:Func}{res:List (TV E)}{j:Nat}{S:aI E}(hs:apH O h (Gr E fn res) fn j S=some res):Ev E fn res j S:=by intro w0 aP n c hc;unfold apH at hs;rw[hc]at hs;exact Rh hO dB (fun i S hi=>⟨.none rfl,apK hi w0 aP n c hc⟩) (fun e S' a' w' ι' ro' h1 h2 _ h4=>F9 h1 h2 h4) hs
theorem K3(hO:aJ E O)(dB:P.follows .mixedOrders=true){f:FuncId}{fn:Func}(hf:P.funcs[f]? = some fn){args res:List (TV E)}(hr:Ij O h (Gr E fn res) fn args=some res):EU E f args res:=by
 unfold Ij at hr;split at hr
 ·rename_i c hc;intro w ro vals hargs kR;obtain⟨hlen,hat⟩:=gF.at_ vals args hargs;refine calls_of_wp hf hc ?_;have hg:bO E ⟨w,none,none,[],fun _=>none⟩ ro (UJ fn args) { tmps:=vals.toArray++Array.replicate (fn.ntmps-vals.toArray.size) undef,defers:=[] } w (fun _=>none) ro:={
   base:=⟨⟨rfl,rfl,rfl,ab8 _,fun _ _ _=>rfl⟩,kR,fun k o h=>.inl h,(fun id gh k h=>by cases h),rfl,(fun q h=>by cases h),(fun k o h=>by cases h)⟩
   size:=by simp[UJ,hlen]
   tmps:=fun t x hl=>by
    obtain⟨_,y,hy,rfl⟩:=Ri hl;rw[am6]at hy;have hlt:t<vals.length:=by rw[hlen];exact(List.getElem?_eq_some_iff.1 hy).1
    have hv:=aaO hlt;refine⟨vals[t],by simp[anE,hlt],?_⟩;have hr:aO E w ro (fun _=>none) vals[t] (iw y.1 y.2):=sj (hat t _ y hv hy);have hc:=wV (E:=E) (t:=y.1) (x:=y.2);generalize iw y.1 y.2=z at hr hc;cases z<;>first | exact hr | cases hc
   objs:=fun id o hl=>by cases hl
   inj:=fun id id' o o' gh bE k hl=>by cases hl
   fresh:=fun _ _=>rfl
   ids:=fun id o hl=>by cases hl }
  exact tF (n:=(UJ fn args).n) (Q0:=ahg E fn res w ro) (c0:=c) hO dB (fun i S hi=>⟨.none rfl,apK hi w ro _ c hc⟩) c 0 (UJ fn args) (LJ fn) _ _ w _ ro Placed.whole (fun _=>rfl) (LM args 0) hg rfl hr
   fun e S' a' w' ι' ro' h1 h2 _ h4=>F9 h1 h2 h4
 ·cases hr
end
theorem ayy{P:Program}{T a b c:Nat}(h:(P.info? T).map (fun i=>(i.size,i.bytes,i.zero.map fun z=>z.cells.size))=some (a,b,some c))(hc:c=a) :
  ∃i z,P.info? T=some i/\i.size=a/\i.bytes=b/\i.zero=some z/\z.cells.size=a:=by
 subst hc;cases hi:P.info? T with
 | none=>rw[hi]at h;cases h
 | some i =>
  rw[hi]at h;simp only[ahT,Option.some.injEq,Prod.mk.injEq]at h;obtain⟨h1,h2,h3⟩:=h;cases hz:i.zero with
  | none=>rw[hz]at h3;cases h3
  | some z =>rw[hz]at h3;exact⟨i,z,rfl,h1,h2,hz,by simpa using h3⟩
section
variable {Ty:Type} {Den:Ty->Type}
def pq(k:IntKind):bQ Den->Option Int
 | .int k' n=>if k=k' then some n else none
 | _=>none
def dBl:bQ Den->Option Bool
 | .bool b=>some b
 | _=>none
def pE:bQ Den->Option (anY)
 | .str s=>some s
 | _=>none
def Cu(dec:DecidableEq Ty)(t:Ty):bQ Den->Option (List (Den t))
 | .slice t' l=>match dec t' t with
  | .isTrue h=>some (h▸l)
  | .isFalse _=>none
 | .raw (.slice none 0 0)=>some []
 | _=>none
def rd{α β:Type}(cs:List (bQ Den))(r:bQ Den->Option α)(k:α->List (bQ Den)->Option β):Option β:=match cs with
 | c::cs=>(match r c with
  | some y=>k y cs
  | none=>none)
 | []=>none
def rn{β:Type}(cs:List (bQ Den))(x:β):Option β:=match cs with
 | []=>some x
 | _=>none
theorem aAf{α β:Type}{cs:List (bQ Den)}{r:bQ Den->Option α}{k:α->List (bQ Den)->Option β}{x:β}(h:rd cs r k=some x):∃c l y,cs=c::l/\r c=some y/\k y l=some x:=by
 unfold rd at h;split at h
 ·split at h
  ·rename_i e;exact⟨_,_,_,rfl,e,h⟩
  ·cases h
 ·cases h
theorem aAg{β:Type}{cs:List (bQ Den)}{x y:β}(h:rn cs x=some y):cs=[]/\x=y:=by
 unfold rn at h;split at h
 ·cases h;exact⟨rfl,rfl⟩
 ·cases h
def aAh:bQ Den->Option Int
 | .flt n=>some n
 | _=>none
def aAi:bQ Den->Option (Int×Int)
 | .FT a b=>some (a,b)
 | _=>none
theorem ayz{c:bQ Den}{n:Int}(h:aAh c=some n):Uf c (.flt n):=by
 unfold aAh at h;split at h
 ·cases h;exact .inl rfl
 ·cases h
theorem ayA{c:bQ Den}{n:Int×Int}(h:aAi c=some n):Uf c (.FT n.1 n.2):=by
 unfold aAi at h;split at h
 ·cases h;exact .inl rfl
 ·cases h
def dFn:bQ Den->Option Nat
 | .raw (.func (.func f) ⟨[]⟩ ⟨[]⟩)=>some f
 | _=>none
theorem aAj{c:bQ Den}{n:Nat}(h:dFn c=some n):Uf c (.raw (.func (.func n) #[] #[])):=by
 unfold dFn at h;split at h
 ·cases h;exact .inl rfl
 ·cases h
theorem ayB{k:IntKind}{c:bQ Den}{n:Int}(h:pq k c=some n):Uf c (.int k n):=by
 unfold pq at h;split at h
 ·split at h
  ·rename_i e;subst e;cases h;exact .inl rfl
  ·cases h
 ·cases h
theorem aAk{c:bQ Den}{n:Bool}(h:dBl c=some n):Uf c (.bool n):=by
 unfold dBl at h;split at h
 ·cases h;exact .inl rfl
 ·cases h
theorem ayC{c:bQ Den}{n:anY}(h:pE c=some n):Uf c (.str n):=by
 unfold pE at h;split at h
 ·cases h;exact .inl rfl
 ·cases h
theorem aAl{dec:DecidableEq Ty}{t:Ty}{c:bQ Den}{l:List (Den t)}(h:Cu dec t c=some l):Uf c (.slice t l):=by
 unfold Cu at h;split at h
 ·split at h
  ·rename_i e _;subst e;cases h;exact .inl rfl
  ·cases h
 ·cases h;exact .inr ⟨rfl,t,rfl⟩
 ·cases h
end
section
variable {P:Program} {E:Env P}
abbrev iU(E:Env P):=List (TV E)->Option (Bool×List (TV E))
abbrev Yh(E:Env P):=List (TV E)->Option (Bool×((t:E.Ty)×List (E.Den t)))
abbrev Yi(E:Env P):=(t:E.Ty)->List (E.Den t)->List (TV E)->Option (Bool×Bool×List (E.Den t))
def apL(a:E.Ty)(back:Bool)(ok:List (E.Den a)->Bool)(F:List (E.Den a)->List (E.Den a)):Yi E:=fun t l rest=>match IW t a l,rest with
 | some x,[]=>(match IW a t (F x)with
  | some y=>some (ok x,back,y)
  | none=>none)
 | _,_=>none
theorem aiC{a:E.Ty}{F:List (E.Den a)->List (E.Den a)}{ok:List (E.Den a)->Bool}{bk back:Bool}{t:E.Ty}{l l':List (E.Den t)}{rest:List (TV E)}(h:apL a bk ok F t l rest=some (true,back,l')) :
  ∃x:List (E.Den a),(⟨t,l⟩:(t:E.Ty)×List (E.Den t))=⟨a,x⟩/\rest=[]/\bk=back/\ok x=true/\(⟨t,l'⟩:(t:E.Ty)×List (E.Den t))=⟨a,F x⟩:=by
 unfold apL at h;split at h
 ·rename_i x hx;unfold IW at hx;split at hx
  ·rename_i e _;subst e;cases hx;split at h
   ·rename_i y hy;unfold IW at hy;split at hy
    ·cases hy;simp only[Option.some.injEq,Prod.mk.injEq]at h;obtain⟨h1,h2,h3⟩:=h;exact⟨_,rfl,rfl,h2,h1,by rw[<- h3]⟩
    ·cases hy
   ·cases h
  ·cases hx
 ·cases h
theorem fT{O:aR E}{H:Hint E}{fn:Func}{args res:List (TV E)}{t:(gY E)->Option (List (TV E))}(k:∀G,Ij O H G fn args=t G)(h:t (Gr E fn res)=some res):Ij O H (Gr E fn res) fn args=some res:=(k _).trans h
theorem Ev.of{O:aR E}{H:Hint E}{fn:Func}{i:Nat}{S:aI E}{res:List (TV E)}(hO:aJ E O)(dB:P.follows .mixedOrders=true){t:(gY E)->Option (List (TV E))}(k:∀G,apH O H G fn i S=t G)(h:t (Gr E fn res)=some res):Ev E fn res i S:=Ev.step hO dB ((k _).trans h)
def iV(l:List (FuncId×iU E))(m:List (FuncId×Yh E):=[])(u:List (FuncId×Yi E):=[])(gr:List (FuncId×E.Ty):=[]):aR E where
 call:=fun f args=>match look l f with
  | some F=>F args
  | none=>none
 Le:=fun f=>match look m f with
  | some _=>true
  | none=>false
 fresh:=fun f args=>match look m f with
  | some F=>F args
  | none=>none
 awV:=fun f=>match look u f with
  | some _=>true
  | none=>false
 grow:=fun f=>look gr f
 ao0:=fun f t l xs=>match look u f with
  | some F=>F t l xs
  | none=>none
 inl:=.nil
def Px(E:Env P)(f:FuncId)(F:Yh E):Prop :=
 (rz P f)/\∀args t l,F args=some (true,⟨t,l⟩)->aaU E f args t l
def ahh(E:Env P)(f:FuncId)(F:Yi E):Prop :=
 (rz P f)/\∀t l xs back l',F t l xs=some (true,back,l')->ahZ E f t l xs back l'
def abd(E:Env P)(f:FuncId)(t:E.Ty):Prop :=
 (rz P f)/\aeH E f t
def Ik(l:List (FuncId×E.Ty)):Prop:=∀p∈l,abd E p.1 p.2
theorem Ik.nil:Ik (E:=E) []:=fun p h=>by cases h
theorem Ik.cons{f:FuncId}{t:E.Ty}{l:List (FuncId×E.Ty)}(h:abd E f t)(hl:Ik l):Ik ((f,t)::l):=fun p hp=>by
 cases hp with
 | head=>exact h
 | tail _ hp=>exact hl p hp
def LP(l:List (FuncId×Yi E)):Prop:=∀p∈l,ahh E p.1 p.2
def Rj(l:List (FuncId×iU E)):Prop:=∀p∈l,aV E p.1 p.2
def Ez(l:List (FuncId×Yh E)):Prop:=∀p∈l,Px E p.1 p.2
theorem eU{l:List (FuncId×iU E)}{m:List (FuncId×Yh E)}{u:List (FuncId×Yi E)}{gr:List (FuncId×E.Ty)}(h:Rj l)(hm:Ez m)(hu:LP u)(hg:Ik gr):aJ E (iV l m u gr):=by
 refine⟨fun f args res hr=>?_,fun f args t x hr=>?_,fun f t x rest back x' hr=>?_,fun f t hr=>hg _ (j5 _ _ _ hr),(fun f args objs next k rr h=>by cases h),(fun f T h=>by cases h),(fun f args x h=>by cases h),(fun f t x args y res h=>by cases h),(fun f p xs res h=>by cases h)⟩
 ·simp only[iV]at hr;split at hr
  ·rename_i F hF;have:=h _ (j5 _ _ _ hF);exact⟨this.1,this.2 args res hr⟩
  ·cases hr
 ·simp only[iV]at hr;split at hr
  ·rename_i F hF;have:=hm _ (j5 _ _ _ hF);exact⟨this.1,this.2 args t x hr⟩
  ·cases hr
 ·simp only[iV]at hr;split at hr
  ·rename_i F hF;have:=hu _ (j5 _ _ _ hF);exact⟨this.1,this.2 t x rest back x' hr⟩
  ·cases hr
theorem Rj.nil:Rj (E:=E) []:=fun p h=>by cases h
theorem Ez.nil:Ez (E:=E) []:=fun p h=>by cases h
theorem Rj.cons{f:FuncId}{F:iU E}{l:List (FuncId×iU E)}(h:aV E f F)(hl:Rj l):Rj ((f,F)::l):=fun p hp=>by
 cases hp with
 | head=>exact h
 | tail _ hp=>exact hl p hp
theorem LP.nil:LP (E:=E) []:=fun p h=>by cases h
theorem LP.cons{f:FuncId}{F:Yi E}{l:List (FuncId×Yi E)}(h:ahh E f F)(hl:LP l):LP ((f,F)::l):=fun p hp=>by
 cases hp with
 | head=>exact h
 | tail _ hp=>exact hl p hp
theorem Ez.cons{f:FuncId}{F:Yh E}{l:List (FuncId×Yh E)}(h:Px E f F)(hl:Ez l):Ez ((f,F)::l):=fun p hp=>by
 cases hp with
 | head=>exact h
 | tail _ hp=>exact hl p hp
def jQ(t:E.Ty)(v:TV E):Option (E.Den t):=Ns v.1 t v.2
theorem iI{t:E.Ty}{v:TV E}{x:E.Den t}(h:jQ t v=some x):v=⟨t,x⟩:=by
 unfold jQ Ns at h;cases hd:E.dec v.1 t with
 | isFalse hn=>rw[hd]at h;cases h
 | isTrue he =>rw[hd]at h;obtain⟨t',y⟩:=v;simp only at he;subst he;cases h;rfl
def Ga(a t:E.Ty)(ok:E.Den a->Bool)(F:E.Den a->E.Den t):iU E
 | [x]=>match jQ a x with
  | some x=>some (ok x,[⟨t,F x⟩])
  | none=>none
 | _=>none
def Cv(a b t:E.Ty)(ok:E.Den a->E.Den b->Bool)(F:E.Den a->E.Den b->E.Den t):iU E
 | [x,y]=>match jQ a x with
  | some x=>match jQ b y with
   | some y=>some (ok x y,[⟨t,F x y⟩])
   | none=>none
  | none=>none
 | _=>none
def apM(a b t u:E.Ty)(ok:E.Den a->E.Den b->Bool)(F:E.Den a->E.Den b->E.Den t)(G:E.Den a->E.Den b->E.Den u):iU E
 | [x,y]=>match jQ a x with
  | some x=>match jQ b y with
   | some y=>some (ok x y,[⟨t,F x y⟩,⟨u,G x y⟩])
   | none=>none
  | none=>none
 | _=>none
def fn3(a b c t:E.Ty)(ok:E.Den a->E.Den b->E.Den c->Bool)(F:E.Den a->E.Den b->E.Den c->E.Den t):iU E
 | [x,y,z]=>match jQ a x with
  | some x=>match jQ b y with
   | some y=>match jQ c z with
    | some z=>some (ok x y z,[⟨t,F x y z⟩])
    | none=>none
   | none=>none
  | none=>none
 | _=>none
end
section
variable {P:Program} {E:Env P} {O:aR E} {masks:Hint E} {f:FuncId} {fn:Func}
theorem Py (hO:aJ E O) (dB:P.follows .mixedOrders=true) (hf:P.funcs[f]? = some fn) (hn:(fn.name == "runtime.NumGoroutine")=false) (hb:fn.body.isNone=false) {F:iU E}
  (h:∀args res,F args=some (true,res)->Ij O masks (Gr E fn res) fn args=some res):aV E f F :=
 ⟨⟨fn,hf,hn,hb⟩,fun args res hr=>K3 hO dB hf (h args res hr)⟩
theorem zk {a t:E.Ty} {ok:E.Den a->Bool} {F:E.Den a->E.Den t} (hO:aJ E O) (dB:P.follows .mixedOrders=true) (hf:P.funcs[f]? = some fn) (hn:(fn.name == "runtime.NumGoroutine")=false) (hb:fn.body.isNone=false)
  (h:∀x,ok x=true->Ij O masks (Gr E fn [⟨t,F x⟩]) fn [⟨a,x⟩]=some [⟨t,F x⟩]):aV E f (Ga a t ok F):=by
 refine Py (masks:=masks) hO dB hf hn hb fun args res hr=>?_
 unfold Ga at hr;split at hr
 ·split at hr
  ·rename_i x hx;injection hr with hr
   injection hr with h1 h2
   subst h2;rw[iI hx];exact h _ h1
  ·cases hr
 ·cases hr
theorem zl {a b t:E.Ty} {ok:E.Den a->E.Den b->Bool} {F:E.Den a->E.Den b->E.Den t} (hO:aJ E O) (dB:P.follows .mixedOrders=true) (hf:P.funcs[f]? = some fn) (hn:(fn.name == "runtime.NumGoroutine")=false) (hb:fn.body.isNone=false)
  (h:∀x y,ok x y=true->Ij O masks (Gr E fn [⟨t,F x y⟩]) fn [⟨a,x⟩,⟨b,y⟩]=some [⟨t,F x y⟩]):aV E f (Cv a b t ok F):=by
 refine Py (masks:=masks) hO dB hf hn hb fun args res hr=>?_
 unfold Cv at hr;split at hr
 ·split at hr
  ·rename_i x hx;split at hr
   ·rename_i y hy;injection hr with hr
    injection hr with h1 h2
    subst h2;rw[iI hx,iI hy];exact h _ _ h1
   ·cases hr
  ·cases hr
 ·cases hr
theorem anb {a b t u:E.Ty} {ok:E.Den a->E.Den b->Bool} {F:E.Den a->E.Den b->E.Den t} {G':E.Den a->E.Den b->E.Den u} (hO:aJ E O) (dB:P.follows .mixedOrders=true) (hf:P.funcs[f]? = some fn) (hn:(fn.name == "runtime.NumGoroutine")=false) (hb:fn.body.isNone=false)
  (h:∀x y,ok x y=true->Ij O masks (Gr E fn [⟨t,F x y⟩,⟨u,G' x y⟩]) fn [⟨a,x⟩,⟨b,y⟩]=some [⟨t,F x y⟩,⟨u,G' x y⟩]):aV E f (apM a b t u ok F G'):=by
 refine Py (masks:=masks) hO dB hf hn hb fun args res hr=>?_
 unfold apM at hr;split at hr
 ·split at hr
  ·rename_i x hx;split at hr
   ·rename_i y hy;injection hr with hr
    injection hr with h1 h2
    subst h2;rw[iI hx,iI hy];exact h _ _ h1
   ·cases hr
  ·cases hr
 ·cases hr
theorem ac7{a t:E.Ty}{ok:E.Den a->Bool}{F:E.Den a->E.Den t}(ex:rz P f)(h:∀x,ok x=false):aV E f (Ga a t ok F) :=
 ⟨ex,fun args r hr=>by
  unfold Ga at hr;split at hr
  ·split at hr
   ·rw[h]at hr;cases hr
   ·cases hr
  ·cases hr⟩
theorem anc{a b t:E.Ty}{ok:E.Den a->E.Den b->Bool}{F:E.Den a->E.Den b->E.Den t}(ex:rz P f)(h:∀x y,ok x y=false):aV E f (Cv a b t ok F) :=
 ⟨ex,fun args r hr=>by
  unfold Cv at hr;split at hr
  ·split at hr
   ·split at hr
    ·rw[h]at hr;cases hr
    ·cases hr
   ·cases hr
  ·cases hr⟩
theorem ayD{a b c t:E.Ty}{ok:E.Den a->E.Den b->E.Den c->Bool}{F:E.Den a->E.Den b->E.Den c->E.Den t}(ex:rz P f)(h:∀x y z,ok x y z=false):aV E f (fn3 a b c t ok F) :=
 ⟨ex,fun args r hr=>by
  unfold fn3 at hr;split at hr
  ·split at hr
   ·split at hr
    ·split at hr
     ·rw[h]at hr;cases hr
     ·cases hr
    ·cases hr
   ·cases hr
  ·cases hr⟩
theorem UL {a b c t:E.Ty} {ok:E.Den a->E.Den b->E.Den c->Bool} {F:E.Den a->E.Den b->E.Den c->E.Den t} (hO:aJ E O) (dB:P.follows .mixedOrders=true) (hf:P.funcs[f]? = some fn) (hn:(fn.name == "runtime.NumGoroutine")=false) (hb:fn.body.isNone=false)
  (h:∀x y z,ok x y z=true->Ij O masks (Gr E fn [⟨t,F x y z⟩]) fn [⟨a,x⟩,⟨b,y⟩,⟨c,z⟩]=some [⟨t,F x y z⟩]):aV E f (fn3 a b c t ok F):=by
 refine Py (masks:=masks) hO dB hf hn hb fun args res hr=>?_
 unfold fn3 at hr;split at hr
 ·split at hr
  ·rename_i x hx;split at hr
   ·rename_i y hy;split at hr
    ·rename_i z hz;injection hr with hr
     injection hr with h1 h2
     subst h2;rw[iI hx,iI hy,iI hz];exact h _ _ _ h1
    ·cases hr
   ·cases hr
  ·cases hr
 ·cases hr
end
def ae0(T b:TypeId):Code :=
 ((Go.Code.region 0 #[{ dst:=some 2,op:=Go.Op.assign (Go.Operand.const (Go.Value.slice none 0 0)),type:=T,pos:= "slices.go:355",after:=#[],guard:=none }] false).seq
  (((Go.Code.region 1
   #[{ dst:=some 3,op:=Go.Op.move (Go.Operand.tmp 0),type:=T,pos:= "slices.go:357",after:=#[],guard:=none },
    {dst:=some 4,op:=Go.Op.binOp Go.BinOp.eql T (Go.Operand.tmp 3) (Go.Operand.const (Go.Value.slice none 0 0)) T,type:=b,pos:= "slices.go:357",after:=#[{ on:=0,ground:=Go.Ground.data }],guard:=none }] false).seq
   (Go.Code.cond (Go.Operand.tmp 4)
    ((Go.Code.region 2 #[{ dst:=some 2,op:=Go.Op.assign (Go.Operand.const (Go.Value.slice none 0 0)),type:=T,pos:= "slices.go:358",after:=#[],guard:=none }] false).seq Go.Code.ret)
    Go.Code.skip)).seq
   ((Go.Code.region 3
    #[{ dst:=some 5,op:=Go.Op.buildSlice T 0 #[],type:=T,pos:= "slices.go:362",after:=#[],guard:=none },
     {dst:=some 6,op:=Go.Op.move (Go.Operand.tmp 0),type:=T,pos:= "slices.go:362",after:=#[],guard:=none },
     {dst:=some 7,op:=Go.Op.call { callee:=Go.Callee.builtin Go.Builtin.append,args:=#[Go.Operand.tmp 5,Go.Operand.tmp 6],argTypes:=#[T,T] },type:=T,pos:= "slices.go:362",after:=#[{ on:=0,ground:=Go.Ground.data }, { on:=1,ground:=Go.Ground.data }],guard:=none },
     {dst:=some 2,op:=Go.Op.assign (Go.Operand.tmp 7),type:=T,pos:= "slices.go:362",
      after:=#[{ on:=2,ground:=Go.Ground.data }, { on:=2,ground:=Go.Ground.chain }, { on:=0,ground:=Go.Ground.phase }, { on:=1,ground:=Go.Ground.phase }, { on:=2,ground:=Go.Ground.phase }],guard:=none }] false).seq Go.Code.ret)))
section
variable {P:Program} {E:Env P}
def Pz(e:TypeId):Yh E
 | [v]=>bif E.agg v.1 then none else(match E.cells v.1 v.2 with
  | [.slice t l]=>bif Nat.beq (E.tid t) e then some (decide (l.length*E.bytes t<=av),⟨t,l⟩)else none
  | _=>none)
 | _=>none
theorem ayE{w:World}{a:Addr}{u:Value}(h:w.cell? a=some u):a.block<w.heap.size:=by
 rcases afR a.block w.heap.size with hl | hl
 ·exact hl
 ·unfold World.cell? at h;rw[Array.getElem?_eq_none hl]at h;cases h
theorem vg{ops:Array Oper}{rest:List Oper}{o:Oper}{a:Act}{w w':World}{v:Value}{Q:Exit->Act->World->Prop}(hg:o.guard=none)(hr:(execOp a.eval o).run P w = .ok (.value v) w')(h:wpList P ops Q rest (a.put o.dst v) w'):wpList P ops Q (o::rest) a w:=by
 refine wpList_plain hg fun K hK=>?_
 unfold Oper.wp;rw[hr];exact hK _ _ h
theorem IZ {T b e:TypeId} {f:FuncId} {fn:Func} (hT:P.underlying T=some (.slice e)) (hf:P.funcs[f]? = some fn) (hn:(fn.name == "runtime.NumGoroutine")=false) (hb:fn.body=some (ae0 T b)) (hres:fn.results = #[.tmp 2]) (hnt:fn.ntmps=8) :
  Px E f (Pz e):=by
 refine⟨⟨fn,hf,hn,by rw[hb];rfl⟩,fun args t l hF=>?_⟩;unfold Pz at hF;split at hF
 ·rename_i v;obtain⟨s,x⟩:=v;cases hag:E.agg s with
  | true=>simp only[hag,cond_true]at hF;cases hF
  | false =>
   simp only[hag,cond_false]at hF;split at hF
   ·rename_i t' l' hcells;cases hbe:Nat.beq (E.tid t') e with
    | false=>rw[hbe]at hF;cases hF
    | true =>
     rw[hbe]at hF;have hbe:=abe hbe;subst hbe;simp only[cond_true]at hF;injection hF with hF
     injection hF with hok hF
     cases hF;have hok:l.length*E.bytes t<=av:=of_decide_eq_true hok;intro w ro vals hargs kR
     match vals,hargs with
     | [v],hargs =>
     have hd:dU E w ro v (.slice t l):=by
      rcases hargs.1 with⟨ha,_⟩ | ⟨_,c,hc,hd⟩
      ·rw[hag]at ha;cases ha
      ·rw[hcells]at hc;cases hc;exact hd
     obtain⟨ad,cap,news,rfl,hnl,had,hnc,hn1,hnd⟩:=hd.row;have huE:=fun(n c:Nat)=>Lib.run_eql_slice_nil (P:=P) w T (E.tid t) ad l.length cap n c hT
     have fin:∀(a:Act) (w':World) (gh:Gh) (xs:List Value),a.tmps[2]? = some gh.v->a.defers=[]->Below w.heap.size w w'->gh.n=l.length->gh.e=E.tid t->gh.sz=E.size t->sW w' gh xs->ng E w' ro t xs l->(∀g,gh.blk=some g->w.heap.size<=g) ->
       bodyPost P fn (fun e w'=>∃(gh:Gh) (xs:List Value),e = .returned gh.v/\Below w.heap.size w w'/\gh.n=l.length/\gh.e=E.tid t/\gh.sz=E.size t/\sW w' gh xs/\ng E w' ro t xs l/\∀g,gh.blk=some g->w.heap.size<=g) .ret a w':=by
      intro a w' gh xs h1 h2 h3 h4 h5 h6 h7 h8 h9;refine⟨h2,gh.v,?_,gh,xs,rfl,h3,h4,h5,h6,h7,h8,h9⟩;simp[results,hres,h1]
     refine calls_of_wp hf hb ?_;rw[hnt];unfold ae0;refine wp_seq (wp_region_list (vg rfl (v:=.slice none 0 0) (w':=w) (by simp[execOp,Act.eval]) (wpList_nil ?_)));refine wp_seq (wp_seq (wp_region_list (vg rfl (w':=w) (v:=.slice ad l.length cap) (by simp[execOp,Act.eval,Act.put]) (vg rfl (w':=w) (v:=.bool ad.isNone) (by simp[execOp,Act.eval,Act.put,eqGuard,huE]) (wpList_nil ?_)))));cases ad with
     | none =>have hl0:=had rfl;obtain rfl:=aeP hl0;refine wp_cond_true (by simp[Act.eval,Act.put]) (wp_seq (wp_region_list (vg rfl (w':=w) (v:=.slice none 0 0) (by simp[execOp,Act.eval]) (wpList_nil (wp_ret ?_)))));exact fin _ w ⟨.slice none 0 0,0,E.tid t,E.size t,none⟩ [] (by simp[Act.put]) rfl (Below.refl _ _) rfl rfl rfl (.inl ⟨World.ownsRow_nil w 0 _ _,rfl⟩) (fun i x j c hi=>by simp at hi) (fun g hg=>by cases hg)
     | some A =>
      refine wp_cond_false (by simp[Act.eval,Act.put]) (wp_skip ?_);obtain⟨i,z,hi,his,hib,hz,hzs⟩:=E.BI t;have hbp:=E.Nr t;let w1:=w.alloc (.cells #[] (E.tid t));have hown1:w1.ownsRow 0 (E.tid t) i.size (.slice (some ⟨w.heap.size,0,none⟩) 0 0) 0 []:=World.ownsRow_made w #[] 0 (aa4 _) (aa4 _) (by simp);obtain⟨v',w',b',hrun,hown',hgrow,hat,_⟩:=Ic (P:=P) (w:=w1) T T T (E.tid t) i z hT hi hz (by rw[hzs,his]) (.slice (some ⟨w.heap.size,0,none⟩) 0 0) 0 [] (some w.heap.size) (.inl ⟨hown1,rfl⟩) (.slice (some A) l.length cap) l.length news
       (Src.ofSlice _ hT A _ cap news (by rw[his];exact hnl) (fun j u hu=>by
        have:=hnc A rfl j u hu;exact(World.cell?_alloc_lt w _ _ (ayE this)).trans this) hn1) (by
        have:l.length<=l.length*E.bytes t:=aj8 _ hbp;unfold av at hok;unfold maxLen;omega) (by rw[hib,afr];exact hok)
      refine wp_seq (wp_region_list (vg rfl (w':=w1) (v:=.slice (some ⟨w.heap.size,0,none⟩) 0 0) (by simp[execOp,Instr.buildSlice,run_underlying hT,tu,Instr.fill,newRow,w1,Array.range_zero']) (vg rfl (w':=w1) (v:=.slice (some A) l.length cap) (by simp[execOp,Act.eval,Act.put])
       (vg rfl (w':=w') (v:=v') (by simp[execOp,Act.eval,Act.put,resolve,invoke,builtin,hrun]) (vg rfl (w':=w') (v:=v') (by simp[execOp,Act.eval,Act.put]) (wpList_nil (wp_ret ?_)))))))
      have hbel:Below w.heap.size w w':=(Below.alloc (Below.refl _ _) (ab8 _) _).trans ⟨hgrow.os,hgrow.tape,hgrow.output,hgrow.size,fun k hk=>hgrow.block k (by simp[w1];omega) (fun e=>by cases e;omega)⟩;rw[his]at hown';refine fin _ w' ⟨v',l.length,E.tid t,E.size t,b'⟩ news (by simp[Act.put]) rfl hbel rfl rfl rfl ?_ ?_ ?_
      ·simpa[sW]using hown'
      ·intro i0 x0 j c hx hc;obtain⟨u,hu,hdr⟩:=hnd i0 x0 j c hx hc;exact⟨u,hu,hdr.mono (fun _ _ h=>h) (fun k o h=>hbel.cell (p:=⟨k,o,none⟩) (kR k o h))⟩
      ·intro g hg;rcases hat with e | e
       ·have:b'=some g:=hg;rw[e]at this;cases this;exact ab8 _
       ·have:b'=some g:=hg;rw[e]at this;cases this;simp[w1]
   ·cases hF
 ·cases hF
abbrev TL(E:Env P):=(t:E.Ty)×List (E.Den t)
def avk(S:aI E):AV E->Option (TL E)
 | .row _ _ id=>match look S.objs id with
  | some (.row t l)=>some ⟨t,l⟩
  | _=>none
 | _=>none
def apN(fn:Func)(e:dN)(S:aI E):Option (TL E):=match e with
 | .exit _=>none
 | .goto _=>none
 | _=>match fn.results.toList with
  | [r]=>(match ac4 S r with
   | some v=>avk S v
   | none=>none)
  | _=>none
def aw5(O:aR E)(h:Hint E)(G:Nat->aI E->Option (TL E))(fn:Func)(j:Nat)(S:aI E):Option (TL E):=match fn.body with
 | some c=>aiy O h G c j S (apN fn)
 | none=>none
def aw6(E:Env P)(res:TL E)(w:World)(gh:Gh)(ro:Nat->Nat->Prop)(e:Ending)(w':World):Prop:=∃(bE:Gh) (xs':List Value),e = .returned bE.v/\w.grownBy w' gh.blk/\bE.n=res.2.length/\bE.e=E.tid res.1/\bE.sz=E.size res.1/\sW w' bE xs' /\
  ng E w' (fun k o=>ro k o\/(bE.blk≠some k/\(gh.blk=some k\/w.heap.size<=k/\k<w'.heap.size))) res.1 xs' res.2/\(∀g,bE.blk=some g->gh.blk=some g\/w.heap.size<=g)
def asb(E:Env P)(fn:Func)(res:TL E)(w:World)(gh:Gh)(ro:Nat->Nat->Prop):Exit->Act->World->Prop:=bodyPost P fn (aw6 E res w gh ro)
theorem apO{fn:Func}{res:TL E}{w:World}{gh:Gh}{ro:Nat->Nat->Prop}{e:dN}{S':aI E}{a':Act}{w':World}{ι':Nat->Option Gh}{ro':Nat->Nat->Prop}(hg':bO E ⟨w,gh.blk,none,[],fun _=>none⟩ ro S' a' w' ι' ro')(hk:apN fn e S'=some res) :
  asb E fn res w gh ro e.toExit a' w':=by
 have fin:∀r,fn.results.toList=[r]->(match ac4 S' r with | some v=>avk S' v | none=>none)=some res->a'.defers=[]/\∃v,(results fn a'.tmps).run P w' = .ok v w' /\
   aw6 E res w gh ro (.returned v) w':=by
  intro r hr hres;cases hv:ac4 S' r with
  | none=>rw[hv]at hres;cases hres
  | some v =>
   rw[hv]at hres;simp only at hres;obtain⟨u,hrun,hrep⟩:=Zo hg' hv;unfold avk at hres;split at hres
   ·rename_i t0 n0 id;split at hres
    ·rename_i t l eD;cases hres;cases hrep with
     | row bE _ _ ad cap hi h2 h3 h4 h5 =>
      obtain⟨gh2,xs,hi2,hn,hge,hgs,hown,hrow,iF⟩:=hg'.objs id _ eD;rw[hi]at hi2;cases hi2;refine⟨hg'.base.defers,bE.v,?_,bE,xs,rfl,hg'.base.below,hn,hge,hgs,hown,hrow.mono (fun k o hk=>?_) (fun _ _ _=>rfl),fun g hg=>?_⟩
      ·show(do let vs <- fn.results.mapM (Zn a'.tmps);pure (if h:vs.size=1 then vs[0]else .tuple vs):Sem Value).run P w'=_;rw[Array.mapM_eq_mapM_toList,hr];simp only[Sem.run_bind,Sem.run_map,List.mapM_cons,List.mapM_nil,hrun,Result.andThen_ok,Sem.run_pure];simp
      ·have hne:bE.blk≠some k:=fun e=>iF k e o hk
       rcases hg'.base.rU k o hk with h | h | h
       ·exact .inl h
       ·exact .inr ⟨hne,.inr ⟨h,hg'.base.aZ k o hk⟩⟩
       ·exact .inr ⟨hne,.inl h⟩
      ·rcases(hg'.base.uZ id bE g hi hg).1 with h | h
       ·exact .inr h
       ·exact .inl h
    ·cases hres
   ·cases hres
 cases e with
 | normal =>
  unfold apN at hk;split at hk
  ·rename_i h;cases h
  ·rename_i h;cases h
  ·split at hk
   ·rename_i r hr;exact fin r hr hk
   ·cases hk
 | ret =>
  unfold apN at hk;split at hk
  ·rename_i h;cases h
  ·rename_i h;cases h
  ·split at hk
   ·rename_i r hr;exact fin r hr hk
   ·cases hk
 | _=>cases hk
def EvM(E:Env P)(fn:Func)(res:TL E)(i:Nat)(S:aI E):Prop :=
 ∀(w0:World) (gh:Gh) aP n c,fn.body=some c->UK E ⟨w0,gh.blk,none,[],fun _=>none⟩ aP n c (asb E fn res w0 gh aP) i S
open Classical in
def GrM(E:Env P)(fn:Func)(res:TL E)(i:Nat)(S:aI E):Option (TL E):=if EvM E fn res i S then some res else none
theorem aAn{fn:Func}{res r:TL E}{i:Nat}{S:aI E}(h:GrM E fn res i S=some r):EvM E fn r i S:=by
 unfold GrM at h;split at h
 ·cases h;assumption
 ·cases h
variable {O:aR E} {h:Hint E}
theorem EvM.step(hO:aJ E O)(dB:P.follows .mixedOrders=true){fn:Func}{res:TL E}{j:Nat}{S:aI E}(hs:aw5 O h (GrM E fn res) fn j S=some res):EvM E fn res j S:=by intro w0 gh aP n c hc;unfold aw5 at hs;rw[hc]at hs;exact Rh hO dB (fun i S hi=>⟨.none rfl,aAn hi w0 gh aP n c hc⟩) (fun e S' a' w' ι' ro' _ h2 _ h4=>apO h2 h4) hs
variable {f:FuncId} {fn:Func}
end
section
variable {P:Program} {E:Env P} {O:aR E} {masks:Hint E} {f:FuncId} {fn:Func}
def apP(a0 a1 t0 t1 t2:E.Ty)(ok:E.Den a0->E.Den a1->Bool)(F0:E.Den a0->E.Den a1->E.Den t0)(F1:E.Den a0->E.Den a1->E.Den t1)(F2:E.Den a0->E.Den a1->E.Den t2):iU E
 | [x0,x1]=>match jQ a0 x0,jQ a1 x1 with
  | some x0,some x1=>some (ok x0 x1,[⟨t0,F0 x0 x1⟩,⟨t1,F1 x0 x1⟩,⟨t2,F2 x0 x1⟩])
  | _,_=>none
 | _=>none
theorem ane {a0 a1 t0 t1 t2:E.Ty} {ok:E.Den a0->E.Den a1->Bool} {F0:E.Den a0->E.Den a1->E.Den t0} {F1:E.Den a0->E.Den a1->E.Den t1} {F2:E.Den a0->E.Den a1->E.Den t2} (hO:aJ E O) (dB:P.follows .mixedOrders=true) (hf:P.funcs[f]? = some fn) (hn:(fn.name == "runtime.NumGoroutine")=false) (hb:fn.body.isNone=false)
  (h:∀x0 x1,ok x0 x1=true->Ij O masks (Gr E fn [⟨t0,F0 x0 x1⟩,⟨t1,F1 x0 x1⟩,⟨t2,F2 x0 x1⟩]) fn [⟨a0,x0⟩,⟨a1,x1⟩]=some [⟨t0,F0 x0 x1⟩,⟨t1,F1 x0 x1⟩,⟨t2,F2 x0 x1⟩]):aV E f (apP a0 a1 t0 t1 t2 ok F0 F1 F2):=by
 refine Py (masks:=masks) hO dB hf hn hb fun args res hr=>?_
 unfold apP at hr;split at hr
 ·split at hr
  ·rename_i hx0 hx1;injection hr with hr
   injection hr with h1 h2
   subst h2;rw[iI hx0,iI hx1];exact h _ _ h1
  ·cases hr
 ·cases hr
def LQ(a0 a1 a2 t0 t1 t2 t3:E.Ty)(ok:E.Den a0->E.Den a1->E.Den a2->Bool)(F0:E.Den a0->E.Den a1->E.Den a2->E.Den t0)(F1:E.Den a0->E.Den a1->E.Den a2->E.Den t1)(F2:E.Den a0->E.Den a1->E.Den a2->E.Den t2)(F3:E.Den a0->E.Den a1->E.Den a2->E.Den t3):iU E
 | [x0,x1,x2]=>match jQ a0 x0,jQ a1 x1,jQ a2 x2 with
  | some x0,some x1,some x2=>some (ok x0 x1 x2,[⟨t0,F0 x0 x1 x2⟩,⟨t1,F1 x0 x1 x2⟩,⟨t2,F2 x0 x1 x2⟩,⟨t3,F3 x0 x1 x2⟩])
  | _,_,_=>none
 | _=>none
def fn4(a0 a1 a2 a3 t0:E.Ty)(ok:E.Den a0->E.Den a1->E.Den a2->E.Den a3->Bool)(F0:E.Den a0->E.Den a1->E.Den a2->E.Den a3->E.Den t0):iU E
 | [x0,x1,x2,x3]=>match jQ a0 x0,jQ a1 x1,jQ a2 x2,jQ a3 x3 with
  | some x0,some x1,some x2,some x3=>some (ok x0 x1 x2 x3,[⟨t0,F0 x0 x1 x2 x3⟩])
  | _,_,_,_=>none
 | _=>none
end
section
variable {P:Program} {E:Env P}
def abf:List (AV E)->Nat->List (Nat×AV E)
 | [],_=>[]
 | v::r,i=>(i,bif eF v then .any else v)::abf r (i+1)
def UM(fn:Func)(args:List (AV E))(objs:List (Nat×aU E))(next:Nat):aI E:=⟨args.length+(fn.ntmps-args.length),abf args 0,objs,next⟩
def Xm(S:aI E):List ResultVar->Option (List (AV E))
 | []=>some []
 | r::rs=>match ac4 S r with
  | some v=>(match eF v with
   | true=>none
   | false=>(match Xm S rs with
    | some vs=>some (v::vs)
    | none=>none))
  | none=>none
def avl{R:Type}(fn:Func)(k:AV E->List (Nat×aU E)->Nat->Option R)(e:dN)(S:aI E):Option R:=match e with
 | .exit _=>none
 | .goto _=>none
 | _=>match Xm S fn.results.toList with
  | some [v]=>k v S.objs S.next
  | some vs=>k (.wP vs) S.objs S.next
  | none=>none
def apQ{R:Type}(f:aI E->(dN->aI E->Option R)->Option R):Nat->aI E->(dN->aI E->Option R)->Option R
 | 0,_,_=>none
 | m+1,S,k=>f S (Zm (fun S'=>apQ f m S' k) k)
def scK{R:Type}(J:Code->Code->aI E->(dN->aI E->Option R)->Option R)(c:Code)(k:dN->aI E->Option R)(e:dN)(S:aI E):Option R:=match e with
 | .goto l=>(match findLabel c l with
  | some rest=>J c rest S k
  | none=>none)
 | .normal=>k .normal S
 | .exit id=>k (.exit id) S
 | .ret=>k .ret S
def Il{R:Type}(O:aR E)(h:Hint E)(m:Nat)(J:Code->Code->aI E->(dN->aI E->Option R)->Option R):Code->aI E->(dN->aI E->Option R)->Option R
 | .skip,S,k=>k .normal S
 | .region id ops dr,S,k=>splitK (UF h.split id) (ND (UF h.opn id) (match Q5 h.frz id with | true=>zL S | false=>S)) fun S'=>JK (Q5 h.lst id) O ops dr S' (k .normal)
 | .seq x y,S,k=>Il O h m J x S (Zm (fun S'=>Il O h m J y S' k) k)
 | .cond c x y,S,k=>match bG S.tmps [] c with
  | .d (.bool b)=>bif b then Il O h m J x S k else Il O h m J y S k
  | _=>none
 | .block id body,S,k=>Il O h m J body S (JL id k)
 | .loop b,S,k=>apQ (Il O h m J b) m S k
 | .exit id,S,k=>k (.exit id) S
 | .ret,S,k=>k .ret S
 | .scope c,S,k=>Il O h m J c S (scK J c k)
 | .label _,S,k=>k .normal S
 | .goto l,S,k=>k (.goto l) S
 | _,_,_=>none
def aiD{R:Type}(O:aR E)(h:Hint E)(m:Nat):Nat->Code->Code->aI E->(dN->aI E->Option R)->Option R
 | 0,_,_,_,_=>none
 | d+1,c,rest,S,k=>Il O h m (aiD O h m d) rest S (scK (aiD O h m d) c k)
def evU{R:Type}(O:aR E)(h:Hint E)(m:Nat):Code->aI E->(dN->aI E->Option R)->Option R:=Il O h m (aiD O h m m)
def JOk{R:Type}(E:Env P)(w0:Start)(aP:Nat->Nat->Prop)(n:Nat)(rr:R)(J:Code->Code->aI E->(dN->aI E->Option R)->Option R):Prop :=
 ∀(c rest:Code) (S:aI E) (k:dN->aI E->Option R) (Q:Exit->Act->World->Prop) (a:Act) (w:World) (ι:Nat->Option Gh) (ro:Nat->Nat->Prop),
  aS S.tmps->bO E w0 aP S a w ι ro->S.n=n->J c rest S k=some rr ->
  (∀e S' a' w' ι' ro',aS S'.tmps->bO E w0 aP S' a' w' ι' ro'->S'.n=n->k e S'=some rr->Q e.toExit a' w')->LK P c rest Q a w
theorem ae1{R:Type}{w0:Start}{aP:Nat->Nat->Prop}{n:Nat}{rr:R}{J:Code->Code->aI E->(dN->aI E->Option R)->Option R}(hJ:JOk E w0 aP n rr J){c:Code}{k:dN->aI E->Option R}{Q:Exit->Act->World->Prop}
  (hk:∀e S' a' w' ι' ro',aS S'.tmps->bO E w0 aP S' a' w' ι' ro'->S'.n=n->k e S'=some rr->Q e.toExit a' w') (e:dN) (S':aI E) (a':Act) (w':World) (ι':Nat->Option Gh) (ro':Nat->Nat->Prop)
  (h1:aS S'.tmps) (h2:bO E w0 aP S' a' w' ι' ro') (h3:S'.n=n) (h4:scK J c k e S'=some rr):Pv P c Q e.toExit a' w':=by
 cases e with
 | normal=>exact hk .normal S' a' w' ι' ro' h1 h2 h3 h4
 | exit id=>exact hk (.exit id) S' a' w' ι' ro' h1 h2 h3 h4
 | ret=>exact hk .ret S' a' w' ι' ro' h1 h2 h3 h4
 | goto l =>
  simp only[scK]at h4;split at h4
  ·rename_i rest hf;exact⟨rest,hf,hJ c rest S' k Q a' w' ι' ro' h1 h2 h3 h4 hk⟩
  ·cases h4
theorem abg{R:Type}{O:aR E}(hO:aJ E O)(dB:P.follows .mixedOrders=true){h:Hint E}{m n:Nat}{w0:Start}{aP:Nat->Nat->Prop}{rr:R}{J:Code->Code->aI E->(dN->aI E->Option R)->Option R}(hJ:JOk E w0 aP n rr J) :
  ∀(c:Code) (S:aI E) (k:dN->aI E->Option R) (Q:Exit->Act->World->Prop) (a:Act) (w:World) (ι:Nat->Option Gh) (ro:Nat->Nat->Prop),
  aS S.tmps->bO E w0 aP S a w ι ro->S.n=n->Il O h m J c S k=some rr ->
  (∀e S' a' w' ι' ro',aS S'.tmps->bO E w0 aP S' a' w' ι' ro'->S'.n=n->k e S'=some rr->Q e.toExit a' w')->c.wp P Q a w:=by
 intro c
 induction c with
 | skip=>intro S k Q a w ι ro hnc hg hn h hk;exact wp_skip (hk .normal S a w ι ro hnc hg hn h)
 | ret=>intro S k Q a w ι ro hnc hg hn h hk;exact wp_ret (hk .ret S a w ι ro hnc hg hn h)
 | exit id=>intro S k Q a w ι ro hnc hg hn h hk;exact wp_exit (hk (.exit id) S a w ι ro hnc hg hn h)
 | region id ops draw =>
  intro S k Q a w ι ro hnc hg hn hh hk;have go:∀(S:aI E) (ro:Nat->Nat->Prop),aS S.tmps->bO E w0 aP S a w ι ro->S.n=n->JK (Q5 h.lst id) O ops draw S (k .normal)=some rr->(Code.region id ops draw).wp P Q a w:=fun S ro hnc hg hn hq =>UH hO dB hnc hg (fun S' a' w' ι' ro' h1 h2 h3 h4=>hk .normal S' a' w' ι' ro' h1 h2 (h3.trans hn) h4) hq
  simp only[Il]at hh;have fin:∀(l1:List (Nat×Nat)) (l2:List Nat) (S:aI E) (ro:Nat->Nat->Prop),aS S.tmps->bO E w0 aP S a w ι ro->S.n=n->splitK l1 (ND l2 S) (fun S'=>JK (Q5 h.lst id) O ops draw S' (k .normal))=some rr->(Code.region id ops draw).wp P Q a w:=by intro l1 l2 S ro hnc hg hn h;obtain⟨Yf,g1,g2,g3⟩:=Oi l2 S ro hnc hg;obtain⟨S2,g4,g5,g6,g7⟩:=LG _ _ g1 g2 h;grind
  split at hh
  ·obtain⟨h1,h2⟩:=Eb hnc hg;exact fin _ _ (zL S) _ h1 h2 hn hh
  ·exact fin _ _ S ro hnc hg hn hh
 | seq x y Pw ihy =>
  intro S k Q a w ι ro hnc hg hn h hk;refine wp_seq (Pw S _ _ a w ι ro hnc hg hn h fun e S' a' w' ι' ro' h1 h2 h3 h4=>?_);cases e with
  | normal=>exact ihy S' k Q a' w' ι' ro' h1 h2 h3 h4 hk
  | exit id=>exact hk (.exit id) S' a' w' ι' ro' h1 h2 h3 h4
  | goto l=>exact hk (.goto l) S' a' w' ι' ro' h1 h2 h3 h4
  | ret=>exact hk .ret S' a' w' ι' ro' h1 h2 h3 h4
 | cond c x y Pw ihy =>
  intro S k Q a w ι ro hnc hg hn h hk;have hc:=yF (E:=E) (asm:=[]) hg.tmps (fun j b hb=>by simp[uY]at hb) c;simp only[Il]at h;split at h
  ·rename_i b hb;rw[hb]at hc;have hc:=hc.tq;cases b with
   | true=>exact wp_cond_true hc (Pw S k Q a w ι ro hnc hg hn h hk)
   | false=>exact wp_cond_false hc (ihy S k Q a w ι ro hnc hg hn h hk)
  ·cases h
 | block id body ih =>
  intro S k Q a w ι ro hnc hg hn h hk;refine wp_block (ih S _ _ a w ι ro hnc hg hn h fun e S' a' w' ι' ro' h1 h2 h3 h4=>?_);cases e with
  | normal=>exact hk .normal S' a' w' ι' ro' h1 h2 h3 h4
  | goto l=>exact hk (.goto l) S' a' w' ι' ro' h1 h2 h3 h4
  | ret=>exact hk .ret S' a' w' ι' ro' h1 h2 h3 h4
  | exit i =>
   simp only[dN.toExit,Exit.inBlock,JL]at h4 ⊢;cases hb:Nat.beq i id with
   | true =>rw[hb]at h4;rw[if_pos (abe hb)];exact hk .normal S' a' w' ι' ro' h1 h2 h3 h4
   | false =>rw[hb]at h4;rw[if_neg (fun e=>by subst e;simp at hb)];exact hk (.exit i) S' a' w' ι' ro' h1 h2 h3 h4
 | loop body ih =>
  intro S k Q a w ι ro hnc hg hn hh hk;have rounds:∀(f:Nat) (S:aI E) (a:Act) (w:World) (ι:Nat->Option Gh) (ro:Nat->Nat->Prop),aS S.tmps->bO E w0 aP S a w ι ro->S.n=n->apQ (Il O h m J body) f S k=some rr->u7 P body Q a w:=by
   intro f
   induction f with
   | zero=>intro S a w ι ro _ _ _ h;cases h
   | succ f ihf =>
    intro S a w ι ro hnc hg hn h;refine u7.round (ih S _ _ a w ι ro hnc hg hn h fun e S' a' w' ι' ro' h1 h2 h3 h4=>?_);cases e with
    | normal=>exact ihf S' a' w' ι' ro' h1 h2 h3 h4
    | exit id=>exact hk (.exit id) S' a' w' ι' ro' h1 h2 h3 h4
    | goto l=>exact hk (.goto l) S' a' w' ι' ro' h1 h2 h3 h4
    | ret=>exact hk .ret S' a' w' ι' ro' h1 h2 h3 h4
  exact(rounds m S a w ι ro hnc hg hn hh).wp
 | scope body ih =>intro S k Q a w ι ro hnc hg hn hh hk;exact aeZ (ih S (scK J body k) (Pv P body Q) a w ι ro hnc hg hn hh fun e S' a' w' ι' ro' h1 h2 h3 h4=>ae1 hJ hk e S' a' w' ι' ro' h1 h2 h3 h4)
 | label l=>intro S k Q a w ι ro hnc hg hn h hk;exact wp_label (hk .normal S a w ι ro hnc hg hn h)
 | goto l=>intro S k Q a w ι ro hnc hg hn h hk;exact wp_goto (hk (.goto l) S a w ι ro hnc hg hn h)
 | _=>intro S k Q a w ι ro hnc hg hn h hk;cases h
theorem ac8{R:Type}{O:aR E}(hO:aJ E O)(dB:P.follows .mixedOrders=true){h:Hint E}{m n:Nat}{w0:Start}{aP:Nat->Nat->Prop}{rr:R}:∀d,JOk E w0 aP n rr (aiD O h m d)
 | 0=>fun c rest S k Q a w ι ro _ _ _ h=>by cases h
 | d+1=>fun c rest S k Q a w ι ro hnc hg hn hh hk =>LK.of (abg hO dB (ac8 hO dB d) rest S (scK (aiD O h m d) c k) (Pv P c Q) a w ι ro hnc hg hn hh fun e S' a' w' ι' ro' h1 h2 h3 h4=>ae1 (ac8 hO dB d) hk e S' a' w' ι' ro' h1 h2 h3 h4)
theorem UN{R:Type}{O:aR E}(hO:aJ E O)(dB:P.follows .mixedOrders=true){h:Hint E}{m n:Nat}{w0:Start}{aP:Nat->Nat->Prop}{rr:R}
  (c:Code) (S:aI E) (k:dN->aI E->Option R) (Q:Exit->Act->World->Prop) (a:Act) (w:World) (ι:Nat->Option Gh) (ro:Nat->Nat->Prop)
  (hnc:aS S.tmps) (hg:bO E w0 aP S a w ι ro) (hn:S.n=n) (hh:evU O h m c S k=some rr)
  (hk:∀e S' a' w' ι' ro',aS S'.tmps->bO E w0 aP S' a' w' ι' ro'->S'.n=n->k e S'=some rr->Q e.toExit a' w'):c.wp P Q a w :=
 abg hO dB (ac8 hO dB m) c S k Q a w ι ro hnc hg hn hh hk
def hintOf(hs:List (FuncId×Hint E))(f:FuncId):Hint E:=match look hs f with
 | some h=>h
 | none=>{}
def mkI(O:aR E)(NI:List (FuncId×Func))(hs:List (FuncId×Hint E)):Nat->Inl E
 | 0=>.nil
 | n+1=>⟨fun f=>(look NI f).isSome,fun f args objs next k=>match look NI f with
  | some fn=>match fn.body with
   | some c=>evU { O with inl:=mkI O NI hs n } (hintOf hs f) (hintOf hs f).rounds c (UM fn args objs next) (avl fn k)
   | none=>none
  | none=>none⟩
def Rk(O:aR E)(NI:List (FuncId×Func))(hs:List (FuncId×Hint E):=[])(d:Nat:=4):aR E:={ O with inl:=mkI O NI hs d }
theorem abh:∀{args:List (AV E)} {i t:Nat} {x:AV E},look (abf args i) t=some x->i<=t/\∃y,args[t-i]? = some y/\x=bif eF y then .any else y
 | [],_,_,_,h=>by cases h
 | v::r,i,t,x,h=>by
  simp only[abf,bf]at h;split at h
  ·rename_i hb;have:=abe hb;grind
  ·rename_i hb;obtain⟨h1,z,h2,h3⟩:=abh h;grind
theorem UO:∀(args:List (AV E)) (i:Nat),aS (abf args i)
 | [],_=>fun p h=>by cases h
 | v::r,i=>fun p h=>by
  cases h with
  | head =>
   cases hc:eF v with
   | true=>rfl
   | false=>exact hc
  | tail _ h=>exact UO r (i+1) p h
theorem ae2{w0:Start}{aP:Nat->Nat->Prop}{S:aI E}{a:Act}{w:World}{ι:Nat->Option Gh}{ro:Nat->Nat->Prop}(hg:bO E w0 aP S a w ι ro):∀{rs:List ResultVar} {xs:List (AV E)},Xm S rs=some xs ->
  ∃vs:List Value,(rs.mapM (Zn a.tmps)).run P w=Result.ok vs w/\vs.length=xs.length/\∀(i:Nat) v x,vs[i]? = some v->xs[i]? = some x->aO E w ro ι v x/\eF x=false
 | [],xs,h=>by cases h;exact⟨[],by simp,rfl,fun i v x hv=>by simp at hv⟩
 | r::rs,xs,h=>by
  unfold Xm at h;split at h
  ·rename_i v hv;split at h
   ·cases h
   ·rename_i hc;split at h
    ·rename_i ys hys;cases h;obtain⟨u,hu,hr⟩:=Zo hg hv;obtain⟨us,X9,hl,hrs⟩:=ae2 hg hys;refine⟨u::us,by rw[List.mapM_cons];simp only[Sem.run_bind,hu,Result.andThen_ok,X9,Sem.run_pure],by simp[hl],fun i v' x' h1 h2=>?_⟩;grind
    ·cases h
  ·cases h
def apR{R:Type}(E:Env P)(k:AV E->List (Nat×aU E)->Nat->Option R)(rr:R)(w0:Start)(aP:Nat->Nat->Prop)(e:Ending)(w':World):Prop :=
 ∃(v:Value) (x:AV E) (nH:List (Nat×aU E)) (next':Nat) (ι':Nat->Option Gh) (ro':Nat->Nat->Prop) (a':Act),e = .returned v/\k x nH next'=some rr/\aO E w' ro' ι' v x/\Base w0 aP a' w' ι' ro' /\
  (∀(id:Nat) o,look nH id=some o->kE E w' ro' ι' id o)/\Inj E nH ι'/\(∀id,next'<=id->ι' id=none)/\(∀id o,look nH id=some o->id<next')
theorem apS{R:Type}{fn:Func}{k:AV E->List (Nat×aU E)->Nat->Option R}{rr:R}{w0:Start}{aP:Nat->Nat->Prop}{e:dN}{S':aI E}{a':Act}{w':World}{ι':Nat->Option Gh}{ro':Nat->Nat->Prop}(hg':bO E w0 aP S' a' w' ι' ro')(hk:avl fn k e S'=some rr)(hd:w0.dl=[]) :
  bodyPost P fn (apR E k rr w0 aP) e.toExit a' w':=by
 have fin:(match Xm S' fn.results.toList with | some [v]=>k v S'.objs S'.next | some vs=>k (.wP vs) S'.objs S'.next | none=>none)=some rr->a'.defers=[]/\∃v,(results fn a'.tmps).run P w' = .ok v w'/\apR E k rr w0 aP (.returned v) w':=by
  intro h;cases hv:Xm S' fn.results.toList with
  | none=>rw[hv]at h;cases h
  | some xs =>
   rw[hv]at h;obtain⟨vs,hvs,hl,hrep⟩:=ae2 hg' hv;refine⟨hg'.base.defers.trans hd,if h:vs.length=1 then vs[0]else .tuple vs.toArray,?_,?_⟩
   ·show(do let vs <- fn.results.mapM (Zn a'.tmps);pure (if h:vs.size=1 then vs[0]else .tuple vs):Sem Value).run P w'=_;rw[Array.mapM_eq_mapM_toList];simp only[Sem.run_bind,Sem.run_map,hvs];simp[Result.andThen]
   ·by_cases h1:vs.length=1
    ·rw[dif_pos h1]
     match xs,hl,h,hrep with
     | [x],_,h,hrep=>exact⟨_,x,_,_,ι',ro',a',rfl,h,(hrep 0 _ x (aaO (by omega)) rfl).1,hg'.base,hg'.objs,hg'.inj,hg'.fresh,hg'.ids⟩
     | [],hl,_,_=>exact absurd (h1.symm.trans hl) (by simp)
     | _::_::_,hl,_,_=>exact absurd (h1.symm.trans hl) (by simp)
    ·rw[dif_neg h1];have h:k (.wP xs) S'.objs S'.next=some rr:=by
      grind
     exact⟨_,.wP xs,_,_,ι',ro',a',rfl,h,.wP _ _ (by simpa using hl) (fun j v x hv hx=>(hrep j v x (by simpa using hv) hx).1),hg'.base,hg'.objs,hg'.inj,hg'.fresh,hg'.ids⟩
 cases e with
 | exit id=>cases hk
 | goto l=>cases hk
 | _=>exact fin hk
def NJ (P:Program) (NI:List (FuncId×Func)):Prop:=∀p∈NI,P.funcs[p.1]? = some p.2/\(p.2.name == "runtime.NumGoroutine")=false/\p.2.body.isNone=false
theorem NJ.nil:NJ P []:=fun p h=>by cases h
theorem NJ.cons {f:FuncId} {fn:Func} {l:List (FuncId×Func)} (h1:P.funcs[f]? = some fn) (h2:(fn.name == "runtime.NumGoroutine")=false) (h3:fn.body.isNone=false) (hl:NJ P l):NJ P ((f,fn)::l):=fun p hp=>by
 cases hp with
 | head=>exact⟨h1,h2,h3⟩
 | tail _ hp=>exact hl p hp
theorem ase{O:aR E}(hO:aJ E O)(dB:P.follows .mixedOrders=true){NI:List (FuncId×Func)}{hs:List (FuncId×Hint E)}(ht:NJ P NI):∀n,awX E (mkI O NI hs n)
 | 0=>fun f args objs next k rr h=>by cases h
 | n+1=>fun f args objs next k rr h=>by
  have hO':aJ E { O with inl:=mkI O NI hs n }:=⟨hO.1,hO.2.1,hO.2.2.1,hO.2.2.2.1,ase hO dB ht n,hO.2.2.2.2.2⟩
  simp only[mkI]at h;split at h
  ·rename_i fn hl;obtain⟨hf,hname,hbody⟩:=ht _ (j5 _ _ _ hl);split at h
   ·rename_i c hc;refine⟨⟨fn,hf,hname,hbody⟩,fun w0 aP a w ι ro vals hb ho hi hfr lu hlen hargs=>?_⟩;let w1:Start:=⟨w0.w,w0.x,some ⟨w,ro,ι⟩,[],w0.h⟩
    refine(calls_of_wp (R:=apR E k rr w1 aP) hf hc ?_).mono fun e w' he=>by
     obtain⟨v,x,nH,next',ι',ro',a',h1,h2,h3,h4,h5,h6,h7,h8⟩:=he;obtain⟨q1,q2⟩:=h4.keep _ rfl;exact⟨v,x,nH,next',ι',ro',h1,h2,h3,⟨h4.below,h4.aZ,h4.rU,h4.uZ,hb.defers,fun q hq=>by obtain⟨p1,p2⟩:=hb.keep q hq;exact⟨fun k o h=>⟨(q1 k o (p1 k o h).1).1,(q1 k o (p1 k o h).1).2.trans (p1 k o h).2⟩,fun id gh h=>q2 id gh (p2 id gh h)⟩,h4.held⟩,h5,h6,h7,h8,q1,q2⟩
    have hg:bO E w1 aP (UM fn args objs next) { tmps:=vals.toArray++Array.replicate (fn.ntmps-vals.toArray.size) undef,defers:=[] } w ι ro:={
     base:=⟨hb.below,hb.aZ,hb.rU,hb.uZ,rfl,(fun q hq=>by cases hq;exact⟨fun k o h=>⟨h,rfl⟩,fun _ _ h=>h⟩),hb.held⟩
     size:=by simp[UM,hlen]
     tmps:=fun t x hl=>by
      obtain⟨_,y,hy,rfl⟩:=abh hl;rw[am6]at hy;have hlt:t<vals.length:=by rw[hlen];exact(List.getElem?_eq_some_iff.1 hy).1
      have hv:=aaO hlt;refine⟨vals[t],by simp[anE,hlt],?_⟩;have hr:aO E w ro ι vals[t] y:=hargs t _ y hv hy;cases hcy:eF y with
      | true=>exact aO.any _
      | false =>rw[cond_false];cases y<;>first | exact hr | cases hcy
     objs:=ho
     inj:=hi
     fresh:=hfr
     ids:=lu }
    exact UN (n:=(UM fn args objs next).n) hO' dB c (UM fn args objs next) (avl fn k) _ _ w _ ro (UO args 0) hg rfl h
     fun e S' a' w' ι' ro' _ h2 _ h4=>apS h2 h4 rfl
   ·cases h
  ·cases h
theorem aiE{O:aR E}(hO:aJ E O)(dB:P.follows .mixedOrders=true){NI:List (FuncId×Func)}{hs:List (FuncId×Hint E)}{d:Nat}(ht:NJ P NI):aJ E (Rk O NI hs d):=⟨hO.1,hO.2.1,hO.2.2.1,hO.2.2.2.1,ase hO dB ht d,hO.2.2.2.2.2⟩
def JM(fn:Func)(t:E.Ty)(x:E.Den t)(rest:List (TV E)):aI E:=⟨(rest.length+1)+(fn.ntmps-(rest.length+1)),(0,.ptr 0 0)::Rb rest 1,[(0,.box ((E.cells t x).map .d))],1⟩
def avm(t:E.Ty)(fn:Func)(S:aI E):Option (List (TV E)):=match look S.objs 0 with
 | some (.box cs)=>(match ag3 t cs with
  | some y=>(match ac5 S fn.results.toList fn.resultTypes.toList with
   | some xs=>some (⟨t,y⟩::xs)
   | none=>none)
  | none=>none)
 | _=>none
def apT(t:E.Ty)(fn:Func)(e:dN)(S:aI E):Option (List (TV E)):=match e with
 | .exit _=>none
 | .goto _=>none
 | _=>avm t fn (zL S)
def abj(O:aR E)(h:Hint E)(G:gY E)(fn:Func)(t:E.Ty)(x:E.Den t)(rest:List (TV E)):Option (List (TV E)):=match fn.body with
 | some c=>nK O h G 0 c (JM fn t x rest) (apT t fn)
 | none=>none
def apU(O:aR E)(h:Hint E)(G:gY E)(fn:Func)(t:E.Ty)(j:Nat)(S:aI E):Option (List (TV E)):=match fn.body with
 | some c=>aiy O h G c j S (apT t fn)
 | none=>none
def aiF(g:Nat)(e0:TypeId):Gh:=⟨.pointer (some ⟨g,0,none⟩),0,e0,0,some g⟩
def ioB(g:Nat)(e0:TypeId):Nat->Option Gh:=fun id=>if id=0 then some (aiF g e0)else none
def stB(w:World)(g:Nat)(e0:TypeId):Start:=⟨w,some g,some ⟨w,fun _ _=>False,ioB g e0⟩,[],fun _=>none⟩
theorem asf{w:World}{g:Nat}{e0:TypeId}{own:Nat}(h:0<own):KOk own (stB w g e0):=fun q hq id gh hi=>by
 cases hq;simp only[ioB]at hi;split at hi
 ·omega
 ·cases hi
def apV(E:Env P)(t:E.Ty)(g:Nat)(e0:TypeId)(res:List (TV E))(w:World)(ro:Nat->Nat->Prop)(ed:Ending)(w':World):Prop:=∃y rs,res=⟨t,y⟩::rs/\∃(v:Value) (vs':Array Value),ed = .returned v/\w.grownBy w' (some g)/\w'.heap[g]? = some (.cells vs' e0 (0,0)) /\
 oZ E w' (fun k o=>ro k o\/(w.heap.size<=k/\k<w'.heap.size)) vs' (E.cells t y)/\qz E w' (fun k o=>ro k o\/(w.heap.size<=k/\k<w'.heap.size)) v rs
def aiG(E:Env P)(fn:Func)(t:E.Ty)(g:Nat)(e0:TypeId)(res:List (TV E))(w:World)(ro:Nat->Nat->Prop):Exit->Act->World->Prop:=bodyPost P fn (apV E t g e0 res w ro)
theorem aAq{w:World}{ro:Nat->Nat->Prop}{vs:List Value}{rs:List (TV E)}(h:gF E w ro vs rs):qz E w ro (if h:vs.length=1 then vs[0]else .tuple vs.toArray) rs:=by
 have hl:=(gF.at_ vs rs h).1;unfold qz;split
 ·rename_i t x
  match vs,hl,h with
  | [v],_,hm=>exact hm.1
 ·rename_i hne;by_cases h1:vs.length=1
  ·exfalso
   match rs,hl.symm.trans h1,hne with
   | [⟨t,x⟩],_,hne=>exact hne t x rfl
  ·rw[dif_neg h1];exact⟨vs,rfl,h⟩
theorem ae3{w:World}{ro ro':Nat->Nat->Prop}(h0:∀k o,ro k o->ro' k o):∀{vs:List Value} {rs:List (TV E)},gF E w ro vs rs->gF E w ro' vs rs
 | [],[],h=>h
 | _::_,_::_,h=>⟨h.1.mono h0 (fun _ _ _=>rfl),ae3 h0 h.2⟩
 | [],_::_,h=>h.elim
 | _::_,[],h=>h.elim
theorem abk{fn:Func}{t:E.Ty}{g:Nat}{e0:TypeId}{res:List (TV E)}{w:World}{ro:Nat->Nat->Prop}{e:dN}{S':aI E}{a':Act}{w':World}{ι':Nat->Option Gh}{ro':Nat->Nat->Prop}(hnc':aS S'.tmps)(hg':bO E (stB w g e0) ro S' a' w' ι' ro')(hk:apT t fn e S'=some res) :
  aiG E fn t g e0 res w ro e.toExit a' w':=by
 obtain⟨_,hg'⟩:=Eb hnc' hg';generalize Q8 S'.objs ι' ro'=ro' at hg';have fin:avm t fn (zL S')=some res->a'.defers=[]/\∃v,(results fn a'.tmps).run P w' = .ok v w'/\apV E t g e0 res w ro (.returned v) w':=by
  intro hres;unfold avm at hres;split at hres
  ·rename_i cs eD;split at hres
   ·rename_i y hy;split at hres
    ·rename_i xs hxs;cases hres;obtain⟨vs,hvs,hrep⟩:=Zp hg' hxs;obtain⟨gh,g',vs',e',hi,hgv,hblk,hh,hsz,hcell,iF,hge⟩:=hg'.objs 0 _ eD;have hi0:ι' 0=some (aiF g e0):=(hg'.base.keep _ rfl).2 0 (aiF g e0) rfl;rw[hi0]at hi;cases hi;have e1:g'=g:=by
      have h:(some g:Option Nat)=some g':=hblk;exact(Option.some.inj h).symm
     subst e1;have e2:e'=e0:=hge.symm;subst e2;have hro:∀k o,ro' k o->ro k o\/(w.heap.size<=k/\k<w'.heap.size):=fun k o hk=>by
      rcases hg'.base.rU k o hk with h | h | h
      ·exact .inl h
      ·exact .inr ⟨h,hg'.base.aZ k o hk⟩
      ·have h:(some g':Option Nat)=some k:=h;cases h;exact absurd hk (iF o)
     refine⟨hg'.base.defers,if h:vs.length=1 then vs[0]else .tuple vs.toArray,?_,y,xs,rfl,_,vs',rfl,hg'.base.below,hh,?_,aAq (ae3 hro hrep)⟩
     ·show(do let vs <- fn.results.mapM (Zn a'.tmps);pure (if h:vs.size=1 then vs[0]else .tuple vs):Sem Value).run P w'=_;rw[Array.mapM_eq_mapM_toList];simp only[Sem.run_bind,Sem.run_map,hvs];simp[Result.andThen]
     ·unfold ag3 at hy;split at hy
      ·rename_i ds hds;obtain⟨hl,hat⟩:=toDs_rep (vs:=vs') hds;refine oZ.mono hro (fun _ _ _=>rfl) (oZ.le (E.wQ t ds y hy) ⟨by rw[hsz,hl],fun j u d hu hd=>?_⟩);have hj:j<cs.length:=by rw[hl];exact(List.getElem?_eq_some_iff.1 hd).1
       exact toD_rep (hcell j u _ hu (aaO hj)).2 (hat j _ d (aaO hj) hd)
      ·cases hy
    ·cases hres
   ·cases hres
  ·cases hres
 cases e with
 | exit id=>cases hk
 | goto l=>cases hk
 | _=>exact fin hk
def EvB(E:Env P)(fn:Func)(t:E.Ty)(res:List (TV E))(i:Nat)(S:aI E):Prop :=
 ∀(w0:World) (g:Nat) (e0:TypeId) aP n c,fn.body=some c->UK E (stB w0 g e0) aP n c (aiG E fn t g e0 res w0 aP) i S
open Classical in
def GrB(E:Env P)(fn:Func)(t:E.Ty)(res:List (TV E))(i:Nat)(S:aI E):Option (List (TV E)):=if EvB E fn t res i S then some res else none
theorem aAr{fn:Func}{t:E.Ty}{res:List (TV E)}{i:Nat}{S:aI E}(h:EvB E fn t res i S):GrB E fn t res i S=some res:=if_pos h
theorem asg{fn:Func}{t:E.Ty}{res r:List (TV E)}{i:Nat}{S:aI E}(h:GrB E fn t res i S=some r):EvB E fn t r i S:=by unfold GrB at h;grind
variable {O:aR E} {h:Hint E}
theorem EvB.step(hO:aJ E O)(dB:P.follows .mixedOrders=true)(ho:0<h.own){fn:Func}{t:E.Ty}{res:List (TV E)}{j:Nat}{S:aI E}(hs:apU O h (GrB E fn t res) fn t j S=some res):EvB E fn t res j S:=by intro w0 g e0 aP n c hc;unfold apU at hs;rw[hc]at hs;exact Rh hO dB (fun i S hi=>⟨asf ho,asg hi w0 g e0 aP n c hc⟩) (fun e S' a' w' ι' ro' h1 h2 _ h4=>abk h1 h2 h4) hs
theorem agd(args:List (TV E))(i:Nat):aS ((0,Et.ptr i 0)::Rb args 1):=fun p hp=>by
 cases hp with
 | head=>rfl
 | tail _ hp=>exact LM args 1 p hp
theorem Yj(hO:aJ E O)(dB:P.follows .mixedOrders=true)(ho:0<h.own){f:FuncId}{fn:Func}(hf:P.funcs[f]? = some fn){t:E.Ty}{x y:E.Den t}{rest res:List (TV E)}(hr:abj O h (GrB E fn t (⟨t,y⟩::res)) fn t x rest=some (⟨t,y⟩::res)):Zh E f t x rest y res:=by
 unfold abj at hr;split at hr
 ·rename_i c hc;intro w ro g e0 vs vals hh hrow iF hargs kR;obtain⟨hlen,hat⟩:=gF.at_ vals rest hargs;have acW:g<w.heap.size:=by
   grind
  refine(calls_of_wp (R:=apV E t g e0 (⟨t,y⟩::res) w ro) hf hc ?_).mono fun e w' he=>by obtain⟨y',rs,h0,h1⟩:=he;cases h0;exact h1
  have hg:bO E (stB w g e0) ro (JM fn t x rest) { tmps:=(.pointer (some ⟨g,0,none⟩)::vals).toArray++Array.replicate (fn.ntmps-(Value.pointer (some ⟨g,0,none⟩)::vals).toArray.size) undef,defers:=[] } w (ioB g e0) ro:={
   base:=⟨⟨rfl,rfl,rfl,ab8 _,fun _ _ _=>rfl⟩,kR,fun k o h=>.inl h,(fun id gh k h hb=>by
    simp only[ioB]at h;split at h
    ·cases h;have hb:(some g:Option Nat)=some k:=hb;cases hb;exact⟨.inr rfl,acW⟩
    ·cases h),rfl,(fun q h=>by cases h;exact⟨fun _ _ h=>h.elim,fun _ _ h=>h⟩),(fun k o h=>by cases h)⟩
   size:=by simp[JM,hlen]
   tmps:=fun q z hl=>by
    simp only[JM,bf]at hl;split at hl
    ·rename_i hb;have:=abe hb;subst this;cases hl;exact⟨.pointer (some ⟨g,0,none⟩),by simp[anE],.ptr (aiF g e0) g 0 0 rfl rfl⟩
    ·obtain⟨h1,y,hy,rfl⟩:=Ri hl;obtain⟨m,rfl⟩:∃m,q=m+1:=⟨q-1,by omega⟩
     rw[Nat.add_sub_cancel]at hy;have hlt:m<vals.length:=by rw[hlen];exact(List.getElem?_eq_some_iff.1 hy).1
     have hv:=aaO hlt;refine⟨vals[m],by simp[anE,hlt],?_⟩;have hr:aO E w ro (ioB g e0) vals[m] (iw y.1 y.2):=sj (hat m _ y hv hy);have hc:=wV (E:=E) (t:=y.1) (x:=y.2);generalize iw y.1 y.2=z at hr hc;cases z<;>first | exact hr | cases hc
   objs:=fun id o hl=>by
    simp only[JM,look_nil,bf]at hl;split at hl
    ·rename_i hb;have:=abe hb;subst this;cases hl;refine⟨aiF g e0,g,vs,e0,rfl,rfl,rfl,hh,by rw[hrow.1,List.length_map],fun j u q hu hq=>?_,iF,rfl⟩;rw[acj]at hq;cases hj:(E.cells t x)[j]? with
     | none=>rw[hj]at hq;cases hq
     | some d =>rw[hj]at hq;cases hq;have:=hrow.2 j u d hu hj;exact⟨this.one,.d _ _ this⟩
    ·cases hl
   inj:=fun id id' o o' g1 g2 k hl hl' _ _ h1 h2 _ _=>by simp only[ioB]at h1 h2;grind
   fresh:=fun id h=>by have h:1<=id:=h;exact if_neg (by omega)
   ids:=fun id o hl=>by
    simp only[JM,look_nil,bf]at hl;split at hl
    ·rename_i hb;have:=abe hb;show id<1;omega
    ·cases hl }
  exact tF (n:=(JM fn t x rest).n) (Q0:=aiG E fn t g e0 (⟨t,y⟩::res) w ro) (c0:=c) hO dB (fun i S hi=>⟨asf ho,asg hi w g e0 ro _ c hc⟩) c 0 (JM fn t x rest) (apT t fn) _ _ w _ ro Placed.whole (fun _=>rfl) (agd rest 0) hg rfl hr
   fun e S' a' w' ι' ro' h1 h2 _ h4=>abk h1 h2 h4
 ·cases hr
abbrev Yk(E:Env P):=(t:E.Ty)×(E.Den t->List (TV E)->Option (Bool×E.Den t×List (TV E)))
def aAs(p:Yk E)(t:E.Ty)(x:E.Den t)(args:List (TV E)):Option (Bool×E.Den t×List (TV E)):=match E.dec t p.1 with
 | .isTrue h=>(match p.2 (h▸x) args with
  | some (ok,y,res)=>some (ok,h▸y,res)
  | none=>none)
 | .isFalse _=>none
def Rl(O:aR E)(l:List (FuncId×Yk E)):aR E:={ O with
 auR:=fun f=>(match look l f with
  | some p=>some p.1
  | none=>none)
 auS:=fun f t x args=>(match look l f with
  | some p=>aAs p t x args
  | none=>none) }
def Ol (P:Program) (f:FuncId) (fn:Func):Prop:=P.funcs[f]? = some fn/\(fn.name == "runtime.NumGoroutine")=false/\fn.body.isNone=false
def Xn(E:Env P)(f:FuncId)(p:Yk E):Prop:=(∃fn,Ol P f fn)/\∀x args y res,p.2 x args=some (true,y,res)->Zh E f p.1 x args y res
def LU(l:List (FuncId×Yk E)):Prop:=∀p∈l,Xn E p.1 p.2
theorem LU.nil:LU (E:=E) []:=fun p h=>by cases h
theorem LU.cons{f:FuncId}{p:Yk E}{l:List (FuncId×Yk E)}(h:Xn E f p)(hl:LU l):LU ((f,p)::l):=fun q hq=>by
 cases hq with
 | head=>exact h
 | tail _ hq=>exact hl q hq
theorem avn{O:aR E}(hO:aJ E O){l:List (FuncId×Yk E)}(hl:LU l):aJ E (Rl O l):=by
 refine⟨hO.1,hO.2.1,hO.2.2.1,hO.2.2.2.1,hO.2.2.2.2.1,hO.2.2.2.2.2.1,hO.2.2.2.2.2.2.1,fun f t x args y res h=>?_,hO.2.2.2.2.2.2.2.2⟩;simp only[Rl]at h;split at h
 ·rename_i p hp;have hb:=hl _ (j5 _ _ _ hp);refine⟨hb.1,?_⟩;unfold aAs at h;split at h
  ·rename_i e _;subst e;split at h
   ·rename_i ok y' res' hq;cases h;exact hb.2 x args _ _ hq
   ·cases h
  ·cases h
 ·cases h
def avA:Arg E->AV E
 | .v x=>iw x.1 x.2
 | .c f p q=>Un f (p.map fun y=>iw y.1 y.2) (q.map fun y=>iw y.1 y.2)
def abl:List (Arg E)->Nat->List (Nat×AV E)
 | [],_=>[]
 | y::r,i=>(i,avA y)::abl r (i+1)
def UQ(fn:Func)(args:List (Arg E)):aI E:=⟨args.length+(fn.ntmps-args.length),abl args 0,[],0⟩
def ahi(O:aR E)(h:Hint E)(G:gY E)(fn:Func)(args:List (Arg E)):Option (List (TV E)):=match fn.body with
 | some c=>nK O h G 0 c (UQ fn args) (LJ fn)
 | none=>none
theorem ae4{w:World}{ro:Nat->Nat->Prop}{ι:Nat->Option Gh}{vs:Array Value}{p:List (TV E)}(h:gF E w ro vs.toList p):vs.size=(p.map fun y=>iw y.1 y.2).length/\∀(j:Nat) v c,vs[j]? = some v->(p.map fun y=>iw y.1 y.2)[j]? = some c->aO E w ro ι v c:=by
 obtain⟨h1,h2⟩:=gF.at_ _ _ h;refine⟨by simpa using h1,fun j v c hv hc=>?_⟩;rw[acj]at hc;cases hj:p[j]? with
 | none=>rw[hj]at hc;cases hc
 | some y=>rw[hj]at hc;cases hc;exact sj (h2 j v y (by simpa using hv) hj)
theorem ayF{w:World}{ro:Nat->Nat->Prop}{ι:Nat->Option Gh}{v:Value}{y:Arg E}(h:ape E w ro v y):aO E w ro ι v (avA y)/\eF (avA y)=false:=by
 cases y with
 | v x=>exact⟨sj h,wV⟩
 | c f p q =>
  obtain⟨vs,us,rfl,hp,hq⟩:=h;obtain⟨p1,p2⟩:=ae4 (ι:=ι) hp;obtain⟨q1,q2⟩:=ae4 (ι:=ι) hq;show aO E w ro ι _ (Un f (p.map fun y=>iw y.1 y.2) (q.map fun y=>iw y.1 y.2))/\eF (Un f (p.map fun y=>iw y.1 y.2) (q.map fun y=>iw y.1 y.2))=false;generalize (p.map fun y=>iw y.1 y.2)=a at p1 p2 ⊢;generalize (q.map fun y=>iw y.1 y.2)=b at q1 q2 ⊢
  match a,b,p1,p2,q1,q2 with
  | [],[],p1,_,q1,_ =>have e1:vs = #[]:=ahS p1;have e2:us = #[]:=ahS q1;subst e1;subst e2;exact⟨.d _ _ (.raw _ rfl),rfl⟩
  | x::a,b,p1,p2,q1,q2=>exact⟨.fn f vs us (x::a) b p1 q1 p2 q2,rfl⟩
  | [],x::b,p1,p2,q1,q2=>exact⟨.fn f vs us [] (x::b) p1 q1 p2 q2,rfl⟩
theorem abm:∀{args:List (Arg E)} {i t:Nat} {x:AV E},look (abl args i) t=some x->i<=t/\∃y,args[t-i]? = some y/\x=avA y
 | [],_,_,_,h=>by cases h
 | y::r,i,t,x,h=>by
  simp only[abl,bf]at h;split at h
  ·rename_i hb;have:=abe hb;grind
  ·rename_i hb;obtain⟨h1,z,h2,h3⟩:=abm h;grind
theorem apW(y:Arg E):eF (avA y)=false:=by
 cases y with
 | v x=>exact wV
 | c f p q =>show eF (Un f _ _)=false;unfold Un;split<;>rfl
theorem UR:∀(args:List (Arg E)) (i:Nat),aS (abl args i)
 | [],_=>fun p h=>by cases h
 | y::r,i=>fun p h=>by
  cases h with
  | head=>exact apW y
  | tail _ h=>exact UR r (i+1) p h
theorem ae5(hO:aJ E O)(dB:P.follows .mixedOrders=true){f:FuncId}{fn:Func}(hf:P.funcs[f]? = some fn){args:List (Arg E)}{res:List (TV E)}(hr:ahi O h (Gr E fn res) fn args=some res):aaV E f args res:=by
 unfold ahi at hr;split at hr
 ·rename_i c hc;intro w ro vals hlen hat kR;refine calls_of_wp hf hc ?_;have hg:bO E ⟨w,none,none,[],fun _=>none⟩ ro (UQ fn args) { tmps:=vals.toArray++Array.replicate (fn.ntmps-vals.toArray.size) undef,defers:=[] } w (fun _=>none) ro:={
   base:=⟨⟨rfl,rfl,rfl,ab8 _,fun _ _ _=>rfl⟩,kR,fun k o h=>.inl h,(fun id gh k h=>by cases h),rfl,(fun q h=>by cases h),(fun k o h=>by cases h)⟩
   size:=by simp[UQ,hlen]
   tmps:=fun t x hl=>by
    obtain⟨_,y,hy,rfl⟩:=abm hl;rw[am6]at hy;have hlt:t<vals.length:=by rw[hlen];exact(List.getElem?_eq_some_iff.1 hy).1
    have hv:=aaO hlt;refine⟨vals[t],by simp[anE,hlt],?_⟩;obtain⟨hr,hc⟩:=ayF (ι:=fun _=>none) (hat t _ y hv hy);generalize avA y=z at hr hc;cases z<;>first | exact hr | cases hc
   objs:=fun id o hl=>by cases hl
   inj:=fun id id' o o' gh bE k hl=>by cases hl
   fresh:=fun _ _=>rfl
   ids:=fun id o hl=>by cases hl }
  exact tF (n:=(UQ fn args).n) (Q0:=ahg E fn res w ro) (c0:=c) hO dB (fun i S hi=>⟨.none rfl,apK hi w ro _ c hc⟩) c 0 (UQ fn args) (LJ fn) _ _ w _ ro Placed.whole (fun _=>rfl) (UR args 0) hg rfl hr
   fun e S' a' w' ι' ro' h1 h2 _ h4=>F9 h1 h2 h4
 ·cases hr
abbrev PD(E:Env P):=List (Aa E)×(List (Arg E)->Option (Bool×List (TV E)))
def aiI(f:FuncId):List (FuncId×PD E)->List (PD E)
 | []=>[]
 | p::r=>(match Nat.beq p.1 f with
  | true=>p.2::aiI f r
  | false=>aiI f r)
def Xo(O:aR E)(l:List (FuncId×PD E)):aR E:={ O with cla:=fun f=>aiI f l }
def AOk(E:Env P)(f:FuncId)(p:PD E):Prop:=(∃fn,Ol P f fn)/\∀xs res,p.2 xs=some (true,res)->aaV E f xs res
def Zq(l:List (FuncId×PD E)):Prop:=∀p∈l,AOk E p.1 p.2
theorem Zq.nil:Zq (E:=E) []:=fun p h=>by cases h
theorem Zq.cons{f:FuncId}{p:PD E}{l:List (FuncId×PD E)}(h:AOk E f p)(hl:Zq l):Zq ((f,p)::l):=fun q hq=>by
 cases hq with
 | head=>exact h
 | tail _ hq=>exact hl q hq
theorem Zr{f:FuncId}{p:PD E}:∀{l:List (FuncId×PD E)},p∈aiI f l->(f,p)∈l
 | [],h=>by cases h
 | q::r,h=>by
  unfold aiI at h;split at h
  ·rename_i hb;have:=abe hb;cases h with
   | head=>rw[<- this];exact abI
   | tail _ h=>exact abD _ (Zr h)
  ·exact abD _ (Zr h)
theorem avo{O:aR E}(hO:aJ E O){l:List (FuncId×PD E)}(hl:Zq l):aJ E (Xo O l) :=
 ⟨hO.1,hO.2.1,hO.2.2.1,hO.2.2.2.1,hO.2.2.2.2.1,hO.2.2.2.2.2.1,hO.2.2.2.2.2.2.1,hO.2.2.2.2.2.2.2.1,fun f p xs res hp h=>by have:=hl _ (Zr hp);exact⟨this.1,this.2 xs res h⟩⟩
end
inductive Tr (ρ σ:Type) where
 | k (r:ρ)
 | g (s:σ)
 | n
def Tr.el{ρ σ τ:Type}(k:ρ->τ)(g:σ->τ)(n:τ):Tr ρ σ->τ
 | .k r=>k r
 | .g s=>g s
 | .n=>n
class Df (α:Type) where
 d:α
instance:Df Int:=⟨0⟩
instance:Df Nat:=⟨0⟩
instance:Df Bool:=⟨false⟩
instance:Df Unit:=⟨()⟩
instance {α:Type}:Df (List α):=⟨[]⟩
instance {α β:Type} [Df α] [Df β]:Df (α×β):=⟨(Df.d,Df.d)⟩
section
variable {α τ:Type} [Df α]
def gv(o:Option α):α:=o.getD Df.d
def cl(o:Option α)(n:τ)(f:α->τ):τ:=bif o.isSome then f (o.getD Df.d)else n
def fU{β:Type}(l:List β)(i:Int):Bool:=decide ((0:Int)<=i)&&decide (i<(l.length:Int))
def ix(l:List α)(i:Int)(n:τ)(f:α->τ):τ:=bif decide ((0:Int)<=i)&&decide (i<(l.length:Int))then f (l.getD i.toNat Df.d)else n
end
def PE{τ:Type}(l:anY)(i:Int)(n:τ)(f:Int->τ):τ:=bif decide ((0:Int)<=i)&&decide (i<(l.length:Int))then f (((l.getD i.toNat 0).toNat:Nat):Int)else n
def nL(i:Int):Nat:=0+i.toNat*1
theorem aiJ(i:Int):nL i=i.toNat:=by unfold nL;omega
def ck{τ:Type}(b:Bool)(n x:τ):τ:=bif b then x else n
def cut{α:Type}(l:List α)(a b:Int):List α:=List.take (b.toNat-a.toNat) (List.drop a.toNat l)
def bN{α:Type}(l:List α)(a b:Int):Bool:=decide ((0:Int)<=a)&&decide (a<=b)&&decide (b<=(l.length:Int))
def aF(a b:Int):Bool:=decide (a<b)
def bZ(a b:Int):Bool:=decide (a<=b)
def aC{α:Type}(l:List α):Int:=(l.length:Int)
def uH(l:anY)(i:Int):Int:=(((List.getD l (Int.toNat i) 0).toNat:Nat):Int)
def Ai{α:Type}(l:List α)(i:Int)(d:α):α:=List.getD l (Int.toNat i) d
def aM(a b:Bool):Bool:=bif a then true else b
def aab(a b:Bool):Bool:=bif a then b else false
theorem aW:(∀a b:Int,aF a b=decide (a<b))/\(∀a b:Int,bZ a b=decide (a<=b))/\(∀(α:Type) (l:List α),aC l=(l.length:Int))/\(∀(l:anY) (i:Int),uH l i=(((List.getD l (Int.toNat i) 0).toNat:Nat):Int))/\(∀(α:Type) (l:List α) (i:Int) (d:α),Ai l i d=List.getD l (Int.toNat i) d) /\
  (∀a b:Bool,aM a b=bif a then true else b)/\∀a b:Bool,aab a b=bif a then b else false:=⟨fun _ _=>rfl,fun _ _=>rfl,fun _ _=>rfl,fun _ _=>rfl,fun _ _ _ _=>rfl,fun _ _=>rfl,fun _ _=>rfl⟩
section
variable {ρ σ τ:Type} {k:ρ->τ} {g:σ->τ} {n:τ}
theorem eK(r:ρ):(Tr.k r:Tr ρ σ).el k g n=k r:=rfl
theorem eG(s:σ):(Tr.g s:Tr ρ σ).el k g n=g s:=rfl
theorem eN:(Tr.n:Tr ρ σ).el k g n=n:=rfl
theorem eB(c:Bool)(a b:Tr ρ σ):(bif c then a else b).el k g n=bif c then a.el k g n else b.el k g n:=by cases c<;>rfl
theorem eC{α:Type}[Df α](o:Option α)(a:Tr ρ σ)(f:α->Tr ρ σ):(cl o a f).el k g n=cl o (a.el k g n) fun x=>(f x).el k g n:=by unfold cl;cases o<;>rfl
theorem eI{α:Type}[Df α](l:List α)(i:Int)(a:Tr ρ σ)(f:α->Tr ρ σ):(ix l i a f).el k g n=ix l i (a.el k g n) fun x=>(f x).el k g n:=by unfold ix;exact eB _ _ _
theorem eS(l:anY)(i:Int)(a:Tr ρ σ)(f:Int->Tr ρ σ):(PE l i a f).el k g n=PE l i (a.el k g n) fun x=>(f x).el k g n:=by unfold PE;exact eB _ _ _
theorem eJ(c:Bool)(a b:Tr ρ σ):(ck c a b).el k g n=ck c (a.el k g n) (b.el k g n):=by unfold ck;exact eB _ _ _
theorem eA:(∀r:ρ,(Tr.k r:Tr ρ σ).el k g n=k r)/\(∀s:σ,(Tr.g s:Tr ρ σ).el k g n=g s)/\((Tr.n:Tr ρ σ).el k g n=n)/\(∀(c:Bool) (a b:Tr ρ σ),(bif c then a else b).el k g n=bif c then a.el k g n else b.el k g n) /\
  (∀(α:Type) [Df α] (o:Option α) (a:Tr ρ σ) (f:α->Tr ρ σ),(cl o a f).el k g n=cl o (a.el k g n) fun x=>(f x).el k g n)/\(∀(α:Type) [Df α] (l:List α) (i:Int) (a:Tr ρ σ) (f:α->Tr ρ σ),(ix l i a f).el k g n=ix l i (a.el k g n) fun x=>(f x).el k g n) /\
  (∀(l:anY) (i:Int) (a:Tr ρ σ) (f:Int->Tr ρ σ),(PE l i a f).el k g n=PE l i (a.el k g n) fun x=>(f x).el k g n)/\∀(c:Bool) (a b:Tr ρ σ),(ck c a b).el k g n=ck c (a.el k g n) (b.el k g n) :=
 ⟨eK,eG,eN,eB,fun _ _=>eC,fun _ _=>eI,eS,eJ⟩
end
section
variable {α τ:Type} [Df α]
theorem aD(x:α)(n:τ)(f:α->τ):cl (some x) n f=f x:=rfl
theorem dO(x:α):gv (some x)=x:=rfl
theorem ak(n x:τ):ck true n x=x:=rfl
end
inductive Te (ρ σ:Type):Type 1 where
 | k (r:ρ)
 | g (s:σ)
 | n
 | b (c:Bool) (x y:Te ρ σ)
 | q (c:Bool) (x:Te ρ σ)
 | c {α:Type} [Df α] (o:Option α) (f:α->Te ρ σ)
 | i {α:Type} [Df α] (l:List α) (i:Int) (f:α->Te ρ σ)
 | s (l:anY) (i:Int) (f:Int->Te ρ σ)
 | l {α:Type} (v:α) (f:α->Te ρ σ)
abbrev Tree(ρ σ:Type):=σ->Te ρ σ
def Te.run{ρ σ:Type}(τ:Type)(k:ρ->τ)(g:σ->τ)(n:τ)(t:Te ρ σ):τ :=
 Te.rec (motive:=fun _=>τ) k g n (fun c _ _ x y=>bif c then x else y) (fun c _ x=>ck c n x) (fun o _ f=>cl o n f) (fun l i _ f=>ix l i n f) (fun l i _ f=>PE l i n f) (fun v _ f=>f v) t
section
variable {ρ σ τ:Type} {k:ρ->τ} {g:σ->τ} {n:τ}
theorem aK:(∀r:ρ,(Te.k r:Te ρ σ).run τ k g n=k r)/\(∀s:σ,(Te.g s:Te ρ σ).run τ k g n=g s)/\((Te.n:Te ρ σ).run τ k g n=n)/\(∀(c:Bool) (x y:Te ρ σ),(Te.b c x y).run τ k g n=bif c then x.run τ k g n else y.run τ k g n) /\
  (∀(c:Bool) (x:Te ρ σ),(Te.q c x).run τ k g n=ck c n (x.run τ k g n))/\(∀(α:Type) [Df α] (o:Option α) (f:α->Te ρ σ),(Te.c o f).run τ k g n=cl o n fun x=>(f x).run τ k g n)/\(∀(α:Type) [Df α] (l:List α) (i:Int) (f:α->Te ρ σ),(Te.i l i f).run τ k g n=ix l i n fun x=>(f x).run τ k g n) /\
  (∀(l:anY) (i:Int) (f:Int->Te ρ σ),(Te.s l i f).run τ k g n=PE l i n fun x=>(f x).run τ k g n)/\∀(α:Type) (v:α) (f:α->Te ρ σ),(Te.l v f).run τ k g n=(f v).run τ k g n :=
 ⟨fun _=>rfl,fun _=>rfl,rfl,fun _ _ _=>rfl,fun _ _=>rfl,fun _ _ _ _=>rfl,fun _ _ _ _ _=>rfl,fun _ _ _=>rfl,fun _ _ _=>rfl⟩
theorem Te.nat(t:Te ρ σ):t.run τ k g n=(t.run (Tr ρ σ) Tr.k Tr.g Tr.n).el k g n:=by
 induction t with
 | b c x y h1 h2=>simp only[aK,eA,h1,h2]
 | q c x h=>simp only[aK,eA,h]
 | c o f h=>simp only[aK,eA,h]
 | i l i f h=>simp only[aK,eA,h]
 | s l i f h=>simp only[aK,eA,h]
 | l v f h=>exact h v
 | _=>rfl
end
def UU{ρ σ:Type}(t:Tree ρ σ):Nat->σ->Option ρ
 | 0,_=>none
 | f+1,s=>(t s).run (Option ρ) some (UU t f) none
def qM:Nat:=1000000000000000000000000000000
def mu{ρ σ:Type}(t:Tree ρ σ)(s:σ):Option ρ:=UU t qM s
def Te.o{ρ:Type}(t:Te ρ Empty):Option ρ:=t.run (Option ρ) some (fun e=>nomatch e) none
section
variable {ρ σ:Type} {t:Tree ρ σ}
theorem aiK:∀(f:Nat) (s:σ) (r:ρ),UU t f s=some r->∀f',f<=f'->UU t f' s=some r
 | 0,_,_,h,_,_=>by cases h
 | f+1,s,r,h,0,hf=>by omega
 | f+1,s,r,h,f'+1,hf=>by
  simp only[UU]at h ⊢;rw[Te.nat]at h ⊢;cases ht:(t s).run _ Tr.k Tr.g Tr.n with
  | k r'=>rw[ht]at h;exact h
  | n=>rw[ht]at h;cases h
  | g s'=>rw[ht]at h;exact aiK f s' r h f' (by omega)
theorem Te.apX{t:Te ρ Empty}{r:ρ}(h:t.o=some r){τ:Type}{k:ρ->τ}{g:Empty->τ}{n:τ}:t.run τ k g n=k r:=by
 rw[Te.o,Te.nat]at h;rw[Te.nat];cases ht:t.run _ Tr.k Tr.g Tr.n with
 | k r'=>rw[ht]at h;cases h;rfl
 | n=>rw[ht]at h;cases h
 | g s'=>cases s'
theorem Te.prop{t:Te ρ σ}{k:ρ->Prop}{g:σ->Prop}(h:t.run Prop k g False):(∃r,t.run (Tr ρ σ) Tr.k Tr.g Tr.n = .k r/\k r)\/∃s',t.run (Tr ρ σ) Tr.k Tr.g Tr.n = .g s'/\g s':=by
 rw[Te.nat]at h;cases ht:t.run (Tr ρ σ) Tr.k Tr.g Tr.n with
 | k r=>rw[ht]at h;exact .inl ⟨r,rfl,h⟩
 | g s'=>rw[ht]at h;exact .inr ⟨s',rfl,h⟩
 | n=>rw[ht]at h;exact h.elim
theorem come{m:Option ρ}{s:σ}(Q:ρ->Prop)(hm:m=mu t s)(I:σ->Prop)(M:σ->Nat)(hs:I s)(hM:M s<1000000000000000000000000000000)(h:∀s,I s->(t s).run Prop Q (fun s'=>I s'/\M s'<M s) False):∃r,m=some r/\Q r:=by
 have go:∀n s,M s<n->I s->∃r,UU t n s=some r/\Q r:=by
  intro n
  induction n with
  | zero=>intro s h0;omega
  | succ n ih =>
   intro s h0 hs;simp only[UU];rw[Te.nat];rcases Te.prop (h s hs)with⟨r,e,h2⟩ | ⟨s',e,h2,h3⟩
   ·rw[e];exact⟨r,rfl,h2⟩
   ·rw[e];exact ih s' (by omega) h2
 obtain⟨r,h1,h2⟩:=go (M s+1) s (Nat.lt_succ_self _) hs;exact⟨r,hm.trans (aiK _ _ _ h1 _ (show M s+1<=qM by unfold qM;omega)),h2⟩
theorem aw8{m:Option ρ}{t:Te ρ Empty}(Q:ρ->Prop)(hm:m=t.o)(h:t.run Prop Q (fun _=>False) False):∃r,m=some r/\Q r:=by
 subst hm;rcases Te.prop h with⟨r,e,h2⟩ | ⟨s',_,h2⟩
 ·rw[Te.o,Te.nat,e];exact⟨r,rfl,h2⟩
 ·exact h2.elim
end
section
variable {α:Type} [Df α]
theorem wB(c:Bool)(a b:Prop):(bif c then a else b)=((c=true->a)/\(c=false->b)):=by cases c<;>simp
theorem wK(c:Bool)(a:Prop):ck c False a=(c=true/\a):=by unfold ck;cases c<;>simp
theorem wI(l:List α)(i:Int)(f:α->Prop):ix l i False f=(0<=i/\i<(l.length:Int)/\f (l.getD i.toNat Df.d)):=by unfold ix;rw[wB];simp;exact⟨fun⟨h1,h2⟩=>⟨h2.1,h2.2,h1 h2.1 h2.2⟩,fun⟨h1,h2,h3⟩=>⟨fun _ _=>h3,h1,h2⟩⟩
theorem wS(l:anY)(i:Int)(f:Int->Prop):PE l i False f=(0<=i/\i<(l.length:Int)/\f ((l.getD i.toNat 0).toNat:Int)):=by unfold PE;rw[wB];simp;exact⟨fun⟨h1,h2⟩=>⟨h2.1,h2.2,h1 h2.1 h2.2⟩,fun⟨h1,h2,h3⟩=>⟨fun _ _=>h3,h1,h2⟩⟩
theorem wC(o:Option α)(f:α->Prop):cl o False f=∃r,o=some r/\f r:=by
 cases o with
 | _=>simp[cl]
end
section
variable {P:Program} {E:Env P}
abbrev sI(n:Int):AV E:=.d (.int .i64 n)
abbrev sS(s:anY):AV E:=.d (.str s)
abbrev sB(b:Bool):AV E:=.d (.bool b)
abbrev sL(t:E.Ty)(l:List (E.Den t)):AV E:=.d (.slice t l)
abbrev sF(f:FuncId):AV E:=.d (.raw (.func (.func f) #[] #[]))
inductive Hd (E:Env P) where
 | e (args:List (TV E))
 | c (args:List (Arg E))
 | h (i:Nat) (S:aI E)
inductive Md (E:Env P) where
 | fn
 | bx (t:E.Ty)
def LV(M:Md E)(O:aR E)(H:Hint E)(G:gY E)(fn:Func)(s:Hd E):Option (List (TV E)):=match M,s with
 | .fn,.e args=>Ij O H G fn args
 | .fn,.c args=>ahi O H G fn args
 | .fn,.h i S=>apH O H G fn i S
 | .bx t,.e args=>(match args with
  | v::args=>(match jQ t v with
   | some x=>abj O H G fn t x args
   | none=>none)
  | []=>none)
 | .bx t,.h i S=>apU O H G fn t i S
 | .bx _,.c _=>none
def gH(M:Md E)(O:aR E)(H:Hint E)(G:gY E)(fn:Func):Hd E->Option (List (TV E))
 | .e args=>LV M O H G fn (.e args)
 | .c args=>LV M O H G fn (.c args)
 | .h i S=>G i S
structure Runs {ρ σ:Type} (M:Md E) (O:aR E) (fn:Func) (H:Hint E) (C:σ->Hd E) (enc:ρ->List (TV E)) (t:Tree ρ σ):Prop where
 run:∀(s:σ) (G:gY E),LV M O H G fn (C s)=(t s).run _ (fun r=>some (enc r)) (fun s=>gH M O H G fn (C s)) none
def GrX(M:Md E)(fn:Func)(res:List (TV E)):gY E:=match M with
 | .fn=>Gr E fn res
 | .bx t=>GrB E fn t res
def EvX(M:Md E)(fn:Func)(res:List (TV E))(i:Nat)(S:aI E):Prop:=match M with
 | .fn=>Ev E fn res i S
 | .bx t=>EvB E fn t res i S
def aEs(M:Md E)(O:aR E)(H:Hint E)(fn:Func)(res:List (TV E)):Hd E->Prop
 | .e args=>LV M O H (GrX M fn res) fn (.e args)=some res
 | .c args=>LV M O H (GrX M fn res) fn (.c args)=some res
 | .h i S=>EvX M fn res i S
theorem aAt{M:Md E}{fn:Func}{res:List (TV E)}{i:Nat}{S:aI E}(h:EvX M fn res i S):GrX M fn res i S=some res:=by
 cases M with
 | fn=>exact dZ h
 | bx t=>exact aAr h
theorem EvX.step{M:Md E}{O:aR E}{H:Hint E}(hO:aJ E O)(dB:P.follows .mixedOrders=true)(ho:M = .fn\/0<H.own){fn:Func}{res:List (TV E)}{i:Nat}{S:aI E}(h:LV M O H (GrX M fn res) fn (.h i S)=some res):EvX M fn res i S:=by
 cases M with
 | fn=>exact Ev.step hO dB h
 | bx t=>exact EvB.step hO dB (ho.resolve_left (fun e=>by cases e)) h
theorem Runs.sound{ρ σ:Type}{M:Md E}{O:aR E}{fn:Func}{H:Hint E}{C:σ->Hd E}{enc:ρ->List (TV E)}{t:Tree ρ σ}(R:Runs M O fn H C enc t)(hO:aJ E O)(dB:P.follows .mixedOrders=true)(ho:M = .fn\/0<H.own) :
  ∀(f:Nat) (s:σ) (r:ρ),UU t f s=some r->aEs M O H fn (enc r) (C s)
 | 0,_,_,h=>by cases h
 | f+1,s,r,h=>by
  have h1:LV M O H (GrX M fn (enc r)) fn (C s)=some (enc r):=by
   rw[R.run,Te.nat];simp only[UU]at h;rw[Te.nat]at h;cases ht:(t s).run _ Tr.k Tr.g Tr.n with
   | k r'=>rw[ht]at h;cases h;rfl
   | n=>rw[ht]at h;cases h
   | g s' =>
    rw[ht]at h;have ih:=R.sound hO dB ho f s' r h;show gH M O H _ fn (C s')=_;cases hc:C s' with
    | h i S=>rw[hc]at ih;exact aAt ih
    | _=>rw[hc]at ih;exact ih
  cases hc:C s with
  | h i S=>rw[hc]at h1;exact EvX.step hO dB ho h1
  | _=>rw[hc]at h1;exact h1
def Args(E:Env P):List E.Ty->Type
 | []=>Unit
 | [t]=>E.Den t
 | t::u::ts=>E.Den t×Args E (u::ts)
def kr:(ts:List E.Ty)->Args E ts->List (TV E)
 | [],_=>[]
 | [t],x=>[⟨t,x⟩]
 | t::u::ts,x=>⟨t,x.1⟩::kr (u::ts) x.2
def ac9:(ts:List E.Ty)->List (TV E)->Option (Args E ts)
 | [],l=>(match l with
  | []=>some ()
  | _=>none)
 | [t],l=>(match l with
  | [v]=>jQ t v
  | _=>none)
 | t::u::ts,l=>(match l with
  | []=>none
  | v::vs=>(match jQ t v with
   | some x=>(match ac9 (u::ts) vs with
    | some y=>some (x,y)
    | none=>none)
   | none=>none))
def dfA:(ts:List E.Ty)->Args E ts
 | []=>()
 | [t]=>E.dflt t
 | t::u::ts=>(E.dflt t,dfA (u::ts))
theorem PG:∀(ts:List E.Ty) (l:List (TV E)) (x:Args E ts),ac9 ts l=some x->l=kr ts x
 | [],l,x=>by
  intro h
  match l,h with
  | [],_=>rfl
  | _::_,h=>cases(show none=some x from h)
 | [t],l,x=>by
  intro h
  match l,h with
  | [],h=>cases(show none=some x from h)
  | [v],h=>rw[iI (show jQ t v=some x from h)];rfl
  | _::_::_,h=>cases(show none=some x from h)
 | t::u::ts,l,x=>by
  intro h;unfold ac9 at h;split at h
  ·cases h
  ·split at h
   ·rename_i y hy;split at h
    ·rename_i z hz;cases h;rw[iI hy,PG _ _ _ hz];rfl
    ·cases h
   ·cases h
theorem apY{t:E.Ty}{x:E.Den t}:jQ t (⟨t,x⟩:TV E)=some x:=by
 unfold jQ Ns;cases h:E.dec t t with
 | isTrue h=>rfl
 | isFalse h'=>exact absurd rfl h'
def PI(ps rs:List E.Ty)(m:Args E ps->Option (Args E rs)):iU E:=fun l=>match ac9 ps l with
 | some x=>some ((m x).isSome,kr rs ((m x).getD (dfA rs)))
 | none=>none
theorem aiL{f:FuncId}{fn:Func}(ex:Ol P f fn){ps rs:List E.Ty}{m:Args E ps->Option (Args E rs)}(h:∀a r,m a=some r->EU E f (kr ps a) (kr rs r)):aV E f (PI ps rs m) :=
 ⟨⟨fn,ex⟩,fun args res hr=>by
  unfold PI at hr;split at hr
  ·rename_i x hx;rw[PG _ _ _ hx];cases hm:m x with
   | none=>rw[hm]at hr;cases hr
   | some r=>rw[hm]at hr;cases hr;exact h x r hm
  ·cases hr⟩
theorem avp{f:FuncId}{ps rs:List E.Ty}(ex:∃fn,Ol P f fn):aV E f (PI ps rs fun _=>none):=by obtain⟨fn,ex⟩:=ex;exact aiL ex fun a r h=>by cases h
theorem Runs.fn{ρ σ:Type}{O:aR E}{fn:Func}{H:Hint E}{C:σ->Hd E}{t:Tree ρ σ}{f:FuncId}{ps rs:List E.Ty}{enc:ρ->List (TV E)}(R:Runs .fn O fn H C enc t)(hO:aJ E O)(dB:P.follows .mixedOrders=true)(ex:Ol P f fn)
  {st:Args E ps->σ} (hs:∀a,C (st a) = .e (kr ps a)) {m:Args E ps->Option (Args E rs)} (hm:∀a r,m a=some r->∃r',mu t (st a)=some r'/\enc r'=kr rs r):aV E f (PI ps rs m) :=
 aiL ex fun a r h=>by obtain⟨r',h1,h2⟩:=hm a r h;have:=R.sound hO dB (.inl rfl) qM _ _ h1;rw[hs a]at this;rw[<- h2];exact K3 hO dB ex.1 this
def Yl(t:E.Ty)(ps rs:List E.Ty)(m:E.Den t->Args E ps->Option (E.Den t×Args E rs)):Yk E:=⟨t,fun x l=>match ac9 ps l with
 | some a=>some ((m x a).isSome,((m x a).getD (E.dflt t,dfA rs)).1,kr rs ((m x a).getD (E.dflt t,dfA rs)).2)
 | none=>none⟩
theorem avq{f:FuncId}{b:E.Ty}{ps rs:List E.Ty}(ex:∃fn,Ol P f fn):Xn E f (Yl b ps rs fun _ _=>none) :=
 ⟨ex,fun(x:E.Den b) l y res h=>by
  simp only[Yl]at h;split at h
  ·cases h
  ·cases h⟩
theorem Runs.bx{ρ σ:Type}{O:aR E}{fn:Func}{H:Hint E}{C:σ->Hd E}{t:Tree ρ σ}{f:FuncId}{b:E.Ty}{ps rs:List E.Ty}{enc:ρ->List (TV E)}(R:Runs (.bx b) O fn H C enc t)(hO:aJ E O)(dB:P.follows .mixedOrders=true)(ho:0<H.own)(ex:Ol P f fn)
  {st:E.Den b->Args E ps->σ} (hs:∀x a,C (st x a) = .e (⟨b,x⟩::kr ps a)) {m:E.Den b->Args E ps->Option (E.Den b×Args E rs)} (hm:∀x a r,m x a=some r->∃r',mu t (st x a)=some r'/\enc r'=⟨b,r.1⟩::kr rs r.2):Xn E f (Yl b ps rs m) :=
 ⟨⟨fn,ex⟩,fun(x:E.Den b) l y res h=>by
  simp only[Yl]at h;split at h
  ·rename_i a ha;rw[PG _ _ _ ha];cases hmm:m x a with
   | none=>rw[hmm]at h;cases h
   | some r =>rw[hmm]at h;cases h;obtain⟨r',h1,h2⟩:=hm x a r hmm;have:=R.sound hO dB (.inr ho) qM _ _ h1;rw[hs x a]at this;rw[h2]at this;have this:(match jQ b (⟨b,x⟩:TV E)with | some x=>abj O H (GrB E fn b (⟨b,r.1⟩::kr rs r.2)) fn b x (kr ps a) | none=>none)=some (⟨b,r.1⟩::kr rs r.2):=this;rw[apY]at this;exact Yj hO dB ho ex.1 this
  ·cases h⟩
def BO:List (Aa E)->List E.Ty
 | []=>[]
 | .v t::r=>t::BO r
 | .c _ ps qs::r=>ps++(qs++BO r)
def Xp:List (Arg E)->List (TV E)
 | []=>[]
 | .v x::r=>x::Xp r
 | .c _ p q::r=>p++(q++Xp r)
def Rm:List (Aa E)->List (TV E)->List (Arg E)
 | [],_=>[]
 | .v _::r,l=>(match l with
  | x::l=>.v x::Rm r l
  | []=>[])
 | .c f ps qs::r,l=>.c f (l.take ps.length) ((l.drop ps.length).take qs.length)::Rm r ((l.drop ps.length).drop qs.length)
def Lg:List (Aa E)->List (Arg E)->Bool
 | [],[]=>true
 | .v _::r,.v _::s=>Lg r s
 | .c f ps qs::r,.c f' p q::s=>Nat.beq f f'&&(Nat.beq ps.length p.length&&(Nat.beq qs.length q.length&&Lg r s))
 | _,_=>false
theorem UW:∀(ss:List (Aa E)) (xs:List (Arg E)),Lg ss xs=true->Rm ss (Xp xs)=xs
 | [],[],_=>rfl
 | .v _::r,.v x::s,h=>by have h:Lg r s=true:=h;simp only[Xp,Rm,UW r s h]
 | .c f ps qs::r,.c f' p q::s,h=>by simp only[Lg,abK]at h;obtain⟨h1,h2,h3,h4⟩:=h;have h1:=abe h1;have h2:=abe h2;have h3:=abe h3;subst h1;simp only[Xp,Rm,h2,h3,List.take_left,List.drop_left,UW r s h4]
 | [],_::_,h=>by cases h
 | .v _::_,[],h=>by cases h
 | .c _ _ _::_,[],h=>by cases h
 | .v _::_,.c _ _ _::_,h=>by cases h
 | .c _ _ _::_,.v _::_,h=>by cases h
def fnP(sh:List (Aa E))(rs:List E.Ty)(m:Args E (BO sh)->Option (Args E rs)):PD E:=(sh,fun xs=>match Lg sh xs with
 | true=>(match ac9 (BO sh) (Xp xs)with
  | some a=>some ((m a).isSome,kr rs ((m a).getD (dfA rs)))
  | none=>none)
 | false=>none)
theorem aok{f:FuncId}{fn:Func}{sh:List (Aa E)}{rs:List E.Ty}{m:Args E (BO sh)->Option (Args E rs)}(ex:Ol P f fn)(h:∀a r,m a=some r->aaV E f (Rm sh (kr (BO sh) a)) (kr rs r)):AOk E f (fnP sh rs m) :=
 ⟨⟨fn,ex⟩,fun xs res hr=>by
  simp only[fnP]at hr;split at hr
  ·rename_i hsh;split at hr
   ·rename_i a ha;have e:=UW sh xs hsh;rw[PG _ _ _ ha]at e;cases hm:m a with
    | none=>rw[hm]at hr;cases hr
    | some r =>rw[hm]at hr;cases hr;exact e▸h a r hm
   ·cases hr
  ·cases hr⟩
theorem Runs.cl{ρ σ:Type}{O:aR E}{fn:Func}{H:Hint E}{C:σ->Hd E}{t:Tree ρ σ}{f:FuncId}{sh:List (Aa E)}{rs:List E.Ty}{enc:ρ->List (TV E)}(R:Runs .fn O fn H C enc t)(hO:aJ E O)(dB:P.follows .mixedOrders=true)(ex:Ol P f fn)
  {st:Args E (BO sh)->σ} (hs:∀a,C (st a) = .c (Rm sh (kr (BO sh) a))) {m:Args E (BO sh)->Option (Args E rs)} (hm:∀a r,m a=some r->∃r',mu t (st a)=some r'/\enc r'=kr rs r):AOk E f (fnP sh rs m) :=
 aok ex fun a r h=>by obtain⟨r',h1,h2⟩:=hm a r h;have:=R.sound hO dB (.inl rfl) qM _ _ h1;rw[hs a]at this;rw[<- h2];exact ae5 hO dB ex.1 this
theorem Gb {f:FuncId} {fn:Func} (e:P.funcs[f]? = some fn) (h:(fn.name == "runtime.NumGoroutine" || fn.body.isNone)=false):Ol P f fn:=⟨e,(Bool.or_eq_false_iff.1 h).1,(Bool.or_eq_false_iff.1 h).2⟩
structure tH (E:Env P) where
 w:List (FuncId×iU E)
 r:List (FuncId×Yh E)
 u:List (FuncId×Yi E)
 v:List (FuncId×E.Ty)
 i:List (FuncId×Func)
 h:List (FuncId×Hint E)
 b:List (FuncId×Yk E)
 a:List (FuncId×PD E)
 mix:P.follows .mixedOrders=true
 hw:Rj w
 hr:Ez r
 hu:LP u
 hv:Ik v
 hi:NJ P i
 hb:LU b
 ha:Zq a
namespace tH
def O(q:tH E):aR E:=Xo (Rl (Rk (iV q.w q.r q.u q.v) q.i q.h) q.b) q.a
theorem ok(q:tH E):aJ E q.O:=avo (avn (aiE (eU q.hw q.hr q.hu q.hv) q.mix q.hi) q.hb) q.ha
def e(m:P.follows .mixedOrders=true):tH E:=⟨[],[],[],[],[],[],[],[],m,.nil,.nil,.nil,.nil,.nil,.nil,.nil⟩
def W(q:tH E)(f:FuncId)(F:iU E)(k:aV E f F):tH E:={ q with w:=(f,F)::q.w,hw:=.cons k q.hw }
def R(q:tH E)(f:FuncId)(F:Yh E)(k:Px E f F):tH E:={ q with r:=(f,F)::q.r,hr:=.cons k q.hr }
def V(q:tH E)(f:FuncId)(t:E.Ty)(k:abd E f t):tH E:={ q with v:=(f,t)::q.v,hv:=.cons k q.hv }
def B(q:tH E)(f:FuncId)(F:Yk E)(k:Xn E f F):tH E:={ q with b:=(f,F)::q.b,hb:=.cons k q.hb }
def A(q:tH E)(f:FuncId)(F:PD E)(k:AOk E f F):tH E:={ q with a:=(f,F)::q.a,ha:=.cons k q.ha }
def I (q:tH E) (f:FuncId) {fn:Func} (k:P.funcs[f]? = some fn) (h:List (FuncId×Hint E):=[]) (n:(fn.name == "runtime.NumGoroutine" || fn.body.isNone)=false:=by kernel_rfl):tH E:={ q with i:=(f,fn)::q.i,h:=h++q.h,hi:=.cons k (Gb k n).2.1 (Gb k n).2.2 q.hi }
def or(p q:tH E):tH E:=⟨p.w++q.w,p.r++q.r,p.u++q.u,p.v++q.v,p.i++q.i,p.h++q.h,p.b++q.b,p.a++q.a,p.mix,fun x h=>(List.mem_append.1 h).elim (p.hw x) (q.hw x),fun x h=>(List.mem_append.1 h).elim (p.hr x) (q.hr x),fun x h=>(List.mem_append.1 h).elim (p.hu x) (q.hu x),fun x h=>(List.mem_append.1 h).elim (p.hv x) (q.hv x),fun x h=>(List.mem_append.1 h).elim (p.hi x) (q.hi x),fun x h=>(List.mem_append.1 h).elim (p.hb x) (q.hb x),fun x h=>(List.mem_append.1 h).elim (p.ha x) (q.ha x)⟩
theorem top(q:tH E){f:FuncId}{F:iU E}(h:q.w=(f,F)::q.w.tail):aV E f F:=q.hw (f,F) (by rw[h];exact abI)
section
variable (q:tH E) (f:FuncId) (ps rs:List E.Ty) {fn:Func} {σ:Type}
def f0 (t:Args E ps->Te (Args E rs) Empty) (e:P.funcs[f]? = some fn) (H:Hint E:={}) (n:(fn.name == "runtime.NumGoroutine" || fn.body.isNone)=false:=by kernel_rfl) (k:∀a G,Ij q.O H G fn (kr ps a)=(t a).run (Option (List (TV E))) (fun r=>some (kr rs r)) (fun e=>nomatch e) none:=by intro a G;kernel_rfl):tH E :=
 q.W f (PI ps rs fun a=>(t a).o) (aiL (Gb e n) fun a _ h=>K3 q.ok q.mix e ((k a _).trans (Te.apX h)))
def fl (t:Tree (Args E rs) σ) (st:Args E ps->σ) (C:σ->Hd E) (H:Hint E) (e:P.funcs[f]? = some fn) (n:(fn.name == "runtime.NumGoroutine" || fn.body.isNone)=false:=by kernel_rfl) (k:∀s G,LV .fn q.O H G fn (C s)=(t s).run (Option (List (TV E))) (fun r=>some (kr rs r)) (fun s=>gH .fn q.O H G fn (C s)) none:=by intro s G;cases s<;>kernel_rfl) (hs:∀a,C (st a) = .e (kr ps a):=by intro _;rfl):tH E :=
 q.W f (PI ps rs fun a=>mu t (st a)) (Runs.fn (enc:=kr rs) ⟨k⟩ q.ok q.mix (Gb e n) hs fun _ r h=>⟨r,h,rfl⟩)
def b0 (b:E.Ty) (t:E.Den b->Args E ps->Te (E.Den b×Args E rs) Empty) (e:P.funcs[f]? = some fn) (H:Hint E:={ own:=1 }) (n:(fn.name == "runtime.NumGoroutine" || fn.body.isNone)=false:=by kernel_rfl) (o:0<H.own:=by decide) (k:∀x a G,abj q.O H G fn b x (kr ps a)=(t x a).run (Option (List (TV E))) (fun r=>some (⟨b,r.1⟩::kr rs r.2)) (fun e=>nomatch e) none:=by intro x a G;kernel_rfl):tH E :=
 q.B f (Yl b ps rs fun x a=>(t x a).o) ⟨⟨fn,Gb e n⟩,fun(x:E.Den b) l y res h=>by
  simp only[Yl]at h;split at h
  ·rename_i a ha;rw[PG _ _ _ ha];cases hm:(t x a).o with
   | none=>rw[hm]at h;cases h
   | some r =>rw[hm]at h;cases h;exact Yj q.ok q.mix o e ((k x a _).trans (Te.apX hm))
  ·cases h⟩
def c0 (sh:List (Aa E)) (t:Args E (BO sh)->Te (Args E rs) Empty) (e:P.funcs[f]? = some fn) (H:Hint E:={}) (n:(fn.name == "runtime.NumGoroutine" || fn.body.isNone)=false:=by kernel_rfl) (k:∀a G,ahi q.O H G fn (Rm sh (kr (BO sh) a))=(t a).run (Option (List (TV E))) (fun r=>some (kr rs r)) (fun e=>nomatch e) none:=by intro a G;kernel_rfl):tH E :=
 q.A f (fnP sh rs fun a=>(t a).o) (aok (Gb e n) fun a _ h=>ae5 q.ok q.mix e ((k a _).trans (Te.apX h)))
def cl (sh:List (Aa E)) (t:Tree (Args E rs) σ) (st:Args E (BO sh)->σ) (C:σ->Hd E) (H:Hint E) (e:P.funcs[f]? = some fn) (n:(fn.name == "runtime.NumGoroutine" || fn.body.isNone)=false:=by kernel_rfl) (k:∀s G,LV .fn q.O H G fn (C s)=(t s).run (Option (List (TV E))) (fun r=>some (kr rs r)) (fun s=>gH .fn q.O H G fn (C s)) none:=by intro s G;cases s<;>kernel_rfl) (hs:∀a,C (st a) = .c (Rm sh (kr (BO sh) a)):=by intro _;rfl):tH E :=
 q.A f (fnP sh rs fun a=>mu t (st a)) (Runs.cl (enc:=kr rs) ⟨k⟩ q.ok q.mix (Gb e n) hs fun _ r h=>⟨r,h,rfl⟩)
def fr (l:Nat->Args E ps->Option (Args E rs)) (t:(Args E ps->Option (Args E rs))->Tree (Args E rs) σ) (st:Args E ps->σ) (C:σ->Hd E) (H:Hint E) (e:P.funcs[f]? = some fn) (n:(fn.name == "runtime.NumGoroutine" || fn.body.isNone)=false:=by kernel_rfl) (k:∀S s G,LV .fn (Xo (Rl (Rk (iV ((f,PI ps rs S)::q.w) q.r q.u q.v) q.i q.h) q.b) q.a) H G fn (C s)=(t S s).run (Option (List (TV E))) (fun r=>some (kr rs r)) (fun s=>gH .fn (Xo (Rl (Rk (iV ((f,PI ps rs S)::q.w) q.r q.u q.v) q.i q.h) q.b) q.a) H G fn (C s)) none:=by intro S s G;cases s<;>kernel_rfl) (hs:∀a,C (st a) = .e (kr ps a):=by intro _;rfl) (h0:∀a,l 0 a=none:=by intro _;rfl) (h1:∀n a,l (n+1) a=mu (t (l n)) (st a):=by intro _ _;rfl):tH E :=
 q.W f (PI ps rs (l qM)) (Nat.rec (motive:=fun n=>aV E f (PI ps rs (l n))) ((funext h0:l 0=fun _=>none)▸avp ⟨fn,Gb e n⟩) (fun m ih=>(funext (h1 m):l (m+1)=fun a=>mu (t (l m)) (st a))▸Runs.fn (enc:=kr rs) ⟨k (l m)⟩ (q.W f _ ih).ok q.mix (Gb e n) hs fun _ r h=>⟨r,h,rfl⟩) qM)
def br (b:E.Ty) (l:Nat->E.Den b->Args E ps->Option (E.Den b×Args E rs)) (t:(E.Den b->Args E ps->Option (E.Den b×Args E rs))->Tree (E.Den b×Args E rs) σ) (st:E.Den b->Args E ps->σ) (C:σ->Hd E) (H:Hint E) (e:P.funcs[f]? = some fn) (n:(fn.name == "runtime.NumGoroutine" || fn.body.isNone)=false:=by kernel_rfl) (o:0<H.own:=by decide) (k:∀S s G,LV (.bx b) (Xo (Rl (Rk (iV q.w q.r q.u q.v) q.i q.h) ((f,Yl b ps rs S)::q.b)) q.a) H G fn (C s)=(t S s).run (Option (List (TV E))) (fun r=>some (⟨b,r.1⟩::kr rs r.2)) (fun s=>gH (.bx b) (Xo (Rl (Rk (iV q.w q.r q.u q.v) q.i q.h) ((f,Yl b ps rs S)::q.b)) q.a) H G fn (C s)) none:=by intro S s G;cases s<;>kernel_rfl) (hs:∀x a,C (st x a) = .e (⟨b,x⟩::kr ps a):=by intro _ _;rfl) (h0:∀x a,l 0 x a=none:=by intro _ _;rfl) (h1:∀n x a,l (n+1) x a=mu (t (l n)) (st x a):=by intro _ _ _;rfl):tH E :=
 q.B f (Yl b ps rs (l qM)) (Nat.rec (motive:=fun n=>Xn E f (Yl b ps rs (l n))) ((funext fun x=>funext (h0 x):l 0=fun _ _=>none)▸avq ⟨fn,Gb e n⟩) (fun m ih=>(funext fun x=>funext (h1 m x):l (m+1)=fun x a=>mu (t (l m)) (st x a))▸Runs.bx (enc:=fun r=>⟨b,r.1⟩::kr rs r.2) ⟨k (l m)⟩ (q.B f _ ih).ok q.mix o (Gb e n) hs fun _ _ r h=>⟨r,h,rfl⟩) qM)
end
end tH
end
end Go.Proofs.YtibpdjmikfmmaaaGreatDoor.bB
namespace Go.Proofs
open Go.Shelf
def Tryz.lays156_ren:Go.Shelf.Ren:=⟨fun | 156=>97 | 165=>108 | 166=>109 | 169=>110 | 240=>144 | 241=>145 | 276=>205 | 277=>206 | n=>n,fun | 31=>25 | 9=>9 | 3=>3 | 4=>4 | 0=>0 | 20=>20 | 72=>123 | 76=>127 | 70=>120 | 37=>121 | 75=>126 | 127=>145 | 164=>194 | 5=>5 | 80=>129 | n=>n,fun | n=>n⟩
theorem Tryz.lays156:Go.Proofs.Lays.n156 Tryz.prog Tryz.lays156_ren:={
 mixed:=by kernel_rfl
 f156:=Tryz.func97.trans (congrArg some (by kernel_rfl))
 f165:=Tryz.func108.trans (congrArg some (by kernel_rfl))
 f166:=Tryz.func109.trans (congrArg some (by kernel_rfl))
 f169:=Tryz.func110.trans (congrArg some (by kernel_rfl))
 f240:=Tryz.func144.trans (congrArg some (by kernel_rfl))
 f241:=Tryz.func145.trans (congrArg some (by kernel_rfl))
 f276:=Tryz.func205.trans (congrArg some (by kernel_rfl))
 f277:=Tryz.func206.trans (congrArg some (by kernel_rfl))
 t0:=Tryz.underlying0
 a0:=Tryz.isAgg0
 z0:=Tryz.sizeOf0
 v0:=Tryz.zeroValue0
 t3:=Tryz.underlying3
 a3:=Tryz.isAgg3
 z3:=Tryz.sizeOf3
 v3:=Tryz.zeroValue3
 t4:=Tryz.underlying4
 a4:=Tryz.isAgg4
 z4:=Tryz.sizeOf4
 v4:=Tryz.zeroValue4
 t9:=Tryz.underlying9
 a9:=Tryz.isAgg9
 z9:=Tryz.sizeOf9
 v9:=Tryz.zeroValue9
 t20:=Tryz.underlying20
 a20:=Tryz.isAgg20
 z20:=Tryz.sizeOf20
 v20:=Tryz.zeroValue20
 t31:=Tryz.underlying25
 a31:=Tryz.isAgg25
 z31:=Tryz.sizeOf25
 v31:=Tryz.zeroValue25
 t37:=Tryz.underlying121
 a37:=Tryz.isAgg121
 z37:=Tryz.sizeOf121
 v37:=Tryz.zeroValue121
 t70:=Tryz.underlying120
 a70:=Tryz.isAgg120
 z70:=Tryz.sizeOf120
 v70:=Tryz.zeroValue120
 t72:=Tryz.underlying123
 a72:=Tryz.isAgg123
 z72:=Tryz.sizeOf123
 v72:=Tryz.zeroValue123
 t75:=Tryz.underlying126
 a75:=Tryz.isAgg126
 z75:=Tryz.sizeOf126
 v75:=Tryz.zeroValue126
 t76:=Tryz.underlying127
 a76:=Tryz.isAgg127
 z76:=Tryz.sizeOf127
 v76:=Tryz.zeroValue127
 t127:=Tryz.underlying145
 a127:=Tryz.isAgg145
 z127:=Tryz.sizeOf145
 v127:=Tryz.zeroValue145
 t164:=Tryz.underlying194
 a164:=Tryz.isAgg194
 z164:=Tryz.sizeOf194
 v164:=Tryz.zeroValue194 }
theorem Tryz.Builder_Extra_156:Builder.Extra Tryz.prog Tryz.lays156_ren:={
 sizeBuilder:=by kernel_rfl
 liesBuilder:=by kernel_rfl
 t5:=Tryz.underlying5
 a5:=Tryz.isAgg5
 z5:=Tryz.sizeOf5
 v5:=Tryz.zeroValue5
 infoByte:=by kernel_rfl
 cellsByte:=by kernel_rfl
 sizeByte:=by kernel_rfl
 neB5:=by decide }
open Go.RowKit in
theorem Tryz.strings_Join_none(a:Option Addr)(c:Nat)(sep:ByteArray)(w:World) :
  Calls Tryz.prog 97 #[.slice a 0 c,.string sep] w fun e w'=>e = .returned (.string ⟨#[]⟩)/\w'=w:=Any.strings_Join_none Tryz.lays156 Tryz.Builder_Extra_156 a c sep w
open Go.RowKit in
theorem Tryz.strings_Join(bk o c:Nat)(xs:List ByteArray)(sep:ByteArray)(w:World)(hcells:∀(j:Nat) x,xs[j]? = some x->w.cell? ⟨bk,o+j,none⟩=some (.string x))(hbk:bk<w.heap.size)(hN:xs.length<=140737488355328)(hcap:xs.length<=c)(hlen:(Lib.join (xs.map (·.data.toList)) sep.data.toList).length<=140737488355328) :
  Calls Tryz.prog 97 #[.slice (some ⟨bk,o,none⟩) xs.length c,.string sep] w fun e w'=>e = .returned (.string ⟨(Lib.join (xs.map (·.data.toList)) sep.data.toList).toArray⟩)/\Below w.heap.size w w':=Any.strings_Join Tryz.lays156 Tryz.Builder_Extra_156 bk o c xs sep w hcells hbk hN hcap hlen
def Tryz.lays137_ren:Go.Shelf.Ren:=⟨fun | 137=>208 | 217=>239 | 266=>256 | n=>n,fun | 9=>9 | 5=>5 | 3=>3 | n=>n,fun | n=>n⟩
theorem Tryz.lays137:Go.Proofs.Lays.n137 Tryz.prog Tryz.lays137_ren:={
 mixed:=by kernel_rfl
 f137:=Tryz.func208.trans (congrArg some (by kernel_rfl))
 f217:=Tryz.func239.trans (congrArg some (by kernel_rfl))
 f266:=Tryz.func256.trans (congrArg some (by kernel_rfl))
 t3:=Tryz.underlying3
 a3:=Tryz.isAgg3
 z3:=Tryz.sizeOf3
 v3:=Tryz.zeroValue3
 t5:=Tryz.underlying5
 a5:=Tryz.isAgg5
 z5:=Tryz.sizeOf5
 v5:=Tryz.zeroValue5
 t9:=Tryz.underlying9
 a9:=Tryz.isAgg9
 z9:=Tryz.sizeOf9
 v9:=Tryz.zeroValue9 }
open Go.RowKit in
theorem Tryz.strings_IndexByte(s:ByteArray)(c:Int)(w:World) :
  Calls Tryz.prog 208 #[.string s,.int .u8 c] w fun e w'=>e = .returned (.int .i64 (Lib.indexByte s.data.toList c.toNat.toUInt8))/\w'=w:=Any.strings_IndexByte Tryz.lays137 s c w
def Tryz.lays219_ren:Go.Shelf.Ren:=⟨fun | 219=>240 | 217=>239 | 225=>257 | 224=>258 | 267=>259 | 266=>256 | 314=>268 | n=>n,fun | 9=>9 | 3=>3 | 4=>4 | 5=>5 | 46=>119 | 146=>231 | 51=>142 | n=>n,fun | 1=>0 | n=>n⟩
theorem Tryz.lays219:Go.Proofs.Lays.n219 Tryz.prog Tryz.lays219_ren:={
 mixed:=by kernel_rfl
 f217:=Tryz.func239.trans (congrArg some (by kernel_rfl))
 f219:=Tryz.func240.trans (congrArg some (by kernel_rfl))
 f224:=Tryz.func258.trans (congrArg some (by kernel_rfl))
 f225:=Tryz.func257.trans (congrArg some (by kernel_rfl))
 f266:=Tryz.func256.trans (congrArg some (by kernel_rfl))
 f267:=Tryz.func259.trans (congrArg some (by kernel_rfl))
 f314:=Tryz.func268.trans (congrArg some (by kernel_rfl))
 t3:=Tryz.underlying3
 a3:=Tryz.isAgg3
 z3:=Tryz.sizeOf3
 v3:=Tryz.zeroValue3
 t4:=Tryz.underlying4
 a4:=Tryz.isAgg4
 z4:=Tryz.sizeOf4
 v4:=Tryz.zeroValue4
 t5:=Tryz.underlying5
 a5:=Tryz.isAgg5
 z5:=Tryz.sizeOf5
 v5:=Tryz.zeroValue5
 t9:=Tryz.underlying9
 a9:=Tryz.isAgg9
 z9:=Tryz.sizeOf9
 v9:=Tryz.zeroValue9
 t46:=Tryz.underlying119
 a46:=Tryz.isAgg119
 z46:=Tryz.sizeOf119
 v46:=Tryz.zeroValue119
 t51:=Tryz.underlying142
 a51:=Tryz.isAgg142
 z51:=Tryz.sizeOf142
 v51:=Tryz.zeroValue142
 t146:=Tryz.underlying231
 a146:=Tryz.isAgg231
 z146:=Tryz.sizeOf231
 v146:=Tryz.zeroValue231
 g1:=by kernel_rfl }
open Go.RowKit Go.Lib in
theorem Tryz.stringslite_Index_one(s:ByteArray)(c:UInt8)(w:World) :
  Calls Tryz.prog 240 #[.string s,.string ⟨#[c]⟩] w fun e w'=>e = .returned (.int .i64 (Lib.indexByte s.data.toList c))/\w'=w:=Any.stringslite_Index_one Tryz.lays219 s c w
def Tryz.lays190_ren:Go.Shelf.Ren:=⟨fun | 190=>88 | 125=>107 | 258=>106 | 128=>142 | 129=>143 | 302=>133 | 303=>134 | 304=>135 | 305=>136 | 306=>137 | 307=>138 | 308=>139 | 309=>140 | 310=>141 | 333=>199 | 329=>200 | 330=>201 | 334=>202 | 335=>203 | 336=>204 | 344=>238 | n=>n,fun | 31=>25 | 9=>9 | 3=>3 | 46=>119 | 0=>0 | 51=>142 | 53=>144 | 4=>4 | 183=>135 | 182=>134 | 131=>139 | 5=>5 | 218=>188 | 222=>192 | 228=>213 | 229=>214 | n=>n,fun | n=>n⟩
theorem Tryz.lays190:Go.Proofs.Lays.n190 Tryz.prog Tryz.lays190_ren:={
 mixed:=by kernel_rfl
 f125:=Tryz.func107.trans (congrArg some (by kernel_rfl))
 f128:=Tryz.func142.trans (congrArg some (by kernel_rfl))
 f129:=Tryz.func143.trans (congrArg some (by kernel_rfl))
 f190:=Tryz.func88.trans (congrArg some (by kernel_rfl))
 f258:=Tryz.func106.trans (congrArg some (by kernel_rfl))
 f302:=Tryz.func133.trans (congrArg some (by kernel_rfl))
 f303:=Tryz.func134.trans (congrArg some (by kernel_rfl))
 f304:=Tryz.func135.trans (congrArg some (by kernel_rfl))
 f305:=Tryz.func136.trans (congrArg some (by kernel_rfl))
 f306:=Tryz.func137.trans (congrArg some (by kernel_rfl))
 f307:=Tryz.func138.trans (congrArg some (by kernel_rfl))
 f308:=Tryz.func139.trans (congrArg some (by kernel_rfl))
 f309:=Tryz.func140.trans (congrArg some (by kernel_rfl))
 f310:=Tryz.func141.trans (congrArg some (by kernel_rfl))
 f329:=Tryz.func200.trans (congrArg some (by kernel_rfl))
 f330:=Tryz.func201.trans (congrArg some (by kernel_rfl))
 f333:=Tryz.func199.trans (congrArg some (by kernel_rfl))
 f334:=Tryz.func202.trans (congrArg some (by kernel_rfl))
 f335:=Tryz.func203.trans (congrArg some (by kernel_rfl))
 f336:=Tryz.func204.trans (congrArg some (by kernel_rfl))
 f344:=Tryz.func238.trans (congrArg some (by kernel_rfl))
 t0:=Tryz.underlying0
 a0:=Tryz.isAgg0
 z0:=Tryz.sizeOf0
 v0:=Tryz.zeroValue0
 t3:=Tryz.underlying3
 a3:=Tryz.isAgg3
 z3:=Tryz.sizeOf3
 v3:=Tryz.zeroValue3
 t4:=Tryz.underlying4
 a4:=Tryz.isAgg4
 z4:=Tryz.sizeOf4
 v4:=Tryz.zeroValue4
 t5:=Tryz.underlying5
 a5:=Tryz.isAgg5
 z5:=Tryz.sizeOf5
 v5:=Tryz.zeroValue5
 t9:=Tryz.underlying9
 a9:=Tryz.isAgg9
 z9:=Tryz.sizeOf9
 v9:=Tryz.zeroValue9
 t31:=Tryz.underlying25
 a31:=Tryz.isAgg25
 z31:=Tryz.sizeOf25
 v31:=Tryz.zeroValue25
 t46:=Tryz.underlying119
 a46:=Tryz.isAgg119
 z46:=Tryz.sizeOf119
 v46:=Tryz.zeroValue119
 t51:=Tryz.underlying142
 a51:=Tryz.isAgg142
 z51:=Tryz.sizeOf142
 v51:=Tryz.zeroValue142
 t53:=Tryz.underlying144
 a53:=Tryz.isAgg144
 z53:=Tryz.sizeOf144
 v53:=Tryz.zeroValue144
 t131:=Tryz.underlying139
 a131:=Tryz.isAgg139
 z131:=Tryz.sizeOf139
 v131:=Tryz.zeroValue139
 t182:=Tryz.underlying134
 a182:=Tryz.isAgg134
 z182:=Tryz.sizeOf134
 v182:=Tryz.zeroValue134
 t183:=Tryz.underlying135
 a183:=Tryz.isAgg135
 z183:=Tryz.sizeOf135
 v183:=Tryz.zeroValue135
 t218:=Tryz.underlying188
 a218:=Tryz.isAgg188
 z218:=Tryz.sizeOf188
 v218:=Tryz.zeroValue188
 t222:=Tryz.underlying192
 a222:=Tryz.isAgg192
 z222:=Tryz.sizeOf192
 v222:=Tryz.zeroValue192
 t228:=Tryz.underlying213
 a228:=Tryz.isAgg213
 z228:=Tryz.sizeOf213
 v228:=Tryz.zeroValue213
 t229:=Tryz.underlying214
 a229:=Tryz.isAgg214
 z229:=Tryz.sizeOf214
 v229:=Tryz.zeroValue214 }
open Go.Sort Go.RowKit in
theorem Tryz.slices_Sort_string(blk off cap:Nat)(ss:List (anY))(w:World)(hH:Holds encStr w blk off ss.toArray)(hblk:blk<w.heap.size)(hsz:ss.length<4611686018427387904) :
  Calls Tryz.prog 88 #[.slice (some ⟨blk,off,none⟩) ss.length cap] w fun e w' =>e = .returned (.tuple #[])/\∃n os,w'=grow (putRow encStr (Sort.ahead w n) blk off (ss.mergeSort fun x y=>decide (x<=y)).toArray) os:=Any.slices_Sort_string Tryz.lays190 blk off cap ss w hH hblk hsz
def Tryz.lays221_ren:Go.Shelf.Ren:=⟨fun | 221=>242 | 268=>262 | 138=>263 | 143=>264 | 195=>270 | 197=>271 | 218=>272 | 219=>240 | 260=>274 | 217=>239 | 225=>257 | 224=>258 | 267=>259 | 266=>256 | 314=>268 | n=>n,fun | 9=>9 | 3=>3 | 31=>25 | 4=>4 | 0=>0 | 105=>234 | 21=>21 | 5=>5 | 46=>119 | 119=>237 | 139=>240 | 138=>239 | 146=>231 | 51=>142 | n=>n,fun | 1=>0 | 3=>1 | 4=>2 | n=>n⟩
theorem Tryz.lays221:Go.Proofs.Lays.n221 Tryz.prog Tryz.lays221_ren:={
 mixed:=by kernel_rfl
 f138:=Tryz.func263.trans (congrArg some (by kernel_rfl))
 f143:=Tryz.func264.trans (congrArg some (by kernel_rfl))
 f195:=Tryz.func270.trans (congrArg some (by kernel_rfl))
 f197:=Tryz.func271.trans (congrArg some (by kernel_rfl))
 f217:=Tryz.func239.trans (congrArg some (by kernel_rfl))
 f218:=Tryz.func272.trans (congrArg some (by kernel_rfl))
 f219:=Tryz.func240.trans (congrArg some (by kernel_rfl))
 f221:=Tryz.func242.trans (congrArg some (by kernel_rfl))
 f224:=Tryz.func258.trans (congrArg some (by kernel_rfl))
 f225:=Tryz.func257.trans (congrArg some (by kernel_rfl))
 f260:=Tryz.func274.trans (congrArg some (by kernel_rfl))
 f266:=Tryz.func256.trans (congrArg some (by kernel_rfl))
 f267:=Tryz.func259.trans (congrArg some (by kernel_rfl))
 f268:=Tryz.func262.trans (congrArg some (by kernel_rfl))
 f314:=Tryz.func268.trans (congrArg some (by kernel_rfl))
 t0:=Tryz.underlying0
 a0:=Tryz.isAgg0
 z0:=Tryz.sizeOf0
 v0:=Tryz.zeroValue0
 t3:=Tryz.underlying3
 a3:=Tryz.isAgg3
 z3:=Tryz.sizeOf3
 v3:=Tryz.zeroValue3
 t4:=Tryz.underlying4
 a4:=Tryz.isAgg4
 z4:=Tryz.sizeOf4
 v4:=Tryz.zeroValue4
 t5:=Tryz.underlying5
 a5:=Tryz.isAgg5
 z5:=Tryz.sizeOf5
 v5:=Tryz.zeroValue5
 t9:=Tryz.underlying9
 a9:=Tryz.isAgg9
 z9:=Tryz.sizeOf9
 v9:=Tryz.zeroValue9
 t21:=Tryz.underlying21
 a21:=Tryz.isAgg21
 z21:=Tryz.sizeOf21
 v21:=Tryz.zeroValue21
 t31:=Tryz.underlying25
 a31:=Tryz.isAgg25
 z31:=Tryz.sizeOf25
 v31:=Tryz.zeroValue25
 t46:=Tryz.underlying119
 a46:=Tryz.isAgg119
 z46:=Tryz.sizeOf119
 v46:=Tryz.zeroValue119
 t51:=Tryz.underlying142
 a51:=Tryz.isAgg142
 z51:=Tryz.sizeOf142
 v51:=Tryz.zeroValue142
 t105:=Tryz.underlying234
 a105:=Tryz.isAgg234
 z105:=Tryz.sizeOf234
 v105:=Tryz.zeroValue234
 t119:=Tryz.underlying237
 a119:=Tryz.isAgg237
 z119:=Tryz.sizeOf237
 t138:=Tryz.underlying239
 a138:=Tryz.isAgg239
 z138:=Tryz.sizeOf239
 v138:=Tryz.zeroValue239
 t139:=Tryz.underlying240
 a139:=Tryz.isAgg240
 z139:=Tryz.sizeOf240
 v139:=Tryz.zeroValue240
 t146:=Tryz.underlying231
 a146:=Tryz.isAgg231
 z146:=Tryz.sizeOf231
 v146:=Tryz.zeroValue231
 g1:=by kernel_rfl
 g3:=by kernel_rfl
 g4:=by kernel_rfl }
def Tryz.lays154_ren:Go.Shelf.Ren:=⟨fun | 154=>266 | 138=>263 | 165=>108 | 143=>264 | 166=>109 | 197=>271 | 169=>110 | 195=>270 | 218=>272 | 240=>144 | 241=>145 | 219=>240 | 260=>274 | 276=>205 | 277=>206 | 217=>239 | 225=>257 | 224=>258 | 267=>259 | 266=>256 | 314=>268 | n=>n,fun | 9=>9 | 3=>3 | 4=>4 | 72=>123 | 0=>0 | 76=>127 | 105=>234 | 21=>21 | 5=>5 | 70=>120 | 20=>20 | 37=>121 | 75=>126 | 127=>145 | 164=>194 | 46=>119 | 119=>237 | 139=>240 | 138=>239 | 146=>231 | 51=>142 | 80=>129 | n=>n,fun | 1=>0 | 3=>1 | 4=>2 | n=>n⟩
theorem Tryz.lays154:Go.Proofs.Lays.n154 Tryz.prog Tryz.lays154_ren:={
 mixed:=by kernel_rfl
 f138:=Tryz.func263.trans (congrArg some (by kernel_rfl))
 f143:=Tryz.func264.trans (congrArg some (by kernel_rfl))
 f154:=Tryz.func266.trans (congrArg some (by kernel_rfl))
 f165:=Tryz.func108.trans (congrArg some (by kernel_rfl))
 f166:=Tryz.func109.trans (congrArg some (by kernel_rfl))
 f169:=Tryz.func110.trans (congrArg some (by kernel_rfl))
 f195:=Tryz.func270.trans (congrArg some (by kernel_rfl))
 f197:=Tryz.func271.trans (congrArg some (by kernel_rfl))
 f217:=Tryz.func239.trans (congrArg some (by kernel_rfl))
 f218:=Tryz.func272.trans (congrArg some (by kernel_rfl))
 f219:=Tryz.func240.trans (congrArg some (by kernel_rfl))
 f224:=Tryz.func258.trans (congrArg some (by kernel_rfl))
 f225:=Tryz.func257.trans (congrArg some (by kernel_rfl))
 f240:=Tryz.func144.trans (congrArg some (by kernel_rfl))
 f241:=Tryz.func145.trans (congrArg some (by kernel_rfl))
 f260:=Tryz.func274.trans (congrArg some (by kernel_rfl))
 f266:=Tryz.func256.trans (congrArg some (by kernel_rfl))
 f267:=Tryz.func259.trans (congrArg some (by kernel_rfl))
 f276:=Tryz.func205.trans (congrArg some (by kernel_rfl))
 f277:=Tryz.func206.trans (congrArg some (by kernel_rfl))
 f314:=Tryz.func268.trans (congrArg some (by kernel_rfl))
 t0:=Tryz.underlying0
 a0:=Tryz.isAgg0
 z0:=Tryz.sizeOf0
 v0:=Tryz.zeroValue0
 t3:=Tryz.underlying3
 a3:=Tryz.isAgg3
 z3:=Tryz.sizeOf3
 v3:=Tryz.zeroValue3
 t4:=Tryz.underlying4
 a4:=Tryz.isAgg4
 z4:=Tryz.sizeOf4
 v4:=Tryz.zeroValue4
 t5:=Tryz.underlying5
 a5:=Tryz.isAgg5
 z5:=Tryz.sizeOf5
 v5:=Tryz.zeroValue5
 t9:=Tryz.underlying9
 a9:=Tryz.isAgg9
 z9:=Tryz.sizeOf9
 v9:=Tryz.zeroValue9
 t20:=Tryz.underlying20
 a20:=Tryz.isAgg20
 z20:=Tryz.sizeOf20
 v20:=Tryz.zeroValue20
 t21:=Tryz.underlying21
 a21:=Tryz.isAgg21
 z21:=Tryz.sizeOf21
 v21:=Tryz.zeroValue21
 t37:=Tryz.underlying121
 a37:=Tryz.isAgg121
 z37:=Tryz.sizeOf121
 v37:=Tryz.zeroValue121
 t46:=Tryz.underlying119
 a46:=Tryz.isAgg119
 z46:=Tryz.sizeOf119
 v46:=Tryz.zeroValue119
 t51:=Tryz.underlying142
 a51:=Tryz.isAgg142
 z51:=Tryz.sizeOf142
 v51:=Tryz.zeroValue142
 t70:=Tryz.underlying120
 a70:=Tryz.isAgg120
 z70:=Tryz.sizeOf120
 v70:=Tryz.zeroValue120
 t72:=Tryz.underlying123
 a72:=Tryz.isAgg123
 z72:=Tryz.sizeOf123
 v72:=Tryz.zeroValue123
 t75:=Tryz.underlying126
 a75:=Tryz.isAgg126
 z75:=Tryz.sizeOf126
 v75:=Tryz.zeroValue126
 t76:=Tryz.underlying127
 a76:=Tryz.isAgg127
 z76:=Tryz.sizeOf127
 v76:=Tryz.zeroValue127
 t105:=Tryz.underlying234
 a105:=Tryz.isAgg234
 z105:=Tryz.sizeOf234
 v105:=Tryz.zeroValue234
 t119:=Tryz.underlying237
 a119:=Tryz.isAgg237
 z119:=Tryz.sizeOf237
 t127:=Tryz.underlying145
 a127:=Tryz.isAgg145
 z127:=Tryz.sizeOf145
 v127:=Tryz.zeroValue145
 t138:=Tryz.underlying239
 a138:=Tryz.isAgg239
 z138:=Tryz.sizeOf239
 v138:=Tryz.zeroValue239
 t139:=Tryz.underlying240
 a139:=Tryz.isAgg240
 z139:=Tryz.sizeOf240
 v139:=Tryz.zeroValue240
 t146:=Tryz.underlying231
 a146:=Tryz.isAgg231
 z146:=Tryz.sizeOf231
 v146:=Tryz.zeroValue231
 t164:=Tryz.underlying194
 a164:=Tryz.isAgg194
 z164:=Tryz.sizeOf194
 v164:=Tryz.zeroValue194
 g1:=by kernel_rfl
 g3:=by kernel_rfl
 g4:=by kernel_rfl }
theorem Tryz.Builder_Extra_154:Builder.Extra Tryz.prog Tryz.lays154_ren:={
 sizeBuilder:=by kernel_rfl
 liesBuilder:=by kernel_rfl
 t5:=Tryz.underlying5
 a5:=Tryz.isAgg5
 z5:=Tryz.sizeOf5
 v5:=Tryz.zeroValue5
 infoByte:=by kernel_rfl
 cellsByte:=by kernel_rfl
 sizeByte:=by kernel_rfl
 neB5:=by decide }
def Tryz.lays194_ren:Go.Shelf.Ren:=⟨fun | 194=>89 | n=>n,fun | 31=>25 | 9=>9 | 3=>3 | 4=>4 | 0=>0 | n=>n,fun | n=>n⟩
theorem Tryz.lays194:Go.Proofs.Lays.n194 Tryz.prog Tryz.lays194_ren:={
 mixed:=by kernel_rfl
 f194:=Tryz.func89.trans (congrArg some (by kernel_rfl))
 t0:=Tryz.underlying0
 a0:=Tryz.isAgg0
 z0:=Tryz.sizeOf0
 v0:=Tryz.zeroValue0
 t3:=Tryz.underlying3
 a3:=Tryz.isAgg3
 z3:=Tryz.sizeOf3
 v3:=Tryz.zeroValue3
 t4:=Tryz.underlying4
 a4:=Tryz.isAgg4
 z4:=Tryz.sizeOf4
 v4:=Tryz.zeroValue4
 t9:=Tryz.underlying9
 a9:=Tryz.isAgg9
 z9:=Tryz.sizeOf9
 v9:=Tryz.zeroValue9
 t31:=Tryz.underlying25
 a31:=Tryz.isAgg25
 z31:=Tryz.sizeOf25
 v31:=Tryz.zeroValue25 }
open Go.RowKit Go.Lib Go.Sort in
theorem Tryz.slices_Compact_string(blk off cap:Nat)(zs:List (anY))(w:World)(hH:Holds encStr w blk off zs.toArray)(hsz:zs.length<=9223372036854775807)(hcap:zs.length<=cap) :
  Calls Tryz.prog 89 #[.slice (some ⟨blk,off,none⟩) zs.length cap] w fun e w'=>e = .returned (.slice (some ⟨blk,off,none⟩) (Lib.compact zs).length cap)/\∃q,w'=putRow encStr (Sort.ahead w q) blk off (Lib.compact zs++List.replicate (zs.length-(Lib.compact zs).length) []).toArray:=Any.slices_Compact_string Tryz.lays194 blk off cap zs w hH hsz hcap
open Go.RowKit Go.Lib Go.Sort in
theorem Tryz.slices_Compact_string_empty(a:Option Addr)(cap:Nat)(w:World) :
  Calls Tryz.prog 89 #[.slice a 0 cap] w fun e w'=>e = .returned (.slice a 0 cap)/\w'=w:=Any.slices_Compact_string_empty Tryz.lays194 a cap w
open Go.RowKit Go.Sort in
theorem Tryz.slices_Sort_string_none(p:Option Addr)(cap:Nat)(w:World) :
  Calls Tryz.prog 88 #[.slice p 0 cap] w fun e w'=>e = .returned (.tuple #[])/\w'=w:=Any.slices_Sort_string_none Tryz.lays190 p cap w
end Go.Proofs
namespace Go.Proofs.YtibpdjmikfmmaaaGreatDoor.Pl
open Go
abbrev Str:=anY
theorem LW(a:Str):¬ a<a:=List.lt_irrefl a
theorem anj{a b c:Str}(h:a<b)(h':b<c):a<c:=List.lt_trans h h'
theorem ank{a b:Str}(h:a<b):¬ b<a:=fun h'=>LW a (anj h h')
theorem Zt{a b:Str}:a<=b↔¬ b<a:=Iff.rfl
theorem aCg(a b:Str):a<b\/a=b\/b<a:=by
 by_cases h:a<b
 ·exact .inl h
 ·by_cases h':b<a
  ·exact .inr (.inr h')
  ·exact .inr (.inl (List.le_antisymm h' h))
theorem abn{a b c:Str}(h:a<=b)(h':b<=c):a<=c:=List.le_trans h h'
theorem Td{a b:Str}(h:a<=b)(hn:a≠b):a<b:=by
 rcases aCg a b with h1 | h1 | h1
 ·exact h1
 ·exact absurd h1 hn
 ·exact absurd h1 h
def SS(l:List Str):Prop:=l.Pairwise (· < ·)
theorem ae6:∀{l m:List Str},SS l->SS m->(∀x,x∈l↔x∈m)->l=m
 | [],[],_,_,_=>rfl
 | [],b::m,_,_,h=>by have:=(h b).2 abI;cases this
 | a::l,[],_,_,h=>by have:=(h a).1 abI;cases this
 | a::l,b::m,hl,hm,h=>by
  have hl':=List.pairwise_cons.1 hl;have hm':=List.pairwise_cons.1 hm;have e:a=b:=by
   have h1:=(h a).1 abI;have h2:=(h b).2 abI;rcases am8.1 h1 with h1 | h1
   ·exact h1
   ·rcases am8.1 h2 with h2 | h2
    ·exact h2.symm
    ·exact absurd (hm'.1 a h1) (ank (hl'.1 b h2))
  subst e;rw[ae6 hl'.2 hm'.2 fun x=>⟨fun hx=>?_,fun hx=>?_⟩]
  ·rcases am8.1 ((h x).1 (abD _ hx))with e | e
   ·subst e;exact absurd (hl'.1 x hx) (LW x)
   ·exact e
  ·rcases am8.1 ((h x).2 (abD _ hx))with e | e
   ·subst e;exact absurd (hm'.1 x hx) (LW x)
   ·exact e
def rP(p:Str):List Str->List Str
 | []=>[]
 | a::t=>if a=p then rP a t else a::rP a t
theorem Ym:∀(l:List Str) (p x:Str),rP p (l++[x])=rP p l++(if x=(p::l).getLastD p then[]else[x])
 | [],p,x=>by simp[rP]
 | a::t,p,x=>by
  have ih:=Ym t a x;have e:(p::a::t).getLastD p=(a::t).getLastD a:=by cases t<;>simp[List.getLastD]
  simp only[aft,rP,ih,e];split<;>simp
theorem UY(a:Str)(t:List Str):Lib.compact (a::t)=a::rP a t:=by
 have key:∀m,m<=t.length->Lib.compactUpTo (a::t).toArray (m+1)=a::rP a (t.take m):=by
  intro m
  induction m with
  | zero =>intro _;rw[Lib.compactUpTo_succ,Lib.keeps_lt_one _ 0 (by decide)];simp[Lib.compactUpTo,rP]
  | succ m ih =>
   intro hm;have hlt:m<t.length:=by omega
   have e1:(a::t).toArray[m+1]! = t[m]:=by simp[hlt]
   have e2:(a::t).toArray[m+1-1]! = (a::t.take m).getLastD a:=by
    cases m with
    | zero=>simp
    | succ k =>
     have hk:k<t.length:=by omega
     have:(a::t.take (k+1)).getLastD a=t[k]:=by rw[show a::t.take (k+1)=(a::t.take k)++[t[k]]from by rw[aft,List.take_append_getElem hk],List.getLastD_eq_getLast?,List.getLast?_concat];rfl
     rw[this];simp[hk]
   rw[Lib.compactUpTo_succ,ih (by omega),<- List.take_append_getElem hlt,Ym,<- e2,e1];by_cases hx:t[m]=(a::t).toArray[m+1-1]!
   ·rw[Lib.keeps_neg (by omega) (by rw[e1];exact hx),if_pos hx];simp
   ·rw[Lib.keeps_pos (by rw[e1];exact hx),if_neg hx];simp
 have h:=key t.length (ab8 _);rw[List.take_length]at h;exact h
theorem Yn:∀(l:List Str) (p:Str),(p::l).Pairwise (· <= ·)->SS (p::rP p l)/\∀x,x∈p::rP p l↔x∈p::l
 | [],p,_=>⟨by simp[SS,rP],fun x=>by simp[rP]⟩
 | a::t,p,h=>by
  have h1:=List.pairwise_cons.1 h;obtain⟨i1,i2⟩:=Yn t a h1.2;unfold rP;split
  ·rename_i e;subst e;refine⟨i1,fun x=>?_⟩;rw[i2 x];simp
  ·rename_i hne;have hpa:p<a:=Td (h1.1 a abI) (fun e=>hne e.symm);refine⟨List.pairwise_cons.2 ⟨fun x hx=>?_,i1⟩,fun x=>?_⟩
   ·rcases am8.1 hx with e | e
    ·subst e;exact hpa
    ·exact anj hpa ((List.pairwise_cons.1 i1).1 x e)
   ·rw[am8,i2 x,am8 (b:=p)]
theorem abo:∀(l:List Str) (p:Str),(rP p l).length<=l.length
 | [],_=>ab8 _
 | a::t,p=>by
  have:=abo t a;unfold rP;split
  ·simp only[List.length_cons];omega
  ·simp only[List.length_cons];omega
def wH(l:List Str):List Str:=l.mergeSort fun x y=>decide (x<=y)
def bn(l:List Str):List Str:=Lib.compact (wH l)
theorem avr(l:List Str):(wH l).Pairwise (· <= ·):=by
 have h:=List.pairwise_mergeSort (le:=fun x y:Str=>decide (x<=y)) (fun a b c h h'=>by
  simp only[ab6]at *;exact abn h h') (fun a b=>by
  simp only[akX,ab6];exact List.le_total a b) l
 exact h.imp (fun h=>by simpa using h)
theorem aso{l:List Str}{x:Str}:x∈wH l↔x∈l:=List.mem_mergeSort
theorem UZ(l:List Str):(wH l).length=l.length:=List.length_mergeSort l
theorem BP(l:List Str):SS (bn l)/\∀x,x∈bn l↔x∈l:=by
 have hp:=avr l;have hm:∀x,x∈wH l↔x∈l:=fun x=>aso
 unfold bn;generalize wH l=m at hp hm;cases m with
 | nil=>exact⟨List.Pairwise.nil,hm⟩
 | cons a t =>rw[UY];obtain⟨h1,h2⟩:=Yn t a hp;exact⟨h1,fun x=>(h2 x).trans (hm x)⟩
theorem jY{l:List Str}{x:Str}:x∈bn l↔x∈l:=(BP l).2 x
theorem tJ{l m:List Str}(hs:SS m)(h:∀x,x∈m↔x∈l):bn l=m:=ae6 (BP l).1 hs fun x=>(jY).trans (h x).symm
theorem Yo(l:List Str):(Lib.compact l).length<=l.length:=by
 cases l with
 | nil=>exact ab8 _
 | cons a t =>rw[UY];have:=abo t a;simp only[List.length_cons];omega
theorem sw(l:List Str):(bn l).length<=l.length:=by have:=Yo (wH l);rw[UZ]at this;exact this
end Go.Proofs.YtibpdjmikfmmaaaGreatDoor.Pl
namespace Go.Proofs.YtibpdjmikfmmaaaGreatDoor.Pl
end Go.Proofs.YtibpdjmikfmmaaaGreatDoor.Pl
