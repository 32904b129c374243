/- Part 3 of a proof: the texts MirO MirP MirQ MirR MirU MirW MirX MirBx MirTr Shelf Plain PlainK, one behind the other. -/
import Derived.Test.YtclnniijooeajaaGreatDoorTw1
import Derived.Test.YtclnniijooeajaaGreatDoorTw2
import Derived.Scope
import Derived.Lib.SliceRun
import Derived.KernelRfl
import Derived.Shelf.Strings.Builder1
import Derived.Shelf.Strings.Builder2
import Derived.Shelf.Strings.OnBuilder
import Derived.Shelf.Small.Bits
import Derived.Shelf.Small.Strs
import Derived.Shelf.Small.Wraps
import Derived.Shelf.Strings.BuilderF
import Derived.Shelf.Strings.BuilderK
import Derived.Shelf.Utf8.RuneCount
import Derived.Shelf.Strings.Builder2Cap
import Derived.Shelf.Strconv.Itoa0
import Derived.Shelf.Strings.Search1
import Derived.Shelf.Strings.Search2
import Derived.Shelf.Strings.Search3
import Derived.Shelf.Strings.Cut
import Derived.Shelf.Strings.Count
import Derived.Shelf.LaysM
import Derived.Shelf.Strings.Shaped
import Derived.Shelf.Sort.Plain
import Derived.Shelf.Strings.Prefix
import Derived.Shelf.Strings.Split
import Derived.Shelf.Strings.Replace
import Derived.Shelf.Strings.SplitShaped
import Derived.Shelf.Unicode.Decode
import Derived.Shelf.Strings.RuneCount
import Derived.Shelf.Strings.Explode
import Derived.Shelf.Unicode.DecodeSlow
import Derived.Shelf.Unicode.DecodeAny
import Derived.Shelf.Slices.Turned
import Derived.Ground.Names2Prog
import Derived.Shelf.Slices.Clone
import Derived.Shelf.Slices.CompactS
import Derived.Shelf.Slices.Cells
import Derived.Shelf.Slices.In.SortNone
import Derived.Ground.SlgnProg
import Derived.Shelf.SlicesE.Clone
import Derived.Test.YtclnniijooeajaaGreatDoorProg
import Derived.Lib.SlicesCompact
noncomputable section
namespace Go.Proofs.YtclnniijooeajaaGreatDoor.bA
open Go Go.RowKit
section
section
variable {P:Program} {E:Env P}
def YK(objs:List (Nat×aS E)):AV E->AV E
 | .row t n id=>match look objs id with
  | some (.row t' l)=>.grow t' l id
  | _=>.row t n id
 | v=>v
def acn(objs:List (Nat×aS E)):AV E->AV E
 | .agg cs=>.agg (cs.map (YK objs))
 | .uz cs=>.uz (cs.map (YK objs))
 | v=>YK objs v
def aAw(objs:List (Nat×aS E)):aS E->aS E
 | .row _ _=>.tail true
 | .box cs=>.box (cs.map (YK objs))
 | o=>o
def ahH(objs:List (Nat×aS E)):List (Nat×AV E)->List (Nat×AV E)
 | []=>[]
 | (t,v)::r=>(t,acn objs v)::ahH objs r
def agt(objs:List (Nat×aS E)):List (Nat×aS E)->List (Nat×aS E)
 | []=>[]
 | (i,o)::r=>(i,aAw objs o)::agt objs r
def zf(S:av E):av E:=⟨S.n,ahH S.objs S.tmps,agt S.objs S.objs,S.next⟩
structure Hint (E:Env P) where
 live:List (Nat×List Nat):=[]
 frz:List Nat:=[]
 oO:List (Nat×List (Nat×Option Nat×Bool×E.Ty)):=[]
 split:List (Nat×List (Nat×Nat)):=[]
 opn:List (Nat×List Nat):=[]
 rounds:Nat:=5
 lst:List Nat:=[]
 arr:List (Nat×List (Nat×Option E.Ty)):=[]
 own:Nat:=0
def Ud(id:Nat)(ds:List (bP E.Den)):AV E->AV E
 | .ptr id' off=>match Nat.beq id' id with
  | true=>.kC (ds.drop off)
  | false=>.ptr id' off
 | v=>v
def aco(id:Nat)(ds:List (bP E.Den)):AV E->AV E
 | .agg cs=>.agg (cs.map (Ud id ds))
 | .uz cs=>.uz (cs.map (Ud id ds))
 | v=>Ud id ds v
def auR(id:Nat)(ds:List (bP E.Den))(i:Nat):aS E->aS E
 | .box cs=>match Nat.beq i id with
  | true=>.dead
  | false=>.box (cs.map (Ud id ds))
 | o=>o
def ahI(id:Nat)(ds:List (bP E.Den)):List (Nat×AV E)->List (Nat×AV E)
 | []=>[]
 | (t,v)::r=>(t,aco id ds v)::ahI id ds r
def agu(id:Nat)(ds:List (bP E.Den)):List (Nat×aS E)->List (Nat×aS E)
 | []=>[]
 | (i,o)::r=>(i,auR id ds i o)::agu id ds r
def WG(t:Nat)(S:av E):av E:=match look S.tmps t with
 | some (.ptr id _)=>match look S.objs id with
  | some (.box cs)=>match toDs cs with
   | some ds=>⟨S.n,ahI id ds S.tmps,agu id ds S.objs,S.next⟩
   | none=>S
  | _=>S
 | _=>S
def M9:List Nat->av E->av E
 | [],S=>S
 | t::r,S=>M9 r (WG t S)
def WH(p:Nat×Option E.Ty)(S:av E):av E:=match look S.tmps p.1 with
 | some (.ptr id _)=>(match look S.objs id,p.2 with
  | some (.box cs),some t=>(match E.agg t,toDs cs with
   | false,some ds=>(match Z5 t ds with
    | some l=>⟨S.n,S.tmps,(id,.arr t l false)::S.objs,S.next⟩
    | none=>S)
   | _,_=>S)
  | some (.arr t l false),none=>⟨S.n,S.tmps,(id,.arr t l true)::S.objs,S.next⟩
  | _,_=>S)
 | _=>S
def ahJ:List (Nat×Option E.Ty)->av E->av E
 | [],S=>S
 | p::r,S=>ahJ r (WH p S)
def splitN{R:Type}(k:av E->Option R)(S:av E)(t:Nat)(kd:IntKind)(i:Int):Nat->Nat->Option R
 | 0,_=>none
 | m+1,j=>bif i==(j:Int)then k ⟨S.n,(t,.d (.int kd (j:Int)))::S.tmps,S.objs,S.next⟩else splitN k S t kd i m (j+1)
def splitK{R:Type}:List (Nat×Nat)->av E->(av E->Option R)->Option R
 | [],S,k=>k S
 | (t,n)::r,S,k=>match look S.tmps t with
  | some (.d (.int kd i))=>splitN (fun S'=>splitK r S' k) S t kd i n 0
  | _=>none
def acp(g:Bool)(t:E.Ty)(dY:Nat):AV E:=match g with
 | true=>.grow t [] dY
 | false=>.d (.slice t [])
def NJ(g:Bool)(S:av E):List (Nat×aS E):=match g with
 | true=>(S.next,.tail true)::S.objs
 | false=>S.objs
def acr(s:Nat)(off:Option Nat)(g:Bool)(t:E.Ty)(S:av E):av E:=match look S.tmps s with
 | some v=>match off with
  | none=>bif isNil v then⟨S.n,(s,acp g t S.next)::S.tmps,NJ g S,S.next+1⟩else S
  | some o=>match v with
   | .ptr id _=>match look S.objs id with
    | some (.box cs)=>match cs[o]? with
     | some u=>bif isNil u then⟨S.n,S.tmps,(id,.box (cs.set o (acp g t S.next)))::NJ g S,S.next+1⟩else S
     | none=>S
    | _=>S
   | _=>S
 | none=>S
def ahK:List (Nat×Option Nat×Bool×E.Ty)->av E->av E
 | [],S=>S
 | (s,off,g,t)::r,S=>ahK r (acr s off g t S)
def QG:List Nat->Nat->Bool
 | [],_=>false
 | i::r,j=>Nat.beq i j||QG r j
def mP:List Nat->Nat->Option Nat
 | [],_=>none
 | i::r,j=>if Nat.beq i j then some 0 else(match mP r j with | some q=>some (q+1) | none=>none)
def addN(l:List Nat)(i:Nat):List Nat:=match mP l i with
 | some _=>l
 | none=>l++[i]
def Ue(l:List Nat):List Nat->List Nat
 | []=>l
 | i::r=>Ue (addN l i) r
def aAx:AV E->List Nat
 | .grow _ _ id=>[id]
 | .ptr id _=>[id]
 | .row _ _ id=>[id]
 | .elt id _ _=>[id]
 | .FJ _ id=>[id]
 | .mp id=>[id]
 | .yl id=>[id]
 | .mk _ id=>[id]
 | _=>[]
def agv:List (AV E)->List Nat
 | []=>[]
 | v::r=>aAx v++agv r
def aFg:AV E->List Nat
 | .agg cs=>agv cs
 | v=>aAx v
def awN:List (Nat×AV E)->List Nat
 | []=>[]
 | (_,v)::r=>aFg v++awN r
def aAy(objs:List (Nat×aS E)):List Nat->List Nat
 | []=>[]
 | i::r=>(match look objs i with | some (.box cs)=>agv cs | some (.mp _ _ l)=>agv (l.flatMap (·.2)) | _=>[])++aAy objs r
def KC:AV E->Bool
 | .d _=>true
 | .st _ _=>true
 | _=>false
def Ej(ids:List Nat):AV E->AV E
 | .grow t l id=>match mP ids id with
  | some j=>.grow t l j
  | none=>.d (.slice t l)
 | .ptr id off=>match mP ids id with
  | some j=>.ptr j off
  | none=>.any
 | .row t n id=>match mP ids id with
  | some j=>.row t n j
  | none=>.any
 | .elt id i off=>match mP ids id with
  | some j=>.elt j i off
  | none=>.any
 | .fn f a b=>bif a.all KC&&b.all KC then .fn f a b else .any
 | .FJ n id=>match mP ids id with
  | some j=>.FJ n j
  | none=>.any
 | .mp id=>match mP ids id with
  | some j=>.mp j
  | none=>.any
 | .yl id=>match mP ids id with
  | some j=>.yl j
  | none=>.any
 | .mk T id=>match mP ids id with
  | some j=>.mk T j
  | none=>.any
 | .d c=>.d c
 | .st t x=>.st t x
 | .kC cs=>.kC cs
 | _=>.any
def Ct(ids:List Nat):AV E->AV E
 | .agg cs=>.agg (cs.map (Ej ids))
 | v=>Ej ids v
def aAz(ids:List Nat):aS E->aS E
 | .box cs=>.box (cs.map (Ej ids))
 | .mp K V l=>.mp K V (l.map fun x=>(x.1,x.2.map (Ej ids)))
 | .lp _ _ _ _ _ _ _=>.dead
 | o=>o
def CK(objs:List (Nat×aS E)):AV E->AV E
 | .grow t l id=>match look objs id with
  | some (.tail true)=>.grow t l id
  | _=>.d (.slice t l)
 | v=>v
def WI(S:av E):List Nat->List (Nat×AV E)
 | []=>[]
 | t::r=>match look S.tmps t with | some x=>(t,CK S.objs x)::WI S r | none=>WI S r
def YM(ids:List Nat):List (Nat×AV E)->List (Nat×AV E)
 | []=>[]
 | (t,v)::r=>(t,Ct ids v)::YM ids r
def aat(objs:List (Nat×aS E))(ids:List Nat):List Nat->Nat->List (Nat×aS E)
 | [],_=>[]
 | i::r,j=>(j,match look objs i with | some o=>aAz ids o | none=>.dead)::aat objs ids r (j+1)
def ao5(own:Nat)(live:List Nat)(S:av E):av E :=
 let kept:=WI S live;let aAA:=Ue (List.range own) (awN kept);let ids:=Ue aAA (aAy S.objs aAA)
 ⟨S.n,YM ids kept,aat S.objs ids ids 0,ids.length⟩
inductive dO where
 | normal
 | exit (id:Nat)
 | ret
 | goto (l:Nat)
def dO.toExit:dO->Exit
 | .normal=>.normal
 | .exit id=>.exit id
 | .ret=>.ret
 | .goto l=>.goto l
def Aj:Code->Bool
 | .seq a b=>Aj a&&Aj b
 | .cond _ a b=>Aj a&&Aj b
 | .block _ b=>Aj b
 | .loop b=>Aj b
 | .scope b=>Aj b
 | .goto _=>false
 | _=>true
def bS:Code->Nat
 | .scope b=>(match Aj b with
  | true=>bS b
  | false=>0)
 | .seq a b=>bS a+bS b
 | .cond _ a b=>bS a+bS b
 | .block _ b=>bS b
 | .loop b=>bS b+1
 | _=>0
def Uf{α:Type}(l:List (Nat×List α))(i:Nat):List α:=match look l i with
 | some x=>x
 | none=>[]
def La(h:Hint E)(i:Nat)(S:av E):av E:=ao5 h.own (Uf h.live i) (ahK (Uf h.oO i) S)
def awO{R:Type}(O:aI E)(ops:Array Oper)(dr:Bool)(S:av E)(k:av E->Option R):Option R:=match dr with
 | true=>K7 O ops S.n S.tmps S.objs S.next ops.toList [] 0 k
 | false=>ng O ops S.n S.tmps ops.toList [] S.objs S.next k
def Jp{R:Type}(b:Bool)(O:aI E)(ops:Array Oper)(dr:Bool)(S:av E)(k:av E->Option R):Option R:=match b,dr with
 | true,true=>ahF O ops S k
 | _,_=>awO O ops dr S k
def YN{R:Type}(f:av E->Option R)(k:dO->av E->Option R)(e:dO)(S:av E):Option R:=match e with
 | .normal=>f S
 | .exit id=>k (.exit id) S
 | .ret=>k .ret S
 | .goto l=>k (.goto l) S
def Jq{R:Type}(id:Nat)(k:dO->av E->Option R)(e:dO)(S:av E):Option R:=match e with
 | .normal=>k .normal S
 | .exit i=>(match Nat.beq i id with | true=>k .normal S | false=>k (.exit i) S)
 | .ret=>k .ret S
 | .goto l=>k (.goto l) S
def fB:Code->Bool
 | .seq a b=>fB a||fB b
 | .cond _ a b=>fB a||fB b
 | .block _ b=>fB b
 | .loop b=>fB b
 | .scope b=>!(Aj b)
 | _=>false
def aau{R:Type}(h:Hint E)(G:Nat->av E->Option R)(c:Code)(k:dO->av E->Option R)(e:dO)(S:av E):Option R:=match e with
 | .normal=>k .normal S
 | .exit id=>k (.exit id) S
 | .ret=>k .ret S
 | .goto l=>(match findLabel c l with | some _=>G (100+l) (La h (100+l) S) | none=>none)
def agw{R:Type}(k:dO->av E->Option R)(e:dO)(S:av E):Option R:=match e with
 | .normal=>k .normal S
 | .exit id=>k (.exit id) S
 | .ret=>k .ret S
 | .goto _=>none
def nk{R:Type}(O:aI E)(h:Hint E)(G:Nat->av E->Option R):Nat->Code->av E->(dO->av E->Option R)->Option R
 | _,.skip,S,k=>k .normal S
 | _,.region id ops dr,S,k=>splitK (Uf h.split id) (M9 (Uf h.opn id) (ahJ (Uf h.arr id) (match QG h.frz id with | true=>zf S | false=>S))) fun S'=>Jp (QG h.lst id) O ops dr S' (k .normal)
 | i,.seq x y,S,k=>(match fB x&&fB y with
  | true=>none
  | false=>nk O h G i x S (YN (fun S'=>nk O h G (i+bS x) y S' k) k))
 | i,.cond c x y,S,k=>(match fB x||fB y with
  | true=>none
  | false=>match bG S.tmps [] c with
   | .d (.bool b)=>bif b then nk O h G i x S k else nk O h G (i+bS x) y S k
   | _=>none)
 | i,.scope c,S,k=>(match Aj c with
  | true=>nk O h G i c S (agw k)
  | false=>(match fB c,bS c with
   | false,0=>nk O h G i c S (aau h G c k)
   | _,_=>none))
 | _,.label _,S,k=>k .normal S
 | _,.goto l,S,k=>k (.goto l) S
 | i,.block id body,S,k=>nk O h G i body S (Jq id k)
 | i,.loop _,S,_=>G i (La h i S)
 | _,.exit id,S,k=>k (.exit id) S
 | _,.ret,S,k=>k .ret S
 | _,_,_,_=>none
def JO{R:Type}(O:aI E)(h:Hint E)(G:Nat->av E->Option R):Nat->Code->Nat->(dO->av E->Option R)->Option (Nat×Code×(dO->av E->Option R))
 | i,.loop b,0,k=>some (i,b,k)
 | i,.loop b,j+1,k=>JO O h G (i+1) b j (YN (fun S=>G i (La h i S)) k)
 | i,.seq x y,j,k=>match Nat.blt j (bS x)with
  | true=>JO O h G i x j (YN (fun S'=>nk O h G (i+bS x) y S' k) k)
  | false=>JO O h G (i+bS x) y (j-bS x) k
 | i,.cond _ x y,j,k=>match Nat.blt j (bS x)with
  | true=>JO O h G i x j k
  | false=>JO O h G (i+bS x) y (j-bS x) k
 | i,.block id b,j,k=>JO O h G i b j (Jq id k)
 | i,.scope b,j,k=>(match Aj b with
  | true=>JO O h G i b j (agw k)
  | false=>none)
 | _,_,_,_=>none
def acs{R:Type}(O:aI E)(h:Hint E)(G:Nat->av E->Option R):Nat->Code->(dO->av E->Option R)->Option (Code×(dO->av E->Option R))
 | _,.scope c,k=>some (c,k)
 | i,.seq x y,k=>(match fB x,fB y with
  | true,false=>acs O h G i x (YN (fun S'=>nk O h G (i+bS x) y S' k) k)
  | false,true=>acs O h G (i+bS x) y k
  | _,_=>none)
 | i,.block id b,k=>acs O h G i b (Jq id k)
 | _,_,_=>none
def aAB{R:Type}(O:aI E)(h:Hint E)(G:Nat->av E->Option R)(c:Code)(l:Nat)(S:av E)(k:dO->av E->Option R):Option R:=match acs O h G 0 c k with
 | some (sc,k')=>(match findLabel sc l with
  | some rest=>(match fB rest,bS rest with
   | false,0=>nk O h G 0 rest S (aau h G sc k')
   | _,_=>none)
  | none=>none)
 | none=>none
def ahL{R:Type}(O:aI E)(h:Hint E)(G:Nat->av E->Option R)(c:Code)(j:Nat)(S:av E)(k:dO->av E->Option R):Option R:=match Nat.ble 100 j with
 | true=>(match Nat.ble (bS c) 100 with
  | true=>aAB O h G c (j-100) S k
  | false=>none)
 | false=>(match fB c with
  | true=>none
  | false=>(match JO O h G 0 c j k with
   | some (i,b,k)=>nk O h G (i+1) b S (YN (fun S=>G i (La h i S)) k)
   | none=>none))
end
section
variable {P:Program} {E:Env P} {w:World} {ro:Nat->Nat->Prop} {ι:Nat->Option Gh} {S:av E} {a:Act} {w0:Start} {aQ:Nat->Nat->Prop}
theorem uF:∀(c:Code),Aj c=true->fB c=false
 | .seq a b,h=>by simp only[Aj,abG]at h;simp only[fB,uF a h.1,uF b h.2,Bool.or_self]
 | .cond _ a b,h=>by simp only[Aj,abG]at h;simp only[fB,uF a h.1,uF b h.2,Bool.or_self]
 | .block _ b,h=>uF b h
 | .loop b,h=>uF b h
 | .scope b,h=>by have h:Aj b=true:=h;simp only[fB,h,abI]
 | .skip,_=>rfl
 | .ret,_=>rfl
 | .exit _,_=>rfl
 | .region ..,_=>rfl
 | .label _,_=>rfl
 | .goto _,_=>rfl
 | .rangeFunc ..,_=>rfl
 | .refuse _,_=>rfl
theorem ahM{v:AV E}(h:isNil v=true):v = .d (.raw (.slice none 0 0)):=by
 unfold isNil at h;split at h
 ·rfl
 ·cases h
def QH(E:Env P)(t:E.Ty):Gh:=⟨.slice none 0 0,0,E.tid t,E.size t,none⟩
theorem aav(g:Bool)(t:E.Ty)(hg:bN E w0 aQ S a w ι ro):∃ι',(∀id gh,ι id=some gh->ι' id=some gh)/\bN E w0 aQ ⟨S.n,S.tmps,NJ g S,S.next+1⟩ a w ι' ro/\aP E w ro ι' (.slice none 0 0) (acp g t S.next):=by
 cases g with
 | false =>exact⟨ι,fun _ _ h=>h,⟨hg.base,hg.size,hg.tmps,hg.objs,hg.inj,fun id h=>hg.fresh id (by have h:S.next+1<=id:=h;omega),fun id o h=>by have:=hg.ids id o h;show id<S.next+1;omega⟩,.d _ _ (.nil t none 0)⟩
 | true =>
  have hfresh:=hg.fresh S.next (abH _);have hext:=TR ι S.next (QH E t) hfresh;have hnew:oC ι S.next (QH E t) S.next=some (QH E t):=if_pos rfl;have hold:∀id,id≠S.next->oC ι S.next (QH E t) id=ι id:=fun id h=>if_neg h
  refine⟨oC ι S.next (QH E t),hext,⟨⟨hg.base.below,hg.base.aT,hg.base.rE,fun id gh k h1 h2=>?_,hg.base.defers,fun q hq=>⟨(hg.base.keep q hq).1,fun id gh h=>hext id gh ((hg.base.keep q hq).2 id gh h)⟩,fun k o h=>⟨(hg.base.held k o h).1,fun id gh h1 h2=>by by_cases e:id=S.next;(· subst e;rw[hnew]at h1;cases h1;cases h2);(· rw[hold id e]at h1;exact(hg.base.held k o h).2 id gh h1 h2)⟩⟩,hg.size,fun t' x hl=>?_,fun id o hl=>?_,?_,fun id h=>?_,fun id o hl=>?_⟩,?_⟩
  ·by_cases e:id=S.next
   ·subst e;rw[hnew]at h1;cases h1;cases h2
   ·rw[hold id e]at h1;exact hg.base.uE id gh k h1 h2
  ·obtain⟨v,hv,hs⟩:=hg.tmps t' x hl;exact⟨v,hv,hs.mono (fun _ _ h=>h) (fun _ _ _=>rfl) hext⟩
  ·simp only[NJ,aX]at hl;split at hl
   ·rename_i hb;have:=aax hb;subst this;cases hl;intro _;exact⟨QH E t,[],hnew,.inl ⟨World.ownsRow_nil w 0 _ _,rfl⟩,fun g hg=>by cases hg⟩
   ·rename_i hb;have hne:id≠S.next:=fun e=>by subst e;simp at hb
    have h:=hg.objs id o hl;cases o with
    | dead=>trivial
    | box cs =>obtain⟨gh,g,vs,ty,h1,h2,hb,h3,h4,h5,h6⟩:=h;exact⟨gh,g,vs,ty,hext _ _ h1,h2,hb,h3,h4,fun j v c hv hc=>⟨(h5 j v c hv hc).1,(h5 j v c hv hc).2.mono (fun _ _ h=>h) (fun _ _ _=>rfl) hext⟩,h6⟩
    | tail l =>intro hl;obtain⟨gh,xs,h1,h2⟩:=h hl;exact⟨gh,xs,hext _ _ h1,h2⟩
    | Ji =>obtain⟨gh,g,h1,h2⟩:=h;exact⟨gh,g,hext _ _ h1,h2⟩
    | arr t l fz =>obtain⟨h0,gh,g,vs,ty,h1,h2,hb,h3,h4,h5,h6⟩:=h;exact⟨h0,gh,g,vs,ty,hext _ _ h1,h2,hb,h3,h4,fun j v c hv hc=>⟨(h5 j v c hv hc).1,(h5 j v c hv hc).2.mono (fun _ _ h=>h) (fun _ _ _=>rfl) hext⟩,h6⟩
    | lp st pend n tm ps assign body =>
     obtain⟨gh,g,rec,h1,h2,h3,h4,h5⟩:=h;exact⟨gh,g,rec,hext _ _ h1,h2,h3,h4,fun t x hl=>by obtain⟨v,q1,q2⟩:=h5 t x hl;exact⟨v,q1,q2.mono (fun _ _ h=>h) (fun _ _ _=>rfl) hext⟩⟩
    | mp K V l =>
     obtain⟨gh,g,es,h1,h2,h3,h4,h5,h6⟩:=h;exact⟨gh,g,es,hext _ _ h1,h2,h3,h4,h5,fun j e x he hx=>by obtain⟨k1,k2,k3,k4⟩:=h6 j e x he hx;exact⟨k1,k2,k3,fun i v c hv hc=>⟨(k4 i v c hv hc).1,(k4 i v c hv hc).2.mono (fun _ _ h=>h) (fun _ _ _=>rfl) hext⟩⟩⟩
    | row t l =>obtain⟨gh,xs,h1,h2⟩:=h;exact⟨gh,xs,hext _ _ h1,h2⟩
  ·intro id id' o o' gh bD k hl hl' l1 l2 i1 i2 b1 b2;by_cases e:id=S.next
   ·subst e;rw[hnew]at i1;cases i1;cases b1
   ·by_cases e':id'=S.next
    ·subst e';rw[hnew]at i2;cases i2;cases b2
    ·rw[hold id e]at i1;rw[hold id' e']at i2;simp only[NJ,aX]at hl hl';rw[if_neg (fun hb=>e (aax hb).symm)]at hl;rw[if_neg (fun hb=>e' (aax hb).symm)]at hl';exact hg.inj id id' o o' gh bD k hl hl' l1 l2 i1 i2 b1 b2
  ·have h:S.next+1<=id:=h;rw[hold id (by omega)];exact hg.fresh id (by omega)
  ·simp only[NJ,aX]at hl;show id<S.next+1;split at hl
   ·rename_i hb;have:=aax hb;omega
   ·have:=hg.ids id o hl;omega
  ·exact .grow (QH E t) t [] S.next hnew rfl rfl rfl (.nil t none 0)
theorem aec{g:Bool}{t:E.Ty}{i:Nat}:d9 (acp (E:=E) g t i)=false:=by cases g<;>rfl
theorem ao6(s:Nat)(off:Option Nat)(g:Bool)(t:E.Ty)(hnc:aR S.tmps)(hg:bN E w0 aQ S a w ι ro):∃ι',aR (acr s off g t S).tmps/\bN E w0 aQ (acr s off g t S) a w ι' ro/\(acr s off g t S).n=S.n:=by
 have same:∃ι',aR S.tmps/\bN E w0 aQ S a w ι' ro/\S.n=S.n:=⟨ι,hnc,hg,rfl⟩
 unfold acr;split
 ·rename_i v hv;split
  ·cases hn:isNil v with
   | false=>exact same
   | true =>
    simp only[cond_true];obtain rfl:=ahM hn;obtain⟨ι',hext,hg',hr⟩:=aav g t hg;obtain⟨u,hu,hs⟩:=hg.tmps s _ hv;have hu':u = .slice none 0 0:=aP.j6 hs;subst hu';refine⟨ι',fun p hp=>?_,⟨hg'.base,hg'.size,fun t' x hl=>?_,hg'.objs,hg'.inj,hg'.fresh,hg'.ids⟩,trivial⟩
    ·cases hp with
     | head=>exact aec
     | tail _ hp=>exact hnc p hp
    ·simp only[aX]at hl;split at hl
     ·rename_i hb;have:=aax hb;subst this;cases hl;refine⟨_,hu,?_⟩;have hc:=aec (E:=E) (g:=g) (t:=t) (i:=S.next);generalize acp g t S.next=y at hr hc;cases y<;>first | exact hr | cases hc
     ·exact hg'.tmps t' x hl
  ·rename_i o;split
   ·rename_i id off';split
    ·rename_i cs bX;split
     ·rename_i u hu;cases hn:isNil u with
      | false=>exact same
      | true =>
       simp only[cond_true];obtain rfl:=ahM hn;obtain⟨ι',hext,hg',hr⟩:=aav g t hg;have hlt:=hg.ids id _ bX;have Cu:look (NJ g S) id=some (.box cs):=by
        cases g with
        | false=>exact bX
        | true=>simp only[NJ,aX];rw[if_neg (fun hb=>by have:=aax hb;omega)];exact bX
       refine⟨ι',hnc,⟨hg'.base,hg'.size,hg'.tmps,fun id' o' hl=>?_,?_,hg'.fresh,fun id' o' hl=>?_⟩,trivial⟩
       ·simp only[aX]at hl;split at hl
        ·rename_i hb;have:=aax hb;subst this;cases hl;obtain⟨gh,g',vs,ty,h1,h2,hb,h3,h4,h5,h6⟩:=hg'.objs id _ Cu;refine⟨gh,g',vs,ty,h1,h2,hb,h3,by simp[h4],fun j v c hv hc=>?_,h6⟩;have hjl:j<cs.length:=by have:=(List.getElem?_eq_some_iff.1 hc).1;simpa using this
         have hcj:=aac hjl;have h5j:=h5 j v _ hv hcj;refine⟨h5j.1,?_⟩;by_cases hjo:j=o
         ·subst hjo;rw[List.getElem?_set_self hjl]at hc;cases hc;have h5u:=(h5 j v _ hv hu).2;have:v = .slice none 0 0:=aP.j6 h5u;subst this;exact hr
         grind
        ·exact hg'.objs id' o' hl
       ·intro i1 i2 o1 o2 gh bD k hl hl' l1 l2 e1 e2 b1 b2;have lift:∀i ob,look ((id,aS.box (cs.set o (acp g t S.next)))::NJ g S) i=some ob->ob.live=true->∃TS,look (NJ g S) i=some TS/\TS.live=true:=by
         intro i ob h hl;simp only[aX]at h;split at h
         ·rename_i hb;have:=aax hb;subst this;exact⟨_,Cu,rfl⟩
         ·exact⟨ob,h,hl⟩
        obtain⟨q1,g1,g2⟩:=lift i1 o1 hl l1;obtain⟨q2,g3,g4⟩:=lift i2 o2 hl' l2;exact hg'.inj i1 i2 q1 q2 gh bD k g1 g3 g2 g4 e1 e2 b1 b2
       ·simp only[aX]at hl;split at hl
        ·rename_i hb;have:=aax hb;grind
        ·exact hg'.ids id' o' hl
     ·exact same
    ·exact same
   ·exact same
 ·exact same
theorem aaw:∀(l:List (Nat×Option Nat×Bool×E.Ty)) (S:av E) (ι:Nat->Option Gh),aR S.tmps->bN E w0 aQ S a w ι ro->∃ι',aR (ahK l S).tmps/\bN E w0 aQ (ahK l S) a w ι' ro/\(ahK l S).n=S.n
 | [],S,ι,hnc,hg=>⟨ι,hnc,hg,rfl⟩
 | (s,off,g,t)::r,S,ι,hnc,hg=>by obtain⟨ι1,h1,h2,h3⟩:=ao6 s off g t hnc hg;obtain⟨ι2,h4,h5,h6⟩:=aaw r (acr s off g t S) ι1 h1 h2;exact⟨ι2,h4,h5,h6.trans h3⟩
theorem aed{objs:List (Nat×aS E)}:∀{l:List (Nat×AV E)} {t:Nat} {y:AV E},look (ahH objs l) t=some y->∃x,look l t=some x/\y=acn objs x
 | [],_,_,h=>by cases h
 | (u,x)::r,t,y,h=>by
  simp only[ahH,aX]at h ⊢;split at h
  ·grind
  ·rename_i hb;rw[if_neg hb];exact aed h
theorem FU{objs:List (Nat×aS E)}:∀{l:List (Nat×aS E)} {t:Nat} {y:aS E},look (agt objs l) t=some y->∃x,look l t=some x/\y=aAw objs x
 | [],_,_,h=>by cases h
 | (u,x)::r,t,y,h=>by
  simp only[agt,aX]at h ⊢;split at h
  ·grind
  ·rename_i hb;rw[if_neg hb];exact FU h
theorem arF{objs:List (Nat×aS E)}{x:AV E}:d9 (YK objs x)=d9 x:=by
 cases x<;>try rfl
 rename_i t n id;show d9 (match look objs id with | some (.row t' l)=>.grow t' l id | _=>.row t n id)=false;split<;>rfl
theorem aee{objs:List (Nat×aS E)}{x:AV E}:d9 (acn objs x)=d9 x:=by have h:=arF (objs:=objs) (x:=x);cases x<;>first | rfl | exact h
theorem XC{objs:List (Nat×aS E)}:∀{l:List (Nat×AV E)},aR l->aR (ahH objs l)
 | [],_=>fun p h=>by cases h
 | (t,x)::r,hn=>fun p h=>by
  cases h with
  | head=>exact aee.trans (hn (t,x) aa1)
  | tail _ h=>exact XC (fun p h=>hn p (aa6 _ h)) p h
def QI(objs:List (Nat×aS E))(ι:Nat->Option Gh)(ro:Nat->Nat->Prop):Nat->Nat->Prop:=fun k o =>ro k o\/∃id t l gh,look objs id=some (.row t l)/\ι id=some gh/\gh.blk=some k/\o<gh.n*gh.sz
theorem DU(hnc:aR S.tmps)(hg:bN E w0 aQ S a w ι ro):aR (zf S).tmps/\bN E w0 aQ (zf S) a w ι (QI S.objs ι ro):=by
 have hro:∀k o,ro k o->QI S.objs ι ro k o:=fun _ _ h=>.inl h
 have one:∀(v:Value) (x:AV E),aP E w ro ι v x->aP E w (QI S.objs ι ro) ι v (YK S.objs x):=by
  intro v x h;have hm:=h.mono (w':=w) hro (fun _ _ _=>rfl) (fun _ _ h=>h);cases h with
  | row gh t id ad cap h1 h2 h3 h4 h5 =>
   show aP E w _ ι gh.v (match look S.objs id with | some (.row t' l)=>.grow t' l id | _=>.row t gh.n id);split
   ·rename_i t' l bX;obtain⟨bD,xs,hi',hn,hge,hgs,hown,hrow,iy⟩:=hg.objs id _ bX;rw[h1]at hi';cases hi';refine .grow gh t' l id h1 hn hge hgs ?_;have hown':=hown;unfold tL at hown';rw[hn,hge,hgs]at hown';refine JM hown' (fun g o hb ho=>.inr ⟨id,t',l,gh,bX,h1,hb,by rw[hn,hgs];exact ho⟩) (hrow.mono hro (fun _ _ _=>rfl))
   ·exact hm
  | _=>exact hm
 have many:∀(vs:Array Value) (cs:List (AV E)),(∀(j:Nat) v c,vs[j]? = some v->cs[j]? = some c->aP E w ro ι v c)->∀(j:Nat) v c,vs[j]? = some v->(cs.map (YK S.objs))[j]? = some c->aP E w (QI S.objs ι ro) ι v c:=by grind
 have all:∀(v:Value) (x:AV E),aP E w ro ι v x->aP E w (QI S.objs ι ro) ι v (acn S.objs x):=by
  intro v x h;have h1:=one v x h;cases h with
  | agg vs cs hs hi=>exact .agg vs _ (by simp[hs]) (many vs cs hi)
  | uz vs cs hs hi=>exact .uz vs _ (by simp[hs]) (many vs cs hi)
  | _=>exact h1
 have agx:∀id ob,look S.objs id=some ob->ob.live=true->∀gh k,ι id=some gh->gh.blk=some k->∀id' t l bD,look S.objs id'=some (.row t l)->ι id'=some bD->bD.blk=some k->id=id' :=
  fun id ob h1 h2 gh k h3 h4 id' t l bD h5 h6 h7=>hg.inj id id' ob _ gh bD k h1 h5 h2 rfl h3 h6 h4 h7
 refine⟨XC hnc,⟨hg.base.below,fun k o h=>?_,fun k o h=>?_,hg.base.uE,hg.base.defers,fun q hq=>⟨fun k o h=>⟨.inl ((hg.base.keep q hq).1 k o h).1,((hg.base.keep q hq).1 k o h).2⟩,(hg.base.keep q hq).2⟩,hg.base.held⟩,hg.size,fun t y hl=>?_,fun id o hl=>?_,?_,hg.fresh,fun id o hl=>?_⟩
 ·rcases h with h | ⟨id,t,l,gh,_,hi,hb,_⟩
  ·exact hg.base.aT k o h
  ·exact(hg.base.uE id gh k hi hb).2
 ·rcases h with h | ⟨id,t,l,gh,_,hi,hb,_⟩
  ·exact hg.base.rE k o h
  ·exact .inr (hg.base.uE id gh k hi hb).1
 ·obtain⟨x,hx,rfl⟩:=aed hl;obtain⟨v,hv,hs⟩:=hg.tmps t x hx;have hc:d9 x=false:=hnc _ (jW _ _ _ hx);have hr:aP E w ro ι v x:=by cases x<;>first | exact hs | cases hc
  refine⟨v,hv,?_⟩;have h2:=all v x hr;have h3:d9 (acn S.objs x)=false:=aee.trans hc;generalize acn S.objs x=y at h2 h3;cases y<;>first | exact h2 | cases h3
 ·obtain⟨o',ho',rfl⟩:=FU hl;have h:=hg.objs id o' ho';cases o' with
  | dead=>trivial
  | box cs =>
   obtain⟨gh,g,vs,ty,h1,h2,hb,h3,h4,h5,h6⟩:=h;refine⟨gh,g,vs,ty,h1,h2,hb,h3,by simp[h4],fun j v c hv hc=>⟨?_,many vs cs (fun j v c hv hc=>(h5 j v c hv hc).2) j v c hv hc⟩,fun o hr=>?_,h6.2⟩
   ·grind
   ·rcases hr with hr | ⟨id',t,l,bD,Cu,hi',hb',_⟩
    ·exact h6.1 o hr
    ·have:=agx id _ ho' rfl gh g h1 hb id' t l bD Cu hi' hb';subst this;rw[ho']at Cu;cases Cu
  | tail live =>
   intro hlive;obtain⟨gh,xs,h1,h2,h3⟩:=h hlive;refine⟨gh,xs,h1,h2,fun g hb o ho hr=>?_⟩;rcases hr with hr | ⟨id',t,l,bD,Cu,hi',hb',_⟩
   ·exact h3 g hb o ho hr
   ·have:=agx id _ ho' hlive gh g h1 hb id' t l bD Cu hi' hb';subst this;rw[ho']at Cu;cases Cu
  | Ji=>exact h
  | arr t l fz =>
   obtain⟨h0,gh,g,vs,ty,h1,h2,hb,h3,h4,h5,h6,h7⟩:=h;refine⟨h0,gh,g,vs,ty,h1,h2,hb,h3,h4,fun j v c hv hc=>⟨(h5 j v c hv hc).1,(h5 j v c hv hc).2.mono (fun _ _ h=>.inl h) (fun _ _ _=>rfl) (fun _ _ h=>h)⟩,⟨fun hf o hr=>?_,fun hf o ho=>.inl (h6.2 hf o ho)⟩,h7⟩;rcases hr with hr | ⟨id',t,l,bD,Cu,hi',hb',_⟩
   ·exact h6.1 hf o hr
   ·have:=agx id _ ho' rfl gh g h1 hb id' t l bD Cu hi' hb';subst this;rw[ho']at Cu;cases Cu
  | lp st pend n tm ps assign body =>
   obtain⟨gh,g,rec,h1,h2,h3,h4,h5⟩:=h;exact⟨gh,g,rec,h1,h2,h3,h4,fun t x hl=>by obtain⟨v,q1,q2⟩:=h5 t x hl;exact⟨v,q1,q2.mono (fun _ _ h=>.inl h) (fun _ _ _=>rfl) (fun _ _ h=>h)⟩⟩
  | mp K V l =>
   obtain⟨gh,g,es,h1,h2,h3,h4,h5,h6⟩:=h;exact⟨gh,g,es,h1,h2,h3,h4,h5,fun j e x he hx=>by obtain⟨k1,k2,k3,k4⟩:=h6 j e x he hx;exact⟨k1,k2,k3,fun i v c hv hc=>⟨(k4 i v c hv hc).1,(k4 i v c hv hc).2.mono (fun _ _ h=>.inl h) (fun _ _ _=>rfl) (fun _ _ h=>h)⟩⟩⟩
  | row t l =>
   intro _;obtain⟨gh,xs,h1,hn,hge,hgs,hown,hrow,iy⟩:=h;refine⟨gh,xs,h1,hown,fun g hb o ho hr=>?_⟩;rcases hr with hr | ⟨id',t',l',bD,Cu,hi',hb',aG9⟩
   ·exact iy g hb o hr
   ·have:=agx id _ ho' rfl gh g h1 hb id' t' l' bD Cu hi' hb';grind
 ·intro id id' o o' gh bD k hl hl' l1 l2 i1 i2 b1 b2;obtain⟨q,hq,rfl⟩:=FU hl;obtain⟨q',hq',rfl⟩:=FU hl';have e1:q.live=true:=by cases q<;>first | exact l1 | rfl
  have e2:q'.live=true:=by cases q'<;>first | exact l2 | rfl
  exact hg.inj id id' q q' gh bD k hq hq' e1 e2 i1 i2 b1 b2
 ·obtain⟨q,hq,rfl⟩:=FU hl;exact hg.ids id q hq
theorem arG{id:Nat}{ds:List (bP E.Den)}{x:AV E}:d9 (Ud id ds x)=d9 x:=by
 cases x<;>try rfl
 rename_i id' off;show d9 (match Nat.beq id' id with | true=>.kC (ds.drop off) | false=>.ptr id' off)=false;split<;>rfl
theorem aef{id:Nat}{ds:List (bP E.Den)}{x:AV E}:d9 (aco id ds x)=d9 x:=by have h:=arG (id:=id) (ds:=ds) (x:=x);cases x<;>first | rfl | exact h
theorem XD{id:Nat}{ds:List (bP E.Den)}:∀{l:List (Nat×AV E)},aR l->aR (ahI id ds l)
 | [],_=>fun p h=>by cases h
 | (t,x)::r,hn=>fun p h=>by
  cases h with
  | head=>exact aef.trans (hn (t,x) aa1)
  | tail _ h=>exact XD (fun p h=>hn p (aa6 _ h)) p h
theorem aeg{id:Nat}{ds:List (bP E.Den)}:∀{l:List (Nat×AV E)} {t:Nat} {y:AV E},look (ahI id ds l) t=some y->∃x,look l t=some x/\y=aco id ds x
 | [],_,_,h=>by cases h
 | (u,x)::r,t,y,h=>by
  simp only[ahI,aX]at h ⊢;split at h
  ·grind
  ·rename_i hb;rw[if_neg hb];exact aeg h
theorem FV{id:Nat}{ds:List (bP E.Den)}:∀{l:List (Nat×aS E)} {t:Nat} {y:aS E},look (agu id ds l) t=some y->∃x,look l t=some x/\y=auR id ds t x
 | [],_,_,h=>by cases h
 | (u,x)::r,t,y,h=>by
  simp only[agu,aX]at h ⊢;split at h
  ·rename_i hb;rw[if_pos hb];cases h;rw[aax hb];exact⟨x,rfl,rfl⟩
  ·rename_i hb;rw[if_neg hb];exact FV h
theorem akV(t:Nat)(hnc:aR S.tmps)(hg:bN E w0 aQ S a w ι ro):∃ro',aR (WG t S).tmps/\bN E w0 aQ (WG t S) a w ι ro'/\(WG t S).n=S.n:=by
 have same:∃ro',aR S.tmps/\bN E w0 aQ S a w ι ro'/\S.n=S.n:=⟨ro,hnc,hg,rfl⟩
 unfold WG;split
 ·rename_i id aHa hv;split
  ·rename_i cs bX;split
   ·rename_i ds hds;obtain⟨gh,g,vs,ty,h1,h2,hb,h3,h4,h5,h6⟩:=hg.objs id _ bX;have hlt:=(hg.base.uE id gh g h1 hb)
    have hdl:=toDs_len hds;let ro':Nat->Nat->Prop:=fun k o=>ro k o\/(k=g/\o<cs.length)
    have hro:∀k o,ro k o->ro' k o:=fun _ _ h=>.inl h
    have one:∀(v:Value) (x:AV E),aP E w ro ι v x->aP E w ro' ι v (Ud id ds x):=by
     intro v x h;have hm:=h.mono (w':=w) hro (fun _ _ _=>rfl) (fun _ _ h=>h);cases h with
     | ptr bD g' id' off i1 i2 =>
      show aP E w ro' ι _ (match Nat.beq id' id with | true=>.kC (ds.drop off) | false=>.ptr id' off);split
      ·rename_i hbq;have:=aax hbq;subst this;rw[h1]at i1;cases i1;rw[h2]at i2;cases i2;refine .kC g off (fun j=>vs.getD (off+j) undef) (ds.drop off) (fun j c hc=>?_) (fun j c hc=>?_)
       ·rw[aeZ]at hc;have hj:off+j<cs.length:=by rw[<- hdl];exact(List.getElem?_eq_some_iff.1 hc).1
        have hjv:off+j<vs.size:=by omega
        refine⟨.inr ⟨rfl,hj⟩,?_⟩;simp[World.cell?,h3,hjv,Array.getD]
       ·rw[aeZ]at hc;have hj:off+j<cs.length:=by rw[<- hdl];exact(List.getElem?_eq_some_iff.1 hc).1
        have hjv:off+j<vs.size:=by omega
        have hvj:vs[off+j]? = some vs[off+j]:=aeO hjv;have hcj:=aac hj;have hr:=toD_rep (h5 _ _ _ hvj hcj).2 (toDs_at hds _ _ _ hcj hc);have e:vs.getD (off+j) undef=vs[off+j]:=by simp[Array.getD,hjv]
        rw[e];exact hr.mono hro (fun _ _ _=>rfl)
      ·exact hm
     | _=>exact hm
    have many:∀(vs:Array Value) (cs:List (AV E)),(∀(j:Nat) v c,vs[j]? = some v->cs[j]? = some c->aP E w ro ι v c)->∀(j:Nat) v c,vs[j]? = some v->(cs.map (Ud id ds))[j]? = some c->aP E w ro' ι v c:=by grind
    have all:∀(v:Value) (x:AV E),aP E w ro ι v x->aP E w ro' ι v (aco id ds x):=by
     intro v x h;have h1:=one v x h;cases h with
     | agg vs cs hs hi=>exact .agg vs _ (by simp[hs]) (many vs cs hi)
     | uz vs cs hs hi=>exact .uz vs _ (by simp[hs]) (many vs cs hi)
     | _=>exact h1
    have other:∀id' ob bD g',look S.objs id'=some ob->ob.live=true->ι id'=some bD->bD.blk=some g'->id'≠id->g'≠g:=by intro id' ob bD g' q1 q2 q3 q4 hne e;subst e;exact hne (hg.inj id' id ob _ bD gh g' q1 bX q2 rfl q3 h1 q4 hb)
    refine⟨ro',XD hnc,⟨⟨hg.base.below,fun k o h=>?_,fun k o h=>?_,hg.base.uE,hg.base.defers,fun q hq=>⟨fun k o h=>⟨.inl ((hg.base.keep q hq).1 k o h).1,((hg.base.keep q hq).1 k o h).2⟩,(hg.base.keep q hq).2⟩,hg.base.held⟩,hg.size,fun t y hl=>?_,fun id' o hl=>?_,?_,hg.fresh,fun id' o hl=>?_⟩,rfl⟩
    ·rcases h with h | ⟨rfl,_⟩
     ·exact hg.base.aT k o h
     ·exact hlt.2
    ·rcases h with h | ⟨rfl,_⟩
     ·exact hg.base.rE k o h
     ·exact .inr hlt.1
    ·obtain⟨x,hx,rfl⟩:=aeg hl;obtain⟨v,hv,hs⟩:=hg.tmps t x hx;have hc:d9 x=false:=hnc _ (jW _ _ _ hx);have hr:aP E w ro ι v x:=by cases x<;>first | exact hs | cases hc
     refine⟨v,hv,?_⟩;have h2:=all v x hr;have h3:d9 (aco id ds x)=false:=aef.trans hc;generalize aco id ds x=y at h2 h3;cases y<;>first | exact h2 | cases h3
    ·obtain⟨o',ho',rfl⟩:=FV hl;have h:=hg.objs id' o' ho';cases o' with
     | dead=>trivial
     | box cs' =>
      show kr E w ro' ι id' (match Nat.beq id' id with | true=>.dead | false=>.box (cs'.map (Ud id ds)));split
      ·trivial
      ·rename_i hbq;have hne:id'≠id:=fun e=>by subst e;simp at hbq
       obtain⟨bD,g',vs',ty',q1,q2,qb,q3,q4,q5,q6⟩:=h;refine⟨bD,g',vs',ty',q1,q2,qb,q3,by simp[q4],fun j v c hv hc=>⟨?_,many vs' cs' (fun j v c hv hc=>(q5 j v c hv hc).2) j v c hv hc⟩,fun o hr=>?_,q6.2⟩
       ·have hj:j<cs'.length:=by have:=(List.getElem?_eq_some_iff.1 hc).1;simpa using this
        exact(q5 j v _ hv (aac hj)).1
       ·rcases hr with hr | ⟨hr,_⟩
        ·exact q6.1 o hr
        ·exact other id' _ bD g' ho' rfl q1 qb hne hr
     | tail live =>
      intro hlive;obtain⟨bD,xs,q1,q2,q3⟩:=h hlive;have hne:id'≠id:=fun e=>by subst e;rw[bX]at ho';cases ho'
      refine⟨bD,xs,q1,q2,fun g' hb' o ho hr=>?_⟩;rcases hr with hr | ⟨hr,_⟩
      ·exact q3 g' hb' o ho hr
      ·exact other id' _ bD g' ho' hlive q1 hb' hne hr
     | Ji=>exact h
     | arr t l fz =>
      obtain⟨h0,bD,g',vs',ty',q1,q2,qb,q3,q4,q5,q6,q7⟩:=h;have hne:id'≠id:=fun e=>by subst e;rw[bX]at ho';cases ho'
      refine⟨h0,bD,g',vs',ty',q1,q2,qb,q3,q4,fun j v c hv hc=>⟨(q5 j v c hv hc).1,(q5 j v c hv hc).2.mono hro (fun _ _ _=>rfl) (fun _ _ h=>h)⟩,⟨fun hf o hr=>?_,fun hf o ho=>.inl (q6.2 hf o ho)⟩,q7⟩;rcases hr with hr | ⟨hr,_⟩
      ·exact q6.1 hf o hr
      ·exact other id' _ bD g' ho' rfl q1 qb hne hr
     | lp st pend n tm ps assign body =>
      obtain⟨bD,g',rec,q1,q2,q3,q4,q5⟩:=h;exact⟨bD,g',rec,q1,q2,q3,q4,fun t x hl=>by obtain⟨v,u1,u2⟩:=q5 t x hl;exact⟨v,u1,u2.mono hro (fun _ _ _=>rfl) (fun _ _ h=>h)⟩⟩
     | mp K V l =>
      obtain⟨bD,g',es,q1,q2,q3,q4,q5,q6⟩:=h;exact⟨bD,g',es,q1,q2,q3,q4,q5,fun j e x he hx=>by obtain⟨k1,k2,k3,k4⟩:=q6 j e x he hx;exact⟨k1,k2,k3,fun i v c hv hc=>⟨(k4 i v c hv hc).1,(k4 i v c hv hc).2.mono hro (fun _ _ _=>rfl) (fun _ _ h=>h)⟩⟩⟩
     | row t l =>
      obtain⟨bD,xs,q1,hn,hge,hgs,hown,hrow,iy⟩:=h;have hne:id'≠id:=fun e=>by subst e;rw[bX]at ho';cases ho'
      refine⟨bD,xs,q1,hn,hge,hgs,hown,hrow.mono hro (fun _ _ _=>rfl),fun g' hb' o hr=>?_⟩;rcases hr with hr | ⟨hr,_⟩
      ·exact iy g' hb' o hr
      ·exact other id' _ bD g' ho' rfl q1 hb' hne hr
    ·intro i1 i2 o o' gh1 gh2 k hl hl' l1 l2 e1 e2 b1 b2;obtain⟨q,hq,rfl⟩:=FV hl;obtain⟨q',hq',rfl⟩:=FV hl';have lv:∀i (q:aS E),(auR id ds i q).live=true->q.live=true:=by
      intro i q h;cases q<;>first | exact h | rfl
     exact hg.inj i1 i2 q q' gh1 gh2 k hq hq' (lv _ _ l1) (lv _ _ l2) e1 e2 b1 b2
    ·obtain⟨q,hq,rfl⟩:=FV hl;exact hg.ids id' q hq
   ·exact same
  ·exact same
 ·exact same
theorem NK:∀(l:List Nat) (S:av E) (ro:Nat->Nat->Prop),aR S.tmps->bN E w0 aQ S a w ι ro->∃ro',aR (M9 l S).tmps/\bN E w0 aQ (M9 l S) a w ι ro'/\(M9 l S).n=S.n
 | [],S,ro,hnc,hg=>⟨ro,hnc,hg,rfl⟩
 | t::r,S,ro,hnc,hg=>by obtain⟨XE,h1,h2,h3⟩:=akV t hnc hg;obtain⟨XF,h4,h5,h6⟩:=NK r (WG t S) XE h1 h2;exact⟨XF,h4,h5,h6.trans h3⟩
theorem kr.aC0{w:World}{ro ro':Nat->Nat->Prop}{ι:Nat->Option Gh}{g:Nat}(hro:∀k o,ro k o->ro' k o)(hnew:∀k o,ro' k o->ro k o\/k=g){id:Nat}{ob:aS E}(h:kr E w ro ι id ob)
  (hne:ob.live=true->∀gh g',ι id=some gh->gh.blk=some g'->g'≠g):kr E w ro' ι id ob:=by
 have mono:∀{v:Value} {x:AV E},aP E w ro ι v x->aP E w ro' ι v x:=fun h=>h.mono hro (fun _ _ _=>rfl) (fun _ _ h=>h)
 cases ob with
 | dead=>trivial
 | box cs =>obtain⟨gh,g',vs,ty,q1,q2,qb,q3,q4,q5,q6,q7⟩:=h;exact⟨gh,g',vs,ty,q1,q2,qb,q3,q4,fun j v c hv hc=>⟨(q5 j v c hv hc).1,mono (q5 j v c hv hc).2⟩,fun o hr=>(hnew _ _ hr).elim (q6 o) (hne rfl gh g' q1 qb),q7⟩
 | tail live =>intro hlive;obtain⟨gh,xs,q1,q2,q3⟩:=h hlive;exact⟨gh,xs,q1,q2,fun g' hb o ho hr=>(hnew _ _ hr).elim (q3 g' hb o ho) (hne hlive gh g' q1 hb)⟩
 | Ji=>exact h
 | arr t l fz =>obtain⟨h0,gh,g',vs,ty,q1,q2,qb,q3,q4,q5,q6,q7⟩:=h;exact⟨h0,gh,g',vs,ty,q1,q2,qb,q3,q4,fun j v c hv hc=>⟨(q5 j v c hv hc).1,mono (q5 j v c hv hc).2⟩,⟨fun hf o hr=>(hnew _ _ hr).elim (q6.1 hf o) (hne rfl gh g' q1 qb),fun hf o ho=>hro _ _ (q6.2 hf o ho)⟩,q7⟩
 | lp st pend n tm ps assign body =>
  obtain⟨gh,g',rec,q1,q2,q3,q4,q5⟩:=h;exact⟨gh,g',rec,q1,q2,q3,q4,fun t x hl=>by obtain⟨v,u1,u2⟩:=q5 t x hl;exact⟨v,u1,mono u2⟩⟩
 | mp K V l =>
  obtain⟨gh,g',es,q1,q2,q3,q4,q5,q6⟩:=h;exact⟨gh,g',es,q1,q2,q3,q4,q5,fun j e x he hx=>by obtain⟨k1,k2,k3,k4⟩:=q6 j e x he hx;exact⟨k1,k2,k3,fun i v c hv hc=>⟨(k4 i v c hv hc).1,mono (k4 i v c hv hc).2⟩⟩⟩
 | row t l =>obtain⟨gh,xs,q1,hn,hge,hgs,hown,hrow,iy⟩:=h;exact⟨gh,xs,q1,hn,hge,hgs,hown,hrow.mono hro (fun _ _ _=>rfl),fun g' hb o hr=>(hnew _ _ hr).elim (iy g' hb o) (hne rfl gh g' q1 hb)⟩
theorem bN.other{id g:Nat}{gh:Gh}{ob TS:aS E}{ro':Nat->Nat->Prop}(hnc:aR S.tmps)(hg:bN E w0 aQ S a w ι ro)(bX:look S.objs id=some ob)(hl:ob.live=true)(hi:ι id=some gh)(hb:gh.blk=some g)
  (hro:∀k o,ro k o->ro' k o) (hnew:∀k o,ro' k o->ro k o\/k=g) (h':kr E w ro' ι id TS):bN E w0 aQ ⟨S.n,S.tmps,(id,TS)::S.objs,S.next⟩ a w ι ro':=by
 have hlt:=hg.base.uE id gh g hi hb;refine⟨⟨hg.base.below,fun k o h=>?_,fun k o h=>?_,hg.base.uE,hg.base.defers,fun q hq=>⟨fun k o h=>⟨hro _ _ ((hg.base.keep q hq).1 k o h).1,((hg.base.keep q hq).1 k o h).2⟩,(hg.base.keep q hq).2⟩,hg.base.held⟩,hg.size,fun t x hx=>?_,fun id' o ho=>?_,?_,hg.fresh,fun id' o ho=>?_⟩
 ·rcases hnew k o h with h | rfl
  ·exact hg.base.aT k o h
  ·exact hlt.2
 ·rcases hnew k o h with h | rfl
  ·exact hg.base.rE k o h
  ·exact .inr hlt.1
 ·obtain⟨v,hv,hs⟩:=hg.tmps t x hx;have hc:d9 x=false:=hnc _ (jW _ _ _ hx);exact⟨v,hv,Cr.mono hro (fun _ _ _=>rfl) (fun _ _ h=>h) hs⟩
 ·simp only[aX]at ho;split at ho
  ·rename_i hbq;have:=aax hbq;subst this;cases ho;exact h'
  ·rename_i hbq;refine(hg.objs id' o ho).aC0 hro hnew fun hl' bD g' hi' hb' e=>?_
   subst e;have:=hg.inj id' id o ob bD gh g' ho bX hl' hl hi' hi hb' hb;subst this;exact hbq (Nat.beq_refl _)
 ·have pre:∀i o,look ((id,TS)::S.objs) i=some o->o.live=true->∃o',look S.objs i=some o'/\o'.live=true:=fun i o h hl'=>by
   simp only[aX]at h;split at h
   ·rename_i hbq;have:=aax hbq;subst this;exact⟨ob,bX,hl⟩
   ·exact⟨o,h,hl'⟩
  intro i1 i2 o1 o2 g1 g2 k h1 h2 l1 l2 e1 e2 b1 b2;obtain⟨p1,q1,r1⟩:=pre i1 o1 h1 l1;obtain⟨p2,q2,r2⟩:=pre i2 o2 h2 l2;exact hg.inj i1 i2 p1 p2 g1 g2 k q1 q2 r1 r2 e1 e2 b1 b2
 ·simp only[aX]at ho;split at ho
  ·rename_i hbq;have:=aax hbq;subst this;exact hg.ids id ob bX
  ·exact hg.ids id' o ho
theorem akW(p:Nat×Option E.Ty)(hnc:aR S.tmps)(hg:bN E w0 aQ S a w ι ro):∃ro',aR (WH p S).tmps/\bN E w0 aQ (WH p S) a w ι ro'/\(WH p S).n=S.n:=by
 have same:∃ro',aR S.tmps/\bN E w0 aQ S a w ι ro'/\S.n=S.n:=⟨ro,hnc,hg,rfl⟩
 unfold WH;split
 ·rename_i id off hv;split
  ·rename_i cs t bX hp;split
   ·rename_i ds hag hds;split
    ·rename_i l hl;obtain⟨gh,g,vs,ty,h1,h2,hb,h3,h4,h5,h6,h7⟩:=hg.objs id _ bX;obtain⟨q1,q2⟩:=ad2 hl;have hdl:=toDs_len hds;refine⟨ro,hnc,hg.other hnc bX rfl h1 hb (fun _ _ h=>h) (fun _ _ h=>.inl h) ⟨hag,gh,g,vs,ty,h1,h2,hb,h3,by rw[h4,Hq,q1,<- hdl],fun j v c hv hc=>?_,⟨fun _=>h6,fun hf=>by cases hf⟩,h7⟩,rfl⟩;unfold qd at hc;rw[adZ]at hc;cases hj:l[j]? with
     | none=>rw[hj]at hc;cases hc
     | some x =>
      rw[hj]at hc;cases hc;obtain⟨d,hd,hle⟩:=q2 j x hj;obtain⟨c0,r1,r2⟩:=YA hag x;rw[r1]at hle;have hjc:j<cs.length:=by rw[<- hdl];exact(List.getElem?_eq_some_iff.1 hd).1
      obtain⟨g1,g2⟩:=h5 j v _ hv (aac hjc);have hdr:=toD_rep g2 (toDs_at hds _ _ _ (aac hjc) hd);refine⟨g1,?_⟩;rw[r2];exact .d _ _ ((hle.at_ 0 d c0 rfl rfl).rep hdr)
    ·exact same
   ·exact same
  ·rename_i t l bX hp;obtain⟨h0,gh,g,vs,ty,h1,h2,hb,h3,h4,h5,h6,h7⟩:=hg.objs id _ bX;refine⟨fun k o=>ro k o\/(k=g/\o<l.length),hnc,hg.other hnc bX rfl h1 hb (fun _ _ h=>.inl h) (fun _ _ h=>h.imp (fun h=>h) And.left) ⟨h0,gh,g,vs,ty,h1,h2,hb,h3,h4,fun j v c hv hc=>⟨(h5 j v c hv hc).1,(h5 j v c hv hc).2.mono (fun _ _ h=>.inl h) (fun _ _ _=>rfl) (fun _ _ h=>h)⟩,⟨fun hf=>(by cases hf),fun _ o ho=>.inr ⟨rfl,ho⟩⟩,h7⟩,rfl⟩
  ·exact same
 ·exact same
theorem QJ:∀(l:List (Nat×Option E.Ty)) (S:av E) (ro:Nat->Nat->Prop),aR S.tmps->bN E w0 aQ S a w ι ro->∃ro',aR (ahJ l S).tmps/\bN E w0 aQ (ahJ l S) a w ι ro'/\(ahJ l S).n=S.n
 | [],S,ro,hnc,hg=>⟨ro,hnc,hg,rfl⟩
 | p::r,S,ro,hnc,hg=>by obtain⟨XE,h1,h2,h3⟩:=akW p hnc hg;obtain⟨XF,h4,h5,h6⟩:=QJ r (WH p S) XE h1 h2;exact⟨XF,h4,h5,h6.trans h3⟩
theorem Ug{R:Type}{k:av E->Option R}{rr:R}{t:Nat}{kd:IntKind}{i:Int}(hnc:aR S.tmps)(hg:bN E w0 aQ S a w ι ro)(hl:look S.tmps t=some (.d (.int kd i))) :
  ∀(m j:Nat),splitN k S t kd i m j=some rr->∃S',aR S'.tmps/\bN E w0 aQ S' a w ι ro/\S'.n=S.n/\k S'=some rr
 | 0,_,h=>by cases h
 | m+1,j,h=>by
  unfold splitN at h;cases hb:i==(j:Int)with
  | false=>rw[hb]at h;exact Ug hnc hg hl m (j+1) h
  | true =>
   rw[hb]at h;have e:i=(j:Int):=by simpa using hb
   subst e;refine⟨⟨S.n,(t,.d (.int kd (j:Int)))::S.tmps,S.objs,S.next⟩,fun p hp=>?_,⟨hg.base,hg.size,fun t' x hl'=>?_,hg.objs,hg.inj,hg.fresh,hg.ids⟩,rfl,h⟩
   ·cases hp with
    | head=>rfl
    | tail _ hp=>exact hnc p hp
   ·simp only[aX]at hl';split at hl'
    ·rename_i hb;have:=aax hb;subst this;cases hl';exact hg.tmps _ _ hl
    ·exact hg.tmps t' x hl'
theorem Lb{R:Type}{k:av E->Option R}{rr:R}:∀(l:List (Nat×Nat)) (S:av E),aR S.tmps->bN E w0 aQ S a w ι ro->splitK l S k=some rr->∃S',aR S'.tmps/\bN E w0 aQ S' a w ι ro/\S'.n=S.n/\k S'=some rr
 | [],S,hnc,hg,h=>⟨S,hnc,hg,rfl,h⟩
 | (t,n)::r,S,hnc,hg,h=>by
  unfold splitK at h;split at h
  ·rename_i kd i hl;obtain⟨S1,h1,h2,h3,h4⟩:=Ug hnc hg hl n 0 h;obtain⟨S2,h5,h6,h7,h8⟩:=Lb r S1 h1 h2 h4;exact⟨S2,h5,h6,h7.trans h3,h8⟩
  ·cases h
theorem xV:∀{l:List Nat} {i j:Nat},mP l i=some j->l[j]? = some i
 | [],_,_,h=>by cases h
 | x::r,i,j,h=>by
  unfold mP at h;split at h
  ·rename_i hb;cases h;simp[aax hb]
  ·split at h
   ·rename_i q hq;cases h;simpa using xV hq
   ·cases h
theorem aei:∀{l:List Nat} {i:Nat},mP l i=none->i∉l
 | [],_,_=>by simp
 | x::r,i,h=>by
  unfold mP at h;split at h
  ·cases h
  ·rename_i hb;split at h
   ·cases h
   ·rename_i hq;have:=aei hq;intro hm;cases hm with
    | head=>simp at hb
    | tail _ hm=>exact this hm
theorem ao7{l:List Nat}{i:Nat}(h:l.Nodup):(addN l i).Nodup:=by
 unfold addN;split
 ·exact h
 ·rename_i hn;rw[List.nodup_append];refine⟨h,by simp,fun x hx y hy e=>?_⟩;simp at hy;subst hy;subst e;exact aei hn hx
theorem Lc:∀{m l:List Nat},l.Nodup->(Ue l m).Nodup
 | [],_,h=>h
 | _::r,_,h=>Lc (m:=r) (ao7 h)
theorem aej{ι':Nat->Option Gh}{v:Value}{x:AV E}(hc:KC x=true)(h:aP E w ro ι v x):aP E w ro ι' v x:=by
 cases h with
 | d _ c h=>exact .d _ c h
 | st vs t x ha h=>exact .st vs t x ha h
 | _=>cases hc
theorem ahN{ids:List Nat}{v:Value}{x:AV E}(h:aP E w ro ι v x):aP E w ro (fun j=>(ids[j]?).bind ι) v (Ej ids x):=by
 cases h with
 | any v=>exact .any _
 | d _ c h=>exact .d _ c h
 | st vs t x ha h=>exact .st vs t x ha h
 | agg=>exact .any _
 | uz=>exact .any _
 | kC g off f cs h1 h2=>exact .kC g off f cs h1 h2
 | grow gh t l id h1 h2 h3 h4 h5 =>
  show aP E w ro _ gh.v (match mP ids id with | some j=>.grow t l j | none=>.d (.slice t l));cases hj:mP ids id with
  | some j=>exact .grow gh t l j (show(ids[j]?).bind ι=some gh by rw[xV hj];exact h1) h2 h3 h4 h5
  | none=>exact .d _ _ h5
 | ptr gh g id off h1 h2 =>
  show aP E w ro _ _ (match mP ids id with | some j=>.ptr j off | none=>.any);cases hj:mP ids id with
  | some j=>exact .ptr gh g j off (show(ids[j]?).bind ι=some gh by rw[xV hj];exact h1) h2
  | none=>exact .any _
 | row gh t id ad cap h1 h2 h3 h4 h5 =>
  show aP E w ro _ gh.v (match mP ids id with | some j=>.row t gh.n j | none=>.any);cases hj:mP ids id with
  | some j=>exact .row gh t j ad cap (show(ids[j]?).bind ι=some gh by rw[xV hj];exact h1) h2 h3 h4 h5
  | none=>exact .any _
 | elt gh g id i off cap h1 h2 h3 =>
  show aP E w ro _ _ (match mP ids id with | some j=>.elt j i off | none=>.any);cases hj:mP ids id with
  | some j=>exact .elt gh g j i off cap (show(ids[j]?).bind ι=some gh by rw[xV hj];exact h1) h2 h3
  | none=>exact .any _
 | yl gh l id h1 h2 =>
  show aP E w ro _ _ (match mP ids id with | some j=>.yl j | none=>.any);cases hj:mP ids id with
  | some j=>exact .yl gh l j (show(ids[j]?).bind ι=some gh by rw[xV hj];exact h1) h2
  | none=>exact .any _
 | mp gh g id h1 h2 =>
  show aP E w ro _ _ (match mP ids id with | some j=>.mp j | none=>.any);cases hj:mP ids id with
  | some j=>exact .mp gh g j (show(ids[j]?).bind ι=some gh by rw[xV hj];exact h1) h2
  | none=>exact .any _
 | FJ gh g id n cap h1 h2 =>
  show aP E w ro _ _ (match mP ids id with | some j=>.FJ n j | none=>.any);cases hj:mP ids id with
  | some j=>exact .FJ gh g j n cap (show(ids[j]?).bind ι=some gh by rw[xV hj];exact h1) h2
  | none=>exact .any _
 | mk gh v g T id h1 h2 h3 h4 =>
  show aP E w ro _ _ (match mP ids id with | some j=>.mk T j | none=>.any);cases hj:mP ids id with
  | some j=>exact .mk gh _ g T j (show(ids[j]?).bind ι=some gh by rw[xV hj];exact h1) h2 h3 h4
  | none=>exact .any _
 | sd=>exact .any _
 | fn f vs us a b h1 h2 h3 h4 =>
  show aP E w ro _ _ (bif a.all KC&&b.all KC then .fn f a b else .any);cases hc:a.all KC&&b.all KC with
  | false=>exact .any _
  | true =>rw[abG,afe,afe]at hc;exact .fn f vs us a b h1 h2 (fun j v c hv hj=>aej (hc.1 c (ae7 hj)) (h3 j v c hv hj)) fun j v c hv hj=>aej (hc.2 c (ae7 hj)) (h4 j v c hv hj)
theorem acu{ids:List Nat}{vs:Array Value}{cs:List (AV E)}(h:∀(j:Nat) v c,vs[j]? = some v->cs[j]? = some c->aP E w ro ι v c):∀(j:Nat) v c,vs[j]? = some v->(cs.map (Ej ids))[j]? = some c->aP E w ro (fun j=>(ids[j]?).bind ι) v c:=by
 intro j v c hv hc;rw[adZ]at hc;cases hx:cs[j]? with
 | none=>rw[hx]at hc;cases hc
 | some y =>rw[hx]at hc;cases hc;exact ahN (h j v y hv hx)
theorem auS{ids:List Nat}{v:Value}{x:AV E}(h:aP E w ro ι v x):aP E w ro (fun j=>(ids[j]?).bind ι) v (Ct ids x):=by
 have one:=ahN (ids:=ids) h;cases h with
 | agg vs cs h1 h2=>exact .agg vs _ (by simp[h1]) (acu h2)
 | _=>exact one
theorem ao8{objs:List (Nat×aS E)}{v:Value}{x:AV E}(h:aP E w ro ι v x):aP E w ro ι v (CK objs x):=by
 have h0:=h;cases h with
 | grow gh t l id h1 h2 h3 h4 h5 =>
  show aP E w ro ι gh.v (match look objs id with | some (.tail true)=>.grow t l id | _=>.d (.slice t l));split
  ·exact h0
  ·exact .d _ _ h5
 | _=>exact h0
theorem ao9{live:List Nat}{t:Nat}{y:AV E}(h:look (WI S live) t=some y):∃x,look S.tmps t=some x/\y=CK S.objs x:=by
 induction live with
 | nil=>cases h
 | cons u r ih =>
  unfold WI at h;cases hx:look S.tmps u with
  | some x =>
   rw[hx]at h;simp only[aX]at h;split at h
   ·rename_i hb;have:=aax hb;grind
   ·exact ih h
  | none =>rw[hx]at h;exact ih h
theorem aek{ids:List Nat}:∀{l:List (Nat×AV E)} {t:Nat} {y:AV E},look (YM ids l) t=some y->∃x,look l t=some x/\y=Ct ids x
 | [],_,_,h=>by cases h
 | (u,x)::r,t,y,h=>by
  simp only[YM,aX]at h ⊢;split at h
  ·grind
  ·rename_i hb;rw[if_neg hb];exact aek h
theorem FW{objs:List (Nat×aS E)}{ids:List Nat}:∀{l:List Nat} {j q:Nat} {o:aS E},look (aat objs ids l j) q=some o->∃i,j<=q/\l[q-j]? = some i/\(o = .dead\/∃o',look objs i=some o'/\o=aAz ids o')
 | [],_,_,_,h=>by cases h
 | i::r,j,q,o,h=>by
  simp only[aat,aX]at h;split at h
  ·rename_i hb;have:=aax hb;subst this;refine⟨i,abH _,by simp,?_⟩;grind
  ·obtain⟨i',h1,h2,h3⟩:=FW h;grind
theorem NM{ids:List Nat}:∀(l:List (Nat×AV E)),aR (YM ids l)
 | []=>fun p h=>by cases h
 | (t,x)::r=>fun p h=>by
  cases h with
  | tail _ h=>exact NM r p h
  | head =>
   simp only;cases x with
   | cond=>rfl
   | agg=>rfl
   | any=>rfl
   | d=>rfl
   | st=>rfl
   | uz=>rfl
   | kC=>rfl
   | grow t l id=>simp only[Ct,Ej];split<;>rfl
   | ptr id off=>simp only[Ct,Ej];split<;>rfl
   | row t n id=>simp only[Ct,Ej];split<;>rfl
   | elt id i off=>simp only[Ct,Ej];split<;>rfl
   | FJ n id=>simp only[Ct,Ej];split<;>rfl
   | mp id=>simp only[Ct,Ej];split<;>rfl
   | yl id=>simp only[Ct,Ej];split<;>rfl
   | mk T id=>simp only[Ct,Ej];split<;>rfl
   | sd=>rfl
   | fn f a b=>simp only[Ct,Ej];cases a.all KC&&b.all KC<;>rfl
theorem auT{ι':Nat->Option Gh}{v:Value}{c:AV E}{t:E.Ty}{l:List (E.Den t)}{j:Nat}(h:aP E w ro ι v c)(hc:(qd t l)[j]? = some c):aP E w ro ι' v c:=by
 unfold qd at hc;rw[adZ]at hc;cases hl:l[j]? with
 | none=>rw[hl]at hc;cases hc
 | some x =>
  rw[hl]at hc;cases hc;unfold cell1 at h ⊢;cases h with
  | d _ _ hd=>exact .d _ _ hd
theorem Na(ids:List Nat)(hnd:ids.Nodup)(kept:List (Nat×AV E))(hkept:∀t y,look kept t=some y->∃z,look S.tmps t=some z/\y=CK S.objs z)(hio:∀q,w0.k=some q->∀id gh,q.ι id=some gh->ids[id]? = some id)(hnc:aR S.tmps)(hg:bN E w0 aQ S a w ι ro) :
  aR (YM ids kept)/\bN E w0 aQ ⟨S.n,YM ids kept,aat S.objs ids ids 0,ids.length⟩ a w (fun j=>(ids[j]?).bind ι) ro:=by
 refine⟨NM _,⟨hg.base.below,hg.base.aT,hg.base.rE,fun id gh k h1 h2=>?_,hg.base.defers,(fun q hq=>⟨(hg.base.keep q hq).1,fun id gh h=>by simp only[hio q hq id gh h];exact(hg.base.keep q hq).2 id gh h⟩),fun k o h=>⟨(hg.base.held k o h).1,fun id gh h1 h2=>by cases hj:ids[id]? with | none=>(simp only[hj]at h1;cases h1) | some i=>(simp only[hj]at h1;exact(hg.base.held k o h).2 i gh h1 h2)⟩⟩,hg.size,fun t y hl=>?_,fun id o hl=>?_,?_,fun id h=>?_,fun id o hl=>?_⟩
 ·cases hj:ids[id]? with
  | none=>simp only[hj]at h1;cases h1
  | some i=>simp only[hj]at h1;exact hg.base.uE i gh k h1 h2
 ·obtain⟨x,hx,rfl⟩:=aek hl;obtain⟨z,hz,rfl⟩:=hkept _ _ hx;obtain⟨v,hv,hs⟩:=hg.tmps t z hz;have hc:d9 z=false:=hnc _ (jW _ _ _ hz);have hr:aP E w ro ι v z:=by cases z<;>first | exact hs | cases hc
  refine⟨v,hv,?_⟩;have h2:=auS (ids:=ids) (ao8 (objs:=S.objs) hr);have h3:d9 (Ct ids (CK S.objs z))=false:=by have:=NM (ids:=ids) [(0,CK S.objs z)];exact this (0,Ct ids (CK S.objs z)) aa1
  show Cr E w ro _ a.tmps v (Ct ids (CK S.objs z));generalize Ct ids (CK S.objs z)=y at h2 h3;cases y<;>first | exact h2 | cases h3
 ·obtain⟨i,_,hi,h⟩:=FW hl;simp only[amB]at hi;rcases h with rfl | ⟨o',ho',rfl⟩
  ·trivial
  ·have h:=hg.objs i o' ho';have hi':(fun j=>(ids[j]?).bind ι) id=ι i:=by
    grind
   cases o' with
   | dead=>trivial
   | tail l =>intro hl;obtain⟨gh,xs,h1,h2,h3⟩:=h hl;exact⟨gh,xs,hi'.trans h1,h2,h3⟩
   | Ji =>obtain⟨gh,g,h1,h2⟩:=h;exact⟨gh,g,hi'.trans h1,h2⟩
   | arr t l fz =>obtain⟨h0,gh,g,vs,ty,h1,h2,hb,h3,h4,h5,h6⟩:=h;exact⟨h0,gh,g,vs,ty,hi'.trans h1,h2,hb,h3,h4,fun j v c hv hc=>⟨(h5 j v c hv hc).1,auT (h5 j v c hv hc).2 hc⟩,h6⟩
   | lp _ _ _ _ _ _ _=>trivial
   | mp K V l =>
    obtain⟨gh,g,es,h1,h2,h3,h4,h5,h6⟩:=h;refine⟨gh,g,es,hi'.trans h1,h2,h3,by simpa using h4,by simpa using h5,fun j e x he hx=>?_⟩;rw[adZ]at hx;cases hl':l[j]? with
    | none=>rw[hl']at hx;cases hx
    | some y =>
     rw[hl']at hx;cases hx;obtain⟨k1,k2,k3,k4⟩:=h6 j e y he hl';refine⟨k1,k2,by simpa using k3,fun i v c hv hc=>⟨?_,acu (fun j v c hv hc=>(k4 j v c hv hc).2) i v c hv hc⟩⟩;have hj:i<y.2.length:=by have:=(List.getElem?_eq_some_iff.1 hc).1;simpa using this
     exact(k4 i v _ hv (aac hj)).1
   | row t l =>obtain⟨gh,xs,h1,h2⟩:=h;exact⟨gh,xs,hi'.trans h1,h2⟩
   | box cs =>
    obtain⟨gh,g,vs,ty,h1,h2,hb,h3,h4,h5,h6⟩:=h;exact⟨gh,g,vs,ty,hi'.trans h1,h2,hb,h3,by simp[h4],fun j v c hv hc=>⟨by
     have hj:j<cs.length:=by have:=(List.getElem?_eq_some_iff.1 hc).1;simpa using this
     exact(h5 j v _ hv (aac hj)).1,acu (fun j v c hv hc=>(h5 j v c hv hc).2) j v c hv hc⟩,h6⟩
 ·intro id id' o o' gh bD k hl hl' l1 l2 i1 i2 b1 b2;obtain⟨i,_,hi,h⟩:=FW hl;obtain⟨i',_,hi',h'⟩:=FW hl';simp only[amB]at hi hi';rcases h with rfl | ⟨q,hq,rfl⟩
  ·cases l1
  rcases h' with rfl | ⟨q',hq',rfl⟩
  ·cases l2
  have e1:q.live=true:=by cases q<;>first | exact l1 | cases l1
  have e2:q'.live=true:=by cases q'<;>first | exact l2 | cases l2
  simp only at i1 i2;have i1':(ids[id]?).bind ι=some gh:=i1;have i2':(ids[id']?).bind ι=some bD:=i2;rw[show ids[id]? = some i from hi]at i1';rw[show ids[id']? = some i' from hi']at i2';have:=hg.inj i i' q q' gh bD k hq hq' e1 e2 i1' i2' b1 b2;subst this;have hlt:=(List.getElem?_eq_some_iff.1 hi).1;have hlt':=(List.getElem?_eq_some_iff.1 hi').1;exact(List.getElem?_inj hlt hnd).1 (hi.trans hi'.symm)
 ·grind
 ·obtain⟨i,_,hi,_⟩:=FW hl;grind
theorem auU{l:List Nat}{i j x:Nat}(h:l[j]? = some x):(addN l i)[j]? = some x:=by unfold addN;grind
theorem QK{j x:Nat}:∀{m l:List Nat},l[j]? = some x->(Ue l m)[j]? = some x
 | [],_,h=>h
 | _::r,_,h=>QK (m:=r) (auU h)
def KOk(own:Nat)(w0:Start):Prop:=∀q,w0.k=some q->∀id gh,q.ι id=some gh->id<own
theorem KOk.none{own:Nat}{w0:Start}(h:w0.k=none):KOk own w0:=fun q hq=>by rw[h]at hq;cases hq
theorem akX(own:Nat)(live:List Nat)(hio:KOk own w0)(hnc:aR S.tmps)(hg:bN E w0 aQ S a w ι ro):∃ι',aR (ao5 own live S).tmps/\bN E w0 aQ (ao5 own live S) a w ι' ro :=
 ⟨_,Na _ (Lc (Lc List.nodup_range)) (WI S live) (fun _ _ h=>ao9 h) (fun q hq id gh h=>QK (QK (by rw[List.getElem?_range (hio q hq id gh h)]))) hnc hg⟩
end
section
variable {P:Program} {E:Env P} {O:aI E} {w0:Start} {aQ:Nat->Nat->Prop}
theorem Uh{R:Type}(hO:aL E O)(dN:P.follows .mixedOrders=true){S:av E}{a:Act}{w:World}{ι:Nat->Option Gh}{ro:Nat->Nat->Prop}(hnc:aR S.tmps)(hg:bN E w0 aQ S a w ι ro){k:av E->Option R}{rr:R}{Q:Exit->Act->World->Prop}{b dr:Bool}{ops:Array Oper}{id:Nat}
  (hk:∀S' a' w' ι' ro',aR S'.tmps->bN E w0 aQ S' a' w' ι' ro'->S'.n=S.n->k S'=some rr->Q .normal a' w') (h:Jp b O ops dr S k=some rr):(Code.region id ops dr).wp P Q a w:=by
 have old:awO O ops dr S k=some rr->(Code.region id ops dr).wp P Q a w:=fun h=>by
  cases dr with
  | true=>exact ahE (n:=S.n) (glob:=S.tmps) (objs:=S.objs) (next:=S.next) hO dN hnc hg hk h
  | false=>exact wp_region_list (Iw (n:=S.n) (glob:=S.tmps) hO hnc hk ops.toList [] S.objs S.next a w ι ro hg h)
 unfold Jp at h;split at h
 ·exact ahG hO dN hnc hg hk h
 ·exact old h
end
end
end Go.Proofs.YtclnniijooeajaaGreatDoor.bA
namespace Go.Proofs.YtclnniijooeajaaGreatDoor.bA
open Go Go.RowKit
section
section
variable {P:Program} {E:Env P}
def acv(S:av E)(r:ResultVar):Option (AV E):=match r with
 | .tmp q=>some (ZW [] (look S.tmps q))
 | .cell q ty=>TD S.objs ty (ZW [] (look S.tmps q))
def acw(S:av E):List ResultVar->List TypeId->Option (List (TV E))
 | [],[]=>some []
 | r::rs,T::Ts=>match E.code T with
  | some t=>match acv S r with
   | some v=>match FL t v with
    | some x=>match acw S rs Ts with
     | some xs=>some (⟨t,x⟩::xs)
     | none=>none
    | none=>none
   | none=>none
  | none=>none
 | _,_=>none
def QL:List (TV E)->Nat->List (Nat×AV E)
 | [],_=>[]
 | ⟨t,x⟩::r,i=>(i,gY t x)::QL r (i+1)
def Ui(fn:Func)(args:List (TV E)):av E:=⟨args.length+(fn.ntmps-args.length),QL args 0,[],0⟩
def Ld(fn:Func)(e:dO)(S:av E):Option (List (TV E)):=match e with
 | .exit _=>none
 | .goto _=>none
 | _=>acw (zf S) fn.results.toList fn.resultTypes.toList
def jK(O:aI E)(h:Hint E)(G:Nat->av E->Option (List (TV E)))(fn:Func)(args:List (TV E)):Option (List (TV E)):=match fn.body with
 | some c=>nk O h G 0 c (Ui fn args) (Ld fn)
 | none=>none
def uV(O:aI E)(h:Hint E)(G:Nat->av E->Option (List (TV E)))(fn:Func)(j:Nat)(S:av E):Option (List (TV E)):=match fn.body with
 | some c=>ahL O h G c j S (Ld fn)
 | none=>none
end
section
variable {P:Program}
def uG(P:Program)(c:Code)(Q:Exit->Act->World->Prop)(a:Act)(w:World):Prop :=
 ∀b k cs, ∃e a' w',Q e a' w'/\Arrives P (lone (b.at a (.code c :: .inLoop c::k)) cs w) b k cs e a' w'
theorem uG.wp{c:Code}{Q:Exit->Act->World->Prop}{a:Act}{w:World}(h:uG P c Q a w):(Code.loop c).wp P Q a w:=by intro b k cs;obtain⟨e,a',w',hq,harr⟩:=h b k cs;exact⟨e,a',w',hq,.of_steps (.one step_loop) harr⟩
theorem uG.round{c:Code}{Q:Exit->Act->World->Prop}{a:Act}{w:World}(h:c.wp P (Exit.then (uG P c Q) Q) a w):uG P c Q a w:=by
 intro b k cs;obtain⟨e,a₁,w₁,hq,harr⟩:=h b (.inLoop c::k) cs;cases e with
 | normal =>obtain⟨e₂,a₂,w₂,hq₂,harr₂⟩:=hq b k cs;exact⟨e₂,a₂,w₂,hq₂,.of_steps (Steps.trans harr (.one step_inLoop)) harr₂⟩
 | exit id=>exact⟨_,a₁,w₁,hq,.pass (x:=.inLoop c) rfl (fun _ _=>.inl (by simp)) harr⟩
 | goto l=>exact⟨_,a₁,w₁,hq,.pass (x:=.inLoop c) rfl (fun _ _=>.inl (by simp)) harr⟩
 | ret=>exact⟨_,a₁,w₁,hq,.pass (x:=.inLoop c) rfl (fun _ _=>.inl (by simp)) harr⟩
 | panic ch=>exact⟨_,a₁,w₁,hq,.pass (x:=.inLoop c) rfl (fun _ _=>.inl (by simp)) harr⟩
 | outgrown=>exact⟨_,a₁,w₁,hq,.pass (x:=.inLoop c) rfl (fun _ _=>.inl (by simp)) harr⟩
def Le(P:Program)(c rest:Code)(Q:Exit->Act->World->Prop)(a:Act)(w:World):Prop :=
 ∀b k cs, ∃e a' w',Q e a' w'/\Arrives P (lone (b.at a (.code rest :: .inScope c::k)) cs w) b k cs e a' w'
def OX(P:Program)(c:Code)(Q:Exit->Act->World->Prop):Exit->Act->World->Prop
 | .goto l,a,w=>∃rest,findLabel c l=some rest/\Le P c rest Q a w
 | e,a,w=>Q e a w
theorem Le.of{c rest:Code}{Q:Exit->Act->World->Prop}{a:Act}{w:World}(h:rest.wp P (OX P c Q) a w):Le P c rest Q a w:=by
 intro b k cs;obtain⟨e,a₁,w₁,hq,harr⟩:=h b (.inScope c::k) cs;cases e with
 | normal=>exact⟨.normal,a₁,w₁,hq,Steps.trans harr (.one step_inScope)⟩
 | exit id=>exact⟨.exit id,a₁,w₁,hq,fun k' hk=>harr k' (by simp[exitTo,hk])⟩
 | goto l' =>
  obtain⟨rest',hf,hJ⟩:=hq;have hg:gotoIn l' (.inScope c::k)=some (.code rest' :: .inScope c::k):=by simp[gotoIn,hf]
  obtain⟨e₂,a₂,w₂,hq₂,harr₂⟩:=hJ b k cs;exact⟨e₂,a₂,w₂,hq₂,.of_steps (harr _ hg) harr₂⟩
 | ret=>exact⟨_,a₁,w₁,hq,harr⟩
 | panic ch=>exact⟨_,a₁,w₁,hq,harr⟩
 | outgrown=>exact⟨_,a₁,w₁,hq,harr⟩
theorem ael{c:Code}{Q:Exit->Act->World->Prop}{a:Act}{w:World}(h:c.wp P (OX P c Q) a w):(Code.scope c).wp P Q a w:=by
 intro b k cs;obtain⟨e,a₁,w₁,hq,harr⟩:=h b (.inScope c::k) cs;cases e with
 | normal=>exact⟨.normal,a₁,w₁,hq,.head step_scope (Steps.trans harr (.one step_inScope))⟩
 | exit id=>exact⟨.exit id,a₁,w₁,hq,fun k' hk=>.head step_scope (harr k' (by simp[exitTo,hk]))⟩
 | goto l' =>
  obtain⟨rest',hf,hJ⟩:=hq;have hg:gotoIn l' (.inScope c::k)=some (.code rest' :: .inScope c::k):=by simp[gotoIn,hf]
  obtain⟨e₂,a₂,w₂,hq₂,harr₂⟩:=hJ b k cs;exact⟨e₂,a₂,w₂,hq₂,.of_steps (.head step_scope (harr _ hg)) harr₂⟩
 | ret=>exact⟨_,a₁,w₁,hq,.of_steps (.one step_scope) harr⟩
 | panic ch=>exact⟨_,a₁,w₁,hq,.of_steps (.one step_scope) harr⟩
 | outgrown=>exact⟨_,a₁,w₁,hq,.of_steps (.one step_scope) harr⟩
def oP(P:Program):Code->(Exit->Act->World->Prop)->Option (Code×(Exit->Act->World->Prop))
 | .scope c,Q=>some (c,Q)
 | .seq x y,Q=>(match fB x with
  | true=>oP P x (Exit.then (y.wp P Q) Q)
  | false=>oP P y Q)
 | .block id b,Q=>oP P b (Exit.inBlock id Q)
 | _,_=>none
def mF(P:Program):Code->Nat->(Exit->Act->World->Prop)->Option (Code×(Exit->Act->World->Prop))
 | .loop b,0,Q=>some (b,Q)
 | .loop b,j+1,Q=>mF P b j (Exit.then (uG P b Q) Q)
 | .seq x y,j,Q=>match Nat.blt j (bS x)with
  | true=>mF P x j (Exit.then (y.wp P Q) Q)
  | false=>mF P y (j-bS x) Q
 | .cond _ x y,j,Q=>match Nat.blt j (bS x)with
  | true=>mF P x j Q
  | false=>mF P y (j-bS x) Q
 | .block id b,j,Q=>mF P b j (Exit.inBlock id Q)
 | .scope b,j,Q=>(match Aj b with
  | true=>mF P b j (Exit.noGoto Q)
  | false=>none)
 | _,_,_=>none
def Placed(P:Program)(c0:Code)(Q0:Exit->Act->World->Prop)(i:Nat)(c:Code)(Q:Exit->Act->World->Prop):Prop :=
 ∀j,j<bS c->mF P c0 (i+j) Q0=mF P c j Q
theorem QM{a b:Nat}(h:a<b):Nat.blt a b=true:=by simpa[Nat.blt_eq]using h
theorem Nb{a b:Nat}(h:b<=a):Nat.blt a b=false:=by
 cases hb:Nat.blt a b with
 | false=>rfl
 | true=>rw[Nat.blt_eq]at hb;omega
section
variable {c0:Code} {Q0 Q:Exit->Act->World->Prop} {i:Nat}
theorem Placed.seq{x y:Code}(h:Placed P c0 Q0 i (.seq x y) Q):Placed P c0 Q0 i x (Exit.then (y.wp P Q) Q)/\Placed P c0 Q0 (i+bS x) y Q:=by
 refine⟨fun j hj=>?_,fun j hj=>?_⟩
 ·rw[h j (by show j<bS x+bS y;omega)];simp only[mF,QM hj]
 ·rw[ajS,h (bS x+j) (by show bS x+j<bS x+bS y;omega)];simp only[mF,Nb (show bS x<=bS x+j by omega),Nat.add_sub_cancel_left]
theorem Placed.cond{c:Operand}{x y:Code}(h:Placed P c0 Q0 i (.cond c x y) Q):Placed P c0 Q0 i x Q/\Placed P c0 Q0 (i+bS x) y Q:=by
 refine⟨fun j hj=>?_,fun j hj=>?_⟩
 ·rw[h j (by show j<bS x+bS y;omega)];simp only[mF,QM hj]
 ·rw[ajS,h (bS x+j) (by show bS x+j<bS x+bS y;omega)];simp only[mF,Nb (show bS x<=bS x+j by omega),Nat.add_sub_cancel_left]
theorem Placed.block{id:Nat}{b:Code}(h:Placed P c0 Q0 i (.block id b) Q):Placed P c0 Q0 i b (Exit.inBlock id Q):=fun j hj=>h j hj
theorem Placed.scope{b:Code}(hb:Aj b=true)(h:Placed P c0 Q0 i (.scope b) Q):Placed P c0 Q0 i b (Exit.noGoto Q):=fun j hj=>by rw[h j (by simp only[bS,hb];exact hj)];simp only[mF,hb]
theorem Placed.head{b:Code}(h:Placed P c0 Q0 i (.loop b) Q):mF P c0 i Q0=some (b,Q):=h 0 (by show 0<bS b+1;omega)
theorem Placed.inner{b:Code}(h:Placed P c0 Q0 i (.loop b) Q):Placed P c0 Q0 (i+1) b (Exit.then (uG P b Q) Q):=fun j hj=>by rw[ajS,Nat.add_comm 1 j];exact h (j+1) (by show j+1<bS b+1;omega)
theorem Placed.amA{c:Code}(h:bS c=0):Placed P c0 Q0 i c Q:=fun j hj=>by omega
theorem Placed.whole:Placed P c0 Q0 0 c0 Q0:=fun j _=>by rw[aeY]
end
end
section
variable {P:Program} {E:Env P} {O:aI E} {h:Hint E} {w0:Start} {aQ:Nat->Nat->Prop} {n:Nat} {c0:Code} {Q0:Exit->Act->World->Prop}
def aAC(E:Env P)(w0:Start)(aQ:Nat->Nat->Prop)(n:Nat)(c0:Code)(Q0:Exit->Act->World->Prop)(i:Nat)(S:av E):Prop :=
 ∀b Q,mF P c0 i Q0=some (b,Q)->∀a w ι ro,aR S.tmps->bN E w0 aQ S a w ι ro->S.n=n->uG P b Q a w
def aC1(E:Env P)(w0:Start)(aQ:Nat->Nat->Prop)(n:Nat)(c0:Code)(Q0:Exit->Act->World->Prop)(i:Nat)(S:av E):Prop :=
 ∀l,i=100+l->∀sc Q rest,oP P c0 Q0=some (sc,Q)->findLabel sc l=some rest->∀a w ι ro,aR S.tmps->bN E w0 aQ S a w ι ro->S.n=n->rest.wp P (OX P sc Q) a w
def Uj(E:Env P)(w0:Start)(aQ:Nat->Nat->Prop)(n:Nat)(c0:Code)(Q0:Exit->Act->World->Prop)(i:Nat)(S:av E):Prop:=aAC E w0 aQ n c0 Q0 i S/\aC1 E w0 aQ n c0 Q0 i S
theorem zh:∀(c:Code) (j:Nat) (Q:Exit->Act->World->Prop),bS c<=j->mF P c j Q=none
 | .loop b,0,Q,h=>by simp[bS]at h
 | .loop b,j+1,Q,h=>zh b j _ (by simp only[bS]at h;omega)
 | .seq x y,j,Q,h=>by simp only[bS]at h;simp only[mF,Nb (show bS x<=j by omega)];exact zh y _ Q (by omega)
 | .cond _ x y,j,Q,h=>by simp only[bS]at h;simp only[mF,Nb (show bS x<=j by omega)];exact zh y _ Q (by omega)
 | .block id b,j,Q,h=>zh b j _ (by simpa only [bS]using h)
 | .skip,_,_,_=>rfl
 | .ret,_,_,_=>rfl
 | .exit _,_,_,_=>rfl
 | .region ..,_,_,_=>rfl
 | .scope b,j,Q,h=>by
  unfold mF;split
  ·rename_i hb;exact zh b j _ (by simp only[bS,hb]at h;exact h)
  ·rfl
 | .label _,_,_,_=>rfl
 | .goto _,_,_,_=>rfl
 | .rangeFunc ..,_,_,_=>rfl
 | .refuse _,_,_,_=>rfl
theorem Ak(hh:Hint E)(i:Nat)(hio:KOk hh.own w0){S:av E}{a:Act}{w:World}{ι:Nat->Option Gh}{ro:Nat->Nat->Prop}(hnc:aR S.tmps)(hg:bN E w0 aQ S a w ι ro)(hn:S.n=n) :
  ∃ι',aR (La hh i S).tmps/\bN E w0 aQ (La hh i S) a w ι' ro/\(La hh i S).n=n:=by
 obtain⟨ι1,auV,hg1,hn1⟩:=aaw (Uf hh.oO i) S ι hnc hg;obtain⟨ι',hnc',hg'⟩:=akX hh.own (Uf hh.live i) hio auV hg1;exact⟨ι',hnc',hg',hn1.trans hn⟩
theorem sD{R:Type}(hO:aL E O)(dN:P.follows .mixedOrders=true){G:Nat->av E->Option R}{rr:R}(hG:∀i S,G i S=some rr->KOk h.own w0/\Uj E w0 aQ n c0 Q0 i S) :
  ∀(c:Code) (i:Nat) (S:av E) (k:dO->av E->Option R) (Q:Exit->Act->World->Prop) (a:Act) (w:World) (ι:Nat->Option Gh) (ro:Nat->Nat->Prop),Placed P c0 Q0 i c Q->(fB c=true->oP P c Q=oP P c0 Q0) ->
  aR S.tmps->bN E w0 aQ S a w ι ro->S.n=n->nk O h G i c S k=some rr ->
  (∀e S' a' w' ι' ro',aR S'.tmps->bN E w0 aQ S' a' w' ι' ro'->S'.n=n->k e S'=some rr->Q e.toExit a' w')->c.wp P Q a w:=by
 intro c
 induction c with
 | skip=>intro i S k Q a w ι ro _ _ hnc hg hn h hk;exact wp_skip (hk .normal S a w ι ro hnc hg hn h)
 | ret=>intro i S k Q a w ι ro _ _ hnc hg hn h hk;exact wp_ret (hk .ret S a w ι ro hnc hg hn h)
 | exit id=>intro i S k Q a w ι ro _ _ hnc hg hn h hk;exact wp_exit (hk (.exit id) S a w ι ro hnc hg hn h)
 | region id ops draw =>
  intro i S k Q a w ι ro _ _ hnc hg hn hh hk;have go:∀(S:av E) (ro:Nat->Nat->Prop),aR S.tmps->bN E w0 aQ S a w ι ro->S.n=n->Jp (QG h.lst id) O ops draw S (k .normal)=some rr->(Code.region id ops draw).wp P Q a w:=fun S ro hnc hg hn hq =>Uh hO dN hnc hg (fun S' a' w' ι' ro' h1 h2 h3 h4=>hk .normal S' a' w' ι' ro' h1 h2 (h3.trans hn) h4) hq
  simp only[nk]at hh;have fin:∀(l1:List (Nat×Nat)) (l2:List Nat) (S:av E) (ro:Nat->Nat->Prop),aR S.tmps->bN E w0 aQ S a w ι ro->S.n=n->splitK l1 (M9 l2 S) (fun S'=>Jp (QG h.lst id) O ops draw S' (k .normal))=some rr->(Code.region id ops draw).wp P Q a w:=by intro l1 l2 S ro hnc hg hn h;obtain⟨XE,g1,g2,g3⟩:=NK l2 S ro hnc hg;obtain⟨S2,g4,g5,g6,g7⟩:=Lb _ _ g1 g2 h;grind
  split at hh
  ·obtain⟨h1,h2⟩:=DU hnc hg;obtain⟨roA,a1,a2,a3⟩:=QJ (Uf h.arr id) (zf S) _ h1 h2;exact fin _ _ _ roA a1 a2 (a3.trans hn) hh
  ·obtain⟨roA,a1,a2,a3⟩:=QJ (Uf h.arr id) S ro hnc hg;exact fin _ _ _ roA a1 a2 (a3.trans hn) hh
 | seq x y OY ihy =>
  intro i S k Q a w ι ro hp hs hnc hg hn h hk;simp only[nk]at h;split at h
  ·cases h
  ·rename_i hxy;have sx:fB x=true->oP P x (Exit.then (y.wp P Q) Q)=oP P c0 Q0:=fun hx=>by
    rw[<- hs (by simp only[fB,hx,abZ])];simp only[oP,hx]
   have sy:fB y=true->oP P y Q=oP P c0 Q0:=fun hy=>by
    have hx:fB x=false:=by grind
    rw[<- hs (by simp only[fB,hy,ahV])];simp only[oP,hx]
   refine wp_seq (OY i S _ _ a w ι ro hp.seq.1 sx hnc hg hn h fun e S' a' w' ι' ro' h1 h2 h3 h4=>?_);cases e with
   | normal=>exact ihy _ S' k Q a' w' ι' ro' hp.seq.2 sy h1 h2 h3 h4 hk
   | exit id=>exact hk (.exit id) S' a' w' ι' ro' h1 h2 h3 h4
   | ret=>exact hk .ret S' a' w' ι' ro' h1 h2 h3 h4
   | goto l=>exact hk (.goto l) S' a' w' ι' ro' h1 h2 h3 h4
 | cond c x y OY ihy =>
  intro i S k Q a w ι ro hp _ hnc hg hn h hk;have hc:=xU (E:=E) (asm:=[]) hg.tmps (fun j b hb=>by simp[uD]at hb) c;simp only[nk]at h;split at h
  ·cases h
  ·rename_i hxy;rw[Bool.or_eq_false_iff]at hxy;split at h
   ·rename_i b hb;rw[hb]at hc;have hc:=hc.sj;cases b with
    | true=>exact wp_cond_true hc (OY i S k Q a w ι ro hp.cond.1 (fun e=>by rw[hxy.1]at e;cases e) hnc hg hn h hk)
    | false=>exact wp_cond_false hc (ihy _ S k Q a w ι ro hp.cond.2 (fun e=>by rw[hxy.2]at e;cases e) hnc hg hn h hk)
   ·cases h
 | block id body ih =>
  intro i S k Q a w ι ro hp hs hnc hg hn h hk;refine wp_block (ih i S _ _ a w ι ro hp.block hs hnc hg hn h fun e S' a' w' ι' ro' h1 h2 h3 h4=>?_);cases e with
  | goto l=>exact hk (.goto l) S' a' w' ι' ro' h1 h2 h3 h4
  | normal=>exact hk .normal S' a' w' ι' ro' h1 h2 h3 h4
  | ret=>exact hk .ret S' a' w' ι' ro' h1 h2 h3 h4
  | exit i =>
   simp only[dO.toExit,Exit.inBlock,Jq]at h4 ⊢;cases hb:Nat.beq i id with
   | true =>rw[hb]at h4;rw[if_pos (aax hb)];exact hk .normal S' a' w' ι' ro' h1 h2 h3 h4
   | false =>rw[hb]at h4;rw[if_neg (fun e=>by subst e;simp at hb)];exact hk (.exit i) S' a' w' ι' ro' h1 h2 h3 h4
 | loop body ih =>intro i S k Q a w ι ro hp _ hnc hg hn hh hk;obtain⟨ι',h1,h2,h3⟩:=Ak h i (hG i _ hh).1 hnc hg hn;exact((hG i _ hh).2.1 body Q hp.head a w ι' ro h1 h2 h3).wp
 | label l=>intro i S k Q a w ι ro _ _ hnc hg hn h hk;exact wp_label (hk .normal S a w ι ro hnc hg hn h)
 | goto l=>intro i S k Q a w ι ro _ _ hnc hg hn h hk;exact wp_goto (hk (.goto l) S a w ι ro hnc hg hn h)
 | scope c ih =>
  intro i S k Q a w ι ro hp hs hnc hg hn hh hk;simp only[nk]at hh;split at hh
  ·rename_i hng;refine wp_scope_straight (ih i S (agw k) (Exit.noGoto Q) a w ι ro (hp.scope hng) (fun e=>by rw[uF c hng]at e;cases e) hnc hg hn hh fun e S' a' w' ι' ro' h1 h2 h3 h4=>?_);cases e with
   | normal=>exact hk .normal S' a' w' ι' ro' h1 h2 h3 h4
   | exit id=>exact hk (.exit id) S' a' w' ι' ro' h1 h2 h3 h4
   | ret=>exact hk .ret S' a' w' ι' ro' h1 h2 h3 h4
   | goto l=>cases h4
  rename_i hng;have hs1:fB (.scope c)=true:=by simp only[fB,hng,aem]
  split at hh
  ·rename_i hns hz;refine ael (ih i S _ _ a w ι ro (Placed.amA hz) (fun e=>by rw[hns]at e;cases e) hnc hg hn hh fun e S' a' w' ι' ro' h1 h2 h3 h4=>?_);cases e with
   | normal=>exact hk .normal S' a' w' ι' ro' h1 h2 h3 h4
   | exit id=>exact hk (.exit id) S' a' w' ι' ro' h1 h2 h3 h4
   | ret=>exact hk .ret S' a' w' ι' ro' h1 h2 h3 h4
   | goto l =>
    simp only[aau]at h4;split at h4
    ·rename_i rest hf;obtain⟨ι2,g1,g2,g3⟩:=Ak h (100+l) (hG _ _ h4).1 h1 h2 h3;exact⟨rest,hf,Le.of ((hG _ _ h4).2.2 l rfl c Q rest (hs hs1).symm hf a' w' ι2 ro' g1 g2 g3)⟩
    ·cases h4
  ·cases hh
 | _=>intro i S k Q a w ι ro _ _ hnc hg hn h hk;cases h
theorem apa{R:Type}(hO:aL E O)(dN:P.follows .mixedOrders=true){G:Nat->av E->Option R}{rr:R}(hG:∀i S,G i S=some rr->KOk h.own w0/\Uj E w0 aQ n c0 Q0 i S) :
  ∀(c:Code) (i j:Nat) (k:dO->av E->Option R) (Q:Exit->Act->World->Prop) (i':Nat) (b:Code) (k':dO->av E->Option R),Placed P c0 Q0 i c Q->fB c=false->JO O h G i c j k=some (i',b,k') ->
  (∀e S' a' w' ι' ro',aR S'.tmps->bN E w0 aQ S' a' w' ι' ro'->S'.n=n->k e S'=some rr->Q e.toExit a' w') ->
  i'=i+j/\fB b=false/\∃Q',Placed P c0 Q0 i' (.loop b) Q'/\∀e S' a' w' ι' ro',aR S'.tmps->bN E w0 aQ S' a' w' ι' ro'->S'.n=n->k' e S'=some rr->Q' e.toExit a' w':=by
 intro c
 induction c with
 | seq x y OY ihy =>
  intro i j k Q i' b k' hp hns hc hk;simp only[JO]at hc;split at hc
  ·rename_i hj;refine OY i j _ _ i' b k' hp.seq.1 (Bool.or_eq_false_iff.1 hns).1 hc fun e S' a' w' ι' ro' h1 h2 h3 h4=>?_
   cases e with
   | normal=>exact sD hO dN hG y _ S' k Q a' w' ι' ro' hp.seq.2 (fun e=>by rw[(Bool.or_eq_false_iff.1 hns).2]at e;cases e) h1 h2 h3 h4 hk
   | goto l=>exact hk (.goto l) S' a' w' ι' ro' h1 h2 h3 h4
   | exit id=>exact hk (.exit id) S' a' w' ι' ro' h1 h2 h3 h4
   | ret=>exact hk .ret S' a' w' ι' ro' h1 h2 h3 h4
  ·rename_i hj;have hle:bS x<=j:=by
    rcases ahg j (bS x)with h | h
    ·rw[QM h]at hj;cases hj
    ·exact h
   obtain⟨e1,rest⟩:=ihy _ _ k Q i' b k' hp.seq.2 (Bool.or_eq_false_iff.1 hns).2 hc hk;exact⟨by omega,rest⟩
 | cond c x y OY ihy =>
  intro i j k Q i' b k' hp hns hc hk;simp only[JO]at hc;split at hc
  ·exact OY i j k Q i' b k' hp.cond.1 (Bool.or_eq_false_iff.1 hns).1 hc hk
  ·rename_i hj;have hle:bS x<=j:=by
    rcases ahg j (bS x)with h | h
    ·rw[QM h]at hj;cases hj
    ·exact h
   obtain⟨e1,rest⟩:=ihy _ _ k Q i' b k' hp.cond.2 (Bool.or_eq_false_iff.1 hns).2 hc hk;exact⟨by omega,rest⟩
 | scope c ih =>
  intro i j k Q i' b k' hp hns hc hk;simp only[JO]at hc;split at hc
  ·rename_i hng;refine ih i j (agw k) (Exit.noGoto Q) i' b k' (hp.scope hng) (uF c hng) hc fun e S' a' w' ι' ro' h1 h2 h3 h4=>?_
   cases e with
   | normal=>exact hk .normal S' a' w' ι' ro' h1 h2 h3 h4
   | exit id=>exact hk (.exit id) S' a' w' ι' ro' h1 h2 h3 h4
   | ret=>exact hk .ret S' a' w' ι' ro' h1 h2 h3 h4
   | goto l=>cases h4
  ·cases hc
 | block id body ih =>
  intro i j k Q i' b k' hp hns hc hk;refine ih i j _ _ i' b k' hp.block hns hc fun e S' a' w' ι' ro' h1 h2 h3 h4=>?_
  cases e with
  | goto l=>exact hk (.goto l) S' a' w' ι' ro' h1 h2 h3 h4
  | normal=>exact hk .normal S' a' w' ι' ro' h1 h2 h3 h4
  | ret=>exact hk .ret S' a' w' ι' ro' h1 h2 h3 h4
  | exit i =>
   simp only[dO.toExit,Exit.inBlock,Jq]at h4 ⊢;cases hb:Nat.beq i id with
   | true =>rw[hb]at h4;rw[if_pos (aax hb)];exact hk .normal S' a' w' ι' ro' h1 h2 h3 h4
   | false =>rw[hb]at h4;rw[if_neg (fun e=>by subst e;simp at hb)];exact hk (.exit i) S' a' w' ι' ro' h1 h2 h3 h4
 | loop body ih =>
  intro i j k Q i' b k' hp hns hc hk;cases j with
  | zero =>cases hc;exact⟨rfl,hns,Q,hp,hk⟩
  | succ j =>
   obtain⟨e1,rest⟩:=ih (i+1) j _ _ i' b k' hp.inner hns hc fun e S' a' w' ι' ro' h1 h2 h3 h4=>(by
    cases e with
    | normal =>obtain⟨ι2,g1,g2,g3⟩:=Ak h i (hG i _ h4).1 h1 h2 h3;exact(hG i _ h4).2.1 body Q hp.head a' w' ι2 ro' g1 g2 g3
    | exit id=>exact hk (.exit id) S' a' w' ι' ro' h1 h2 h3 h4
    | goto l=>exact hk (.goto l) S' a' w' ι' ro' h1 h2 h3 h4
    | ret=>exact hk .ret S' a' w' ι' ro' h1 h2 h3 h4)
   exact⟨by omega,rest⟩
 | _=>intro i j k Q i' b k' hp hns hc hk;cases hc
theorem apb{R:Type}(hO:aL E O)(dN:P.follows .mixedOrders=true){G:Nat->av E->Option R}{rr:R}(hG:∀i S,G i S=some rr->KOk h.own w0/\Uj E w0 aQ n c0 Q0 i S) :
  ∀(c:Code) (i:Nat) (k:dO->av E->Option R) (Q:Exit->Act->World->Prop) (sc:Code) (k':dO->av E->Option R),Placed P c0 Q0 i c Q->acs O h G i c k=some (sc,k') ->
  (∀e S' a' w' ι' ro',aR S'.tmps->bN E w0 aQ S' a' w' ι' ro'->S'.n=n->k e S'=some rr->Q e.toExit a' w') ->
  ∃Q',oP P c Q=some (sc,Q')/\∀e S' a' w' ι' ro',aR S'.tmps->bN E w0 aQ S' a' w' ι' ro'->S'.n=n->k' e S'=some rr->Q' e.toExit a' w':=by
 intro c
 induction c with
 | scope c ih =>intro i k Q sc k' hp hc hk;cases hc;exact⟨Q,rfl,hk⟩
 | seq x y OY ihy =>
  intro i k Q sc k' hp hc hk;simp only[acs]at hc;split at hc
  ·rename_i hx hy;simp only[oP,hx];refine OY i _ _ sc k' hp.seq.1 hc fun e S' a' w' ι' ro' h1 h2 h3 h4=>?_
   cases e with
   | normal=>exact sD hO dN hG y _ S' k Q a' w' ι' ro' hp.seq.2 (fun e=>by rw[hy]at e;cases e) h1 h2 h3 h4 hk
   | exit id=>exact hk (.exit id) S' a' w' ι' ro' h1 h2 h3 h4
   | goto l=>exact hk (.goto l) S' a' w' ι' ro' h1 h2 h3 h4
   | ret=>exact hk .ret S' a' w' ι' ro' h1 h2 h3 h4
  ·rename_i hx hy;simp only[oP,hx];exact ihy _ k Q sc k' hp.seq.2 hc hk
  ·cases hc
 | block id body ih =>
  intro i k Q sc k' hp hc hk;refine ih i _ _ sc k' hp.block hc fun e S' a' w' ι' ro' h1 h2 h3 h4=>?_
  cases e with
  | normal=>exact hk .normal S' a' w' ι' ro' h1 h2 h3 h4
  | goto l=>exact hk (.goto l) S' a' w' ι' ro' h1 h2 h3 h4
  | ret=>exact hk .ret S' a' w' ι' ro' h1 h2 h3 h4
  | exit i =>
   simp only[dO.toExit,Exit.inBlock,Jq]at h4 ⊢;cases hb:Nat.beq i id with
   | true =>rw[hb]at h4;rw[if_pos (aax hb)];exact hk .normal S' a' w' ι' ro' h1 h2 h3 h4
   | false =>rw[hb]at h4;rw[if_neg (fun e=>by subst e;simp at hb)];exact hk (.exit i) S' a' w' ι' ro' h1 h2 h3 h4
 | _=>intro i k Q sc k' hp hc hk;cases hc
theorem QN{R:Type}(hO:aL E O)(dN:P.follows .mixedOrders=true){G:Nat->av E->Option R}{rr:R}(hG:∀i S,G i S=some rr->KOk h.own w0/\Uj E w0 aQ n c0 Q0 i S){j:Nat}{S:av E}{k:dO->av E->Option R}
  (hk:∀e S' a' w' ι' ro',aR S'.tmps->bN E w0 aQ S' a' w' ι' ro'->S'.n=n->k e S'=some rr->Q0 e.toExit a' w') (hs:ahL O h G c0 j S k=some rr):Uj E w0 aQ n c0 Q0 j S:=by
 unfold ahL at hs;split at hs
 ·rename_i hj;have hj:=anv hj;split at hs
  ·rename_i hn;have hnl:=anv hn;refine⟨fun b Q hc=>?_,fun l hl sc Q rest hsc hf a w ι ro hnc hg hn=>?_⟩
   ·rw[zh c0 j Q0 (by omega)]at hc;cases hc
   ·unfold aAB at hs;split at hs
    ·rename_i sc2 k2 hc;obtain⟨Q2,q1,q2⟩:=apb hO dN hG c0 0 k Q0 sc2 k2 Placed.whole hc hk;rw[hsc]at q1;cases q1;subst hl;rw[Nat.add_sub_cancel_left,hf]at hs;simp only at hs;split at hs
     ·rename_i hns hz;refine sD hO dN hG rest 0 S _ _ a w ι ro (Placed.amA hz) (fun e=>by rw[hns]at e;cases e) hnc hg hn hs fun e S' a' w' ι' ro' h1 h2 h3 h4=>?_
      cases e with
      | normal=>exact q2 .normal S' a' w' ι' ro' h1 h2 h3 h4
      | exit id=>exact q2 (.exit id) S' a' w' ι' ro' h1 h2 h3 h4
      | ret=>exact q2 .ret S' a' w' ι' ro' h1 h2 h3 h4
      | goto l =>
       simp only[aau]at h4;split at h4
       ·rename_i awP hf2;obtain⟨ι2,g1,g2,g3⟩:=Ak h (100+l) (hG _ _ h4).1 h1 h2 h3;exact⟨awP,hf2,Le.of ((hG _ _ h4).2.2 l rfl sc Q awP hsc hf2 a' w' ι2 ro' g1 g2 g3)⟩
       ·cases h4
     ·cases hs
    ·cases hs
  ·cases hs
 rename_i hj;split at hs
 ·cases hs
 rename_i hns;split at hs
 ·rename_i i b k' hc;refine⟨?_,fun l hl=>absurd (Nat.ble_eq_true_of_le (show 100<=j by omega)) (by rw[hj];decide)⟩;obtain⟨e1,hnb,Q',hp,hk'⟩:=apa hO dN hG c0 0 j k Q0 i b k' Placed.whole hns hc hk;rw[aeY]at e1;subst e1;intro b2 Q2 hc2 a w ι ro hnc hg hn;rw[hp.head]at hc2;cases hc2;refine uG.round (sD hO dN hG b (i+1) S _ _ a w ι ro hp.inner (fun e=>by rw[hnb]at e;cases e) hnc hg hn hs fun e S' a' w' ι' ro' h1 h2 h3 h4=>?_);cases e with
  | normal =>obtain⟨ι2,g1,g2,g3⟩:=Ak h i (hG i _ h4).1 h1 h2 h3;exact(hG i _ h4).2.1 b Q' hp.head a' w' ι2 ro' g1 g2 g3
  | exit id=>exact hk' (.exit id) S' a' w' ι' ro' h1 h2 h3 h4
  | goto l=>exact hk' (.goto l) S' a' w' ι' ro' h1 h2 h3 h4
  | ret=>exact hk' .ret S' a' w' ι' ro' h1 h2 h3 h4
 ·cases hs
theorem QO:∀{args:List (TV E)} {i t:Nat} {x:AV E},look (QL args i) t=some x->i<=t/\∃y,args[t-i]? = some y/\x=gY y.1 y.2
 | [],_,_,_,h=>by cases h
 | ⟨ty,y⟩::r,i,t,x,h=>by
  simp only[QL,aX]at h;split at h
  ·rename_i hb;have:=aax hb;subst this;cases h;exact⟨abH _,⟨ty,y⟩,by simp,rfl⟩
  ·rename_i hb;obtain⟨h1,z,h2,h3⟩:=QO h;grind
theorem wh{t:E.Ty}{x:E.Den t}:d9 (gY t x)=false:=by
 unfold gY;split
 ·rfl
 ·split<;>rfl
theorem Lf:∀(args:List (TV E)) (i:Nat),aR (QL args i)
 | [],_=>fun p h=>by cases h
 | ⟨t,x⟩::r,i=>fun p h=>by
  cases h with
  | head=>exact wh
  | tail _ h=>exact Lf r (i+1) p h
def YO(tmps:Array Value):ResultVar->Sem Value
 | .tmp t=>pure (tmps.getD t undef)
 | .cell q ty=>do loadVar ty (<- asAddr (tmps.getD q undef))
theorem YP{S:av E}{a:Act}{w:World}{ι:Nat->Option Gh}{ro:Nat->Nat->Prop}(hg:bN E w0 aQ S a w ι ro){r:ResultVar}{x:AV E}(h:acv S r=some x) :
  ∃v,(YO a.tmps r).run P w = .ok v w/\aP E w ro ι v x:=by
 have aoX:Wx a []:=fun j b hb=>by simp[uD]at hb
 cases r with
 | tmp t =>cases h;exact⟨_,rfl,xU (E:=E) hg.tmps aoX (.tmp t)⟩
 | cell q ty =>
  have hv:=xU (E:=E) hg.tmps aoX (.tmp q);change aP E w ro ι (a.tmps.getD q undef) (ZW [] (look S.tmps q))at hv;generalize hu:a.tmps.getD q undef=u at hv;obtain⟨val,hrun,hr⟩:=Si (S:=S) hg.objs hv h;refine⟨val,?_,hr⟩;show(do loadVar ty (<- asAddr (a.tmps.getD q undef)):Sem Value).run P w=_;rw[hu];simp only[Instr.loadAt,Sem.run_bind]at hrun ⊢;cases u with
  | pointer p =>
   cases p with
   | some ad=>simpa[Instr.sureAddr,asAddr]using hrun
   | none=>simp[Instr.sureAddr,stuck,Result.andThen]at hrun
  | _=>simp[Instr.sureAddr,stuck,Result.andThen]at hrun
theorem YQ{S:av E}{a:Act}{w:World}{ι:Nat->Option Gh}{ro:Nat->Nat->Prop}(hg:bN E w0 aQ S a w ι ro):∀{rs:List ResultVar} {Ts:List TypeId} {xs:List (TV E)},acw S rs Ts=some xs ->
  ∃vs:List Value,(rs.mapM (YO a.tmps)).run P w=Result.ok vs w/\gq E w ro vs xs
 | [],[],xs,h=>by cases h;exact⟨[],by simp,trivial⟩
 | r::rs,T::Ts,xs,h=>by
  unfold acw at h;split at h
  ·rename_i t ht;split at h
   ·rename_i v hv;split at h
    ·rename_i x hx;split at h
     ·rename_i ys hys;cases h;obtain⟨u,hu,hr⟩:=YP hg hv;obtain⟨us,Xy,hrs⟩:=YQ hg hys;exact⟨u::us,by rw[List.mapM_cons];simp only[Sem.run_bind,hu,Result.andThen_ok,Xy,Sem.run_pure],Ag hr hx,hrs⟩
     ·cases h
    ·cases h
   ·cases h
  ·cases h
 | [],_::_,_,h=>by cases h
 | _::_,[],_,h=>by cases h
theorem acy{w w':World}(h:w.grownBy w' none):Below w.heap.size w w':=⟨h.os,h.tape,h.output,h.size,fun k hk=>h.block k hk (fun e=>by cases e)⟩
def agy(E:Env P)(fn:Func)(res:List (TV E))(w:World)(ro:Nat->Nat->Prop):Exit->Act->World->Prop :=
 bodyPost P fn fun e w'=>∃v,e = .returned v/\Below w.heap.size w w'/\qj E w' (fun k o=>ro k o\/(w.heap.size<=k/\k<w'.heap.size)) v res
theorem FX{fn:Func}{res:List (TV E)}{w:World}{ro:Nat->Nat->Prop}{e:dO}{S':av E}{a':Act}{w':World}{ι':Nat->Option Gh}{ro':Nat->Nat->Prop}(hnc':aR S'.tmps)(hg':bN E ⟨w,none,none,[],fun _=>none⟩ ro S' a' w' ι' ro')(hk:Ld fn e S'=some res) :
  agy E fn res w ro e.toExit a' w':=by
 obtain⟨_,hg'⟩:=DU hnc' hg';generalize QI S'.objs ι' ro'=ro' at hg';have fin:acw (zf S') fn.results.toList fn.resultTypes.toList=some res->a'.defers=[]/\∃v,(results fn a'.tmps).run P w' = .ok v w' /\
   (∃v',Ending.returned v = .returned v'/\Below w.heap.size w w'/\qj E w' (fun k o=>ro k o\/(w.heap.size<=k/\k<w'.heap.size)) v' res):=by
  intro hres;obtain⟨vs,hvs,hrep⟩:=YQ hg' hres;have hmono:gq E w' (fun k o=>ro k o\/(w.heap.size<=k/\k<w'.heap.size)) vs res:=by
   have hmm:∀(vs:List Value) (rs:List (TV E)),gq E w' ro' vs rs->gq E w' (fun k o=>ro k o\/(w.heap.size<=k/\k<w'.heap.size)) vs rs:=by
    intro vs
    induction vs with
    | nil=>intro rs h;cases rs<;>exact h
    | cons v vs ih =>
     intro rs h;cases rs with
     | nil=>exact h
     | cons r rs =>
      exact⟨h.1.mono (fun k o hk=>by
       rcases hg'.base.rE k o hk with h | h
       ·exact .inl h
       ·rcases h with h | h
        ·exact .inr ⟨h,hg'.base.aT k o hk⟩
        ·cases h) (fun _ _ _=>rfl),ih rs h.2⟩
   exact hmm vs res hrep
  have hl:=(gq.at_ vs res hrep).1;refine⟨hg'.base.defers,if h:vs.length=1 then vs[0]else .tuple vs.toArray,?_,_,rfl,acy hg'.base.below,?_⟩
  ·show(do let vs <- fn.results.mapM (YO a'.tmps);pure (if h:vs.size=1 then vs[0]else .tuple vs):Sem Value).run P w'=_;rw[Array.mapM_eq_mapM_toList];simp only[Sem.run_bind,Sem.run_map,hvs];simp[Result.andThen]
  ·unfold qj;split
   ·rename_i t x
    match vs,hl,hmono with
    | [v],_,hm=>exact hm.1
   ·rename_i hne;by_cases h1:vs.length=1
    ·exfalso
     match res,hl.symm.trans h1,hne with
     | [⟨t,x⟩],_,hne=>exact hne t x rfl
    ·rw[dif_neg h1];exact⟨vs,rfl,hmono⟩
 cases e with
 | normal=>exact fin hk
 | ret=>exact fin hk
 | exit id=>cases hk
 | goto l=>cases hk
def Ev(E:Env P)(fn:Func)(res:List (TV E))(i:Nat)(S:av E):Prop :=
 ∀(w0:World) aQ n c,fn.body=some c->Uj E ⟨w0,none,none,[],fun _=>none⟩ aQ n c (agy E fn res w0 aQ) i S
open Classical in
def Gr(E:Env P)(fn:Func)(res:List (TV E))(i:Nat)(S:av E):Option (List (TV E)):=if Ev E fn res i S then some res else none
theorem gK{fn:Func}{res:List (TV E)}{i:Nat}{S:av E}(h:Ev E fn res i S):Gr E fn res i S=some res:=if_pos h
theorem apc{fn:Func}{res r:List (TV E)}{i:Nat}{S:av E}(h:Gr E fn res i S=some r):Ev E fn res i S:=by
 unfold Gr at h;split at h
 ·assumption
 ·cases h
theorem Ev.step(hO:aL E O)(dN:P.follows .mixedOrders=true){fn:Func}{res:List (TV E)}{j:Nat}{S:av E}(hs:uV O h (Gr E fn res) fn j S=some res):Ev E fn res j S:=by intro w0 aQ n c hc;unfold uV at hs;rw[hc]at hs;exact QN hO dN (fun i S hi=>⟨.none rfl,apc hi w0 aQ n c hc⟩) (fun e S' a' w' ι' ro' h1 h2 _ h4=>FX h1 h2 h4) hs
theorem KD(hO:aL E O)(dN:P.follows .mixedOrders=true){f:FuncId}{fn:Func}(hf:P.funcs[f]? = some fn){args res:List (TV E)}(hr:jK O h (Gr E fn res) fn args=some res):EK E f args res:=by
 unfold jK at hr;split at hr
 ·rename_i c hc;intro w ro vals hargs kP;obtain⟨hlen,hat⟩:=gq.at_ vals args hargs;refine calls_of_wp hf hc ?_;have hg:bN E ⟨w,none,none,[],fun _=>none⟩ ro (Ui fn args) { tmps:=vals.toArray++Array.replicate (fn.ntmps-vals.toArray.size) undef,defers:=[] } w (fun _=>none) ro:={
   base:=⟨⟨rfl,rfl,rfl,abH _,fun _ _ _=>rfl⟩,kP,fun k o h=>.inl h,(fun id gh k h=>by cases h),rfl,(fun q h=>by cases h),(fun k o h=>by cases h)⟩
   size:=by simp[Ui,hlen]
   tmps:=fun t x hl=>by
    obtain⟨_,y,hy,rfl⟩:=QO hl;rw[amB]at hy;have hlt:t<vals.length:=by rw[hlen];exact(List.getElem?_eq_some_iff.1 hy).1
    have hv:=aac hlt;refine⟨vals[t],by simp[anC,hlt],?_⟩;have hr:aP E w ro (fun _=>none) vals[t] (gY y.1 y.2):=rP (hat t _ y hv hy);have hc:=wh (E:=E) (t:=y.1) (x:=y.2);generalize gY y.1 y.2=z at hr hc;cases z<;>first | exact hr | cases hc
   objs:=fun id o hl=>by cases hl
   inj:=fun id id' o o' gh bD k hl=>by cases hl
   fresh:=fun _ _=>rfl
   ids:=fun id o hl=>by cases hl }
  exact sD (n:=(Ui fn args).n) (Q0:=agy E fn res w ro) (c0:=c) hO dN (fun i S hi=>⟨.none rfl,apc hi w ro _ c hc⟩) c 0 (Ui fn args) (Ld fn) _ _ w _ ro Placed.whole (fun _=>rfl) (Lf args 0) hg rfl hr
   fun e S' a' w' ι' ro' h1 h2 _ h4=>FX h1 h2 h4
 ·cases hr
end
end
end Go.Proofs.YtclnniijooeajaaGreatDoor.bA
namespace Go.Proofs.YtclnniijooeajaaGreatDoor.bA
open Go Go.RowKit
section
theorem ayj{P:Program}{T a b c:Nat}(h:(P.info? T).map (fun i=>(i.size,i.bytes,i.zero.map fun z=>z.cells.size))=some (a,b,some c))(hc:c=a) :
  ∃i z,P.info? T=some i/\i.size=a/\i.bytes=b/\i.zero=some z/\z.cells.size=a:=by
 subst hc;cases hi:P.info? T with
 | none=>rw[hi]at h;cases h
 | some i =>
  rw[hi]at h;simp only[aiM,Option.some.injEq,Prod.mk.injEq]at h;obtain⟨h1,h2,h3⟩:=h;cases hz:i.zero with
  | none=>rw[hz]at h3;cases h3
  | some z =>rw[hz]at h3;exact⟨i,z,rfl,h1,h2,hz,by simpa using h3⟩
section
variable {Ty:Type} {Den:Ty->Type}
def qU(k:IntKind):bP Den->Option Int
 | .int k' n=>if k=k' then some n else none
 | _=>none
def dBl:bP Den->Option Bool
 | .bool b=>some b
 | _=>none
def uW:bP Den->Option (anP)
 | .str s=>some s
 | _=>none
def OZ(dec:DecidableEq Ty)(t:Ty):bP Den->Option (List (Den t))
 | .slice t' l=>match dec t' t with
  | .isTrue h=>some (h▸l)
  | .isFalse _=>none
 | .raw (.slice none 0 0)=>some []
 | _=>none
def rd{α β:Type}(cs:List (bP Den))(r:bP Den->Option α)(k:α->List (bP Den)->Option β):Option β:=match cs with
 | c::cs=>(match r c with
  | some y=>k y cs
  | none=>none)
 | []=>none
def rn{β:Type}(cs:List (bP Den))(x:β):Option β:=match cs with
 | []=>some x
 | _=>none
theorem aAE{α β:Type}{cs:List (bP Den)}{r:bP Den->Option α}{k:α->List (bP Den)->Option β}{x:β}(h:rd cs r k=some x):∃c l y,cs=c::l/\r c=some y/\k y l=some x:=by
 unfold rd at h;split at h
 ·split at h
  ·rename_i e;exact⟨_,_,_,rfl,e,h⟩
  ·cases h
 ·cases h
theorem aAF{β:Type}{cs:List (bP Den)}{x y:β}(h:rn cs x=some y):cs=[]/\x=y:=by
 unfold rn at h;split at h
 ·cases h;exact⟨rfl,rfl⟩
 ·cases h
def aAG:bP Den->Option Int
 | .flt n=>some n
 | _=>none
def aAH:bP Den->Option (Int×Int)
 | .FI a b=>some (a,b)
 | _=>none
theorem ayk{c:bP Den}{n:Int}(h:aAG c=some n):TB c (.flt n):=by
 unfold aAG at h;split at h
 ·cases h;exact .inl rfl
 ·cases h
theorem ayl{c:bP Den}{n:Int×Int}(h:aAH c=some n):TB c (.FI n.1 n.2):=by
 unfold aAH at h;split at h
 ·cases h;exact .inl rfl
 ·cases h
def dFn:bP Den->Option Nat
 | .raw (.func (.func f) ⟨[]⟩ ⟨[]⟩)=>some f
 | _=>none
theorem aAI{c:bP Den}{n:Nat}(h:dFn c=some n):TB c (.raw (.func (.func n) #[] #[])):=by
 unfold dFn at h;split at h
 ·cases h;exact .inl rfl
 ·cases h
theorem aym{k:IntKind}{c:bP Den}{n:Int}(h:qU k c=some n):TB c (.int k n):=by
 unfold qU at h;split at h
 ·split at h
  ·rename_i e;subst e;cases h;exact .inl rfl
  ·cases h
 ·cases h
theorem aAJ{c:bP Den}{n:Bool}(h:dBl c=some n):TB c (.bool n):=by
 unfold dBl at h;split at h
 ·cases h;exact .inl rfl
 ·cases h
theorem ayn{c:bP Den}{n:anP}(h:uW c=some n):TB c (.str n):=by
 unfold uW at h;split at h
 ·cases h;exact .inl rfl
 ·cases h
theorem aAK{dec:DecidableEq Ty}{t:Ty}{c:bP Den}{l:List (Den t)}(h:OZ dec t c=some l):TB c (.slice t l):=by
 unfold OZ at h;split at h
 ·split at h
  ·rename_i e _;subst e;cases h;exact .inl rfl
  ·cases h
 ·cases h;exact .inr ⟨rfl,t,rfl⟩
 ·cases h
end
section
variable {P:Program} {E:Env P}
abbrev jq(E:Env P):=List (TV E)->Option (Bool×List (TV E))
abbrev XG(E:Env P):=List (TV E)->Option (Bool×((t:E.Ty)×List (E.Den t)))
abbrev XH(E:Env P):=(t:E.Ty)->List (E.Den t)->List (TV E)->Option (Bool×Bool×List (E.Den t))
def apd(a:E.Ty)(back:Bool)(ok:List (E.Den a)->Bool)(F:List (E.Den a)->List (E.Den a)):XH E:=fun t l rest=>match Iu t a l,rest with
 | some x,[]=>(match Iu a t (F x)with
  | some y=>some (ok x,back,y)
  | none=>none)
 | _,_=>none
theorem ahP{a:E.Ty}{F:List (E.Den a)->List (E.Den a)}{ok:List (E.Den a)->Bool}{bk back:Bool}{t:E.Ty}{l l':List (E.Den t)}{rest:List (TV E)}(h:apd a bk ok F t l rest=some (true,back,l')) :
  ∃x:List (E.Den a),(⟨t,l⟩:(t:E.Ty)×List (E.Den t))=⟨a,x⟩/\rest=[]/\bk=back/\ok x=true/\(⟨t,l'⟩:(t:E.Ty)×List (E.Den t))=⟨a,F x⟩:=by
 unfold apd at h;split at h
 ·rename_i x hx;unfold Iu at hx;split at hx
  ·rename_i e _;subst e;cases hx;split at h
   ·rename_i y hy;unfold Iu at hy;split at hy
    ·cases hy;simp only[Option.some.injEq,Prod.mk.injEq]at h;obtain⟨h1,h2,h3⟩:=h;exact⟨_,rfl,rfl,h2,h1,by rw[<- h3]⟩
    ·cases hy
   ·cases h
  ·cases hx
 ·cases h
def jX(l:List (FuncId×jq E))(m:List (FuncId×XG E):=[])(u:List (FuncId×XH E):=[])(gr:List (FuncId×E.Ty):=[]):aI E where
 call:=fun f args=>match look l f with
  | some F=>F args
  | none=>none
 KR:=fun f=>match look m f with
  | some _=>true
  | none=>false
 fresh:=fun f args=>match look m f with
  | some F=>F args
  | none=>none
 awF:=fun f=>match look u f with
  | some _=>true
  | none=>false
 grow:=fun f=>look gr f
 aov:=fun f t l xs=>match look u f with
  | some F=>F t l xs
  | none=>none
 inl:=.nil
def O1(E:Env P)(f:FuncId)(F:XG E):Prop :=
 (∃fn,P.funcs[f]? = some fn/\(fn.name == "runtime.NumGoroutine")=false/\fn.body.isNone=false)/\∀args t l,F args=some (true,⟨t,l⟩)->aai E f args t l
def agz(E:Env P)(f:FuncId)(F:XH E):Prop :=
 (∃fn,P.funcs[f]? = some fn/\(fn.name == "runtime.NumGoroutine")=false/\fn.body.isNone=false)/\∀t l xs back l',F t l xs=some (true,back,l')->ahh E f t l xs back l'
def ahQ(E:Env P)(f:FuncId)(t:E.Ty):Prop :=
 (∃fn,P.funcs[f]? = some fn/\(fn.name == "runtime.NumGoroutine")=false/\fn.body.isNone=false)/\ad3 E f t
def Hy(l:List (FuncId×E.Ty)):Prop:=∀p∈l,ahQ E p.1 p.2
theorem Hy.nil:Hy (E:=E) []:=fun p h=>by cases h
theorem Hy.cons{f:FuncId}{t:E.Ty}{l:List (FuncId×E.Ty)}(h:ahQ E f t)(hl:Hy l):Hy ((f,t)::l):=fun p hp=>by
 cases hp with
 | head=>exact h
 | tail _ hp=>exact hl p hp
def Lg(l:List (FuncId×XH E)):Prop:=∀p∈l,agz E p.1 p.2
def QS(l:List (FuncId×jq E)):Prop:=∀p∈l,bE E p.1 p.2
def El(l:List (FuncId×XG E)):Prop:=∀p∈l,O1 E p.1 p.2
theorem gu{l:List (FuncId×jq E)}{m:List (FuncId×XG E)}{u:List (FuncId×XH E)}{gr:List (FuncId×E.Ty)}(h:QS l)(hm:El m)(hu:Lg u)(hg:Hy gr):aL E (jX l m u gr):=by
 refine⟨fun f args res hr=>?_,fun f args t x hr=>?_,fun f t x rest back x' hr=>?_,fun f t hr=>hg _ (jW _ _ _ hr),(fun f args objs next k rr h=>by cases h),(fun f T h=>by cases h),(fun f args x h=>by cases h),(fun f t x args y res h=>by cases h),(fun f p xs res h=>by cases h)⟩
 ·simp only[jX]at hr;split at hr
  ·rename_i F hF;have:=h _ (jW _ _ _ hF);exact⟨this.1,this.2 args res hr⟩
  ·cases hr
 ·simp only[jX]at hr;split at hr
  ·rename_i F hF;have:=hm _ (jW _ _ _ hF);exact⟨this.1,this.2 args t x hr⟩
  ·cases hr
 ·simp only[jX]at hr;split at hr
  ·rename_i F hF;have:=hu _ (jW _ _ _ hF);exact⟨this.1,this.2 t x rest back x' hr⟩
  ·cases hr
theorem QS.nil:QS (E:=E) []:=fun p h=>by cases h
theorem El.nil:El (E:=E) []:=fun p h=>by cases h
theorem QS.cons{f:FuncId}{F:jq E}{l:List (FuncId×jq E)}(h:bE E f F)(hl:QS l):QS ((f,F)::l):=fun p hp=>by
 cases hp with
 | head=>exact h
 | tail _ hp=>exact hl p hp
theorem Lg.nil:Lg (E:=E) []:=fun p h=>by cases h
theorem Lg.cons{f:FuncId}{F:XH E}{l:List (FuncId×XH E)}(h:agz E f F)(hl:Lg l):Lg ((f,F)::l):=fun p hp=>by
 cases hp with
 | head=>exact h
 | tail _ hp=>exact hl p hp
theorem El.cons{f:FuncId}{F:XG E}{l:List (FuncId×XG E)}(h:O1 E f F)(hl:El l):El ((f,F)::l):=fun p hp=>by
 cases hp with
 | head=>exact h
 | tail _ hp=>exact hl p hp
def kQ(t:E.Ty)(v:TV E):Option (E.Den t):=MW v.1 t v.2
theorem iD{t:E.Ty}{v:TV E}{x:E.Den t}(h:kQ t v=some x):v=⟨t,x⟩:=by
 unfold kQ MW at h;cases hd:E.dec v.1 t with
 | isFalse hn=>rw[hd]at h;cases h
 | isTrue he =>rw[hd]at h;obtain⟨t',y⟩:=v;simp only at he;subst he;cases h;rfl
def EM(a t:E.Ty)(ok:E.Den a->Bool)(F:E.Den a->E.Den t):jq E
 | [x]=>match kQ a x with
  | some x=>some (ok x,[⟨t,F x⟩])
  | none=>none
 | _=>none
def FY(a b t:E.Ty)(ok:E.Den a->E.Den b->Bool)(F:E.Den a->E.Den b->E.Den t):jq E
 | [x,y]=>match kQ a x with
  | some x=>match kQ b y with
   | some y=>some (ok x y,[⟨t,F x y⟩])
   | none=>none
  | none=>none
 | _=>none
def ape(a b t u:E.Ty)(ok:E.Den a->E.Den b->Bool)(F:E.Den a->E.Den b->E.Den t)(G:E.Den a->E.Den b->E.Den u):jq E
 | [x,y]=>match kQ a x with
  | some x=>match kQ b y with
   | some y=>some (ok x y,[⟨t,F x y⟩,⟨u,G x y⟩])
   | none=>none
  | none=>none
 | _=>none
def fn3(a b c t:E.Ty)(ok:E.Den a->E.Den b->E.Den c->Bool)(F:E.Den a->E.Den b->E.Den c->E.Den t):jq E
 | [x,y,z]=>match kQ a x with
  | some x=>match kQ b y with
   | some y=>match kQ c z with
    | some z=>some (ok x y z,[⟨t,F x y z⟩])
    | none=>none
   | none=>none
  | none=>none
 | _=>none
end
section
variable {P:Program} {E:Env P} {O:aI E} {masks:Hint E} {f:FuncId} {fn:Func}
theorem O4 (hO:aL E O) (dN:P.follows .mixedOrders=true) (hf:P.funcs[f]? = some fn) (hn:(fn.name == "runtime.NumGoroutine")=false) (hb:fn.body.isNone=false) {F:jq E}
  (h:∀args res,F args=some (true,res)->jK O masks (Gr E fn res) fn args=some res):bE E f F :=
 ⟨⟨fn,hf,hn,hb⟩,fun args res hr=>KD hO dN hf (h args res hr)⟩
theorem Al {a t:E.Ty} {ok:E.Den a->Bool} {F:E.Den a->E.Den t} (hO:aL E O) (dN:P.follows .mixedOrders=true) (hf:P.funcs[f]? = some fn) (hn:(fn.name == "runtime.NumGoroutine")=false) (hb:fn.body.isNone=false)
  (h:∀x,ok x=true->jK O masks (Gr E fn [⟨t,F x⟩]) fn [⟨a,x⟩]=some [⟨t,F x⟩]):bE E f (EM a t ok F):=by
 refine O4 (masks:=masks) hO dN hf hn hb fun args res hr=>?_
 unfold EM at hr;split at hr
 ·split at hr
  ·rename_i x hx;injection hr with hr
   injection hr with h1 h2
   subst h2;rw[iD hx];exact h _ h1
  ·cases hr
 ·cases hr
theorem Jr {a b t:E.Ty} {ok:E.Den a->E.Den b->Bool} {F:E.Den a->E.Den b->E.Den t} (hO:aL E O) (dN:P.follows .mixedOrders=true) (hf:P.funcs[f]? = some fn) (hn:(fn.name == "runtime.NumGoroutine")=false) (hb:fn.body.isNone=false)
  (h:∀x y,ok x y=true->jK O masks (Gr E fn [⟨t,F x y⟩]) fn [⟨a,x⟩,⟨b,y⟩]=some [⟨t,F x y⟩]):bE E f (FY a b t ok F):=by
 refine O4 (masks:=masks) hO dN hf hn hb fun args res hr=>?_
 unfold FY at hr;split at hr
 ·split at hr
  ·rename_i x hx;split at hr
   ·rename_i y hy;injection hr with hr
    injection hr with h1 h2
    subst h2;rw[iD hx,iD hy];exact h _ _ h1
   ·cases hr
  ·cases hr
 ·cases hr
theorem amC {a b t u:E.Ty} {ok:E.Den a->E.Den b->Bool} {F:E.Den a->E.Den b->E.Den t} {G':E.Den a->E.Den b->E.Den u} (hO:aL E O) (dN:P.follows .mixedOrders=true) (hf:P.funcs[f]? = some fn) (hn:(fn.name == "runtime.NumGoroutine")=false) (hb:fn.body.isNone=false)
  (h:∀x y,ok x y=true->jK O masks (Gr E fn [⟨t,F x y⟩,⟨u,G' x y⟩]) fn [⟨a,x⟩,⟨b,y⟩]=some [⟨t,F x y⟩,⟨u,G' x y⟩]):bE E f (ape a b t u ok F G'):=by
 refine O4 (masks:=masks) hO dN hf hn hb fun args res hr=>?_
 unfold ape at hr;split at hr
 ·split at hr
  ·rename_i x hx;split at hr
   ·rename_i y hy;injection hr with hr
    injection hr with h1 h2
    subst h2;rw[iD hx,iD hy];exact h _ _ h1
   ·cases hr
  ·cases hr
 ·cases hr
theorem acz {a t:E.Ty} {ok:E.Den a->Bool} {F:E.Den a->E.Den t} (ex:∃fn,P.funcs[f]? = some fn/\(fn.name == "runtime.NumGoroutine")=false/\fn.body.isNone=false) (h:∀x,ok x=false):bE E f (EM a t ok F) :=
 ⟨ex,fun args r hr=>by
  unfold EM at hr;split at hr
  ·split at hr
   ·rw[h]at hr;cases hr
   ·cases hr
  ·cases hr⟩
theorem ayo {a b t:E.Ty} {ok:E.Den a->E.Den b->Bool} {F:E.Den a->E.Den b->E.Den t} (ex:∃fn,P.funcs[f]? = some fn/\(fn.name == "runtime.NumGoroutine")=false/\fn.body.isNone=false) (h:∀x y,ok x y=false):bE E f (FY a b t ok F) :=
 ⟨ex,fun args r hr=>by
  unfold FY at hr;split at hr
  ·split at hr
   ·split at hr
    ·rw[h]at hr;cases hr
    ·cases hr
   ·cases hr
  ·cases hr⟩
theorem ayp {a b c t:E.Ty} {ok:E.Den a->E.Den b->E.Den c->Bool} {F:E.Den a->E.Den b->E.Den c->E.Den t} (ex:∃fn,P.funcs[f]? = some fn/\(fn.name == "runtime.NumGoroutine")=false/\fn.body.isNone=false) (h:∀x y z,ok x y z=false):bE E f (fn3 a b c t ok F) :=
 ⟨ex,fun args r hr=>by
  unfold fn3 at hr;split at hr
  ·split at hr
   ·split at hr
    ·split at hr
     ·rw[h]at hr;cases hr
     ·cases hr
    ·cases hr
   ·cases hr
  ·cases hr⟩
theorem aaz {a b c t:E.Ty} {ok:E.Den a->E.Den b->E.Den c->Bool} {F:E.Den a->E.Den b->E.Den c->E.Den t} (hO:aL E O) (dN:P.follows .mixedOrders=true) (hf:P.funcs[f]? = some fn) (hn:(fn.name == "runtime.NumGoroutine")=false) (hb:fn.body.isNone=false)
  (h:∀x y z,ok x y z=true->jK O masks (Gr E fn [⟨t,F x y z⟩]) fn [⟨a,x⟩,⟨b,y⟩,⟨c,z⟩]=some [⟨t,F x y z⟩]):bE E f (fn3 a b c t ok F):=by
 refine O4 (masks:=masks) hO dN hf hn hb fun args res hr=>?_
 unfold fn3 at hr;split at hr
 ·split at hr
  ·rename_i x hx;split at hr
   ·rename_i y hy;split at hr
    ·rename_i z hz;injection hr with hr
     injection hr with h1 h2
     subst h2;rw[iD hx,iD hy,iD hz];exact h _ _ _ h1
    ·cases hr
   ·cases hr
  ·cases hr
 ·cases hr
end
end
end Go.Proofs.YtclnniijooeajaaGreatDoor.bA
namespace Go.Proofs.YtclnniijooeajaaGreatDoor.bA
open Go Go.RowKit
section
def aen(T b:TypeId):Code :=
 ((Go.Code.region 0 #[{ dst:=some 2,op:=Go.Op.assign (Go.Operand.const (Go.Value.slice none 0 0)),type:=T,pos:= "slices.go:355",after:=#[],guard:=none }] false).seq
  (((Go.Code.region 1
   #[{ dst:=some 3,op:=Go.Op.move (Go.Operand.tmp 0),type:=T,pos:= "slices.go:357",after:=#[],guard:=none },
    {dst:=some 4,op:=Go.Op.binOp Go.BinOp.eql T (Go.Operand.tmp 3) (Go.Operand.const (Go.Value.slice none 0 0)) T,type:=b,pos:= "slices.go:357",after:=#[{ on:=0,ground:=Go.Ground.data }],guard:=none }] false).seq
   (Go.Code.cond (Go.Operand.tmp 4)
    ((Go.Code.region 2 #[{ dst:=some 2,op:=Go.Op.assign (Go.Operand.const (Go.Value.slice none 0 0)),type:=T,pos:= "slices.go:358",after:=#[],guard:=none }] false).seq Go.Code.ret)
    Go.Code.skip)).seq
   ((Go.Code.region 3
    #[{ dst:=some 5,op:=Go.Op.buildSlice T 0 #[],type:=T,pos:= "slices.go:362",after:=#[],guard:=none },
     {dst:=some 6,op:=Go.Op.move (Go.Operand.tmp 0),type:=T,pos:= "slices.go:362",after:=#[],guard:=none },
     {dst:=some 7,op:=Go.Op.call { callee:=Go.Callee.builtin Go.Builtin.append,args:=#[Go.Operand.tmp 5,Go.Operand.tmp 6],argTypes:=#[T,T] },type:=T,pos:= "slices.go:362",after:=#[{ on:=0,ground:=Go.Ground.data }, { on:=1,ground:=Go.Ground.data }],guard:=none },
     {dst:=some 2,op:=Go.Op.assign (Go.Operand.tmp 7),type:=T,pos:= "slices.go:362",
      after:=#[{ on:=2,ground:=Go.Ground.data }, { on:=2,ground:=Go.Ground.chain }, { on:=0,ground:=Go.Ground.phase }, { on:=1,ground:=Go.Ground.phase }, { on:=2,ground:=Go.Ground.phase }],guard:=none }] false).seq Go.Code.ret)))
section
variable {P:Program} {E:Env P}
def O5(e:TypeId):XG E
 | [v]=>bif E.agg v.1 then none else(match E.cells v.1 v.2 with
  | [.slice t l]=>bif Nat.beq (E.tid t) e then some (decide (l.length*E.bytes t<=aB),⟨t,l⟩)else none
  | _=>none)
 | _=>none
theorem ayq{w:World}{a:Addr}{u:Value}(h:w.cell? a=some u):a.block<w.heap.size:=by
 rcases ahg a.block w.heap.size with hl | hl
 ·exact hl
 ·unfold World.cell? at h;rw[Array.getElem?_eq_none hl]at h;cases h
theorem uH{ops:Array Oper}{rest:List Oper}{o:Oper}{a:Act}{w w':World}{v:Value}{Q:Exit->Act->World->Prop}(hg:o.guard=none)(hr:(execOp a.eval o).run P w = .ok (.value v) w')(h:wpList P ops Q rest (a.put o.dst v) w'):wpList P ops Q (o::rest) a w:=by
 refine wpList_plain hg fun K hK=>?_
 unfold Oper.wp;rw[hr];exact hK _ _ h
theorem Iz {T b e:TypeId} {f:FuncId} {fn:Func} (hT:P.underlying T=some (.slice e)) (hf:P.funcs[f]? = some fn) (hn:(fn.name == "runtime.NumGoroutine")=false) (hb:fn.body=some (aen T b)) (hres:fn.results = #[.tmp 2]) (hnt:fn.ntmps=8) :
  O1 E f (O5 e):=by
 refine⟨⟨fn,hf,hn,by rw[hb];rfl⟩,fun args t l hF=>?_⟩;unfold O5 at hF;split at hF
 ·rename_i v;obtain⟨s,x⟩:=v;cases hag:E.agg s with
  | true=>simp only[hag,cond_true]at hF;cases hF
  | false =>
   simp only[hag,cond_false]at hF;split at hF
   ·rename_i t' l' hcells;cases hbe:Nat.beq (E.tid t') e with
    | false=>rw[hbe]at hF;cases hF
    | true =>
     rw[hbe]at hF;have hbe:=aax hbe;subst hbe;simp only[cond_true]at hF;injection hF with hF
     injection hF with hok hF
     cases hF;have hok:l.length*E.bytes t<=aB:=of_decide_eq_true hok;intro w ro vals hargs kP
     match vals,hargs with
     | [v],hargs =>
     have hd:dU E w ro v (.slice t l):=by
      rcases hargs.1 with⟨ha,_⟩ | ⟨_,c,hc,hd⟩
      ·rw[hag]at ha;cases ha
      ·rw[hcells]at hc;cases hc;exact hd
     obtain⟨ad,cap,news,rfl,hnl,had,hnc,hn1,hnd⟩:=hd.row;have huE:=fun(n c:Nat)=>Lib.run_eql_slice_nil (P:=P) w T (E.tid t) ad l.length cap n c hT
     have fin:∀(a:Act) (w':World) (gh:Gh) (xs:List Value),a.tmps[2]? = some gh.v->a.defers=[]->Below w.heap.size w w'->gh.n=l.length->gh.e=E.tid t->gh.sz=E.size t->tL w' gh xs->mX E w' ro t xs l->(∀g,gh.blk=some g->w.heap.size<=g) ->
       bodyPost P fn (fun e w'=>∃(gh:Gh) (xs:List Value),e = .returned gh.v/\Below w.heap.size w w'/\gh.n=l.length/\gh.e=E.tid t/\gh.sz=E.size t/\tL w' gh xs/\mX E w' ro t xs l/\∀g,gh.blk=some g->w.heap.size<=g) .ret a w':=by
      intro a w' gh xs h1 h2 h3 h4 h5 h6 h7 h8 h9;refine⟨h2,gh.v,?_,gh,xs,rfl,h3,h4,h5,h6,h7,h8,h9⟩;simp[results,hres,h1]
     refine calls_of_wp hf hb ?_;rw[hnt];unfold aen;refine wp_seq (wp_region_list (uH rfl (v:=.slice none 0 0) (w':=w) (by simp[execOp,Act.eval]) (wpList_nil ?_)));refine wp_seq (wp_seq (wp_region_list (uH rfl (w':=w) (v:=.slice ad l.length cap) (by simp[execOp,Act.eval,Act.put]) (uH rfl (w':=w) (v:=.bool ad.isNone) (by simp[execOp,Act.eval,Act.put,eqGuard,huE]) (wpList_nil ?_)))));cases ad with
     | none =>have hl0:=had rfl;obtain rfl:=aeI hl0;refine wp_cond_true (by simp[Act.eval,Act.put]) (wp_seq (wp_region_list (uH rfl (w':=w) (v:=.slice none 0 0) (by simp[execOp,Act.eval]) (wpList_nil (wp_ret ?_)))));exact fin _ w ⟨.slice none 0 0,0,E.tid t,E.size t,none⟩ [] (by simp[Act.put]) rfl (Below.refl _ _) rfl rfl rfl (.inl ⟨World.ownsRow_nil w 0 _ _,rfl⟩) (fun i x j c hi=>by simp at hi) (fun g hg=>by cases hg)
     | some A =>
      refine wp_cond_false (by simp[Act.eval,Act.put]) (wp_skip ?_);obtain⟨i,z,hi,his,hib,hz,hzs⟩:=E.EI t;have hbp:=E.MV t;let w1:=w.alloc (.cells #[] (E.tid t));have hown1:w1.ownsRow 0 (E.tid t) i.size (.slice (some ⟨w.heap.size,0,none⟩) 0 0) 0 []:=World.ownsRow_made w #[] 0 (aas _) (aas _) (by simp);obtain⟨v',w',b',hrun,hown',hgrow,hat,_⟩:=Ho (P:=P) (w:=w1) T T T (E.tid t) i z hT hi hz (by rw[hzs,his]) (.slice (some ⟨w.heap.size,0,none⟩) 0 0) 0 [] (some w.heap.size) (.inl ⟨hown1,rfl⟩) (.slice (some A) l.length cap) l.length news
       (Src.ofSlice _ hT A _ cap news (by rw[his];exact hnl) (fun j u hu=>by
        have:=hnc A rfl j u hu;exact(World.cell?_alloc_lt w _ _ (ayq this)).trans this) hn1) (by
        have:l.length<=l.length*E.bytes t:=akd _ hbp;unfold aB at hok;unfold maxLen;omega) (by rw[hib,aeY];exact hok)
      refine wp_seq (wp_region_list (uH rfl (w':=w1) (v:=.slice (some ⟨w.heap.size,0,none⟩) 0 0) (by simp[execOp,Instr.buildSlice,run_underlying hT,su,Instr.fill,newRow,w1,Array.range_zero']) (uH rfl (w':=w1) (v:=.slice (some A) l.length cap) (by simp[execOp,Act.eval,Act.put])
       (uH rfl (w':=w') (v:=v') (by simp[execOp,Act.eval,Act.put,resolve,invoke,builtin,hrun]) (uH rfl (w':=w') (v:=v') (by simp[execOp,Act.eval,Act.put]) (wpList_nil (wp_ret ?_)))))))
      have hbel:Below w.heap.size w w':=(Below.alloc (Below.refl _ _) (abH _) _).trans ⟨hgrow.os,hgrow.tape,hgrow.output,hgrow.size,fun k hk=>hgrow.block k (by simp[w1];omega) (fun e=>by cases e;omega)⟩;rw[his]at hown';refine fin _ w' ⟨v',l.length,E.tid t,E.size t,b'⟩ news (by simp[Act.put]) rfl hbel rfl rfl rfl ?_ ?_ ?_
      ·simpa[tL]using hown'
      ·intro i0 x0 j c hx hc;obtain⟨u,hu,hdr⟩:=hnd i0 x0 j c hx hc;exact⟨u,hu,hdr.mono (fun _ _ h=>h) (fun k o h=>hbel.cell (p:=⟨k,o,none⟩) (kP k o h))⟩
      ·intro g hg;rcases hat with e | e
       ·have:b'=some g:=hg;rw[e]at this;cases this;exact abH _
       ·have:b'=some g:=hg;rw[e]at this;cases this;simp[w1]
   ·cases hF
 ·cases hF
end
end
end Go.Proofs.YtclnniijooeajaaGreatDoor.bA
namespace Go.Proofs.YtclnniijooeajaaGreatDoor.bA
open Go Go.RowKit
section
section
variable {P:Program} {E:Env P}
abbrev TL(E:Env P):=(t:E.Ty)×List (E.Den t)
def auW(S:av E):AV E->Option (TL E)
 | .row _ _ id=>match look S.objs id with
  | some (.row t l)=>some ⟨t,l⟩
  | _=>none
 | _=>none
def apf(fn:Func)(e:dO)(S:av E):Option (TL E):=match e with
 | .exit _=>none
 | .goto _=>none
 | _=>match fn.results.toList with
  | [r]=>(match acv S r with
   | some v=>auW S v
   | none=>none)
  | _=>none
def awQ(O:aI E)(h:Hint E)(G:Nat->av E->Option (TL E))(fn:Func)(j:Nat)(S:av E):Option (TL E):=match fn.body with
 | some c=>ahL O h G c j S (apf fn)
 | none=>none
def awR(E:Env P)(res:TL E)(w:World)(gh:Gh)(ro:Nat->Nat->Prop)(e:Ending)(w':World):Prop:=∃(bD:Gh) (xs':List Value),e = .returned bD.v/\w.grownBy w' gh.blk/\bD.n=res.2.length/\bD.e=E.tid res.1/\bD.sz=E.size res.1/\tL w' bD xs' /\
  mX E w' (fun k o=>ro k o\/(bD.blk≠some k/\(gh.blk=some k\/w.heap.size<=k/\k<w'.heap.size))) res.1 xs' res.2/\(∀g,bD.blk=some g->gh.blk=some g\/w.heap.size<=g)
def arJ(E:Env P)(fn:Func)(res:TL E)(w:World)(gh:Gh)(ro:Nat->Nat->Prop):Exit->Act->World->Prop:=bodyPost P fn (awR E res w gh ro)
theorem apg{fn:Func}{res:TL E}{w:World}{gh:Gh}{ro:Nat->Nat->Prop}{e:dO}{S':av E}{a':Act}{w':World}{ι':Nat->Option Gh}{ro':Nat->Nat->Prop}(hg':bN E ⟨w,gh.blk,none,[],fun _=>none⟩ ro S' a' w' ι' ro')(hk:apf fn e S'=some res) :
  arJ E fn res w gh ro e.toExit a' w':=by
 have fin:∀r,fn.results.toList=[r]->(match acv S' r with | some v=>auW S' v | none=>none)=some res->a'.defers=[]/\∃v,(results fn a'.tmps).run P w' = .ok v w' /\
   awR E res w gh ro (.returned v) w':=by
  intro r hr hres;cases hv:acv S' r with
  | none=>rw[hv]at hres;cases hres
  | some v =>
   rw[hv]at hres;simp only at hres;obtain⟨u,hrun,hrep⟩:=YP hg' hv;unfold auW at hres;split at hres
   ·rename_i t0 n0 id;split at hres
    ·rename_i t l bX;cases hres;cases hrep with
     | row bD _ _ ad cap hi h2 h3 h4 h5 =>
      obtain⟨gh2,xs,hi2,hn,hge,hgs,hown,hrow,iy⟩:=hg'.objs id _ bX;rw[hi]at hi2;cases hi2;refine⟨hg'.base.defers,bD.v,?_,bD,xs,rfl,hg'.base.below,hn,hge,hgs,hown,hrow.mono (fun k o hk=>?_) (fun _ _ _=>rfl),fun g hg=>?_⟩
      ·show(do let vs <- fn.results.mapM (YO a'.tmps);pure (if h:vs.size=1 then vs[0]else .tuple vs):Sem Value).run P w'=_;rw[Array.mapM_eq_mapM_toList,hr];simp only[Sem.run_bind,Sem.run_map,List.mapM_cons,List.mapM_nil,hrun,Result.andThen_ok,Sem.run_pure];simp
      ·have hne:bD.blk≠some k:=fun e=>iy k e o hk
       rcases hg'.base.rE k o hk with h | h | h
       ·exact .inl h
       ·exact .inr ⟨hne,.inr ⟨h,hg'.base.aT k o hk⟩⟩
       ·exact .inr ⟨hne,.inl h⟩
      ·rcases(hg'.base.uE id bD g hi hg).1 with h | h
       ·exact .inr h
       ·exact .inl h
    ·cases hres
   ·cases hres
 cases e with
 | normal =>
  unfold apf at hk;split at hk
  ·rename_i h;cases h
  ·rename_i h;cases h
  ·split at hk
   ·rename_i r hr;exact fin r hr hk
   ·cases hk
 | ret =>
  unfold apf at hk;split at hk
  ·rename_i h;cases h
  ·rename_i h;cases h
  ·split at hk
   ·rename_i r hr;exact fin r hr hk
   ·cases hk
 | exit id=>cases hk
 | goto l=>cases hk
def EvM(E:Env P)(fn:Func)(res:TL E)(i:Nat)(S:av E):Prop :=
 ∀(w0:World) (gh:Gh) aQ n c,fn.body=some c->Uj E ⟨w0,gh.blk,none,[],fun _=>none⟩ aQ n c (arJ E fn res w0 gh aQ) i S
open Classical in
def GrM(E:Env P)(fn:Func)(res:TL E)(i:Nat)(S:av E):Option (TL E):=if EvM E fn res i S then some res else none
theorem aAM{fn:Func}{res r:TL E}{i:Nat}{S:av E}(h:GrM E fn res i S=some r):EvM E fn r i S:=by
 unfold GrM at h;split at h
 ·cases h;assumption
 ·cases h
variable {O:aI E} {h:Hint E}
theorem EvM.step(hO:aL E O)(dN:P.follows .mixedOrders=true){fn:Func}{res:TL E}{j:Nat}{S:av E}(hs:awQ O h (GrM E fn res) fn j S=some res):EvM E fn res j S:=by intro w0 gh aQ n c hc;unfold awQ at hs;rw[hc]at hs;exact QN hO dN (fun i S hi=>⟨.none rfl,aAM hi w0 gh aQ n c hc⟩) (fun e S' a' w' ι' ro' _ h2 _ h4=>apg h2 h4) hs
variable {f:FuncId} {fn:Func}
end
end
end Go.Proofs.YtclnniijooeajaaGreatDoor.bA
namespace Go.Proofs.YtclnniijooeajaaGreatDoor.bA
open Go Go.RowKit
section
section
variable {P:Program} {E:Env P} {O:aI E} {masks:Hint E} {f:FuncId} {fn:Func}
def aph(a0 a1 t0 t1 t2:E.Ty)(ok:E.Den a0->E.Den a1->Bool)(F0:E.Den a0->E.Den a1->E.Den t0)(F1:E.Den a0->E.Den a1->E.Den t1)(F2:E.Den a0->E.Den a1->E.Den t2):jq E
 | [x0,x1]=>match kQ a0 x0,kQ a1 x1 with
  | some x0,some x1=>some (ok x0 x1,[⟨t0,F0 x0 x1⟩,⟨t1,F1 x0 x1⟩,⟨t2,F2 x0 x1⟩])
  | _,_=>none
 | _=>none
theorem amD {a0 a1 t0 t1 t2:E.Ty} {ok:E.Den a0->E.Den a1->Bool} {F0:E.Den a0->E.Den a1->E.Den t0} {F1:E.Den a0->E.Den a1->E.Den t1} {F2:E.Den a0->E.Den a1->E.Den t2} (hO:aL E O) (dN:P.follows .mixedOrders=true) (hf:P.funcs[f]? = some fn) (hn:(fn.name == "runtime.NumGoroutine")=false) (hb:fn.body.isNone=false)
  (h:∀x0 x1,ok x0 x1=true->jK O masks (Gr E fn [⟨t0,F0 x0 x1⟩,⟨t1,F1 x0 x1⟩,⟨t2,F2 x0 x1⟩]) fn [⟨a0,x0⟩,⟨a1,x1⟩]=some [⟨t0,F0 x0 x1⟩,⟨t1,F1 x0 x1⟩,⟨t2,F2 x0 x1⟩]):bE E f (aph a0 a1 t0 t1 t2 ok F0 F1 F2):=by
 refine O4 (masks:=masks) hO dN hf hn hb fun args res hr=>?_
 unfold aph at hr;split at hr
 ·split at hr
  ·rename_i hx0 hx1;injection hr with hr
   injection hr with h1 h2
   subst h2;rw[iD hx0,iD hx1];exact h _ _ h1
  ·cases hr
 ·cases hr
def fn4(a0 a1 a2 a3 t0:E.Ty)(ok:E.Den a0->E.Den a1->E.Den a2->E.Den a3->Bool)(F0:E.Den a0->E.Den a1->E.Den a2->E.Den a3->E.Den t0):jq E
 | [x0,x1,x2,x3]=>match kQ a0 x0,kQ a1 x1,kQ a2 x2,kQ a3 x3 with
  | some x0,some x1,some x2,some x3=>some (ok x0 x1 x2 x3,[⟨t0,F0 x0 x1 x2 x3⟩])
  | _,_,_,_=>none
 | _=>none
end
end
end Go.Proofs.YtclnniijooeajaaGreatDoor.bA
namespace Go.Proofs.YtclnniijooeajaaGreatDoor.bA
open Go Go.RowKit
section
section
variable {P:Program} {E:Env P}
def aaA:List (AV E)->Nat->List (Nat×AV E)
 | [],_=>[]
 | v::r,i=>(i,bif d9 v then .any else v)::aaA r (i+1)
def Uk(fn:Func)(args:List (AV E))(objs:List (Nat×aS E))(next:Nat):av E:=⟨args.length+(fn.ntmps-args.length),aaA args 0,objs,next⟩
def WJ(S:av E):List ResultVar->Option (List (AV E))
 | []=>some []
 | r::rs=>match acv S r with
  | some v=>(match d9 v with
   | true=>none
   | false=>(match WJ S rs with
    | some vs=>some (v::vs)
    | none=>none))
  | none=>none
def auX{R:Type}(fn:Func)(k:AV E->List (Nat×aS E)->Nat->Option R)(e:dO)(S:av E):Option R:=match e with
 | .exit _=>none
 | .goto _=>none
 | _=>match WJ S fn.results.toList with
  | some [v]=>k v S.objs S.next
  | some vs=>k (.uz vs) S.objs S.next
  | none=>none
def apj{R:Type}(f:av E->(dO->av E->Option R)->Option R):Nat->av E->(dO->av E->Option R)->Option R
 | 0,_,_=>none
 | m+1,S,k=>f S (YN (fun S'=>apj f m S' k) k)
def scK{R:Type}(J:Code->Code->av E->(dO->av E->Option R)->Option R)(c:Code)(k:dO->av E->Option R)(e:dO)(S:av E):Option R:=match e with
 | .goto l=>(match findLabel c l with
  | some rest=>J c rest S k
  | none=>none)
 | .normal=>k .normal S
 | .exit id=>k (.exit id) S
 | .ret=>k .ret S
def Hz{R:Type}(O:aI E)(h:Hint E)(m:Nat)(J:Code->Code->av E->(dO->av E->Option R)->Option R):Code->av E->(dO->av E->Option R)->Option R
 | .skip,S,k=>k .normal S
 | .region id ops dr,S,k=>splitK (Uf h.split id) (M9 (Uf h.opn id) (match QG h.frz id with | true=>zf S | false=>S)) fun S'=>Jp (QG h.lst id) O ops dr S' (k .normal)
 | .seq x y,S,k=>Hz O h m J x S (YN (fun S'=>Hz O h m J y S' k) k)
 | .cond c x y,S,k=>match bG S.tmps [] c with
  | .d (.bool b)=>bif b then Hz O h m J x S k else Hz O h m J y S k
  | _=>none
 | .block id body,S,k=>Hz O h m J body S (Jq id k)
 | .loop b,S,k=>apj (Hz O h m J b) m S k
 | .exit id,S,k=>k (.exit id) S
 | .ret,S,k=>k .ret S
 | .scope c,S,k=>Hz O h m J c S (scK J c k)
 | .label _,S,k=>k .normal S
 | .goto l,S,k=>k (.goto l) S
 | _,_,_=>none
def ahR{R:Type}(O:aI E)(h:Hint E)(m:Nat):Nat->Code->Code->av E->(dO->av E->Option R)->Option R
 | 0,_,_,_,_=>none
 | d+1,c,rest,S,k=>Hz O h m (ahR O h m d) rest S (scK (ahR O h m d) c k)
def evU{R:Type}(O:aI E)(h:Hint E)(m:Nat):Code->av E->(dO->av E->Option R)->Option R:=Hz O h m (ahR O h m m)
def JOk{R:Type}(E:Env P)(w0:Start)(aQ:Nat->Nat->Prop)(n:Nat)(rr:R)(J:Code->Code->av E->(dO->av E->Option R)->Option R):Prop :=
 ∀(c rest:Code) (S:av E) (k:dO->av E->Option R) (Q:Exit->Act->World->Prop) (a:Act) (w:World) (ι:Nat->Option Gh) (ro:Nat->Nat->Prop),
  aR S.tmps->bN E w0 aQ S a w ι ro->S.n=n->J c rest S k=some rr ->
  (∀e S' a' w' ι' ro',aR S'.tmps->bN E w0 aQ S' a' w' ι' ro'->S'.n=n->k e S'=some rr->Q e.toExit a' w')->Le P c rest Q a w
theorem aeo{R:Type}{w0:Start}{aQ:Nat->Nat->Prop}{n:Nat}{rr:R}{J:Code->Code->av E->(dO->av E->Option R)->Option R}(hJ:JOk E w0 aQ n rr J){c:Code}{k:dO->av E->Option R}{Q:Exit->Act->World->Prop}
  (hk:∀e S' a' w' ι' ro',aR S'.tmps->bN E w0 aQ S' a' w' ι' ro'->S'.n=n->k e S'=some rr->Q e.toExit a' w') (e:dO) (S':av E) (a':Act) (w':World) (ι':Nat->Option Gh) (ro':Nat->Nat->Prop)
  (h1:aR S'.tmps) (h2:bN E w0 aQ S' a' w' ι' ro') (h3:S'.n=n) (h4:scK J c k e S'=some rr):OX P c Q e.toExit a' w':=by
 cases e with
 | normal=>exact hk .normal S' a' w' ι' ro' h1 h2 h3 h4
 | exit id=>exact hk (.exit id) S' a' w' ι' ro' h1 h2 h3 h4
 | ret=>exact hk .ret S' a' w' ι' ro' h1 h2 h3 h4
 | goto l =>
  simp only[scK]at h4;split at h4
  ·rename_i rest hf;exact⟨rest,hf,hJ c rest S' k Q a' w' ι' ro' h1 h2 h3 h4 hk⟩
  ·cases h4
theorem aaB{R:Type}{O:aI E}(hO:aL E O)(dN:P.follows .mixedOrders=true){h:Hint E}{m n:Nat}{w0:Start}{aQ:Nat->Nat->Prop}{rr:R}{J:Code->Code->av E->(dO->av E->Option R)->Option R}(hJ:JOk E w0 aQ n rr J) :
  ∀(c:Code) (S:av E) (k:dO->av E->Option R) (Q:Exit->Act->World->Prop) (a:Act) (w:World) (ι:Nat->Option Gh) (ro:Nat->Nat->Prop),
  aR S.tmps->bN E w0 aQ S a w ι ro->S.n=n->Hz O h m J c S k=some rr ->
  (∀e S' a' w' ι' ro',aR S'.tmps->bN E w0 aQ S' a' w' ι' ro'->S'.n=n->k e S'=some rr->Q e.toExit a' w')->c.wp P Q a w:=by
 intro c
 induction c with
 | skip=>intro S k Q a w ι ro hnc hg hn h hk;exact wp_skip (hk .normal S a w ι ro hnc hg hn h)
 | ret=>intro S k Q a w ι ro hnc hg hn h hk;exact wp_ret (hk .ret S a w ι ro hnc hg hn h)
 | exit id=>intro S k Q a w ι ro hnc hg hn h hk;exact wp_exit (hk (.exit id) S a w ι ro hnc hg hn h)
 | region id ops draw =>
  intro S k Q a w ι ro hnc hg hn hh hk;have go:∀(S:av E) (ro:Nat->Nat->Prop),aR S.tmps->bN E w0 aQ S a w ι ro->S.n=n->Jp (QG h.lst id) O ops draw S (k .normal)=some rr->(Code.region id ops draw).wp P Q a w:=fun S ro hnc hg hn hq =>Uh hO dN hnc hg (fun S' a' w' ι' ro' h1 h2 h3 h4=>hk .normal S' a' w' ι' ro' h1 h2 (h3.trans hn) h4) hq
  simp only[Hz]at hh;have fin:∀(l1:List (Nat×Nat)) (l2:List Nat) (S:av E) (ro:Nat->Nat->Prop),aR S.tmps->bN E w0 aQ S a w ι ro->S.n=n->splitK l1 (M9 l2 S) (fun S'=>Jp (QG h.lst id) O ops draw S' (k .normal))=some rr->(Code.region id ops draw).wp P Q a w:=by intro l1 l2 S ro hnc hg hn h;obtain⟨XE,g1,g2,g3⟩:=NK l2 S ro hnc hg;obtain⟨S2,g4,g5,g6,g7⟩:=Lb _ _ g1 g2 h;grind
  split at hh
  ·obtain⟨h1,h2⟩:=DU hnc hg;exact fin _ _ (zf S) _ h1 h2 hn hh
  ·exact fin _ _ S ro hnc hg hn hh
 | seq x y OY ihy =>
  intro S k Q a w ι ro hnc hg hn h hk;refine wp_seq (OY S _ _ a w ι ro hnc hg hn h fun e S' a' w' ι' ro' h1 h2 h3 h4=>?_);cases e with
  | normal=>exact ihy S' k Q a' w' ι' ro' h1 h2 h3 h4 hk
  | exit id=>exact hk (.exit id) S' a' w' ι' ro' h1 h2 h3 h4
  | goto l=>exact hk (.goto l) S' a' w' ι' ro' h1 h2 h3 h4
  | ret=>exact hk .ret S' a' w' ι' ro' h1 h2 h3 h4
 | cond c x y OY ihy =>
  intro S k Q a w ι ro hnc hg hn h hk;have hc:=xU (E:=E) (asm:=[]) hg.tmps (fun j b hb=>by simp[uD]at hb) c;simp only[Hz]at h;split at h
  ·rename_i b hb;rw[hb]at hc;have hc:=hc.sj;cases b with
   | true=>exact wp_cond_true hc (OY S k Q a w ι ro hnc hg hn h hk)
   | false=>exact wp_cond_false hc (ihy S k Q a w ι ro hnc hg hn h hk)
  ·cases h
 | block id body ih =>
  intro S k Q a w ι ro hnc hg hn h hk;refine wp_block (ih S _ _ a w ι ro hnc hg hn h fun e S' a' w' ι' ro' h1 h2 h3 h4=>?_);cases e with
  | normal=>exact hk .normal S' a' w' ι' ro' h1 h2 h3 h4
  | goto l=>exact hk (.goto l) S' a' w' ι' ro' h1 h2 h3 h4
  | ret=>exact hk .ret S' a' w' ι' ro' h1 h2 h3 h4
  | exit i =>
   simp only[dO.toExit,Exit.inBlock,Jq]at h4 ⊢;cases hb:Nat.beq i id with
   | true =>rw[hb]at h4;rw[if_pos (aax hb)];exact hk .normal S' a' w' ι' ro' h1 h2 h3 h4
   | false =>rw[hb]at h4;rw[if_neg (fun e=>by subst e;simp at hb)];exact hk (.exit i) S' a' w' ι' ro' h1 h2 h3 h4
 | loop body ih =>
  intro S k Q a w ι ro hnc hg hn hh hk;have rounds:∀(f:Nat) (S:av E) (a:Act) (w:World) (ι:Nat->Option Gh) (ro:Nat->Nat->Prop),aR S.tmps->bN E w0 aQ S a w ι ro->S.n=n->apj (Hz O h m J body) f S k=some rr->uG P body Q a w:=by
   intro f
   induction f with
   | zero=>intro S a w ι ro _ _ _ h;cases h
   | succ f ihf =>
    intro S a w ι ro hnc hg hn h;refine uG.round (ih S _ _ a w ι ro hnc hg hn h fun e S' a' w' ι' ro' h1 h2 h3 h4=>?_);cases e with
    | normal=>exact ihf S' a' w' ι' ro' h1 h2 h3 h4
    | exit id=>exact hk (.exit id) S' a' w' ι' ro' h1 h2 h3 h4
    | goto l=>exact hk (.goto l) S' a' w' ι' ro' h1 h2 h3 h4
    | ret=>exact hk .ret S' a' w' ι' ro' h1 h2 h3 h4
  exact(rounds m S a w ι ro hnc hg hn hh).wp
 | scope body ih =>intro S k Q a w ι ro hnc hg hn hh hk;exact ael (ih S (scK J body k) (OX P body Q) a w ι ro hnc hg hn hh fun e S' a' w' ι' ro' h1 h2 h3 h4=>aeo hJ hk e S' a' w' ι' ro' h1 h2 h3 h4)
 | label l=>intro S k Q a w ι ro hnc hg hn h hk;exact wp_label (hk .normal S a w ι ro hnc hg hn h)
 | goto l=>intro S k Q a w ι ro hnc hg hn h hk;exact wp_goto (hk (.goto l) S a w ι ro hnc hg hn h)
 | _=>intro S k Q a w ι ro hnc hg hn h hk;cases h
theorem acA{R:Type}{O:aI E}(hO:aL E O)(dN:P.follows .mixedOrders=true){h:Hint E}{m n:Nat}{w0:Start}{aQ:Nat->Nat->Prop}{rr:R}:∀d,JOk E w0 aQ n rr (ahR O h m d)
 | 0=>fun c rest S k Q a w ι ro _ _ _ h=>by cases h
 | d+1=>fun c rest S k Q a w ι ro hnc hg hn hh hk =>Le.of (aaB hO dN (acA hO dN d) rest S (scK (ahR O h m d) c k) (OX P c Q) a w ι ro hnc hg hn hh fun e S' a' w' ι' ro' h1 h2 h3 h4=>aeo (acA hO dN d) hk e S' a' w' ι' ro' h1 h2 h3 h4)
theorem Ul{R:Type}{O:aI E}(hO:aL E O)(dN:P.follows .mixedOrders=true){h:Hint E}{m n:Nat}{w0:Start}{aQ:Nat->Nat->Prop}{rr:R}
  (c:Code) (S:av E) (k:dO->av E->Option R) (Q:Exit->Act->World->Prop) (a:Act) (w:World) (ι:Nat->Option Gh) (ro:Nat->Nat->Prop)
  (hnc:aR S.tmps) (hg:bN E w0 aQ S a w ι ro) (hn:S.n=n) (hh:evU O h m c S k=some rr)
  (hk:∀e S' a' w' ι' ro',aR S'.tmps->bN E w0 aQ S' a' w' ι' ro'->S'.n=n->k e S'=some rr->Q e.toExit a' w'):c.wp P Q a w :=
 aaB hO dN (acA hO dN m) c S k Q a w ι ro hnc hg hn hh hk
def hintOf(hs:List (FuncId×Hint E))(f:FuncId):Hint E:=match look hs f with
 | some h=>h
 | none=>{}
def mkI(O:aI E)(Nc:List (FuncId×Func))(hs:List (FuncId×Hint E)):Nat->Inl E
 | 0=>.nil
 | n+1=>⟨fun f=>(look Nc f).isSome,fun f args objs next k=>match look Nc f with
  | some fn=>match fn.body with
   | some c=>evU { O with inl:=mkI O Nc hs n } (hintOf hs f) (hintOf hs f).rounds c (Uk fn args objs next) (auX fn k)
   | none=>none
  | none=>none⟩
def aaC(O:aI E)(Nc:List (FuncId×Func))(hs:List (FuncId×Hint E):=[])(d:Nat:=4):aI E:={ O with inl:=mkI O Nc hs d }
theorem aaD:∀{args:List (AV E)} {i t:Nat} {x:AV E},look (aaA args i) t=some x->i<=t/\∃y,args[t-i]? = some y/\x=bif d9 y then .any else y
 | [],_,_,_,h=>by cases h
 | v::r,i,t,x,h=>by
  simp only[aaA,aX]at h;split at h
  ·rename_i hb;have:=aax hb;grind
  ·rename_i hb;obtain⟨h1,z,h2,h3⟩:=aaD h;grind
theorem Um:∀(args:List (AV E)) (i:Nat),aR (aaA args i)
 | [],_=>fun p h=>by cases h
 | v::r,i=>fun p h=>by
  cases h with
  | head =>
   cases hc:d9 v with
   | true=>rfl
   | false=>exact hc
  | tail _ h=>exact Um r (i+1) p h
theorem aep{w0:Start}{aQ:Nat->Nat->Prop}{S:av E}{a:Act}{w:World}{ι:Nat->Option Gh}{ro:Nat->Nat->Prop}(hg:bN E w0 aQ S a w ι ro):∀{rs:List ResultVar} {xs:List (AV E)},WJ S rs=some xs ->
  ∃vs:List Value,(rs.mapM (YO a.tmps)).run P w=Result.ok vs w/\vs.length=xs.length/\∀(i:Nat) v x,vs[i]? = some v->xs[i]? = some x->aP E w ro ι v x/\d9 x=false
 | [],xs,h=>by cases h;exact⟨[],by simp,rfl,fun i v x hv=>by simp at hv⟩
 | r::rs,xs,h=>by
  unfold WJ at h;split at h
  ·rename_i v hv;split at h
   ·cases h
   ·rename_i hc;split at h
    ·rename_i ys hys;cases h;obtain⟨u,hu,hr⟩:=YP hg hv;obtain⟨us,Xy,hl,hrs⟩:=aep hg hys;refine⟨u::us,by rw[List.mapM_cons];simp only[Sem.run_bind,hu,Result.andThen_ok,Xy,Sem.run_pure],by simp[hl],fun i v' x' h1 h2=>?_⟩;grind
    ·cases h
  ·cases h
def apk{R:Type}(E:Env P)(k:AV E->List (Nat×aS E)->Nat->Option R)(rr:R)(w0:Start)(aQ:Nat->Nat->Prop)(e:Ending)(w':World):Prop :=
 ∃(v:Value) (x:AV E) (mY:List (Nat×aS E)) (next':Nat) (ι':Nat->Option Gh) (ro':Nat->Nat->Prop) (a':Act),e = .returned v/\k x mY next'=some rr/\aP E w' ro' ι' v x/\Base w0 aQ a' w' ι' ro' /\
  (∀(id:Nat) o,look mY id=some o->kr E w' ro' ι' id o)/\Inj E mY ι'/\(∀id,next'<=id->ι' id=none)/\(∀id o,look mY id=some o->id<next')
theorem apl{R:Type}{fn:Func}{k:AV E->List (Nat×aS E)->Nat->Option R}{rr:R}{w0:Start}{aQ:Nat->Nat->Prop}{e:dO}{S':av E}{a':Act}{w':World}{ι':Nat->Option Gh}{ro':Nat->Nat->Prop}(hg':bN E w0 aQ S' a' w' ι' ro')(hk:auX fn k e S'=some rr)(hd:w0.dl=[]) :
  bodyPost P fn (apk E k rr w0 aQ) e.toExit a' w':=by
 have fin:(match WJ S' fn.results.toList with | some [v]=>k v S'.objs S'.next | some vs=>k (.uz vs) S'.objs S'.next | none=>none)=some rr->a'.defers=[]/\∃v,(results fn a'.tmps).run P w' = .ok v w'/\apk E k rr w0 aQ (.returned v) w':=by
  intro h;cases hv:WJ S' fn.results.toList with
  | none=>rw[hv]at h;cases h
  | some xs =>
   rw[hv]at h;obtain⟨vs,hvs,hl,hrep⟩:=aep hg' hv;refine⟨hg'.base.defers.trans hd,if h:vs.length=1 then vs[0]else .tuple vs.toArray,?_,?_⟩
   ·show(do let vs <- fn.results.mapM (YO a'.tmps);pure (if h:vs.size=1 then vs[0]else .tuple vs):Sem Value).run P w'=_;rw[Array.mapM_eq_mapM_toList];simp only[Sem.run_bind,Sem.run_map,hvs];simp[Result.andThen]
   ·by_cases h1:vs.length=1
    ·rw[dif_pos h1]
     match xs,hl,h,hrep with
     | [x],_,h,hrep=>exact⟨_,x,_,_,ι',ro',a',rfl,h,(hrep 0 _ x (aac (by omega)) rfl).1,hg'.base,hg'.objs,hg'.inj,hg'.fresh,hg'.ids⟩
     | [],hl,_,_=>exact absurd (h1.symm.trans hl) (by simp)
     | _::_::_,hl,_,_=>exact absurd (h1.symm.trans hl) (by simp)
    ·rw[dif_neg h1];have h:k (.uz xs) S'.objs S'.next=some rr:=by
      grind
     exact⟨_,.uz xs,_,_,ι',ro',a',rfl,h,.uz _ _ (by simpa using hl) (fun j v x hv hx=>(hrep j v x (by simpa using hv) hx).1),hg'.base,hg'.objs,hg'.inj,hg'.fresh,hg'.ids⟩
 cases e with
 | normal=>exact fin hk
 | ret=>exact fin hk
 | exit id=>cases hk
 | goto l=>cases hk
def Nf (P:Program) (Nc:List (FuncId×Func)):Prop:=∀p∈Nc,P.funcs[p.1]? = some p.2/\(p.2.name == "runtime.NumGoroutine")=false/\p.2.body.isNone=false
theorem Nf.nil:Nf P []:=fun p h=>by cases h
theorem Nf.cons {f:FuncId} {fn:Func} {l:List (FuncId×Func)} (h1:P.funcs[f]? = some fn) (h2:(fn.name == "runtime.NumGoroutine")=false) (h3:fn.body.isNone=false) (hl:Nf P l):Nf P ((f,fn)::l):=fun p hp=>by
 cases hp with
 | head=>exact⟨h1,h2,h3⟩
 | tail _ hp=>exact hl p hp
theorem arL{O:aI E}(hO:aL E O)(dN:P.follows .mixedOrders=true){Nc:List (FuncId×Func)}{hs:List (FuncId×Hint E)}(ht:Nf P Nc):∀n,awH E (mkI O Nc hs n)
 | 0=>fun f args objs next k rr h=>by cases h
 | n+1=>fun f args objs next k rr h=>by
  have hO':aL E { O with inl:=mkI O Nc hs n }:=⟨hO.1,hO.2.1,hO.2.2.1,hO.2.2.2.1,arL hO dN ht n,hO.2.2.2.2.2⟩
  simp only[mkI]at h;split at h
  ·rename_i fn hl;obtain⟨hf,hname,hbody⟩:=ht _ (jW _ _ _ hl);split at h
   ·rename_i c hc;refine⟨⟨fn,hf,hname,hbody⟩,fun w0 aQ a w ι ro vals hb ho hi hfr kX hlen hargs=>?_⟩;let w1:Start:=⟨w0.w,w0.x,some ⟨w,ro,ι⟩,[],w0.h⟩
    refine(calls_of_wp (R:=apk E k rr w1 aQ) hf hc ?_).mono fun e w' he=>by
     obtain⟨v,x,mY,next',ι',ro',a',h1,h2,h3,h4,h5,h6,h7,h8⟩:=he;obtain⟨q1,q2⟩:=h4.keep _ rfl;exact⟨v,x,mY,next',ι',ro',h1,h2,h3,⟨h4.below,h4.aT,h4.rE,h4.uE,hb.defers,fun q hq=>by obtain⟨p1,p2⟩:=hb.keep q hq;exact⟨fun k o h=>⟨(q1 k o (p1 k o h).1).1,(q1 k o (p1 k o h).1).2.trans (p1 k o h).2⟩,fun id gh h=>q2 id gh (p2 id gh h)⟩,h4.held⟩,h5,h6,h7,h8,q1,q2⟩
    have hg:bN E w1 aQ (Uk fn args objs next) { tmps:=vals.toArray++Array.replicate (fn.ntmps-vals.toArray.size) undef,defers:=[] } w ι ro:={
     base:=⟨hb.below,hb.aT,hb.rE,hb.uE,rfl,(fun q hq=>by cases hq;exact⟨fun k o h=>⟨h,rfl⟩,fun _ _ h=>h⟩),hb.held⟩
     size:=by simp[Uk,hlen]
     tmps:=fun t x hl=>by
      obtain⟨_,y,hy,rfl⟩:=aaD hl;rw[amB]at hy;have hlt:t<vals.length:=by rw[hlen];exact(List.getElem?_eq_some_iff.1 hy).1
      have hv:=aac hlt;refine⟨vals[t],by simp[anC,hlt],?_⟩;have hr:aP E w ro ι vals[t] y:=hargs t _ y hv hy;cases hcy:d9 y with
      | true=>exact aP.any _
      | false =>rw[cond_false];cases y<;>first | exact hr | cases hcy
     objs:=ho
     inj:=hi
     fresh:=hfr
     ids:=kX }
    exact Ul (n:=(Uk fn args objs next).n) hO' dN c (Uk fn args objs next) (auX fn k) _ _ w _ ro (Um args 0) hg rfl h
     fun e S' a' w' ι' ro' _ h2 _ h4=>apl h2 h4 rfl
   ·cases h
  ·cases h
theorem ahS{O:aI E}(hO:aL E O)(dN:P.follows .mixedOrders=true){Nc:List (FuncId×Func)}{hs:List (FuncId×Hint E)}{d:Nat}(ht:Nf P Nc):aL E (aaC O Nc hs d):=⟨hO.1,hO.2.1,hO.2.2.1,hO.2.2.2.1,arL hO dN ht d,hO.2.2.2.2.2⟩
end
end
end Go.Proofs.YtclnniijooeajaaGreatDoor.bA
namespace Go.Proofs.YtclnniijooeajaaGreatDoor.bA
open Go Go.RowKit
section
section
variable {P:Program} {E:Env P}
def Js(fn:Func)(t:E.Ty)(x:E.Den t)(rest:List (TV E)):av E:=⟨(rest.length+1)+(fn.ntmps-(rest.length+1)),(0,.ptr 0 0)::QL rest 1,[(0,.box ((E.cells t x).map .d))],1⟩
def auY(t:E.Ty)(fn:Func)(S:av E):Option (List (TV E)):=match look S.objs 0 with
 | some (.box cs)=>(match agk t cs with
  | some y=>(match acw S fn.results.toList fn.resultTypes.toList with
   | some xs=>some (⟨t,y⟩::xs)
   | none=>none)
  | none=>none)
 | _=>none
def apm(t:E.Ty)(fn:Func)(e:dO)(S:av E):Option (List (TV E)):=match e with
 | .exit _=>none
 | .goto _=>none
 | _=>auY t fn (zf S)
def aaE(O:aI E)(h:Hint E)(G:Nat->av E->Option (List (TV E)))(fn:Func)(t:E.Ty)(x:E.Den t)(rest:List (TV E)):Option (List (TV E)):=match fn.body with
 | some c=>nk O h G 0 c (Js fn t x rest) (apm t fn)
 | none=>none
def apn(O:aI E)(h:Hint E)(G:Nat->av E->Option (List (TV E)))(fn:Func)(t:E.Ty)(j:Nat)(S:av E):Option (List (TV E)):=match fn.body with
 | some c=>ahL O h G c j S (apm t fn)
 | none=>none
def ahT(g:Nat)(e0:TypeId):Gh:=⟨.pointer (some ⟨g,0,none⟩),0,e0,0,some g⟩
def ioB(g:Nat)(e0:TypeId):Nat->Option Gh:=fun id=>if id=0 then some (ahT g e0)else none
def stB(w:World)(g:Nat)(e0:TypeId):Start:=⟨w,some g,some ⟨w,fun _ _=>False,ioB g e0⟩,[],fun _=>none⟩
theorem arM{w:World}{g:Nat}{e0:TypeId}{own:Nat}(h:0<own):KOk own (stB w g e0):=fun q hq id gh hi=>by
 cases hq;simp only[ioB]at hi;split at hi
 ·omega
 ·cases hi
def apo(E:Env P)(t:E.Ty)(g:Nat)(e0:TypeId)(res:List (TV E))(w:World)(ro:Nat->Nat->Prop)(ed:Ending)(w':World):Prop:=∃y rs,res=⟨t,y⟩::rs/\∃(v:Value) (vs':Array Value),ed = .returned v/\w.grownBy w' (some g)/\w'.heap[g]? = some (.cells vs' e0 (0,0)) /\
 oJ E w' (fun k o=>ro k o\/(w.heap.size<=k/\k<w'.heap.size)) vs' (E.cells t y)/\qj E w' (fun k o=>ro k o\/(w.heap.size<=k/\k<w'.heap.size)) v rs
def ahU(E:Env P)(fn:Func)(t:E.Ty)(g:Nat)(e0:TypeId)(res:List (TV E))(w:World)(ro:Nat->Nat->Prop):Exit->Act->World->Prop:=bodyPost P fn (apo E t g e0 res w ro)
theorem aAP{w:World}{ro:Nat->Nat->Prop}{vs:List Value}{rs:List (TV E)}(h:gq E w ro vs rs):qj E w ro (if h:vs.length=1 then vs[0]else .tuple vs.toArray) rs:=by
 have hl:=(gq.at_ vs rs h).1;unfold qj;split
 ·rename_i t x
  match vs,hl,h with
  | [v],_,hm=>exact hm.1
 ·rename_i hne;by_cases h1:vs.length=1
  ·exfalso
   match rs,hl.symm.trans h1,hne with
   | [⟨t,x⟩],_,hne=>exact hne t x rfl
  ·rw[dif_neg h1];exact⟨vs,rfl,h⟩
theorem aer{w:World}{ro ro':Nat->Nat->Prop}(h0:∀k o,ro k o->ro' k o):∀{vs:List Value} {rs:List (TV E)},gq E w ro vs rs->gq E w ro' vs rs
 | [],[],h=>h
 | _::_,_::_,h=>⟨h.1.mono h0 (fun _ _ _=>rfl),aer h0 h.2⟩
 | [],_::_,h=>h.elim
 | _::_,[],h=>h.elim
theorem aaF{fn:Func}{t:E.Ty}{g:Nat}{e0:TypeId}{res:List (TV E)}{w:World}{ro:Nat->Nat->Prop}{e:dO}{S':av E}{a':Act}{w':World}{ι':Nat->Option Gh}{ro':Nat->Nat->Prop}(hnc':aR S'.tmps)(hg':bN E (stB w g e0) ro S' a' w' ι' ro')(hk:apm t fn e S'=some res) :
  ahU E fn t g e0 res w ro e.toExit a' w':=by
 obtain⟨_,hg'⟩:=DU hnc' hg';generalize QI S'.objs ι' ro'=ro' at hg';have fin:auY t fn (zf S')=some res->a'.defers=[]/\∃v,(results fn a'.tmps).run P w' = .ok v w'/\apo E t g e0 res w ro (.returned v) w':=by
  intro hres;unfold auY at hres;split at hres
  ·rename_i cs bX;split at hres
   ·rename_i y hy;split at hres
    ·rename_i xs hxs;cases hres;obtain⟨vs,hvs,hrep⟩:=YQ hg' hxs;obtain⟨gh,g',vs',e',hi,hgv,hblk,hh,hsz,hcell,iy,hge⟩:=hg'.objs 0 _ bX;have hi0:ι' 0=some (ahT g e0):=(hg'.base.keep _ rfl).2 0 (ahT g e0) rfl;rw[hi0]at hi;cases hi;have e1:g'=g:=by
      have h:(some g:Option Nat)=some g':=hblk;exact(Option.some.inj h).symm
     subst e1;have e2:e'=e0:=hge.symm;subst e2;have hro:∀k o,ro' k o->ro k o\/(w.heap.size<=k/\k<w'.heap.size):=fun k o hk=>by
      rcases hg'.base.rE k o hk with h | h | h
      ·exact .inl h
      ·exact .inr ⟨h,hg'.base.aT k o hk⟩
      ·have h:(some g':Option Nat)=some k:=h;cases h;exact absurd hk (iy o)
     refine⟨hg'.base.defers,if h:vs.length=1 then vs[0]else .tuple vs.toArray,?_,y,xs,rfl,_,vs',rfl,hg'.base.below,hh,?_,aAP (aer hro hrep)⟩
     ·show(do let vs <- fn.results.mapM (YO a'.tmps);pure (if h:vs.size=1 then vs[0]else .tuple vs):Sem Value).run P w'=_;rw[Array.mapM_eq_mapM_toList];simp only[Sem.run_bind,Sem.run_map,hvs];simp[Result.andThen]
     ·unfold agk at hy;split at hy
      ·rename_i ds hds;obtain⟨hl,hat⟩:=toDs_rep (vs:=vs') hds;refine oJ.mono hro (fun _ _ _=>rfl) (oJ.le (E.vW t ds y hy) ⟨by rw[hsz,hl],fun j u d hu hd=>?_⟩);have hj:j<cs.length:=by rw[hl];exact(List.getElem?_eq_some_iff.1 hd).1
       exact toD_rep (hcell j u _ hu (aac hj)).2 (hat j _ d (aac hj) hd)
      ·cases hy
    ·cases hres
   ·cases hres
  ·cases hres
 cases e with
 | normal=>exact fin hk
 | ret=>exact fin hk
 | exit id=>cases hk
 | goto l=>cases hk
def EvB(E:Env P)(fn:Func)(t:E.Ty)(res:List (TV E))(i:Nat)(S:av E):Prop :=
 ∀(w0:World) (g:Nat) (e0:TypeId) aQ n c,fn.body=some c->Uj E (stB w0 g e0) aQ n c (ahU E fn t g e0 res w0 aQ) i S
open Classical in
def GrB(E:Env P)(fn:Func)(t:E.Ty)(res:List (TV E))(i:Nat)(S:av E):Option (List (TV E)):=if EvB E fn t res i S then some res else none
theorem aAQ{fn:Func}{t:E.Ty}{res:List (TV E)}{i:Nat}{S:av E}(h:EvB E fn t res i S):GrB E fn t res i S=some res:=if_pos h
theorem arN{fn:Func}{t:E.Ty}{res r:List (TV E)}{i:Nat}{S:av E}(h:GrB E fn t res i S=some r):EvB E fn t r i S:=by unfold GrB at h;grind
variable {O:aI E} {h:Hint E}
theorem EvB.step(hO:aL E O)(dN:P.follows .mixedOrders=true)(ho:0<h.own){fn:Func}{t:E.Ty}{res:List (TV E)}{j:Nat}{S:av E}(hs:apn O h (GrB E fn t res) fn t j S=some res):EvB E fn t res j S:=by intro w0 g e0 aQ n c hc;unfold apn at hs;rw[hc]at hs;exact QN hO dN (fun i S hi=>⟨arM ho,arN hi w0 g e0 aQ n c hc⟩) (fun e S' a' w' ι' ro' h1 h2 _ h4=>aaF h1 h2 h4) hs
theorem afv(args:List (TV E))(i:Nat):aR ((0,Ef.ptr i 0)::QL args 1):=fun p hp=>by
 cases hp with
 | head=>rfl
 | tail _ hp=>exact Lf args 1 p hp
theorem XI(hO:aL E O)(dN:P.follows .mixedOrders=true)(ho:0<h.own){f:FuncId}{fn:Func}(hf:P.funcs[f]? = some fn){t:E.Ty}{x y:E.Den t}{rest res:List (TV E)}(hr:aaE O h (GrB E fn t (⟨t,y⟩::res)) fn t x rest=some (⟨t,y⟩::res)):YH E f t x rest y res:=by
 unfold aaE at hr;split at hr
 ·rename_i c hc;intro w ro g e0 vs vals hh hrow iy hargs kP;obtain⟨hlen,hat⟩:=gq.at_ vals rest hargs;have aci:g<w.heap.size:=by
   grind
  refine(calls_of_wp (R:=apo E t g e0 (⟨t,y⟩::res) w ro) hf hc ?_).mono fun e w' he=>by obtain⟨y',rs,h0,h1⟩:=he;cases h0;exact h1
  have hg:bN E (stB w g e0) ro (Js fn t x rest) { tmps:=(.pointer (some ⟨g,0,none⟩)::vals).toArray++Array.replicate (fn.ntmps-(Value.pointer (some ⟨g,0,none⟩)::vals).toArray.size) undef,defers:=[] } w (ioB g e0) ro:={
   base:=⟨⟨rfl,rfl,rfl,abH _,fun _ _ _=>rfl⟩,kP,fun k o h=>.inl h,(fun id gh k h hb=>by
    simp only[ioB]at h;split at h
    ·cases h;have hb:(some g:Option Nat)=some k:=hb;cases hb;exact⟨.inr rfl,aci⟩
    ·cases h),rfl,(fun q h=>by cases h;exact⟨fun _ _ h=>h.elim,fun _ _ h=>h⟩),(fun k o h=>by cases h)⟩
   size:=by simp[Js,hlen]
   tmps:=fun q z hl=>by
    simp only[Js,aX]at hl;split at hl
    ·rename_i hb;have:=aax hb;subst this;cases hl;exact⟨.pointer (some ⟨g,0,none⟩),by simp[anC],.ptr (ahT g e0) g 0 0 rfl rfl⟩
    ·obtain⟨h1,y,hy,rfl⟩:=QO hl;obtain⟨m,rfl⟩:∃m,q=m+1:=⟨q-1,by omega⟩
     rw[Nat.add_sub_cancel]at hy;have hlt:m<vals.length:=by rw[hlen];exact(List.getElem?_eq_some_iff.1 hy).1
     have hv:=aac hlt;refine⟨vals[m],by simp[anC,hlt],?_⟩;have hr:aP E w ro (ioB g e0) vals[m] (gY y.1 y.2):=rP (hat m _ y hv hy);have hc:=wh (E:=E) (t:=y.1) (x:=y.2);generalize gY y.1 y.2=z at hr hc;cases z<;>first | exact hr | cases hc
   objs:=fun id o hl=>by
    simp only[Js,look_nil,aX]at hl;split at hl
    ·rename_i hb;have:=aax hb;subst this;cases hl;refine⟨ahT g e0,g,vs,e0,rfl,rfl,rfl,hh,by rw[hrow.1,List.length_map],fun j u q hu hq=>?_,iy,rfl⟩;rw[adZ]at hq;cases hj:(E.cells t x)[j]? with
     | none=>rw[hj]at hq;cases hq
     | some d =>rw[hj]at hq;cases hq;have:=hrow.2 j u d hu hj;exact⟨this.one,.d _ _ this⟩
    ·cases hl
   inj:=fun id id' o o' g1 g2 k hl hl' _ _ h1 h2 _ _=>by simp only[ioB]at h1 h2;grind
   fresh:=fun id h=>by have h:1<=id:=h;exact if_neg (by omega)
   ids:=fun id o hl=>by
    simp only[Js,look_nil,aX]at hl;split at hl
    ·rename_i hb;have:=aax hb;show id<1;omega
    ·cases hl }
  exact sD (n:=(Js fn t x rest).n) (Q0:=ahU E fn t g e0 (⟨t,y⟩::res) w ro) (c0:=c) hO dN (fun i S hi=>⟨arM ho,arN hi w g e0 ro _ c hc⟩) c 0 (Js fn t x rest) (apm t fn) _ _ w _ ro Placed.whole (fun _=>rfl) (afv rest 0) hg rfl hr
   fun e S' a' w' ι' ro' h1 h2 _ h4=>aaF h1 h2 h4
 ·cases hr
abbrev XJ(E:Env P):=(t:E.Ty)×(E.Den t->List (TV E)->Option (Bool×E.Den t×List (TV E)))
def aAR(p:XJ E)(t:E.Ty)(x:E.Den t)(args:List (TV E)):Option (Bool×E.Den t×List (TV E)):=match E.dec t p.1 with
 | .isTrue h=>(match p.2 (h▸x) args with
  | some (ok,y,res)=>some (ok,h▸y,res)
  | none=>none)
 | .isFalse _=>none
def aaG(O:aI E)(l:List (FuncId×XJ E)):aI E:={ O with
 aus:=fun f=>(match look l f with
  | some p=>some p.1
  | none=>none)
 aut:=fun f t x args=>(match look l f with
  | some p=>aAR p t x args
  | none=>none) }
def QT (P:Program) (f:FuncId) (fn:Func):Prop:=P.funcs[f]? = some fn/\(fn.name == "runtime.NumGoroutine")=false/\fn.body.isNone=false
def WK(E:Env P)(f:FuncId)(p:XJ E):Prop:=(∃fn,QT P f fn)/\∀x args y res,p.2 x args=some (true,y,res)->YH E f p.1 x args y res
def Lh(l:List (FuncId×XJ E)):Prop:=∀p∈l,WK E p.1 p.2
theorem Lh.nil:Lh (E:=E) []:=fun p h=>by cases h
theorem Lh.cons{f:FuncId}{p:XJ E}{l:List (FuncId×XJ E)}(h:WK E f p)(hl:Lh l):Lh ((f,p)::l):=fun q hq=>by
 cases hq with
 | head=>exact h
 | tail _ hq=>exact hl q hq
theorem auZ{O:aI E}(hO:aL E O){l:List (FuncId×XJ E)}(hl:Lh l):aL E (aaG O l):=by
 refine⟨hO.1,hO.2.1,hO.2.2.1,hO.2.2.2.1,hO.2.2.2.2.1,hO.2.2.2.2.2.1,hO.2.2.2.2.2.2.1,fun f t x args y res h=>?_,hO.2.2.2.2.2.2.2.2⟩;simp only[aaG]at h;split at h
 ·rename_i p hp;have hb:=hl _ (jW _ _ _ hp);refine⟨hb.1,?_⟩;unfold aAR at h;split at h
  ·rename_i e _;subst e;split at h
   ·rename_i ok y' res' hq;cases h;exact hb.2 x args _ _ hq
   ·cases h
  ·cases h
 ·cases h
def avA:Arg E->AV E
 | .v x=>gY x.1 x.2
 | .c f p q=>TN f (p.map fun y=>gY y.1 y.2) (q.map fun y=>gY y.1 y.2)
def aaH:List (Arg E)->Nat->List (Nat×AV E)
 | [],_=>[]
 | y::r,i=>(i,avA y)::aaH r (i+1)
def Un(fn:Func)(args:List (Arg E)):av E:=⟨args.length+(fn.ntmps-args.length),aaH args 0,[],0⟩
def agA(O:aI E)(h:Hint E)(G:Nat->av E->Option (List (TV E)))(fn:Func)(args:List (Arg E)):Option (List (TV E)):=match fn.body with
 | some c=>nk O h G 0 c (Un fn args) (Ld fn)
 | none=>none
theorem aes{w:World}{ro:Nat->Nat->Prop}{ι:Nat->Option Gh}{vs:Array Value}{p:List (TV E)}(h:gq E w ro vs.toList p):vs.size=(p.map fun y=>gY y.1 y.2).length/\∀(j:Nat) v c,vs[j]? = some v->(p.map fun y=>gY y.1 y.2)[j]? = some c->aP E w ro ι v c:=by
 obtain⟨h1,h2⟩:=gq.at_ _ _ h;refine⟨by simpa using h1,fun j v c hv hc=>?_⟩;rw[adZ]at hc;cases hj:p[j]? with
 | none=>rw[hj]at hc;cases hc
 | some y=>rw[hj]at hc;cases hc;exact rP (h2 j v y (by simpa using hv) hj)
theorem ayr{w:World}{ro:Nat->Nat->Prop}{ι:Nat->Option Gh}{v:Value}{y:Arg E}(h:aoJ E w ro v y):aP E w ro ι v (avA y)/\d9 (avA y)=false:=by
 cases y with
 | v x=>exact⟨rP h,wh⟩
 | c f p q =>
  obtain⟨vs,us,rfl,hp,hq⟩:=h;obtain⟨p1,p2⟩:=aes (ι:=ι) hp;obtain⟨q1,q2⟩:=aes (ι:=ι) hq;show aP E w ro ι _ (TN f (p.map fun y=>gY y.1 y.2) (q.map fun y=>gY y.1 y.2))/\d9 (TN f (p.map fun y=>gY y.1 y.2) (q.map fun y=>gY y.1 y.2))=false;generalize (p.map fun y=>gY y.1 y.2)=a at p1 p2 ⊢;generalize (q.map fun y=>gY y.1 y.2)=b at q1 q2 ⊢
  match a,b,p1,p2,q1,q2 with
  | [],[],p1,_,q1,_ =>have e1:vs = #[]:=aiJ p1;have e2:us = #[]:=aiJ q1;subst e1;subst e2;exact⟨.d _ _ (.raw _ rfl),rfl⟩
  | x::a,b,p1,p2,q1,q2=>exact⟨.fn f vs us (x::a) b p1 q1 p2 q2,rfl⟩
  | [],x::b,p1,p2,q1,q2=>exact⟨.fn f vs us [] (x::b) p1 q1 p2 q2,rfl⟩
theorem aaI:∀{args:List (Arg E)} {i t:Nat} {x:AV E},look (aaH args i) t=some x->i<=t/\∃y,args[t-i]? = some y/\x=avA y
 | [],_,_,_,h=>by cases h
 | y::r,i,t,x,h=>by
  simp only[aaH,aX]at h;split at h
  ·rename_i hb;have:=aax hb;grind
  ·rename_i hb;obtain⟨h1,z,h2,h3⟩:=aaI h;grind
theorem apq(y:Arg E):d9 (avA y)=false:=by
 cases y with
 | v x=>exact wh
 | c f p q =>show d9 (TN f _ _)=false;unfold TN;split<;>rfl
theorem Uo:∀(args:List (Arg E)) (i:Nat),aR (aaH args i)
 | [],_=>fun p h=>by cases h
 | y::r,i=>fun p h=>by
  cases h with
  | head=>exact apq y
  | tail _ h=>exact Uo r (i+1) p h
theorem aeu(hO:aL E O)(dN:P.follows .mixedOrders=true){f:FuncId}{fn:Func}(hf:P.funcs[f]? = some fn){args:List (Arg E)}{res:List (TV E)}(hr:agA O h (Gr E fn res) fn args=some res):aaj E f args res:=by
 unfold agA at hr;split at hr
 ·rename_i c hc;intro w ro vals hlen hat kP;refine calls_of_wp hf hc ?_;have hg:bN E ⟨w,none,none,[],fun _=>none⟩ ro (Un fn args) { tmps:=vals.toArray++Array.replicate (fn.ntmps-vals.toArray.size) undef,defers:=[] } w (fun _=>none) ro:={
   base:=⟨⟨rfl,rfl,rfl,abH _,fun _ _ _=>rfl⟩,kP,fun k o h=>.inl h,(fun id gh k h=>by cases h),rfl,(fun q h=>by cases h),(fun k o h=>by cases h)⟩
   size:=by simp[Un,hlen]
   tmps:=fun t x hl=>by
    obtain⟨_,y,hy,rfl⟩:=aaI hl;rw[amB]at hy;have hlt:t<vals.length:=by rw[hlen];exact(List.getElem?_eq_some_iff.1 hy).1
    have hv:=aac hlt;refine⟨vals[t],by simp[anC,hlt],?_⟩;obtain⟨hr,hc⟩:=ayr (ι:=fun _=>none) (hat t _ y hv hy);generalize avA y=z at hr hc;cases z<;>first | exact hr | cases hc
   objs:=fun id o hl=>by cases hl
   inj:=fun id id' o o' gh bD k hl=>by cases hl
   fresh:=fun _ _=>rfl
   ids:=fun id o hl=>by cases hl }
  exact sD (n:=(Un fn args).n) (Q0:=agy E fn res w ro) (c0:=c) hO dN (fun i S hi=>⟨.none rfl,apc hi w ro _ c hc⟩) c 0 (Un fn args) (Ld fn) _ _ w _ ro Placed.whole (fun _=>rfl) (Uo args 0) hg rfl hr
   fun e S' a' w' ι' ro' h1 h2 _ h4=>FX h1 h2 h4
 ·cases hr
abbrev O6(E:Env P):=List (zD E)×(List (Arg E)->Option (Bool×List (TV E)))
def ahW(f:FuncId):List (FuncId×O6 E)->List (O6 E)
 | []=>[]
 | p::r=>(match Nat.beq p.1 f with
  | true=>p.2::ahW f r
  | false=>ahW f r)
def agB(O:aI E)(l:List (FuncId×O6 E)):aI E:={ O with cla:=fun f=>ahW f l }
def AOk(E:Env P)(f:FuncId)(p:O6 E):Prop:=(∃fn,QT P f fn)/\∀xs res,p.2 xs=some (true,res)->aaj E f xs res
def YR(l:List (FuncId×O6 E)):Prop:=∀p∈l,AOk E p.1 p.2
theorem YR.nil:YR (E:=E) []:=fun p h=>by cases h
theorem YR.cons{f:FuncId}{p:O6 E}{l:List (FuncId×O6 E)}(h:AOk E f p)(hl:YR l):YR ((f,p)::l):=fun q hq=>by
 cases hq with
 | head=>exact h
 | tail _ hq=>exact hl q hq
theorem YS{f:FuncId}{p:O6 E}:∀{l:List (FuncId×O6 E)},p∈ahW f l->(f,p)∈l
 | [],h=>by cases h
 | q::r,h=>by
  unfold ahW at h;split at h
  ·rename_i hb;have:=aax hb;cases h with
   | head=>rw[<- this];exact aa1
   | tail _ h=>exact aa6 _ (YS h)
  ·exact aa6 _ (YS h)
theorem au0{O:aI E}(hO:aL E O){l:List (FuncId×O6 E)}(hl:YR l):aL E (agB O l) :=
 ⟨hO.1,hO.2.1,hO.2.2.1,hO.2.2.2.1,hO.2.2.2.2.1,hO.2.2.2.2.2.1,hO.2.2.2.2.2.2.1,hO.2.2.2.2.2.2.2.1,fun f p xs res hp h=>by have:=hl _ (YS hp);exact⟨this.1,this.2 xs res h⟩⟩
end
end
end Go.Proofs.YtclnniijooeajaaGreatDoor.bA
namespace Go.Proofs.YtclnniijooeajaaGreatDoor.bA
open Go Go.RowKit
section
inductive Tr (ρ σ:Type) where
 | k (r:ρ)
 | g (s:σ)
 | n
def Tr.el{ρ σ τ:Type}(k:ρ->τ)(g:σ->τ)(n:τ):Tr ρ σ->τ
 | .k r=>k r
 | .g s=>g s
 | .n=>n
class Df (α:Type) where
 d:α
instance:Df Int:=⟨0⟩
instance:Df Nat:=⟨0⟩
instance:Df Bool:=⟨false⟩
instance:Df Unit:=⟨()⟩
instance {α:Type}:Df (List α):=⟨[]⟩
instance {α β:Type} [Df α] [Df β]:Df (α×β):=⟨(Df.d,Df.d)⟩
section
variable {α τ:Type} [Df α]
def gv(o:Option α):α:=o.getD Df.d
def cl(o:Option α)(n:τ)(f:α->τ):τ:=bif o.isSome then f (o.getD Df.d)else n
def fV{β:Type}(l:List β)(i:Int):Bool:=decide ((0:Int)<=i)&&decide (i<(l.length:Int))
def ix(l:List α)(i:Int)(n:τ)(f:α->τ):τ:=bif decide ((0:Int)<=i)&&decide (i<(l.length:Int))then f (l.getD i.toNat Df.d)else n
end
def O7{τ:Type}(l:anP)(i:Int)(n:τ)(f:Int->τ):τ:=bif decide ((0:Int)<=i)&&decide (i<(l.length:Int))then f (((l.getD i.toNat 0).toNat:Nat):Int)else n
def ny(i:Int):Nat:=0+i.toNat*1
theorem ahX(i:Int):ny i=i.toNat:=by unfold ny;omega
def ck{τ:Type}(b:Bool)(n x:τ):τ:=bif b then x else n
def cut{α:Type}(l:List α)(a b:Int):List α:=List.take (b.toNat-a.toNat) (List.drop a.toNat l)
def bM{α:Type}(l:List α)(a b:Int):Bool:=decide ((0:Int)<=a)&&decide (a<=b)&&decide (b<=(l.length:Int))
def aF(a b:Int):Bool:=decide (a<b)
def bW(a b:Int):Bool:=decide (a<=b)
def aC{α:Type}(l:List α):Int:=(l.length:Int)
def tH(l:anP)(i:Int):Int:=(((List.getD l (Int.toNat i) 0).toNat:Nat):Int)
def Am{α:Type}(l:List α)(i:Int)(d:α):α:=List.getD l (Int.toNat i) d
def aN(a b:Bool):Bool:=bif a then true else b
def aab(a b:Bool):Bool:=bif a then b else false
theorem bg:(∀a b:Int,aF a b=decide (a<b))/\(∀a b:Int,bW a b=decide (a<=b))/\(∀(α:Type) (l:List α),aC l=(l.length:Int))/\(∀(l:anP) (i:Int),tH l i=(((List.getD l (Int.toNat i) 0).toNat:Nat):Int))/\(∀(α:Type) (l:List α) (i:Int) (d:α),Am l i d=List.getD l (Int.toNat i) d) /\
  (∀a b:Bool,aN a b=bif a then true else b)/\∀a b:Bool,aab a b=bif a then b else false:=⟨fun _ _=>rfl,fun _ _=>rfl,fun _ _=>rfl,fun _ _=>rfl,fun _ _ _ _=>rfl,fun _ _=>rfl,fun _ _=>rfl⟩
section
variable {ρ σ τ:Type} {k:ρ->τ} {g:σ->τ} {n:τ}
theorem eK(r:ρ):(Tr.k r:Tr ρ σ).el k g n=k r:=rfl
theorem eG(s:σ):(Tr.g s:Tr ρ σ).el k g n=g s:=rfl
theorem eN:(Tr.n:Tr ρ σ).el k g n=n:=rfl
theorem eB(c:Bool)(a b:Tr ρ σ):(bif c then a else b).el k g n=bif c then a.el k g n else b.el k g n:=by cases c<;>rfl
theorem eC{α:Type}[Df α](o:Option α)(a:Tr ρ σ)(f:α->Tr ρ σ):(cl o a f).el k g n=cl o (a.el k g n) fun x=>(f x).el k g n:=by unfold cl;cases o<;>rfl
theorem eI{α:Type}[Df α](l:List α)(i:Int)(a:Tr ρ σ)(f:α->Tr ρ σ):(ix l i a f).el k g n=ix l i (a.el k g n) fun x=>(f x).el k g n:=by unfold ix;exact eB _ _ _
theorem eS(l:anP)(i:Int)(a:Tr ρ σ)(f:Int->Tr ρ σ):(O7 l i a f).el k g n=O7 l i (a.el k g n) fun x=>(f x).el k g n:=by unfold O7;exact eB _ _ _
theorem eJ(c:Bool)(a b:Tr ρ σ):(ck c a b).el k g n=ck c (a.el k g n) (b.el k g n):=by unfold ck;exact eB _ _ _
theorem eA:(∀r:ρ,(Tr.k r:Tr ρ σ).el k g n=k r)/\(∀s:σ,(Tr.g s:Tr ρ σ).el k g n=g s)/\((Tr.n:Tr ρ σ).el k g n=n)/\(∀(c:Bool) (a b:Tr ρ σ),(bif c then a else b).el k g n=bif c then a.el k g n else b.el k g n) /\
  (∀(α:Type) [Df α] (o:Option α) (a:Tr ρ σ) (f:α->Tr ρ σ),(cl o a f).el k g n=cl o (a.el k g n) fun x=>(f x).el k g n)/\(∀(α:Type) [Df α] (l:List α) (i:Int) (a:Tr ρ σ) (f:α->Tr ρ σ),(ix l i a f).el k g n=ix l i (a.el k g n) fun x=>(f x).el k g n) /\
  (∀(l:anP) (i:Int) (a:Tr ρ σ) (f:Int->Tr ρ σ),(O7 l i a f).el k g n=O7 l i (a.el k g n) fun x=>(f x).el k g n)/\∀(c:Bool) (a b:Tr ρ σ),(ck c a b).el k g n=ck c (a.el k g n) (b.el k g n) :=
 ⟨eK,eG,eN,eB,fun _ _=>eC,fun _ _=>eI,eS,eJ⟩
end
section
variable {α τ:Type} [Df α]
theorem aG(x:α)(n:τ)(f:α->τ):cl (some x) n f=f x:=rfl
theorem dS(x:α):gv (some x)=x:=rfl
theorem ak(n x:τ):ck true n x=x:=rfl
end
inductive Te (ρ σ:Type):Type 1 where
 | k (r:ρ)
 | g (s:σ)
 | n
 | b (c:Bool) (x y:Te ρ σ)
 | q (c:Bool) (x:Te ρ σ)
 | c {α:Type} [Df α] (o:Option α) (f:α->Te ρ σ)
 | i {α:Type} [Df α] (l:List α) (i:Int) (f:α->Te ρ σ)
 | s (l:anP) (i:Int) (f:Int->Te ρ σ)
 | l {α:Type} (v:α) (f:α->Te ρ σ)
abbrev Tree(ρ σ:Type):=σ->Te ρ σ
def Te.run{ρ σ:Type}(τ:Type)(k:ρ->τ)(g:σ->τ)(n:τ)(t:Te ρ σ):τ :=
 Te.rec (motive:=fun _=>τ) k g n (fun c _ _ x y=>bif c then x else y) (fun c _ x=>ck c n x) (fun o _ f=>cl o n f) (fun l i _ f=>ix l i n f) (fun l i _ f=>O7 l i n f) (fun v _ f=>f v) t
section
variable {ρ σ τ:Type} {k:ρ->τ} {g:σ->τ} {n:τ}
theorem aM:(∀r:ρ,(Te.k r:Te ρ σ).run τ k g n=k r)/\(∀s:σ,(Te.g s:Te ρ σ).run τ k g n=g s)/\((Te.n:Te ρ σ).run τ k g n=n)/\(∀(c:Bool) (x y:Te ρ σ),(Te.b c x y).run τ k g n=bif c then x.run τ k g n else y.run τ k g n) /\
  (∀(c:Bool) (x:Te ρ σ),(Te.q c x).run τ k g n=ck c n (x.run τ k g n))/\(∀(α:Type) [Df α] (o:Option α) (f:α->Te ρ σ),(Te.c o f).run τ k g n=cl o n fun x=>(f x).run τ k g n)/\(∀(α:Type) [Df α] (l:List α) (i:Int) (f:α->Te ρ σ),(Te.i l i f).run τ k g n=ix l i n fun x=>(f x).run τ k g n) /\
  (∀(l:anP) (i:Int) (f:Int->Te ρ σ),(Te.s l i f).run τ k g n=O7 l i n fun x=>(f x).run τ k g n)/\∀(α:Type) (v:α) (f:α->Te ρ σ),(Te.l v f).run τ k g n=(f v).run τ k g n :=
 ⟨fun _=>rfl,fun _=>rfl,rfl,fun _ _ _=>rfl,fun _ _=>rfl,fun _ _ _ _=>rfl,fun _ _ _ _ _=>rfl,fun _ _ _=>rfl,fun _ _ _=>rfl⟩
theorem Te.nat(t:Te ρ σ):t.run τ k g n=(t.run (Tr ρ σ) Tr.k Tr.g Tr.n).el k g n:=by
 induction t with
 | b c x y h1 h2=>simp only[aM,eA,h1,h2]
 | q c x h=>simp only[aM,eA,h]
 | c o f h=>simp only[aM,eA,h]
 | i l i f h=>simp only[aM,eA,h]
 | s l i f h=>simp only[aM,eA,h]
 | l v f h=>exact h v
 | _=>rfl
end
def Uq{ρ σ:Type}(t:Tree ρ σ):Nat->σ->Option ρ
 | 0,_=>none
 | f+1,s=>(t s).run (Option ρ) some (Uq t f) none
def IB:Nat:=1000000000000000000000000000000
def mu{ρ σ:Type}(t:Tree ρ σ)(s:σ):Option ρ:=Uq t IB s
def Te.o{ρ:Type}(t:Te ρ Empty):Option ρ:=t.run (Option ρ) some (fun e=>nomatch e) none
section
variable {ρ σ:Type} {t:Tree ρ σ}
theorem ahY:∀(f:Nat) (s:σ) (r:ρ),Uq t f s=some r->∀f',f<=f'->Uq t f' s=some r
 | 0,_,_,h,_,_=>by cases h
 | f+1,s,r,h,0,hf=>by omega
 | f+1,s,r,h,f'+1,hf=>by
  simp only[Uq]at h ⊢;rw[Te.nat]at h ⊢;cases ht:(t s).run _ Tr.k Tr.g Tr.n with
  | k r'=>rw[ht]at h;exact h
  | n=>rw[ht]at h;cases h
  | g s'=>rw[ht]at h;exact ahY f s' r h f' (by omega)
theorem Te.agC{t:Te ρ Empty}{r:ρ}(h:t.o=some r){τ:Type}{k:ρ->τ}{g:Empty->τ}{n:τ}:t.run τ k g n=k r:=by
 rw[Te.o,Te.nat]at h;rw[Te.nat];cases ht:t.run _ Tr.k Tr.g Tr.n with
 | k r'=>rw[ht]at h;cases h;rfl
 | n=>rw[ht]at h;cases h
 | g s'=>cases s'
end
section
variable {ρ σ:Type} {t:Tree ρ σ}
theorem Te.prop{t:Te ρ σ}{k:ρ->Prop}{g:σ->Prop}(h:t.run Prop k g False):(∃r,t.run (Tr ρ σ) Tr.k Tr.g Tr.n = .k r/\k r)\/∃s',t.run (Tr ρ σ) Tr.k Tr.g Tr.n = .g s'/\g s':=by
 rw[Te.nat]at h;cases ht:t.run (Tr ρ σ) Tr.k Tr.g Tr.n with
 | k r=>rw[ht]at h;exact .inl ⟨r,rfl,h⟩
 | g s'=>rw[ht]at h;exact .inr ⟨s',rfl,h⟩
 | n=>rw[ht]at h;exact h.elim
theorem come{m:Option ρ}{s:σ}(Q:ρ->Prop)(hm:m=mu t s)(I:σ->Prop)(M:σ->Nat)(hs:I s)(hM:M s<1000000000000000000000000000000)(h:∀s,I s->(t s).run Prop Q (fun s'=>I s'/\M s'<M s) False):∃r,m=some r/\Q r:=by
 have go:∀n s,M s<n->I s->∃r,Uq t n s=some r/\Q r:=by
  intro n
  induction n with
  | zero=>intro s h0;omega
  | succ n ih =>
   intro s h0 hs;simp only[Uq];rw[Te.nat];rcases Te.prop (h s hs)with⟨r,e,h2⟩ | ⟨s',e,h2,h3⟩
   ·rw[e];exact⟨r,rfl,h2⟩
   ·rw[e];exact ih s' (by omega) h2
 obtain⟨r,h1,h2⟩:=go (M s+1) s (Nat.lt_succ_self _) hs;exact⟨r,hm.trans (ahY _ _ _ h1 _ (show M s+1<=IB by unfold IB;omega)),h2⟩
theorem awT{m:Option ρ}{t:Te ρ Empty}(Q:ρ->Prop)(hm:m=t.o)(h:t.run Prop Q (fun _=>False) False):∃r,m=some r/\Q r:=by
 subst hm;rcases Te.prop h with⟨r,e,h2⟩ | ⟨s',_,h2⟩
 ·rw[Te.o,Te.nat,e];exact⟨r,rfl,h2⟩
 ·exact h2.elim
end
section
variable {α:Type} [Df α]
theorem wB(c:Bool)(a b:Prop):(bif c then a else b)=((c=true->a)/\(c=false->b)):=by cases c<;>simp
theorem wK(c:Bool)(a:Prop):ck c False a=(c=true/\a):=by unfold ck;cases c<;>simp
theorem wI(l:List α)(i:Int)(f:α->Prop):ix l i False f=(0<=i/\i<(l.length:Int)/\f (l.getD i.toNat Df.d)):=by unfold ix;rw[wB];simp;exact⟨fun⟨h1,h2⟩=>⟨h2.1,h2.2,h1 h2.1 h2.2⟩,fun⟨h1,h2,h3⟩=>⟨fun _ _=>h3,h1,h2⟩⟩
theorem wS(l:anP)(i:Int)(f:Int->Prop):O7 l i False f=(0<=i/\i<(l.length:Int)/\f ((l.getD i.toNat 0).toNat:Int)):=by unfold O7;rw[wB];simp;exact⟨fun⟨h1,h2⟩=>⟨h2.1,h2.2,h1 h2.1 h2.2⟩,fun⟨h1,h2,h3⟩=>⟨fun _ _=>h3,h1,h2⟩⟩
theorem wC(o:Option α)(f:α->Prop):cl o False f=∃r,o=some r/\f r:=by
 cases o with
 | none=>simp[cl]
 | some r=>simp[cl]
end
section
variable {P:Program} {E:Env P}
inductive Hd (E:Env P) where
 | e (args:List (TV E))
 | c (args:List (Arg E))
 | h (i:Nat) (S:av E)
inductive Md (E:Env P) where
 | fn
 | bx (t:E.Ty)
def NP(M:Md E)(O:aI E)(H:Hint E)(G:Nat->av E->Option (List (TV E)))(fn:Func)(s:Hd E):Option (List (TV E)):=match M,s with
 | .fn,.e args=>jK O H G fn args
 | .fn,.c args=>agA O H G fn args
 | .fn,.h i S=>uV O H G fn i S
 | .bx t,.e args=>(match args with
  | v::args=>(match kQ t v with
   | some x=>aaE O H G fn t x args
   | none=>none)
  | []=>none)
 | .bx t,.h i S=>apn O H G fn t i S
 | .bx _,.c _=>none
def gH(M:Md E)(O:aI E)(H:Hint E)(G:Nat->av E->Option (List (TV E)))(fn:Func):Hd E->Option (List (TV E))
 | .e args=>NP M O H G fn (.e args)
 | .c args=>NP M O H G fn (.c args)
 | .h i S=>G i S
structure Runs {ρ σ:Type} (M:Md E) (O:aI E) (fn:Func) (H:Hint E) (C:σ->Hd E) (enc:ρ->List (TV E)) (t:Tree ρ σ):Prop where
 run:∀(s:σ) (G:Nat->av E->Option (List (TV E))),NP M O H G fn (C s)=(t s).run _ (fun r=>some (enc r)) (fun s=>gH M O H G fn (C s)) none
def GrX(M:Md E)(fn:Func)(res:List (TV E)):Nat->av E->Option (List (TV E)):=match M with
 | .fn=>Gr E fn res
 | .bx t=>GrB E fn t res
def EvX(M:Md E)(fn:Func)(res:List (TV E))(i:Nat)(S:av E):Prop:=match M with
 | .fn=>Ev E fn res i S
 | .bx t=>EvB E fn t res i S
def aFh(M:Md E)(O:aI E)(H:Hint E)(fn:Func)(res:List (TV E)):Hd E->Prop
 | .e args=>NP M O H (GrX M fn res) fn (.e args)=some res
 | .c args=>NP M O H (GrX M fn res) fn (.c args)=some res
 | .h i S=>EvX M fn res i S
theorem aAS{M:Md E}{fn:Func}{res:List (TV E)}{i:Nat}{S:av E}(h:EvX M fn res i S):GrX M fn res i S=some res:=by
 cases M with
 | fn=>exact gK h
 | bx t=>exact aAQ h
theorem EvX.step{M:Md E}{O:aI E}{H:Hint E}(hO:aL E O)(dN:P.follows .mixedOrders=true)(ho:M = .fn\/0<H.own){fn:Func}{res:List (TV E)}{i:Nat}{S:av E}(h:NP M O H (GrX M fn res) fn (.h i S)=some res):EvX M fn res i S:=by
 cases M with
 | fn=>exact Ev.step hO dN h
 | bx t=>exact EvB.step hO dN (ho.resolve_left (fun e=>by cases e)) h
theorem Runs.sound{ρ σ:Type}{M:Md E}{O:aI E}{fn:Func}{H:Hint E}{C:σ->Hd E}{enc:ρ->List (TV E)}{t:Tree ρ σ}(R:Runs M O fn H C enc t)(hO:aL E O)(dN:P.follows .mixedOrders=true)(ho:M = .fn\/0<H.own) :
  ∀(f:Nat) (s:σ) (r:ρ),Uq t f s=some r->aFh M O H fn (enc r) (C s)
 | 0,_,_,h=>by cases h
 | f+1,s,r,h=>by
  have h1:NP M O H (GrX M fn (enc r)) fn (C s)=some (enc r):=by
   rw[R.run,Te.nat];simp only[Uq]at h;rw[Te.nat]at h;cases ht:(t s).run _ Tr.k Tr.g Tr.n with
   | k r'=>rw[ht]at h;cases h;rfl
   | n=>rw[ht]at h;cases h
   | g s' =>
    rw[ht]at h;have ih:=R.sound hO dN ho f s' r h;show gH M O H _ fn (C s')=_;cases hc:C s' with
    | e args=>rw[hc]at ih;exact ih
    | c args=>rw[hc]at ih;exact ih
    | h i S=>rw[hc]at ih;exact aAS ih
  cases hc:C s with
  | e args=>rw[hc]at h1;exact h1
  | c args=>rw[hc]at h1;exact h1
  | h i S=>rw[hc]at h1;exact EvX.step hO dN ho h1
def Args(E:Env P):List E.Ty->Type
 | []=>Unit
 | [t]=>E.Den t
 | t::u::ts=>E.Den t×Args E (u::ts)
def kD:(ts:List E.Ty)->Args E ts->List (TV E)
 | [],_=>[]
 | [t],x=>[⟨t,x⟩]
 | t::u::ts,x=>⟨t,x.1⟩::kD (u::ts) x.2
def acB:(ts:List E.Ty)->List (TV E)->Option (Args E ts)
 | [],l=>(match l with
  | []=>some ()
  | _=>none)
 | [t],l=>(match l with
  | [v]=>kQ t v
  | _=>none)
 | t::u::ts,l=>(match l with
  | []=>none
  | v::vs=>(match kQ t v with
   | some x=>(match acB (u::ts) vs with
    | some y=>some (x,y)
    | none=>none)
   | none=>none))
def dfA:(ts:List E.Ty)->Args E ts
 | []=>()
 | [t]=>E.dflt t
 | t::u::ts=>(E.dflt t,dfA (u::ts))
theorem O8:∀(ts:List E.Ty) (l:List (TV E)) (x:Args E ts),acB ts l=some x->l=kD ts x
 | [],l,x=>by
  intro h
  match l,h with
  | [],_=>rfl
  | _::_,h=>cases(show none=some x from h)
 | [t],l,x=>by
  intro h
  match l,h with
  | [],h=>cases(show none=some x from h)
  | [v],h=>rw[iD (show kQ t v=some x from h)];rfl
  | _::_::_,h=>cases(show none=some x from h)
 | t::u::ts,l,x=>by
  intro h;unfold acB at h;split at h
  ·cases h
  ·split at h
   ·rename_i y hy;split at h
    ·rename_i z hz;cases h;rw[iD hy,O8 _ _ _ hz];rfl
    ·cases h
   ·cases h
theorem apr{t:E.Ty}{x:E.Den t}:kQ t (⟨t,x⟩:TV E)=some x:=by
 unfold kQ MW;cases h:E.dec t t with
 | isTrue h=>rfl
 | isFalse h'=>exact absurd rfl h'
def Ng(ps rs:List E.Ty)(m:Args E ps->Option (Args E rs)):jq E:=fun l=>match acB ps l with
 | some x=>some ((m x).isSome,kD rs ((m x).getD (dfA rs)))
 | none=>none
theorem ahZ{f:FuncId}{fn:Func}(ex:QT P f fn){ps rs:List E.Ty}{m:Args E ps->Option (Args E rs)}(h:∀a r,m a=some r->EK E f (kD ps a) (kD rs r)):bE E f (Ng ps rs m) :=
 ⟨⟨fn,ex⟩,fun args res hr=>by
  unfold Ng at hr;split at hr
  ·rename_i x hx;rw[O8 _ _ _ hx];cases hm:m x with
   | none=>rw[hm]at hr;cases hr
   | some r=>rw[hm]at hr;cases hr;exact h x r hm
  ·cases hr⟩
theorem Runs.fn{ρ σ:Type}{O:aI E}{fn:Func}{H:Hint E}{C:σ->Hd E}{t:Tree ρ σ}{f:FuncId}{ps rs:List E.Ty}{enc:ρ->List (TV E)}(R:Runs .fn O fn H C enc t)(hO:aL E O)(dN:P.follows .mixedOrders=true)(ex:QT P f fn)
  {st:Args E ps->σ} (hs:∀a,C (st a) = .e (kD ps a)) {m:Args E ps->Option (Args E rs)} (hm:∀a r,m a=some r->∃r',mu t (st a)=some r'/\enc r'=kD rs r):bE E f (Ng ps rs m) :=
 ahZ ex fun a r h=>by obtain⟨r',h1,h2⟩:=hm a r h;have:=R.sound hO dN (.inl rfl) IB _ _ h1;rw[hs a]at this;rw[<- h2];exact KD hO dN ex.1 this
def XK(t:E.Ty)(ps rs:List E.Ty)(m:E.Den t->Args E ps->Option (E.Den t×Args E rs)):XJ E:=⟨t,fun x l=>match acB ps l with
 | some a=>some ((m x a).isSome,((m x a).getD (E.dflt t,dfA rs)).1,kD rs ((m x a).getD (E.dflt t,dfA rs)).2)
 | none=>none⟩
theorem au1{f:FuncId}{b:E.Ty}{ps rs:List E.Ty}(ex:∃fn,QT P f fn):WK E f (XK b ps rs fun _ _=>none) :=
 ⟨ex,fun(x:E.Den b) l y res h=>by
  simp only[XK]at h;split at h
  ·cases h
  ·cases h⟩
theorem Runs.bx{ρ σ:Type}{O:aI E}{fn:Func}{H:Hint E}{C:σ->Hd E}{t:Tree ρ σ}{f:FuncId}{b:E.Ty}{ps rs:List E.Ty}{enc:ρ->List (TV E)}(R:Runs (.bx b) O fn H C enc t)(hO:aL E O)(dN:P.follows .mixedOrders=true)(ho:0<H.own)(ex:QT P f fn)
  {st:E.Den b->Args E ps->σ} (hs:∀x a,C (st x a) = .e (⟨b,x⟩::kD ps a)) {m:E.Den b->Args E ps->Option (E.Den b×Args E rs)} (hm:∀x a r,m x a=some r->∃r',mu t (st x a)=some r'/\enc r'=⟨b,r.1⟩::kD rs r.2):WK E f (XK b ps rs m) :=
 ⟨⟨fn,ex⟩,fun(x:E.Den b) l y res h=>by
  simp only[XK]at h;split at h
  ·rename_i a ha;rw[O8 _ _ _ ha];cases hmm:m x a with
   | none=>rw[hmm]at h;cases h
   | some r =>rw[hmm]at h;cases h;obtain⟨r',h1,h2⟩:=hm x a r hmm;have:=R.sound hO dN (.inr ho) IB _ _ h1;rw[hs x a]at this;rw[h2]at this;have this:(match kQ b (⟨b,x⟩:TV E)with | some x=>aaE O H (GrB E fn b (⟨b,r.1⟩::kD rs r.2)) fn b x (kD ps a) | none=>none)=some (⟨b,r.1⟩::kD rs r.2):=this;rw[apr]at this;exact XI hO dN ho ex.1 this
  ·cases h⟩
def Bu:List (zD E)->List E.Ty
 | []=>[]
 | .v t::r=>t::Bu r
 | .c _ ps qs::r=>ps++(qs++Bu r)
def WL:List (Arg E)->List (TV E)
 | []=>[]
 | .v x::r=>x::WL r
 | .c _ p q::r=>p++(q++WL r)
def QU:List (zD E)->List (TV E)->List (Arg E)
 | [],_=>[]
 | .v _::r,l=>(match l with
  | x::l=>.v x::QU r l
  | []=>[])
 | .c f ps qs::r,l=>.c f (l.take ps.length) ((l.drop ps.length).take qs.length)::QU r ((l.drop ps.length).drop qs.length)
def KT:List (zD E)->List (Arg E)->Bool
 | [],[]=>true
 | .v _::r,.v _::s=>KT r s
 | .c f ps qs::r,.c f' p q::s=>Nat.beq f f'&&(Nat.beq ps.length p.length&&(Nat.beq qs.length q.length&&KT r s))
 | _,_=>false
theorem Ur:∀(ss:List (zD E)) (xs:List (Arg E)),KT ss xs=true->QU ss (WL xs)=xs
 | [],[],_=>rfl
 | .v _::r,.v x::s,h=>by have h:KT r s=true:=h;simp only[WL,QU,Ur r s h]
 | .c f ps qs::r,.c f' p q::s,h=>by simp only[KT,abG]at h;obtain⟨h1,h2,h3,h4⟩:=h;have h1:=aax h1;have h2:=aax h2;have h3:=aax h3;subst h1;simp only[WL,QU,h2,h3,List.take_left,List.drop_left,Ur r s h4]
 | [],_::_,h=>by cases h
 | .v _::_,[],h=>by cases h
 | .c _ _ _::_,[],h=>by cases h
 | .v _::_,.c _ _ _::_,h=>by cases h
 | .c _ _ _::_,.v _::_,h=>by cases h
def fnP(sh:List (zD E))(rs:List E.Ty)(m:Args E (Bu sh)->Option (Args E rs)):O6 E:=(sh,fun xs=>match KT sh xs with
 | true=>(match acB (Bu sh) (WL xs)with
  | some a=>some ((m a).isSome,kD rs ((m a).getD (dfA rs)))
  | none=>none)
 | false=>none)
theorem aok{f:FuncId}{fn:Func}{sh:List (zD E)}{rs:List E.Ty}{m:Args E (Bu sh)->Option (Args E rs)}(ex:QT P f fn)(h:∀a r,m a=some r->aaj E f (QU sh (kD (Bu sh) a)) (kD rs r)):AOk E f (fnP sh rs m) :=
 ⟨⟨fn,ex⟩,fun xs res hr=>by
  simp only[fnP]at hr;split at hr
  ·rename_i hsh;split at hr
   ·rename_i a ha;have e:=Ur sh xs hsh;rw[O8 _ _ _ ha]at e;cases hm:m a with
    | none=>rw[hm]at hr;cases hr
    | some r =>rw[hm]at hr;cases hr;exact e▸h a r hm
   ·cases hr
  ·cases hr⟩
theorem Runs.cl{ρ σ:Type}{O:aI E}{fn:Func}{H:Hint E}{C:σ->Hd E}{t:Tree ρ σ}{f:FuncId}{sh:List (zD E)}{rs:List E.Ty}{enc:ρ->List (TV E)}(R:Runs .fn O fn H C enc t)(hO:aL E O)(dN:P.follows .mixedOrders=true)(ex:QT P f fn)
  {st:Args E (Bu sh)->σ} (hs:∀a,C (st a) = .c (QU sh (kD (Bu sh) a))) {m:Args E (Bu sh)->Option (Args E rs)} (hm:∀a r,m a=some r->∃r',mu t (st a)=some r'/\enc r'=kD rs r):AOk E f (fnP sh rs m) :=
 aok ex fun a r h=>by obtain⟨r',h1,h2⟩:=hm a r h;have:=R.sound hO dN (.inl rfl) IB _ _ h1;rw[hs a]at this;rw[<- h2];exact aeu hO dN ex.1 this
theorem IC {f:FuncId} {fn:Func} (e:P.funcs[f]? = some fn) (h:(fn.name == "runtime.NumGoroutine" || fn.body.isNone)=false):QT P f fn:=⟨e,(Bool.or_eq_false_iff.1 h).1,(Bool.or_eq_false_iff.1 h).2⟩
structure uI (E:Env P) where
 w:List (FuncId×jq E)
 r:List (FuncId×XG E)
 u:List (FuncId×XH E)
 v:List (FuncId×E.Ty)
 i:List (FuncId×Func)
 h:List (FuncId×Hint E)
 b:List (FuncId×XJ E)
 a:List (FuncId×O6 E)
 mix:P.follows .mixedOrders=true
 hw:QS w
 hr:El r
 hu:Lg u
 hv:Hy v
 hi:Nf P i
 hb:Lh b
 ha:YR a
namespace uI
def O(q:uI E):aI E:=agB (aaG (aaC (jX q.w q.r q.u q.v) q.i q.h) q.b) q.a
theorem ok(q:uI E):aL E q.O:=au0 (auZ (ahS (gu q.hw q.hr q.hu q.hv) q.mix q.hi) q.hb) q.ha
def e(m:P.follows .mixedOrders=true):uI E:=⟨[],[],[],[],[],[],[],[],m,.nil,.nil,.nil,.nil,.nil,.nil,.nil⟩
def W(q:uI E)(f:FuncId)(F:jq E)(k:bE E f F):uI E:={ q with w:=(f,F)::q.w,hw:=.cons k q.hw }
def R(q:uI E)(f:FuncId)(F:XG E)(k:O1 E f F):uI E:={ q with r:=(f,F)::q.r,hr:=.cons k q.hr }
def V(q:uI E)(f:FuncId)(t:E.Ty)(k:ahQ E f t):uI E:={ q with v:=(f,t)::q.v,hv:=.cons k q.hv }
def B(q:uI E)(f:FuncId)(F:XJ E)(k:WK E f F):uI E:={ q with b:=(f,F)::q.b,hb:=.cons k q.hb }
def A(q:uI E)(f:FuncId)(F:O6 E)(k:AOk E f F):uI E:={ q with a:=(f,F)::q.a,ha:=.cons k q.ha }
def I (q:uI E) (f:FuncId) {fn:Func} (k:P.funcs[f]? = some fn) (h:List (FuncId×Hint E):=[]) (n:(fn.name == "runtime.NumGoroutine" || fn.body.isNone)=false:=by kernel_rfl):uI E:={ q with i:=(f,fn)::q.i,h:=h++q.h,hi:=.cons k (IC k n).2.1 (IC k n).2.2 q.hi }
def or(p q:uI E):uI E:=⟨p.w++q.w,p.r++q.r,p.u++q.u,p.v++q.v,p.i++q.i,p.h++q.h,p.b++q.b,p.a++q.a,p.mix,fun x h=>(List.mem_append.1 h).elim (p.hw x) (q.hw x),fun x h=>(List.mem_append.1 h).elim (p.hr x) (q.hr x),fun x h=>(List.mem_append.1 h).elim (p.hu x) (q.hu x),fun x h=>(List.mem_append.1 h).elim (p.hv x) (q.hv x),fun x h=>(List.mem_append.1 h).elim (p.hi x) (q.hi x),fun x h=>(List.mem_append.1 h).elim (p.hb x) (q.hb x),fun x h=>(List.mem_append.1 h).elim (p.ha x) (q.ha x)⟩
theorem top(q:uI E){f:FuncId}{F:jq E}(h:q.w=(f,F)::q.w.tail):bE E f F:=q.hw (f,F) (by rw[h];exact aa1)
section
variable (q:uI E) (f:FuncId) (ps rs:List E.Ty) {fn:Func} {σ:Type}
def f0 (t:Args E ps->Te (Args E rs) Empty) (e:P.funcs[f]? = some fn) (H:Hint E:={}) (n:(fn.name == "runtime.NumGoroutine" || fn.body.isNone)=false:=by kernel_rfl) (k:∀a G,jK q.O H G fn (kD ps a)=(t a).run (Option (List (TV E))) (fun r=>some (kD rs r)) (fun e=>nomatch e) none:=by intro a G;kernel_rfl):uI E :=
 q.W f (Ng ps rs fun a=>(t a).o) (ahZ (IC e n) fun a _ h=>KD q.ok q.mix e ((k a _).trans (Te.agC h)))
def fl (t:Tree (Args E rs) σ) (st:Args E ps->σ) (C:σ->Hd E) (H:Hint E) (e:P.funcs[f]? = some fn) (n:(fn.name == "runtime.NumGoroutine" || fn.body.isNone)=false:=by kernel_rfl) (k:∀s G,NP .fn q.O H G fn (C s)=(t s).run (Option (List (TV E))) (fun r=>some (kD rs r)) (fun s=>gH .fn q.O H G fn (C s)) none:=by intro s G;cases s<;>kernel_rfl) (hs:∀a,C (st a) = .e (kD ps a):=by intro _;rfl):uI E :=
 q.W f (Ng ps rs fun a=>mu t (st a)) (Runs.fn (enc:=kD rs) ⟨k⟩ q.ok q.mix (IC e n) hs fun _ r h=>⟨r,h,rfl⟩)
def b0 (b:E.Ty) (t:E.Den b->Args E ps->Te (E.Den b×Args E rs) Empty) (e:P.funcs[f]? = some fn) (H:Hint E:={ own:=1 }) (n:(fn.name == "runtime.NumGoroutine" || fn.body.isNone)=false:=by kernel_rfl) (o:0<H.own:=by decide) (k:∀x a G,aaE q.O H G fn b x (kD ps a)=(t x a).run (Option (List (TV E))) (fun r=>some (⟨b,r.1⟩::kD rs r.2)) (fun e=>nomatch e) none:=by intro x a G;kernel_rfl):uI E :=
 q.B f (XK b ps rs fun x a=>(t x a).o) ⟨⟨fn,IC e n⟩,fun(x:E.Den b) l y res h=>by
  simp only[XK]at h;split at h
  ·rename_i a ha;rw[O8 _ _ _ ha];cases hm:(t x a).o with
   | none=>rw[hm]at h;cases h
   | some r =>rw[hm]at h;cases h;exact XI q.ok q.mix o e ((k x a _).trans (Te.agC hm))
  ·cases h⟩
def c0 (sh:List (zD E)) (t:Args E (Bu sh)->Te (Args E rs) Empty) (e:P.funcs[f]? = some fn) (H:Hint E:={}) (n:(fn.name == "runtime.NumGoroutine" || fn.body.isNone)=false:=by kernel_rfl) (k:∀a G,agA q.O H G fn (QU sh (kD (Bu sh) a))=(t a).run (Option (List (TV E))) (fun r=>some (kD rs r)) (fun e=>nomatch e) none:=by intro a G;kernel_rfl):uI E :=
 q.A f (fnP sh rs fun a=>(t a).o) (aok (IC e n) fun a _ h=>aeu q.ok q.mix e ((k a _).trans (Te.agC h)))
def cl (sh:List (zD E)) (t:Tree (Args E rs) σ) (st:Args E (Bu sh)->σ) (C:σ->Hd E) (H:Hint E) (e:P.funcs[f]? = some fn) (n:(fn.name == "runtime.NumGoroutine" || fn.body.isNone)=false:=by kernel_rfl) (k:∀s G,NP .fn q.O H G fn (C s)=(t s).run (Option (List (TV E))) (fun r=>some (kD rs r)) (fun s=>gH .fn q.O H G fn (C s)) none:=by intro s G;cases s<;>kernel_rfl) (hs:∀a,C (st a) = .c (QU sh (kD (Bu sh) a)):=by intro _;rfl):uI E :=
 q.A f (fnP sh rs fun a=>mu t (st a)) (Runs.cl (enc:=kD rs) ⟨k⟩ q.ok q.mix (IC e n) hs fun _ r h=>⟨r,h,rfl⟩)
def br (b:E.Ty) (l:Nat->E.Den b->Args E ps->Option (E.Den b×Args E rs)) (t:(E.Den b->Args E ps->Option (E.Den b×Args E rs))->Tree (E.Den b×Args E rs) σ) (st:E.Den b->Args E ps->σ) (C:σ->Hd E) (H:Hint E) (e:P.funcs[f]? = some fn) (n:(fn.name == "runtime.NumGoroutine" || fn.body.isNone)=false:=by kernel_rfl) (o:0<H.own:=by decide) (k:∀S s G,NP (.bx b) (agB (aaG (aaC (jX q.w q.r q.u q.v) q.i q.h) ((f,XK b ps rs S)::q.b)) q.a) H G fn (C s)=(t S s).run (Option (List (TV E))) (fun r=>some (⟨b,r.1⟩::kD rs r.2)) (fun s=>gH (.bx b) (agB (aaG (aaC (jX q.w q.r q.u q.v) q.i q.h) ((f,XK b ps rs S)::q.b)) q.a) H G fn (C s)) none:=by intro S s G;cases s<;>kernel_rfl) (hs:∀x a,C (st x a) = .e (⟨b,x⟩::kD ps a):=by intro _ _;rfl) (h0:∀x a,l 0 x a=none:=by intro _ _;rfl) (h1:∀n x a,l (n+1) x a=mu (t (l n)) (st x a):=by intro _ _ _;rfl):uI E :=
 q.B f (XK b ps rs (l IB)) (Nat.rec (motive:=fun n=>WK E f (XK b ps rs (l n))) ((funext fun x=>funext (h0 x):l 0=fun _ _=>none)▸au1 ⟨fn,IC e n⟩) (fun m ih=>(funext fun x=>funext (h1 m x):l (m+1)=fun x a=>mu (t (l m)) (st x a))▸Runs.bx (enc:=fun r=>⟨b,r.1⟩::kD rs r.2) ⟨k (l m)⟩ (q.B f _ ih).ok q.mix o (IC e n) hs fun _ _ r h=>⟨r,h,rfl⟩) IB)
end
end uI
end
end
end Go.Proofs.YtclnniijooeajaaGreatDoor.bA
namespace Go.Proofs
open Go.Shelf
def Tryz.lays156_ren:Go.Shelf.Ren:=⟨fun | 156=>145 | 165=>190 | 166=>191 | 169=>192 | 240=>217 | 241=>218 | 276=>232 | 277=>233 | n=>n,fun | 31=>22 | 9=>9 | 3=>3 | 4=>4 | 0=>0 | 20=>20 | 72=>156 | 76=>160 | 70=>154 | 37=>126 | 75=>159 | 127=>178 | 164=>188 | 5=>5 | 80=>162 | n=>n,fun | n=>n⟩
theorem Tryz.lays156:Go.Proofs.Lays.n156 Tryz.prog Tryz.lays156_ren:={
 mixed:=by kernel_rfl
 f156:=Tryz.func145.trans (congrArg some (by kernel_rfl))
 f165:=Tryz.func190.trans (congrArg some (by kernel_rfl))
 f166:=Tryz.func191.trans (congrArg some (by kernel_rfl))
 f169:=Tryz.func192.trans (congrArg some (by kernel_rfl))
 f240:=Tryz.func217.trans (congrArg some (by kernel_rfl))
 f241:=Tryz.func218.trans (congrArg some (by kernel_rfl))
 f276:=Tryz.func232.trans (congrArg some (by kernel_rfl))
 f277:=Tryz.func233.trans (congrArg some (by kernel_rfl))
 t0:=Tryz.underlying0
 a0:=Tryz.isAgg0
 z0:=Tryz.sizeOf0
 v0:=Tryz.zeroValue0
 t3:=Tryz.underlying3
 a3:=Tryz.isAgg3
 z3:=Tryz.sizeOf3
 v3:=Tryz.zeroValue3
 t4:=Tryz.underlying4
 a4:=Tryz.isAgg4
 z4:=Tryz.sizeOf4
 v4:=Tryz.zeroValue4
 t9:=Tryz.underlying9
 a9:=Tryz.isAgg9
 z9:=Tryz.sizeOf9
 v9:=Tryz.zeroValue9
 t20:=Tryz.underlying20
 a20:=Tryz.isAgg20
 z20:=Tryz.sizeOf20
 v20:=Tryz.zeroValue20
 t31:=Tryz.underlying22
 a31:=Tryz.isAgg22
 z31:=Tryz.sizeOf22
 v31:=Tryz.zeroValue22
 t37:=Tryz.underlying126
 a37:=Tryz.isAgg126
 z37:=Tryz.sizeOf126
 v37:=Tryz.zeroValue126
 t70:=Tryz.underlying154
 a70:=Tryz.isAgg154
 z70:=Tryz.sizeOf154
 v70:=Tryz.zeroValue154
 t72:=Tryz.underlying156
 a72:=Tryz.isAgg156
 z72:=Tryz.sizeOf156
 v72:=Tryz.zeroValue156
 t75:=Tryz.underlying159
 a75:=Tryz.isAgg159
 z75:=Tryz.sizeOf159
 v75:=Tryz.zeroValue159
 t76:=Tryz.underlying160
 a76:=Tryz.isAgg160
 z76:=Tryz.sizeOf160
 v76:=Tryz.zeroValue160
 t127:=Tryz.underlying178
 a127:=Tryz.isAgg178
 z127:=Tryz.sizeOf178
 v127:=Tryz.zeroValue178
 t164:=Tryz.underlying188
 a164:=Tryz.isAgg188
 z164:=Tryz.sizeOf188
 v164:=Tryz.zeroValue188 }
theorem Tryz.Builder_Extra_156:Builder.Extra Tryz.prog Tryz.lays156_ren:={
 sizeBuilder:=by kernel_rfl
 liesBuilder:=by kernel_rfl
 t5:=Tryz.underlying5
 a5:=Tryz.isAgg5
 z5:=Tryz.sizeOf5
 v5:=Tryz.zeroValue5
 infoByte:=by kernel_rfl
 cellsByte:=by kernel_rfl
 sizeByte:=by kernel_rfl
 neB5:=by decide }
open Go.RowKit in
theorem Tryz.strings_Join_none(a:Option Addr)(c:Nat)(sep:ByteArray)(w:World) :
  Calls Tryz.prog 145 #[.slice a 0 c,.string sep] w fun e w'=>e = .returned (.string ⟨#[]⟩)/\w'=w:=Any.strings_Join_none Tryz.lays156 Tryz.Builder_Extra_156 a c sep w
open Go.RowKit in
theorem Tryz.strings_Join(bk o c:Nat)(xs:List ByteArray)(sep:ByteArray)(w:World)(hcells:∀(j:Nat) x,xs[j]? = some x->w.cell? ⟨bk,o+j,none⟩=some (.string x))(hbk:bk<w.heap.size)(hN:xs.length<=140737488355328)(hcap:xs.length<=c)(hlen:(Lib.join (xs.map (·.data.toList)) sep.data.toList).length<=140737488355328) :
  Calls Tryz.prog 145 #[.slice (some ⟨bk,o,none⟩) xs.length c,.string sep] w fun e w'=>e = .returned (.string ⟨(Lib.join (xs.map (·.data.toList)) sep.data.toList).toArray⟩)/\Below w.heap.size w w':=Any.strings_Join Tryz.lays156 Tryz.Builder_Extra_156 bk o c xs sep w hcells hbk hN hcap hlen
def Tryz.lays137_ren:Go.Shelf.Ren:=⟨fun | 137=>148 | 217=>194 | 266=>219 | n=>n,fun | 9=>9 | 5=>5 | 3=>3 | n=>n,fun | n=>n⟩
theorem Tryz.lays137:Go.Proofs.Lays.n137 Tryz.prog Tryz.lays137_ren:={
 mixed:=by kernel_rfl
 f137:=Tryz.func148.trans (congrArg some (by kernel_rfl))
 f217:=Tryz.func194.trans (congrArg some (by kernel_rfl))
 f266:=Tryz.func219.trans (congrArg some (by kernel_rfl))
 t3:=Tryz.underlying3
 a3:=Tryz.isAgg3
 z3:=Tryz.sizeOf3
 v3:=Tryz.zeroValue3
 t5:=Tryz.underlying5
 a5:=Tryz.isAgg5
 z5:=Tryz.sizeOf5
 v5:=Tryz.zeroValue5
 t9:=Tryz.underlying9
 a9:=Tryz.isAgg9
 z9:=Tryz.sizeOf9
 v9:=Tryz.zeroValue9 }
open Go.RowKit in
theorem Tryz.strings_IndexByte(s:ByteArray)(c:Int)(w:World) :
  Calls Tryz.prog 148 #[.string s,.int .u8 c] w fun e w'=>e = .returned (.int .i64 (Lib.indexByte s.data.toList c.toNat.toUInt8))/\w'=w:=Any.strings_IndexByte Tryz.lays137 s c w
def Tryz.lays219_ren:Go.Shelf.Ren:=⟨fun | 219=>195 | 217=>194 | 225=>220 | 224=>221 | 267=>222 | 266=>219 | 314=>234 | n=>n,fun | 9=>9 | 3=>3 | 4=>4 | 5=>5 | 46=>121 | 146=>191 | 51=>152 | n=>n,fun | 1=>0 | n=>n⟩
theorem Tryz.lays219:Go.Proofs.Lays.n219 Tryz.prog Tryz.lays219_ren:={
 mixed:=by kernel_rfl
 f217:=Tryz.func194.trans (congrArg some (by kernel_rfl))
 f219:=Tryz.func195.trans (congrArg some (by kernel_rfl))
 f224:=Tryz.func221.trans (congrArg some (by kernel_rfl))
 f225:=Tryz.func220.trans (congrArg some (by kernel_rfl))
 f266:=Tryz.func219.trans (congrArg some (by kernel_rfl))
 f267:=Tryz.func222.trans (congrArg some (by kernel_rfl))
 f314:=Tryz.func234.trans (congrArg some (by kernel_rfl))
 t3:=Tryz.underlying3
 a3:=Tryz.isAgg3
 z3:=Tryz.sizeOf3
 v3:=Tryz.zeroValue3
 t4:=Tryz.underlying4
 a4:=Tryz.isAgg4
 z4:=Tryz.sizeOf4
 v4:=Tryz.zeroValue4
 t5:=Tryz.underlying5
 a5:=Tryz.isAgg5
 z5:=Tryz.sizeOf5
 v5:=Tryz.zeroValue5
 t9:=Tryz.underlying9
 a9:=Tryz.isAgg9
 z9:=Tryz.sizeOf9
 v9:=Tryz.zeroValue9
 t46:=Tryz.underlying121
 a46:=Tryz.isAgg121
 z46:=Tryz.sizeOf121
 v46:=Tryz.zeroValue121
 t51:=Tryz.underlying152
 a51:=Tryz.isAgg152
 z51:=Tryz.sizeOf152
 v51:=Tryz.zeroValue152
 t146:=Tryz.underlying191
 a146:=Tryz.isAgg191
 z146:=Tryz.sizeOf191
 v146:=Tryz.zeroValue191
 g1:=by kernel_rfl }
open Go.RowKit Go.Lib in
theorem Tryz.stringslite_Index_one(s:ByteArray)(c:UInt8)(w:World) :
  Calls Tryz.prog 195 #[.string s,.string ⟨#[c]⟩] w fun e w'=>e = .returned (.int .i64 (Lib.indexByte s.data.toList c))/\w'=w:=Any.stringslite_Index_one Tryz.lays219 s c w
def Tryz.lays190_ren:Go.Shelf.Ren:=⟨fun | 190=>62 | 125=>141 | 258=>140 | 128=>188 | 129=>189 | 302=>179 | 303=>180 | 304=>181 | 305=>182 | 306=>183 | 307=>184 | 308=>185 | 309=>186 | 310=>187 | 333=>211 | 329=>212 | 330=>213 | 334=>214 | 335=>215 | 336=>216 | 344=>231 | n=>n,fun | 31=>22 | 9=>9 | 3=>3 | 46=>121 | 0=>0 | 51=>152 | 53=>137 | 4=>4 | 183=>146 | 182=>145 | 131=>117 | 5=>5 | 218=>172 | 222=>176 | 228=>185 | 229=>186 | n=>n,fun | n=>n⟩
theorem Tryz.lays190:Go.Proofs.Lays.n190 Tryz.prog Tryz.lays190_ren:={
 mixed:=by kernel_rfl
 f125:=Tryz.func141.trans (congrArg some (by kernel_rfl))
 f128:=Tryz.func188.trans (congrArg some (by kernel_rfl))
 f129:=Tryz.func189.trans (congrArg some (by kernel_rfl))
 f190:=Tryz.func62.trans (congrArg some (by kernel_rfl))
 f258:=Tryz.func140.trans (congrArg some (by kernel_rfl))
 f302:=Tryz.func179.trans (congrArg some (by kernel_rfl))
 f303:=Tryz.func180.trans (congrArg some (by kernel_rfl))
 f304:=Tryz.func181.trans (congrArg some (by kernel_rfl))
 f305:=Tryz.func182.trans (congrArg some (by kernel_rfl))
 f306:=Tryz.func183.trans (congrArg some (by kernel_rfl))
 f307:=Tryz.func184.trans (congrArg some (by kernel_rfl))
 f308:=Tryz.func185.trans (congrArg some (by kernel_rfl))
 f309:=Tryz.func186.trans (congrArg some (by kernel_rfl))
 f310:=Tryz.func187.trans (congrArg some (by kernel_rfl))
 f329:=Tryz.func212.trans (congrArg some (by kernel_rfl))
 f330:=Tryz.func213.trans (congrArg some (by kernel_rfl))
 f333:=Tryz.func211.trans (congrArg some (by kernel_rfl))
 f334:=Tryz.func214.trans (congrArg some (by kernel_rfl))
 f335:=Tryz.func215.trans (congrArg some (by kernel_rfl))
 f336:=Tryz.func216.trans (congrArg some (by kernel_rfl))
 f344:=Tryz.func231.trans (congrArg some (by kernel_rfl))
 t0:=Tryz.underlying0
 a0:=Tryz.isAgg0
 z0:=Tryz.sizeOf0
 v0:=Tryz.zeroValue0
 t3:=Tryz.underlying3
 a3:=Tryz.isAgg3
 z3:=Tryz.sizeOf3
 v3:=Tryz.zeroValue3
 t4:=Tryz.underlying4
 a4:=Tryz.isAgg4
 z4:=Tryz.sizeOf4
 v4:=Tryz.zeroValue4
 t5:=Tryz.underlying5
 a5:=Tryz.isAgg5
 z5:=Tryz.sizeOf5
 v5:=Tryz.zeroValue5
 t9:=Tryz.underlying9
 a9:=Tryz.isAgg9
 z9:=Tryz.sizeOf9
 v9:=Tryz.zeroValue9
 t31:=Tryz.underlying22
 a31:=Tryz.isAgg22
 z31:=Tryz.sizeOf22
 v31:=Tryz.zeroValue22
 t46:=Tryz.underlying121
 a46:=Tryz.isAgg121
 z46:=Tryz.sizeOf121
 v46:=Tryz.zeroValue121
 t51:=Tryz.underlying152
 a51:=Tryz.isAgg152
 z51:=Tryz.sizeOf152
 v51:=Tryz.zeroValue152
 t53:=Tryz.underlying137
 a53:=Tryz.isAgg137
 z53:=Tryz.sizeOf137
 v53:=Tryz.zeroValue137
 t131:=Tryz.underlying117
 a131:=Tryz.isAgg117
 z131:=Tryz.sizeOf117
 v131:=Tryz.zeroValue117
 t182:=Tryz.underlying145
 a182:=Tryz.isAgg145
 z182:=Tryz.sizeOf145
 v182:=Tryz.zeroValue145
 t183:=Tryz.underlying146
 a183:=Tryz.isAgg146
 z183:=Tryz.sizeOf146
 v183:=Tryz.zeroValue146
 t218:=Tryz.underlying172
 a218:=Tryz.isAgg172
 z218:=Tryz.sizeOf172
 v218:=Tryz.zeroValue172
 t222:=Tryz.underlying176
 a222:=Tryz.isAgg176
 z222:=Tryz.sizeOf176
 v222:=Tryz.zeroValue176
 t228:=Tryz.underlying185
 a228:=Tryz.isAgg185
 z228:=Tryz.sizeOf185
 v228:=Tryz.zeroValue185
 t229:=Tryz.underlying186
 a229:=Tryz.isAgg186
 z229:=Tryz.sizeOf186
 v229:=Tryz.zeroValue186 }
open Go.Sort Go.RowKit in
theorem Tryz.slices_Sort_string(blk off cap:Nat)(ss:List (anP))(w:World)(hH:Holds encStr w blk off ss.toArray)(hblk:blk<w.heap.size)(hsz:ss.length<4611686018427387904) :
  Calls Tryz.prog 62 #[.slice (some ⟨blk,off,none⟩) ss.length cap] w fun e w' =>e = .returned (.tuple #[])/\∃n os,w'=grow (putRow encStr (Sort.ahead w n) blk off (ss.mergeSort fun x y=>decide (x<=y)).toArray) os:=Any.slices_Sort_string Tryz.lays190 blk off cap ss w hH hblk hsz
def Tryz.lays221_ren:Go.Shelf.Ren:=⟨fun | 221=>197 | 268=>225 | 138=>226 | 143=>227 | 195=>236 | 197=>237 | 218=>238 | 219=>195 | 260=>240 | 217=>194 | 225=>220 | 224=>221 | 267=>222 | 266=>219 | 314=>234 | n=>n,fun | 9=>9 | 3=>3 | 31=>22 | 4=>4 | 0=>0 | 105=>194 | 21=>21 | 5=>5 | 46=>121 | 119=>197 | 139=>200 | 138=>199 | 146=>191 | 51=>152 | n=>n,fun | 1=>0 | 3=>1 | 4=>2 | n=>n⟩
theorem Tryz.lays221:Go.Proofs.Lays.n221 Tryz.prog Tryz.lays221_ren:={
 mixed:=by kernel_rfl
 f138:=Tryz.func226.trans (congrArg some (by kernel_rfl))
 f143:=Tryz.func227.trans (congrArg some (by kernel_rfl))
 f195:=Tryz.func236.trans (congrArg some (by kernel_rfl))
 f197:=Tryz.func237.trans (congrArg some (by kernel_rfl))
 f217:=Tryz.func194.trans (congrArg some (by kernel_rfl))
 f218:=Tryz.func238.trans (congrArg some (by kernel_rfl))
 f219:=Tryz.func195.trans (congrArg some (by kernel_rfl))
 f221:=Tryz.func197.trans (congrArg some (by kernel_rfl))
 f224:=Tryz.func221.trans (congrArg some (by kernel_rfl))
 f225:=Tryz.func220.trans (congrArg some (by kernel_rfl))
 f260:=Tryz.func240.trans (congrArg some (by kernel_rfl))
 f266:=Tryz.func219.trans (congrArg some (by kernel_rfl))
 f267:=Tryz.func222.trans (congrArg some (by kernel_rfl))
 f268:=Tryz.func225.trans (congrArg some (by kernel_rfl))
 f314:=Tryz.func234.trans (congrArg some (by kernel_rfl))
 t0:=Tryz.underlying0
 a0:=Tryz.isAgg0
 z0:=Tryz.sizeOf0
 v0:=Tryz.zeroValue0
 t3:=Tryz.underlying3
 a3:=Tryz.isAgg3
 z3:=Tryz.sizeOf3
 v3:=Tryz.zeroValue3
 t4:=Tryz.underlying4
 a4:=Tryz.isAgg4
 z4:=Tryz.sizeOf4
 v4:=Tryz.zeroValue4
 t5:=Tryz.underlying5
 a5:=Tryz.isAgg5
 z5:=Tryz.sizeOf5
 v5:=Tryz.zeroValue5
 t9:=Tryz.underlying9
 a9:=Tryz.isAgg9
 z9:=Tryz.sizeOf9
 v9:=Tryz.zeroValue9
 t21:=Tryz.underlying21
 a21:=Tryz.isAgg21
 z21:=Tryz.sizeOf21
 v21:=Tryz.zeroValue21
 t31:=Tryz.underlying22
 a31:=Tryz.isAgg22
 z31:=Tryz.sizeOf22
 v31:=Tryz.zeroValue22
 t46:=Tryz.underlying121
 a46:=Tryz.isAgg121
 z46:=Tryz.sizeOf121
 v46:=Tryz.zeroValue121
 t51:=Tryz.underlying152
 a51:=Tryz.isAgg152
 z51:=Tryz.sizeOf152
 v51:=Tryz.zeroValue152
 t105:=Tryz.underlying194
 a105:=Tryz.isAgg194
 z105:=Tryz.sizeOf194
 v105:=Tryz.zeroValue194
 t119:=Tryz.underlying197
 a119:=Tryz.isAgg197
 z119:=Tryz.sizeOf197
 t138:=Tryz.underlying199
 a138:=Tryz.isAgg199
 z138:=Tryz.sizeOf199
 v138:=Tryz.zeroValue199
 t139:=Tryz.underlying200
 a139:=Tryz.isAgg200
 z139:=Tryz.sizeOf200
 v139:=Tryz.zeroValue200
 t146:=Tryz.underlying191
 a146:=Tryz.isAgg191
 z146:=Tryz.sizeOf191
 v146:=Tryz.zeroValue191
 g1:=by kernel_rfl
 g3:=by kernel_rfl
 g4:=by kernel_rfl }
def Tryz.lays154_ren:Go.Shelf.Ren:=⟨fun | 154=>229 | 138=>226 | 165=>190 | 143=>227 | 166=>191 | 197=>237 | 169=>192 | 195=>236 | 218=>238 | 240=>217 | 241=>218 | 219=>195 | 260=>240 | 276=>232 | 277=>233 | 217=>194 | 225=>220 | 224=>221 | 267=>222 | 266=>219 | 314=>234 | n=>n,fun | 9=>9 | 3=>3 | 4=>4 | 72=>156 | 0=>0 | 76=>160 | 105=>194 | 21=>21 | 5=>5 | 70=>154 | 20=>20 | 37=>126 | 75=>159 | 127=>178 | 164=>188 | 46=>121 | 119=>197 | 139=>200 | 138=>199 | 146=>191 | 51=>152 | 80=>162 | n=>n,fun | 1=>0 | 3=>1 | 4=>2 | n=>n⟩
theorem Tryz.lays154:Go.Proofs.Lays.n154 Tryz.prog Tryz.lays154_ren:={
 mixed:=by kernel_rfl
 f138:=Tryz.func226.trans (congrArg some (by kernel_rfl))
 f143:=Tryz.func227.trans (congrArg some (by kernel_rfl))
 f154:=Tryz.func229.trans (congrArg some (by kernel_rfl))
 f165:=Tryz.func190.trans (congrArg some (by kernel_rfl))
 f166:=Tryz.func191.trans (congrArg some (by kernel_rfl))
 f169:=Tryz.func192.trans (congrArg some (by kernel_rfl))
 f195:=Tryz.func236.trans (congrArg some (by kernel_rfl))
 f197:=Tryz.func237.trans (congrArg some (by kernel_rfl))
 f217:=Tryz.func194.trans (congrArg some (by kernel_rfl))
 f218:=Tryz.func238.trans (congrArg some (by kernel_rfl))
 f219:=Tryz.func195.trans (congrArg some (by kernel_rfl))
 f224:=Tryz.func221.trans (congrArg some (by kernel_rfl))
 f225:=Tryz.func220.trans (congrArg some (by kernel_rfl))
 f240:=Tryz.func217.trans (congrArg some (by kernel_rfl))
 f241:=Tryz.func218.trans (congrArg some (by kernel_rfl))
 f260:=Tryz.func240.trans (congrArg some (by kernel_rfl))
 f266:=Tryz.func219.trans (congrArg some (by kernel_rfl))
 f267:=Tryz.func222.trans (congrArg some (by kernel_rfl))
 f276:=Tryz.func232.trans (congrArg some (by kernel_rfl))
 f277:=Tryz.func233.trans (congrArg some (by kernel_rfl))
 f314:=Tryz.func234.trans (congrArg some (by kernel_rfl))
 t0:=Tryz.underlying0
 a0:=Tryz.isAgg0
 z0:=Tryz.sizeOf0
 v0:=Tryz.zeroValue0
 t3:=Tryz.underlying3
 a3:=Tryz.isAgg3
 z3:=Tryz.sizeOf3
 v3:=Tryz.zeroValue3
 t4:=Tryz.underlying4
 a4:=Tryz.isAgg4
 z4:=Tryz.sizeOf4
 v4:=Tryz.zeroValue4
 t5:=Tryz.underlying5
 a5:=Tryz.isAgg5
 z5:=Tryz.sizeOf5
 v5:=Tryz.zeroValue5
 t9:=Tryz.underlying9
 a9:=Tryz.isAgg9
 z9:=Tryz.sizeOf9
 v9:=Tryz.zeroValue9
 t20:=Tryz.underlying20
 a20:=Tryz.isAgg20
 z20:=Tryz.sizeOf20
 v20:=Tryz.zeroValue20
 t21:=Tryz.underlying21
 a21:=Tryz.isAgg21
 z21:=Tryz.sizeOf21
 v21:=Tryz.zeroValue21
 t37:=Tryz.underlying126
 a37:=Tryz.isAgg126
 z37:=Tryz.sizeOf126
 v37:=Tryz.zeroValue126
 t46:=Tryz.underlying121
 a46:=Tryz.isAgg121
 z46:=Tryz.sizeOf121
 v46:=Tryz.zeroValue121
 t51:=Tryz.underlying152
 a51:=Tryz.isAgg152
 z51:=Tryz.sizeOf152
 v51:=Tryz.zeroValue152
 t70:=Tryz.underlying154
 a70:=Tryz.isAgg154
 z70:=Tryz.sizeOf154
 v70:=Tryz.zeroValue154
 t72:=Tryz.underlying156
 a72:=Tryz.isAgg156
 z72:=Tryz.sizeOf156
 v72:=Tryz.zeroValue156
 t75:=Tryz.underlying159
 a75:=Tryz.isAgg159
 z75:=Tryz.sizeOf159
 v75:=Tryz.zeroValue159
 t76:=Tryz.underlying160
 a76:=Tryz.isAgg160
 z76:=Tryz.sizeOf160
 v76:=Tryz.zeroValue160
 t105:=Tryz.underlying194
 a105:=Tryz.isAgg194
 z105:=Tryz.sizeOf194
 v105:=Tryz.zeroValue194
 t119:=Tryz.underlying197
 a119:=Tryz.isAgg197
 z119:=Tryz.sizeOf197
 t127:=Tryz.underlying178
 a127:=Tryz.isAgg178
 z127:=Tryz.sizeOf178
 v127:=Tryz.zeroValue178
 t138:=Tryz.underlying199
 a138:=Tryz.isAgg199
 z138:=Tryz.sizeOf199
 v138:=Tryz.zeroValue199
 t139:=Tryz.underlying200
 a139:=Tryz.isAgg200
 z139:=Tryz.sizeOf200
 v139:=Tryz.zeroValue200
 t146:=Tryz.underlying191
 a146:=Tryz.isAgg191
 z146:=Tryz.sizeOf191
 v146:=Tryz.zeroValue191
 t164:=Tryz.underlying188
 a164:=Tryz.isAgg188
 z164:=Tryz.sizeOf188
 v164:=Tryz.zeroValue188
 g1:=by kernel_rfl
 g3:=by kernel_rfl
 g4:=by kernel_rfl }
theorem Tryz.Builder_Extra_154:Builder.Extra Tryz.prog Tryz.lays154_ren:={
 sizeBuilder:=by kernel_rfl
 liesBuilder:=by kernel_rfl
 t5:=Tryz.underlying5
 a5:=Tryz.isAgg5
 z5:=Tryz.sizeOf5
 v5:=Tryz.zeroValue5
 infoByte:=by kernel_rfl
 cellsByte:=by kernel_rfl
 sizeByte:=by kernel_rfl
 neB5:=by decide }
def Tryz.lays194_ren:Go.Shelf.Ren:=⟨fun | 194=>63 | n=>n,fun | 31=>22 | 9=>9 | 3=>3 | 4=>4 | 0=>0 | n=>n,fun | n=>n⟩
theorem Tryz.lays194:Go.Proofs.Lays.n194 Tryz.prog Tryz.lays194_ren:={
 mixed:=by kernel_rfl
 f194:=Tryz.func63.trans (congrArg some (by kernel_rfl))
 t0:=Tryz.underlying0
 a0:=Tryz.isAgg0
 z0:=Tryz.sizeOf0
 v0:=Tryz.zeroValue0
 t3:=Tryz.underlying3
 a3:=Tryz.isAgg3
 z3:=Tryz.sizeOf3
 v3:=Tryz.zeroValue3
 t4:=Tryz.underlying4
 a4:=Tryz.isAgg4
 z4:=Tryz.sizeOf4
 v4:=Tryz.zeroValue4
 t9:=Tryz.underlying9
 a9:=Tryz.isAgg9
 z9:=Tryz.sizeOf9
 v9:=Tryz.zeroValue9
 t31:=Tryz.underlying22
 a31:=Tryz.isAgg22
 z31:=Tryz.sizeOf22
 v31:=Tryz.zeroValue22 }
open Go.RowKit Go.Lib Go.Sort in
theorem Tryz.slices_Compact_string(blk off cap:Nat)(zs:List (anP))(w:World)(hH:Holds encStr w blk off zs.toArray)(hsz:zs.length<=9223372036854775807)(hcap:zs.length<=cap) :
  Calls Tryz.prog 63 #[.slice (some ⟨blk,off,none⟩) zs.length cap] w fun e w'=>e = .returned (.slice (some ⟨blk,off,none⟩) (Lib.compact zs).length cap)/\∃q,w'=putRow encStr (Sort.ahead w q) blk off (Lib.compact zs++List.replicate (zs.length-(Lib.compact zs).length) []).toArray:=Any.slices_Compact_string Tryz.lays194 blk off cap zs w hH hsz hcap
open Go.RowKit Go.Lib Go.Sort in
theorem Tryz.slices_Compact_string_empty(a:Option Addr)(cap:Nat)(w:World) :
  Calls Tryz.prog 63 #[.slice a 0 cap] w fun e w'=>e = .returned (.slice a 0 cap)/\w'=w:=Any.slices_Compact_string_empty Tryz.lays194 a cap w
open Go.RowKit Go.Sort in
theorem Tryz.slices_Sort_string_none(p:Option Addr)(cap:Nat)(w:World) :
  Calls Tryz.prog 62 #[.slice p 0 cap] w fun e w'=>e = .returned (.tuple #[])/\w'=w:=Any.slices_Sort_string_none Tryz.lays190 p cap w
end Go.Proofs
namespace Go.Proofs.YtclnniijooeajaaGreatDoor.Pl
open Go
abbrev Str:=anP
theorem xW(a:Str):¬ a<a:=List.lt_irrefl a
theorem amI{a b c:Str}(h:a<b)(h':b<c):a<c:=List.lt_trans h h'
theorem O9{a b:Str}(h:a<b):¬ b<a:=fun h'=>xW a (amI h h')
theorem QV{a b:Str}:a<=b↔¬ b<a:=Iff.rfl
theorem awU(a b:Str):a<b\/a=b\/b<a:=by
 by_cases h:a<b
 ·exact .inl h
 ·by_cases h':b<a
  ·exact .inr (.inr h')
  ·exact .inr (.inl (List.le_antisymm h' h))
theorem QW{a b c:Str}(h:a<=b)(h':b<=c):a<=c:=List.le_trans h h'
theorem Sk{a b:Str}(h:a<=b)(hn:a≠b):a<b:=by
 rcases awU a b with h1 | h1 | h1
 ·exact h1
 ·exact absurd h1 hn
 ·exact absurd h1 h
def SS(l:List Str):Prop:=l.Pairwise (· < ·)
theorem aev:∀{l m:List Str},SS l->SS m->(∀x,x∈l↔x∈m)->l=m
 | [],[],_,_,_=>rfl
 | [],b::m,_,_,h=>by have:=(h b).2 aa1;cases this
 | a::l,[],_,_,h=>by have:=(h a).1 aa1;cases this
 | a::l,b::m,hl,hm,h=>by
  have hl':=List.pairwise_cons.1 hl;have hm':=List.pairwise_cons.1 hm;have e:a=b:=by
   have h1:=(h a).1 aa1;have h2:=(h b).2 aa1;rcases amG.1 h1 with h1 | h1
   ·exact h1
   ·rcases amG.1 h2 with h2 | h2
    ·exact h2.symm
    ·exact absurd (hm'.1 a h1) (O9 (hl'.1 b h2))
  subst e;rw[aev hl'.2 hm'.2 fun x=>⟨fun hx=>?_,fun hx=>?_⟩]
  ·rcases amG.1 ((h x).1 (aa6 _ hx))with e | e
   ·subst e;exact absurd (hl'.1 x hx) (xW x)
   ·exact e
  ·rcases amG.1 ((h x).2 (aa6 _ hx))with e | e
   ·subst e;exact absurd (hm'.1 x hx) (xW x)
   ·exact e
def oK(p:Str):List Str->List Str
 | []=>[]
 | a::t=>if a=p then oK a t else a::oK a t
theorem XL:∀(l:List Str) (p x:Str),oK p (l++[x])=oK p l++(if x=(p::l).getLastD p then[]else[x])
 | [],p,x=>by simp[oK]
 | a::t,p,x=>by
  have ih:=XL t a x;have e:(p::a::t).getLastD p=(a::t).getLastD a:=by cases t<;>simp[List.getLastD]
  simp only[ae0,oK,ih,e];split<;>simp
theorem Li(a:Str)(t:List Str):Lib.compact (a::t)=a::oK a t:=by
 have key:∀m,m<=t.length->Lib.compactUpTo (a::t).toArray (m+1)=a::oK a (t.take m):=by
  intro m
  induction m with
  | zero =>intro _;rw[Lib.compactUpTo_succ,Lib.keeps_lt_one _ 0 (by decide)];simp[Lib.compactUpTo,oK]
  | succ m ih =>
   intro hm;have hlt:m<t.length:=by omega
   have e1:(a::t).toArray[m+1]! = t[m]:=by simp[hlt]
   have e2:(a::t).toArray[m+1-1]! = (a::t.take m).getLastD a:=by
    cases m with
    | zero=>simp
    | succ k =>
     have hk:k<t.length:=by omega
     have:(a::t.take (k+1)).getLastD a=t[k]:=by rw[show a::t.take (k+1)=(a::t.take k)++[t[k]]from by rw[ae0,List.take_append_getElem hk],List.getLastD_eq_getLast?,List.getLast?_concat];rfl
     rw[this];simp[hk]
   rw[Lib.compactUpTo_succ,ih (by omega),<- List.take_append_getElem hlt,XL,<- e2,e1];by_cases hx:t[m]=(a::t).toArray[m+1-1]!
   ·rw[Lib.keeps_neg (by omega) (by rw[e1];exact hx),if_pos hx];simp
   ·rw[Lib.keeps_pos (by rw[e1];exact hx),if_neg hx];simp
 have h:=key t.length (abH _);rw[List.take_length]at h;exact h
theorem XM:∀(l:List Str) (p:Str),(p::l).Pairwise (· <= ·)->SS (p::oK p l)/\∀x,x∈p::oK p l↔x∈p::l
 | [],p,_=>⟨by simp[SS,oK],fun x=>by simp[oK]⟩
 | a::t,p,h=>by
  have h1:=List.pairwise_cons.1 h;obtain⟨i1,i2⟩:=XM t a h1.2;unfold oK;split
  ·rename_i e;subst e;refine⟨i1,fun x=>?_⟩;rw[i2 x];simp
  ·rename_i hne;have hpa:p<a:=Sk (h1.1 a aa1) (fun e=>hne e.symm);refine⟨List.pairwise_cons.2 ⟨fun x hx=>?_,i1⟩,fun x=>?_⟩
   ·rcases amG.1 hx with e | e
    ·subst e;exact hpa
    ·exact amI hpa ((List.pairwise_cons.1 i1).1 x e)
   ·rw[amG,i2 x,amG (b:=p)]
theorem aaJ:∀(l:List Str) (p:Str),(oK p l).length<=l.length
 | [],_=>abH _
 | a::t,p=>by
  have:=aaJ t a;unfold oK;split
  ·simp only[List.length_cons];omega
  ·simp only[List.length_cons];omega
def uJ(l:List Str):List Str:=l.mergeSort fun x y=>decide (x<=y)
def bn(l:List Str):List Str:=Lib.compact (uJ l)
theorem ah0(l:List Str):(uJ l).Pairwise (· <= ·):=by
 have h:=List.pairwise_mergeSort (le:=fun x y:Str=>decide (x<=y)) (fun a b c h h'=>by
  simp only[abK]at *;exact QW h h') (fun a b=>by
  simp only[amy,abK];exact List.le_total a b) l
 exact h.imp (fun h=>by simpa using h)
theorem arT{l:List Str}{x:Str}:x∈uJ l↔x∈l:=List.mem_mergeSort
theorem Us(l:List Str):(uJ l).length=l.length:=List.length_mergeSort l
theorem FZ(l:List Str):SS (bn l)/\∀x,x∈bn l↔x∈l:=by
 have hp:=ah0 l;have hm:∀x,x∈uJ l↔x∈l:=fun x=>arT
 unfold bn;generalize uJ l=m at hp hm;cases m with
 | nil=>exact⟨List.Pairwise.nil,hm⟩
 | cons a t =>rw[Li];obtain⟨h1,h2⟩:=XM t a hp;exact⟨h1,fun x=>(h2 x).trans (hm x)⟩
theorem kE{l:List Str}{x:Str}:x∈bn l↔x∈l:=(FZ l).2 x
theorem xX{l m:List Str}(hs:SS m)(h:∀x,x∈m↔x∈l):bn l=m:=aev (FZ l).1 hs fun x=>(kE).trans (h x).symm
theorem XO(l:List Str):(Lib.compact l).length<=l.length:=by
 cases l with
 | nil=>exact abH _
 | cons a t =>rw[Li];have:=aaJ t a;simp only[List.length_cons];omega
theorem uK(l:List Str):(bn l).length<=l.length:=by have:=XO (uJ l);rw[Us]at this;exact this
end Go.Proofs.YtclnniijooeajaaGreatDoor.Pl
namespace Go.Proofs.YtclnniijooeajaaGreatDoor.Pl
def leB:Str->Str->Bool
 | [],_=>true
 | _::_,[]=>false
 | a::s,b::t=>bif Nat.blt a.toNat b.toNat then true else bif Nat.beq a.toNat b.toNat then leB s t else false
theorem acC:∀(x y:Str),leB x y=decide (x<=y)
 | [],y=>by simp[leB]
 | a::s,[]=>by simp[leB]
 | a::s,b::t=>by
  have ih:=acC s t;unfold leB;rw[ih,show decide (a::s<=b::t)=decide (a<b\/a=b/\s<=t)from decide_eq_decide.2 List.cons_le_cons_iff];cases h1:Nat.blt a.toNat b.toNat with
  | true =>have:a<b:=UInt8.lt_iff_toNat_lt.2 (by simpa[Nat.blt_eq]using h1);simp[this]
  | false =>
   have h1:¬ a<b:=fun h=>by have:=UInt8.lt_iff_toNat_lt.1 h;rw[<- Nat.blt_eq,h1]at this;cases this
   cases h2:Nat.beq a.toNat b.toNat with
   | true =>have:a=b:=UInt8.toNat_inj.1 (aax h2);subst this;simp
   | false =>
    have:¬ a=b:=fun h=>by subst h;simp at h2
    simp[h1,this]
def ins(x:Str):List Str->List Str
 | []=>[x]
 | a::t=>bif leB x a then x::a::t else a::ins x t
def WM:List Str->List Str
 | []=>[]
 | a::t=>ins a (WM t)
theorem YT(x:Str):∀l,List.Perm (ins x l) (x::l)
 | []=>List.Perm.refl _
 | a::t=>by
  unfold ins;cases leB x a with
  | true=>exact List.Perm.refl _
  | false=>exact((YT x t).cons a).trans (List.Perm.swap x a t)
theorem aaK:∀l,List.Perm (WM l) l
 | []=>List.Perm.refl _
 | a::t=>(YT a (WM t)).trans ((aaK t).cons a)
theorem arU(x:Str):∀l:List Str,l.Pairwise (· <= ·)->(ins x l).Pairwise (· <= ·)
 | [],_=>by simp[ins]
 | a::t,h=>by
  unfold ins;have h':=List.pairwise_cons.1 h;cases hx:leB x a with
  | true =>
   rw[acC,abK]at hx;refine List.pairwise_cons.2 ⟨fun y hy=>?_,h⟩;cases hy with
   | head=>exact hx
   | tail _ hy=>exact QW hx (h'.1 y hy)
  | false =>
   rw[acC,decide_eq_false_iff_not]at hx;refine List.pairwise_cons.2 ⟨fun y hy=>?_,arU x t h'.2⟩;rcases amG.1 ((YT x t).mem_iff.1 hy)with e | e
   ·subst e;rcases List.le_total y a with h | h
    ·exact absurd h hx
    ·exact h
   ·exact h'.1 y e
theorem ah1:∀l,(WM l).Pairwise (· <= ·)
 | []=>List.Pairwise.nil
 | a::t=>arU a _ (ah1 t)
theorem au2(l:List Str):uJ l=WM l :=
 List.Perm.eq_of_pairwise (fun _ _ _ _ h h'=>List.le_antisymm h h') (ah0 l) (ah1 l) ((List.mergeSort_perm l _).trans (aaK l).symm)
def eqB:Str->Str->Bool
 | [],[]=>true
 | a::s,b::t=>bif Nat.beq a.toNat b.toNat then eqB s t else false
 | _,_=>false
theorem amJ:∀(x y:Str),eqB x y=decide (x=y)
 | [],[]=>by simp[eqB]
 | a::s,[]=>by simp[eqB]
 | [],b::t=>by simp[eqB]
 | a::s,b::t=>by
  unfold eqB;rw[amJ s t];cases h2:Nat.beq a.toNat b.toNat with
  | true =>have:a=b:=UInt8.toNat_inj.1 (aax h2);subst this;simp
  | false =>
   have:¬ a=b:=fun h=>by subst h;simp at h2
   simp[this]
def Pb(p:Str):List Str->List Str
 | []=>[]
 | a::t=>bif eqB a p then Pb a t else a::Pb a t
theorem aaL:∀(l:List Str) (p:Str),oK p l=Pb p l
 | [],_=>rfl
 | a::t,p=>by unfold oK Pb;rw[amJ,aaL t a];by_cases h:a=p<;>simp[h]
def ah3:List Str->List Str
 | []=>[]
 | a::t=>a::Pb a t
theorem akY:∀(l:List Str),Lib.compact l=ah3 l
 | []=>rfl
 | a::t=>by rw[Li,aaL];rfl
def aaM(l:List Str):List Str:=ah3 (WM l)
theorem arV(l:List Str):bn l=aaM l:=by rw[bn,au2,akY];rfl
end Go.Proofs.YtclnniijooeajaaGreatDoor.Pl
