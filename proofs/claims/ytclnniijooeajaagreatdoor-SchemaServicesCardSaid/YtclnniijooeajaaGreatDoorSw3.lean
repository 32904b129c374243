/- Part 3 of a proof: the texts MirO MirP MirQ MirR MirU MirW MirX MirBx MirTr Shelf Plain PlainK, one behind the other. -/
import Derived.Test.YtclnniijooeajaaGreatDoorSw1
import Derived.Test.YtclnniijooeajaaGreatDoorSw2
import Derived.Scope
import Derived.Lib.SliceRun
import Derived.KernelRfl
import Derived.Shelf.Strings.Builder1
import Derived.Shelf.Strings.Builder2
import Derived.Shelf.Strings.OnBuilder
import Derived.Shelf.Small.Bits
import Derived.Shelf.Small.Strs
import Derived.Shelf.Small.Wraps
import Derived.Shelf.Strings.BuilderF
import Derived.Shelf.Strings.BuilderK
import Derived.Shelf.Utf8.RuneCount
import Derived.Shelf.Strings.Builder2Cap
import Derived.Shelf.Strconv.Itoa0
import Derived.Shelf.Strings.Search1
import Derived.Shelf.Strings.Search2
import Derived.Shelf.Strings.Search3
import Derived.Shelf.Strings.Cut
import Derived.Shelf.Strings.Count
import Derived.Shelf.LaysM
import Derived.Shelf.Strings.Shaped
import Derived.Shelf.Sort.Plain
import Derived.Shelf.Strings.Prefix
import Derived.Shelf.Strings.Split
import Derived.Shelf.Strings.Replace
import Derived.Shelf.Strings.SplitShaped
import Derived.Shelf.Unicode.Decode
import Derived.Shelf.Strings.RuneCount
import Derived.Shelf.Strings.Explode
import Derived.Shelf.Unicode.DecodeSlow
import Derived.Shelf.Unicode.DecodeAny
import Derived.Shelf.Slices.Turned
import Derived.Ground.Names2Prog
import Derived.Shelf.Slices.Clone
import Derived.Shelf.Slices.CompactS
import Derived.Shelf.Slices.Cells
import Derived.Shelf.Slices.In.SortNone
import Derived.Ground.SlgnProg
import Derived.Shelf.SlicesE.Clone
import Derived.Test.YtclnniijooeajaaGreatDoorProg
import Derived.Lib.SlicesCompact
noncomputable section
namespace Go.Proofs.YtclnniijooeajaaGreatDoor.bg
open Go Go.RowKit
section
section
variable {P:Program} {E:Env P}
def X7(objs:List (Nat×aS E)):AV E->AV E
 | .row t n id=>match look objs id with
  | some (.row t' l)=>.grow t' l id
  | _=>.row t n id
 | v=>v
def abM(objs:List (Nat×aS E)):AV E->AV E
 | .agg cs=>.agg (cs.map (X7 objs))
 | .tL cs=>.tL (cs.map (X7 objs))
 | v=>X7 objs v
def azU(objs:List (Nat×aS E)):aS E->aS E
 | .row _ _=>.tail true
 | .box cs=>.box (cs.map (X7 objs))
 | o=>o
def ag9(objs:List (Nat×aS E)):List (Nat×AV E)->List (Nat×AV E)
 | []=>[]
 | (t,v)::r=>(t,abM objs v)::ag9 objs r
def afS(objs:List (Nat×aS E)):List (Nat×aS E)->List (Nat×aS E)
 | []=>[]
 | (i,o)::r=>(i,azU objs o)::afS objs r
def yI(S:au E):au E:=⟨S.n,ag9 S.objs S.tmps,afS S.objs S.objs,S.next⟩
structure Hint (E:Env P) where
 live:List (Nat×List Nat):=[]
 frz:List Nat:=[]
 oC:List (Nat×List (Nat×Option Nat×Bool×E.Ty)):=[]
 split:List (Nat×List (Nat×Nat)):=[]
 opn:List (Nat×List Nat):=[]
 rounds:Nat:=5
 lst:List Nat:=[]
 arr:List (Nat×List (Nat×Option E.Ty)):=[]
 own:Nat:=0
def Ta(id:Nat)(ds:List (bC E.Den)):AV E->AV E
 | .ptr id' off=>match Nat.beq id' id with
  | true=>.ko (ds.drop off)
  | false=>.ptr id' off
 | v=>v
def abN(id:Nat)(ds:List (bC E.Den)):AV E->AV E
 | .agg cs=>.agg (cs.map (Ta id ds))
 | .tL cs=>.tL (cs.map (Ta id ds))
 | v=>Ta id ds v
def auB(id:Nat)(ds:List (bC E.Den))(i:Nat):aS E->aS E
 | .box cs=>match Nat.beq i id with
  | true=>.dead
  | false=>.box (cs.map (Ta id ds))
 | o=>o
def aha(id:Nat)(ds:List (bC E.Den)):List (Nat×AV E)->List (Nat×AV E)
 | []=>[]
 | (t,v)::r=>(t,abN id ds v)::aha id ds r
def afT(id:Nat)(ds:List (bC E.Den)):List (Nat×aS E)->List (Nat×aS E)
 | []=>[]
 | (i,o)::r=>(i,auB id ds i o)::afT id ds r
def VL(t:Nat)(S:au E):au E:=match look S.tmps t with
 | some (.ptr id _)=>match look S.objs id with
  | some (.box cs)=>match toDs cs with
   | some ds=>⟨S.n,aha id ds S.tmps,afT id ds S.objs,S.next⟩
   | none=>S
  | _=>S
 | _=>S
def Mj:List Nat->au E->au E
 | [],S=>S
 | t::r,S=>Mj r (VL t S)
def VN(p:Nat×Option E.Ty)(S:au E):au E:=match look S.tmps p.1 with
 | some (.ptr id _)=>(match look S.objs id,p.2 with
  | some (.box cs),some t=>(match E.agg t,toDs cs with
   | false,some ds=>(match Zt t ds with
    | some l=>⟨S.n,S.tmps,(id,.arr t l false)::S.objs,S.next⟩
    | none=>S)
   | _,_=>S)
  | some (.arr t l false),none=>⟨S.n,S.tmps,(id,.arr t l true)::S.objs,S.next⟩
  | _,_=>S)
 | _=>S
def ahb:List (Nat×Option E.Ty)->au E->au E
 | [],S=>S
 | p::r,S=>ahb r (VN p S)
def splitN{R:Type}(k:au E->Option R)(S:au E)(t:Nat)(kd:IntKind)(i:Int):Nat->Nat->Option R
 | 0,_=>none
 | m+1,j=>bif i==(j:Int)then k ⟨S.n,(t,.d (.int kd (j:Int)))::S.tmps,S.objs,S.next⟩else splitN k S t kd i m (j+1)
def splitK{R:Type}:List (Nat×Nat)->au E->(au E->Option R)->Option R
 | [],S,k=>k S
 | (t,n)::r,S,k=>match look S.tmps t with
  | some (.d (.int kd i))=>splitN (fun S'=>splitK r S' k) S t kd i n 0
  | _=>none
def abO(g:Bool)(t:E.Ty)(dR:Nat):AV E:=match g with
 | true=>.grow t [] dR
 | false=>.d (.slice t [])
def MS(g:Bool)(S:au E):List (Nat×aS E):=match g with
 | true=>(S.next,.tail true)::S.objs
 | false=>S.objs
def abP(s:Nat)(off:Option Nat)(g:Bool)(t:E.Ty)(S:au E):au E:=match look S.tmps s with
 | some v=>match off with
  | none=>bif isNil v then⟨S.n,(s,abO g t S.next)::S.tmps,MS g S,S.next+1⟩else S
  | some o=>match v with
   | .ptr id _=>match look S.objs id with
    | some (.box cs)=>match cs[o]? with
     | some u=>bif isNil u then⟨S.n,S.tmps,(id,.box (cs.set o (abO g t S.next)))::MS g S,S.next+1⟩else S
     | none=>S
    | _=>S
   | _=>S
 | none=>S
def ahc:List (Nat×Option Nat×Bool×E.Ty)->au E->au E
 | [],S=>S
 | (s,off,g,t)::r,S=>ahc r (abP s off g t S)
def P7:List Nat->Nat->Bool
 | [],_=>false
 | i::r,j=>Nat.beq i j||P7 r j
def mh:List Nat->Nat->Option Nat
 | [],_=>none
 | i::r,j=>if Nat.beq i j then some 0 else(match mh r j with | some q=>some (q+1) | none=>none)
def addN(l:List Nat)(i:Nat):List Nat:=match mh l i with
 | some _=>l
 | none=>l++[i]
def Tc(l:List Nat):List Nat->List Nat
 | []=>l
 | i::r=>Tc (addN l i) r
def azV:AV E->List Nat
 | .grow _ _ id=>[id]
 | .ptr id _=>[id]
 | .row _ _ id=>[id]
 | .elt id _ _=>[id]
 | .EA _ id=>[id]
 | .mp id=>[id]
 | .yl id=>[id]
 | .mk _ id=>[id]
 | _=>[]
def afU:List (AV E)->List Nat
 | []=>[]
 | v::r=>azV v++afU r
def aEf:AV E->List Nat
 | .agg cs=>afU cs
 | v=>azV v
def awk:List (Nat×AV E)->List Nat
 | []=>[]
 | (_,v)::r=>aEf v++awk r
def azW(objs:List (Nat×aS E)):List Nat->List Nat
 | []=>[]
 | i::r=>(match look objs i with | some (.box cs)=>afU cs | some (.mp _ _ l)=>afU (l.flatMap (·.2)) | _=>[])++azW objs r
def JQ:AV E->Bool
 | .d _=>true
 | .st _ _=>true
 | _=>false
def Dr(ids:List Nat):AV E->AV E
 | .grow t l id=>match mh ids id with
  | some j=>.grow t l j
  | none=>.d (.slice t l)
 | .ptr id off=>match mh ids id with
  | some j=>.ptr j off
  | none=>.any
 | .row t n id=>match mh ids id with
  | some j=>.row t n j
  | none=>.any
 | .elt id i off=>match mh ids id with
  | some j=>.elt j i off
  | none=>.any
 | .fn f a b=>bif a.all JQ&&b.all JQ then .fn f a b else .any
 | .EA n id=>match mh ids id with
  | some j=>.EA n j
  | none=>.any
 | .mp id=>match mh ids id with
  | some j=>.mp j
  | none=>.any
 | .yl id=>match mh ids id with
  | some j=>.yl j
  | none=>.any
 | .mk T id=>match mh ids id with
  | some j=>.mk T j
  | none=>.any
 | .d c=>.d c
 | .st t x=>.st t x
 | .ko cs=>.ko cs
 | _=>.any
def BG(ids:List Nat):AV E->AV E
 | .agg cs=>.agg (cs.map (Dr ids))
 | v=>Dr ids v
def azX(ids:List Nat):aS E->aS E
 | .box cs=>.box (cs.map (Dr ids))
 | .mp K V l=>.mp K V (l.map fun x=>(x.1,x.2.map (Dr ids)))
 | .lp _ _ _ _ _ _ _=>.dead
 | o=>o
def BO(objs:List (Nat×aS E)):AV E->AV E
 | .grow t l id=>match look objs id with
  | some (.tail true)=>.grow t l id
  | _=>.d (.slice t l)
 | v=>v
def VO(S:au E):List Nat->List (Nat×AV E)
 | []=>[]
 | t::r=>match look S.tmps t with | some x=>(t,BO S.objs x)::VO S r | none=>VO S r
def X8(ids:List Nat):List (Nat×AV E)->List (Nat×AV E)
 | []=>[]
 | (t,v)::r=>(t,BG ids v)::X8 ids r
def ZQ(objs:List (Nat×aS E))(ids:List Nat):List Nat->Nat->List (Nat×aS E)
 | [],_=>[]
 | i::r,j=>(j,match look objs i with | some o=>azX ids o | none=>.dead)::ZQ objs ids r (j+1)
def aoG(own:Nat)(live:List Nat)(S:au E):au E :=
 let kept:=VO S live;let azY:=Tc (List.range own) (awk kept);let ids:=Tc azY (azW S.objs azY)
 ⟨S.n,X8 ids kept,ZQ S.objs ids ids 0,ids.length⟩
inductive dN where
 | normal
 | exit (id:Nat)
 | ret
 | goto (l:Nat)
def dN.toExit:dN->Exit
 | .normal=>.normal
 | .exit id=>.exit id
 | .ret=>.ret
 | .goto l=>.goto l
def zH:Code->Bool
 | .seq a b=>zH a&&zH b
 | .cond _ a b=>zH a&&zH b
 | .block _ b=>zH b
 | .loop b=>zH b
 | .scope b=>zH b
 | .goto _=>false
 | _=>true
def bR:Code->Nat
 | .scope b=>(match zH b with
  | true=>bR b
  | false=>0)
 | .seq a b=>bR a+bR b
 | .cond _ a b=>bR a+bR b
 | .block _ b=>bR b
 | .loop b=>bR b+1
 | _=>0
def Td{α:Type}(l:List (Nat×List α))(i:Nat):List α:=match look l i with
 | some x=>x
 | none=>[]
def Kq(h:Hint E)(i:Nat)(S:au E):au E:=aoG h.own (Td h.live i) (ahc (Td h.oC i) S)
def awl{R:Type}(O:aI E)(ops:Array Oper)(dr:Bool)(S:au E)(k:au E->Option R):Option R:=match dr with
 | true=>Km O ops S.n S.tmps S.objs S.next ops.toList [] 0 k
 | false=>mK O ops S.n S.tmps ops.toList [] S.objs S.next k
def Io{R:Type}(b:Bool)(O:aI E)(ops:Array Oper)(dr:Bool)(S:au E)(k:au E->Option R):Option R:=match b,dr with
 | true,true=>ag7 O ops S k
 | _,_=>awl O ops dr S k
def X9{R:Type}(f:au E->Option R)(k:dN->au E->Option R)(e:dN)(S:au E):Option R:=match e with
 | .normal=>f S
 | .exit id=>k (.exit id) S
 | .ret=>k .ret S
 | .goto l=>k (.goto l) S
def Iq{R:Type}(id:Nat)(k:dN->au E->Option R)(e:dN)(S:au E):Option R:=match e with
 | .normal=>k .normal S
 | .exit i=>(match Nat.beq i id with | true=>k .normal S | false=>k (.exit i) S)
 | .ret=>k .ret S
 | .goto l=>k (.goto l) S
def eZ:Code->Bool
 | .seq a b=>eZ a||eZ b
 | .cond _ a b=>eZ a||eZ b
 | .block _ b=>eZ b
 | .loop b=>eZ b
 | .scope b=>!(zH b)
 | _=>false
def ZR{R:Type}(h:Hint E)(G:Nat->au E->Option R)(c:Code)(k:dN->au E->Option R)(e:dN)(S:au E):Option R:=match e with
 | .normal=>k .normal S
 | .exit id=>k (.exit id) S
 | .ret=>k .ret S
 | .goto l=>(match findLabel c l with | some _=>G (100+l) (Kq h (100+l) S) | none=>none)
def afV{R:Type}(k:dN->au E->Option R)(e:dN)(S:au E):Option R:=match e with
 | .normal=>k .normal S
 | .exit id=>k (.exit id) S
 | .ret=>k .ret S
 | .goto _=>none
def mP{R:Type}(O:aI E)(h:Hint E)(G:Nat->au E->Option R):Nat->Code->au E->(dN->au E->Option R)->Option R
 | _,.skip,S,k=>k .normal S
 | _,.region id ops dr,S,k=>splitK (Td h.split id) (Mj (Td h.opn id) (ahb (Td h.arr id) (match P7 h.frz id with | true=>yI S | false=>S))) fun S'=>Io (P7 h.lst id) O ops dr S' (k .normal)
 | i,.seq x y,S,k=>(match eZ x&&eZ y with
  | true=>none
  | false=>mP O h G i x S (X9 (fun S'=>mP O h G (i+bR x) y S' k) k))
 | i,.cond c x y,S,k=>(match eZ x||eZ y with
  | true=>none
  | false=>match bF S.tmps [] c with
   | .d (.bool b)=>bif b then mP O h G i x S k else mP O h G (i+bR x) y S k
   | _=>none)
 | i,.scope c,S,k=>(match zH c with
  | true=>mP O h G i c S (afV k)
  | false=>(match eZ c,bR c with
   | false,0=>mP O h G i c S (ZR h G c k)
   | _,_=>none))
 | _,.label _,S,k=>k .normal S
 | _,.goto l,S,k=>k (.goto l) S
 | i,.block id body,S,k=>mP O h G i body S (Iq id k)
 | i,.loop _,S,_=>G i (Kq h i S)
 | _,.exit id,S,k=>k (.exit id) S
 | _,.ret,S,k=>k .ret S
 | _,_,_,_=>none
def I8{R:Type}(O:aI E)(h:Hint E)(G:Nat->au E->Option R):Nat->Code->Nat->(dN->au E->Option R)->Option (Nat×Code×(dN->au E->Option R))
 | i,.loop b,0,k=>some (i,b,k)
 | i,.loop b,j+1,k=>I8 O h G (i+1) b j (X9 (fun S=>G i (Kq h i S)) k)
 | i,.seq x y,j,k=>match Nat.blt j (bR x)with
  | true=>I8 O h G i x j (X9 (fun S'=>mP O h G (i+bR x) y S' k) k)
  | false=>I8 O h G (i+bR x) y (j-bR x) k
 | i,.cond _ x y,j,k=>match Nat.blt j (bR x)with
  | true=>I8 O h G i x j k
  | false=>I8 O h G (i+bR x) y (j-bR x) k
 | i,.block id b,j,k=>I8 O h G i b j (Iq id k)
 | i,.scope b,j,k=>(match zH b with
  | true=>I8 O h G i b j (afV k)
  | false=>none)
 | _,_,_,_=>none
def abQ{R:Type}(O:aI E)(h:Hint E)(G:Nat->au E->Option R):Nat->Code->(dN->au E->Option R)->Option (Code×(dN->au E->Option R))
 | _,.scope c,k=>some (c,k)
 | i,.seq x y,k=>(match eZ x,eZ y with
  | true,false=>abQ O h G i x (X9 (fun S'=>mP O h G (i+bR x) y S' k) k)
  | false,true=>abQ O h G (i+bR x) y k
  | _,_=>none)
 | i,.block id b,k=>abQ O h G i b (Iq id k)
 | _,_,_=>none
def azZ{R:Type}(O:aI E)(h:Hint E)(G:Nat->au E->Option R)(c:Code)(l:Nat)(S:au E)(k:dN->au E->Option R):Option R:=match abQ O h G 0 c k with
 | some (sc,k')=>(match findLabel sc l with
  | some rest=>(match eZ rest,bR rest with
   | false,0=>mP O h G 0 rest S (ZR h G sc k')
   | _,_=>none)
  | none=>none)
 | none=>none
def ahd{R:Type}(O:aI E)(h:Hint E)(G:Nat->au E->Option R)(c:Code)(j:Nat)(S:au E)(k:dN->au E->Option R):Option R:=match Nat.ble 100 j with
 | true=>(match Nat.ble (bR c) 100 with
  | true=>azZ O h G c (j-100) S k
  | false=>none)
 | false=>(match eZ c with
  | true=>none
  | false=>(match I8 O h G 0 c j k with
   | some (i,b,k)=>mP O h G (i+1) b S (X9 (fun S=>G i (Kq h i S)) k)
   | none=>none))
end
section
variable {P:Program} {E:Env P} {w:World} {ro:Nat->Nat->Prop} {ι:Nat->Option Gh} {S:au E} {a:Act} {w0:Start} {aP:Nat->Nat->Prop}
theorem tQ:∀(c:Code),zH c=true->eZ c=false
 | .seq a b,h=>by simp only[zH,abj]at h;simp only[eZ,tQ a h.1,tQ b h.2,Bool.or_self]
 | .cond _ a b,h=>by simp only[zH,abj]at h;simp only[eZ,tQ a h.1,tQ b h.2,Bool.or_self]
 | .block _ b,h=>tQ b h
 | .loop b,h=>tQ b h
 | .scope b,h=>by have h:zH b=true:=h;simp only[eZ,h,adr]
 | .skip,_=>rfl
 | .ret,_=>rfl
 | .exit _,_=>rfl
 | .region ..,_=>rfl
 | .label _,_=>rfl
 | .goto _,_=>rfl
 | .rangeFunc ..,_=>rfl
 | .refuse _,_=>rfl
theorem ahe{v:AV E}(h:isNil v=true):v = .d (.raw (.slice none 0 0)):=by
 unfold isNil at h;split at h
 ·rfl
 ·cases h
def P8(E:Env P)(t:E.Ty):Gh:=⟨.slice none 0 0,0,E.tid t,E.size t,none⟩
theorem ZT(g:Bool)(t:E.Ty)(hg:bO E w0 aP S a w ι ro):∃ι',(∀id gh,ι id=some gh->ι' id=some gh)/\bO E w0 aP ⟨S.n,S.tmps,MS g S,S.next+1⟩ a w ι' ro/\aO E w ro ι' (.slice none 0 0) (abO g t S.next):=by
 cases g with
 | false =>exact⟨ι,fun _ _ h=>h,⟨hg.base,hg.size,hg.tmps,hg.objs,hg.inj,fun id h=>hg.fresh id (by have h:S.next+1<=id:=h;omega),fun id o h=>by have:=hg.ids id o h;show id<S.next+1;omega⟩,.d _ _ (.nil t none 0)⟩
 | true =>
  have hfresh:=hg.fresh S.next (abn _);have hext:=SH ι S.next (P8 E t) hfresh;have hnew:nY ι S.next (P8 E t) S.next=some (P8 E t):=if_pos rfl;have hold:∀id,id≠S.next->nY ι S.next (P8 E t) id=ι id:=fun id h=>if_neg h
  refine⟨nY ι S.next (P8 E t),hext,⟨⟨hg.base.below,hg.base.aT,hg.base.qN,fun id gh k h1 h2=>?_,hg.base.defers,fun q hq=>⟨(hg.base.keep q hq).1,fun id gh h=>hext id gh ((hg.base.keep q hq).2 id gh h)⟩,fun k o h=>⟨(hg.base.held k o h).1,fun id gh h1 h2=>by by_cases e:id=S.next;(· subst e;rw[hnew]at h1;cases h1;cases h2);(· rw[hold id e]at h1;exact(hg.base.held k o h).2 id gh h1 h2)⟩⟩,hg.size,fun t' x hl=>?_,fun id o hl=>?_,?_,fun id h=>?_,fun id o hl=>?_⟩,?_⟩
  ·by_cases e:id=S.next
   ·subst e;rw[hnew]at h1;cases h1;cases h2
   ·rw[hold id e]at h1;exact hg.base.tO id gh k h1 h2
  ·obtain⟨v,hv,hs⟩:=hg.tmps t' x hl;exact⟨v,hv,hs.mono (fun _ _ h=>h) (fun _ _ _=>rfl) hext⟩
  ·simp only[MS,aX]at hl;split at hl
   ·rename_i hb;have:=aaF hb;subst this;cases hl;intro _;exact⟨P8 E t,[],hnew,.inl ⟨World.ownsRow_nil w 0 _ _,rfl⟩,fun g hg=>by cases hg⟩
   ·rename_i hb;have hne:id≠S.next:=fun e=>by subst e;simp at hb
    have h:=hg.objs id o hl;cases o with
    | dead=>trivial
    | box cs =>obtain⟨gh,g,vs,ty,h1,h2,hb,h3,h4,h5,h6⟩:=h;exact⟨gh,g,vs,ty,hext _ _ h1,h2,hb,h3,h4,fun j v c hv hc=>⟨(h5 j v c hv hc).1,(h5 j v c hv hc).2.mono (fun _ _ h=>h) (fun _ _ _=>rfl) hext⟩,h6⟩
    | tail l =>intro hl;obtain⟨gh,xs,h1,h2⟩:=h hl;exact⟨gh,xs,hext _ _ h1,h2⟩
    | Ih =>obtain⟨gh,g,h1,h2⟩:=h;exact⟨gh,g,hext _ _ h1,h2⟩
    | arr t l fz =>obtain⟨h0,gh,g,vs,ty,h1,h2,hb,h3,h4,h5,h6⟩:=h;exact⟨h0,gh,g,vs,ty,hext _ _ h1,h2,hb,h3,h4,fun j v c hv hc=>⟨(h5 j v c hv hc).1,(h5 j v c hv hc).2.mono (fun _ _ h=>h) (fun _ _ _=>rfl) hext⟩,h6⟩
    | lp st pend n tm ps assign body =>
     obtain⟨gh,g,rec,h1,h2,h3,h4,h5⟩:=h;exact⟨gh,g,rec,hext _ _ h1,h2,h3,h4,fun t x hl=>by obtain⟨v,q1,q2⟩:=h5 t x hl;exact⟨v,q1,q2.mono (fun _ _ h=>h) (fun _ _ _=>rfl) hext⟩⟩
    | mp K V l =>
     obtain⟨gh,g,es,h1,h2,h3,h4,h5,h6⟩:=h;exact⟨gh,g,es,hext _ _ h1,h2,h3,h4,h5,fun j e x he hx=>by obtain⟨k1,k2,k3,k4⟩:=h6 j e x he hx;exact⟨k1,k2,k3,fun i v c hv hc=>⟨(k4 i v c hv hc).1,(k4 i v c hv hc).2.mono (fun _ _ h=>h) (fun _ _ _=>rfl) hext⟩⟩⟩
    | row t l =>obtain⟨gh,xs,h1,h2⟩:=h;exact⟨gh,xs,hext _ _ h1,h2⟩
  ·intro id id' o o' gh bq k hl hl' l1 l2 i1 i2 b1 b2;by_cases e:id=S.next
   ·subst e;rw[hnew]at i1;cases i1;cases b1
   ·by_cases e':id'=S.next
    ·subst e';rw[hnew]at i2;cases i2;cases b2
    ·rw[hold id e]at i1;rw[hold id' e']at i2;simp only[MS,aX]at hl hl';rw[if_neg (fun hb=>e (aaF hb).symm)]at hl;rw[if_neg (fun hb=>e' (aaF hb).symm)]at hl';exact hg.inj id id' o o' gh bq k hl hl' l1 l2 i1 i2 b1 b2
  ·have h:S.next+1<=id:=h;rw[hold id (by omega)];exact hg.fresh id (by omega)
  ·simp only[MS,aX]at hl;show id<S.next+1;split at hl
   ·rename_i hb;have:=aaF hb;omega
   ·have:=hg.ids id o hl;omega
  ·exact .grow (P8 E t) t [] S.next hnew rfl rfl rfl (.nil t none 0)
theorem adC{g:Bool}{t:E.Ty}{i:Nat}:dU (abO (E:=E) g t i)=false:=by cases g<;>rfl
theorem aoH(s:Nat)(off:Option Nat)(g:Bool)(t:E.Ty)(hnc:aR S.tmps)(hg:bO E w0 aP S a w ι ro):∃ι',aR (abP s off g t S).tmps/\bO E w0 aP (abP s off g t S) a w ι' ro/\(abP s off g t S).n=S.n:=by
 have same:∃ι',aR S.tmps/\bO E w0 aP S a w ι' ro/\S.n=S.n:=⟨ι,hnc,hg,rfl⟩
 unfold abP;split
 ·rename_i v hv;split
  ·cases hn:isNil v with
   | false=>exact same
   | true =>
    simp only[cond_true];obtain rfl:=ahe hn;obtain⟨ι',hext,hg',hr⟩:=ZT g t hg;obtain⟨u,hu,hs⟩:=hg.tmps s _ hv;have hu':u = .slice none 0 0:=aO.jY hs;subst hu';refine⟨ι',fun p hp=>?_,⟨hg'.base,hg'.size,fun t' x hl=>?_,hg'.objs,hg'.inj,hg'.fresh,hg'.ids⟩,trivial⟩
    ·cases hp with
     | head=>exact adC
     | tail _ hp=>exact hnc p hp
    ·simp only[aX]at hl;split at hl
     ·rename_i hb;have:=aaF hb;subst this;cases hl;refine⟨_,hu,?_⟩;have hc:=adC (E:=E) (g:=g) (t:=t) (i:=S.next);generalize abO g t S.next=y at hr hc;cases y<;>first | exact hr | cases hc
     ·exact hg'.tmps t' x hl
  ·rename_i o;split
   ·rename_i id off';split
    ·rename_i cs bW;split
     ·rename_i u hu;cases hn:isNil u with
      | false=>exact same
      | true =>
       simp only[cond_true];obtain rfl:=ahe hn;obtain⟨ι',hext,hg',hr⟩:=ZT g t hg;have hlt:=hg.ids id _ bW;have BH:look (MS g S) id=some (.box cs):=by
        cases g with
        | false=>exact bW
        | true=>simp only[MS,aX];rw[if_neg (fun hb=>by have:=aaF hb;omega)];exact bW
       refine⟨ι',hnc,⟨hg'.base,hg'.size,hg'.tmps,fun id' o' hl=>?_,?_,hg'.fresh,fun id' o' hl=>?_⟩,trivial⟩
       ·simp only[aX]at hl;split at hl
        ·rename_i hb;have:=aaF hb;subst this;cases hl;obtain⟨gh,g',vs,ty,h1,h2,hb,h3,h4,h5,h6⟩:=hg'.objs id _ BH;refine⟨gh,g',vs,ty,h1,h2,hb,h3,by simp[h4],fun j v c hv hc=>?_,h6⟩;have hjl:j<cs.length:=by have:=(List.getElem?_eq_some_iff.1 hc).1;simpa using this
         have hcj:=aaz hjl;have h5j:=h5 j v _ hv hcj;refine⟨h5j.1,?_⟩;by_cases hjo:j=o
         ·subst hjo;rw[List.getElem?_set_self hjl]at hc;cases hc;have h5u:=(h5 j v _ hv hu).2;have:v = .slice none 0 0:=aO.jY h5u;subst this;exact hr
         grind
        ·exact hg'.objs id' o' hl
       ·intro i1 i2 o1 o2 gh bq k hl hl' l1 l2 e1 e2 b1 b2;have lift:∀i ob,look ((id,aS.box (cs.set o (abO g t S.next)))::MS g S) i=some ob->ob.live=true->∃SI,look (MS g S) i=some SI/\SI.live=true:=by
         intro i ob h hl;simp only[aX]at h;split at h
         ·rename_i hb;have:=aaF hb;subst this;exact⟨_,BH,rfl⟩
         ·exact⟨ob,h,hl⟩
        obtain⟨q1,g1,g2⟩:=lift i1 o1 hl l1;obtain⟨q2,g3,g4⟩:=lift i2 o2 hl' l2;exact hg'.inj i1 i2 q1 q2 gh bq k g1 g3 g2 g4 e1 e2 b1 b2
       ·simp only[aX]at hl;split at hl
        ·rename_i hb;have:=aaF hb;grind
        ·exact hg'.ids id' o' hl
     ·exact same
    ·exact same
   ·exact same
 ·exact same
theorem ZU:∀(l:List (Nat×Option Nat×Bool×E.Ty)) (S:au E) (ι:Nat->Option Gh),aR S.tmps->bO E w0 aP S a w ι ro->∃ι',aR (ahc l S).tmps/\bO E w0 aP (ahc l S) a w ι' ro/\(ahc l S).n=S.n
 | [],S,ι,hnc,hg=>⟨ι,hnc,hg,rfl⟩
 | (s,off,g,t)::r,S,ι,hnc,hg=>by obtain⟨ι1,h1,h2,h3⟩:=aoH s off g t hnc hg;obtain⟨ι2,h4,h5,h6⟩:=ZU r (abP s off g t S) ι1 h1 h2;exact⟨ι2,h4,h5,h6.trans h3⟩
theorem adD{objs:List (Nat×aS E)}:∀{l:List (Nat×AV E)} {t:Nat} {y:AV E},look (ag9 objs l) t=some y->∃x,look l t=some x/\y=abM objs x
 | [],_,_,h=>by cases h
 | (u,x)::r,t,y,h=>by
  simp only[ag9,aX]at h ⊢;split at h
  ·grind
  ·rename_i hb;rw[if_neg hb];exact adD h
theorem EK{objs:List (Nat×aS E)}:∀{l:List (Nat×aS E)} {t:Nat} {y:aS E},look (afS objs l) t=some y->∃x,look l t=some x/\y=azU objs x
 | [],_,_,h=>by cases h
 | (u,x)::r,t,y,h=>by
  simp only[afS,aX]at h ⊢;split at h
  ·grind
  ·rename_i hb;rw[if_neg hb];exact EK h
theorem ard{objs:List (Nat×aS E)}{x:AV E}:dU (X7 objs x)=dU x:=by
 cases x<;>try rfl
 rename_i t n id;show dU (match look objs id with | some (.row t' l)=>.grow t' l id | _=>.row t n id)=false;split<;>rfl
theorem adE{objs:List (Nat×aS E)}{x:AV E}:dU (abM objs x)=dU x:=by have h:=ard (objs:=objs) (x:=x);cases x<;>first | rfl | exact h
theorem WO{objs:List (Nat×aS E)}:∀{l:List (Nat×AV E)},aR l->aR (ag9 objs l)
 | [],_=>fun p h=>by cases h
 | (t,x)::r,hn=>fun p h=>by
  cases h with
  | head=>exact adE.trans (hn (t,x) abd)
  | tail _ h=>exact WO (fun p h=>hn p (abb _ h)) p h
def P9(objs:List (Nat×aS E))(ι:Nat->Option Gh)(ro:Nat->Nat->Prop):Nat->Nat->Prop:=fun k o =>ro k o\/∃id t l gh,look objs id=some (.row t l)/\ι id=some gh/\gh.blk=some k/\o<gh.n*gh.sz
theorem CX(hnc:aR S.tmps)(hg:bO E w0 aP S a w ι ro):aR (yI S).tmps/\bO E w0 aP (yI S) a w ι (P9 S.objs ι ro):=by
 have hro:∀k o,ro k o->P9 S.objs ι ro k o:=fun _ _ h=>.inl h
 have one:∀(v:Value) (x:AV E),aO E w ro ι v x->aO E w (P9 S.objs ι ro) ι v (X7 S.objs x):=by
  intro v x h;have hm:=h.mono (w':=w) hro (fun _ _ _=>rfl) (fun _ _ h=>h);cases h with
  | row gh t id ad cap h1 h2 h3 h4 h5 =>
   show aO E w _ ι gh.v (match look S.objs id with | some (.row t' l)=>.grow t' l id | _=>.row t gh.n id);split
   ·rename_i t' l bW;obtain⟨bq,xs,hi',hn,hge,hgs,hown,hrow,iw⟩:=hg.objs id _ bW;rw[h1]at hi';cases hi';refine .grow gh t' l id h1 hn hge hgs ?_;have hown':=hown;unfold sJ at hown';rw[hn,hge,hgs]at hown';refine I6 hown' (fun g o hb ho=>.inr ⟨id,t',l,gh,bW,h1,hb,by rw[hn,hgs];exact ho⟩) (hrow.mono hro (fun _ _ _=>rfl))
   ·exact hm
  | _=>exact hm
 have many:∀(vs:Array Value) (cs:List (AV E)),(∀(j:Nat) v c,vs[j]? = some v->cs[j]? = some c->aO E w ro ι v c)->∀(j:Nat) v c,vs[j]? = some v->(cs.map (X7 S.objs))[j]? = some c->aO E w (P9 S.objs ι ro) ι v c:=by grind
 have all:∀(v:Value) (x:AV E),aO E w ro ι v x->aO E w (P9 S.objs ι ro) ι v (abM S.objs x):=by
  intro v x h;have h1:=one v x h;cases h with
  | agg vs cs hs hi=>exact .agg vs _ (by simp[hs]) (many vs cs hi)
  | tL vs cs hs hi=>exact .tL vs _ (by simp[hs]) (many vs cs hi)
  | _=>exact h1
 have afW:∀id ob,look S.objs id=some ob->ob.live=true->∀gh k,ι id=some gh->gh.blk=some k->∀id' t l bq,look S.objs id'=some (.row t l)->ι id'=some bq->bq.blk=some k->id=id' :=
  fun id ob h1 h2 gh k h3 h4 id' t l bq h5 h6 h7=>hg.inj id id' ob _ gh bq k h1 h5 h2 rfl h3 h6 h4 h7
 refine⟨WO hnc,⟨hg.base.below,fun k o h=>?_,fun k o h=>?_,hg.base.tO,hg.base.defers,fun q hq=>⟨fun k o h=>⟨.inl ((hg.base.keep q hq).1 k o h).1,((hg.base.keep q hq).1 k o h).2⟩,(hg.base.keep q hq).2⟩,hg.base.held⟩,hg.size,fun t y hl=>?_,fun id o hl=>?_,?_,hg.fresh,fun id o hl=>?_⟩
 ·rcases h with h | ⟨id,t,l,gh,_,hi,hb,_⟩
  ·exact hg.base.aT k o h
  ·exact(hg.base.tO id gh k hi hb).2
 ·rcases h with h | ⟨id,t,l,gh,_,hi,hb,_⟩
  ·exact hg.base.qN k o h
  ·exact .inr (hg.base.tO id gh k hi hb).1
 ·obtain⟨x,hx,rfl⟩:=adD hl;obtain⟨v,hv,hs⟩:=hg.tmps t x hx;have hc:dU x=false:=hnc _ (jQ _ _ _ hx);have hr:aO E w ro ι v x:=by cases x<;>first | exact hs | cases hc
  refine⟨v,hv,?_⟩;have h2:=all v x hr;have h3:dU (abM S.objs x)=false:=adE.trans hc;generalize abM S.objs x=y at h2 h3;cases y<;>first | exact h2 | cases h3
 ·obtain⟨o',ho',rfl⟩:=EK hl;have h:=hg.objs id o' ho';cases o' with
  | dead=>trivial
  | box cs =>
   obtain⟨gh,g,vs,ty,h1,h2,hb,h3,h4,h5,h6⟩:=h;refine⟨gh,g,vs,ty,h1,h2,hb,h3,by simp[h4],fun j v c hv hc=>⟨?_,many vs cs (fun j v c hv hc=>(h5 j v c hv hc).2) j v c hv hc⟩,fun o hr=>?_,h6.2⟩
   ·grind
   ·rcases hr with hr | ⟨id',t,l,bq,BH,hi',hb',_⟩
    ·exact h6.1 o hr
    ·have:=afW id _ ho' rfl gh g h1 hb id' t l bq BH hi' hb';subst this;rw[ho']at BH;cases BH
  | tail live =>
   intro hlive;obtain⟨gh,xs,h1,h2,h3⟩:=h hlive;refine⟨gh,xs,h1,h2,fun g hb o ho hr=>?_⟩;rcases hr with hr | ⟨id',t,l,bq,BH,hi',hb',_⟩
   ·exact h3 g hb o ho hr
   ·have:=afW id _ ho' hlive gh g h1 hb id' t l bq BH hi' hb';subst this;rw[ho']at BH;cases BH
  | Ih=>exact h
  | arr t l fz =>
   obtain⟨h0,gh,g,vs,ty,h1,h2,hb,h3,h4,h5,h6,h7⟩:=h;refine⟨h0,gh,g,vs,ty,h1,h2,hb,h3,h4,fun j v c hv hc=>⟨(h5 j v c hv hc).1,(h5 j v c hv hc).2.mono (fun _ _ h=>.inl h) (fun _ _ _=>rfl) (fun _ _ h=>h)⟩,⟨fun hf o hr=>?_,fun hf o ho=>.inl (h6.2 hf o ho)⟩,h7⟩;rcases hr with hr | ⟨id',t,l,bq,BH,hi',hb',_⟩
   ·exact h6.1 hf o hr
   ·have:=afW id _ ho' rfl gh g h1 hb id' t l bq BH hi' hb';subst this;rw[ho']at BH;cases BH
  | lp st pend n tm ps assign body =>
   obtain⟨gh,g,rec,h1,h2,h3,h4,h5⟩:=h;exact⟨gh,g,rec,h1,h2,h3,h4,fun t x hl=>by obtain⟨v,q1,q2⟩:=h5 t x hl;exact⟨v,q1,q2.mono (fun _ _ h=>.inl h) (fun _ _ _=>rfl) (fun _ _ h=>h)⟩⟩
  | mp K V l =>
   obtain⟨gh,g,es,h1,h2,h3,h4,h5,h6⟩:=h;exact⟨gh,g,es,h1,h2,h3,h4,h5,fun j e x he hx=>by obtain⟨k1,k2,k3,k4⟩:=h6 j e x he hx;exact⟨k1,k2,k3,fun i v c hv hc=>⟨(k4 i v c hv hc).1,(k4 i v c hv hc).2.mono (fun _ _ h=>.inl h) (fun _ _ _=>rfl) (fun _ _ h=>h)⟩⟩⟩
  | row t l =>
   intro _;obtain⟨gh,xs,h1,hn,hge,hgs,hown,hrow,iw⟩:=h;refine⟨gh,xs,h1,hown,fun g hb o ho hr=>?_⟩;rcases hr with hr | ⟨id',t',l',bq,BH,hi',hb',aFV⟩
   ·exact iw g hb o hr
   ·have:=afW id _ ho' rfl gh g h1 hb id' t' l' bq BH hi' hb';grind
 ·intro id id' o o' gh bq k hl hl' l1 l2 i1 i2 b1 b2;obtain⟨q,hq,rfl⟩:=EK hl;obtain⟨q',hq',rfl⟩:=EK hl';have e1:q.live=true:=by cases q<;>first | exact l1 | rfl
  have e2:q'.live=true:=by cases q'<;>first | exact l2 | rfl
  exact hg.inj id id' q q' gh bq k hq hq' e1 e2 i1 i2 b1 b2
 ·obtain⟨q,hq,rfl⟩:=EK hl;exact hg.ids id q hq
theorem arf{id:Nat}{ds:List (bC E.Den)}{x:AV E}:dU (Ta id ds x)=dU x:=by
 cases x<;>try rfl
 rename_i id' off;show dU (match Nat.beq id' id with | true=>.ko (ds.drop off) | false=>.ptr id' off)=false;split<;>rfl
theorem adF{id:Nat}{ds:List (bC E.Den)}{x:AV E}:dU (abN id ds x)=dU x:=by have h:=arf (id:=id) (ds:=ds) (x:=x);cases x<;>first | rfl | exact h
theorem WQ{id:Nat}{ds:List (bC E.Den)}:∀{l:List (Nat×AV E)},aR l->aR (aha id ds l)
 | [],_=>fun p h=>by cases h
 | (t,x)::r,hn=>fun p h=>by
  cases h with
  | head=>exact adF.trans (hn (t,x) abd)
  | tail _ h=>exact WQ (fun p h=>hn p (abb _ h)) p h
theorem adG{id:Nat}{ds:List (bC E.Den)}:∀{l:List (Nat×AV E)} {t:Nat} {y:AV E},look (aha id ds l) t=some y->∃x,look l t=some x/\y=abN id ds x
 | [],_,_,h=>by cases h
 | (u,x)::r,t,y,h=>by
  simp only[aha,aX]at h ⊢;split at h
  ·grind
  ·rename_i hb;rw[if_neg hb];exact adG h
theorem EL{id:Nat}{ds:List (bC E.Den)}:∀{l:List (Nat×aS E)} {t:Nat} {y:aS E},look (afT id ds l) t=some y->∃x,look l t=some x/\y=auB id ds t x
 | [],_,_,h=>by cases h
 | (u,x)::r,t,y,h=>by
  simp only[afT,aX]at h ⊢;split at h
  ·rename_i hb;rw[if_pos hb];cases h;rw[aaF hb];exact⟨x,rfl,rfl⟩
  ·rename_i hb;rw[if_neg hb];exact EL h
theorem aku(t:Nat)(hnc:aR S.tmps)(hg:bO E w0 aP S a w ι ro):∃ro',aR (VL t S).tmps/\bO E w0 aP (VL t S) a w ι ro'/\(VL t S).n=S.n:=by
 have same:∃ro',aR S.tmps/\bO E w0 aP S a w ι ro'/\S.n=S.n:=⟨ro,hnc,hg,rfl⟩
 unfold VL;split
 ·rename_i id aFW hv;split
  ·rename_i cs bW;split
   ·rename_i ds hds;obtain⟨gh,g,vs,ty,h1,h2,hb,h3,h4,h5,h6⟩:=hg.objs id _ bW;have hlt:=(hg.base.tO id gh g h1 hb)
    have hdl:=toDs_len hds;let ro':Nat->Nat->Prop:=fun k o=>ro k o\/(k=g/\o<cs.length)
    have hro:∀k o,ro k o->ro' k o:=fun _ _ h=>.inl h
    have one:∀(v:Value) (x:AV E),aO E w ro ι v x->aO E w ro' ι v (Ta id ds x):=by
     intro v x h;have hm:=h.mono (w':=w) hro (fun _ _ _=>rfl) (fun _ _ h=>h);cases h with
     | ptr bq g' id' off i1 i2 =>
      show aO E w ro' ι _ (match Nat.beq id' id with | true=>.ko (ds.drop off) | false=>.ptr id' off);split
      ·rename_i hbq;have:=aaF hbq;subst this;rw[h1]at i1;cases i1;rw[h2]at i2;cases i2;refine .ko g off (fun j=>vs.getD (off+j) undef) (ds.drop off) (fun j c hc=>?_) (fun j c hc=>?_)
       ·rw[aeE]at hc;have hj:off+j<cs.length:=by rw[<- hdl];exact(List.getElem?_eq_some_iff.1 hc).1
        have hjv:off+j<vs.size:=by omega
        refine⟨.inr ⟨rfl,hj⟩,?_⟩;simp[World.cell?,h3,hjv,Array.getD]
       ·rw[aeE]at hc;have hj:off+j<cs.length:=by rw[<- hdl];exact(List.getElem?_eq_some_iff.1 hc).1
        have hjv:off+j<vs.size:=by omega
        have hvj:vs[off+j]? = some vs[off+j]:=aes hjv;have hcj:=aaz hj;have hr:=toD_rep (h5 _ _ _ hvj hcj).2 (toDs_at hds _ _ _ hcj hc);have e:vs.getD (off+j) undef=vs[off+j]:=by simp[Array.getD,hjv]
        rw[e];exact hr.mono hro (fun _ _ _=>rfl)
      ·exact hm
     | _=>exact hm
    have many:∀(vs:Array Value) (cs:List (AV E)),(∀(j:Nat) v c,vs[j]? = some v->cs[j]? = some c->aO E w ro ι v c)->∀(j:Nat) v c,vs[j]? = some v->(cs.map (Ta id ds))[j]? = some c->aO E w ro' ι v c:=by grind
    have all:∀(v:Value) (x:AV E),aO E w ro ι v x->aO E w ro' ι v (abN id ds x):=by
     intro v x h;have h1:=one v x h;cases h with
     | agg vs cs hs hi=>exact .agg vs _ (by simp[hs]) (many vs cs hi)
     | tL vs cs hs hi=>exact .tL vs _ (by simp[hs]) (many vs cs hi)
     | _=>exact h1
    have other:∀id' ob bq g',look S.objs id'=some ob->ob.live=true->ι id'=some bq->bq.blk=some g'->id'≠id->g'≠g:=by intro id' ob bq g' q1 q2 q3 q4 hne e;subst e;exact hne (hg.inj id' id ob _ bq gh g' q1 bW q2 rfl q3 h1 q4 hb)
    refine⟨ro',WQ hnc,⟨⟨hg.base.below,fun k o h=>?_,fun k o h=>?_,hg.base.tO,hg.base.defers,fun q hq=>⟨fun k o h=>⟨.inl ((hg.base.keep q hq).1 k o h).1,((hg.base.keep q hq).1 k o h).2⟩,(hg.base.keep q hq).2⟩,hg.base.held⟩,hg.size,fun t y hl=>?_,fun id' o hl=>?_,?_,hg.fresh,fun id' o hl=>?_⟩,rfl⟩
    ·rcases h with h | ⟨rfl,_⟩
     ·exact hg.base.aT k o h
     ·exact hlt.2
    ·rcases h with h | ⟨rfl,_⟩
     ·exact hg.base.qN k o h
     ·exact .inr hlt.1
    ·obtain⟨x,hx,rfl⟩:=adG hl;obtain⟨v,hv,hs⟩:=hg.tmps t x hx;have hc:dU x=false:=hnc _ (jQ _ _ _ hx);have hr:aO E w ro ι v x:=by cases x<;>first | exact hs | cases hc
     refine⟨v,hv,?_⟩;have h2:=all v x hr;have h3:dU (abN id ds x)=false:=adF.trans hc;generalize abN id ds x=y at h2 h3;cases y<;>first | exact h2 | cases h3
    ·obtain⟨o',ho',rfl⟩:=EL hl;have h:=hg.objs id' o' ho';cases o' with
     | dead=>trivial
     | box cs' =>
      show j5 E w ro' ι id' (match Nat.beq id' id with | true=>.dead | false=>.box (cs'.map (Ta id ds)));split
      ·trivial
      ·rename_i hbq;have hne:id'≠id:=fun e=>by subst e;simp at hbq
       obtain⟨bq,g',vs',ty',q1,q2,qb,q3,q4,q5,q6⟩:=h;refine⟨bq,g',vs',ty',q1,q2,qb,q3,by simp[q4],fun j v c hv hc=>⟨?_,many vs' cs' (fun j v c hv hc=>(q5 j v c hv hc).2) j v c hv hc⟩,fun o hr=>?_,q6.2⟩
       ·have hj:j<cs'.length:=by have:=(List.getElem?_eq_some_iff.1 hc).1;simpa using this
        exact(q5 j v _ hv (aaz hj)).1
       ·rcases hr with hr | ⟨hr,_⟩
        ·exact q6.1 o hr
        ·exact other id' _ bq g' ho' rfl q1 qb hne hr
     | tail live =>
      intro hlive;obtain⟨bq,xs,q1,q2,q3⟩:=h hlive;have hne:id'≠id:=fun e=>by subst e;rw[bW]at ho';cases ho'
      refine⟨bq,xs,q1,q2,fun g' hb' o ho hr=>?_⟩;rcases hr with hr | ⟨hr,_⟩
      ·exact q3 g' hb' o ho hr
      ·exact other id' _ bq g' ho' hlive q1 hb' hne hr
     | Ih=>exact h
     | arr t l fz =>
      obtain⟨h0,bq,g',vs',ty',q1,q2,qb,q3,q4,q5,q6,q7⟩:=h;have hne:id'≠id:=fun e=>by subst e;rw[bW]at ho';cases ho'
      refine⟨h0,bq,g',vs',ty',q1,q2,qb,q3,q4,fun j v c hv hc=>⟨(q5 j v c hv hc).1,(q5 j v c hv hc).2.mono hro (fun _ _ _=>rfl) (fun _ _ h=>h)⟩,⟨fun hf o hr=>?_,fun hf o ho=>.inl (q6.2 hf o ho)⟩,q7⟩;rcases hr with hr | ⟨hr,_⟩
      ·exact q6.1 hf o hr
      ·exact other id' _ bq g' ho' rfl q1 qb hne hr
     | lp st pend n tm ps assign body =>
      obtain⟨bq,g',rec,q1,q2,q3,q4,q5⟩:=h;exact⟨bq,g',rec,q1,q2,q3,q4,fun t x hl=>by obtain⟨v,u1,u2⟩:=q5 t x hl;exact⟨v,u1,u2.mono hro (fun _ _ _=>rfl) (fun _ _ h=>h)⟩⟩
     | mp K V l =>
      obtain⟨bq,g',es,q1,q2,q3,q4,q5,q6⟩:=h;exact⟨bq,g',es,q1,q2,q3,q4,q5,fun j e x he hx=>by obtain⟨k1,k2,k3,k4⟩:=q6 j e x he hx;exact⟨k1,k2,k3,fun i v c hv hc=>⟨(k4 i v c hv hc).1,(k4 i v c hv hc).2.mono hro (fun _ _ _=>rfl) (fun _ _ h=>h)⟩⟩⟩
     | row t l =>
      obtain⟨bq,xs,q1,hn,hge,hgs,hown,hrow,iw⟩:=h;have hne:id'≠id:=fun e=>by subst e;rw[bW]at ho';cases ho'
      refine⟨bq,xs,q1,hn,hge,hgs,hown,hrow.mono hro (fun _ _ _=>rfl),fun g' hb' o hr=>?_⟩;rcases hr with hr | ⟨hr,_⟩
      ·exact iw g' hb' o hr
      ·exact other id' _ bq g' ho' rfl q1 hb' hne hr
    ·intro i1 i2 o o' gh1 ZV k hl hl' l1 l2 e1 e2 b1 b2;obtain⟨q,hq,rfl⟩:=EL hl;obtain⟨q',hq',rfl⟩:=EL hl';have lv:∀i (q:aS E),(auB id ds i q).live=true->q.live=true:=by
      intro i q h;cases q<;>first | exact h | rfl
     exact hg.inj i1 i2 q q' gh1 ZV k hq hq' (lv _ _ l1) (lv _ _ l2) e1 e2 b1 b2
    ·obtain⟨q,hq,rfl⟩:=EL hl;exact hg.ids id' q hq
   ·exact same
  ·exact same
 ·exact same
theorem MU:∀(l:List Nat) (S:au E) (ro:Nat->Nat->Prop),aR S.tmps->bO E w0 aP S a w ι ro->∃ro',aR (Mj l S).tmps/\bO E w0 aP (Mj l S) a w ι ro'/\(Mj l S).n=S.n
 | [],S,ro,hnc,hg=>⟨ro,hnc,hg,rfl⟩
 | t::r,S,ro,hnc,hg=>by obtain⟨WR,h1,h2,h3⟩:=aku t hnc hg;obtain⟨WS,h4,h5,h6⟩:=MU r (VL t S) WR h1 h2;exact⟨WS,h4,h5,h6.trans h3⟩
theorem j5.aB5{w:World}{ro ro':Nat->Nat->Prop}{ι:Nat->Option Gh}{g:Nat}(hro:∀k o,ro k o->ro' k o)(hnew:∀k o,ro' k o->ro k o\/k=g){id:Nat}{ob:aS E}(h:j5 E w ro ι id ob)
  (hne:ob.live=true->∀gh g',ι id=some gh->gh.blk=some g'->g'≠g):j5 E w ro' ι id ob:=by
 have mono:∀{v:Value} {x:AV E},aO E w ro ι v x->aO E w ro' ι v x:=fun h=>h.mono hro (fun _ _ _=>rfl) (fun _ _ h=>h)
 cases ob with
 | dead=>trivial
 | box cs =>obtain⟨gh,g',vs,ty,q1,q2,qb,q3,q4,q5,q6,q7⟩:=h;exact⟨gh,g',vs,ty,q1,q2,qb,q3,q4,fun j v c hv hc=>⟨(q5 j v c hv hc).1,mono (q5 j v c hv hc).2⟩,fun o hr=>(hnew _ _ hr).elim (q6 o) (hne rfl gh g' q1 qb),q7⟩
 | tail live =>intro hlive;obtain⟨gh,xs,q1,q2,q3⟩:=h hlive;exact⟨gh,xs,q1,q2,fun g' hb o ho hr=>(hnew _ _ hr).elim (q3 g' hb o ho) (hne hlive gh g' q1 hb)⟩
 | Ih=>exact h
 | arr t l fz =>obtain⟨h0,gh,g',vs,ty,q1,q2,qb,q3,q4,q5,q6,q7⟩:=h;exact⟨h0,gh,g',vs,ty,q1,q2,qb,q3,q4,fun j v c hv hc=>⟨(q5 j v c hv hc).1,mono (q5 j v c hv hc).2⟩,⟨fun hf o hr=>(hnew _ _ hr).elim (q6.1 hf o) (hne rfl gh g' q1 qb),fun hf o ho=>hro _ _ (q6.2 hf o ho)⟩,q7⟩
 | lp st pend n tm ps assign body =>
  obtain⟨gh,g',rec,q1,q2,q3,q4,q5⟩:=h;exact⟨gh,g',rec,q1,q2,q3,q4,fun t x hl=>by obtain⟨v,u1,u2⟩:=q5 t x hl;exact⟨v,u1,mono u2⟩⟩
 | mp K V l =>
  obtain⟨gh,g',es,q1,q2,q3,q4,q5,q6⟩:=h;exact⟨gh,g',es,q1,q2,q3,q4,q5,fun j e x he hx=>by obtain⟨k1,k2,k3,k4⟩:=q6 j e x he hx;exact⟨k1,k2,k3,fun i v c hv hc=>⟨(k4 i v c hv hc).1,mono (k4 i v c hv hc).2⟩⟩⟩
 | row t l =>obtain⟨gh,xs,q1,hn,hge,hgs,hown,hrow,iw⟩:=h;exact⟨gh,xs,q1,hn,hge,hgs,hown,hrow.mono hro (fun _ _ _=>rfl),fun g' hb o hr=>(hnew _ _ hr).elim (iw g' hb o) (hne rfl gh g' q1 hb)⟩
theorem bO.other{id g:Nat}{gh:Gh}{ob SI:aS E}{ro':Nat->Nat->Prop}(hnc:aR S.tmps)(hg:bO E w0 aP S a w ι ro)(bW:look S.objs id=some ob)(hl:ob.live=true)(hi:ι id=some gh)(hb:gh.blk=some g)
  (hro:∀k o,ro k o->ro' k o) (hnew:∀k o,ro' k o->ro k o\/k=g) (h':j5 E w ro' ι id SI):bO E w0 aP ⟨S.n,S.tmps,(id,SI)::S.objs,S.next⟩ a w ι ro':=by
 have hlt:=hg.base.tO id gh g hi hb;refine⟨⟨hg.base.below,fun k o h=>?_,fun k o h=>?_,hg.base.tO,hg.base.defers,fun q hq=>⟨fun k o h=>⟨hro _ _ ((hg.base.keep q hq).1 k o h).1,((hg.base.keep q hq).1 k o h).2⟩,(hg.base.keep q hq).2⟩,hg.base.held⟩,hg.size,fun t x hx=>?_,fun id' o ho=>?_,?_,hg.fresh,fun id' o ho=>?_⟩
 ·rcases hnew k o h with h | rfl
  ·exact hg.base.aT k o h
  ·exact hlt.2
 ·rcases hnew k o h with h | rfl
  ·exact hg.base.qN k o h
  ·exact .inr hlt.1
 ·obtain⟨v,hv,hs⟩:=hg.tmps t x hx;have hc:dU x=false:=hnc _ (jQ _ _ _ hx);exact⟨v,hv,BF.mono hro (fun _ _ _=>rfl) (fun _ _ h=>h) hs⟩
 ·simp only[aX]at ho;split at ho
  ·rename_i hbq;have:=aaF hbq;subst this;cases ho;exact h'
  ·rename_i hbq;refine(hg.objs id' o ho).aB5 hro hnew fun hl' bq g' hi' hb' e=>?_
   subst e;have:=hg.inj id' id o ob bq gh g' ho bW hl' hl hi' hi hb' hb;subst this;exact hbq (Nat.beq_refl _)
 ·have pre:∀i o,look ((id,SI)::S.objs) i=some o->o.live=true->∃o',look S.objs i=some o'/\o'.live=true:=fun i o h hl'=>by
   simp only[aX]at h;split at h
   ·rename_i hbq;have:=aaF hbq;subst this;exact⟨ob,bW,hl⟩
   ·exact⟨o,h,hl'⟩
  intro i1 i2 o1 o2 g1 g2 k h1 h2 l1 l2 e1 e2 b1 b2;obtain⟨p1,q1,r1⟩:=pre i1 o1 h1 l1;obtain⟨p2,q2,r2⟩:=pre i2 o2 h2 l2;exact hg.inj i1 i2 p1 p2 g1 g2 k q1 q2 r1 r2 e1 e2 b1 b2
 ·simp only[aX]at ho;split at ho
  ·rename_i hbq;have:=aaF hbq;subst this;exact hg.ids id ob bW
  ·exact hg.ids id' o ho
theorem akv(p:Nat×Option E.Ty)(hnc:aR S.tmps)(hg:bO E w0 aP S a w ι ro):∃ro',aR (VN p S).tmps/\bO E w0 aP (VN p S) a w ι ro'/\(VN p S).n=S.n:=by
 have same:∃ro',aR S.tmps/\bO E w0 aP S a w ι ro'/\S.n=S.n:=⟨ro,hnc,hg,rfl⟩
 unfold VN;split
 ·rename_i id off hv;split
  ·rename_i cs t bW hp;split
   ·rename_i ds hag hds;split
    ·rename_i l hl;obtain⟨gh,g,vs,ty,h1,h2,hb,h3,h4,h5,h6,h7⟩:=hg.objs id _ bW;obtain⟨q1,q2⟩:=ads hl;have hdl:=toDs_len hds;refine⟨ro,hnc,hg.other hnc bW rfl h1 hb (fun _ _ h=>h) (fun _ _ h=>.inl h) ⟨hag,gh,g,vs,ty,h1,h2,hb,h3,by rw[h4,F9,q1,<- hdl],fun j v c hv hc=>?_,⟨fun _=>h6,fun hf=>by cases hf⟩,h7⟩,rfl⟩;unfold pG at hc;rw[adT]at hc;cases hj:l[j]? with
     | none=>rw[hj]at hc;cases hc
     | some x =>
      rw[hj]at hc;cases hc;obtain⟨d,hd,hle⟩:=q2 j x hj;obtain⟨c0,r1,r2⟩:=XT hag x;rw[r1]at hle;have hjc:j<cs.length:=by rw[<- hdl];exact(List.getElem?_eq_some_iff.1 hd).1
      obtain⟨g1,g2⟩:=h5 j v _ hv (aaz hjc);have hdr:=toD_rep g2 (toDs_at hds _ _ _ (aaz hjc) hd);refine⟨g1,?_⟩;rw[r2];exact .d _ _ ((hle.at_ 0 d c0 rfl rfl).rep hdr)
    ·exact same
   ·exact same
  ·rename_i t l bW hp;obtain⟨h0,gh,g,vs,ty,h1,h2,hb,h3,h4,h5,h6,h7⟩:=hg.objs id _ bW;refine⟨fun k o=>ro k o\/(k=g/\o<l.length),hnc,hg.other hnc bW rfl h1 hb (fun _ _ h=>.inl h) (fun _ _ h=>h.imp (fun h=>h) And.left) ⟨h0,gh,g,vs,ty,h1,h2,hb,h3,h4,fun j v c hv hc=>⟨(h5 j v c hv hc).1,(h5 j v c hv hc).2.mono (fun _ _ h=>.inl h) (fun _ _ _=>rfl) (fun _ _ h=>h)⟩,⟨fun hf=>(by cases hf),fun _ o ho=>.inr ⟨rfl,ho⟩⟩,h7⟩,rfl⟩
  ·exact same
 ·exact same
theorem Qa:∀(l:List (Nat×Option E.Ty)) (S:au E) (ro:Nat->Nat->Prop),aR S.tmps->bO E w0 aP S a w ι ro->∃ro',aR (ahb l S).tmps/\bO E w0 aP (ahb l S) a w ι ro'/\(ahb l S).n=S.n
 | [],S,ro,hnc,hg=>⟨ro,hnc,hg,rfl⟩
 | p::r,S,ro,hnc,hg=>by obtain⟨WR,h1,h2,h3⟩:=akv p hnc hg;obtain⟨WS,h4,h5,h6⟩:=Qa r (VN p S) WR h1 h2;exact⟨WS,h4,h5,h6.trans h3⟩
theorem Tf{R:Type}{k:au E->Option R}{rr:R}{t:Nat}{kd:IntKind}{i:Int}(hnc:aR S.tmps)(hg:bO E w0 aP S a w ι ro)(hl:look S.tmps t=some (.d (.int kd i))) :
  ∀(m j:Nat),splitN k S t kd i m j=some rr->∃S',aR S'.tmps/\bO E w0 aP S' a w ι ro/\S'.n=S.n/\k S'=some rr
 | 0,_,h=>by cases h
 | m+1,j,h=>by
  unfold splitN at h;cases hb:i==(j:Int)with
  | false=>rw[hb]at h;exact Tf hnc hg hl m (j+1) h
  | true =>
   rw[hb]at h;have e:i=(j:Int):=by simpa using hb
   subst e;refine⟨⟨S.n,(t,.d (.int kd (j:Int)))::S.tmps,S.objs,S.next⟩,fun p hp=>?_,⟨hg.base,hg.size,fun t' x hl'=>?_,hg.objs,hg.inj,hg.fresh,hg.ids⟩,rfl,h⟩
   ·cases hp with
    | head=>rfl
    | tail _ hp=>exact hnc p hp
   ·simp only[aX]at hl';split at hl'
    ·rename_i hb;have:=aaF hb;subst this;cases hl';exact hg.tmps _ _ hl
    ·exact hg.tmps t' x hl'
theorem Kr{R:Type}{k:au E->Option R}{rr:R}:∀(l:List (Nat×Nat)) (S:au E),aR S.tmps->bO E w0 aP S a w ι ro->splitK l S k=some rr->∃S',aR S'.tmps/\bO E w0 aP S' a w ι ro/\S'.n=S.n/\k S'=some rr
 | [],S,hnc,hg,h=>⟨S,hnc,hg,rfl,h⟩
 | (t,n)::r,S,hnc,hg,h=>by
  unfold splitK at h;split at h
  ·rename_i kd i hl;obtain⟨S1,h1,h2,h3,h4⟩:=Tf hnc hg hl n 0 h;obtain⟨S2,h5,h6,h7,h8⟩:=Kr r S1 h1 h2 h4;exact⟨S2,h5,h6,h7.trans h3,h8⟩
  ·cases h
theorem xq:∀{l:List Nat} {i j:Nat},mh l i=some j->l[j]? = some i
 | [],_,_,h=>by cases h
 | x::r,i,j,h=>by
  unfold mh at h;split at h
  ·rename_i hb;cases h;simp[aaF hb]
  ·split at h
   ·rename_i q hq;cases h;simpa using xq hq
   ·cases h
theorem adI:∀{l:List Nat} {i:Nat},mh l i=none->i∉l
 | [],_,_=>by simp
 | x::r,i,h=>by
  unfold mh at h;split at h
  ·cases h
  ·rename_i hb;split at h
   ·cases h
   ·rename_i hq;have:=adI hq;intro hm;cases hm with
    | head=>simp at hb
    | tail _ hm=>exact this hm
theorem aoI{l:List Nat}{i:Nat}(h:l.Nodup):(addN l i).Nodup:=by
 unfold addN;split
 ·exact h
 ·rename_i hn;rw[List.nodup_append];refine⟨h,by simp,fun x hx y hy e=>?_⟩;simp at hy;subst hy;subst e;exact adI hn hx
theorem Kt:∀{m l:List Nat},l.Nodup->(Tc l m).Nodup
 | [],_,h=>h
 | _::r,_,h=>Kt (m:=r) (aoI h)
theorem adJ{ι':Nat->Option Gh}{v:Value}{x:AV E}(hc:JQ x=true)(h:aO E w ro ι v x):aO E w ro ι' v x:=by
 cases h with
 | d _ c h=>exact .d _ c h
 | st vs t x ha h=>exact .st vs t x ha h
 | _=>cases hc
theorem ahf{ids:List Nat}{v:Value}{x:AV E}(h:aO E w ro ι v x):aO E w ro (fun j=>(ids[j]?).bind ι) v (Dr ids x):=by
 cases h with
 | any v=>exact .any _
 | d _ c h=>exact .d _ c h
 | st vs t x ha h=>exact .st vs t x ha h
 | agg=>exact .any _
 | tL=>exact .any _
 | ko g off f cs h1 h2=>exact .ko g off f cs h1 h2
 | grow gh t l id h1 h2 h3 h4 h5 =>
  show aO E w ro _ gh.v (match mh ids id with | some j=>.grow t l j | none=>.d (.slice t l));cases hj:mh ids id with
  | some j=>exact .grow gh t l j (show(ids[j]?).bind ι=some gh by rw[xq hj];exact h1) h2 h3 h4 h5
  | none=>exact .d _ _ h5
 | ptr gh g id off h1 h2 =>
  show aO E w ro _ _ (match mh ids id with | some j=>.ptr j off | none=>.any);cases hj:mh ids id with
  | some j=>exact .ptr gh g j off (show(ids[j]?).bind ι=some gh by rw[xq hj];exact h1) h2
  | none=>exact .any _
 | row gh t id ad cap h1 h2 h3 h4 h5 =>
  show aO E w ro _ gh.v (match mh ids id with | some j=>.row t gh.n j | none=>.any);cases hj:mh ids id with
  | some j=>exact .row gh t j ad cap (show(ids[j]?).bind ι=some gh by rw[xq hj];exact h1) h2 h3 h4 h5
  | none=>exact .any _
 | elt gh g id i off cap h1 h2 h3 =>
  show aO E w ro _ _ (match mh ids id with | some j=>.elt j i off | none=>.any);cases hj:mh ids id with
  | some j=>exact .elt gh g j i off cap (show(ids[j]?).bind ι=some gh by rw[xq hj];exact h1) h2 h3
  | none=>exact .any _
 | yl gh l id h1 h2 =>
  show aO E w ro _ _ (match mh ids id with | some j=>.yl j | none=>.any);cases hj:mh ids id with
  | some j=>exact .yl gh l j (show(ids[j]?).bind ι=some gh by rw[xq hj];exact h1) h2
  | none=>exact .any _
 | mp gh g id h1 h2 =>
  show aO E w ro _ _ (match mh ids id with | some j=>.mp j | none=>.any);cases hj:mh ids id with
  | some j=>exact .mp gh g j (show(ids[j]?).bind ι=some gh by rw[xq hj];exact h1) h2
  | none=>exact .any _
 | EA gh g id n cap h1 h2 =>
  show aO E w ro _ _ (match mh ids id with | some j=>.EA n j | none=>.any);cases hj:mh ids id with
  | some j=>exact .EA gh g j n cap (show(ids[j]?).bind ι=some gh by rw[xq hj];exact h1) h2
  | none=>exact .any _
 | mk gh v g T id h1 h2 h3 h4 =>
  show aO E w ro _ _ (match mh ids id with | some j=>.mk T j | none=>.any);cases hj:mh ids id with
  | some j=>exact .mk gh _ g T j (show(ids[j]?).bind ι=some gh by rw[xq hj];exact h1) h2 h3 h4
  | none=>exact .any _
 | sd=>exact .any _
 | fn f vs us a b h1 h2 h3 h4 =>
  show aO E w ro _ _ (bif a.all JQ&&b.all JQ then .fn f a b else .any);cases hc:a.all JQ&&b.all JQ with
  | false=>exact .any _
  | true =>rw[abj,ahn,ahn]at hc;exact .fn f vs us a b h1 h2 (fun j v c hv hj=>adJ (hc.1 c (agC hj)) (h3 j v c hv hj)) fun j v c hv hj=>adJ (hc.2 c (agC hj)) (h4 j v c hv hj)
theorem abR{ids:List Nat}{vs:Array Value}{cs:List (AV E)}(h:∀(j:Nat) v c,vs[j]? = some v->cs[j]? = some c->aO E w ro ι v c):∀(j:Nat) v c,vs[j]? = some v->(cs.map (Dr ids))[j]? = some c->aO E w ro (fun j=>(ids[j]?).bind ι) v c:=by
 intro j v c hv hc;rw[adT]at hc;cases hx:cs[j]? with
 | none=>rw[hx]at hc;cases hc
 | some y =>rw[hx]at hc;cases hc;exact ahf (h j v y hv hx)
theorem auC{ids:List Nat}{v:Value}{x:AV E}(h:aO E w ro ι v x):aO E w ro (fun j=>(ids[j]?).bind ι) v (BG ids x):=by
 have one:=ahf (ids:=ids) h;cases h with
 | agg vs cs h1 h2=>exact .agg vs _ (by simp[h1]) (abR h2)
 | _=>exact one
theorem aoJ{objs:List (Nat×aS E)}{v:Value}{x:AV E}(h:aO E w ro ι v x):aO E w ro ι v (BO objs x):=by
 have h0:=h;cases h with
 | grow gh t l id h1 h2 h3 h4 h5 =>
  show aO E w ro ι gh.v (match look objs id with | some (.tail true)=>.grow t l id | _=>.d (.slice t l));split
  ·exact h0
  ·exact .d _ _ h5
 | _=>exact h0
theorem aoK{live:List Nat}{t:Nat}{y:AV E}(h:look (VO S live) t=some y):∃x,look S.tmps t=some x/\y=BO S.objs x:=by
 induction live with
 | nil=>cases h
 | cons u r ih =>
  unfold VO at h;cases hx:look S.tmps u with
  | some x =>
   rw[hx]at h;simp only[aX]at h;split at h
   ·rename_i hb;have:=aaF hb;grind
   ·exact ih h
  | none =>rw[hx]at h;exact ih h
theorem adK{ids:List Nat}:∀{l:List (Nat×AV E)} {t:Nat} {y:AV E},look (X8 ids l) t=some y->∃x,look l t=some x/\y=BG ids x
 | [],_,_,h=>by cases h
 | (u,x)::r,t,y,h=>by
  simp only[X8,aX]at h ⊢;split at h
  ·grind
  ·rename_i hb;rw[if_neg hb];exact adK h
theorem EM{objs:List (Nat×aS E)}{ids:List Nat}:∀{l:List Nat} {j q:Nat} {o:aS E},look (ZQ objs ids l j) q=some o->∃i,j<=q/\l[q-j]? = some i/\(o = .dead\/∃o',look objs i=some o'/\o=azX ids o')
 | [],_,_,_,h=>by cases h
 | i::r,j,q,o,h=>by
  simp only[ZQ,aX]at h;split at h
  ·rename_i hb;have:=aaF hb;subst this;refine⟨i,abn _,by simp,?_⟩;grind
  ·obtain⟨i',h1,h2,h3⟩:=EM h;grind
theorem MV{ids:List Nat}:∀(l:List (Nat×AV E)),aR (X8 ids l)
 | []=>fun p h=>by cases h
 | (t,x)::r=>fun p h=>by
  cases h with
  | tail _ h=>exact MV r p h
  | head =>
   simp only;cases x with
   | cond=>rfl
   | agg=>rfl
   | any=>rfl
   | d=>rfl
   | st=>rfl
   | tL=>rfl
   | ko=>rfl
   | grow t l id=>simp only[BG,Dr];split<;>rfl
   | ptr id off=>simp only[BG,Dr];split<;>rfl
   | row t n id=>simp only[BG,Dr];split<;>rfl
   | elt id i off=>simp only[BG,Dr];split<;>rfl
   | EA n id=>simp only[BG,Dr];split<;>rfl
   | mp id=>simp only[BG,Dr];split<;>rfl
   | yl id=>simp only[BG,Dr];split<;>rfl
   | mk T id=>simp only[BG,Dr];split<;>rfl
   | sd=>rfl
   | fn f a b=>simp only[BG,Dr];cases a.all JQ&&b.all JQ<;>rfl
theorem auD{ι':Nat->Option Gh}{v:Value}{c:AV E}{t:E.Ty}{l:List (E.Den t)}{j:Nat}(h:aO E w ro ι v c)(hc:(pG t l)[j]? = some c):aO E w ro ι' v c:=by
 unfold pG at hc;rw[adT]at hc;cases hl:l[j]? with
 | none=>rw[hl]at hc;cases hc
 | some x =>
  rw[hl]at hc;cases hc;unfold cell1 at h ⊢;cases h with
  | d _ _ hd=>exact .d _ _ hd
theorem Mk(ids:List Nat)(hnd:ids.Nodup)(kept:List (Nat×AV E))(hkept:∀t y,look kept t=some y->∃z,look S.tmps t=some z/\y=BO S.objs z)(hio:∀q,w0.k=some q->∀id gh,q.ι id=some gh->ids[id]? = some id)(hnc:aR S.tmps)(hg:bO E w0 aP S a w ι ro) :
  aR (X8 ids kept)/\bO E w0 aP ⟨S.n,X8 ids kept,ZQ S.objs ids ids 0,ids.length⟩ a w (fun j=>(ids[j]?).bind ι) ro:=by
 refine⟨MV _,⟨hg.base.below,hg.base.aT,hg.base.qN,fun id gh k h1 h2=>?_,hg.base.defers,(fun q hq=>⟨(hg.base.keep q hq).1,fun id gh h=>by simp only[hio q hq id gh h];exact(hg.base.keep q hq).2 id gh h⟩),fun k o h=>⟨(hg.base.held k o h).1,fun id gh h1 h2=>by cases hj:ids[id]? with | none=>(simp only[hj]at h1;cases h1) | some i=>(simp only[hj]at h1;exact(hg.base.held k o h).2 i gh h1 h2)⟩⟩,hg.size,fun t y hl=>?_,fun id o hl=>?_,?_,fun id h=>?_,fun id o hl=>?_⟩
 ·cases hj:ids[id]? with
  | none=>simp only[hj]at h1;cases h1
  | some i=>simp only[hj]at h1;exact hg.base.tO i gh k h1 h2
 ·obtain⟨x,hx,rfl⟩:=adK hl;obtain⟨z,hz,rfl⟩:=hkept _ _ hx;obtain⟨v,hv,hs⟩:=hg.tmps t z hz;have hc:dU z=false:=hnc _ (jQ _ _ _ hz);have hr:aO E w ro ι v z:=by cases z<;>first | exact hs | cases hc
  refine⟨v,hv,?_⟩;have h2:=auC (ids:=ids) (aoJ (objs:=S.objs) hr);have h3:dU (BG ids (BO S.objs z))=false:=by have:=MV (ids:=ids) [(0,BO S.objs z)];exact this (0,BG ids (BO S.objs z)) abd
  show BF E w ro _ a.tmps v (BG ids (BO S.objs z));generalize BG ids (BO S.objs z)=y at h2 h3;cases y<;>first | exact h2 | cases h3
 ·obtain⟨i,_,hi,h⟩:=EM hl;simp only[amg]at hi;rcases h with rfl | ⟨o',ho',rfl⟩
  ·trivial
  ·have h:=hg.objs i o' ho';have hi':(fun j=>(ids[j]?).bind ι) id=ι i:=by
    grind
   cases o' with
   | dead=>trivial
   | tail l =>intro hl;obtain⟨gh,xs,h1,h2,h3⟩:=h hl;exact⟨gh,xs,hi'.trans h1,h2,h3⟩
   | Ih =>obtain⟨gh,g,h1,h2⟩:=h;exact⟨gh,g,hi'.trans h1,h2⟩
   | arr t l fz =>obtain⟨h0,gh,g,vs,ty,h1,h2,hb,h3,h4,h5,h6⟩:=h;exact⟨h0,gh,g,vs,ty,hi'.trans h1,h2,hb,h3,h4,fun j v c hv hc=>⟨(h5 j v c hv hc).1,auD (h5 j v c hv hc).2 hc⟩,h6⟩
   | lp _ _ _ _ _ _ _=>trivial
   | mp K V l =>
    obtain⟨gh,g,es,h1,h2,h3,h4,h5,h6⟩:=h;refine⟨gh,g,es,hi'.trans h1,h2,h3,by simpa using h4,by simpa using h5,fun j e x he hx=>?_⟩;rw[adT]at hx;cases hl':l[j]? with
    | none=>rw[hl']at hx;cases hx
    | some y =>
     rw[hl']at hx;cases hx;obtain⟨k1,k2,k3,k4⟩:=h6 j e y he hl';refine⟨k1,k2,by simpa using k3,fun i v c hv hc=>⟨?_,abR (fun j v c hv hc=>(k4 j v c hv hc).2) i v c hv hc⟩⟩;have hj:i<y.2.length:=by have:=(List.getElem?_eq_some_iff.1 hc).1;simpa using this
     exact(k4 i v _ hv (aaz hj)).1
   | row t l =>obtain⟨gh,xs,h1,h2⟩:=h;exact⟨gh,xs,hi'.trans h1,h2⟩
   | box cs =>
    obtain⟨gh,g,vs,ty,h1,h2,hb,h3,h4,h5,h6⟩:=h;exact⟨gh,g,vs,ty,hi'.trans h1,h2,hb,h3,by simp[h4],fun j v c hv hc=>⟨by
     have hj:j<cs.length:=by have:=(List.getElem?_eq_some_iff.1 hc).1;simpa using this
     exact(h5 j v _ hv (aaz hj)).1,abR (fun j v c hv hc=>(h5 j v c hv hc).2) j v c hv hc⟩,h6⟩
 ·intro id id' o o' gh bq k hl hl' l1 l2 i1 i2 b1 b2;obtain⟨i,_,hi,h⟩:=EM hl;obtain⟨i',_,hi',h'⟩:=EM hl';simp only[amg]at hi hi';rcases h with rfl | ⟨q,hq,rfl⟩
  ·cases l1
  rcases h' with rfl | ⟨q',hq',rfl⟩
  ·cases l2
  have e1:q.live=true:=by cases q<;>first | exact l1 | cases l1
  have e2:q'.live=true:=by cases q'<;>first | exact l2 | cases l2
  simp only at i1 i2;have i1':(ids[id]?).bind ι=some gh:=i1;have i2':(ids[id']?).bind ι=some bq:=i2;rw[show ids[id]? = some i from hi]at i1';rw[show ids[id']? = some i' from hi']at i2';have:=hg.inj i i' q q' gh bq k hq hq' e1 e2 i1' i2' b1 b2;subst this;have hlt:=(List.getElem?_eq_some_iff.1 hi).1;have hlt':=(List.getElem?_eq_some_iff.1 hi').1;exact(List.getElem?_inj hlt hnd).1 (hi.trans hi'.symm)
 ·grind
 ·obtain⟨i,_,hi,_⟩:=EM hl;grind
theorem auE{l:List Nat}{i j x:Nat}(h:l[j]? = some x):(addN l i)[j]? = some x:=by unfold addN;grind
theorem Qb{j x:Nat}:∀{m l:List Nat},l[j]? = some x->(Tc l m)[j]? = some x
 | [],_,h=>h
 | _::r,_,h=>Qb (m:=r) (auE h)
def ZW(own:Nat)(w0:Start):Prop:=∀q,w0.k=some q->∀id gh,q.ι id=some gh->id<own
theorem ZW.none{own:Nat}{w0:Start}(h:w0.k=none):ZW own w0:=fun q hq=>by rw[h]at hq;cases hq
theorem akw(own:Nat)(live:List Nat)(hio:ZW own w0)(hnc:aR S.tmps)(hg:bO E w0 aP S a w ι ro):∃ι',aR (aoG own live S).tmps/\bO E w0 aP (aoG own live S) a w ι' ro :=
 ⟨_,Mk _ (Kt (Kt List.nodup_range)) (VO S live) (fun _ _ h=>aoK h) (fun q hq id gh h=>Qb (Qb (by rw[List.getElem?_range (hio q hq id gh h)]))) hnc hg⟩
end
section
variable {P:Program} {E:Env P} {O:aI E} {w0:Start} {aP:Nat->Nat->Prop}
theorem Tg{R:Type}(hO:aK E O)(dM:P.follows .mixedOrders=true){S:au E}{a:Act}{w:World}{ι:Nat->Option Gh}{ro:Nat->Nat->Prop}(hnc:aR S.tmps)(hg:bO E w0 aP S a w ι ro){k:au E->Option R}{rr:R}{Q:Exit->Act->World->Prop}{b dr:Bool}{ops:Array Oper}{id:Nat}
  (hk:∀S' a' w' ι' ro',aR S'.tmps->bO E w0 aP S' a' w' ι' ro'->S'.n=S.n->k S'=some rr->Q .normal a' w') (h:Io b O ops dr S k=some rr):(Code.region id ops dr).wp P Q a w:=by
 have old:awl O ops dr S k=some rr->(Code.region id ops dr).wp P Q a w:=fun h=>by
  cases dr with
  | true=>exact ag6 (n:=S.n) (glob:=S.tmps) (objs:=S.objs) (next:=S.next) hO dM hnc hg hk h
  | false=>exact wp_region_list (GU (n:=S.n) (glob:=S.tmps) hO hnc hk ops.toList [] S.objs S.next a w ι ro hg h)
 unfold Io at h;split at h
 ·exact ag8 hO dM hnc hg hk h
 ·exact old h
end
end
end Go.Proofs.YtclnniijooeajaaGreatDoor.bg
namespace Go.Proofs.YtclnniijooeajaaGreatDoor.bg
open Go Go.RowKit
section
section
variable {P:Program} {E:Env P}
def abS(S:au E)(r:ResultVar):Option (AV E):=match r with
 | .tmp q=>some (Zn [] (look S.tmps q))
 | .cell q ty=>Sr S.objs ty (Zn [] (look S.tmps q))
def abT(S:au E):List ResultVar->List TypeId->Option (List (TV E))
 | [],[]=>some []
 | r::rs,T::Ts=>match E.code T with
  | some t=>match abS S r with
   | some v=>match EC t v with
    | some x=>match abT S rs Ts with
     | some xs=>some (⟨t,x⟩::xs)
     | none=>none
    | none=>none
   | none=>none
  | none=>none
 | _,_=>none
def Qc:List (TV E)->Nat->List (Nat×AV E)
 | [],_=>[]
 | ⟨t,x⟩::r,i=>(i,gV t x)::Qc r (i+1)
def Ti(fn:Func)(args:List (TV E)):au E:=⟨args.length+(fn.ntmps-args.length),Qc args 0,[],0⟩
def Ku(fn:Func)(e:dN)(S:au E):Option (List (TV E)):=match e with
 | .exit _=>none
 | .goto _=>none
 | _=>abT (yI S) fn.results.toList fn.resultTypes.toList
def jR(O:aI E)(h:Hint E)(G:Nat->au E->Option (List (TV E)))(fn:Func)(args:List (TV E)):Option (List (TV E)):=match fn.body with
 | some c=>mP O h G 0 c (Ti fn args) (Ku fn)
 | none=>none
def uG(O:aI E)(h:Hint E)(G:Nat->au E->Option (List (TV E)))(fn:Func)(j:Nat)(S:au E):Option (List (TV E)):=match fn.body with
 | some c=>ahd O h G c j S (Ku fn)
 | none=>none
end
section
variable {P:Program}
def tT(P:Program)(c:Code)(Q:Exit->Act->World->Prop)(a:Act)(w:World):Prop :=
 ∀b k cs, ∃e a' w',Q e a' w'/\Arrives P (lone (b.at a (.code c :: .inLoop c::k)) cs w) b k cs e a' w'
theorem tT.wp{c:Code}{Q:Exit->Act->World->Prop}{a:Act}{w:World}(h:tT P c Q a w):(Code.loop c).wp P Q a w:=by intro b k cs;obtain⟨e,a',w',hq,harr⟩:=h b k cs;exact⟨e,a',w',hq,.of_steps (.one step_loop) harr⟩
theorem tT.round{c:Code}{Q:Exit->Act->World->Prop}{a:Act}{w:World}(h:c.wp P (Exit.then (tT P c Q) Q) a w):tT P c Q a w:=by
 intro b k cs;obtain⟨e,a₁,w₁,hq,harr⟩:=h b (.inLoop c::k) cs;cases e with
 | normal =>obtain⟨e₂,a₂,w₂,hq₂,harr₂⟩:=hq b k cs;exact⟨e₂,a₂,w₂,hq₂,.of_steps (Steps.trans harr (.one step_inLoop)) harr₂⟩
 | exit id=>exact⟨_,a₁,w₁,hq,.pass (x:=.inLoop c) rfl (fun _ _=>.inl (by simp)) harr⟩
 | goto l=>exact⟨_,a₁,w₁,hq,.pass (x:=.inLoop c) rfl (fun _ _=>.inl (by simp)) harr⟩
 | ret=>exact⟨_,a₁,w₁,hq,.pass (x:=.inLoop c) rfl (fun _ _=>.inl (by simp)) harr⟩
 | panic ch=>exact⟨_,a₁,w₁,hq,.pass (x:=.inLoop c) rfl (fun _ _=>.inl (by simp)) harr⟩
 | outgrown=>exact⟨_,a₁,w₁,hq,.pass (x:=.inLoop c) rfl (fun _ _=>.inl (by simp)) harr⟩
def Kv(P:Program)(c rest:Code)(Q:Exit->Act->World->Prop)(a:Act)(w:World):Prop :=
 ∀b k cs, ∃e a' w',Q e a' w'/\Arrives P (lone (b.at a (.code rest :: .inScope c::k)) cs w) b k cs e a' w'
def Oa(P:Program)(c:Code)(Q:Exit->Act->World->Prop):Exit->Act->World->Prop
 | .goto l,a,w=>∃rest,findLabel c l=some rest/\Kv P c rest Q a w
 | e,a,w=>Q e a w
theorem Kv.of{c rest:Code}{Q:Exit->Act->World->Prop}{a:Act}{w:World}(h:rest.wp P (Oa P c Q) a w):Kv P c rest Q a w:=by
 intro b k cs;obtain⟨e,a₁,w₁,hq,harr⟩:=h b (.inScope c::k) cs;cases e with
 | normal=>exact⟨.normal,a₁,w₁,hq,Steps.trans harr (.one step_inScope)⟩
 | exit id=>exact⟨.exit id,a₁,w₁,hq,fun k' hk=>harr k' (by simp[exitTo,hk])⟩
 | goto l' =>
  obtain⟨rest',hf,hJ⟩:=hq;have hg:gotoIn l' (.inScope c::k)=some (.code rest' :: .inScope c::k):=by simp[gotoIn,hf]
  obtain⟨e₂,a₂,w₂,hq₂,harr₂⟩:=hJ b k cs;exact⟨e₂,a₂,w₂,hq₂,.of_steps (harr _ hg) harr₂⟩
 | ret=>exact⟨_,a₁,w₁,hq,harr⟩
 | panic ch=>exact⟨_,a₁,w₁,hq,harr⟩
 | outgrown=>exact⟨_,a₁,w₁,hq,harr⟩
theorem adL{c:Code}{Q:Exit->Act->World->Prop}{a:Act}{w:World}(h:c.wp P (Oa P c Q) a w):(Code.scope c).wp P Q a w:=by
 intro b k cs;obtain⟨e,a₁,w₁,hq,harr⟩:=h b (.inScope c::k) cs;cases e with
 | normal=>exact⟨.normal,a₁,w₁,hq,.head step_scope (Steps.trans harr (.one step_inScope))⟩
 | exit id=>exact⟨.exit id,a₁,w₁,hq,fun k' hk=>.head step_scope (harr k' (by simp[exitTo,hk]))⟩
 | goto l' =>
  obtain⟨rest',hf,hJ⟩:=hq;have hg:gotoIn l' (.inScope c::k)=some (.code rest' :: .inScope c::k):=by simp[gotoIn,hf]
  obtain⟨e₂,a₂,w₂,hq₂,harr₂⟩:=hJ b k cs;exact⟨e₂,a₂,w₂,hq₂,.of_steps (.head step_scope (harr _ hg)) harr₂⟩
 | ret=>exact⟨_,a₁,w₁,hq,.of_steps (.one step_scope) harr⟩
 | panic ch=>exact⟨_,a₁,w₁,hq,.of_steps (.one step_scope) harr⟩
 | outgrown=>exact⟨_,a₁,w₁,hq,.of_steps (.one step_scope) harr⟩
def oD(P:Program):Code->(Exit->Act->World->Prop)->Option (Code×(Exit->Act->World->Prop))
 | .scope c,Q=>some (c,Q)
 | .seq x y,Q=>(match eZ x with
  | true=>oD P x (Exit.then (y.wp P Q) Q)
  | false=>oD P y Q)
 | .block id b,Q=>oD P b (Exit.inBlock id Q)
 | _,_=>none
def l7(P:Program):Code->Nat->(Exit->Act->World->Prop)->Option (Code×(Exit->Act->World->Prop))
 | .loop b,0,Q=>some (b,Q)
 | .loop b,j+1,Q=>l7 P b j (Exit.then (tT P b Q) Q)
 | .seq x y,j,Q=>match Nat.blt j (bR x)with
  | true=>l7 P x j (Exit.then (y.wp P Q) Q)
  | false=>l7 P y (j-bR x) Q
 | .cond _ x y,j,Q=>match Nat.blt j (bR x)with
  | true=>l7 P x j Q
  | false=>l7 P y (j-bR x) Q
 | .block id b,j,Q=>l7 P b j (Exit.inBlock id Q)
 | .scope b,j,Q=>(match zH b with
  | true=>l7 P b j (Exit.noGoto Q)
  | false=>none)
 | _,_,_=>none
def Placed(P:Program)(c0:Code)(Q0:Exit->Act->World->Prop)(i:Nat)(c:Code)(Q:Exit->Act->World->Prop):Prop :=
 ∀j,j<bR c->l7 P c0 (i+j) Q0=l7 P c j Q
theorem Qd{a b:Nat}(h:a<b):Nat.blt a b=true:=by simpa[Nat.blt_eq]using h
theorem Ml{a b:Nat}(h:b<=a):Nat.blt a b=false:=by
 cases hb:Nat.blt a b with
 | false=>rfl
 | true=>rw[Nat.blt_eq]at hb;omega
section
variable {c0:Code} {Q0 Q:Exit->Act->World->Prop} {i:Nat}
theorem Placed.seq{x y:Code}(h:Placed P c0 Q0 i (.seq x y) Q):Placed P c0 Q0 i x (Exit.then (y.wp P Q) Q)/\Placed P c0 Q0 (i+bR x) y Q:=by
 refine⟨fun j hj=>?_,fun j hj=>?_⟩
 ·rw[h j (by show j<bR x+bR y;omega)];simp only[l7,Qd hj]
 ·rw[al3,h (bR x+j) (by show bR x+j<bR x+bR y;omega)];simp only[l7,Ml (show bR x<=bR x+j by omega),Nat.add_sub_cancel_left]
theorem Placed.cond{c:Operand}{x y:Code}(h:Placed P c0 Q0 i (.cond c x y) Q):Placed P c0 Q0 i x Q/\Placed P c0 Q0 (i+bR x) y Q:=by
 refine⟨fun j hj=>?_,fun j hj=>?_⟩
 ·rw[h j (by show j<bR x+bR y;omega)];simp only[l7,Qd hj]
 ·rw[al3,h (bR x+j) (by show bR x+j<bR x+bR y;omega)];simp only[l7,Ml (show bR x<=bR x+j by omega),Nat.add_sub_cancel_left]
theorem Placed.block{id:Nat}{b:Code}(h:Placed P c0 Q0 i (.block id b) Q):Placed P c0 Q0 i b (Exit.inBlock id Q):=fun j hj=>h j hj
theorem Placed.scope{b:Code}(hb:zH b=true)(h:Placed P c0 Q0 i (.scope b) Q):Placed P c0 Q0 i b (Exit.noGoto Q):=fun j hj=>by rw[h j (by simp only[bR,hb];exact hj)];simp only[l7,hb]
theorem Placed.head{b:Code}(h:Placed P c0 Q0 i (.loop b) Q):l7 P c0 i Q0=some (b,Q):=h 0 (by show 0<bR b+1;omega)
theorem Placed.inner{b:Code}(h:Placed P c0 Q0 i (.loop b) Q):Placed P c0 Q0 (i+1) b (Exit.then (tT P b Q) Q):=fun j hj=>by rw[al3,Nat.add_comm 1 j];exact h (j+1) (by show j+1<bR b+1;omega)
theorem Placed.al9{c:Code}(h:bR c=0):Placed P c0 Q0 i c Q:=fun j hj=>by omega
theorem Placed.whole:Placed P c0 Q0 0 c0 Q0:=fun j _=>by rw[aeC]
end
end
section
variable {P:Program} {E:Env P} {O:aI E} {h:Hint E} {w0:Start} {aP:Nat->Nat->Prop} {n:Nat} {c0:Code} {Q0:Exit->Act->World->Prop}
def az0(E:Env P)(w0:Start)(aP:Nat->Nat->Prop)(n:Nat)(c0:Code)(Q0:Exit->Act->World->Prop)(i:Nat)(S:au E):Prop :=
 ∀b Q,l7 P c0 i Q0=some (b,Q)->∀a w ι ro,aR S.tmps->bO E w0 aP S a w ι ro->S.n=n->tT P b Q a w
def aB6(E:Env P)(w0:Start)(aP:Nat->Nat->Prop)(n:Nat)(c0:Code)(Q0:Exit->Act->World->Prop)(i:Nat)(S:au E):Prop :=
 ∀l,i=100+l->∀sc Q rest,oD P c0 Q0=some (sc,Q)->findLabel sc l=some rest->∀a w ι ro,aR S.tmps->bO E w0 aP S a w ι ro->S.n=n->rest.wp P (Oa P sc Q) a w
def Tj(E:Env P)(w0:Start)(aP:Nat->Nat->Prop)(n:Nat)(c0:Code)(Q0:Exit->Act->World->Prop)(i:Nat)(S:au E):Prop:=az0 E w0 aP n c0 Q0 i S/\aB6 E w0 aP n c0 Q0 i S
theorem yJ:∀(c:Code) (j:Nat) (Q:Exit->Act->World->Prop),bR c<=j->l7 P c j Q=none
 | .loop b,0,Q,h=>by simp[bR]at h
 | .loop b,j+1,Q,h=>yJ b j _ (by simp only[bR]at h;omega)
 | .seq x y,j,Q,h=>by simp only[bR]at h;simp only[l7,Ml (show bR x<=j by omega)];exact yJ y _ Q (by omega)
 | .cond _ x y,j,Q,h=>by simp only[bR]at h;simp only[l7,Ml (show bR x<=j by omega)];exact yJ y _ Q (by omega)
 | .block id b,j,Q,h=>yJ b j _ (by simpa only [bR]using h)
 | .skip,_,_,_=>rfl
 | .ret,_,_,_=>rfl
 | .exit _,_,_,_=>rfl
 | .region ..,_,_,_=>rfl
 | .scope b,j,Q,h=>by
  unfold l7;split
  ·rename_i hb;exact yJ b j _ (by simp only[bR,hb]at h;exact h)
  ·rfl
 | .label _,_,_,_=>rfl
 | .goto _,_,_,_=>rfl
 | .rangeFunc ..,_,_,_=>rfl
 | .refuse _,_,_,_=>rfl
theorem zI(hh:Hint E)(i:Nat)(hio:ZW hh.own w0){S:au E}{a:Act}{w:World}{ι:Nat->Option Gh}{ro:Nat->Nat->Prop}(hnc:aR S.tmps)(hg:bO E w0 aP S a w ι ro)(hn:S.n=n) :
  ∃ι',aR (Kq hh i S).tmps/\bO E w0 aP (Kq hh i S) a w ι' ro/\(Kq hh i S).n=n:=by
 obtain⟨ι1,auF,hg1,hn1⟩:=ZU (Td hh.oC i) S ι hnc hg;obtain⟨ι',hnc',hg'⟩:=akw hh.own (Td hh.live i) hio auF hg1;exact⟨ι',hnc',hg',hn1.trans hn⟩
theorem rF{R:Type}(hO:aK E O)(dM:P.follows .mixedOrders=true){G:Nat->au E->Option R}{rr:R}(hG:∀i S,G i S=some rr->ZW h.own w0/\Tj E w0 aP n c0 Q0 i S) :
  ∀(c:Code) (i:Nat) (S:au E) (k:dN->au E->Option R) (Q:Exit->Act->World->Prop) (a:Act) (w:World) (ι:Nat->Option Gh) (ro:Nat->Nat->Prop),Placed P c0 Q0 i c Q->(eZ c=true->oD P c Q=oD P c0 Q0) ->
  aR S.tmps->bO E w0 aP S a w ι ro->S.n=n->mP O h G i c S k=some rr ->
  (∀e S' a' w' ι' ro',aR S'.tmps->bO E w0 aP S' a' w' ι' ro'->S'.n=n->k e S'=some rr->Q e.toExit a' w')->c.wp P Q a w:=by
 intro c
 induction c with
 | skip=>intro i S k Q a w ι ro _ _ hnc hg hn h hk;exact wp_skip (hk .normal S a w ι ro hnc hg hn h)
 | ret=>intro i S k Q a w ι ro _ _ hnc hg hn h hk;exact wp_ret (hk .ret S a w ι ro hnc hg hn h)
 | exit id=>intro i S k Q a w ι ro _ _ hnc hg hn h hk;exact wp_exit (hk (.exit id) S a w ι ro hnc hg hn h)
 | region id ops draw =>
  intro i S k Q a w ι ro _ _ hnc hg hn hh hk;have go:∀(S:au E) (ro:Nat->Nat->Prop),aR S.tmps->bO E w0 aP S a w ι ro->S.n=n->Io (P7 h.lst id) O ops draw S (k .normal)=some rr->(Code.region id ops draw).wp P Q a w:=fun S ro hnc hg hn hq =>Tg hO dM hnc hg (fun S' a' w' ι' ro' h1 h2 h3 h4=>hk .normal S' a' w' ι' ro' h1 h2 (h3.trans hn) h4) hq
  simp only[mP]at hh;have fin:∀(l1:List (Nat×Nat)) (l2:List Nat) (S:au E) (ro:Nat->Nat->Prop),aR S.tmps->bO E w0 aP S a w ι ro->S.n=n->splitK l1 (Mj l2 S) (fun S'=>Io (P7 h.lst id) O ops draw S' (k .normal))=some rr->(Code.region id ops draw).wp P Q a w:=by intro l1 l2 S ro hnc hg hn h;obtain⟨WR,g1,g2,g3⟩:=MU l2 S ro hnc hg;obtain⟨S2,g4,g5,g6,g7⟩:=Kr _ _ g1 g2 h;grind
  split at hh
  ·obtain⟨h1,h2⟩:=CX hnc hg;obtain⟨roA,a1,a2,a3⟩:=Qa (Td h.arr id) (yI S) _ h1 h2;exact fin _ _ _ roA a1 a2 (a3.trans hn) hh
  ·obtain⟨roA,a1,a2,a3⟩:=Qa (Td h.arr id) S ro hnc hg;exact fin _ _ _ roA a1 a2 (a3.trans hn) hh
 | seq x y Ob ihy =>
  intro i S k Q a w ι ro hp hs hnc hg hn h hk;simp only[mP]at h;split at h
  ·cases h
  ·rename_i hxy;have sx:eZ x=true->oD P x (Exit.then (y.wp P Q) Q)=oD P c0 Q0:=fun hx=>by
    rw[<- hs (by simp only[eZ,hx,ad5])];simp only[oD,hx]
   have sy:eZ y=true->oD P y Q=oD P c0 Q0:=fun hy=>by
    have hx:eZ x=false:=by grind
    rw[<- hs (by simp only[eZ,hy,ai5])];simp only[oD,hx]
   refine wp_seq (Ob i S _ _ a w ι ro hp.seq.1 sx hnc hg hn h fun e S' a' w' ι' ro' h1 h2 h3 h4=>?_);cases e with
   | normal=>exact ihy _ S' k Q a' w' ι' ro' hp.seq.2 sy h1 h2 h3 h4 hk
   | exit id=>exact hk (.exit id) S' a' w' ι' ro' h1 h2 h3 h4
   | ret=>exact hk .ret S' a' w' ι' ro' h1 h2 h3 h4
   | goto l=>exact hk (.goto l) S' a' w' ι' ro' h1 h2 h3 h4
 | cond c x y Ob ihy =>
  intro i S k Q a w ι ro hp _ hnc hg hn h hk;have hc:=xk (E:=E) (asm:=[]) hg.tmps (fun j b hb=>by simp[tN]at hb) c;simp only[mP]at h;split at h
  ·cases h
  ·rename_i hxy;rw[Bool.or_eq_false_iff]at hxy;split at h
   ·rename_i b hb;rw[hb]at hc;have hc:=hc.rC;cases b with
    | true=>exact wp_cond_true hc (Ob i S k Q a w ι ro hp.cond.1 (fun e=>by rw[hxy.1]at e;cases e) hnc hg hn h hk)
    | false=>exact wp_cond_false hc (ihy _ S k Q a w ι ro hp.cond.2 (fun e=>by rw[hxy.2]at e;cases e) hnc hg hn h hk)
   ·cases h
 | block id body ih =>
  intro i S k Q a w ι ro hp hs hnc hg hn h hk;refine wp_block (ih i S _ _ a w ι ro hp.block hs hnc hg hn h fun e S' a' w' ι' ro' h1 h2 h3 h4=>?_);cases e with
  | goto l=>exact hk (.goto l) S' a' w' ι' ro' h1 h2 h3 h4
  | normal=>exact hk .normal S' a' w' ι' ro' h1 h2 h3 h4
  | ret=>exact hk .ret S' a' w' ι' ro' h1 h2 h3 h4
  | exit i =>
   simp only[dN.toExit,Exit.inBlock,Iq]at h4 ⊢;cases hb:Nat.beq i id with
   | true =>rw[hb]at h4;rw[if_pos (aaF hb)];exact hk .normal S' a' w' ι' ro' h1 h2 h3 h4
   | false =>rw[hb]at h4;rw[if_neg (fun e=>by subst e;simp at hb)];exact hk (.exit i) S' a' w' ι' ro' h1 h2 h3 h4
 | loop body ih =>intro i S k Q a w ι ro hp _ hnc hg hn hh hk;obtain⟨ι',h1,h2,h3⟩:=zI h i (hG i _ hh).1 hnc hg hn;exact((hG i _ hh).2.1 body Q hp.head a w ι' ro h1 h2 h3).wp
 | label l=>intro i S k Q a w ι ro _ _ hnc hg hn h hk;exact wp_label (hk .normal S a w ι ro hnc hg hn h)
 | goto l=>intro i S k Q a w ι ro _ _ hnc hg hn h hk;exact wp_goto (hk (.goto l) S a w ι ro hnc hg hn h)
 | scope c ih =>
  intro i S k Q a w ι ro hp hs hnc hg hn hh hk;simp only[mP]at hh;split at hh
  ·rename_i hng;refine wp_scope_straight (ih i S (afV k) (Exit.noGoto Q) a w ι ro (hp.scope hng) (fun e=>by rw[tQ c hng]at e;cases e) hnc hg hn hh fun e S' a' w' ι' ro' h1 h2 h3 h4=>?_);cases e with
   | normal=>exact hk .normal S' a' w' ι' ro' h1 h2 h3 h4
   | exit id=>exact hk (.exit id) S' a' w' ι' ro' h1 h2 h3 h4
   | ret=>exact hk .ret S' a' w' ι' ro' h1 h2 h3 h4
   | goto l=>cases h4
  rename_i hng;have hs1:eZ (.scope c)=true:=by simp only[eZ,hng,aec]
  split at hh
  ·rename_i hns hz;refine adL (ih i S _ _ a w ι ro (Placed.al9 hz) (fun e=>by rw[hns]at e;cases e) hnc hg hn hh fun e S' a' w' ι' ro' h1 h2 h3 h4=>?_);cases e with
   | normal=>exact hk .normal S' a' w' ι' ro' h1 h2 h3 h4
   | exit id=>exact hk (.exit id) S' a' w' ι' ro' h1 h2 h3 h4
   | ret=>exact hk .ret S' a' w' ι' ro' h1 h2 h3 h4
   | goto l =>
    simp only[ZR]at h4;split at h4
    ·rename_i rest hf;obtain⟨ι2,g1,g2,g3⟩:=zI h (100+l) (hG _ _ h4).1 h1 h2 h3;exact⟨rest,hf,Kv.of ((hG _ _ h4).2.2 l rfl c Q rest (hs hs1).symm hf a' w' ι2 ro' g1 g2 g3)⟩
    ·cases h4
  ·cases hh
 | _=>intro i S k Q a w ι ro _ _ hnc hg hn h hk;cases h
theorem aoL{R:Type}(hO:aK E O)(dM:P.follows .mixedOrders=true){G:Nat->au E->Option R}{rr:R}(hG:∀i S,G i S=some rr->ZW h.own w0/\Tj E w0 aP n c0 Q0 i S) :
  ∀(c:Code) (i j:Nat) (k:dN->au E->Option R) (Q:Exit->Act->World->Prop) (i':Nat) (b:Code) (k':dN->au E->Option R),Placed P c0 Q0 i c Q->eZ c=false->I8 O h G i c j k=some (i',b,k') ->
  (∀e S' a' w' ι' ro',aR S'.tmps->bO E w0 aP S' a' w' ι' ro'->S'.n=n->k e S'=some rr->Q e.toExit a' w') ->
  i'=i+j/\eZ b=false/\∃Q',Placed P c0 Q0 i' (.loop b) Q'/\∀e S' a' w' ι' ro',aR S'.tmps->bO E w0 aP S' a' w' ι' ro'->S'.n=n->k' e S'=some rr->Q' e.toExit a' w':=by
 intro c
 induction c with
 | seq x y Ob ihy =>
  intro i j k Q i' b k' hp hns hc hk;simp only[I8]at hc;split at hc
  ·rename_i hj;refine Ob i j _ _ i' b k' hp.seq.1 (Bool.or_eq_false_iff.1 hns).1 hc fun e S' a' w' ι' ro' h1 h2 h3 h4=>?_
   cases e with
   | normal=>exact rF hO dM hG y _ S' k Q a' w' ι' ro' hp.seq.2 (fun e=>by rw[(Bool.or_eq_false_iff.1 hns).2]at e;cases e) h1 h2 h3 h4 hk
   | goto l=>exact hk (.goto l) S' a' w' ι' ro' h1 h2 h3 h4
   | exit id=>exact hk (.exit id) S' a' w' ι' ro' h1 h2 h3 h4
   | ret=>exact hk .ret S' a' w' ι' ro' h1 h2 h3 h4
  ·rename_i hj;have hle:bR x<=j:=by
    rcases aiX j (bR x)with h | h
    ·rw[Qd h]at hj;cases hj
    ·exact h
   obtain⟨e1,rest⟩:=ihy _ _ k Q i' b k' hp.seq.2 (Bool.or_eq_false_iff.1 hns).2 hc hk;exact⟨by omega,rest⟩
 | cond c x y Ob ihy =>
  intro i j k Q i' b k' hp hns hc hk;simp only[I8]at hc;split at hc
  ·exact Ob i j k Q i' b k' hp.cond.1 (Bool.or_eq_false_iff.1 hns).1 hc hk
  ·rename_i hj;have hle:bR x<=j:=by
    rcases aiX j (bR x)with h | h
    ·rw[Qd h]at hj;cases hj
    ·exact h
   obtain⟨e1,rest⟩:=ihy _ _ k Q i' b k' hp.cond.2 (Bool.or_eq_false_iff.1 hns).2 hc hk;exact⟨by omega,rest⟩
 | scope c ih =>
  intro i j k Q i' b k' hp hns hc hk;simp only[I8]at hc;split at hc
  ·rename_i hng;refine ih i j (afV k) (Exit.noGoto Q) i' b k' (hp.scope hng) (tQ c hng) hc fun e S' a' w' ι' ro' h1 h2 h3 h4=>?_
   cases e with
   | normal=>exact hk .normal S' a' w' ι' ro' h1 h2 h3 h4
   | exit id=>exact hk (.exit id) S' a' w' ι' ro' h1 h2 h3 h4
   | ret=>exact hk .ret S' a' w' ι' ro' h1 h2 h3 h4
   | goto l=>cases h4
  ·cases hc
 | block id body ih =>
  intro i j k Q i' b k' hp hns hc hk;refine ih i j _ _ i' b k' hp.block hns hc fun e S' a' w' ι' ro' h1 h2 h3 h4=>?_
  cases e with
  | goto l=>exact hk (.goto l) S' a' w' ι' ro' h1 h2 h3 h4
  | normal=>exact hk .normal S' a' w' ι' ro' h1 h2 h3 h4
  | ret=>exact hk .ret S' a' w' ι' ro' h1 h2 h3 h4
  | exit i =>
   simp only[dN.toExit,Exit.inBlock,Iq]at h4 ⊢;cases hb:Nat.beq i id with
   | true =>rw[hb]at h4;rw[if_pos (aaF hb)];exact hk .normal S' a' w' ι' ro' h1 h2 h3 h4
   | false =>rw[hb]at h4;rw[if_neg (fun e=>by subst e;simp at hb)];exact hk (.exit i) S' a' w' ι' ro' h1 h2 h3 h4
 | loop body ih =>
  intro i j k Q i' b k' hp hns hc hk;cases j with
  | zero =>cases hc;exact⟨rfl,hns,Q,hp,hk⟩
  | succ j =>
   obtain⟨e1,rest⟩:=ih (i+1) j _ _ i' b k' hp.inner hns hc fun e S' a' w' ι' ro' h1 h2 h3 h4=>(by
    cases e with
    | normal =>obtain⟨ι2,g1,g2,g3⟩:=zI h i (hG i _ h4).1 h1 h2 h3;exact(hG i _ h4).2.1 body Q hp.head a' w' ι2 ro' g1 g2 g3
    | exit id=>exact hk (.exit id) S' a' w' ι' ro' h1 h2 h3 h4
    | goto l=>exact hk (.goto l) S' a' w' ι' ro' h1 h2 h3 h4
    | ret=>exact hk .ret S' a' w' ι' ro' h1 h2 h3 h4)
   exact⟨by omega,rest⟩
 | _=>intro i j k Q i' b k' hp hns hc hk;cases hc
theorem aoM{R:Type}(hO:aK E O)(dM:P.follows .mixedOrders=true){G:Nat->au E->Option R}{rr:R}(hG:∀i S,G i S=some rr->ZW h.own w0/\Tj E w0 aP n c0 Q0 i S) :
  ∀(c:Code) (i:Nat) (k:dN->au E->Option R) (Q:Exit->Act->World->Prop) (sc:Code) (k':dN->au E->Option R),Placed P c0 Q0 i c Q->abQ O h G i c k=some (sc,k') ->
  (∀e S' a' w' ι' ro',aR S'.tmps->bO E w0 aP S' a' w' ι' ro'->S'.n=n->k e S'=some rr->Q e.toExit a' w') ->
  ∃Q',oD P c Q=some (sc,Q')/\∀e S' a' w' ι' ro',aR S'.tmps->bO E w0 aP S' a' w' ι' ro'->S'.n=n->k' e S'=some rr->Q' e.toExit a' w':=by
 intro c
 induction c with
 | scope c ih =>intro i k Q sc k' hp hc hk;cases hc;exact⟨Q,rfl,hk⟩
 | seq x y Ob ihy =>
  intro i k Q sc k' hp hc hk;simp only[abQ]at hc;split at hc
  ·rename_i hx hy;simp only[oD,hx];refine Ob i _ _ sc k' hp.seq.1 hc fun e S' a' w' ι' ro' h1 h2 h3 h4=>?_
   cases e with
   | normal=>exact rF hO dM hG y _ S' k Q a' w' ι' ro' hp.seq.2 (fun e=>by rw[hy]at e;cases e) h1 h2 h3 h4 hk
   | exit id=>exact hk (.exit id) S' a' w' ι' ro' h1 h2 h3 h4
   | goto l=>exact hk (.goto l) S' a' w' ι' ro' h1 h2 h3 h4
   | ret=>exact hk .ret S' a' w' ι' ro' h1 h2 h3 h4
  ·rename_i hx hy;simp only[oD,hx];exact ihy _ k Q sc k' hp.seq.2 hc hk
  ·cases hc
 | block id body ih =>
  intro i k Q sc k' hp hc hk;refine ih i _ _ sc k' hp.block hc fun e S' a' w' ι' ro' h1 h2 h3 h4=>?_
  cases e with
  | normal=>exact hk .normal S' a' w' ι' ro' h1 h2 h3 h4
  | goto l=>exact hk (.goto l) S' a' w' ι' ro' h1 h2 h3 h4
  | ret=>exact hk .ret S' a' w' ι' ro' h1 h2 h3 h4
  | exit i =>
   simp only[dN.toExit,Exit.inBlock,Iq]at h4 ⊢;cases hb:Nat.beq i id with
   | true =>rw[hb]at h4;rw[if_pos (aaF hb)];exact hk .normal S' a' w' ι' ro' h1 h2 h3 h4
   | false =>rw[hb]at h4;rw[if_neg (fun e=>by subst e;simp at hb)];exact hk (.exit i) S' a' w' ι' ro' h1 h2 h3 h4
 | _=>intro i k Q sc k' hp hc hk;cases hc
theorem Qe{R:Type}(hO:aK E O)(dM:P.follows .mixedOrders=true){G:Nat->au E->Option R}{rr:R}(hG:∀i S,G i S=some rr->ZW h.own w0/\Tj E w0 aP n c0 Q0 i S){j:Nat}{S:au E}{k:dN->au E->Option R}
  (hk:∀e S' a' w' ι' ro',aR S'.tmps->bO E w0 aP S' a' w' ι' ro'->S'.n=n->k e S'=some rr->Q0 e.toExit a' w') (hs:ahd O h G c0 j S k=some rr):Tj E w0 aP n c0 Q0 j S:=by
 unfold ahd at hs;split at hs
 ·rename_i hj;have hj:=ani hj;split at hs
  ·rename_i hn;have hnl:=ani hn;refine⟨fun b Q hc=>?_,fun l hl sc Q rest hsc hf a w ι ro hnc hg hn=>?_⟩
   ·rw[yJ c0 j Q0 (by omega)]at hc;cases hc
   ·unfold azZ at hs;split at hs
    ·rename_i sc2 k2 hc;obtain⟨Q2,q1,q2⟩:=aoM hO dM hG c0 0 k Q0 sc2 k2 Placed.whole hc hk;rw[hsc]at q1;cases q1;subst hl;rw[Nat.add_sub_cancel_left,hf]at hs;simp only at hs;split at hs
     ·rename_i hns hz;refine rF hO dM hG rest 0 S _ _ a w ι ro (Placed.al9 hz) (fun e=>by rw[hns]at e;cases e) hnc hg hn hs fun e S' a' w' ι' ro' h1 h2 h3 h4=>?_
      cases e with
      | normal=>exact q2 .normal S' a' w' ι' ro' h1 h2 h3 h4
      | exit id=>exact q2 (.exit id) S' a' w' ι' ro' h1 h2 h3 h4
      | ret=>exact q2 .ret S' a' w' ι' ro' h1 h2 h3 h4
      | goto l =>
       simp only[ZR]at h4;split at h4
       ·rename_i awm hf2;obtain⟨ι2,g1,g2,g3⟩:=zI h (100+l) (hG _ _ h4).1 h1 h2 h3;exact⟨awm,hf2,Kv.of ((hG _ _ h4).2.2 l rfl sc Q awm hsc hf2 a' w' ι2 ro' g1 g2 g3)⟩
       ·cases h4
     ·cases hs
    ·cases hs
  ·cases hs
 rename_i hj;split at hs
 ·cases hs
 rename_i hns;split at hs
 ·rename_i i b k' hc;refine⟨?_,fun l hl=>absurd (Nat.ble_eq_true_of_le (show 100<=j by omega)) (by rw[hj];decide)⟩;obtain⟨e1,hnb,Q',hp,hk'⟩:=aoL hO dM hG c0 0 j k Q0 i b k' Placed.whole hns hc hk;rw[aeC]at e1;subst e1;intro b2 Q2 hc2 a w ι ro hnc hg hn;rw[hp.head]at hc2;cases hc2;refine tT.round (rF hO dM hG b (i+1) S _ _ a w ι ro hp.inner (fun e=>by rw[hnb]at e;cases e) hnc hg hn hs fun e S' a' w' ι' ro' h1 h2 h3 h4=>?_);cases e with
  | normal =>obtain⟨ι2,g1,g2,g3⟩:=zI h i (hG i _ h4).1 h1 h2 h3;exact(hG i _ h4).2.1 b Q' hp.head a' w' ι2 ro' g1 g2 g3
  | exit id=>exact hk' (.exit id) S' a' w' ι' ro' h1 h2 h3 h4
  | goto l=>exact hk' (.goto l) S' a' w' ι' ro' h1 h2 h3 h4
  | ret=>exact hk' .ret S' a' w' ι' ro' h1 h2 h3 h4
 ·cases hs
theorem Qf:∀{args:List (TV E)} {i t:Nat} {x:AV E},look (Qc args i) t=some x->i<=t/\∃y,args[t-i]? = some y/\x=gV y.1 y.2
 | [],_,_,_,h=>by cases h
 | ⟨ty,y⟩::r,i,t,x,h=>by
  simp only[Qc,aX]at h;split at h
  ·rename_i hb;have:=aaF hb;subst this;cases h;exact⟨abn _,⟨ty,y⟩,by simp,rfl⟩
  ·rename_i hb;obtain⟨h1,z,h2,h3⟩:=Qf h;grind
theorem vJ{t:E.Ty}{x:E.Den t}:dU (gV t x)=false:=by
 unfold gV;split
 ·rfl
 ·split<;>rfl
theorem Kw:∀(args:List (TV E)) (i:Nat),aR (Qc args i)
 | [],_=>fun p h=>by cases h
 | ⟨t,x⟩::r,i=>fun p h=>by
  cases h with
  | head=>exact vJ
  | tail _ h=>exact Kw r (i+1) p h
def Ya(tmps:Array Value):ResultVar->Sem Value
 | .tmp t=>pure (tmps.getD t undef)
 | .cell q ty=>do loadVar ty (<- asAddr (tmps.getD q undef))
theorem Yb{S:au E}{a:Act}{w:World}{ι:Nat->Option Gh}{ro:Nat->Nat->Prop}(hg:bO E w0 aP S a w ι ro){r:ResultVar}{x:AV E}(h:abS S r=some x) :
  ∃v,(Ya a.tmps r).run P w = .ok v w/\aO E w ro ι v x:=by
 have aoy:VE a []:=fun j b hb=>by simp[tN]at hb
 cases r with
 | tmp t =>cases h;exact⟨_,rfl,xk (E:=E) hg.tmps aoy (.tmp t)⟩
 | cell q ty =>
  have hv:=xk (E:=E) hg.tmps aoy (.tmp q);change aO E w ro ι (a.tmps.getD q undef) (Zn [] (look S.tmps q))at hv;generalize hu:a.tmps.getD q undef=u at hv;obtain⟨val,hrun,hr⟩:=Rn (S:=S) hg.objs hv h;refine⟨val,?_,hr⟩;show(do loadVar ty (<- asAddr (a.tmps.getD q undef)):Sem Value).run P w=_;rw[hu];simp only[Instr.loadAt,Sem.run_bind]at hrun ⊢;cases u with
  | pointer p =>
   cases p with
   | some ad=>simpa[Instr.sureAddr,asAddr]using hrun
   | none=>simp[Instr.sureAddr,stuck,Result.andThen]at hrun
  | _=>simp[Instr.sureAddr,stuck,Result.andThen]at hrun
theorem Yc{S:au E}{a:Act}{w:World}{ι:Nat->Option Gh}{ro:Nat->Nat->Prop}(hg:bO E w0 aP S a w ι ro):∀{rs:List ResultVar} {Ts:List TypeId} {xs:List (TV E)},abT S rs Ts=some xs ->
  ∃vs:List Value,(rs.mapM (Ya a.tmps)).run P w=Result.ok vs w/\fQ E w ro vs xs
 | [],[],xs,h=>by cases h;exact⟨[],by simp,trivial⟩
 | r::rs,T::Ts,xs,h=>by
  unfold abT at h;split at h
  ·rename_i t ht;split at h
   ·rename_i v hv;split at h
    ·rename_i x hx;split at h
     ·rename_i ys hys;cases h;obtain⟨u,hu,hr⟩:=Yb hg hv;obtain⟨us,WJ,hrs⟩:=Yc hg hys;exact⟨u::us,by rw[List.mapM_cons];simp only[Sem.run_bind,hu,Result.andThen_ok,WJ,Sem.run_pure],zD hr hx,hrs⟩
     ·cases h
    ·cases h
   ·cases h
  ·cases h
 | [],_::_,_,h=>by cases h
 | _::_,[],_,h=>by cases h
theorem abU{w w':World}(h:w.grownBy w' none):Below w.heap.size w w':=⟨h.os,h.tape,h.output,h.size,fun k hk=>h.block k hk (fun e=>by cases e)⟩
def afX(E:Env P)(fn:Func)(res:List (TV E))(w:World)(ro:Nat->Nat->Prop):Exit->Act->World->Prop :=
 bodyPost P fn fun e w'=>∃v,e = .returned v/\Below w.heap.size w w'/\pQ E w' (fun k o=>ro k o\/(w.heap.size<=k/\k<w'.heap.size)) v res
theorem EN{fn:Func}{res:List (TV E)}{w:World}{ro:Nat->Nat->Prop}{e:dN}{S':au E}{a':Act}{w':World}{ι':Nat->Option Gh}{ro':Nat->Nat->Prop}(hnc':aR S'.tmps)(hg':bO E ⟨w,none,none,[],fun _=>none⟩ ro S' a' w' ι' ro')(hk:Ku fn e S'=some res) :
  afX E fn res w ro e.toExit a' w':=by
 obtain⟨_,hg'⟩:=CX hnc' hg';generalize P9 S'.objs ι' ro'=ro' at hg';have fin:abT (yI S') fn.results.toList fn.resultTypes.toList=some res->a'.defers=[]/\∃v,(results fn a'.tmps).run P w' = .ok v w' /\
   (∃v',Ending.returned v = .returned v'/\Below w.heap.size w w'/\pQ E w' (fun k o=>ro k o\/(w.heap.size<=k/\k<w'.heap.size)) v' res):=by
  intro hres;obtain⟨vs,hvs,hrep⟩:=Yc hg' hres;have hmono:fQ E w' (fun k o=>ro k o\/(w.heap.size<=k/\k<w'.heap.size)) vs res:=by
   have hmm:∀(vs:List Value) (rs:List (TV E)),fQ E w' ro' vs rs->fQ E w' (fun k o=>ro k o\/(w.heap.size<=k/\k<w'.heap.size)) vs rs:=by
    intro vs
    induction vs with
    | nil=>intro rs h;cases rs<;>exact h
    | cons v vs ih =>
     intro rs h;cases rs with
     | nil=>exact h
     | cons r rs =>
      exact⟨h.1.mono (fun k o hk=>by
       rcases hg'.base.qN k o hk with h | h
       ·exact .inl h
       ·rcases h with h | h
        ·exact .inr ⟨h,hg'.base.aT k o hk⟩
        ·cases h) (fun _ _ _=>rfl),ih rs h.2⟩
   exact hmm vs res hrep
  have hl:=(fQ.at_ vs res hrep).1;refine⟨hg'.base.defers,if h:vs.length=1 then vs[0]else .tuple vs.toArray,?_,_,rfl,abU hg'.base.below,?_⟩
  ·show(do let vs <- fn.results.mapM (Ya a'.tmps);pure (if h:vs.size=1 then vs[0]else .tuple vs):Sem Value).run P w'=_;rw[Array.mapM_eq_mapM_toList];simp only[Sem.run_bind,Sem.run_map,hvs];simp[Result.andThen]
  ·unfold pQ;split
   ·rename_i t x
    match vs,hl,hmono with
    | [v],_,hm=>exact hm.1
   ·rename_i hne;by_cases h1:vs.length=1
    ·exfalso
     match res,hl.symm.trans h1,hne with
     | [⟨t,x⟩],_,hne=>exact hne t x rfl
    ·rw[dif_neg h1];exact⟨vs,rfl,hmono⟩
 cases e with
 | normal=>exact fin hk
 | ret=>exact fin hk
 | exit id=>cases hk
 | goto l=>cases hk
def Ev(E:Env P)(fn:Func)(res:List (TV E))(i:Nat)(S:au E):Prop :=
 ∀(w0:World) aP n c,fn.body=some c->Tj E ⟨w0,none,none,[],fun _=>none⟩ aP n c (afX E fn res w0 aP) i S
open Classical in
def Gr(E:Env P)(fn:Func)(res:List (TV E))(i:Nat)(S:au E):Option (List (TV E)):=if Ev E fn res i S then some res else none
theorem gG{fn:Func}{res:List (TV E)}{i:Nat}{S:au E}(h:Ev E fn res i S):Gr E fn res i S=some res:=if_pos h
theorem aoN{fn:Func}{res r:List (TV E)}{i:Nat}{S:au E}(h:Gr E fn res i S=some r):Ev E fn res i S:=by
 unfold Gr at h;split at h
 ·assumption
 ·cases h
theorem Ev.step(hO:aK E O)(dM:P.follows .mixedOrders=true){fn:Func}{res:List (TV E)}{j:Nat}{S:au E}(hs:uG O h (Gr E fn res) fn j S=some res):Ev E fn res j S:=by intro w0 aP n c hc;unfold uG at hs;rw[hc]at hs;exact Qe hO dM (fun i S hi=>⟨.none rfl,aoN hi w0 aP n c hc⟩) (fun e S' a' w' ι' ro' h1 h2 _ h4=>EN h1 h2 h4) hs
theorem Qg(hO:aK E O)(dM:P.follows .mixedOrders=true){f:FuncId}{fn:Func}(hf:P.funcs[f]? = some fn){args res:List (TV E)}(hr:jR O h (Gr E fn res) fn args=some res):DW E f args res:=by
 unfold jR at hr;split at hr
 ·rename_i c hc;intro w ro vals hargs kH;obtain⟨hlen,hat⟩:=fQ.at_ vals args hargs;refine calls_of_wp hf hc ?_;have hg:bO E ⟨w,none,none,[],fun _=>none⟩ ro (Ti fn args) { tmps:=vals.toArray++Array.replicate (fn.ntmps-vals.toArray.size) undef,defers:=[] } w (fun _=>none) ro:={
   base:=⟨⟨rfl,rfl,rfl,abn _,fun _ _ _=>rfl⟩,kH,fun k o h=>.inl h,(fun id gh k h=>by cases h),rfl,(fun q h=>by cases h),(fun k o h=>by cases h)⟩
   size:=by simp[Ti,hlen]
   tmps:=fun t x hl=>by
    obtain⟨_,y,hy,rfl⟩:=Qf hl;rw[amg]at hy;have hlt:t<vals.length:=by rw[hlen];exact(List.getElem?_eq_some_iff.1 hy).1
    have hv:=aaz hlt;refine⟨vals[t],by simp[anq,hlt],?_⟩;have hr:aO E w ro (fun _=>none) vals[t] (gV y.1 y.2):=qR (hat t _ y hv hy);have hc:=vJ (E:=E) (t:=y.1) (x:=y.2);generalize gV y.1 y.2=z at hr hc;cases z<;>first | exact hr | cases hc
   objs:=fun id o hl=>by cases hl
   inj:=fun id id' o o' gh bq k hl=>by cases hl
   fresh:=fun _ _=>rfl
   ids:=fun id o hl=>by cases hl }
  exact rF (n:=(Ti fn args).n) (Q0:=afX E fn res w ro) (c0:=c) hO dM (fun i S hi=>⟨.none rfl,aoN hi w ro _ c hc⟩) c 0 (Ti fn args) (Ku fn) _ _ w _ ro Placed.whole (fun _=>rfl) (Kw args 0) hg rfl hr
   fun e S' a' w' ι' ro' h1 h2 _ h4=>EN h1 h2 h4
 ·cases hr
end
end
end Go.Proofs.YtclnniijooeajaaGreatDoor.bg
namespace Go.Proofs.YtclnniijooeajaaGreatDoor.bg
open Go Go.RowKit
section
theorem axO{P:Program}{T a b c:Nat}(h:(P.info? T).map (fun i=>(i.size,i.bytes,i.zero.map fun z=>z.cells.size))=some (a,b,some c))(hc:c=a) :
  ∃i z,P.info? T=some i/\i.size=a/\i.bytes=b/\i.zero=some z/\z.cells.size=a:=by
 subst hc;cases hi:P.info? T with
 | none=>rw[hi]at h;cases h
 | some i =>
  rw[hi]at h;simp only[aji,Option.some.injEq,Prod.mk.injEq]at h;obtain⟨h1,h2,h3⟩:=h;cases hz:i.zero with
  | none=>rw[hz]at h3;cases h3
  | some z =>rw[hz]at h3;exact⟨i,z,rfl,h1,h2,hz,by simpa using h3⟩
section
variable {Ty:Type} {Den:Ty->Type}
def qE(k:IntKind):bC Den->Option Int
 | .int k' n=>if k=k' then some n else none
 | _=>none
def dBl:bC Den->Option Bool
 | .bool b=>some b
 | _=>none
def uH:bC Den->Option (aqO)
 | .str s=>some s
 | _=>none
def Oc(dec:DecidableEq Ty)(t:Ty):bC Den->Option (List (Den t))
 | .slice t' l=>match dec t' t with
  | .isTrue h=>some (h▸l)
  | .isFalse _=>none
 | .raw (.slice none 0 0)=>some []
 | _=>none
def dFn:bC Den->Option Nat
 | .raw (.func (.func f) ⟨[]⟩ ⟨[]⟩)=>some f
 | _=>none
theorem ZX{c:bC Den}{n:Nat}(h:dFn c=some n):Zm c (.raw (.func (.func n) #[] #[])):=by
 unfold dFn at h;split at h
 ·cases h;exact .inl rfl
 ·cases h
theorem jk{k:IntKind}{c:bC Den}{n:Int}(h:qE k c=some n):Zm c (.int k n):=by
 unfold qE at h;split at h
 ·split at h
  ·rename_i e;subst e;cases h;exact .inl rfl
  ·cases h
 ·cases h
theorem ZY{c:bC Den}{n:Bool}(h:dBl c=some n):Zm c (.bool n):=by
 unfold dBl at h;split at h
 ·cases h;exact .inl rfl
 ·cases h
theorem kI{c:bC Den}{n:aqO}(h:uH c=some n):Zm c (.str n):=by
 unfold uH at h;split at h
 ·cases h;exact .inl rfl
 ·cases h
theorem zJ{dec:DecidableEq Ty}{t:Ty}{c:bC Den}{l:List (Den t)}(h:Oc dec t c=some l):Zm c (.slice t l):=by
 unfold Oc at h;split at h
 ·split at h
  ·rename_i e _;subst e;cases h;exact .inl rfl
  ·cases h
 ·cases h;exact .inr ⟨rfl,t,rfl⟩
 ·cases h
end
section
variable {P:Program} {E:Env P}
abbrev jC(E:Env P):=List (TV E)->Option (Bool×List (TV E))
abbrev WT(E:Env P):=List (TV E)->Option (Bool×((t:E.Ty)×List (E.Den t)))
abbrev WU(E:Env P):=(t:E.Ty)->List (E.Den t)->List (TV E)->Option (Bool×Bool×List (E.Den t))
def aoO(a:E.Ty)(back:Bool)(ok:List (E.Den a)->Bool)(F:List (E.Den a)->List (E.Den a)):WU E:=fun t l rest=>match GR t a l,rest with
 | some x,[]=>(match GR a t (F x)with
  | some y=>some (ok x,back,y)
  | none=>none)
 | _,_=>none
theorem ahh{a:E.Ty}{F:List (E.Den a)->List (E.Den a)}{ok:List (E.Den a)->Bool}{bk back:Bool}{t:E.Ty}{l l':List (E.Den t)}{rest:List (TV E)}(h:aoO a bk ok F t l rest=some (true,back,l')) :
  ∃x:List (E.Den a),(⟨t,l⟩:(t:E.Ty)×List (E.Den t))=⟨a,x⟩/\rest=[]/\bk=back/\ok x=true/\(⟨t,l'⟩:(t:E.Ty)×List (E.Den t))=⟨a,F x⟩:=by
 unfold aoO at h;split at h
 ·rename_i x hx;unfold GR at hx;split at hx
  ·rename_i e _;subst e;cases hx;split at h
   ·rename_i y hy;unfold GR at hy;split at hy
    ·cases hy;simp only[Option.some.injEq,Prod.mk.injEq]at h;obtain⟨h1,h2,h3⟩:=h;exact⟨_,rfl,rfl,h2,h1,by rw[<- h3]⟩
    ·cases hy
   ·cases h
  ·cases hx
 ·cases h
def jX(l:List (FuncId×jC E))(m:List (FuncId×WT E):=[])(u:List (FuncId×WU E):=[])(gr:List (FuncId×E.Ty):=[]):aI E where
 call:=fun f args=>match look l f with
  | some F=>F args
  | none=>none
 J9:=fun f=>match look m f with
  | some _=>true
  | none=>false
 fresh:=fun f args=>match look m f with
  | some F=>F args
  | none=>none
 awc:=fun f=>match look u f with
  | some _=>true
  | none=>false
 grow:=fun f=>look gr f
 an5:=fun f t l xs=>match look u f with
  | some F=>F t l xs
  | none=>none
 inl:=.nil
def Od(E:Env P)(f:FuncId)(F:WT E):Prop :=
 (∃fn,P.funcs[f]? = some fn/\(fn.name == "runtime.NumGoroutine")=false/\fn.body.isNone=false)/\∀args t l,F args=some (true,⟨t,l⟩)->ZF E f args t l
def afY(E:Env P)(f:FuncId)(F:WU E):Prop :=
 (∃fn,P.funcs[f]? = some fn/\(fn.name == "runtime.NumGoroutine")=false/\fn.body.isNone=false)/\∀t l xs back l',F t l xs=some (true,back,l')->agJ E f t l xs back l'
def ahi(E:Env P)(f:FuncId)(t:E.Ty):Prop :=
 (∃fn,P.funcs[f]? = some fn/\(fn.name == "runtime.NumGoroutine")=false/\fn.body.isNone=false)/\adt E f t
def Gf(l:List (FuncId×E.Ty)):Prop:=∀p∈l,ahi E p.1 p.2
theorem Gf.nil:Gf (E:=E) []:=fun p h=>by cases h
theorem Gf.cons{f:FuncId}{t:E.Ty}{l:List (FuncId×E.Ty)}(h:ahi E f t)(hl:Gf l):Gf ((f,t)::l):=fun p hp=>by
 cases hp with
 | head=>exact h
 | tail _ hp=>exact hl p hp
def KA(l:List (FuncId×WU E)):Prop:=∀p∈l,afY E p.1 p.2
def Qh(l:List (FuncId×jC E)):Prop:=∀p∈l,bG E p.1 p.2
def Dt(l:List (FuncId×WT E)):Prop:=∀p∈l,Od E p.1 p.2
theorem gq{l:List (FuncId×jC E)}{m:List (FuncId×WT E)}{u:List (FuncId×WU E)}{gr:List (FuncId×E.Ty)}(h:Qh l)(hm:Dt m)(hu:KA u)(hg:Gf gr):aK E (jX l m u gr):=by
 refine⟨fun f args res hr=>?_,fun f args t x hr=>?_,fun f t x rest back x' hr=>?_,fun f t hr=>hg _ (jQ _ _ _ hr),(fun f args objs next k rr h=>by cases h),(fun f T h=>by cases h),(fun f args x h=>by cases h),(fun f t x args y res h=>by cases h),(fun f p xs res h=>by cases h)⟩
 ·simp only[jX]at hr;split at hr
  ·rename_i F hF;have:=h _ (jQ _ _ _ hF);exact⟨this.1,this.2 args res hr⟩
  ·cases hr
 ·simp only[jX]at hr;split at hr
  ·rename_i F hF;have:=hm _ (jQ _ _ _ hF);exact⟨this.1,this.2 args t x hr⟩
  ·cases hr
 ·simp only[jX]at hr;split at hr
  ·rename_i F hF;have:=hu _ (jQ _ _ _ hF);exact⟨this.1,this.2 t x rest back x' hr⟩
  ·cases hr
theorem Qh.nil:Qh (E:=E) []:=fun p h=>by cases h
theorem Dt.nil:Dt (E:=E) []:=fun p h=>by cases h
theorem Qh.cons{f:FuncId}{F:jC E}{l:List (FuncId×jC E)}(h:bG E f F)(hl:Qh l):Qh ((f,F)::l):=fun p hp=>by
 cases hp with
 | head=>exact h
 | tail _ hp=>exact hl p hp
theorem KA.nil:KA (E:=E) []:=fun p h=>by cases h
theorem KA.cons{f:FuncId}{F:WU E}{l:List (FuncId×WU E)}(h:afY E f F)(hl:KA l):KA ((f,F)::l):=fun p hp=>by
 cases hp with
 | head=>exact h
 | tail _ hp=>exact hl p hp
theorem Dt.cons{f:FuncId}{F:WT E}{l:List (FuncId×WT E)}(h:Od E f F)(hl:Dt l):Dt ((f,F)::l):=fun p hp=>by
 cases hp with
 | head=>exact h
 | tail _ hp=>exact hl p hp
def kJ(t:E.Ty)(v:TV E):Option (E.Den t):=L8 v.1 t v.2
theorem iC{t:E.Ty}{v:TV E}{x:E.Den t}(h:kJ t v=some x):v=⟨t,x⟩:=by
 unfold kJ L8 at h;cases hd:E.dec v.1 t with
 | isFalse hn=>rw[hd]at h;cases h
 | isTrue he =>rw[hd]at h;obtain⟨t',y⟩:=v;simp only at he;subst he;cases h;rfl
def EO(a t:E.Ty)(ok:E.Den a->Bool)(F:E.Den a->E.Den t):jC E
 | [x]=>match kJ a x with
  | some x=>some (ok x,[⟨t,F x⟩])
  | none=>none
 | _=>none
def Ir(a b t:E.Ty)(ok:E.Den a->E.Den b->Bool)(F:E.Den a->E.Den b->E.Den t):jC E
 | [x,y]=>match kJ a x with
  | some x=>match kJ b y with
   | some y=>some (ok x y,[⟨t,F x y⟩])
   | none=>none
  | none=>none
 | _=>none
def aoP(a b t u:E.Ty)(ok:E.Den a->E.Den b->Bool)(F:E.Den a->E.Den b->E.Den t)(G:E.Den a->E.Den b->E.Den u):jC E
 | [x,y]=>match kJ a x with
  | some x=>match kJ b y with
   | some y=>some (ok x y,[⟨t,F x y⟩,⟨u,G x y⟩])
   | none=>none
  | none=>none
 | _=>none
def fn3(a b c t:E.Ty)(ok:E.Den a->E.Den b->E.Den c->Bool)(F:E.Den a->E.Den b->E.Den c->E.Den t):jC E
 | [x,y,z]=>match kJ a x with
  | some x=>match kJ b y with
   | some y=>match kJ c z with
    | some z=>some (ok x y z,[⟨t,F x y z⟩])
    | none=>none
   | none=>none
  | none=>none
 | _=>none
end
section
variable {P:Program} {E:Env P} {O:aI E} {masks:Hint E} {f:FuncId} {fn:Func}
theorem Oe (hO:aK E O) (dM:P.follows .mixedOrders=true) (hf:P.funcs[f]? = some fn) (hn:(fn.name == "runtime.NumGoroutine")=false) (hb:fn.body.isNone=false) {F:jC E}
  (h:∀args res,F args=some (true,res)->jR O masks (Gr E fn res) fn args=some res):bG E f F :=
 ⟨⟨fn,hf,hn,hb⟩,fun args res hr=>Qg hO dM hf (h args res hr)⟩
theorem zK {a t:E.Ty} {ok:E.Den a->Bool} {F:E.Den a->E.Den t} (hO:aK E O) (dM:P.follows .mixedOrders=true) (hf:P.funcs[f]? = some fn) (hn:(fn.name == "runtime.NumGoroutine")=false) (hb:fn.body.isNone=false)
  (h:∀x,ok x=true->jR O masks (Gr E fn [⟨t,F x⟩]) fn [⟨a,x⟩]=some [⟨t,F x⟩]):bG E f (EO a t ok F):=by
 refine Oe (masks:=masks) hO dM hf hn hb fun args res hr=>?_
 unfold EO at hr;split at hr
 ·split at hr
  ·rename_i x hx;injection hr with hr
   injection hr with h1 h2
   subst h2;rw[iC hx];exact h _ h1
  ·cases hr
 ·cases hr
theorem Iu {a b t:E.Ty} {ok:E.Den a->E.Den b->Bool} {F:E.Den a->E.Den b->E.Den t} (hO:aK E O) (dM:P.follows .mixedOrders=true) (hf:P.funcs[f]? = some fn) (hn:(fn.name == "runtime.NumGoroutine")=false) (hb:fn.body.isNone=false)
  (h:∀x y,ok x y=true->jR O masks (Gr E fn [⟨t,F x y⟩]) fn [⟨a,x⟩,⟨b,y⟩]=some [⟨t,F x y⟩]):bG E f (Ir a b t ok F):=by
 refine Oe (masks:=masks) hO dM hf hn hb fun args res hr=>?_
 unfold Ir at hr;split at hr
 ·split at hr
  ·rename_i x hx;split at hr
   ·rename_i y hy;injection hr with hr
    injection hr with h1 h2
    subst h2;rw[iC hx,iC hy];exact h _ _ h1
   ·cases hr
  ·cases hr
 ·cases hr
theorem amb {a b t u:E.Ty} {ok:E.Den a->E.Den b->Bool} {F:E.Den a->E.Den b->E.Den t} {G':E.Den a->E.Den b->E.Den u} (hO:aK E O) (dM:P.follows .mixedOrders=true) (hf:P.funcs[f]? = some fn) (hn:(fn.name == "runtime.NumGoroutine")=false) (hb:fn.body.isNone=false)
  (h:∀x y,ok x y=true->jR O masks (Gr E fn [⟨t,F x y⟩,⟨u,G' x y⟩]) fn [⟨a,x⟩,⟨b,y⟩]=some [⟨t,F x y⟩,⟨u,G' x y⟩]):bG E f (aoP a b t u ok F G'):=by
 refine Oe (masks:=masks) hO dM hf hn hb fun args res hr=>?_
 unfold aoP at hr;split at hr
 ·split at hr
  ·rename_i x hx;split at hr
   ·rename_i y hy;injection hr with hr
    injection hr with h1 h2
    subst h2;rw[iC hx,iC hy];exact h _ _ h1
   ·cases hr
  ·cases hr
 ·cases hr
theorem abV {a t:E.Ty} {ok:E.Den a->Bool} {F:E.Den a->E.Den t} (ex:∃fn,P.funcs[f]? = some fn/\(fn.name == "runtime.NumGoroutine")=false/\fn.body.isNone=false) (h:∀x,ok x=false):bG E f (EO a t ok F) :=
 ⟨ex,fun args r hr=>by
  unfold EO at hr;split at hr
  ·split at hr
   ·rw[h]at hr;cases hr
   ·cases hr
  ·cases hr⟩
theorem axP {a b t:E.Ty} {ok:E.Den a->E.Den b->Bool} {F:E.Den a->E.Den b->E.Den t} (ex:∃fn,P.funcs[f]? = some fn/\(fn.name == "runtime.NumGoroutine")=false/\fn.body.isNone=false) (h:∀x y,ok x y=false):bG E f (Ir a b t ok F) :=
 ⟨ex,fun args r hr=>by
  unfold Ir at hr;split at hr
  ·split at hr
   ·split at hr
    ·rw[h]at hr;cases hr
    ·cases hr
   ·cases hr
  ·cases hr⟩
theorem axQ {a b c t:E.Ty} {ok:E.Den a->E.Den b->E.Den c->Bool} {F:E.Den a->E.Den b->E.Den c->E.Den t} (ex:∃fn,P.funcs[f]? = some fn/\(fn.name == "runtime.NumGoroutine")=false/\fn.body.isNone=false) (h:∀x y z,ok x y z=false):bG E f (fn3 a b c t ok F) :=
 ⟨ex,fun args r hr=>by
  unfold fn3 at hr;split at hr
  ·split at hr
   ·split at hr
    ·split at hr
     ·rw[h]at hr;cases hr
     ·cases hr
    ·cases hr
   ·cases hr
  ·cases hr⟩
theorem Z0 {a b c t:E.Ty} {ok:E.Den a->E.Den b->E.Den c->Bool} {F:E.Den a->E.Den b->E.Den c->E.Den t} (hO:aK E O) (dM:P.follows .mixedOrders=true) (hf:P.funcs[f]? = some fn) (hn:(fn.name == "runtime.NumGoroutine")=false) (hb:fn.body.isNone=false)
  (h:∀x y z,ok x y z=true->jR O masks (Gr E fn [⟨t,F x y z⟩]) fn [⟨a,x⟩,⟨b,y⟩,⟨c,z⟩]=some [⟨t,F x y z⟩]):bG E f (fn3 a b c t ok F):=by
 refine Oe (masks:=masks) hO dM hf hn hb fun args res hr=>?_
 unfold fn3 at hr;split at hr
 ·split at hr
  ·rename_i x hx;split at hr
   ·rename_i y hy;split at hr
    ·rename_i z hz;injection hr with hr
     injection hr with h1 h2
     subst h2;rw[iC hx,iC hy,iC hz];exact h _ _ _ h1
    ·cases hr
   ·cases hr
  ·cases hr
 ·cases hr
end
end
end Go.Proofs.YtclnniijooeajaaGreatDoor.bg
namespace Go.Proofs.YtclnniijooeajaaGreatDoor.bg
open Go Go.RowKit
section
def adN(T b:TypeId):Code :=
 ((Go.Code.region 0 #[{ dst:=some 2,op:=Go.Op.assign (Go.Operand.const (Go.Value.slice none 0 0)),type:=T,pos:= "slices.go:355",after:=#[],guard:=none }] false).seq
  (((Go.Code.region 1
   #[{ dst:=some 3,op:=Go.Op.move (Go.Operand.tmp 0),type:=T,pos:= "slices.go:357",after:=#[],guard:=none },
    {dst:=some 4,op:=Go.Op.binOp Go.BinOp.eql T (Go.Operand.tmp 3) (Go.Operand.const (Go.Value.slice none 0 0)) T,type:=b,pos:= "slices.go:357",after:=#[{ on:=0,ground:=Go.Ground.data }],guard:=none }] false).seq
   (Go.Code.cond (Go.Operand.tmp 4)
    ((Go.Code.region 2 #[{ dst:=some 2,op:=Go.Op.assign (Go.Operand.const (Go.Value.slice none 0 0)),type:=T,pos:= "slices.go:358",after:=#[],guard:=none }] false).seq Go.Code.ret)
    Go.Code.skip)).seq
   ((Go.Code.region 3
    #[{ dst:=some 5,op:=Go.Op.buildSlice T 0 #[],type:=T,pos:= "slices.go:362",after:=#[],guard:=none },
     {dst:=some 6,op:=Go.Op.move (Go.Operand.tmp 0),type:=T,pos:= "slices.go:362",after:=#[],guard:=none },
     {dst:=some 7,op:=Go.Op.call { callee:=Go.Callee.builtin Go.Builtin.append,args:=#[Go.Operand.tmp 5,Go.Operand.tmp 6],argTypes:=#[T,T] },type:=T,pos:= "slices.go:362",after:=#[{ on:=0,ground:=Go.Ground.data }, { on:=1,ground:=Go.Ground.data }],guard:=none },
     {dst:=some 2,op:=Go.Op.assign (Go.Operand.tmp 7),type:=T,pos:= "slices.go:362",
      after:=#[{ on:=2,ground:=Go.Ground.data }, { on:=2,ground:=Go.Ground.chain }, { on:=0,ground:=Go.Ground.phase }, { on:=1,ground:=Go.Ground.phase }, { on:=2,ground:=Go.Ground.phase }],guard:=none }] false).seq Go.Code.ret)))
section
variable {P:Program} {E:Env P}
def Og(e:TypeId):WT E
 | [v]=>bif E.agg v.1 then none else(match E.cells v.1 v.2 with
  | [.slice t l]=>bif Nat.beq (E.tid t) e then some (decide (l.length*E.bytes t<=aB),⟨t,l⟩)else none
  | _=>none)
 | _=>none
theorem axR{w:World}{a:Addr}{u:Value}(h:w.cell? a=some u):a.block<w.heap.size:=by
 rcases aiX a.block w.heap.size with hl | hl
 ·exact hl
 ·unfold World.cell? at h;rw[Array.getElem?_eq_none hl]at h;cases h
theorem tV{ops:Array Oper}{rest:List Oper}{o:Oper}{a:Act}{w w':World}{v:Value}{Q:Exit->Act->World->Prop}(hg:o.guard=none)(hr:(execOp a.eval o).run P w = .ok (.value v) w')(h:wpList P ops Q rest (a.put o.dst v) w'):wpList P ops Q (o::rest) a w:=by
 refine wpList_plain hg fun K hK=>?_
 unfold Oper.wp;rw[hr];exact hK _ _ h
theorem GX {T b e:TypeId} {f:FuncId} {fn:Func} (hT:P.underlying T=some (.slice e)) (hf:P.funcs[f]? = some fn) (hn:(fn.name == "runtime.NumGoroutine")=false) (hb:fn.body=some (adN T b)) (hres:fn.results = #[.tmp 2]) (hnt:fn.ntmps=8) :
  Od E f (Og e):=by
 refine⟨⟨fn,hf,hn,by rw[hb];rfl⟩,fun args t l hF=>?_⟩;unfold Og at hF;split at hF
 ·rename_i v;obtain⟨s,x⟩:=v;cases hag:E.agg s with
  | true=>simp only[hag,cond_true]at hF;cases hF
  | false =>
   simp only[hag,cond_false]at hF;split at hF
   ·rename_i t' l' hcells;cases hbe:Nat.beq (E.tid t') e with
    | false=>rw[hbe]at hF;cases hF
    | true =>
     rw[hbe]at hF;have hbe:=aaF hbe;subst hbe;simp only[cond_true]at hF;injection hF with hF
     injection hF with hok hF
     cases hF;have hok:l.length*E.bytes t<=aB:=of_decide_eq_true hok;intro w ro vals hargs kH
     match vals,hargs with
     | [v],hargs =>
     have hd:dO E w ro v (.slice t l):=by
      rcases hargs.1 with⟨ha,_⟩ | ⟨_,c,hc,hd⟩
      ·rw[hag]at ha;cases ha
      ·rw[hcells]at hc;cases hc;exact hd
     obtain⟨ad,cap,news,rfl,hnl,had,hnc,hn1,hnd⟩:=hd.row;have huE:=fun(n c:Nat)=>Lib.run_eql_slice_nil (P:=P) w T (E.tid t) ad l.length cap n c hT
     have fin:∀(a:Act) (w':World) (gh:Gh) (xs:List Value),a.tmps[2]? = some gh.v->a.defers=[]->Below w.heap.size w w'->gh.n=l.length->gh.e=E.tid t->gh.sz=E.size t->sJ w' gh xs->mH E w' ro t xs l->(∀g,gh.blk=some g->w.heap.size<=g) ->
       bodyPost P fn (fun e w'=>∃(gh:Gh) (xs:List Value),e = .returned gh.v/\Below w.heap.size w w'/\gh.n=l.length/\gh.e=E.tid t/\gh.sz=E.size t/\sJ w' gh xs/\mH E w' ro t xs l/\∀g,gh.blk=some g->w.heap.size<=g) .ret a w':=by
      intro a w' gh xs h1 h2 h3 h4 h5 h6 h7 h8 h9;refine⟨h2,gh.v,?_,gh,xs,rfl,h3,h4,h5,h6,h7,h8,h9⟩;simp[results,hres,h1]
     refine calls_of_wp hf hb ?_;rw[hnt];unfold adN;refine wp_seq (wp_region_list (tV rfl (v:=.slice none 0 0) (w':=w) (by simp[execOp,Act.eval]) (wpList_nil ?_)));refine wp_seq (wp_seq (wp_region_list (tV rfl (w':=w) (v:=.slice ad l.length cap) (by simp[execOp,Act.eval,Act.put]) (tV rfl (w':=w) (v:=.bool ad.isNone) (by simp[execOp,Act.eval,Act.put,eqGuard,huE]) (wpList_nil ?_)))));cases ad with
     | none =>have hl0:=had rfl;obtain rfl:=aeg hl0;refine wp_cond_true (by simp[Act.eval,Act.put]) (wp_seq (wp_region_list (tV rfl (w':=w) (v:=.slice none 0 0) (by simp[execOp,Act.eval]) (wpList_nil (wp_ret ?_)))));exact fin _ w ⟨.slice none 0 0,0,E.tid t,E.size t,none⟩ [] (by simp[Act.put]) rfl (Below.refl _ _) rfl rfl rfl (.inl ⟨World.ownsRow_nil w 0 _ _,rfl⟩) (fun i x j c hi=>by simp at hi) (fun g hg=>by cases hg)
     | some A =>
      refine wp_cond_false (by simp[Act.eval,Act.put]) (wp_skip ?_);obtain⟨i,z,hi,his,hib,hz,hzs⟩:=E.DU t;have hbp:=E.L6 t;let w1:=w.alloc (.cells #[] (E.tid t));have hown1:w1.ownsRow 0 (E.tid t) i.size (.slice (some ⟨w.heap.size,0,none⟩) 0 0) 0 []:=World.ownsRow_made w #[] 0 (aaG _) (aaG _) (by simp);obtain⟨v',w',b',hrun,hown',hgrow,hat,_⟩:=F8 (P:=P) (w:=w1) T T T (E.tid t) i z hT hi hz (by rw[hzs,his]) (.slice (some ⟨w.heap.size,0,none⟩) 0 0) 0 [] (some w.heap.size) (.inl ⟨hown1,rfl⟩) (.slice (some A) l.length cap) l.length news
       (Src.ofSlice _ hT A _ cap news (by rw[his];exact hnl) (fun j u hu=>by
        have:=hnc A rfl j u hu;exact(World.cell?_alloc_lt w _ _ (axR this)).trans this) hn1) (by
        have:l.length<=l.length*E.bytes t:=al8 _ hbp;unfold aB at hok;unfold maxLen;omega) (by rw[hib,aeC];exact hok)
      refine wp_seq (wp_region_list (tV rfl (w':=w1) (v:=.slice (some ⟨w.heap.size,0,none⟩) 0 0) (by simp[execOp,Instr.buildSlice,run_underlying hT,rD,Instr.fill,newRow,w1,Array.range_zero']) (tV rfl (w':=w1) (v:=.slice (some A) l.length cap) (by simp[execOp,Act.eval,Act.put])
       (tV rfl (w':=w') (v:=v') (by simp[execOp,Act.eval,Act.put,resolve,invoke,builtin,hrun]) (tV rfl (w':=w') (v:=v') (by simp[execOp,Act.eval,Act.put]) (wpList_nil (wp_ret ?_)))))))
      have hbel:Below w.heap.size w w':=(Below.alloc (Below.refl _ _) (abn _) _).trans ⟨hgrow.os,hgrow.tape,hgrow.output,hgrow.size,fun k hk=>hgrow.block k (by simp[w1];omega) (fun e=>by cases e;omega)⟩;rw[his]at hown';refine fin _ w' ⟨v',l.length,E.tid t,E.size t,b'⟩ news (by simp[Act.put]) rfl hbel rfl rfl rfl ?_ ?_ ?_
      ·simpa[sJ]using hown'
      ·intro i0 x0 j c hx hc;obtain⟨u,hu,hdr⟩:=hnd i0 x0 j c hx hc;exact⟨u,hu,hdr.mono (fun _ _ h=>h) (fun k o h=>hbel.cell (p:=⟨k,o,none⟩) (kH k o h))⟩
      ·intro g hg;rcases hat with e | e
       ·have:b'=some g:=hg;rw[e]at this;cases this;exact abn _
       ·have:b'=some g:=hg;rw[e]at this;cases this;simp[w1]
   ·cases hF
 ·cases hF
end
end
end Go.Proofs.YtclnniijooeajaaGreatDoor.bg
namespace Go.Proofs.YtclnniijooeajaaGreatDoor.bg
open Go Go.RowKit
section
section
variable {P:Program} {E:Env P}
abbrev TL(E:Env P):=(t:E.Ty)×List (E.Den t)
def auG(S:au E):AV E->Option (TL E)
 | .row _ _ id=>match look S.objs id with
  | some (.row t l)=>some ⟨t,l⟩
  | _=>none
 | _=>none
def aoQ(fn:Func)(e:dN)(S:au E):Option (TL E):=match e with
 | .exit _=>none
 | .goto _=>none
 | _=>match fn.results.toList with
  | [r]=>(match abS S r with
   | some v=>auG S v
   | none=>none)
  | _=>none
def awn(O:aI E)(h:Hint E)(G:Nat->au E->Option (TL E))(fn:Func)(j:Nat)(S:au E):Option (TL E):=match fn.body with
 | some c=>ahd O h G c j S (aoQ fn)
 | none=>none
def awo(E:Env P)(res:TL E)(w:World)(gh:Gh)(ro:Nat->Nat->Prop)(e:Ending)(w':World):Prop:=∃(bq:Gh) (xs':List Value),e = .returned bq.v/\w.grownBy w' gh.blk/\bq.n=res.2.length/\bq.e=E.tid res.1/\bq.sz=E.size res.1/\sJ w' bq xs' /\
  mH E w' (fun k o=>ro k o\/(bq.blk≠some k/\(gh.blk=some k\/w.heap.size<=k/\k<w'.heap.size))) res.1 xs' res.2/\(∀g,bq.blk=some g->gh.blk=some g\/w.heap.size<=g)
def ari(E:Env P)(fn:Func)(res:TL E)(w:World)(gh:Gh)(ro:Nat->Nat->Prop):Exit->Act->World->Prop:=bodyPost P fn (awo E res w gh ro)
theorem aoR{fn:Func}{res:TL E}{w:World}{gh:Gh}{ro:Nat->Nat->Prop}{e:dN}{S':au E}{a':Act}{w':World}{ι':Nat->Option Gh}{ro':Nat->Nat->Prop}(hg':bO E ⟨w,gh.blk,none,[],fun _=>none⟩ ro S' a' w' ι' ro')(hk:aoQ fn e S'=some res) :
  ari E fn res w gh ro e.toExit a' w':=by
 have fin:∀r,fn.results.toList=[r]->(match abS S' r with | some v=>auG S' v | none=>none)=some res->a'.defers=[]/\∃v,(results fn a'.tmps).run P w' = .ok v w' /\
   awo E res w gh ro (.returned v) w':=by
  intro r hr hres;cases hv:abS S' r with
  | none=>rw[hv]at hres;cases hres
  | some v =>
   rw[hv]at hres;simp only at hres;obtain⟨u,hrun,hrep⟩:=Yb hg' hv;unfold auG at hres;split at hres
   ·rename_i t0 n0 id;split at hres
    ·rename_i t l bW;cases hres;cases hrep with
     | row bq _ _ ad cap hi h2 h3 h4 h5 =>
      obtain⟨ZV,xs,hi2,hn,hge,hgs,hown,hrow,iw⟩:=hg'.objs id _ bW;rw[hi]at hi2;cases hi2;refine⟨hg'.base.defers,bq.v,?_,bq,xs,rfl,hg'.base.below,hn,hge,hgs,hown,hrow.mono (fun k o hk=>?_) (fun _ _ _=>rfl),fun g hg=>?_⟩
      ·show(do let vs <- fn.results.mapM (Ya a'.tmps);pure (if h:vs.size=1 then vs[0]else .tuple vs):Sem Value).run P w'=_;rw[Array.mapM_eq_mapM_toList,hr];simp only[Sem.run_bind,Sem.run_map,List.mapM_cons,List.mapM_nil,hrun,Result.andThen_ok,Sem.run_pure];simp
      ·have hne:bq.blk≠some k:=fun e=>iw k e o hk
       rcases hg'.base.qN k o hk with h | h | h
       ·exact .inl h
       ·exact .inr ⟨hne,.inr ⟨h,hg'.base.aT k o hk⟩⟩
       ·exact .inr ⟨hne,.inl h⟩
      ·rcases(hg'.base.tO id bq g hi hg).1 with h | h
       ·exact .inr h
       ·exact .inl h
    ·cases hres
   ·cases hres
 cases e with
 | normal =>
  unfold aoQ at hk;split at hk
  ·rename_i h;cases h
  ·rename_i h;cases h
  ·split at hk
   ·rename_i r hr;exact fin r hr hk
   ·cases hk
 | ret =>
  unfold aoQ at hk;split at hk
  ·rename_i h;cases h
  ·rename_i h;cases h
  ·split at hk
   ·rename_i r hr;exact fin r hr hk
   ·cases hk
 | exit id=>cases hk
 | goto l=>cases hk
def EvM(E:Env P)(fn:Func)(res:TL E)(i:Nat)(S:au E):Prop :=
 ∀(w0:World) (gh:Gh) aP n c,fn.body=some c->Tj E ⟨w0,gh.blk,none,[],fun _=>none⟩ aP n c (ari E fn res w0 gh aP) i S
open Classical in
def GrM(E:Env P)(fn:Func)(res:TL E)(i:Nat)(S:au E):Option (TL E):=if EvM E fn res i S then some res else none
theorem az3{fn:Func}{res r:TL E}{i:Nat}{S:au E}(h:GrM E fn res i S=some r):EvM E fn r i S:=by
 unfold GrM at h;split at h
 ·cases h;assumption
 ·cases h
variable {O:aI E} {h:Hint E}
theorem EvM.step(hO:aK E O)(dM:P.follows .mixedOrders=true){fn:Func}{res:TL E}{j:Nat}{S:au E}(hs:awn O h (GrM E fn res) fn j S=some res):EvM E fn res j S:=by intro w0 gh aP n c hc;unfold awn at hs;rw[hc]at hs;exact Qe hO dM (fun i S hi=>⟨.none rfl,az3 hi w0 gh aP n c hc⟩) (fun e S' a' w' ι' ro' _ h2 _ h4=>aoR h2 h4) hs
variable {f:FuncId} {fn:Func}
end
end
end Go.Proofs.YtclnniijooeajaaGreatDoor.bg
namespace Go.Proofs.YtclnniijooeajaaGreatDoor.bg
open Go Go.RowKit
section
section
variable {P:Program} {E:Env P} {O:aI E} {masks:Hint E} {f:FuncId} {fn:Func}
def aoS(a0 a1 t0 t1 t2:E.Ty)(ok:E.Den a0->E.Den a1->Bool)(F0:E.Den a0->E.Den a1->E.Den t0)(F1:E.Den a0->E.Den a1->E.Den t1)(F2:E.Den a0->E.Den a1->E.Den t2):jC E
 | [x0,x1]=>match kJ a0 x0,kJ a1 x1 with
  | some x0,some x1=>some (ok x0 x1,[⟨t0,F0 x0 x1⟩,⟨t1,F1 x0 x1⟩,⟨t2,F2 x0 x1⟩])
  | _,_=>none
 | _=>none
theorem amc {a0 a1 t0 t1 t2:E.Ty} {ok:E.Den a0->E.Den a1->Bool} {F0:E.Den a0->E.Den a1->E.Den t0} {F1:E.Den a0->E.Den a1->E.Den t1} {F2:E.Den a0->E.Den a1->E.Den t2} (hO:aK E O) (dM:P.follows .mixedOrders=true) (hf:P.funcs[f]? = some fn) (hn:(fn.name == "runtime.NumGoroutine")=false) (hb:fn.body.isNone=false)
  (h:∀x0 x1,ok x0 x1=true->jR O masks (Gr E fn [⟨t0,F0 x0 x1⟩,⟨t1,F1 x0 x1⟩,⟨t2,F2 x0 x1⟩]) fn [⟨a0,x0⟩,⟨a1,x1⟩]=some [⟨t0,F0 x0 x1⟩,⟨t1,F1 x0 x1⟩,⟨t2,F2 x0 x1⟩]):bG E f (aoS a0 a1 t0 t1 t2 ok F0 F1 F2):=by
 refine Oe (masks:=masks) hO dM hf hn hb fun args res hr=>?_
 unfold aoS at hr;split at hr
 ·split at hr
  ·rename_i hx0 hx1;injection hr with hr
   injection hr with h1 h2
   subst h2;rw[iC hx0,iC hx1];exact h _ _ h1
  ·cases hr
 ·cases hr
def fn4(a0 a1 a2 a3 t0:E.Ty)(ok:E.Den a0->E.Den a1->E.Den a2->E.Den a3->Bool)(F0:E.Den a0->E.Den a1->E.Den a2->E.Den a3->E.Den t0):jC E
 | [x0,x1,x2,x3]=>match kJ a0 x0,kJ a1 x1,kJ a2 x2,kJ a3 x3 with
  | some x0,some x1,some x2,some x3=>some (ok x0 x1 x2 x3,[⟨t0,F0 x0 x1 x2 x3⟩])
  | _,_,_,_=>none
 | _=>none
end
end
end Go.Proofs.YtclnniijooeajaaGreatDoor.bg
namespace Go.Proofs.YtclnniijooeajaaGreatDoor.bg
open Go Go.RowKit
section
section
variable {P:Program} {E:Env P}
def Z4:List (AV E)->Nat->List (Nat×AV E)
 | [],_=>[]
 | v::r,i=>(i,bif dU v then .any else v)::Z4 r (i+1)
def Tk(fn:Func)(args:List (AV E))(objs:List (Nat×aS E))(next:Nat):au E:=⟨args.length+(fn.ntmps-args.length),Z4 args 0,objs,next⟩
def VP(S:au E):List ResultVar->Option (List (AV E))
 | []=>some []
 | r::rs=>match abS S r with
  | some v=>(match dU v with
   | true=>none
   | false=>(match VP S rs with
    | some vs=>some (v::vs)
    | none=>none))
  | none=>none
def auH{R:Type}(fn:Func)(k:AV E->List (Nat×aS E)->Nat->Option R)(e:dN)(S:au E):Option R:=match e with
 | .exit _=>none
 | .goto _=>none
 | _=>match VP S fn.results.toList with
  | some [v]=>k v S.objs S.next
  | some vs=>k (.tL vs) S.objs S.next
  | none=>none
def aoT{R:Type}(f:au E->(dN->au E->Option R)->Option R):Nat->au E->(dN->au E->Option R)->Option R
 | 0,_,_=>none
 | m+1,S,k=>f S (X9 (fun S'=>aoT f m S' k) k)
def scK{R:Type}(J:Code->Code->au E->(dN->au E->Option R)->Option R)(c:Code)(k:dN->au E->Option R)(e:dN)(S:au E):Option R:=match e with
 | .goto l=>(match findLabel c l with
  | some rest=>J c rest S k
  | none=>none)
 | .normal=>k .normal S
 | .exit id=>k (.exit id) S
 | .ret=>k .ret S
def Gg{R:Type}(O:aI E)(h:Hint E)(m:Nat)(J:Code->Code->au E->(dN->au E->Option R)->Option R):Code->au E->(dN->au E->Option R)->Option R
 | .skip,S,k=>k .normal S
 | .region id ops dr,S,k=>splitK (Td h.split id) (Mj (Td h.opn id) (match P7 h.frz id with | true=>yI S | false=>S)) fun S'=>Io (P7 h.lst id) O ops dr S' (k .normal)
 | .seq x y,S,k=>Gg O h m J x S (X9 (fun S'=>Gg O h m J y S' k) k)
 | .cond c x y,S,k=>match bF S.tmps [] c with
  | .d (.bool b)=>bif b then Gg O h m J x S k else Gg O h m J y S k
  | _=>none
 | .block id body,S,k=>Gg O h m J body S (Iq id k)
 | .loop b,S,k=>aoT (Gg O h m J b) m S k
 | .exit id,S,k=>k (.exit id) S
 | .ret,S,k=>k .ret S
 | .scope c,S,k=>Gg O h m J c S (scK J c k)
 | .label _,S,k=>k .normal S
 | .goto l,S,k=>k (.goto l) S
 | _,_,_=>none
def ahj{R:Type}(O:aI E)(h:Hint E)(m:Nat):Nat->Code->Code->au E->(dN->au E->Option R)->Option R
 | 0,_,_,_,_=>none
 | d+1,c,rest,S,k=>Gg O h m (ahj O h m d) rest S (scK (ahj O h m d) c k)
def evU{R:Type}(O:aI E)(h:Hint E)(m:Nat):Code->au E->(dN->au E->Option R)->Option R:=Gg O h m (ahj O h m m)
def JOk{R:Type}(E:Env P)(w0:Start)(aP:Nat->Nat->Prop)(n:Nat)(rr:R)(J:Code->Code->au E->(dN->au E->Option R)->Option R):Prop :=
 ∀(c rest:Code) (S:au E) (k:dN->au E->Option R) (Q:Exit->Act->World->Prop) (a:Act) (w:World) (ι:Nat->Option Gh) (ro:Nat->Nat->Prop),
  aR S.tmps->bO E w0 aP S a w ι ro->S.n=n->J c rest S k=some rr ->
  (∀e S' a' w' ι' ro',aR S'.tmps->bO E w0 aP S' a' w' ι' ro'->S'.n=n->k e S'=some rr->Q e.toExit a' w')->Kv P c rest Q a w
theorem adO{R:Type}{w0:Start}{aP:Nat->Nat->Prop}{n:Nat}{rr:R}{J:Code->Code->au E->(dN->au E->Option R)->Option R}(hJ:JOk E w0 aP n rr J){c:Code}{k:dN->au E->Option R}{Q:Exit->Act->World->Prop}
  (hk:∀e S' a' w' ι' ro',aR S'.tmps->bO E w0 aP S' a' w' ι' ro'->S'.n=n->k e S'=some rr->Q e.toExit a' w') (e:dN) (S':au E) (a':Act) (w':World) (ι':Nat->Option Gh) (ro':Nat->Nat->Prop)
  (h1:aR S'.tmps) (h2:bO E w0 aP S' a' w' ι' ro') (h3:S'.n=n) (h4:scK J c k e S'=some rr):Oa P c Q e.toExit a' w':=by
 cases e with
 | normal=>exact hk .normal S' a' w' ι' ro' h1 h2 h3 h4
 | exit id=>exact hk (.exit id) S' a' w' ι' ro' h1 h2 h3 h4
 | ret=>exact hk .ret S' a' w' ι' ro' h1 h2 h3 h4
 | goto l =>
  simp only[scK]at h4;split at h4
  ·rename_i rest hf;exact⟨rest,hf,hJ c rest S' k Q a' w' ι' ro' h1 h2 h3 h4 hk⟩
  ·cases h4
theorem Z5{R:Type}{O:aI E}(hO:aK E O)(dM:P.follows .mixedOrders=true){h:Hint E}{m n:Nat}{w0:Start}{aP:Nat->Nat->Prop}{rr:R}{J:Code->Code->au E->(dN->au E->Option R)->Option R}(hJ:JOk E w0 aP n rr J) :
  ∀(c:Code) (S:au E) (k:dN->au E->Option R) (Q:Exit->Act->World->Prop) (a:Act) (w:World) (ι:Nat->Option Gh) (ro:Nat->Nat->Prop),
  aR S.tmps->bO E w0 aP S a w ι ro->S.n=n->Gg O h m J c S k=some rr ->
  (∀e S' a' w' ι' ro',aR S'.tmps->bO E w0 aP S' a' w' ι' ro'->S'.n=n->k e S'=some rr->Q e.toExit a' w')->c.wp P Q a w:=by
 intro c
 induction c with
 | skip=>intro S k Q a w ι ro hnc hg hn h hk;exact wp_skip (hk .normal S a w ι ro hnc hg hn h)
 | ret=>intro S k Q a w ι ro hnc hg hn h hk;exact wp_ret (hk .ret S a w ι ro hnc hg hn h)
 | exit id=>intro S k Q a w ι ro hnc hg hn h hk;exact wp_exit (hk (.exit id) S a w ι ro hnc hg hn h)
 | region id ops draw =>
  intro S k Q a w ι ro hnc hg hn hh hk;have go:∀(S:au E) (ro:Nat->Nat->Prop),aR S.tmps->bO E w0 aP S a w ι ro->S.n=n->Io (P7 h.lst id) O ops draw S (k .normal)=some rr->(Code.region id ops draw).wp P Q a w:=fun S ro hnc hg hn hq =>Tg hO dM hnc hg (fun S' a' w' ι' ro' h1 h2 h3 h4=>hk .normal S' a' w' ι' ro' h1 h2 (h3.trans hn) h4) hq
  simp only[Gg]at hh;have fin:∀(l1:List (Nat×Nat)) (l2:List Nat) (S:au E) (ro:Nat->Nat->Prop),aR S.tmps->bO E w0 aP S a w ι ro->S.n=n->splitK l1 (Mj l2 S) (fun S'=>Io (P7 h.lst id) O ops draw S' (k .normal))=some rr->(Code.region id ops draw).wp P Q a w:=by intro l1 l2 S ro hnc hg hn h;obtain⟨WR,g1,g2,g3⟩:=MU l2 S ro hnc hg;obtain⟨S2,g4,g5,g6,g7⟩:=Kr _ _ g1 g2 h;grind
  split at hh
  ·obtain⟨h1,h2⟩:=CX hnc hg;exact fin _ _ (yI S) _ h1 h2 hn hh
  ·exact fin _ _ S ro hnc hg hn hh
 | seq x y Ob ihy =>
  intro S k Q a w ι ro hnc hg hn h hk;refine wp_seq (Ob S _ _ a w ι ro hnc hg hn h fun e S' a' w' ι' ro' h1 h2 h3 h4=>?_);cases e with
  | normal=>exact ihy S' k Q a' w' ι' ro' h1 h2 h3 h4 hk
  | exit id=>exact hk (.exit id) S' a' w' ι' ro' h1 h2 h3 h4
  | goto l=>exact hk (.goto l) S' a' w' ι' ro' h1 h2 h3 h4
  | ret=>exact hk .ret S' a' w' ι' ro' h1 h2 h3 h4
 | cond c x y Ob ihy =>
  intro S k Q a w ι ro hnc hg hn h hk;have hc:=xk (E:=E) (asm:=[]) hg.tmps (fun j b hb=>by simp[tN]at hb) c;simp only[Gg]at h;split at h
  ·rename_i b hb;rw[hb]at hc;have hc:=hc.rC;cases b with
   | true=>exact wp_cond_true hc (Ob S k Q a w ι ro hnc hg hn h hk)
   | false=>exact wp_cond_false hc (ihy S k Q a w ι ro hnc hg hn h hk)
  ·cases h
 | block id body ih =>
  intro S k Q a w ι ro hnc hg hn h hk;refine wp_block (ih S _ _ a w ι ro hnc hg hn h fun e S' a' w' ι' ro' h1 h2 h3 h4=>?_);cases e with
  | normal=>exact hk .normal S' a' w' ι' ro' h1 h2 h3 h4
  | goto l=>exact hk (.goto l) S' a' w' ι' ro' h1 h2 h3 h4
  | ret=>exact hk .ret S' a' w' ι' ro' h1 h2 h3 h4
  | exit i =>
   simp only[dN.toExit,Exit.inBlock,Iq]at h4 ⊢;cases hb:Nat.beq i id with
   | true =>rw[hb]at h4;rw[if_pos (aaF hb)];exact hk .normal S' a' w' ι' ro' h1 h2 h3 h4
   | false =>rw[hb]at h4;rw[if_neg (fun e=>by subst e;simp at hb)];exact hk (.exit i) S' a' w' ι' ro' h1 h2 h3 h4
 | loop body ih =>
  intro S k Q a w ι ro hnc hg hn hh hk;have rounds:∀(f:Nat) (S:au E) (a:Act) (w:World) (ι:Nat->Option Gh) (ro:Nat->Nat->Prop),aR S.tmps->bO E w0 aP S a w ι ro->S.n=n->aoT (Gg O h m J body) f S k=some rr->tT P body Q a w:=by
   intro f
   induction f with
   | zero=>intro S a w ι ro _ _ _ h;cases h
   | succ f ihf =>
    intro S a w ι ro hnc hg hn h;refine tT.round (ih S _ _ a w ι ro hnc hg hn h fun e S' a' w' ι' ro' h1 h2 h3 h4=>?_);cases e with
    | normal=>exact ihf S' a' w' ι' ro' h1 h2 h3 h4
    | exit id=>exact hk (.exit id) S' a' w' ι' ro' h1 h2 h3 h4
    | goto l=>exact hk (.goto l) S' a' w' ι' ro' h1 h2 h3 h4
    | ret=>exact hk .ret S' a' w' ι' ro' h1 h2 h3 h4
  exact(rounds m S a w ι ro hnc hg hn hh).wp
 | scope body ih =>intro S k Q a w ι ro hnc hg hn hh hk;exact adL (ih S (scK J body k) (Oa P body Q) a w ι ro hnc hg hn hh fun e S' a' w' ι' ro' h1 h2 h3 h4=>adO hJ hk e S' a' w' ι' ro' h1 h2 h3 h4)
 | label l=>intro S k Q a w ι ro hnc hg hn h hk;exact wp_label (hk .normal S a w ι ro hnc hg hn h)
 | goto l=>intro S k Q a w ι ro hnc hg hn h hk;exact wp_goto (hk (.goto l) S a w ι ro hnc hg hn h)
 | _=>intro S k Q a w ι ro hnc hg hn h hk;cases h
theorem abW{R:Type}{O:aI E}(hO:aK E O)(dM:P.follows .mixedOrders=true){h:Hint E}{m n:Nat}{w0:Start}{aP:Nat->Nat->Prop}{rr:R}:∀d,JOk E w0 aP n rr (ahj O h m d)
 | 0=>fun c rest S k Q a w ι ro _ _ _ h=>by cases h
 | d+1=>fun c rest S k Q a w ι ro hnc hg hn hh hk =>Kv.of (Z5 hO dM (abW hO dM d) rest S (scK (ahj O h m d) c k) (Oa P c Q) a w ι ro hnc hg hn hh fun e S' a' w' ι' ro' h1 h2 h3 h4=>adO (abW hO dM d) hk e S' a' w' ι' ro' h1 h2 h3 h4)
theorem Tm{R:Type}{O:aI E}(hO:aK E O)(dM:P.follows .mixedOrders=true){h:Hint E}{m n:Nat}{w0:Start}{aP:Nat->Nat->Prop}{rr:R}
  (c:Code) (S:au E) (k:dN->au E->Option R) (Q:Exit->Act->World->Prop) (a:Act) (w:World) (ι:Nat->Option Gh) (ro:Nat->Nat->Prop)
  (hnc:aR S.tmps) (hg:bO E w0 aP S a w ι ro) (hn:S.n=n) (hh:evU O h m c S k=some rr)
  (hk:∀e S' a' w' ι' ro',aR S'.tmps->bO E w0 aP S' a' w' ι' ro'->S'.n=n->k e S'=some rr->Q e.toExit a' w'):c.wp P Q a w :=
 Z5 hO dM (abW hO dM m) c S k Q a w ι ro hnc hg hn hh hk
def hintOf(hs:List (FuncId×Hint E))(f:FuncId):Hint E:=match look hs f with
 | some h=>h
 | none=>{}
def mkI(O:aI E)(Mq:List (FuncId×Func))(hs:List (FuncId×Hint E)):Nat->Inl E
 | 0=>.nil
 | n+1=>⟨fun f=>(look Mq f).isSome,fun f args objs next k=>match look Mq f with
  | some fn=>match fn.body with
   | some c=>evU { O with inl:=mkI O Mq hs n } (hintOf hs f) (hintOf hs f).rounds c (Tk fn args objs next) (auH fn k)
   | none=>none
  | none=>none⟩
def Z6(O:aI E)(Mq:List (FuncId×Func))(hs:List (FuncId×Hint E):=[])(d:Nat:=4):aI E:={ O with inl:=mkI O Mq hs d }
theorem Z7:∀{args:List (AV E)} {i t:Nat} {x:AV E},look (Z4 args i) t=some x->i<=t/\∃y,args[t-i]? = some y/\x=bif dU y then .any else y
 | [],_,_,_,h=>by cases h
 | v::r,i,t,x,h=>by
  simp only[Z4,aX]at h;split at h
  ·rename_i hb;have:=aaF hb;grind
  ·rename_i hb;obtain⟨h1,z,h2,h3⟩:=Z7 h;grind
theorem Tn:∀(args:List (AV E)) (i:Nat),aR (Z4 args i)
 | [],_=>fun p h=>by cases h
 | v::r,i=>fun p h=>by
  cases h with
  | head =>
   cases hc:dU v with
   | true=>rfl
   | false=>exact hc
  | tail _ h=>exact Tn r (i+1) p h
theorem adP{w0:Start}{aP:Nat->Nat->Prop}{S:au E}{a:Act}{w:World}{ι:Nat->Option Gh}{ro:Nat->Nat->Prop}(hg:bO E w0 aP S a w ι ro):∀{rs:List ResultVar} {xs:List (AV E)},VP S rs=some xs ->
  ∃vs:List Value,(rs.mapM (Ya a.tmps)).run P w=Result.ok vs w/\vs.length=xs.length/\∀(i:Nat) v x,vs[i]? = some v->xs[i]? = some x->aO E w ro ι v x/\dU x=false
 | [],xs,h=>by cases h;exact⟨[],by simp,rfl,fun i v x hv=>by simp at hv⟩
 | r::rs,xs,h=>by
  unfold VP at h;split at h
  ·rename_i v hv;split at h
   ·cases h
   ·rename_i hc;split at h
    ·rename_i ys hys;cases h;obtain⟨u,hu,hr⟩:=Yb hg hv;obtain⟨us,WJ,hl,hrs⟩:=adP hg hys;refine⟨u::us,by rw[List.mapM_cons];simp only[Sem.run_bind,hu,Result.andThen_ok,WJ,Sem.run_pure],by simp[hl],fun i v' x' h1 h2=>?_⟩;grind
    ·cases h
  ·cases h
def aoU{R:Type}(E:Env P)(k:AV E->List (Nat×aS E)->Nat->Option R)(rr:R)(w0:Start)(aP:Nat->Nat->Prop)(e:Ending)(w':World):Prop :=
 ∃(v:Value) (x:AV E) (mI:List (Nat×aS E)) (next':Nat) (ι':Nat->Option Gh) (ro':Nat->Nat->Prop) (a':Act),e = .returned v/\k x mI next'=some rr/\aO E w' ro' ι' v x/\Base w0 aP a' w' ι' ro' /\
  (∀(id:Nat) o,look mI id=some o->j5 E w' ro' ι' id o)/\Zy E mI ι'/\(∀id,next'<=id->ι' id=none)/\(∀id o,look mI id=some o->id<next')
theorem aoV{R:Type}{fn:Func}{k:AV E->List (Nat×aS E)->Nat->Option R}{rr:R}{w0:Start}{aP:Nat->Nat->Prop}{e:dN}{S':au E}{a':Act}{w':World}{ι':Nat->Option Gh}{ro':Nat->Nat->Prop}(hg':bO E w0 aP S' a' w' ι' ro')(hk:auH fn k e S'=some rr)(hd:w0.dl=[]) :
  bodyPost P fn (aoU E k rr w0 aP) e.toExit a' w':=by
 have fin:(match VP S' fn.results.toList with | some [v]=>k v S'.objs S'.next | some vs=>k (.tL vs) S'.objs S'.next | none=>none)=some rr->a'.defers=[]/\∃v,(results fn a'.tmps).run P w' = .ok v w'/\aoU E k rr w0 aP (.returned v) w':=by
  intro h;cases hv:VP S' fn.results.toList with
  | none=>rw[hv]at h;cases h
  | some xs =>
   rw[hv]at h;obtain⟨vs,hvs,hl,hrep⟩:=adP hg' hv;refine⟨hg'.base.defers.trans hd,if h:vs.length=1 then vs[0]else .tuple vs.toArray,?_,?_⟩
   ·show(do let vs <- fn.results.mapM (Ya a'.tmps);pure (if h:vs.size=1 then vs[0]else .tuple vs):Sem Value).run P w'=_;rw[Array.mapM_eq_mapM_toList];simp only[Sem.run_bind,Sem.run_map,hvs];simp[Result.andThen]
   ·by_cases h1:vs.length=1
    ·rw[dif_pos h1]
     match xs,hl,h,hrep with
     | [x],_,h,hrep=>exact⟨_,x,_,_,ι',ro',a',rfl,h,(hrep 0 _ x (aaz (by omega)) rfl).1,hg'.base,hg'.objs,hg'.inj,hg'.fresh,hg'.ids⟩
     | [],hl,_,_=>exact absurd (h1.symm.trans hl) (by simp)
     | _::_::_,hl,_,_=>exact absurd (h1.symm.trans hl) (by simp)
    ·rw[dif_neg h1];have h:k (.tL xs) S'.objs S'.next=some rr:=by
      grind
     exact⟨_,.tL xs,_,_,ι',ro',a',rfl,h,.tL _ _ (by simpa using hl) (fun j v x hv hx=>(hrep j v x (by simpa using hv) hx).1),hg'.base,hg'.objs,hg'.inj,hg'.fresh,hg'.ids⟩
 cases e with
 | normal=>exact fin hk
 | ret=>exact fin hk
 | exit id=>cases hk
 | goto l=>cases hk
def Mr (P:Program) (Mq:List (FuncId×Func)):Prop:=∀p∈Mq,P.funcs[p.1]? = some p.2/\(p.2.name == "runtime.NumGoroutine")=false/\p.2.body.isNone=false
theorem Mr.nil:Mr P []:=fun p h=>by cases h
theorem Mr.cons {f:FuncId} {fn:Func} {l:List (FuncId×Func)} (h1:P.funcs[f]? = some fn) (h2:(fn.name == "runtime.NumGoroutine")=false) (h3:fn.body.isNone=false) (hl:Mr P l):Mr P ((f,fn)::l):=fun p hp=>by
 cases hp with
 | head=>exact⟨h1,h2,h3⟩
 | tail _ hp=>exact hl p hp
theorem ark{O:aI E}(hO:aK E O)(dM:P.follows .mixedOrders=true){Mq:List (FuncId×Func)}{hs:List (FuncId×Hint E)}(ht:Mr P Mq):∀n,awe E (mkI O Mq hs n)
 | 0=>fun f args objs next k rr h=>by cases h
 | n+1=>fun f args objs next k rr h=>by
  have hO':aK E { O with inl:=mkI O Mq hs n }:=⟨hO.1,hO.2.1,hO.2.2.1,hO.2.2.2.1,ark hO dM ht n,hO.2.2.2.2.2⟩
  simp only[mkI]at h;split at h
  ·rename_i fn hl;obtain⟨hf,hname,hbody⟩:=ht _ (jQ _ _ _ hl);split at h
   ·rename_i c hc;refine⟨⟨fn,hf,hname,hbody⟩,fun w0 aP a w ι ro vals hb ho hi hfr kP hlen hargs=>?_⟩;let w1:Start:=⟨w0.w,w0.x,some ⟨w,ro,ι⟩,[],w0.h⟩
    refine(calls_of_wp (R:=aoU E k rr w1 aP) hf hc ?_).mono fun e w' he=>by
     obtain⟨v,x,mI,next',ι',ro',a',h1,h2,h3,h4,h5,h6,h7,h8⟩:=he;obtain⟨q1,q2⟩:=h4.keep _ rfl;exact⟨v,x,mI,next',ι',ro',h1,h2,h3,⟨h4.below,h4.aT,h4.qN,h4.tO,hb.defers,fun q hq=>by obtain⟨p1,p2⟩:=hb.keep q hq;exact⟨fun k o h=>⟨(q1 k o (p1 k o h).1).1,(q1 k o (p1 k o h).1).2.trans (p1 k o h).2⟩,fun id gh h=>q2 id gh (p2 id gh h)⟩,h4.held⟩,h5,h6,h7,h8,q1,q2⟩
    have hg:bO E w1 aP (Tk fn args objs next) { tmps:=vals.toArray++Array.replicate (fn.ntmps-vals.toArray.size) undef,defers:=[] } w ι ro:={
     base:=⟨hb.below,hb.aT,hb.qN,hb.tO,rfl,(fun q hq=>by cases hq;exact⟨fun k o h=>⟨h,rfl⟩,fun _ _ h=>h⟩),hb.held⟩
     size:=by simp[Tk,hlen]
     tmps:=fun t x hl=>by
      obtain⟨_,y,hy,rfl⟩:=Z7 hl;rw[amg]at hy;have hlt:t<vals.length:=by rw[hlen];exact(List.getElem?_eq_some_iff.1 hy).1
      have hv:=aaz hlt;refine⟨vals[t],by simp[anq,hlt],?_⟩;have hr:aO E w ro ι vals[t] y:=hargs t _ y hv hy;cases hcy:dU y with
      | true=>exact aO.any _
      | false =>rw[cond_false];cases y<;>first | exact hr | cases hcy
     objs:=ho
     inj:=hi
     fresh:=hfr
     ids:=kP }
    exact Tm (n:=(Tk fn args objs next).n) hO' dM c (Tk fn args objs next) (auH fn k) _ _ w _ ro (Tn args 0) hg rfl h
     fun e S' a' w' ι' ro' _ h2 _ h4=>aoV h2 h4 rfl
   ·cases h
  ·cases h
theorem ahk{O:aI E}(hO:aK E O)(dM:P.follows .mixedOrders=true){Mq:List (FuncId×Func)}{hs:List (FuncId×Hint E)}{d:Nat}(ht:Mr P Mq):aK E (Z6 O Mq hs d):=⟨hO.1,hO.2.1,hO.2.2.1,hO.2.2.2.1,ark hO dM ht d,hO.2.2.2.2.2⟩
end
end
end Go.Proofs.YtclnniijooeajaaGreatDoor.bg
namespace Go.Proofs.YtclnniijooeajaaGreatDoor.bg
open Go Go.RowKit
section
section
variable {P:Program} {E:Env P}
def Iw(fn:Func)(t:E.Ty)(x:E.Den t)(rest:List (TV E)):au E:=⟨(rest.length+1)+(fn.ntmps-(rest.length+1)),(0,.ptr 0 0)::Qc rest 1,[(0,.box ((E.cells t x).map .d))],1⟩
def auI(t:E.Ty)(fn:Func)(S:au E):Option (List (TV E)):=match look S.objs 0 with
 | some (.box cs)=>(match afK t cs with
  | some y=>(match abT S fn.results.toList fn.resultTypes.toList with
   | some xs=>some (⟨t,y⟩::xs)
   | none=>none)
  | none=>none)
 | _=>none
def aoW(t:E.Ty)(fn:Func)(e:dN)(S:au E):Option (List (TV E)):=match e with
 | .exit _=>none
 | .goto _=>none
 | _=>auI t fn (yI S)
def Z8(O:aI E)(h:Hint E)(G:Nat->au E->Option (List (TV E)))(fn:Func)(t:E.Ty)(x:E.Den t)(rest:List (TV E)):Option (List (TV E)):=match fn.body with
 | some c=>mP O h G 0 c (Iw fn t x rest) (aoW t fn)
 | none=>none
def aoX(O:aI E)(h:Hint E)(G:Nat->au E->Option (List (TV E)))(fn:Func)(t:E.Ty)(j:Nat)(S:au E):Option (List (TV E)):=match fn.body with
 | some c=>ahd O h G c j S (aoW t fn)
 | none=>none
def ahl(g:Nat)(e0:TypeId):Gh:=⟨.pointer (some ⟨g,0,none⟩),0,e0,0,some g⟩
def ioB(g:Nat)(e0:TypeId):Nat->Option Gh:=fun id=>if id=0 then some (ahl g e0)else none
def stB(w:World)(g:Nat)(e0:TypeId):Start:=⟨w,some g,some ⟨w,fun _ _=>False,ioB g e0⟩,[],fun _=>none⟩
theorem arl{w:World}{g:Nat}{e0:TypeId}{own:Nat}(h:0<own):ZW own (stB w g e0):=fun q hq id gh hi=>by
 cases hq;simp only[ioB]at hi;split at hi
 ·omega
 ·cases hi
def aoY(E:Env P)(t:E.Ty)(g:Nat)(e0:TypeId)(res:List (TV E))(w:World)(ro:Nat->Nat->Prop)(ed:Ending)(w':World):Prop:=∃y rs,res=⟨t,y⟩::rs/\∃(v:Value) (vs':Array Value),ed = .returned v/\w.grownBy w' (some g)/\w'.heap[g]? = some (.cells vs' e0 (0,0)) /\
 oq E w' (fun k o=>ro k o\/(w.heap.size<=k/\k<w'.heap.size)) vs' (E.cells t y)/\pQ E w' (fun k o=>ro k o\/(w.heap.size<=k/\k<w'.heap.size)) v rs
def ahm(E:Env P)(fn:Func)(t:E.Ty)(g:Nat)(e0:TypeId)(res:List (TV E))(w:World)(ro:Nat->Nat->Prop):Exit->Act->World->Prop:=bodyPost P fn (aoY E t g e0 res w ro)
theorem az6{w:World}{ro:Nat->Nat->Prop}{vs:List Value}{rs:List (TV E)}(h:fQ E w ro vs rs):pQ E w ro (if h:vs.length=1 then vs[0]else .tuple vs.toArray) rs:=by
 have hl:=(fQ.at_ vs rs h).1;unfold pQ;split
 ·rename_i t x
  match vs,hl,h with
  | [v],_,hm=>exact hm.1
 ·rename_i hne;by_cases h1:vs.length=1
  ·exfalso
   match rs,hl.symm.trans h1,hne with
   | [⟨t,x⟩],_,hne=>exact hne t x rfl
  ·rw[dif_neg h1];exact⟨vs,rfl,h⟩
theorem adQ{w:World}{ro ro':Nat->Nat->Prop}(h0:∀k o,ro k o->ro' k o):∀{vs:List Value} {rs:List (TV E)},fQ E w ro vs rs->fQ E w ro' vs rs
 | [],[],h=>h
 | _::_,_::_,h=>⟨h.1.mono h0 (fun _ _ _=>rfl),adQ h0 h.2⟩
 | [],_::_,h=>h.elim
 | _::_,[],h=>h.elim
theorem Z9{fn:Func}{t:E.Ty}{g:Nat}{e0:TypeId}{res:List (TV E)}{w:World}{ro:Nat->Nat->Prop}{e:dN}{S':au E}{a':Act}{w':World}{ι':Nat->Option Gh}{ro':Nat->Nat->Prop}(hnc':aR S'.tmps)(hg':bO E (stB w g e0) ro S' a' w' ι' ro')(hk:aoW t fn e S'=some res) :
  ahm E fn t g e0 res w ro e.toExit a' w':=by
 obtain⟨_,hg'⟩:=CX hnc' hg';generalize P9 S'.objs ι' ro'=ro' at hg';have fin:auI t fn (yI S')=some res->a'.defers=[]/\∃v,(results fn a'.tmps).run P w' = .ok v w'/\aoY E t g e0 res w ro (.returned v) w':=by
  intro hres;unfold auI at hres;split at hres
  ·rename_i cs bW;split at hres
   ·rename_i y hy;split at hres
    ·rename_i xs hxs;cases hres;obtain⟨vs,hvs,hrep⟩:=Yc hg' hxs;obtain⟨gh,g',vs',e',hi,hgv,hblk,hh,hsz,hcell,iw,hge⟩:=hg'.objs 0 _ bW;have hi0:ι' 0=some (ahl g e0):=(hg'.base.keep _ rfl).2 0 (ahl g e0) rfl;rw[hi0]at hi;cases hi;have e1:g'=g:=by
      have h:(some g:Option Nat)=some g':=hblk;exact(Option.some.inj h).symm
     subst e1;have e2:e'=e0:=hge.symm;subst e2;have hro:∀k o,ro' k o->ro k o\/(w.heap.size<=k/\k<w'.heap.size):=fun k o hk=>by
      rcases hg'.base.qN k o hk with h | h | h
      ·exact .inl h
      ·exact .inr ⟨h,hg'.base.aT k o hk⟩
      ·have h:(some g':Option Nat)=some k:=h;cases h;exact absurd hk (iw o)
     refine⟨hg'.base.defers,if h:vs.length=1 then vs[0]else .tuple vs.toArray,?_,y,xs,rfl,_,vs',rfl,hg'.base.below,hh,?_,az6 (adQ hro hrep)⟩
     ·show(do let vs <- fn.results.mapM (Ya a'.tmps);pure (if h:vs.size=1 then vs[0]else .tuple vs):Sem Value).run P w'=_;rw[Array.mapM_eq_mapM_toList];simp only[Sem.run_bind,Sem.run_map,hvs];simp[Result.andThen]
     ·unfold afK at hy;split at hy
      ·rename_i ds hds;obtain⟨hl,hat⟩:=toDs_rep (vs:=vs') hds;refine oq.mono hro (fun _ _ _=>rfl) (oq.le (E.vF t ds y hy) ⟨by rw[hsz,hl],fun j u d hu hd=>?_⟩);have hj:j<cs.length:=by rw[hl];exact(List.getElem?_eq_some_iff.1 hd).1
       exact toD_rep (hcell j u _ hu (aaz hj)).2 (hat j _ d (aaz hj) hd)
      ·cases hy
    ·cases hres
   ·cases hres
  ·cases hres
 cases e with
 | normal=>exact fin hk
 | ret=>exact fin hk
 | exit id=>cases hk
 | goto l=>cases hk
def EvB(E:Env P)(fn:Func)(t:E.Ty)(res:List (TV E))(i:Nat)(S:au E):Prop :=
 ∀(w0:World) (g:Nat) (e0:TypeId) aP n c,fn.body=some c->Tj E (stB w0 g e0) aP n c (ahm E fn t g e0 res w0 aP) i S
open Classical in
def GrB(E:Env P)(fn:Func)(t:E.Ty)(res:List (TV E))(i:Nat)(S:au E):Option (List (TV E)):=if EvB E fn t res i S then some res else none
theorem az7{fn:Func}{t:E.Ty}{res:List (TV E)}{i:Nat}{S:au E}(h:EvB E fn t res i S):GrB E fn t res i S=some res:=if_pos h
theorem arn{fn:Func}{t:E.Ty}{res r:List (TV E)}{i:Nat}{S:au E}(h:GrB E fn t res i S=some r):EvB E fn t r i S:=by unfold GrB at h;grind
variable {O:aI E} {h:Hint E}
theorem EvB.step(hO:aK E O)(dM:P.follows .mixedOrders=true)(ho:0<h.own){fn:Func}{t:E.Ty}{res:List (TV E)}{j:Nat}{S:au E}(hs:aoX O h (GrB E fn t res) fn t j S=some res):EvB E fn t res j S:=by intro w0 g e0 aP n c hc;unfold aoX at hs;rw[hc]at hs;exact Qe hO dM (fun i S hi=>⟨arl ho,arn hi w0 g e0 aP n c hc⟩) (fun e S' a' w' ι' ro' h1 h2 _ h4=>Z9 h1 h2 h4) hs
theorem aeX(args:List (TV E))(i:Nat):aR ((0,Dn.ptr i 0)::Qc args 1):=fun p hp=>by
 cases hp with
 | head=>rfl
 | tail _ hp=>exact Kw args 1 p hp
theorem WV(hO:aK E O)(dM:P.follows .mixedOrders=true)(ho:0<h.own){f:FuncId}{fn:Func}(hf:P.funcs[f]? = some fn){t:E.Ty}{x y:E.Den t}{rest res:List (TV E)}(hr:Z8 O h (GrB E fn t (⟨t,y⟩::res)) fn t x rest=some (⟨t,y⟩::res)):X3 E f t x rest y res:=by
 unfold Z8 at hr;split at hr
 ·rename_i c hc;intro w ro g e0 vs vals hh hrow iw hargs kH;obtain⟨hlen,hat⟩:=fQ.at_ vals rest hargs;have abK:g<w.heap.size:=by
   grind
  refine(calls_of_wp (R:=aoY E t g e0 (⟨t,y⟩::res) w ro) hf hc ?_).mono fun e w' he=>by obtain⟨y',rs,h0,h1⟩:=he;cases h0;exact h1
  have hg:bO E (stB w g e0) ro (Iw fn t x rest) { tmps:=(.pointer (some ⟨g,0,none⟩)::vals).toArray++Array.replicate (fn.ntmps-(Value.pointer (some ⟨g,0,none⟩)::vals).toArray.size) undef,defers:=[] } w (ioB g e0) ro:={
   base:=⟨⟨rfl,rfl,rfl,abn _,fun _ _ _=>rfl⟩,kH,fun k o h=>.inl h,(fun id gh k h hb=>by
    simp only[ioB]at h;split at h
    ·cases h;have hb:(some g:Option Nat)=some k:=hb;cases hb;exact⟨.inr rfl,abK⟩
    ·cases h),rfl,(fun q h=>by cases h;exact⟨fun _ _ h=>h.elim,fun _ _ h=>h⟩),(fun k o h=>by cases h)⟩
   size:=by simp[Iw,hlen]
   tmps:=fun q z hl=>by
    simp only[Iw,aX]at hl;split at hl
    ·rename_i hb;have:=aaF hb;subst this;cases hl;exact⟨.pointer (some ⟨g,0,none⟩),by simp[anq],.ptr (ahl g e0) g 0 0 rfl rfl⟩
    ·obtain⟨h1,y,hy,rfl⟩:=Qf hl;obtain⟨m,rfl⟩:∃m,q=m+1:=⟨q-1,by omega⟩
     rw[Nat.add_sub_cancel]at hy;have hlt:m<vals.length:=by rw[hlen];exact(List.getElem?_eq_some_iff.1 hy).1
     have hv:=aaz hlt;refine⟨vals[m],by simp[anq,hlt],?_⟩;have hr:aO E w ro (ioB g e0) vals[m] (gV y.1 y.2):=qR (hat m _ y hv hy);have hc:=vJ (E:=E) (t:=y.1) (x:=y.2);generalize gV y.1 y.2=z at hr hc;cases z<;>first | exact hr | cases hc
   objs:=fun id o hl=>by
    simp only[Iw,look_nil,aX]at hl;split at hl
    ·rename_i hb;have:=aaF hb;subst this;cases hl;refine⟨ahl g e0,g,vs,e0,rfl,rfl,rfl,hh,by rw[hrow.1,List.length_map],fun j u q hu hq=>?_,iw,rfl⟩;rw[adT]at hq;cases hj:(E.cells t x)[j]? with
     | none=>rw[hj]at hq;cases hq
     | some d =>rw[hj]at hq;cases hq;have:=hrow.2 j u d hu hj;exact⟨this.one,.d _ _ this⟩
    ·cases hl
   inj:=fun id id' o o' g1 g2 k hl hl' _ _ h1 h2 _ _=>by simp only[ioB]at h1 h2;grind
   fresh:=fun id h=>by have h:1<=id:=h;exact if_neg (by omega)
   ids:=fun id o hl=>by
    simp only[Iw,look_nil,aX]at hl;split at hl
    ·rename_i hb;have:=aaF hb;show id<1;omega
    ·cases hl }
  exact rF (n:=(Iw fn t x rest).n) (Q0:=ahm E fn t g e0 (⟨t,y⟩::res) w ro) (c0:=c) hO dM (fun i S hi=>⟨arl ho,arn hi w g e0 ro _ c hc⟩) c 0 (Iw fn t x rest) (aoW t fn) _ _ w _ ro Placed.whole (fun _=>rfl) (aeX rest 0) hg rfl hr
   fun e S' a' w' ι' ro' h1 h2 _ h4=>Z9 h1 h2 h4
 ·cases hr
abbrev WW(E:Env P):=(t:E.Ty)×(E.Den t->List (TV E)->Option (Bool×E.Den t×List (TV E)))
def az8(p:WW E)(t:E.Ty)(x:E.Den t)(args:List (TV E)):Option (Bool×E.Den t×List (TV E)):=match E.dec t p.1 with
 | .isTrue h=>(match p.2 (h▸x) args with
  | some (ok,y,res)=>some (ok,h▸y,res)
  | none=>none)
 | .isFalse _=>none
def aac(O:aI E)(l:List (FuncId×WW E)):aI E:={ O with
 auc:=fun f=>(match look l f with
  | some p=>some p.1
  | none=>none)
 aud:=fun f t x args=>(match look l f with
  | some p=>az8 p t x args
  | none=>none) }
def Qi (P:Program) (f:FuncId) (fn:Func):Prop:=P.funcs[f]? = some fn/\(fn.name == "runtime.NumGoroutine")=false/\fn.body.isNone=false
def VQ(E:Env P)(f:FuncId)(p:WW E):Prop:=(∃fn,Qi P f fn)/\∀x args y res,p.2 x args=some (true,y,res)->X3 E f p.1 x args y res
def KC(l:List (FuncId×WW E)):Prop:=∀p∈l,VQ E p.1 p.2
theorem KC.nil:KC (E:=E) []:=fun p h=>by cases h
theorem KC.cons{f:FuncId}{p:WW E}{l:List (FuncId×WW E)}(h:VQ E f p)(hl:KC l):KC ((f,p)::l):=fun q hq=>by
 cases hq with
 | head=>exact h
 | tail _ hq=>exact hl q hq
theorem auJ{O:aI E}(hO:aK E O){l:List (FuncId×WW E)}(hl:KC l):aK E (aac O l):=by
 refine⟨hO.1,hO.2.1,hO.2.2.1,hO.2.2.2.1,hO.2.2.2.2.1,hO.2.2.2.2.2.1,hO.2.2.2.2.2.2.1,fun f t x args y res h=>?_,hO.2.2.2.2.2.2.2.2⟩;simp only[aac]at h;split at h
 ·rename_i p hp;have hb:=hl _ (jQ _ _ _ hp);refine⟨hb.1,?_⟩;unfold az8 at h;split at h
  ·rename_i e _;subst e;split at h
   ·rename_i ok y' res' hq;cases h;exact hb.2 x args _ _ hq
   ·cases h
  ·cases h
 ·cases h
def avA:Arg E->AV E
 | .v x=>gV x.1 x.2
 | .c f p q=>SE f (p.map fun y=>gV y.1 y.2) (q.map fun y=>gV y.1 y.2)
def aad:List (Arg E)->Nat->List (Nat×AV E)
 | [],_=>[]
 | y::r,i=>(i,avA y)::aad r (i+1)
def Tp(fn:Func)(args:List (Arg E)):au E:=⟨args.length+(fn.ntmps-args.length),aad args 0,[],0⟩
def afZ(O:aI E)(h:Hint E)(G:Nat->au E->Option (List (TV E)))(fn:Func)(args:List (Arg E)):Option (List (TV E)):=match fn.body with
 | some c=>mP O h G 0 c (Tp fn args) (Ku fn)
 | none=>none
theorem adR{w:World}{ro:Nat->Nat->Prop}{ι:Nat->Option Gh}{vs:Array Value}{p:List (TV E)}(h:fQ E w ro vs.toList p):vs.size=(p.map fun y=>gV y.1 y.2).length/\∀(j:Nat) v c,vs[j]? = some v->(p.map fun y=>gV y.1 y.2)[j]? = some c->aO E w ro ι v c:=by
 obtain⟨h1,h2⟩:=fQ.at_ _ _ h;refine⟨by simpa using h1,fun j v c hv hc=>?_⟩;rw[adT]at hc;cases hj:p[j]? with
 | none=>rw[hj]at hc;cases hc
 | some y=>rw[hj]at hc;cases hc;exact qR (h2 j v y (by simpa using hv) hj)
theorem axS{w:World}{ro:Nat->Nat->Prop}{ι:Nat->Option Gh}{v:Value}{y:Arg E}(h:aoj E w ro v y):aO E w ro ι v (avA y)/\dU (avA y)=false:=by
 cases y with
 | v x=>exact⟨qR h,vJ⟩
 | c f p q =>
  obtain⟨vs,us,rfl,hp,hq⟩:=h;obtain⟨p1,p2⟩:=adR (ι:=ι) hp;obtain⟨q1,q2⟩:=adR (ι:=ι) hq;show aO E w ro ι _ (SE f (p.map fun y=>gV y.1 y.2) (q.map fun y=>gV y.1 y.2))/\dU (SE f (p.map fun y=>gV y.1 y.2) (q.map fun y=>gV y.1 y.2))=false;generalize (p.map fun y=>gV y.1 y.2)=a at p1 p2 ⊢;generalize (q.map fun y=>gV y.1 y.2)=b at q1 q2 ⊢
  match a,b,p1,p2,q1,q2 with
  | [],[],p1,_,q1,_ =>have e1:vs = #[]:=ajb p1;have e2:us = #[]:=ajb q1;subst e1;subst e2;exact⟨.d _ _ (.raw _ rfl),rfl⟩
  | x::a,b,p1,p2,q1,q2=>exact⟨.fn f vs us (x::a) b p1 q1 p2 q2,rfl⟩
  | [],x::b,p1,p2,q1,q2=>exact⟨.fn f vs us [] (x::b) p1 q1 p2 q2,rfl⟩
theorem aae:∀{args:List (Arg E)} {i t:Nat} {x:AV E},look (aad args i) t=some x->i<=t/\∃y,args[t-i]? = some y/\x=avA y
 | [],_,_,_,h=>by cases h
 | y::r,i,t,x,h=>by
  simp only[aad,aX]at h;split at h
  ·rename_i hb;have:=aaF hb;grind
  ·rename_i hb;obtain⟨h1,z,h2,h3⟩:=aae h;grind
theorem aoZ(y:Arg E):dU (avA y)=false:=by
 cases y with
 | v x=>exact vJ
 | c f p q =>show dU (SE f _ _)=false;unfold SE;split<;>rfl
theorem Tq:∀(args:List (Arg E)) (i:Nat),aR (aad args i)
 | [],_=>fun p h=>by cases h
 | y::r,i=>fun p h=>by
  cases h with
  | head=>exact aoZ y
  | tail _ h=>exact Tq r (i+1) p h
theorem adS(hO:aK E O)(dM:P.follows .mixedOrders=true){f:FuncId}{fn:Func}(hf:P.funcs[f]? = some fn){args:List (Arg E)}{res:List (TV E)}(hr:afZ O h (Gr E fn res) fn args=some res):ZG E f args res:=by
 unfold afZ at hr;split at hr
 ·rename_i c hc;intro w ro vals hlen hat kH;refine calls_of_wp hf hc ?_;have hg:bO E ⟨w,none,none,[],fun _=>none⟩ ro (Tp fn args) { tmps:=vals.toArray++Array.replicate (fn.ntmps-vals.toArray.size) undef,defers:=[] } w (fun _=>none) ro:={
   base:=⟨⟨rfl,rfl,rfl,abn _,fun _ _ _=>rfl⟩,kH,fun k o h=>.inl h,(fun id gh k h=>by cases h),rfl,(fun q h=>by cases h),(fun k o h=>by cases h)⟩
   size:=by simp[Tp,hlen]
   tmps:=fun t x hl=>by
    obtain⟨_,y,hy,rfl⟩:=aae hl;rw[amg]at hy;have hlt:t<vals.length:=by rw[hlen];exact(List.getElem?_eq_some_iff.1 hy).1
    have hv:=aaz hlt;refine⟨vals[t],by simp[anq,hlt],?_⟩;obtain⟨hr,hc⟩:=axS (ι:=fun _=>none) (hat t _ y hv hy);generalize avA y=z at hr hc;cases z<;>first | exact hr | cases hc
   objs:=fun id o hl=>by cases hl
   inj:=fun id id' o o' gh bq k hl=>by cases hl
   fresh:=fun _ _=>rfl
   ids:=fun id o hl=>by cases hl }
  exact rF (n:=(Tp fn args).n) (Q0:=afX E fn res w ro) (c0:=c) hO dM (fun i S hi=>⟨.none rfl,aoN hi w ro _ c hc⟩) c 0 (Tp fn args) (Ku fn) _ _ w _ ro Placed.whole (fun _=>rfl) (Tq args 0) hg rfl hr
   fun e S' a' w' ι' ro' h1 h2 _ h4=>EN h1 h2 h4
 ·cases hr
abbrev Oh(E:Env P):=List (yX E)×(List (Arg E)->Option (Bool×List (TV E)))
def aho(f:FuncId):List (FuncId×Oh E)->List (Oh E)
 | []=>[]
 | p::r=>(match Nat.beq p.1 f with
  | true=>p.2::aho f r
  | false=>aho f r)
def af0(O:aI E)(l:List (FuncId×Oh E)):aI E:={ O with cla:=fun f=>aho f l }
def AOk(E:Env P)(f:FuncId)(p:Oh E):Prop:=(∃fn,Qi P f fn)/\∀xs res,p.2 xs=some (true,res)->ZG E f xs res
def Yd(l:List (FuncId×Oh E)):Prop:=∀p∈l,AOk E p.1 p.2
theorem Yd.nil:Yd (E:=E) []:=fun p h=>by cases h
theorem Yd.cons{f:FuncId}{p:Oh E}{l:List (FuncId×Oh E)}(h:AOk E f p)(hl:Yd l):Yd ((f,p)::l):=fun q hq=>by
 cases hq with
 | head=>exact h
 | tail _ hq=>exact hl q hq
theorem Ye{f:FuncId}{p:Oh E}:∀{l:List (FuncId×Oh E)},p∈aho f l->(f,p)∈l
 | [],h=>by cases h
 | q::r,h=>by
  unfold aho at h;split at h
  ·rename_i hb;have:=aaF hb;cases h with
   | head=>rw[<- this];exact abd
   | tail _ h=>exact abb _ (Ye h)
  ·exact abb _ (Ye h)
theorem auK{O:aI E}(hO:aK E O){l:List (FuncId×Oh E)}(hl:Yd l):aK E (af0 O l) :=
 ⟨hO.1,hO.2.1,hO.2.2.1,hO.2.2.2.1,hO.2.2.2.2.1,hO.2.2.2.2.2.1,hO.2.2.2.2.2.2.1,hO.2.2.2.2.2.2.2.1,fun f p xs res hp h=>by have:=hl _ (Ye hp);exact⟨this.1,this.2 xs res h⟩⟩
end
end
end Go.Proofs.YtclnniijooeajaaGreatDoor.bg
namespace Go.Proofs.YtclnniijooeajaaGreatDoor.bg
open Go Go.RowKit
section
inductive Tr (ρ σ:Type) where
 | k (r:ρ)
 | g (s:σ)
 | n
def Tr.el{ρ σ τ:Type}(k:ρ->τ)(g:σ->τ)(n:τ):Tr ρ σ->τ
 | .k r=>k r
 | .g s=>g s
 | .n=>n
class Df (α:Type) where
 d:α
instance:Df Int:=⟨0⟩
instance:Df Nat:=⟨0⟩
instance:Df Bool:=⟨false⟩
instance:Df Unit:=⟨()⟩
instance {α:Type}:Df (List α):=⟨[]⟩
instance {α β:Type} [Df α] [Df β]:Df (α×β):=⟨(Df.d,Df.d)⟩
section
variable {α τ:Type} [Df α]
def gv(o:Option α):α:=o.getD Df.d
def cl(o:Option α)(n:τ)(f:α->τ):τ:=bif o.isSome then f (o.getD Df.d)else n
def fZ{β:Type}(l:List β)(i:Int):Bool:=decide ((0:Int)<=i)&&decide (i<(l.length:Int))
def ix(l:List α)(i:Int)(n:τ)(f:α->τ):τ:=bif decide ((0:Int)<=i)&&decide (i<(l.length:Int))then f (l.getD i.toNat Df.d)else n
end
def Oi{τ:Type}(l:aqO)(i:Int)(n:τ)(f:Int->τ):τ:=bif decide ((0:Int)<=i)&&decide (i<(l.length:Int))then f (((l.getD i.toNat 0).toNat:Nat):Int)else n
def mQ(i:Int):Nat:=0+i.toNat*1
theorem ahp(i:Int):mQ i=i.toNat:=by unfold mQ;omega
def ck{τ:Type}(b:Bool)(n x:τ):τ:=bif b then x else n
def cut{α:Type}(l:List α)(a b:Int):List α:=List.take (b.toNat-a.toNat) (List.drop a.toNat l)
def bN{α:Type}(l:List α)(a b:Int):Bool:=decide ((0:Int)<=a)&&decide (a<=b)&&decide (b<=(l.length:Int))
def aF(a b:Int):Bool:=decide (a<b)
def bV(a b:Int):Bool:=decide (a<=b)
def aC{α:Type}(l:List α):Int:=(l.length:Int)
def sH(l:aqO)(i:Int):Int:=(((List.getD l (Int.toNat i) 0).toNat:Nat):Int)
def zL{α:Type}(l:List α)(i:Int)(d:α):α:=List.getD l (Int.toNat i) d
def aL(a b:Bool):Bool:=bif a then true else b
def aab(a b:Bool):Bool:=bif a then b else false
theorem bB:(∀a b:Int,aF a b=decide (a<b))/\(∀a b:Int,bV a b=decide (a<=b))/\(∀(α:Type) (l:List α),aC l=(l.length:Int))/\(∀(l:aqO) (i:Int),sH l i=(((List.getD l (Int.toNat i) 0).toNat:Nat):Int))/\(∀(α:Type) (l:List α) (i:Int) (d:α),zL l i d=List.getD l (Int.toNat i) d) /\
  (∀a b:Bool,aL a b=bif a then true else b)/\∀a b:Bool,aab a b=bif a then b else false:=⟨fun _ _=>rfl,fun _ _=>rfl,fun _ _=>rfl,fun _ _=>rfl,fun _ _ _ _=>rfl,fun _ _=>rfl,fun _ _=>rfl⟩
section
variable {ρ σ τ:Type} {k:ρ->τ} {g:σ->τ} {n:τ}
theorem eK(r:ρ):(Tr.k r:Tr ρ σ).el k g n=k r:=rfl
theorem eG(s:σ):(Tr.g s:Tr ρ σ).el k g n=g s:=rfl
theorem eN:(Tr.n:Tr ρ σ).el k g n=n:=rfl
theorem eB(c:Bool)(a b:Tr ρ σ):(bif c then a else b).el k g n=bif c then a.el k g n else b.el k g n:=by cases c<;>rfl
theorem eC{α:Type}[Df α](o:Option α)(a:Tr ρ σ)(f:α->Tr ρ σ):(cl o a f).el k g n=cl o (a.el k g n) fun x=>(f x).el k g n:=by unfold cl;cases o<;>rfl
theorem eI{α:Type}[Df α](l:List α)(i:Int)(a:Tr ρ σ)(f:α->Tr ρ σ):(ix l i a f).el k g n=ix l i (a.el k g n) fun x=>(f x).el k g n:=by unfold ix;exact eB _ _ _
theorem eS(l:aqO)(i:Int)(a:Tr ρ σ)(f:Int->Tr ρ σ):(Oi l i a f).el k g n=Oi l i (a.el k g n) fun x=>(f x).el k g n:=by unfold Oi;exact eB _ _ _
theorem eJ(c:Bool)(a b:Tr ρ σ):(ck c a b).el k g n=ck c (a.el k g n) (b.el k g n):=by unfold ck;exact eB _ _ _
theorem eA:(∀r:ρ,(Tr.k r:Tr ρ σ).el k g n=k r)/\(∀s:σ,(Tr.g s:Tr ρ σ).el k g n=g s)/\((Tr.n:Tr ρ σ).el k g n=n)/\(∀(c:Bool) (a b:Tr ρ σ),(bif c then a else b).el k g n=bif c then a.el k g n else b.el k g n) /\
  (∀(α:Type) [Df α] (o:Option α) (a:Tr ρ σ) (f:α->Tr ρ σ),(cl o a f).el k g n=cl o (a.el k g n) fun x=>(f x).el k g n)/\(∀(α:Type) [Df α] (l:List α) (i:Int) (a:Tr ρ σ) (f:α->Tr ρ σ),(ix l i a f).el k g n=ix l i (a.el k g n) fun x=>(f x).el k g n) /\
  (∀(l:aqO) (i:Int) (a:Tr ρ σ) (f:Int->Tr ρ σ),(Oi l i a f).el k g n=Oi l i (a.el k g n) fun x=>(f x).el k g n)/\∀(c:Bool) (a b:Tr ρ σ),(ck c a b).el k g n=ck c (a.el k g n) (b.el k g n) :=
 ⟨eK,eG,eN,eB,fun _ _=>eC,fun _ _=>eI,eS,eJ⟩
end
section
variable {α τ:Type} [Df α]
theorem aH(x:α)(n:τ)(f:α->τ):cl (some x) n f=f x:=rfl
theorem fI(x:α):gv (some x)=x:=rfl
theorem av(n x:τ):ck true n x=x:=rfl
end
inductive Te (ρ σ:Type):Type 1 where
 | k (r:ρ)
 | g (s:σ)
 | n
 | b (c:Bool) (x y:Te ρ σ)
 | q (c:Bool) (x:Te ρ σ)
 | c {α:Type} [Df α] (o:Option α) (f:α->Te ρ σ)
 | i {α:Type} [Df α] (l:List α) (i:Int) (f:α->Te ρ σ)
 | s (l:aqO) (i:Int) (f:Int->Te ρ σ)
 | l {α:Type} (v:α) (f:α->Te ρ σ)
abbrev Tree(ρ σ:Type):=σ->Te ρ σ
def Te.run{ρ σ:Type}(τ:Type)(k:ρ->τ)(g:σ->τ)(n:τ)(t:Te ρ σ):τ :=
 Te.rec (motive:=fun _=>τ) k g n (fun c _ _ x y=>bif c then x else y) (fun c _ x=>ck c n x) (fun o _ f=>cl o n f) (fun l i _ f=>ix l i n f) (fun l i _ f=>Oi l i n f) (fun v _ f=>f v) t
section
variable {ρ σ τ:Type} {k:ρ->τ} {g:σ->τ} {n:τ}
theorem aN:(∀r:ρ,(Te.k r:Te ρ σ).run τ k g n=k r)/\(∀s:σ,(Te.g s:Te ρ σ).run τ k g n=g s)/\((Te.n:Te ρ σ).run τ k g n=n)/\(∀(c:Bool) (x y:Te ρ σ),(Te.b c x y).run τ k g n=bif c then x.run τ k g n else y.run τ k g n) /\
  (∀(c:Bool) (x:Te ρ σ),(Te.q c x).run τ k g n=ck c n (x.run τ k g n))/\(∀(α:Type) [Df α] (o:Option α) (f:α->Te ρ σ),(Te.c o f).run τ k g n=cl o n fun x=>(f x).run τ k g n)/\(∀(α:Type) [Df α] (l:List α) (i:Int) (f:α->Te ρ σ),(Te.i l i f).run τ k g n=ix l i n fun x=>(f x).run τ k g n) /\
  (∀(l:aqO) (i:Int) (f:Int->Te ρ σ),(Te.s l i f).run τ k g n=Oi l i n fun x=>(f x).run τ k g n)/\∀(α:Type) (v:α) (f:α->Te ρ σ),(Te.l v f).run τ k g n=(f v).run τ k g n :=
 ⟨fun _=>rfl,fun _=>rfl,rfl,fun _ _ _=>rfl,fun _ _=>rfl,fun _ _ _ _=>rfl,fun _ _ _ _ _=>rfl,fun _ _ _=>rfl,fun _ _ _=>rfl⟩
theorem Te.nat(t:Te ρ σ):t.run τ k g n=(t.run (Tr ρ σ) Tr.k Tr.g Tr.n).el k g n:=by
 induction t with
 | b c x y h1 h2=>simp only[aN,eA,h1,h2]
 | q c x h=>simp only[aN,eA,h]
 | c o f h=>simp only[aN,eA,h]
 | i l i f h=>simp only[aN,eA,h]
 | s l i f h=>simp only[aN,eA,h]
 | l v f h=>exact h v
 | _=>rfl
end
def Tt{ρ σ:Type}(t:Tree ρ σ):Nat->σ->Option ρ
 | 0,_=>none
 | f+1,s=>(t s).run (Option ρ) some (Tt t f) none
def GY:Nat:=1000000000000000000000000000000
def mu{ρ σ:Type}(t:Tree ρ σ)(s:σ):Option ρ:=Tt t GY s
def Te.o{ρ:Type}(t:Te ρ Empty):Option ρ:=t.run (Option ρ) some (fun e=>nomatch e) none
section
variable {ρ σ:Type} {t:Tree ρ σ}
theorem ahq:∀(f:Nat) (s:σ) (r:ρ),Tt t f s=some r->∀f',f<=f'->Tt t f' s=some r
 | 0,_,_,h,_,_=>by cases h
 | f+1,s,r,h,0,hf=>by omega
 | f+1,s,r,h,f'+1,hf=>by
  simp only[Tt]at h ⊢;rw[Te.nat]at h ⊢;cases ht:(t s).run _ Tr.k Tr.g Tr.n with
  | k r'=>rw[ht]at h;exact h
  | n=>rw[ht]at h;cases h
  | g s'=>rw[ht]at h;exact ahq f s' r h f' (by omega)
theorem Te.ao0{t:Te ρ Empty}{r:ρ}(h:t.o=some r){τ:Type}{k:ρ->τ}{g:Empty->τ}{n:τ}:t.run τ k g n=k r:=by
 rw[Te.o,Te.nat]at h;rw[Te.nat];cases ht:t.run _ Tr.k Tr.g Tr.n with
 | k r'=>rw[ht]at h;cases h;rfl
 | n=>rw[ht]at h;cases h
 | g s'=>cases s'
end
section
variable {ρ σ:Type} {t:Tree ρ σ}
theorem Te.prop{t:Te ρ σ}{k:ρ->Prop}{g:σ->Prop}(h:t.run Prop k g False):(∃r,t.run (Tr ρ σ) Tr.k Tr.g Tr.n = .k r/\k r)\/∃s',t.run (Tr ρ σ) Tr.k Tr.g Tr.n = .g s'/\g s':=by
 rw[Te.nat]at h;cases ht:t.run (Tr ρ σ) Tr.k Tr.g Tr.n with
 | k r=>rw[ht]at h;exact .inl ⟨r,rfl,h⟩
 | g s'=>rw[ht]at h;exact .inr ⟨s',rfl,h⟩
 | n=>rw[ht]at h;exact h.elim
theorem come{m:Option ρ}{s:σ}(Q:ρ->Prop)(hm:m=mu t s)(I:σ->Prop)(M:σ->Nat)(hs:I s)(hM:M s<1000000000000000000000000000000)(h:∀s,I s->(t s).run Prop Q (fun s'=>I s'/\M s'<M s) False):∃r,m=some r/\Q r:=by
 have go:∀n s,M s<n->I s->∃r,Tt t n s=some r/\Q r:=by
  intro n
  induction n with
  | zero=>intro s h0;omega
  | succ n ih =>
   intro s h0 hs;simp only[Tt];rw[Te.nat];rcases Te.prop (h s hs)with⟨r,e,h2⟩ | ⟨s',e,h2,h3⟩
   ·rw[e];exact⟨r,rfl,h2⟩
   ·rw[e];exact ih s' (by omega) h2
 obtain⟨r,h1,h2⟩:=go (M s+1) s (Nat.lt_succ_self _) hs;exact⟨r,hm.trans (ahq _ _ _ h1 _ (show M s+1<=GY by unfold GY;omega)),h2⟩
theorem awq{m:Option ρ}{t:Te ρ Empty}(Q:ρ->Prop)(hm:m=t.o)(h:t.run Prop Q (fun _=>False) False):∃r,m=some r/\Q r:=by
 subst hm;rcases Te.prop h with⟨r,e,h2⟩ | ⟨s',_,h2⟩
 ·rw[Te.o,Te.nat,e];exact⟨r,rfl,h2⟩
 ·exact h2.elim
end
section
variable {α:Type} [Df α]
theorem wB(c:Bool)(a b:Prop):(bif c then a else b)=((c=true->a)/\(c=false->b)):=by cases c<;>simp
theorem wK(c:Bool)(a:Prop):ck c False a=(c=true/\a):=by unfold ck;cases c<;>simp
theorem wI(l:List α)(i:Int)(f:α->Prop):ix l i False f=(0<=i/\i<(l.length:Int)/\f (l.getD i.toNat Df.d)):=by unfold ix;rw[wB];simp;exact⟨fun⟨h1,h2⟩=>⟨h2.1,h2.2,h1 h2.1 h2.2⟩,fun⟨h1,h2,h3⟩=>⟨fun _ _=>h3,h1,h2⟩⟩
theorem wS(l:aqO)(i:Int)(f:Int->Prop):Oi l i False f=(0<=i/\i<(l.length:Int)/\f ((l.getD i.toNat 0).toNat:Int)):=by unfold Oi;rw[wB];simp;exact⟨fun⟨h1,h2⟩=>⟨h2.1,h2.2,h1 h2.1 h2.2⟩,fun⟨h1,h2,h3⟩=>⟨fun _ _=>h3,h1,h2⟩⟩
theorem wC(o:Option α)(f:α->Prop):cl o False f=∃r,o=some r/\f r:=by
 cases o with
 | none=>simp[cl]
 | some r=>simp[cl]
end
section
variable {P:Program} {E:Env P}
inductive Hd (E:Env P) where
 | e (args:List (TV E))
 | c (args:List (Arg E))
 | h (i:Nat) (S:au E)
inductive Md (E:Env P) where
 | fn
 | bx (t:E.Ty)
def MW(M:Md E)(O:aI E)(H:Hint E)(G:Nat->au E->Option (List (TV E)))(fn:Func)(s:Hd E):Option (List (TV E)):=match M,s with
 | .fn,.e args=>jR O H G fn args
 | .fn,.c args=>afZ O H G fn args
 | .fn,.h i S=>uG O H G fn i S
 | .bx t,.e args=>(match args with
  | v::args=>(match kJ t v with
   | some x=>Z8 O H G fn t x args
   | none=>none)
  | []=>none)
 | .bx t,.h i S=>aoX O H G fn t i S
 | .bx _,.c _=>none
def gH(M:Md E)(O:aI E)(H:Hint E)(G:Nat->au E->Option (List (TV E)))(fn:Func):Hd E->Option (List (TV E))
 | .e args=>MW M O H G fn (.e args)
 | .c args=>MW M O H G fn (.c args)
 | .h i S=>G i S
structure Runs {ρ σ:Type} (M:Md E) (O:aI E) (fn:Func) (H:Hint E) (C:σ->Hd E) (enc:ρ->List (TV E)) (t:Tree ρ σ):Prop where
 run:∀(s:σ) (G:Nat->au E->Option (List (TV E))),MW M O H G fn (C s)=(t s).run _ (fun r=>some (enc r)) (fun s=>gH M O H G fn (C s)) none
def GrX(M:Md E)(fn:Func)(res:List (TV E)):Nat->au E->Option (List (TV E)):=match M with
 | .fn=>Gr E fn res
 | .bx t=>GrB E fn t res
def EvX(M:Md E)(fn:Func)(res:List (TV E))(i:Nat)(S:au E):Prop:=match M with
 | .fn=>Ev E fn res i S
 | .bx t=>EvB E fn t res i S
def aEg(M:Md E)(O:aI E)(H:Hint E)(fn:Func)(res:List (TV E)):Hd E->Prop
 | .e args=>MW M O H (GrX M fn res) fn (.e args)=some res
 | .c args=>MW M O H (GrX M fn res) fn (.c args)=some res
 | .h i S=>EvX M fn res i S
theorem az9{M:Md E}{fn:Func}{res:List (TV E)}{i:Nat}{S:au E}(h:EvX M fn res i S):GrX M fn res i S=some res:=by
 cases M with
 | fn=>exact gG h
 | bx t=>exact az7 h
theorem EvX.step{M:Md E}{O:aI E}{H:Hint E}(hO:aK E O)(dM:P.follows .mixedOrders=true)(ho:M = .fn\/0<H.own){fn:Func}{res:List (TV E)}{i:Nat}{S:au E}(h:MW M O H (GrX M fn res) fn (.h i S)=some res):EvX M fn res i S:=by
 cases M with
 | fn=>exact Ev.step hO dM h
 | bx t=>exact EvB.step hO dM (ho.resolve_left (fun e=>by cases e)) h
theorem Runs.sound{ρ σ:Type}{M:Md E}{O:aI E}{fn:Func}{H:Hint E}{C:σ->Hd E}{enc:ρ->List (TV E)}{t:Tree ρ σ}(R:Runs M O fn H C enc t)(hO:aK E O)(dM:P.follows .mixedOrders=true)(ho:M = .fn\/0<H.own) :
  ∀(f:Nat) (s:σ) (r:ρ),Tt t f s=some r->aEg M O H fn (enc r) (C s)
 | 0,_,_,h=>by cases h
 | f+1,s,r,h=>by
  have h1:MW M O H (GrX M fn (enc r)) fn (C s)=some (enc r):=by
   rw[R.run,Te.nat];simp only[Tt]at h;rw[Te.nat]at h;cases ht:(t s).run _ Tr.k Tr.g Tr.n with
   | k r'=>rw[ht]at h;cases h;rfl
   | n=>rw[ht]at h;cases h
   | g s' =>
    rw[ht]at h;have ih:=R.sound hO dM ho f s' r h;show gH M O H _ fn (C s')=_;cases hc:C s' with
    | e args=>rw[hc]at ih;exact ih
    | c args=>rw[hc]at ih;exact ih
    | h i S=>rw[hc]at ih;exact az9 ih
  cases hc:C s with
  | e args=>rw[hc]at h1;exact h1
  | c args=>rw[hc]at h1;exact h1
  | h i S=>rw[hc]at h1;exact EvX.step hO dM ho h1
def Args(E:Env P):List E.Ty->Type
 | []=>Unit
 | [t]=>E.Den t
 | t::u::ts=>E.Den t×Args E (u::ts)
def kQ:(ts:List E.Ty)->Args E ts->List (TV E)
 | [],_=>[]
 | [t],x=>[⟨t,x⟩]
 | t::u::ts,x=>⟨t,x.1⟩::kQ (u::ts) x.2
def abX:(ts:List E.Ty)->List (TV E)->Option (Args E ts)
 | [],l=>(match l with
  | []=>some ()
  | _=>none)
 | [t],l=>(match l with
  | [v]=>kJ t v
  | _=>none)
 | t::u::ts,l=>(match l with
  | []=>none
  | v::vs=>(match kJ t v with
   | some x=>(match abX (u::ts) vs with
    | some y=>some (x,y)
    | none=>none)
   | none=>none))
def dfA:(ts:List E.Ty)->Args E ts
 | []=>()
 | [t]=>E.dflt t
 | t::u::ts=>(E.dflt t,dfA (u::ts))
theorem Oj:∀(ts:List E.Ty) (l:List (TV E)) (x:Args E ts),abX ts l=some x->l=kQ ts x
 | [],l,x=>by
  intro h
  match l,h with
  | [],_=>rfl
  | _::_,h=>cases(show none=some x from h)
 | [t],l,x=>by
  intro h
  match l,h with
  | [],h=>cases(show none=some x from h)
  | [v],h=>rw[iC (show kJ t v=some x from h)];rfl
  | _::_::_,h=>cases(show none=some x from h)
 | t::u::ts,l,x=>by
  intro h;unfold abX at h;split at h
  ·cases h
  ·split at h
   ·rename_i y hy;split at h
    ·rename_i z hz;cases h;rw[iC hy,Oj _ _ _ hz];rfl
    ·cases h
   ·cases h
theorem ao1{t:E.Ty}{x:E.Den t}:kJ t (⟨t,x⟩:TV E)=some x:=by
 unfold kJ L8;cases h:E.dec t t with
 | isTrue h=>rfl
 | isFalse h'=>exact absurd rfl h'
def fnG(ps rs:List E.Ty)(m:Args E ps->Option (Args E rs)):jC E:=fun l=>match abX ps l with
 | some x=>some ((m x).isSome,kQ rs ((m x).getD (dfA rs)))
 | none=>none
theorem aru{f:FuncId}{fn:Func}(ex:Qi P f fn){ps rs:List E.Ty}{m:Args E ps->Option (Args E rs)}(h:∀a r,m a=some r->DW E f (kQ ps a) (kQ rs r)):bG E f (fnG ps rs m) :=
 ⟨⟨fn,ex⟩,fun args res hr=>by
  unfold fnG at hr;split at hr
  ·rename_i x hx;rw[Oj _ _ _ hx];cases hm:m x with
   | none=>rw[hm]at hr;cases hr
   | some r=>rw[hm]at hr;cases hr;exact h x r hm
  ·cases hr⟩
theorem Runs.fn{ρ σ:Type}{O:aI E}{fn:Func}{H:Hint E}{C:σ->Hd E}{t:Tree ρ σ}{f:FuncId}{ps rs:List E.Ty}{enc:ρ->List (TV E)}(R:Runs .fn O fn H C enc t)(hO:aK E O)(dM:P.follows .mixedOrders=true)(ex:Qi P f fn)
  {st:Args E ps->σ} (hs:∀a,C (st a) = .e (kQ ps a)) {m:Args E ps->Option (Args E rs)} (hm:∀a r,m a=some r->∃r',mu t (st a)=some r'/\enc r'=kQ rs r):bG E f (fnG ps rs m) :=
 aru ex fun a r h=>by obtain⟨r',h1,h2⟩:=hm a r h;have:=R.sound hO dM (.inl rfl) GY _ _ h1;rw[hs a]at this;rw[<- h2];exact Qg hO dM ex.1 this
def WX(t:E.Ty)(ps rs:List E.Ty)(m:E.Den t->Args E ps->Option (E.Den t×Args E rs)):WW E:=⟨t,fun x l=>match abX ps l with
 | some a=>some ((m x a).isSome,((m x a).getD (E.dflt t,dfA rs)).1,kQ rs ((m x a).getD (E.dflt t,dfA rs)).2)
 | none=>none⟩
theorem auL{f:FuncId}{b:E.Ty}{ps rs:List E.Ty}(ex:∃fn,Qi P f fn):VQ E f (WX b ps rs fun _ _=>none) :=
 ⟨ex,fun(x:E.Den b) l y res h=>by
  simp only[WX]at h;split at h
  ·cases h
  ·cases h⟩
theorem Runs.bx{ρ σ:Type}{O:aI E}{fn:Func}{H:Hint E}{C:σ->Hd E}{t:Tree ρ σ}{f:FuncId}{b:E.Ty}{ps rs:List E.Ty}{enc:ρ->List (TV E)}(R:Runs (.bx b) O fn H C enc t)(hO:aK E O)(dM:P.follows .mixedOrders=true)(ho:0<H.own)(ex:Qi P f fn)
  {st:E.Den b->Args E ps->σ} (hs:∀x a,C (st x a) = .e (⟨b,x⟩::kQ ps a)) {m:E.Den b->Args E ps->Option (E.Den b×Args E rs)} (hm:∀x a r,m x a=some r->∃r',mu t (st x a)=some r'/\enc r'=⟨b,r.1⟩::kQ rs r.2):VQ E f (WX b ps rs m) :=
 ⟨⟨fn,ex⟩,fun(x:E.Den b) l y res h=>by
  simp only[WX]at h;split at h
  ·rename_i a ha;rw[Oj _ _ _ ha];cases hmm:m x a with
   | none=>rw[hmm]at h;cases h
   | some r =>rw[hmm]at h;cases h;obtain⟨r',h1,h2⟩:=hm x a r hmm;have:=R.sound hO dM (.inr ho) GY _ _ h1;rw[hs x a]at this;rw[h2]at this;have this:(match kJ b (⟨b,x⟩:TV E)with | some x=>Z8 O H (GrB E fn b (⟨b,r.1⟩::kQ rs r.2)) fn b x (kQ ps a) | none=>none)=some (⟨b,r.1⟩::kQ rs r.2):=this;rw[ao1]at this;exact WV hO dM ho ex.1 this
  ·cases h⟩
def Ay:List (yX E)->List E.Ty
 | []=>[]
 | .v t::r=>t::Ay r
 | .c _ ps qs::r=>ps++(qs++Ay r)
def VR:List (Arg E)->List (TV E)
 | []=>[]
 | .v x::r=>x::VR r
 | .c _ p q::r=>p++(q++VR r)
def Qj:List (yX E)->List (TV E)->List (Arg E)
 | [],_=>[]
 | .v _::r,l=>(match l with
  | x::l=>.v x::Qj r l
  | []=>[])
 | .c f ps qs::r,l=>.c f (l.take ps.length) ((l.drop ps.length).take qs.length)::Qj r ((l.drop ps.length).drop qs.length)
def Kc:List (yX E)->List (Arg E)->Bool
 | [],[]=>true
 | .v _::r,.v _::s=>Kc r s
 | .c f ps qs::r,.c f' p q::s=>Nat.beq f f'&&(Nat.beq ps.length p.length&&(Nat.beq qs.length q.length&&Kc r s))
 | _,_=>false
theorem Tv:∀(ss:List (yX E)) (xs:List (Arg E)),Kc ss xs=true->Qj ss (VR xs)=xs
 | [],[],_=>rfl
 | .v _::r,.v x::s,h=>by have h:Kc r s=true:=h;simp only[VR,Qj,Tv r s h]
 | .c f ps qs::r,.c f' p q::s,h=>by simp only[Kc,abj]at h;obtain⟨h1,h2,h3,h4⟩:=h;have h1:=aaF h1;have h2:=aaF h2;have h3:=aaF h3;subst h1;simp only[VR,Qj,h2,h3,List.take_left,List.drop_left,Tv r s h4]
 | [],_::_,h=>by cases h
 | .v _::_,[],h=>by cases h
 | .c _ _ _::_,[],h=>by cases h
 | .v _::_,.c _ _ _::_,h=>by cases h
 | .c _ _ _::_,.v _::_,h=>by cases h
def fnP(sh:List (yX E))(rs:List E.Ty)(m:Args E (Ay sh)->Option (Args E rs)):Oh E:=(sh,fun xs=>match Kc sh xs with
 | true=>(match abX (Ay sh) (VR xs)with
  | some a=>some ((m a).isSome,kQ rs ((m a).getD (dfA rs)))
  | none=>none)
 | false=>none)
theorem aok{f:FuncId}{fn:Func}{sh:List (yX E)}{rs:List E.Ty}{m:Args E (Ay sh)->Option (Args E rs)}(ex:Qi P f fn)(h:∀a r,m a=some r->ZG E f (Qj sh (kQ (Ay sh) a)) (kQ rs r)):AOk E f (fnP sh rs m) :=
 ⟨⟨fn,ex⟩,fun xs res hr=>by
  simp only[fnP]at hr;split at hr
  ·rename_i hsh;split at hr
   ·rename_i a ha;have e:=Tv sh xs hsh;rw[Oj _ _ _ ha]at e;cases hm:m a with
    | none=>rw[hm]at hr;cases hr
    | some r =>rw[hm]at hr;cases hr;exact e▸h a r hm
   ·cases hr
  ·cases hr⟩
theorem Runs.cl{ρ σ:Type}{O:aI E}{fn:Func}{H:Hint E}{C:σ->Hd E}{t:Tree ρ σ}{f:FuncId}{sh:List (yX E)}{rs:List E.Ty}{enc:ρ->List (TV E)}(R:Runs .fn O fn H C enc t)(hO:aK E O)(dM:P.follows .mixedOrders=true)(ex:Qi P f fn)
  {st:Args E (Ay sh)->σ} (hs:∀a,C (st a) = .c (Qj sh (kQ (Ay sh) a))) {m:Args E (Ay sh)->Option (Args E rs)} (hm:∀a r,m a=some r->∃r',mu t (st a)=some r'/\enc r'=kQ rs r):AOk E f (fnP sh rs m) :=
 aok ex fun a r h=>by obtain⟨r',h1,h2⟩:=hm a r h;have:=R.sound hO dM (.inl rfl) GY _ _ h1;rw[hs a]at this;rw[<- h2];exact adS hO dM ex.1 this
theorem JR {f:FuncId} {fn:Func} (e:P.funcs[f]? = some fn) (h:(fn.name == "runtime.NumGoroutine" || fn.body.isNone)=false):Qi P f fn:=⟨e,(Bool.or_eq_false_iff.1 h).1,(Bool.or_eq_false_iff.1 h).2⟩
structure tX (E:Env P) where
 w:List (FuncId×jC E)
 r:List (FuncId×WT E)
 u:List (FuncId×WU E)
 v:List (FuncId×E.Ty)
 i:List (FuncId×Func)
 h:List (FuncId×Hint E)
 b:List (FuncId×WW E)
 a:List (FuncId×Oh E)
 mix:P.follows .mixedOrders=true
 hw:Qh w
 hr:Dt r
 hu:KA u
 hv:Gf v
 hi:Mr P i
 hb:KC b
 ha:Yd a
namespace tX
def O(q:tX E):aI E:=af0 (aac (Z6 (jX q.w q.r q.u q.v) q.i q.h) q.b) q.a
theorem ok(q:tX E):aK E q.O:=auK (auJ (ahk (gq q.hw q.hr q.hu q.hv) q.mix q.hi) q.hb) q.ha
def e(m:P.follows .mixedOrders=true):tX E:=⟨[],[],[],[],[],[],[],[],m,.nil,.nil,.nil,.nil,.nil,.nil,.nil⟩
def W(q:tX E)(f:FuncId)(F:jC E)(k:bG E f F):tX E:={ q with w:=(f,F)::q.w,hw:=.cons k q.hw }
def R(q:tX E)(f:FuncId)(F:WT E)(k:Od E f F):tX E:={ q with r:=(f,F)::q.r,hr:=.cons k q.hr }
def V(q:tX E)(f:FuncId)(t:E.Ty)(k:ahi E f t):tX E:={ q with v:=(f,t)::q.v,hv:=.cons k q.hv }
def B(q:tX E)(f:FuncId)(F:WW E)(k:VQ E f F):tX E:={ q with b:=(f,F)::q.b,hb:=.cons k q.hb }
def A(q:tX E)(f:FuncId)(F:Oh E)(k:AOk E f F):tX E:={ q with a:=(f,F)::q.a,ha:=.cons k q.ha }
def I (q:tX E) (f:FuncId) {fn:Func} (k:P.funcs[f]? = some fn) (h:List (FuncId×Hint E):=[]) (n:(fn.name == "runtime.NumGoroutine" || fn.body.isNone)=false:=by kernel_rfl):tX E:={ q with i:=(f,fn)::q.i,h:=h++q.h,hi:=.cons k (JR k n).2.1 (JR k n).2.2 q.hi }
def or(p q:tX E):tX E:=⟨p.w++q.w,p.r++q.r,p.u++q.u,p.v++q.v,p.i++q.i,p.h++q.h,p.b++q.b,p.a++q.a,p.mix,fun x h=>(List.mem_append.1 h).elim (p.hw x) (q.hw x),fun x h=>(List.mem_append.1 h).elim (p.hr x) (q.hr x),fun x h=>(List.mem_append.1 h).elim (p.hu x) (q.hu x),fun x h=>(List.mem_append.1 h).elim (p.hv x) (q.hv x),fun x h=>(List.mem_append.1 h).elim (p.hi x) (q.hi x),fun x h=>(List.mem_append.1 h).elim (p.hb x) (q.hb x),fun x h=>(List.mem_append.1 h).elim (p.ha x) (q.ha x)⟩
theorem top(q:tX E){f:FuncId}{F:jC E}(h:q.w=(f,F)::q.w.tail):bG E f F:=q.hw (f,F) (by rw[h];exact abd)
section
variable (q:tX E) (f:FuncId) (ps rs:List E.Ty) {fn:Func} {σ:Type}
def f0 (t:Args E ps->Te (Args E rs) Empty) (e:P.funcs[f]? = some fn) (H:Hint E:={}) (n:(fn.name == "runtime.NumGoroutine" || fn.body.isNone)=false:=by kernel_rfl) (k:∀a G,jR q.O H G fn (kQ ps a)=(t a).run (Option (List (TV E))) (fun r=>some (kQ rs r)) (fun e=>nomatch e) none:=by intro a G;kernel_rfl):tX E :=
 q.W f (fnG ps rs fun a=>(t a).o) (aru (JR e n) fun a _ h=>Qg q.ok q.mix e ((k a _).trans (Te.ao0 h)))
def fl (t:Tree (Args E rs) σ) (st:Args E ps->σ) (C:σ->Hd E) (H:Hint E) (e:P.funcs[f]? = some fn) (n:(fn.name == "runtime.NumGoroutine" || fn.body.isNone)=false:=by kernel_rfl) (k:∀s G,MW .fn q.O H G fn (C s)=(t s).run (Option (List (TV E))) (fun r=>some (kQ rs r)) (fun s=>gH .fn q.O H G fn (C s)) none:=by intro s G;cases s<;>kernel_rfl) (hs:∀a,C (st a) = .e (kQ ps a):=by intro _;rfl):tX E :=
 q.W f (fnG ps rs fun a=>mu t (st a)) (Runs.fn (enc:=kQ rs) ⟨k⟩ q.ok q.mix (JR e n) hs fun _ r h=>⟨r,h,rfl⟩)
def b0 (b:E.Ty) (t:E.Den b->Args E ps->Te (E.Den b×Args E rs) Empty) (e:P.funcs[f]? = some fn) (H:Hint E:={ own:=1 }) (n:(fn.name == "runtime.NumGoroutine" || fn.body.isNone)=false:=by kernel_rfl) (o:0<H.own:=by decide) (k:∀x a G,Z8 q.O H G fn b x (kQ ps a)=(t x a).run (Option (List (TV E))) (fun r=>some (⟨b,r.1⟩::kQ rs r.2)) (fun e=>nomatch e) none:=by intro x a G;kernel_rfl):tX E :=
 q.B f (WX b ps rs fun x a=>(t x a).o) ⟨⟨fn,JR e n⟩,fun(x:E.Den b) l y res h=>by
  simp only[WX]at h;split at h
  ·rename_i a ha;rw[Oj _ _ _ ha];cases hm:(t x a).o with
   | none=>rw[hm]at h;cases h
   | some r =>rw[hm]at h;cases h;exact WV q.ok q.mix o e ((k x a _).trans (Te.ao0 hm))
  ·cases h⟩
def c0 (sh:List (yX E)) (t:Args E (Ay sh)->Te (Args E rs) Empty) (e:P.funcs[f]? = some fn) (H:Hint E:={}) (n:(fn.name == "runtime.NumGoroutine" || fn.body.isNone)=false:=by kernel_rfl) (k:∀a G,afZ q.O H G fn (Qj sh (kQ (Ay sh) a))=(t a).run (Option (List (TV E))) (fun r=>some (kQ rs r)) (fun e=>nomatch e) none:=by intro a G;kernel_rfl):tX E :=
 q.A f (fnP sh rs fun a=>(t a).o) (aok (JR e n) fun a _ h=>adS q.ok q.mix e ((k a _).trans (Te.ao0 h)))
def cl (sh:List (yX E)) (t:Tree (Args E rs) σ) (st:Args E (Ay sh)->σ) (C:σ->Hd E) (H:Hint E) (e:P.funcs[f]? = some fn) (n:(fn.name == "runtime.NumGoroutine" || fn.body.isNone)=false:=by kernel_rfl) (k:∀s G,MW .fn q.O H G fn (C s)=(t s).run (Option (List (TV E))) (fun r=>some (kQ rs r)) (fun s=>gH .fn q.O H G fn (C s)) none:=by intro s G;cases s<;>kernel_rfl) (hs:∀a,C (st a) = .c (Qj sh (kQ (Ay sh) a)):=by intro _;rfl):tX E :=
 q.A f (fnP sh rs fun a=>mu t (st a)) (Runs.cl (enc:=kQ rs) ⟨k⟩ q.ok q.mix (JR e n) hs fun _ r h=>⟨r,h,rfl⟩)
def br (b:E.Ty) (l:Nat->E.Den b->Args E ps->Option (E.Den b×Args E rs)) (t:(E.Den b->Args E ps->Option (E.Den b×Args E rs))->Tree (E.Den b×Args E rs) σ) (st:E.Den b->Args E ps->σ) (C:σ->Hd E) (H:Hint E) (e:P.funcs[f]? = some fn) (n:(fn.name == "runtime.NumGoroutine" || fn.body.isNone)=false:=by kernel_rfl) (o:0<H.own:=by decide) (k:∀S s G,MW (.bx b) (af0 (aac (Z6 (jX q.w q.r q.u q.v) q.i q.h) ((f,WX b ps rs S)::q.b)) q.a) H G fn (C s)=(t S s).run (Option (List (TV E))) (fun r=>some (⟨b,r.1⟩::kQ rs r.2)) (fun s=>gH (.bx b) (af0 (aac (Z6 (jX q.w q.r q.u q.v) q.i q.h) ((f,WX b ps rs S)::q.b)) q.a) H G fn (C s)) none:=by intro S s G;cases s<;>kernel_rfl) (hs:∀x a,C (st x a) = .e (⟨b,x⟩::kQ ps a):=by intro _ _;rfl) (h0:∀x a,l 0 x a=none:=by intro _ _;rfl) (h1:∀n x a,l (n+1) x a=mu (t (l n)) (st x a):=by intro _ _ _;rfl):tX E :=
 q.B f (WX b ps rs (l GY)) (Nat.rec (motive:=fun n=>VQ E f (WX b ps rs (l n))) ((funext fun x=>funext (h0 x):l 0=fun _ _=>none)▸auL ⟨fn,JR e n⟩) (fun m ih=>(funext fun x=>funext (h1 m x):l (m+1)=fun x a=>mu (t (l m)) (st x a))▸Runs.bx (enc:=fun r=>⟨b,r.1⟩::kQ rs r.2) ⟨k (l m)⟩ (q.B f _ ih).ok q.mix o (JR e n) hs fun _ _ r h=>⟨r,h,rfl⟩) GY)
end
end tX
end
end
end Go.Proofs.YtclnniijooeajaaGreatDoor.bg
namespace Go.Proofs
open Go.Shelf
def Tryz.lays156_ren:Go.Shelf.Ren:=⟨fun | 156=>145 | 165=>190 | 166=>191 | 169=>192 | 240=>217 | 241=>218 | 276=>232 | 277=>233 | n=>n,fun | 31=>22 | 9=>9 | 3=>3 | 4=>4 | 0=>0 | 20=>20 | 72=>156 | 76=>160 | 70=>154 | 37=>126 | 75=>159 | 127=>178 | 164=>188 | 5=>5 | 80=>162 | n=>n,fun | n=>n⟩
theorem Tryz.lays156:Go.Proofs.Lays.n156 Tryz.prog Tryz.lays156_ren:={
 mixed:=by kernel_rfl
 f156:=Tryz.func145.trans (congrArg some (by kernel_rfl))
 f165:=Tryz.func190.trans (congrArg some (by kernel_rfl))
 f166:=Tryz.func191.trans (congrArg some (by kernel_rfl))
 f169:=Tryz.func192.trans (congrArg some (by kernel_rfl))
 f240:=Tryz.func217.trans (congrArg some (by kernel_rfl))
 f241:=Tryz.func218.trans (congrArg some (by kernel_rfl))
 f276:=Tryz.func232.trans (congrArg some (by kernel_rfl))
 f277:=Tryz.func233.trans (congrArg some (by kernel_rfl))
 t0:=Tryz.underlying0
 a0:=Tryz.isAgg0
 z0:=Tryz.sizeOf0
 v0:=Tryz.zeroValue0
 t3:=Tryz.underlying3
 a3:=Tryz.isAgg3
 z3:=Tryz.sizeOf3
 v3:=Tryz.zeroValue3
 t4:=Tryz.underlying4
 a4:=Tryz.isAgg4
 z4:=Tryz.sizeOf4
 v4:=Tryz.zeroValue4
 t9:=Tryz.underlying9
 a9:=Tryz.isAgg9
 z9:=Tryz.sizeOf9
 v9:=Tryz.zeroValue9
 t20:=Tryz.underlying20
 a20:=Tryz.isAgg20
 z20:=Tryz.sizeOf20
 v20:=Tryz.zeroValue20
 t31:=Tryz.underlying22
 a31:=Tryz.isAgg22
 z31:=Tryz.sizeOf22
 v31:=Tryz.zeroValue22
 t37:=Tryz.underlying126
 a37:=Tryz.isAgg126
 z37:=Tryz.sizeOf126
 v37:=Tryz.zeroValue126
 t70:=Tryz.underlying154
 a70:=Tryz.isAgg154
 z70:=Tryz.sizeOf154
 v70:=Tryz.zeroValue154
 t72:=Tryz.underlying156
 a72:=Tryz.isAgg156
 z72:=Tryz.sizeOf156
 v72:=Tryz.zeroValue156
 t75:=Tryz.underlying159
 a75:=Tryz.isAgg159
 z75:=Tryz.sizeOf159
 v75:=Tryz.zeroValue159
 t76:=Tryz.underlying160
 a76:=Tryz.isAgg160
 z76:=Tryz.sizeOf160
 v76:=Tryz.zeroValue160
 t127:=Tryz.underlying178
 a127:=Tryz.isAgg178
 z127:=Tryz.sizeOf178
 v127:=Tryz.zeroValue178
 t164:=Tryz.underlying188
 a164:=Tryz.isAgg188
 z164:=Tryz.sizeOf188
 v164:=Tryz.zeroValue188 }
theorem Tryz.Builder_Extra_156:Builder.Extra Tryz.prog Tryz.lays156_ren:={
 sizeBuilder:=by kernel_rfl
 liesBuilder:=by kernel_rfl
 t5:=Tryz.underlying5
 a5:=Tryz.isAgg5
 z5:=Tryz.sizeOf5
 v5:=Tryz.zeroValue5
 infoByte:=by kernel_rfl
 cellsByte:=by kernel_rfl
 sizeByte:=by kernel_rfl
 neB5:=by decide }
open Go.RowKit in
theorem Tryz.strings_Join_none(a:Option Addr)(c:Nat)(sep:ByteArray)(w:World) :
  Calls Tryz.prog 145 #[.slice a 0 c,.string sep] w fun e w'=>e = .returned (.string ⟨#[]⟩)/\w'=w:=Any.strings_Join_none Tryz.lays156 Tryz.Builder_Extra_156 a c sep w
open Go.RowKit in
theorem Tryz.strings_Join(bk o c:Nat)(xs:List ByteArray)(sep:ByteArray)(w:World)(hcells:∀(j:Nat) x,xs[j]? = some x->w.cell? ⟨bk,o+j,none⟩=some (.string x))(hbk:bk<w.heap.size)(hN:xs.length<=140737488355328)(hcap:xs.length<=c)(hlen:(Lib.join (xs.map (·.data.toList)) sep.data.toList).length<=140737488355328) :
  Calls Tryz.prog 145 #[.slice (some ⟨bk,o,none⟩) xs.length c,.string sep] w fun e w'=>e = .returned (.string ⟨(Lib.join (xs.map (·.data.toList)) sep.data.toList).toArray⟩)/\Below w.heap.size w w':=Any.strings_Join Tryz.lays156 Tryz.Builder_Extra_156 bk o c xs sep w hcells hbk hN hcap hlen
def Tryz.lays137_ren:Go.Shelf.Ren:=⟨fun | 137=>148 | 217=>194 | 266=>219 | n=>n,fun | 9=>9 | 5=>5 | 3=>3 | n=>n,fun | n=>n⟩
theorem Tryz.lays137:Go.Proofs.Lays.n137 Tryz.prog Tryz.lays137_ren:={
 mixed:=by kernel_rfl
 f137:=Tryz.func148.trans (congrArg some (by kernel_rfl))
 f217:=Tryz.func194.trans (congrArg some (by kernel_rfl))
 f266:=Tryz.func219.trans (congrArg some (by kernel_rfl))
 t3:=Tryz.underlying3
 a3:=Tryz.isAgg3
 z3:=Tryz.sizeOf3
 v3:=Tryz.zeroValue3
 t5:=Tryz.underlying5
 a5:=Tryz.isAgg5
 z5:=Tryz.sizeOf5
 v5:=Tryz.zeroValue5
 t9:=Tryz.underlying9
 a9:=Tryz.isAgg9
 z9:=Tryz.sizeOf9
 v9:=Tryz.zeroValue9 }
open Go.RowKit in
theorem Tryz.strings_IndexByte(s:ByteArray)(c:Int)(w:World) :
  Calls Tryz.prog 148 #[.string s,.int .u8 c] w fun e w'=>e = .returned (.int .i64 (Lib.indexByte s.data.toList c.toNat.toUInt8))/\w'=w:=Any.strings_IndexByte Tryz.lays137 s c w
def Tryz.lays219_ren:Go.Shelf.Ren:=⟨fun | 219=>195 | 217=>194 | 225=>220 | 224=>221 | 267=>222 | 266=>219 | 314=>234 | n=>n,fun | 9=>9 | 3=>3 | 4=>4 | 5=>5 | 46=>121 | 146=>191 | 51=>152 | n=>n,fun | 1=>0 | n=>n⟩
theorem Tryz.lays219:Go.Proofs.Lays.n219 Tryz.prog Tryz.lays219_ren:={
 mixed:=by kernel_rfl
 f217:=Tryz.func194.trans (congrArg some (by kernel_rfl))
 f219:=Tryz.func195.trans (congrArg some (by kernel_rfl))
 f224:=Tryz.func221.trans (congrArg some (by kernel_rfl))
 f225:=Tryz.func220.trans (congrArg some (by kernel_rfl))
 f266:=Tryz.func219.trans (congrArg some (by kernel_rfl))
 f267:=Tryz.func222.trans (congrArg some (by kernel_rfl))
 f314:=Tryz.func234.trans (congrArg some (by kernel_rfl))
 t3:=Tryz.underlying3
 a3:=Tryz.isAgg3
 z3:=Tryz.sizeOf3
 v3:=Tryz.zeroValue3
 t4:=Tryz.underlying4
 a4:=Tryz.isAgg4
 z4:=Tryz.sizeOf4
 v4:=Tryz.zeroValue4
 t5:=Tryz.underlying5
 a5:=Tryz.isAgg5
 z5:=Tryz.sizeOf5
 v5:=Tryz.zeroValue5
 t9:=Tryz.underlying9
 a9:=Tryz.isAgg9
 z9:=Tryz.sizeOf9
 v9:=Tryz.zeroValue9
 t46:=Tryz.underlying121
 a46:=Tryz.isAgg121
 z46:=Tryz.sizeOf121
 v46:=Tryz.zeroValue121
 t51:=Tryz.underlying152
 a51:=Tryz.isAgg152
 z51:=Tryz.sizeOf152
 v51:=Tryz.zeroValue152
 t146:=Tryz.underlying191
 a146:=Tryz.isAgg191
 z146:=Tryz.sizeOf191
 v146:=Tryz.zeroValue191
 g1:=by kernel_rfl }
open Go.RowKit Go.Lib in
theorem Tryz.stringslite_Index_one(s:ByteArray)(c:UInt8)(w:World) :
  Calls Tryz.prog 195 #[.string s,.string ⟨#[c]⟩] w fun e w'=>e = .returned (.int .i64 (Lib.indexByte s.data.toList c))/\w'=w:=Any.stringslite_Index_one Tryz.lays219 s c w
def Tryz.lays190_ren:Go.Shelf.Ren:=⟨fun | 190=>62 | 125=>141 | 258=>140 | 128=>188 | 129=>189 | 302=>179 | 303=>180 | 304=>181 | 305=>182 | 306=>183 | 307=>184 | 308=>185 | 309=>186 | 310=>187 | 333=>211 | 329=>212 | 330=>213 | 334=>214 | 335=>215 | 336=>216 | 344=>231 | n=>n,fun | 31=>22 | 9=>9 | 3=>3 | 46=>121 | 0=>0 | 51=>152 | 53=>137 | 4=>4 | 183=>146 | 182=>145 | 131=>117 | 5=>5 | 218=>172 | 222=>176 | 228=>185 | 229=>186 | n=>n,fun | n=>n⟩
theorem Tryz.lays190:Go.Proofs.Lays.n190 Tryz.prog Tryz.lays190_ren:={
 mixed:=by kernel_rfl
 f125:=Tryz.func141.trans (congrArg some (by kernel_rfl))
 f128:=Tryz.func188.trans (congrArg some (by kernel_rfl))
 f129:=Tryz.func189.trans (congrArg some (by kernel_rfl))
 f190:=Tryz.func62.trans (congrArg some (by kernel_rfl))
 f258:=Tryz.func140.trans (congrArg some (by kernel_rfl))
 f302:=Tryz.func179.trans (congrArg some (by kernel_rfl))
 f303:=Tryz.func180.trans (congrArg some (by kernel_rfl))
 f304:=Tryz.func181.trans (congrArg some (by kernel_rfl))
 f305:=Tryz.func182.trans (congrArg some (by kernel_rfl))
 f306:=Tryz.func183.trans (congrArg some (by kernel_rfl))
 f307:=Tryz.func184.trans (congrArg some (by kernel_rfl))
 f308:=Tryz.func185.trans (congrArg some (by kernel_rfl))
 f309:=Tryz.func186.trans (congrArg some (by kernel_rfl))
 f310:=Tryz.func187.trans (congrArg some (by kernel_rfl))
 f329:=Tryz.func212.trans (congrArg some (by kernel_rfl))
 f330:=Tryz.func213.trans (congrArg some (by kernel_rfl))
 f333:=Tryz.func211.trans (congrArg some (by kernel_rfl))
 f334:=Tryz.func214.trans (congrArg some (by kernel_rfl))
 f335:=Tryz.func215.trans (congrArg some (by kernel_rfl))
 f336:=Tryz.func216.trans (congrArg some (by kernel_rfl))
 f344:=Tryz.func231.trans (congrArg some (by kernel_rfl))
 t0:=Tryz.underlying0
 a0:=Tryz.isAgg0
 z0:=Tryz.sizeOf0
 v0:=Tryz.zeroValue0
 t3:=Tryz.underlying3
 a3:=Tryz.isAgg3
 z3:=Tryz.sizeOf3
 v3:=Tryz.zeroValue3
 t4:=Tryz.underlying4
 a4:=Tryz.isAgg4
 z4:=Tryz.sizeOf4
 v4:=Tryz.zeroValue4
 t5:=Tryz.underlying5
 a5:=Tryz.isAgg5
 z5:=Tryz.sizeOf5
 v5:=Tryz.zeroValue5
 t9:=Tryz.underlying9
 a9:=Tryz.isAgg9
 z9:=Tryz.sizeOf9
 v9:=Tryz.zeroValue9
 t31:=Tryz.underlying22
 a31:=Tryz.isAgg22
 z31:=Tryz.sizeOf22
 v31:=Tryz.zeroValue22
 t46:=Tryz.underlying121
 a46:=Tryz.isAgg121
 z46:=Tryz.sizeOf121
 v46:=Tryz.zeroValue121
 t51:=Tryz.underlying152
 a51:=Tryz.isAgg152
 z51:=Tryz.sizeOf152
 v51:=Tryz.zeroValue152
 t53:=Tryz.underlying137
 a53:=Tryz.isAgg137
 z53:=Tryz.sizeOf137
 v53:=Tryz.zeroValue137
 t131:=Tryz.underlying117
 a131:=Tryz.isAgg117
 z131:=Tryz.sizeOf117
 v131:=Tryz.zeroValue117
 t182:=Tryz.underlying145
 a182:=Tryz.isAgg145
 z182:=Tryz.sizeOf145
 v182:=Tryz.zeroValue145
 t183:=Tryz.underlying146
 a183:=Tryz.isAgg146
 z183:=Tryz.sizeOf146
 v183:=Tryz.zeroValue146
 t218:=Tryz.underlying172
 a218:=Tryz.isAgg172
 z218:=Tryz.sizeOf172
 v218:=Tryz.zeroValue172
 t222:=Tryz.underlying176
 a222:=Tryz.isAgg176
 z222:=Tryz.sizeOf176
 v222:=Tryz.zeroValue176
 t228:=Tryz.underlying185
 a228:=Tryz.isAgg185
 z228:=Tryz.sizeOf185
 v228:=Tryz.zeroValue185
 t229:=Tryz.underlying186
 a229:=Tryz.isAgg186
 z229:=Tryz.sizeOf186
 v229:=Tryz.zeroValue186 }
open Go.Sort Go.RowKit in
theorem Tryz.slices_Sort_string(blk off cap:Nat)(ss:List (aqO))(w:World)(hH:Holds encStr w blk off ss.toArray)(hblk:blk<w.heap.size)(hsz:ss.length<4611686018427387904) :
  Calls Tryz.prog 62 #[.slice (some ⟨blk,off,none⟩) ss.length cap] w fun e w' =>e = .returned (.tuple #[])/\∃n os,w'=grow (putRow encStr (Sort.ahead w n) blk off (ss.mergeSort fun x y=>decide (x<=y)).toArray) os:=Any.slices_Sort_string Tryz.lays190 blk off cap ss w hH hblk hsz
def Tryz.lays221_ren:Go.Shelf.Ren:=⟨fun | 221=>197 | 268=>225 | 138=>226 | 143=>227 | 195=>236 | 197=>237 | 218=>238 | 219=>195 | 260=>240 | 217=>194 | 225=>220 | 224=>221 | 267=>222 | 266=>219 | 314=>234 | n=>n,fun | 9=>9 | 3=>3 | 31=>22 | 4=>4 | 0=>0 | 105=>194 | 21=>21 | 5=>5 | 46=>121 | 119=>197 | 139=>200 | 138=>199 | 146=>191 | 51=>152 | n=>n,fun | 1=>0 | 3=>1 | 4=>2 | n=>n⟩
theorem Tryz.lays221:Go.Proofs.Lays.n221 Tryz.prog Tryz.lays221_ren:={
 mixed:=by kernel_rfl
 f138:=Tryz.func226.trans (congrArg some (by kernel_rfl))
 f143:=Tryz.func227.trans (congrArg some (by kernel_rfl))
 f195:=Tryz.func236.trans (congrArg some (by kernel_rfl))
 f197:=Tryz.func237.trans (congrArg some (by kernel_rfl))
 f217:=Tryz.func194.trans (congrArg some (by kernel_rfl))
 f218:=Tryz.func238.trans (congrArg some (by kernel_rfl))
 f219:=Tryz.func195.trans (congrArg some (by kernel_rfl))
 f221:=Tryz.func197.trans (congrArg some (by kernel_rfl))
 f224:=Tryz.func221.trans (congrArg some (by kernel_rfl))
 f225:=Tryz.func220.trans (congrArg some (by kernel_rfl))
 f260:=Tryz.func240.trans (congrArg some (by kernel_rfl))
 f266:=Tryz.func219.trans (congrArg some (by kernel_rfl))
 f267:=Tryz.func222.trans (congrArg some (by kernel_rfl))
 f268:=Tryz.func225.trans (congrArg some (by kernel_rfl))
 f314:=Tryz.func234.trans (congrArg some (by kernel_rfl))
 t0:=Tryz.underlying0
 a0:=Tryz.isAgg0
 z0:=Tryz.sizeOf0
 v0:=Tryz.zeroValue0
 t3:=Tryz.underlying3
 a3:=Tryz.isAgg3
 z3:=Tryz.sizeOf3
 v3:=Tryz.zeroValue3
 t4:=Tryz.underlying4
 a4:=Tryz.isAgg4
 z4:=Tryz.sizeOf4
 v4:=Tryz.zeroValue4
 t5:=Tryz.underlying5
 a5:=Tryz.isAgg5
 z5:=Tryz.sizeOf5
 v5:=Tryz.zeroValue5
 t9:=Tryz.underlying9
 a9:=Tryz.isAgg9
 z9:=Tryz.sizeOf9
 v9:=Tryz.zeroValue9
 t21:=Tryz.underlying21
 a21:=Tryz.isAgg21
 z21:=Tryz.sizeOf21
 v21:=Tryz.zeroValue21
 t31:=Tryz.underlying22
 a31:=Tryz.isAgg22
 z31:=Tryz.sizeOf22
 v31:=Tryz.zeroValue22
 t46:=Tryz.underlying121
 a46:=Tryz.isAgg121
 z46:=Tryz.sizeOf121
 v46:=Tryz.zeroValue121
 t51:=Tryz.underlying152
 a51:=Tryz.isAgg152
 z51:=Tryz.sizeOf152
 v51:=Tryz.zeroValue152
 t105:=Tryz.underlying194
 a105:=Tryz.isAgg194
 z105:=Tryz.sizeOf194
 v105:=Tryz.zeroValue194
 t119:=Tryz.underlying197
 a119:=Tryz.isAgg197
 z119:=Tryz.sizeOf197
 t138:=Tryz.underlying199
 a138:=Tryz.isAgg199
 z138:=Tryz.sizeOf199
 v138:=Tryz.zeroValue199
 t139:=Tryz.underlying200
 a139:=Tryz.isAgg200
 z139:=Tryz.sizeOf200
 v139:=Tryz.zeroValue200
 t146:=Tryz.underlying191
 a146:=Tryz.isAgg191
 z146:=Tryz.sizeOf191
 v146:=Tryz.zeroValue191
 g1:=by kernel_rfl
 g3:=by kernel_rfl
 g4:=by kernel_rfl }
def Tryz.lays154_ren:Go.Shelf.Ren:=⟨fun | 154=>229 | 138=>226 | 165=>190 | 143=>227 | 166=>191 | 197=>237 | 169=>192 | 195=>236 | 218=>238 | 240=>217 | 241=>218 | 219=>195 | 260=>240 | 276=>232 | 277=>233 | 217=>194 | 225=>220 | 224=>221 | 267=>222 | 266=>219 | 314=>234 | n=>n,fun | 9=>9 | 3=>3 | 4=>4 | 72=>156 | 0=>0 | 76=>160 | 105=>194 | 21=>21 | 5=>5 | 70=>154 | 20=>20 | 37=>126 | 75=>159 | 127=>178 | 164=>188 | 46=>121 | 119=>197 | 139=>200 | 138=>199 | 146=>191 | 51=>152 | 80=>162 | n=>n,fun | 1=>0 | 3=>1 | 4=>2 | n=>n⟩
theorem Tryz.lays154:Go.Proofs.Lays.n154 Tryz.prog Tryz.lays154_ren:={
 mixed:=by kernel_rfl
 f138:=Tryz.func226.trans (congrArg some (by kernel_rfl))
 f143:=Tryz.func227.trans (congrArg some (by kernel_rfl))
 f154:=Tryz.func229.trans (congrArg some (by kernel_rfl))
 f165:=Tryz.func190.trans (congrArg some (by kernel_rfl))
 f166:=Tryz.func191.trans (congrArg some (by kernel_rfl))
 f169:=Tryz.func192.trans (congrArg some (by kernel_rfl))
 f195:=Tryz.func236.trans (congrArg some (by kernel_rfl))
 f197:=Tryz.func237.trans (congrArg some (by kernel_rfl))
 f217:=Tryz.func194.trans (congrArg some (by kernel_rfl))
 f218:=Tryz.func238.trans (congrArg some (by kernel_rfl))
 f219:=Tryz.func195.trans (congrArg some (by kernel_rfl))
 f224:=Tryz.func221.trans (congrArg some (by kernel_rfl))
 f225:=Tryz.func220.trans (congrArg some (by kernel_rfl))
 f240:=Tryz.func217.trans (congrArg some (by kernel_rfl))
 f241:=Tryz.func218.trans (congrArg some (by kernel_rfl))
 f260:=Tryz.func240.trans (congrArg some (by kernel_rfl))
 f266:=Tryz.func219.trans (congrArg some (by kernel_rfl))
 f267:=Tryz.func222.trans (congrArg some (by kernel_rfl))
 f276:=Tryz.func232.trans (congrArg some (by kernel_rfl))
 f277:=Tryz.func233.trans (congrArg some (by kernel_rfl))
 f314:=Tryz.func234.trans (congrArg some (by kernel_rfl))
 t0:=Tryz.underlying0
 a0:=Tryz.isAgg0
 z0:=Tryz.sizeOf0
 v0:=Tryz.zeroValue0
 t3:=Tryz.underlying3
 a3:=Tryz.isAgg3
 z3:=Tryz.sizeOf3
 v3:=Tryz.zeroValue3
 t4:=Tryz.underlying4
 a4:=Tryz.isAgg4
 z4:=Tryz.sizeOf4
 v4:=Tryz.zeroValue4
 t5:=Tryz.underlying5
 a5:=Tryz.isAgg5
 z5:=Tryz.sizeOf5
 v5:=Tryz.zeroValue5
 t9:=Tryz.underlying9
 a9:=Tryz.isAgg9
 z9:=Tryz.sizeOf9
 v9:=Tryz.zeroValue9
 t20:=Tryz.underlying20
 a20:=Tryz.isAgg20
 z20:=Tryz.sizeOf20
 v20:=Tryz.zeroValue20
 t21:=Tryz.underlying21
 a21:=Tryz.isAgg21
 z21:=Tryz.sizeOf21
 v21:=Tryz.zeroValue21
 t37:=Tryz.underlying126
 a37:=Tryz.isAgg126
 z37:=Tryz.sizeOf126
 v37:=Tryz.zeroValue126
 t46:=Tryz.underlying121
 a46:=Tryz.isAgg121
 z46:=Tryz.sizeOf121
 v46:=Tryz.zeroValue121
 t51:=Tryz.underlying152
 a51:=Tryz.isAgg152
 z51:=Tryz.sizeOf152
 v51:=Tryz.zeroValue152
 t70:=Tryz.underlying154
 a70:=Tryz.isAgg154
 z70:=Tryz.sizeOf154
 v70:=Tryz.zeroValue154
 t72:=Tryz.underlying156
 a72:=Tryz.isAgg156
 z72:=Tryz.sizeOf156
 v72:=Tryz.zeroValue156
 t75:=Tryz.underlying159
 a75:=Tryz.isAgg159
 z75:=Tryz.sizeOf159
 v75:=Tryz.zeroValue159
 t76:=Tryz.underlying160
 a76:=Tryz.isAgg160
 z76:=Tryz.sizeOf160
 v76:=Tryz.zeroValue160
 t105:=Tryz.underlying194
 a105:=Tryz.isAgg194
 z105:=Tryz.sizeOf194
 v105:=Tryz.zeroValue194
 t119:=Tryz.underlying197
 a119:=Tryz.isAgg197
 z119:=Tryz.sizeOf197
 t127:=Tryz.underlying178
 a127:=Tryz.isAgg178
 z127:=Tryz.sizeOf178
 v127:=Tryz.zeroValue178
 t138:=Tryz.underlying199
 a138:=Tryz.isAgg199
 z138:=Tryz.sizeOf199
 v138:=Tryz.zeroValue199
 t139:=Tryz.underlying200
 a139:=Tryz.isAgg200
 z139:=Tryz.sizeOf200
 v139:=Tryz.zeroValue200
 t146:=Tryz.underlying191
 a146:=Tryz.isAgg191
 z146:=Tryz.sizeOf191
 v146:=Tryz.zeroValue191
 t164:=Tryz.underlying188
 a164:=Tryz.isAgg188
 z164:=Tryz.sizeOf188
 v164:=Tryz.zeroValue188
 g1:=by kernel_rfl
 g3:=by kernel_rfl
 g4:=by kernel_rfl }
theorem Tryz.Builder_Extra_154:Builder.Extra Tryz.prog Tryz.lays154_ren:={
 sizeBuilder:=by kernel_rfl
 liesBuilder:=by kernel_rfl
 t5:=Tryz.underlying5
 a5:=Tryz.isAgg5
 z5:=Tryz.sizeOf5
 v5:=Tryz.zeroValue5
 infoByte:=by kernel_rfl
 cellsByte:=by kernel_rfl
 sizeByte:=by kernel_rfl
 neB5:=by decide }
def Tryz.lays194_ren:Go.Shelf.Ren:=⟨fun | 194=>63 | n=>n,fun | 31=>22 | 9=>9 | 3=>3 | 4=>4 | 0=>0 | n=>n,fun | n=>n⟩
theorem Tryz.lays194:Go.Proofs.Lays.n194 Tryz.prog Tryz.lays194_ren:={
 mixed:=by kernel_rfl
 f194:=Tryz.func63.trans (congrArg some (by kernel_rfl))
 t0:=Tryz.underlying0
 a0:=Tryz.isAgg0
 z0:=Tryz.sizeOf0
 v0:=Tryz.zeroValue0
 t3:=Tryz.underlying3
 a3:=Tryz.isAgg3
 z3:=Tryz.sizeOf3
 v3:=Tryz.zeroValue3
 t4:=Tryz.underlying4
 a4:=Tryz.isAgg4
 z4:=Tryz.sizeOf4
 v4:=Tryz.zeroValue4
 t9:=Tryz.underlying9
 a9:=Tryz.isAgg9
 z9:=Tryz.sizeOf9
 v9:=Tryz.zeroValue9
 t31:=Tryz.underlying22
 a31:=Tryz.isAgg22
 z31:=Tryz.sizeOf22
 v31:=Tryz.zeroValue22 }
open Go.RowKit Go.Lib Go.Sort in
theorem Tryz.slices_Compact_string(blk off cap:Nat)(zs:List (aqO))(w:World)(hH:Holds encStr w blk off zs.toArray)(hsz:zs.length<=9223372036854775807)(hcap:zs.length<=cap) :
  Calls Tryz.prog 63 #[.slice (some ⟨blk,off,none⟩) zs.length cap] w fun e w'=>e = .returned (.slice (some ⟨blk,off,none⟩) (Lib.compact zs).length cap)/\∃q,w'=putRow encStr (Sort.ahead w q) blk off (Lib.compact zs++List.replicate (zs.length-(Lib.compact zs).length) []).toArray:=Any.slices_Compact_string Tryz.lays194 blk off cap zs w hH hsz hcap
open Go.RowKit Go.Lib Go.Sort in
theorem Tryz.slices_Compact_string_empty(a:Option Addr)(cap:Nat)(w:World) :
  Calls Tryz.prog 63 #[.slice a 0 cap] w fun e w'=>e = .returned (.slice a 0 cap)/\w'=w:=Any.slices_Compact_string_empty Tryz.lays194 a cap w
open Go.RowKit Go.Sort in
theorem Tryz.slices_Sort_string_none(p:Option Addr)(cap:Nat)(w:World) :
  Calls Tryz.prog 62 #[.slice p 0 cap] w fun e w'=>e = .returned (.tuple #[])/\w'=w:=Any.slices_Sort_string_none Tryz.lays190 p cap w
end Go.Proofs
namespace Go.Proofs.YtclnniijooeajaaGreatDoor.Pl
open Go
abbrev Str:=aqO
theorem xu(a:Str):¬ a<a:=List.lt_irrefl a
theorem amh{a b c:Str}(h:a<b)(h':b<c):a<c:=List.lt_trans h h'
theorem Ol{a b:Str}(h:a<b):¬ b<a:=fun h'=>xu a (amh h h')
theorem Qk{a b:Str}:a<=b↔¬ b<a:=Iff.rfl
theorem awr(a b:Str):a<b\/a=b\/b<a:=by
 by_cases h:a<b
 ·exact .inl h
 ·by_cases h':b<a
  ·exact .inr (.inr h')
  ·exact .inr (.inl (List.le_antisymm h' h))
theorem Ql{a b c:Str}(h:a<=b)(h':b<=c):a<=c:=List.le_trans h h'
theorem Rp{a b:Str}(h:a<=b)(hn:a≠b):a<b:=by
 rcases awr a b with h1 | h1 | h1
 ·exact h1
 ·exact absurd h1 hn
 ·exact absurd h1 h
def SS(l:List Str):Prop:=l.Pairwise (· < ·)
theorem adU:∀{l m:List Str},SS l->SS m->(∀x,x∈l↔x∈m)->l=m
 | [],[],_,_,_=>rfl
 | [],b::m,_,_,h=>by have:=(h b).2 abd;cases this
 | a::l,[],_,_,h=>by have:=(h a).1 abd;cases this
 | a::l,b::m,hl,hm,h=>by
  have hl':=List.pairwise_cons.1 hl;have hm':=List.pairwise_cons.1 hm;have e:a=b:=by
   have h1:=(h a).1 abd;have h2:=(h b).2 abd;rcases List.mem_cons.1 h1 with h1 | h1
   ·exact h1
   ·rcases List.mem_cons.1 h2 with h2 | h2
    ·exact h2.symm
    ·exact absurd (hm'.1 a h1) (Ol (hl'.1 b h2))
  subst e;rw[adU hl'.2 hm'.2 fun x=>⟨fun hx=>?_,fun hx=>?_⟩]
  ·rcases List.mem_cons.1 ((h x).1 (abb _ hx))with e | e
   ·subst e;exact absurd (hl'.1 x hx) (xu x)
   ·exact e
  ·rcases List.mem_cons.1 ((h x).2 (abb _ hx))with e | e
   ·subst e;exact absurd (hm'.1 x hx) (xu x)
   ·exact e
def ou(p:Str):List Str->List Str
 | []=>[]
 | a::t=>if a=p then ou a t else a::ou a t
theorem WY:∀(l:List Str) (p x:Str),ou p (l++[x])=ou p l++(if x=(p::l).getLastD p then[]else[x])
 | [],p,x=>by simp[ou]
 | a::t,p,x=>by
  have ih:=WY t a x;have e:(p::a::t).getLastD p=(a::t).getLastD a:=by cases t<;>simp[List.getLastD]
  simp only[aeF,ou,ih,e];split<;>simp
theorem KD(a:Str)(t:List Str):Lib.compact (a::t)=a::ou a t:=by
 have key:∀m,m<=t.length->Lib.compactUpTo (a::t).toArray (m+1)=a::ou a (t.take m):=by
  intro m
  induction m with
  | zero =>intro _;rw[Lib.compactUpTo_succ,Lib.keeps_lt_one _ 0 (by decide)];simp[Lib.compactUpTo,ou]
  | succ m ih =>
   intro hm;have hlt:m<t.length:=by omega
   have e1:(a::t).toArray[m+1]! = t[m]:=by simp[hlt]
   have e2:(a::t).toArray[m+1-1]! = (a::t.take m).getLastD a:=by
    cases m with
    | zero=>simp
    | succ k =>
     have hk:k<t.length:=by omega
     have:(a::t.take (k+1)).getLastD a=t[k]:=by rw[show a::t.take (k+1)=(a::t.take k)++[t[k]]from by rw[aeF,List.take_append_getElem hk],List.getLastD_eq_getLast?,List.getLast?_concat];rfl
     rw[this];simp[hk]
   rw[Lib.compactUpTo_succ,ih (by omega),<- List.take_append_getElem hlt,WY,<- e2,e1];by_cases hx:t[m]=(a::t).toArray[m+1-1]!
   ·rw[Lib.keeps_neg (by omega) (by rw[e1];exact hx),if_pos hx];simp
   ·rw[Lib.keeps_pos (by rw[e1];exact hx),if_neg hx];simp
 have h:=key t.length (abn _);rw[List.take_length]at h;exact h
theorem WZ:∀(l:List Str) (p:Str),(p::l).Pairwise (· <= ·)->SS (p::ou p l)/\∀x,x∈p::ou p l↔x∈p::l
 | [],p,_=>⟨by simp[SS,ou],fun x=>by simp[ou]⟩
 | a::t,p,h=>by
  have h1:=List.pairwise_cons.1 h;obtain⟨i1,i2⟩:=WZ t a h1.2;unfold ou;split
  ·rename_i e;subst e;refine⟨i1,fun x=>?_⟩;rw[i2 x];simp
  ·rename_i hne;have hpa:p<a:=Rp (h1.1 a abd) (fun e=>hne e.symm);refine⟨List.pairwise_cons.2 ⟨fun x hx=>?_,i1⟩,fun x=>?_⟩
   ·rcases List.mem_cons.1 hx with e | e
    ·subst e;exact hpa
    ·exact amh hpa ((List.pairwise_cons.1 i1).1 x e)
   ·rw[List.mem_cons,i2 x,List.mem_cons (b:=p)]
theorem aaf:∀(l:List Str) (p:Str),(ou p l).length<=l.length
 | [],_=>abn _
 | a::t,p=>by
  have:=aaf t a;unfold ou;split
  ·simp only[List.length_cons];omega
  ·simp only[List.length_cons];omega
def tY(l:List Str):List Str:=l.mergeSort fun x y=>decide (x<=y)
def bA(l:List Str):List Str:=Lib.compact (tY l)
theorem ahr(l:List Str):(tY l).Pairwise (· <= ·):=by
 have h:=List.pairwise_mergeSort (le:=fun x y:Str=>decide (x<=y)) (fun a b c h h'=>by
  simp only[adB]at *;exact Ql h h') (fun a b=>by
  simp only[amf,adB];exact List.le_total a b) l
 exact h.imp (fun h=>by simpa using h)
theorem arw{l:List Str}{x:Str}:x∈tY l↔x∈l:=List.mem_mergeSort
theorem Tw(l:List Str):(tY l).length=l.length:=List.length_mergeSort l
theorem EP(l:List Str):SS (bA l)/\∀x,x∈bA l↔x∈l:=by
 have hp:=ahr l;have hm:∀x,x∈tY l↔x∈l:=fun x=>arw
 unfold bA;generalize tY l=m at hp hm;cases m with
 | nil=>exact⟨List.Pairwise.nil,hm⟩
 | cons a t =>rw[KD];obtain⟨h1,h2⟩:=WZ t a hp;exact⟨h1,fun x=>(h2 x).trans (hm x)⟩
theorem jN{l:List Str}{x:Str}:x∈bA l↔x∈l:=(EP l).2 x
theorem xw{l m:List Str}(hs:SS m)(h:∀x,x∈m↔x∈l):bA l=m:=adU (EP l).1 hs fun x=>(jN).trans (h x).symm
theorem W9(l:List Str):(Lib.compact l).length<=l.length:=by
 cases l with
 | nil=>exact abn _
 | cons a t =>rw[KD];have:=aaf t a;simp only[List.length_cons];omega
theorem tZ(l:List Str):(bA l).length<=l.length:=by have:=W9 (tY l);rw[Tw]at this;exact this
end Go.Proofs.YtclnniijooeajaaGreatDoor.Pl
namespace Go.Proofs.YtclnniijooeajaaGreatDoor.Pl
def leB:Str->Str->Bool
 | [],_=>true
 | _::_,[]=>false
 | a::s,b::t=>bif Nat.blt a.toNat b.toNat then true else bif Nat.beq a.toNat b.toNat then leB s t else false
theorem abY:∀(x y:Str),leB x y=decide (x<=y)
 | [],y=>by simp[leB]
 | a::s,[]=>by simp[leB]
 | a::s,b::t=>by
  have ih:=abY s t;unfold leB;rw[ih,show decide (a::s<=b::t)=decide (a<b\/a=b/\s<=t)from decide_eq_decide.2 List.cons_le_cons_iff];cases h1:Nat.blt a.toNat b.toNat with
  | true =>have:a<b:=UInt8.lt_iff_toNat_lt.2 (by simpa[Nat.blt_eq]using h1);simp[this]
  | false =>
   have h1:¬ a<b:=fun h=>by have:=UInt8.lt_iff_toNat_lt.1 h;rw[<- Nat.blt_eq,h1]at this;cases this
   cases h2:Nat.beq a.toNat b.toNat with
   | true =>have:a=b:=UInt8.toNat_inj.1 (aaF h2);subst this;simp
   | false =>
    have:¬ a=b:=fun h=>by subst h;simp at h2
    simp[h1,this]
def ins(x:Str):List Str->List Str
 | []=>[x]
 | a::t=>bif leB x a then x::a::t else a::ins x t
def VT:List Str->List Str
 | []=>[]
 | a::t=>ins a (VT t)
theorem Yf(x:Str):∀l,List.Perm (ins x l) (x::l)
 | []=>List.Perm.refl _
 | a::t=>by
  unfold ins;cases leB x a with
  | true=>exact List.Perm.refl _
  | false=>exact((Yf x t).cons a).trans (List.Perm.swap x a t)
theorem aag:∀l,List.Perm (VT l) l
 | []=>List.Perm.refl _
 | a::t=>(Yf a (VT t)).trans ((aag t).cons a)
theorem arx(x:Str):∀l:List Str,l.Pairwise (· <= ·)->(ins x l).Pairwise (· <= ·)
 | [],_=>by simp[ins]
 | a::t,h=>by
  unfold ins;have h':=List.pairwise_cons.1 h;cases hx:leB x a with
  | true =>
   rw[abY,adB]at hx;refine List.pairwise_cons.2 ⟨fun y hy=>?_,h⟩;cases hy with
   | head=>exact hx
   | tail _ hy=>exact Ql hx (h'.1 y hy)
  | false =>
   rw[abY,decide_eq_false_iff_not]at hx;refine List.pairwise_cons.2 ⟨fun y hy=>?_,arx x t h'.2⟩;rcases List.mem_cons.1 ((Yf x t).mem_iff.1 hy)with e | e
   ·subst e;rcases List.le_total y a with h | h
    ·exact absurd h hx
    ·exact h
   ·exact h'.1 y e
theorem ahs:∀l,(VT l).Pairwise (· <= ·)
 | []=>List.Pairwise.nil
 | a::t=>arx a _ (ahs t)
theorem auM(l:List Str):tY l=VT l :=
 List.Perm.eq_of_pairwise (fun _ _ _ _ h h'=>List.le_antisymm h h') (ahr l) (ahs l) ((List.mergeSort_perm l _).trans (aag l).symm)
def eqB:Str->Str->Bool
 | [],[]=>true
 | a::s,b::t=>bif Nat.beq a.toNat b.toNat then eqB s t else false
 | _,_=>false
theorem ami:∀(x y:Str),eqB x y=decide (x=y)
 | [],[]=>by simp[eqB]
 | a::s,[]=>by simp[eqB]
 | [],b::t=>by simp[eqB]
 | a::s,b::t=>by
  unfold eqB;rw[ami s t];cases h2:Nat.beq a.toNat b.toNat with
  | true =>have:a=b:=UInt8.toNat_inj.1 (aaF h2);subst this;simp
  | false =>
   have:¬ a=b:=fun h=>by subst h;simp at h2
   simp[this]
def Om(p:Str):List Str->List Str
 | []=>[]
 | a::t=>bif eqB a p then Om a t else a::Om a t
theorem aah:∀(l:List Str) (p:Str),ou p l=Om p l
 | [],_=>rfl
 | a::t,p=>by unfold ou Om;rw[ami,aah t a];by_cases h:a=p<;>simp[h]
def ahu:List Str->List Str
 | []=>[]
 | a::t=>a::Om a t
theorem akx:∀(l:List Str),Lib.compact l=ahu l
 | []=>rfl
 | a::t=>by rw[KD,aah];rfl
def KE(l:List Str):List Str:=ahu (VT l)
theorem Tx(l:List Str):bA l=KE l:=by rw[bA,auM,akx];rfl
end Go.Proofs.YtclnniijooeajaaGreatDoor.Pl
