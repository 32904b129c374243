/- Part 3 of a proof: the texts MirO MirP MirQ MirR MirU MirW MirX MirBx MirTr MirKq Shelf Plain PlainK, one behind the other. -/
import Derived.Test.YtibpdjmikfmmaaaGreatEw2
import Derived.Scope
import Derived.Lib.SliceRun
import Derived.KernelRfl
import Derived.Test.YtibpdjmikfmmaaaGreatEw1
import Derived.StringKeys
import Derived.WideKeyPair
import Derived.Shelf.Small.Bits
import Derived.Shelf.Strconv.Itoa0
import Derived.Shelf.Sort.Plain
import Derived.Shelf.Slices.Turned
import Derived.Shelf.Slices.CompactS
import Derived.Shelf.Slices.Cells
import Derived.Shelf.Slices.In.SortNone
import Derived.Test.YtibpdjmikfmmaaaGreatProg
import Derived.Lib.SlicesCompact
noncomputable section
namespace Go.Proofs.YtibpdjmikfmmaaaGreat.bB
open Go Go.RowKit
section
variable {P:Program} {E:Env P}
def PN(objs:List (Nat×aH E)):AV E->AV E
 | .row t n id=>match look objs id with
  | some (.row t' l)=>.grow t' l id
  | _=>.row t n id
 | v=>v
def Tp(objs:List (Nat×aH E)):AV E->AV E
 | .agg cs=>.agg (cs.map (PN objs))
 | .ni cs=>.ni (cs.map (PN objs))
 | v=>PN objs v
def an5(objs:List (Nat×aH E)):aH E->aH E
 | .row _ _=>.tail true
 | .box cs=>.box (cs.map (PN objs))
 | o=>o
def Yv(objs:List (Nat×aH E)):List (Nat×AV E)->List (Nat×AV E)
 | []=>[]
 | (t,v)::r=>(t,Tp objs v)::Yv objs r
def Xi(objs:List (Nat×aH E)):List (Nat×aH E)->List (Nat×aH E)
 | []=>[]
 | (i,o)::r=>(i,an5 objs o)::Xi objs r
def rQ(S:aD E):aD E:=⟨S.n,Yv S.objs S.tmps,Xi S.objs S.objs,S.next⟩
structure Hint (E:Env P) where
 live:List (Nat×List Nat):=[]
 frz:List Nat:=[]
 qK:List (Nat×List (Nat×Option Nat×Bool×E.Ty)):=[]
 split:List (Nat×List (Nat×Nat)):=[]
 opn:List (Nat×List Nat):=[]
 rounds:Nat:=5
 lst:List Nat:=[]
 arr:List (Nat×List (Nat×Option E.Ty)):=[]
 own:Nat:=0
def Ll(id:Nat)(ds:List (bE E.Den)):AV E->AV E
 | .ptr id' off=>match Nat.beq id' id with
  | true=>.iF (ds.drop off)
  | false=>.ptr id' off
 | v=>v
def Tq(id:Nat)(ds:List (bE E.Den)):AV E->AV E
 | .agg cs=>.agg (cs.map (Ll id ds))
 | .ni cs=>.ni (cs.map (Ll id ds))
 | v=>Ll id ds v
def ajK(id:Nat)(ds:List (bE E.Den))(i:Nat):aH E->aH E
 | .box cs=>match Nat.beq i id with
  | true=>.dead
  | false=>.box (cs.map (Ll id ds))
 | o=>o
def Yw(id:Nat)(ds:List (bE E.Den)):List (Nat×AV E)->List (Nat×AV E)
 | []=>[]
 | (t,v)::r=>(t,Tq id ds v)::Yw id ds r
def Xj(id:Nat)(ds:List (bE E.Den)):List (Nat×aH E)->List (Nat×aH E)
 | []=>[]
 | (i,o)::r=>(i,ajK id ds i o)::Xj id ds r
def NH(t:Nat)(S:aD E):aD E:=match look S.tmps t with
 | some (.ptr id _)=>match look S.objs id with
  | some (.box cs)=>match toDs cs with
   | some ds=>⟨S.n,Yw id ds S.tmps,Xj id ds S.objs,S.next⟩
   | none=>S
  | _=>S
 | _=>S
def Ep:List Nat->aD E->aD E
 | [],S=>S
 | t::r,S=>Ep r (NH t S)
def NI(p:Nat×Option E.Ty)(S:aD E):aD E:=match look S.tmps p.1 with
 | some (.ptr id _)=>(match look S.objs id,p.2 with
  | some (.box cs),some t=>(match E.agg t,toDs cs with
   | false,some ds=>(match QN t ds with
    | some l=>⟨S.n,S.tmps,(id,.arr t l false)::S.objs,S.next⟩
    | none=>S)
   | _,_=>S)
  | some (.arr t l false),none=>⟨S.n,S.tmps,(id,.arr t l true)::S.objs,S.next⟩
  | _,_=>S)
 | _=>S
def Yx:List (Nat×Option E.Ty)->aD E->aD E
 | [],S=>S
 | p::r,S=>Yx r (NI p S)
def splitN{R:Type}(k:aD E->Option R)(S:aD E)(t:Nat)(kd:IntKind)(i:Int):Nat->Nat->Option R
 | 0,_=>none
 | m+1,j=>bif i==(j:Int)then k ⟨S.n,(t,.d (.int kd (j:Int)))::S.tmps,S.objs,S.next⟩else splitN k S t kd i m (j+1)
def splitK{R:Type}:List (Nat×Nat)->aD E->(aD E->Option R)->Option R
 | [],S,k=>k S
 | (t,n)::r,S,k=>match look S.tmps t with
  | some (.d (.int kd i))=>splitN (fun S'=>splitK r S' k) S t kd i n 0
  | _=>none
def Tt(g:Bool)(t:E.Ty)(bU:Nat):AV E:=match g with
 | true=>.grow t [] bU
 | false=>.d (.slice t [])
def E9(g:Bool)(S:aD E):List (Nat×aH E):=match g with
 | true=>(S.next,.tail true)::S.objs
 | false=>S.objs
def Tv(s:Nat)(off:Option Nat)(g:Bool)(t:E.Ty)(S:aD E):aD E:=match look S.tmps s with
 | some v=>match off with
  | none=>bif isNil v then⟨S.n,(s,Tt g t S.next)::S.tmps,E9 g S,S.next+1⟩else S
  | some o=>match v with
   | .ptr id _=>match look S.objs id with
    | some (.box cs)=>match cs[o]? with
     | some u=>bif isNil u then⟨S.n,S.tmps,(id,.box (cs.set o (Tt g t S.next)))::E9 g S,S.next+1⟩else S
     | none=>S
    | _=>S
   | _=>S
 | none=>S
def Yy:List (Nat×Option Nat×Bool×E.Ty)->aD E->aD E
 | [],S=>S
 | (s,off,g,t)::r,S=>Yy r (Tv s off g t S)
def IJ:List Nat->Nat->Bool
 | [],_=>false
 | i::r,j=>Nat.beq i j||IJ r j
def jh:List Nat->Nat->Option Nat
 | [],_=>none
 | i::r,j=>if Nat.beq i j then some 0 else(match jh r j with | some q=>some (q+1) | none=>none)
def addN(l:List Nat)(i:Nat):List Nat:=match jh l i with
 | some _=>l
 | none=>l++[i]
def Lm(l:List Nat):List Nat->List Nat
 | []=>l
 | i::r=>Lm (addN l i) r
def an7:AV E->List Nat
 | .grow _ _ id=>[id]
 | .ptr id _=>[id]
 | .row _ _ id=>[id]
 | .elt id _ _=>[id]
 | .Cv _ id=>[id]
 | .mp id=>[id]
 | .yl id=>[id]
 | .mk _ id=>[id]
 | _=>[]
def aeO:List (AV E)->List Nat
 | []=>[]
 | v::r=>an7 v++aeO r
def arV:AV E->List Nat
 | .agg cs=>aeO cs
 | v=>an7 v
def alb:List (Nat×AV E)->List Nat
 | []=>[]
 | (_,v)::r=>arV v++alb r
def an8(objs:List (Nat×aH E)):List Nat->List Nat
 | []=>[]
 | i::r=>(match look objs i with | some (.box cs)=>aeO cs | _=>[])++an8 objs r
def Cc:AV E->Bool
 | .d _=>true
 | .st _ _=>true
 | _=>false
def PO(ids:List Nat):AV E->AV E
 | .grow t l id=>match jh ids id with
  | some j=>.grow t l j
  | none=>.d (.slice t l)
 | .ptr id off=>match jh ids id with
  | some j=>.ptr j off
  | none=>.any
 | .row t n id=>match jh ids id with
  | some j=>.row t n j
  | none=>.any
 | .elt id i off=>match jh ids id with
  | some j=>.elt j i off
  | none=>.any
 | .fn f a b=>bif a.all Cc&&b.all Cc then .fn f a b else .any
 | .Cv n id=>match jh ids id with
  | some j=>.Cv n j
  | none=>.any
 | .mp id=>match jh ids id with
  | some j=>.mp j
  | none=>.any
 | .yl id=>match jh ids id with
  | some j=>.yl j
  | none=>.any
 | .mk T id=>match jh ids id with
  | some j=>.mk T j
  | none=>.any
 | .d c=>.d c
 | .st t x=>.st t x
 | .iF cs=>.iF cs
 | _=>.any
def IK(ids:List Nat):AV E->AV E
 | .agg cs=>.agg (cs.map (PO ids))
 | v=>PO ids v
def an9(ids:List Nat):aH E->aH E
 | .box cs=>.box (cs.map (PO ids))
 | .mp tk tv z l _=>.mp tk tv z l none
 | .lp _ _ _ _ _ _ _=>.dead
 | o=>o
def yt(objs:List (Nat×aH E)):AV E->AV E
 | .grow t l id=>match look objs id with
  | some (.tail true)=>.grow t l id
  | _=>.d (.slice t l)
 | v=>v
def NJ(S:aD E):List Nat->List (Nat×AV E)
 | []=>[]
 | t::r=>match look S.tmps t with | some x=>(t,yt S.objs x)::NJ S r | none=>NJ S r
def PS(ids:List Nat):List (Nat×AV E)->List (Nat×AV E)
 | []=>[]
 | (t,v)::r=>(t,IK ids v)::PS ids r
def Rn(objs:List (Nat×aH E))(ids:List Nat):List Nat->Nat->List (Nat×aH E)
 | [],_=>[]
 | i::r,j=>(j,match look objs i with | some o=>an9 ids o | none=>.dead)::Rn objs ids r (j+1)
def aeP(own:Nat)(live:List Nat)(S:aD E):aD E :=
 let kept:=NJ S live;let aoa:=Lm (List.range own) (alb kept);let ids:=Lm aoa (an8 S.objs aoa)
 ⟨S.n,PS ids kept,Rn S.objs ids ids 0,ids.length⟩
inductive cZ where
 | normal
 | exit (id:Nat)
 | ret
 | goto (l:Nat)
def cZ.toExit:cZ->Exit
 | .normal=>.normal
 | .exit id=>.exit id
 | .ret=>.ret
 | .goto l=>.goto l
def sW:Code->Bool
 | .seq a b=>sW a&&sW b
 | .cond _ a b=>sW a&&sW b
 | .block _ b=>sW b
 | .loop b=>sW b
 | .scope b=>sW b
 | .goto _=>false
 | _=>true
def bF:Code->Nat
 | .scope b=>(match sW b with
  | true=>bF b
  | false=>0)
 | .seq a b=>bF a+bF b
 | .cond _ a b=>bF a+bF b
 | .block _ b=>bF b
 | .loop b=>bF b+1
 | _=>0
def Lp{α:Type}(l:List (Nat×List α))(i:Nat):List α:=match look l i with
 | some x=>x
 | none=>[]
def CO(h:Hint E)(i:Nat)(S:aD E):aD E:=aeP h.own (Lp h.live i) (Yy (Lp h.qK i) S)
def alc{R:Type}(O:aK E)(ops:Array Oper)(dr:Bool)(S:aD E)(k:aD E->Option R):Option R:=match dr with
 | true=>CJ O ops S.n S.tmps S.objs S.next ops.toList [] 0 k
 | false=>NA O ops S.n S.tmps ops.toList [] S.objs S.next k
def AJ{R:Type}(b:Bool)(O:aK E)(ops:Array Oper)(dr:Bool)(S:aD E)(k:aD E->Option R):Option R:=match b,dr with
 | true,true=>Yt O ops S k
 | _,_=>alc O ops dr S k
def PU{R:Type}(f:aD E->Option R)(k:cZ->aD E->Option R)(e:cZ)(S:aD E):Option R:=match e with
 | .normal=>f S
 | .exit id=>k (.exit id) S
 | .ret=>k .ret S
 | .goto l=>k (.goto l) S
def AL{R:Type}(id:Nat)(k:cZ->aD E->Option R)(e:cZ)(S:aD E):Option R:=match e with
 | .normal=>k .normal S
 | .exit i=>(match Nat.beq i id with | true=>k .normal S | false=>k (.exit i) S)
 | .ret=>k .ret S
 | .goto l=>k (.goto l) S
def dB:Code->Bool
 | .seq a b=>dB a||dB b
 | .cond _ a b=>dB a||dB b
 | .block _ b=>dB b
 | .loop b=>dB b
 | .scope b=>!(sW b)
 | _=>false
def Ro{R:Type}(h:Hint E)(G:Nat->aD E->Option R)(c:Code)(k:cZ->aD E->Option R)(e:cZ)(S:aD E):Option R:=match e with
 | .normal=>k .normal S
 | .exit id=>k (.exit id) S
 | .ret=>k .ret S
 | .goto l=>(match findLabel c l with | some _=>G (100+l) (CO h (100+l) S) | none=>none)
def Xk{R:Type}(k:cZ->aD E->Option R)(e:cZ)(S:aD E):Option R:=match e with
 | .normal=>k .normal S
 | .exit id=>k (.exit id) S
 | .ret=>k .ret S
 | .goto _=>none
def jr{R:Type}(O:aK E)(h:Hint E)(G:Nat->aD E->Option R):Nat->Code->aD E->(cZ->aD E->Option R)->Option R
 | _,.skip,S,k=>k .normal S
 | _,.region id ops dr,S,k=>splitK (Lp h.split id) (Ep (Lp h.opn id) (Yx (Lp h.arr id) (match IJ h.frz id with | true=>rQ S | false=>S))) fun S'=>AJ (IJ h.lst id) O ops dr S' (k .normal)
 | i,.seq x y,S,k=>(match dB x&&dB y with
  | true=>none
  | false=>jr O h G i x S (PU (fun S'=>jr O h G (i+bF x) y S' k) k))
 | i,.cond c x y,S,k=>(match dB x||dB y with
  | true=>none
  | false=>match aS S.tmps [] c with
   | .d (.bool b)=>bif b then jr O h G i x S k else jr O h G (i+bF x) y S k
   | _=>none)
 | i,.scope c,S,k=>(match sW c with
  | true=>jr O h G i c S (Xk k)
  | false=>(match dB c,bF c with
   | false,0=>jr O h G i c S (Ro h G c k)
   | _,_=>none))
 | _,.label _,S,k=>k .normal S
 | _,.goto l,S,k=>k (.goto l) S
 | i,.block id body,S,k=>jr O h G i body S (AL id k)
 | i,.loop _,S,_=>G i (CO h i S)
 | _,.exit id,S,k=>k (.exit id) S
 | _,.ret,S,k=>k .ret S
 | _,_,_,_=>none
def Bn{R:Type}(O:aK E)(h:Hint E)(G:Nat->aD E->Option R):Nat->Code->Nat->(cZ->aD E->Option R)->Option (Nat×Code×(cZ->aD E->Option R))
 | i,.loop b,0,k=>some (i,b,k)
 | i,.loop b,j+1,k=>Bn O h G (i+1) b j (PU (fun S=>G i (CO h i S)) k)
 | i,.seq x y,j,k=>match Nat.blt j (bF x)with
  | true=>Bn O h G i x j (PU (fun S'=>jr O h G (i+bF x) y S' k) k)
  | false=>Bn O h G (i+bF x) y (j-bF x) k
 | i,.cond _ x y,j,k=>match Nat.blt j (bF x)with
  | true=>Bn O h G i x j k
  | false=>Bn O h G (i+bF x) y (j-bF x) k
 | i,.block id b,j,k=>Bn O h G i b j (AL id k)
 | i,.scope b,j,k=>(match sW b with
  | true=>Bn O h G i b j (Xk k)
  | false=>none)
 | _,_,_,_=>none
def Tw{R:Type}(O:aK E)(h:Hint E)(G:Nat->aD E->Option R):Nat->Code->(cZ->aD E->Option R)->Option (Code×(cZ->aD E->Option R))
 | _,.scope c,k=>some (c,k)
 | i,.seq x y,k=>(match dB x,dB y with
  | true,false=>Tw O h G i x (PU (fun S'=>jr O h G (i+bF x) y S' k) k)
  | false,true=>Tw O h G (i+bF x) y k
  | _,_=>none)
 | i,.block id b,k=>Tw O h G i b (AL id k)
 | _,_,_=>none
def aob{R:Type}(O:aK E)(h:Hint E)(G:Nat->aD E->Option R)(c:Code)(l:Nat)(S:aD E)(k:cZ->aD E->Option R):Option R:=match Tw O h G 0 c k with
 | some (sc,k')=>(match findLabel sc l with
  | some rest=>(match dB rest,bF rest with
   | false,0=>jr O h G 0 rest S (Ro h G sc k')
   | _,_=>none)
  | none=>none)
 | none=>none
def Yz{R:Type}(O:aK E)(h:Hint E)(G:Nat->aD E->Option R)(c:Code)(j:Nat)(S:aD E)(k:cZ->aD E->Option R):Option R:=match Nat.ble 100 j with
 | true=>(match Nat.ble (bF c) 100 with
  | true=>aob O h G c (j-100) S k
  | false=>none)
 | false=>(match dB c with
  | true=>none
  | false=>(match Bn O h G 0 c j k with
   | some (i,b,k)=>jr O h G (i+1) b S (PU (fun S=>G i (CO h i S)) k)
   | none=>none))
end
section
variable {P:Program} {E:Env P} {w:World} {ro:Nat->Nat->Prop} {ι:Nat->Option Gh} {S:aD E} {a:Act} {w0:Start} {aZ:Nat->Nat->Prop}
theorem nP:∀(c:Code),sW c=true->dB c=false
 | .seq a b,h=>by simp only[sW,ach]at h;simp only[dB,nP a h.1,nP b h.2,Bool.or_self]
 | .cond _ a b,h=>by simp only[sW,ach]at h;simp only[dB,nP a h.1,nP b h.2,Bool.or_self]
 | .block _ b,h=>nP b h
 | .loop b,h=>nP b h
 | .scope b,h=>by have h:sW b=true:=h;simp only[dB,h,acn]
 | .skip,_=>rfl
 | .ret,_=>rfl
 | .exit _,_=>rfl
 | .region ..,_=>rfl
 | .label _,_=>rfl
 | .goto _,_=>rfl
 | .rangeFunc ..,_=>rfl
 | .refuse _,_=>rfl
theorem YA{v:AV E}(h:isNil v=true):v = .d (.raw (.slice none 0 0)):=by
 unfold isNil at h;split at h
 ·rfl
 ·cases h
def IL(E:Env P)(t:E.Ty):Gh:=⟨.slice none 0 0,0,E.tid t,E.size t,none⟩
theorem Rp(g:Bool)(t:E.Ty)(hg:cB E w0 aZ S a w ι ro):∃ι',(∀id gh,ι id=some gh->ι' id=some gh)/\cB E w0 aZ ⟨S.n,S.tmps,E9 g S,S.next+1⟩ a w ι' ro/\aJ E w ro ι' (.slice none 0 0) (Tt g t S.next):=by
 cases g with
 | false =>exact⟨ι,fun _ _ h=>h,⟨hg.base,hg.size,hg.tmps,hg.objs,hg.inj,fun id h=>hg.fresh id (by have h:S.next+1<=id:=h;omega),fun id o h=>by have:=hg.ids id o h;show id<S.next+1;omega⟩,.d _ _ (.nil t none 0)⟩
 | true =>
  have hfresh:=hg.fresh S.next (acM _);have hext:=K9 ι S.next (IL E t) hfresh;have hnew:gy ι S.next (IL E t) S.next=some (IL E t):=if_pos rfl;have hold:∀id,id≠S.next->gy ι S.next (IL E t) id=ι id:=fun id h=>if_neg h
  refine⟨gy ι S.next (IL E t),hext,⟨⟨hg.base.below,hg.base.aO,hg.base.oZ,fun id gh k h1 h2=>?_,hg.base.defers,fun q hq=>⟨(hg.base.keep q hq).1,fun id gh h=>hext id gh ((hg.base.keep q hq).2 id gh h)⟩,fun k o h=>⟨(hg.base.held k o h).1,fun id gh h1 h2=>by by_cases e:id=S.next;(· subst e;rw[hnew]at h1;cases h1;cases h2);(· rw[hold id e]at h1;exact(hg.base.held k o h).2 id gh h1 h2)⟩⟩,hg.size,fun t' x hl=>?_,fun id o hl=>?_,?_,fun id h=>?_,fun id o hl=>?_⟩,?_⟩
  ·by_cases e:id=S.next
   ·subst e;rw[hnew]at h1;cases h1;cases h2
   ·rw[hold id e]at h1;exact hg.base.sQ id gh k h1 h2
  ·obtain⟨v,hv,hs⟩:=hg.tmps t' x hl;exact⟨v,hv,hs.mono (fun _ _ h=>h) (fun _ _ _=>rfl) hext⟩
  ·simp only[E9,aQ]at hl;split at hl
   ·rename_i hb;have:=ab5 hb;subst this;cases hl;intro _;exact⟨IL E t,[],hnew,.inl ⟨World.ownsRow_nil w 0 _ _,rfl⟩,fun g hg=>by cases hg⟩
   ·rename_i hb;have hne:id≠S.next:=fun e=>by subst e;simp at hb
    have h:=hg.objs id o hl;cases o with
    | dead=>trivial
    | box cs =>obtain⟨gh,g,vs,ty,h1,h2,hb,h3,h4,h5,h6⟩:=h;exact⟨gh,g,vs,ty,hext _ _ h1,h2,hb,h3,h4,fun j v c hv hc=>⟨(h5 j v c hv hc).1,(h5 j v c hv hc).2.mono (fun _ _ h=>h) (fun _ _ _=>rfl) hext⟩,h6⟩
    | tail l =>intro hl;obtain⟨gh,xs,h1,h2⟩:=h hl;exact⟨gh,xs,hext _ _ h1,h2⟩
    | QH =>obtain⟨gh,g,h1,h2⟩:=h;exact⟨gh,g,hext _ _ h1,h2⟩
    | arr t l fz =>obtain⟨h0,gh,g,vs,ty,h1,h2,hb,h3,h4,h5,h6⟩:=h;exact⟨h0,gh,g,vs,ty,hext _ _ h1,h2,hb,h3,h4,fun j v c hv hc=>⟨(h5 j v c hv hc).1,(h5 j v c hv hc).2.mono (fun _ _ h=>h) (fun _ _ _=>rfl) hext⟩,h6⟩
    | lp st pend n tm ps assign body =>
     obtain⟨gh,g,rec,h1,h2,h3,h4,h5⟩:=h;exact⟨gh,g,rec,hext _ _ h1,h2,h3,h4,fun t x hl=>by obtain⟨v,q1,q2⟩:=h5 t x hl;exact⟨v,q1,q2.mono (fun _ _ h=>h) (fun _ _ _=>rfl) hext⟩⟩
    | mp tk tv z l tok =>obtain⟨gh,g,es,gK,q,h1,h2,h3,h4,h5⟩:=h;exact⟨gh,g,es,gK,q,hext _ _ h1,h2,h3,h4,h5.mono (fun _ _ h=>h) (fun _ _ _=>rfl) hext⟩
    | row t l =>obtain⟨gh,xs,h1,h2⟩:=h;exact⟨gh,xs,hext _ _ h1,h2⟩
  ·intro id id' o o' gh aX k hl hl' l1 l2 i1 i2 b1 b2;by_cases e:id=S.next
   ·subst e;rw[hnew]at i1;cases i1;cases b1
   ·by_cases e':id'=S.next
    ·subst e';rw[hnew]at i2;cases i2;cases b2
    ·rw[hold id e]at i1;rw[hold id' e']at i2;simp only[E9,aQ]at hl hl';rw[if_neg (fun hb=>e (ab5 hb).symm)]at hl;rw[if_neg (fun hb=>e' (ab5 hb).symm)]at hl';exact hg.inj id id' o o' gh aX k hl hl' l1 l2 i1 i2 b1 b2
  ·have h:S.next+1<=id:=h;rw[hold id (by omega)];exact hg.fresh id (by omega)
  ·simp only[E9,aQ]at hl;show id<S.next+1;split at hl
   ·rename_i hb;have:=ab5 hb;omega
   ·have:=hg.ids id o hl;omega
  ·exact .grow (IL E t) t [] S.next hnew rfl rfl rfl (.nil t none 0)
theorem Vh{g:Bool}{t:E.Ty}{i:Nat}:bY (Tt (E:=E) g t i)=false:=by cases g<;>rfl
theorem aeQ(s:Nat)(off:Option Nat)(g:Bool)(t:E.Ty)(hnc:aR S.tmps)(hg:cB E w0 aZ S a w ι ro):∃ι',aR (Tv s off g t S).tmps/\cB E w0 aZ (Tv s off g t S) a w ι' ro/\(Tv s off g t S).n=S.n:=by
 have same:∃ι',aR S.tmps/\cB E w0 aZ S a w ι' ro/\S.n=S.n:=⟨ι,hnc,hg,rfl⟩
 unfold Tv;split
 ·rename_i v hv;split
  ·cases hn:isNil v with
   | false=>exact same
   | true =>
    simp only[cond_true];obtain rfl:=YA hn;obtain⟨ι',hext,hg',hr⟩:=Rp g t hg;obtain⟨u,hu,hs⟩:=hg.tmps s _ hv;have hu':u = .slice none 0 0:=aJ.gD hs;subst hu';refine⟨ι',fun p hp=>?_,⟨hg'.base,hg'.size,fun t' x hl=>?_,hg'.objs,hg'.inj,hg'.fresh,hg'.ids⟩,trivial⟩
    ·cases hp with
     | head=>exact Vh
     | tail _ hp=>exact hnc p hp
    ·simp only[aQ]at hl;split at hl
     ·rename_i hb;have:=ab5 hb;subst this;cases hl;refine⟨_,hu,?_⟩;have hc:=Vh (E:=E) (g:=g) (t:=t) (i:=S.next);generalize Tt g t S.next=y at hr hc;cases y<;>first | exact hr | cases hc
     ·exact hg'.tmps t' x hl
  ·rename_i o;split
   ·rename_i id off';split
    ·rename_i cs bX;split
     ·rename_i u hu;cases hn:isNil u with
      | false=>exact same
      | true =>
       simp only[cond_true];obtain rfl:=YA hn;obtain⟨ι',hext,hg',hr⟩:=Rp g t hg;have hlt:=hg.ids id _ bX;have uO:look (E9 g S) id=some (.box cs):=by
        cases g with
        | false=>exact bX
        | true=>simp only[E9,aQ];rw[if_neg (fun hb=>by have:=ab5 hb;omega)];exact bX
       refine⟨ι',hnc,⟨hg'.base,hg'.size,hg'.tmps,fun id' o' hl=>?_,?_,hg'.fresh,fun id' o' hl=>?_⟩,trivial⟩
       ·simp only[aQ]at hl;split at hl
        ·rename_i hb;have:=ab5 hb;subst this;cases hl;obtain⟨gh,g',vs,ty,h1,h2,hb,h3,h4,h5,h6⟩:=hg'.objs id _ uO;refine⟨gh,g',vs,ty,h1,h2,hb,h3,by simp[h4],fun j v c hv hc=>?_,h6⟩;have hjl:j<cs.length:=by have:=(List.getElem?_eq_some_iff.1 hc).1;simpa using this
         have hcj:=aae hjl;have h5j:=h5 j v _ hv hcj;refine⟨h5j.1,?_⟩;by_cases hjo:j=o
         ·subst hjo;rw[List.getElem?_set_self hjl]at hc;cases hc;have h5u:=(h5 j v _ hv hu).2;have:v = .slice none 0 0:=aJ.gD h5u;subst this;exact hr
         grind
        ·exact hg'.objs id' o' hl
       ·intro i1 i2 o1 o2 gh aX k hl hl' l1 l2 e1 e2 b1 b2;have lift:∀i ob,look ((id,aH.box (cs.set o (Tt g t S.next)))::E9 g S) i=some ob->ob.live=true->∃La,look (E9 g S) i=some La/\La.live=true:=by
         intro i ob h hl;simp only[aQ]at h;split at h
         ·rename_i hb;have:=ab5 hb;subst this;exact⟨_,uO,rfl⟩
         ·exact⟨ob,h,hl⟩
        obtain⟨q1,g1,g2⟩:=lift i1 o1 hl l1;obtain⟨q2,g3,g4⟩:=lift i2 o2 hl' l2;exact hg'.inj i1 i2 q1 q2 gh aX k g1 g3 g2 g4 e1 e2 b1 b2
       ·simp only[aQ]at hl;split at hl
        ·rename_i hb;have:=ab5 hb;grind
        ·exact hg'.ids id' o' hl
     ·exact same
    ·exact same
   ·exact same
 ·exact same
theorem Rq:∀(l:List (Nat×Option Nat×Bool×E.Ty)) (S:aD E) (ι:Nat->Option Gh),aR S.tmps->cB E w0 aZ S a w ι ro->∃ι',aR (Yy l S).tmps/\cB E w0 aZ (Yy l S) a w ι' ro/\(Yy l S).n=S.n
 | [],S,ι,hnc,hg=>⟨ι,hnc,hg,rfl⟩
 | (s,off,g,t)::r,S,ι,hnc,hg=>by obtain⟨ι1,h1,h2,h3⟩:=aeQ s off g t hnc hg;obtain⟨ι2,h4,h5,h6⟩:=Rq r (Tv s off g t S) ι1 h1 h2;exact⟨ι2,h4,h5,h6.trans h3⟩
theorem Vi{objs:List (Nat×aH E)}:∀{l:List (Nat×AV E)} {t:Nat} {y:AV E},look (Yv objs l) t=some y->∃x,look l t=some x/\y=Tp objs x
 | [],_,_,h=>by cases h
 | (u,x)::r,t,y,h=>by
  simp only[Yv,aQ]at h ⊢;split at h
  ·grind
  ·rename_i hb;rw[if_neg hb];exact Vi h
theorem yu{objs:List (Nat×aH E)}:∀{l:List (Nat×aH E)} {t:Nat} {y:aH E},look (Xi objs l) t=some y->∃x,look l t=some x/\y=an5 objs x
 | [],_,_,h=>by cases h
 | (u,x)::r,t,y,h=>by
  simp only[Xi,aQ]at h ⊢;split at h
  ·grind
  ·rename_i hb;rw[if_neg hb];exact yu h
theorem agQ{objs:List (Nat×aH E)}{x:AV E}:bY (PN objs x)=bY x:=by
 cases x<;>try rfl
 rename_i t n id;show bY (match look objs id with | some (.row t' l)=>.grow t' l id | _=>.row t n id)=false;split<;>rfl
theorem Vj{objs:List (Nat×aH E)}{x:AV E}:bY (Tp objs x)=bY x:=by have h:=agQ (objs:=objs) (x:=x);cases x<;>first | rfl | exact h
theorem Oy{objs:List (Nat×aH E)}:∀{l:List (Nat×AV E)},aR l->aR (Yv objs l)
 | [],_=>fun p h=>by cases h
 | (t,x)::r,hn=>fun p h=>by
  cases h with
  | head=>exact Vj.trans (hn (t,x) ab1)
  | tail _ h=>exact Oy (fun p h=>hn p (aav _ h)) p h
def IQ(objs:List (Nat×aH E))(ι:Nat->Option Gh)(ro:Nat->Nat->Prop):Nat->Nat->Prop:=fun k o =>ro k o\/∃id t l gh,look objs id=some (.row t l)/\ι id=some gh/\gh.blk=some k/\o<gh.n*gh.sz
theorem wo(hnc:aR S.tmps)(hg:cB E w0 aZ S a w ι ro):aR (rQ S).tmps/\cB E w0 aZ (rQ S) a w ι (IQ S.objs ι ro):=by
 have hro:∀k o,ro k o->IQ S.objs ι ro k o:=fun _ _ h=>.inl h
 have one:∀(v:Value) (x:AV E),aJ E w ro ι v x->aJ E w (IQ S.objs ι ro) ι v (PN S.objs x):=by
  intro v x h;have hm:=h.mono (w':=w) hro (fun _ _ _=>rfl) (fun _ _ h=>h);cases h with
  | row gh t id ad cap h1 h2 h3 h4 h5 =>
   show aJ E w _ ι gh.v (match look S.objs id with | some (.row t' l)=>.grow t' l id | _=>.row t gh.n id);split
   ·rename_i t' l bX;obtain⟨aX,xs,hi',hn,hge,hgs,hown,hrow,fq⟩:=hg.objs id _ bX;rw[h1]at hi';cases hi';refine .grow gh t' l id h1 hn hge hgs ?_;have hown':=hown;unfold o9 at hown';rw[hn,hge,hgs]at hown';refine Bj hown' (fun g o hb ho=>.inr ⟨id,t',l,gh,bX,h1,hb,by rw[hn,hgs];exact ho⟩) (hrow.mono hro (fun _ _ _=>rfl))
   ·exact hm
  | _=>exact hm
 have many:∀(vs:Array Value) (cs:List (AV E)),(∀(j:Nat) v c,vs[j]? = some v->cs[j]? = some c->aJ E w ro ι v c)->∀(j:Nat) v c,vs[j]? = some v->(cs.map (PN S.objs))[j]? = some c->aJ E w (IQ S.objs ι ro) ι v c:=by grind
 have all:∀(v:Value) (x:AV E),aJ E w ro ι v x->aJ E w (IQ S.objs ι ro) ι v (Tp S.objs x):=by
  intro v x h;have h1:=one v x h;cases h with
  | agg vs cs hs hi=>exact .agg vs _ (by simp[hs]) (many vs cs hi)
  | ni vs cs hs hi=>exact .ni vs _ (by simp[hs]) (many vs cs hi)
  | _=>exact h1
 have Xl:∀id ob,look S.objs id=some ob->ob.live=true->∀gh k,ι id=some gh->gh.blk=some k->∀id' t l aX,look S.objs id'=some (.row t l)->ι id'=some aX->aX.blk=some k->id=id' :=
  fun id ob h1 h2 gh k h3 h4 id' t l aX h5 h6 h7=>hg.inj id id' ob _ gh aX k h1 h5 h2 rfl h3 h6 h4 h7
 refine⟨Oy hnc,⟨hg.base.below,fun k o h=>?_,fun k o h=>?_,hg.base.sQ,hg.base.defers,fun q hq=>⟨fun k o h=>⟨.inl ((hg.base.keep q hq).1 k o h).1,((hg.base.keep q hq).1 k o h).2⟩,(hg.base.keep q hq).2⟩,hg.base.held⟩,hg.size,fun t y hl=>?_,fun id o hl=>?_,?_,hg.fresh,fun id o hl=>?_⟩
 ·rcases h with h | ⟨id,t,l,gh,_,hi,hb,_⟩
  ·exact hg.base.aO k o h
  ·exact(hg.base.sQ id gh k hi hb).2
 ·rcases h with h | ⟨id,t,l,gh,_,hi,hb,_⟩
  ·exact hg.base.oZ k o h
  ·exact .inr (hg.base.sQ id gh k hi hb).1
 ·obtain⟨x,hx,rfl⟩:=Vi hl;obtain⟨v,hv,hs⟩:=hg.tmps t x hx;have hc:bY x=false:=hnc _ (gZ _ _ _ hx);have hr:aJ E w ro ι v x:=by cases x<;>first | exact hs | cases hc
  refine⟨v,hv,?_⟩;have h2:=all v x hr;have h3:bY (Tp S.objs x)=false:=Vj.trans hc;generalize Tp S.objs x=y at h2 h3;cases y<;>first | exact h2 | cases h3
 ·obtain⟨o',ho',rfl⟩:=yu hl;have h:=hg.objs id o' ho';cases o' with
  | dead=>trivial
  | box cs =>
   obtain⟨gh,g,vs,ty,h1,h2,hb,h3,h4,h5,h6⟩:=h;refine⟨gh,g,vs,ty,h1,h2,hb,h3,by simp[h4],fun j v c hv hc=>⟨?_,many vs cs (fun j v c hv hc=>(h5 j v c hv hc).2) j v c hv hc⟩,fun o hr=>?_,h6.2⟩
   ·grind
   ·rcases hr with hr | ⟨id',t,l,aX,uO,hi',hb',_⟩
    ·exact h6.1 o hr
    ·have:=Xl id _ ho' rfl gh g h1 hb id' t l aX uO hi' hb';subst this;rw[ho']at uO;cases uO
  | tail live =>
   intro hlive;obtain⟨gh,xs,h1,h2,h3⟩:=h hlive;refine⟨gh,xs,h1,h2,fun g hb o ho hr=>?_⟩;rcases hr with hr | ⟨id',t,l,aX,uO,hi',hb',_⟩
   ·exact h3 g hb o ho hr
   ·have:=Xl id _ ho' hlive gh g h1 hb id' t l aX uO hi' hb';subst this;rw[ho']at uO;cases uO
  | QH=>exact h
  | arr t l fz =>
   obtain⟨h0,gh,g,vs,ty,h1,h2,hb,h3,h4,h5,h6,h7⟩:=h;refine⟨h0,gh,g,vs,ty,h1,h2,hb,h3,h4,fun j v c hv hc=>⟨(h5 j v c hv hc).1,(h5 j v c hv hc).2.mono (fun _ _ h=>.inl h) (fun _ _ _=>rfl) (fun _ _ h=>h)⟩,⟨fun hf o hr=>?_,fun hf o ho=>.inl (h6.2 hf o ho)⟩,h7⟩;rcases hr with hr | ⟨id',t,l,aX,uO,hi',hb',_⟩
   ·exact h6.1 hf o hr
   ·have:=Xl id _ ho' rfl gh g h1 hb id' t l aX uO hi' hb';subst this;rw[ho']at uO;cases uO
  | lp st pend n tm ps assign body =>
   obtain⟨gh,g,rec,h1,h2,h3,h4,h5⟩:=h;exact⟨gh,g,rec,h1,h2,h3,h4,fun t x hl=>by obtain⟨v,q1,q2⟩:=h5 t x hl;exact⟨v,q1,q2.mono (fun _ _ h=>.inl h) (fun _ _ _=>rfl) (fun _ _ h=>h)⟩⟩
  | mp tk tv z l tok =>obtain⟨gh,g,es,gK,q,h1,h2,h3,h4,h5⟩:=h;exact⟨gh,g,es,gK,q,h1,h2,h3,h4,h5.mono (fun _ _ h=>.inl h) (fun _ _ _=>rfl) (fun _ _ h=>h)⟩
  | row t l =>
   intro _;obtain⟨gh,xs,h1,hn,hge,hgs,hown,hrow,fq⟩:=h;refine⟨gh,xs,h1,hown,fun g hb o ho hr=>?_⟩;rcases hr with hr | ⟨id',t',l',aX,uO,hi',hb',as9⟩
   ·exact fq g hb o hr
   ·have:=Xl id _ ho' rfl gh g h1 hb id' t' l' aX uO hi' hb';grind
 ·intro id id' o o' gh aX k hl hl' l1 l2 i1 i2 b1 b2;obtain⟨q,hq,rfl⟩:=yu hl;obtain⟨q',hq',rfl⟩:=yu hl';have e1:q.live=true:=by cases q<;>first | exact l1 | rfl
  have e2:q'.live=true:=by cases q'<;>first | exact l2 | rfl
  exact hg.inj id id' q q' gh aX k hq hq' e1 e2 i1 i2 b1 b2
 ·obtain⟨q,hq,rfl⟩:=yu hl;exact hg.ids id q hq
theorem agR{id:Nat}{ds:List (bE E.Den)}{x:AV E}:bY (Ll id ds x)=bY x:=by
 cases x<;>try rfl
 rename_i id' off;show bY (match Nat.beq id' id with | true=>.iF (ds.drop off) | false=>.ptr id' off)=false;split<;>rfl
theorem Vk{id:Nat}{ds:List (bE E.Den)}{x:AV E}:bY (Tq id ds x)=bY x:=by have h:=agR (id:=id) (ds:=ds) (x:=x);cases x<;>first | rfl | exact h
theorem Oz{id:Nat}{ds:List (bE E.Den)}:∀{l:List (Nat×AV E)},aR l->aR (Yw id ds l)
 | [],_=>fun p h=>by cases h
 | (t,x)::r,hn=>fun p h=>by
  cases h with
  | head=>exact Vk.trans (hn (t,x) ab1)
  | tail _ h=>exact Oz (fun p h=>hn p (aav _ h)) p h
theorem Vl{id:Nat}{ds:List (bE E.Den)}:∀{l:List (Nat×AV E)} {t:Nat} {y:AV E},look (Yw id ds l) t=some y->∃x,look l t=some x/\y=Tq id ds x
 | [],_,_,h=>by cases h
 | (u,x)::r,t,y,h=>by
  simp only[Yw,aQ]at h ⊢;split at h
  ·grind
  ·rename_i hb;rw[if_neg hb];exact Vl h
theorem yw{id:Nat}{ds:List (bE E.Den)}:∀{l:List (Nat×aH E)} {t:Nat} {y:aH E},look (Xj id ds l) t=some y->∃x,look l t=some x/\y=ajK id ds t x
 | [],_,_,h=>by cases h
 | (u,x)::r,t,y,h=>by
  simp only[Xj,aQ]at h ⊢;split at h
  ·rename_i hb;rw[if_pos hb];cases h;rw[ab5 hb];exact⟨x,rfl,rfl⟩
  ·rename_i hb;rw[if_neg hb];exact yw h
theorem abe(t:Nat)(hnc:aR S.tmps)(hg:cB E w0 aZ S a w ι ro):∃ro',aR (NH t S).tmps/\cB E w0 aZ (NH t S) a w ι ro'/\(NH t S).n=S.n:=by
 have same:∃ro',aR S.tmps/\cB E w0 aZ S a w ι ro'/\S.n=S.n:=⟨ro,hnc,hg,rfl⟩
 unfold NH;split
 ·rename_i id ata hv;split
  ·rename_i cs bX;split
   ·rename_i ds hds;obtain⟨gh,g,vs,ty,h1,h2,hb,h3,h4,h5,h6⟩:=hg.objs id _ bX;have hlt:=(hg.base.sQ id gh g h1 hb)
    have hdl:=toDs_len hds;let ro':Nat->Nat->Prop:=fun k o=>ro k o\/(k=g/\o<cs.length)
    have hro:∀k o,ro k o->ro' k o:=fun _ _ h=>.inl h
    have one:∀(v:Value) (x:AV E),aJ E w ro ι v x->aJ E w ro' ι v (Ll id ds x):=by
     intro v x h;have hm:=h.mono (w':=w) hro (fun _ _ _=>rfl) (fun _ _ h=>h);cases h with
     | ptr aX g' id' off i1 i2 =>
      show aJ E w ro' ι _ (match Nat.beq id' id with | true=>.iF (ds.drop off) | false=>.ptr id' off);split
      ·rename_i hbq;have:=ab5 hbq;subst this;rw[h1]at i1;cases i1;rw[h2]at i2;cases i2;refine .iF g off (fun j=>vs.getD (off+j) undef) (ds.drop off) (fun j c hc=>?_) (fun j c hc=>?_)
       ·rw[adZ]at hc;have hj:off+j<cs.length:=by rw[<- hdl];exact(List.getElem?_eq_some_iff.1 hc).1
        have XY:off+j<vs.size:=by omega
        refine⟨.inr ⟨rfl,hj⟩,?_⟩;simp[World.cell?,h3,XY,Array.getD]
       ·rw[adZ]at hc;have hj:off+j<cs.length:=by rw[<- hdl];exact(List.getElem?_eq_some_iff.1 hc).1
        have XY:off+j<vs.size:=by omega
        have XQ:vs[off+j]? = some vs[off+j]:=acZ XY;have hcj:=aae hj;have hr:=toD_rep (h5 _ _ _ XQ hcj).2 (toDs_at hds _ _ _ hcj hc);have e:vs.getD (off+j) undef=vs[off+j]:=by simp[Array.getD,XY]
        rw[e];exact hr.mono hro (fun _ _ _=>rfl)
      ·exact hm
     | _=>exact hm
    have many:∀(vs:Array Value) (cs:List (AV E)),(∀(j:Nat) v c,vs[j]? = some v->cs[j]? = some c->aJ E w ro ι v c)->∀(j:Nat) v c,vs[j]? = some v->(cs.map (Ll id ds))[j]? = some c->aJ E w ro' ι v c:=by grind
    have all:∀(v:Value) (x:AV E),aJ E w ro ι v x->aJ E w ro' ι v (Tq id ds x):=by
     intro v x h;have h1:=one v x h;cases h with
     | agg vs cs hs hi=>exact .agg vs _ (by simp[hs]) (many vs cs hi)
     | ni vs cs hs hi=>exact .ni vs _ (by simp[hs]) (many vs cs hi)
     | _=>exact h1
    have other:∀id' ob aX g',look S.objs id'=some ob->ob.live=true->ι id'=some aX->aX.blk=some g'->id'≠id->g'≠g:=by intro id' ob aX g' q1 q2 q3 q4 hne e;subst e;exact hne (hg.inj id' id ob _ aX gh g' q1 bX q2 rfl q3 h1 q4 hb)
    refine⟨ro',Oz hnc,⟨⟨hg.base.below,fun k o h=>?_,fun k o h=>?_,hg.base.sQ,hg.base.defers,fun q hq=>⟨fun k o h=>⟨.inl ((hg.base.keep q hq).1 k o h).1,((hg.base.keep q hq).1 k o h).2⟩,(hg.base.keep q hq).2⟩,hg.base.held⟩,hg.size,fun t y hl=>?_,fun id' o hl=>?_,?_,hg.fresh,fun id' o hl=>?_⟩,rfl⟩
    ·rcases h with h | ⟨rfl,_⟩
     ·exact hg.base.aO k o h
     ·exact hlt.2
    ·rcases h with h | ⟨rfl,_⟩
     ·exact hg.base.oZ k o h
     ·exact .inr hlt.1
    ·obtain⟨x,hx,rfl⟩:=Vl hl;obtain⟨v,hv,hs⟩:=hg.tmps t x hx;have hc:bY x=false:=hnc _ (gZ _ _ _ hx);have hr:aJ E w ro ι v x:=by cases x<;>first | exact hs | cases hc
     refine⟨v,hv,?_⟩;have h2:=all v x hr;have h3:bY (Tq id ds x)=false:=Vk.trans hc;generalize Tq id ds x=y at h2 h3;cases y<;>first | exact h2 | cases h3
    ·obtain⟨o',ho',rfl⟩:=yw hl;have h:=hg.objs id' o' ho';cases o' with
     | dead=>trivial
     | box cs' =>
      show fM E w ro' ι id' (match Nat.beq id' id with | true=>.dead | false=>.box (cs'.map (Ll id ds)));split
      ·trivial
      ·rename_i hbq;have hne:id'≠id:=fun e=>by subst e;simp at hbq
       obtain⟨aX,g',vs',ty',q1,q2,qb,q3,q4,q5,q6⟩:=h;refine⟨aX,g',vs',ty',q1,q2,qb,q3,by simp[q4],fun j v c hv hc=>⟨?_,many vs' cs' (fun j v c hv hc=>(q5 j v c hv hc).2) j v c hv hc⟩,fun o hr=>?_,q6.2⟩
       ·have hj:j<cs'.length:=by have:=(List.getElem?_eq_some_iff.1 hc).1;simpa using this
        exact(q5 j v _ hv (aae hj)).1
       ·rcases hr with hr | ⟨hr,_⟩
        ·exact q6.1 o hr
        ·exact other id' _ aX g' ho' rfl q1 qb hne hr
     | tail live =>
      intro hlive;obtain⟨aX,xs,q1,q2,q3⟩:=h hlive;have hne:id'≠id:=fun e=>by subst e;rw[bX]at ho';cases ho'
      refine⟨aX,xs,q1,q2,fun g' hb' o ho hr=>?_⟩;rcases hr with hr | ⟨hr,_⟩
      ·exact q3 g' hb' o ho hr
      ·exact other id' _ aX g' ho' hlive q1 hb' hne hr
     | QH=>exact h
     | arr t l fz =>
      obtain⟨h0,aX,g',vs',ty',q1,q2,qb,q3,q4,q5,q6,q7⟩:=h;have hne:id'≠id:=fun e=>by subst e;rw[bX]at ho';cases ho'
      refine⟨h0,aX,g',vs',ty',q1,q2,qb,q3,q4,fun j v c hv hc=>⟨(q5 j v c hv hc).1,(q5 j v c hv hc).2.mono hro (fun _ _ _=>rfl) (fun _ _ h=>h)⟩,⟨fun hf o hr=>?_,fun hf o ho=>.inl (q6.2 hf o ho)⟩,q7⟩;rcases hr with hr | ⟨hr,_⟩
      ·exact q6.1 hf o hr
      ·exact other id' _ aX g' ho' rfl q1 qb hne hr
     | lp st pend n tm ps assign body =>
      obtain⟨aX,g',rec,q1,q2,q3,q4,q5⟩:=h;exact⟨aX,g',rec,q1,q2,q3,q4,fun t x hl=>by obtain⟨v,u1,u2⟩:=q5 t x hl;exact⟨v,u1,u2.mono hro (fun _ _ _=>rfl) (fun _ _ h=>h)⟩⟩
     | mp tk tv z l tok =>obtain⟨aX,g',es,gK,q,q1,q2,q3,q4,q5⟩:=h;exact⟨aX,g',es,gK,q,q1,q2,q3,q4,q5.mono hro (fun _ _ _=>rfl) (fun _ _ h=>h)⟩
     | row t l =>
      obtain⟨aX,xs,q1,hn,hge,hgs,hown,hrow,fq⟩:=h;have hne:id'≠id:=fun e=>by subst e;rw[bX]at ho';cases ho'
      refine⟨aX,xs,q1,hn,hge,hgs,hown,hrow.mono hro (fun _ _ _=>rfl),fun g' hb' o hr=>?_⟩;rcases hr with hr | ⟨hr,_⟩
      ·exact fq g' hb' o hr
      ·exact other id' _ aX g' ho' rfl q1 hb' hne hr
    ·intro i1 i2 o o' gh1 gh2 k hl hl' l1 l2 e1 e2 b1 b2;obtain⟨q,hq,rfl⟩:=yw hl;obtain⟨q',hq',rfl⟩:=yw hl';have lv:∀i (q:aH E),(ajK id ds i q).live=true->q.live=true:=by
      intro i q h;cases q<;>first | exact h | rfl
     exact hg.inj i1 i2 q q' gh1 gh2 k hq hq' (lv _ _ l1) (lv _ _ l2) e1 e2 b1 b2
    ·obtain⟨q,hq,rfl⟩:=yw hl;exact hg.ids id' q hq
   ·exact same
  ·exact same
 ·exact same
theorem Fb:∀(l:List Nat) (S:aD E) (ro:Nat->Nat->Prop),aR S.tmps->cB E w0 aZ S a w ι ro->∃ro',aR (Ep l S).tmps/\cB E w0 aZ (Ep l S) a w ι ro'/\(Ep l S).n=S.n
 | [],S,ro,hnc,hg=>⟨ro,hnc,hg,rfl⟩
 | t::r,S,ro,hnc,hg=>by obtain⟨ro1,h1,h2,h3⟩:=abe t hnc hg;obtain⟨ro2,h4,h5,h6⟩:=Fb r (NH t S) ro1 h1 h2;exact⟨ro2,h4,h5,h6.trans h3⟩
theorem fM.apP{w:World}{ro ro':Nat->Nat->Prop}{ι:Nat->Option Gh}{g:Nat}(hro:∀k o,ro k o->ro' k o)(hnew:∀k o,ro' k o->ro k o\/k=g){id:Nat}{ob:aH E}(h:fM E w ro ι id ob)
  (hne:ob.live=true->∀gh g',ι id=some gh->gh.blk=some g'->g'≠g):fM E w ro' ι id ob:=by
 have mono:∀{v:Value} {x:AV E},aJ E w ro ι v x->aJ E w ro' ι v x:=fun h=>h.mono hro (fun _ _ _=>rfl) (fun _ _ h=>h)
 cases ob with
 | dead=>trivial
 | box cs =>obtain⟨gh,g',vs,ty,q1,q2,qb,q3,q4,q5,q6,q7⟩:=h;exact⟨gh,g',vs,ty,q1,q2,qb,q3,q4,fun j v c hv hc=>⟨(q5 j v c hv hc).1,mono (q5 j v c hv hc).2⟩,fun o hr=>(hnew _ _ hr).elim (q6 o) (hne rfl gh g' q1 qb),q7⟩
 | tail live =>intro hlive;obtain⟨gh,xs,q1,q2,q3⟩:=h hlive;exact⟨gh,xs,q1,q2,fun g' hb o ho hr=>(hnew _ _ hr).elim (q3 g' hb o ho) (hne hlive gh g' q1 hb)⟩
 | QH=>exact h
 | arr t l fz =>obtain⟨h0,gh,g',vs,ty,q1,q2,qb,q3,q4,q5,q6,q7⟩:=h;exact⟨h0,gh,g',vs,ty,q1,q2,qb,q3,q4,fun j v c hv hc=>⟨(q5 j v c hv hc).1,mono (q5 j v c hv hc).2⟩,⟨fun hf o hr=>(hnew _ _ hr).elim (q6.1 hf o) (hne rfl gh g' q1 qb),fun hf o ho=>hro _ _ (q6.2 hf o ho)⟩,q7⟩
 | lp st pend n tm ps assign body =>
  obtain⟨gh,g',rec,q1,q2,q3,q4,q5⟩:=h;exact⟨gh,g',rec,q1,q2,q3,q4,fun t x hl=>by obtain⟨v,u1,u2⟩:=q5 t x hl;exact⟨v,u1,mono u2⟩⟩
 | mp tk tv z l tok =>obtain⟨gh,g',es,gK,q,q1,q2,q3,q4,q5⟩:=h;exact⟨gh,g',es,gK,q,q1,q2,q3,q4,q5.mono hro (fun _ _ _=>rfl) (fun _ _ h=>h)⟩
 | row t l =>obtain⟨gh,xs,q1,hn,hge,hgs,hown,hrow,fq⟩:=h;exact⟨gh,xs,q1,hn,hge,hgs,hown,hrow.mono hro (fun _ _ _=>rfl),fun g' hb o hr=>(hnew _ _ hr).elim (fq g' hb o) (hne rfl gh g' q1 hb)⟩
theorem cB.other{id g:Nat}{gh:Gh}{ob La:aH E}{ro':Nat->Nat->Prop}(hnc:aR S.tmps)(hg:cB E w0 aZ S a w ι ro)(bX:look S.objs id=some ob)(hl:ob.live=true)(hi:ι id=some gh)(hb:gh.blk=some g)
  (hro:∀k o,ro k o->ro' k o) (hnew:∀k o,ro' k o->ro k o\/k=g) (h':fM E w ro' ι id La):cB E w0 aZ ⟨S.n,S.tmps,(id,La)::S.objs,S.next⟩ a w ι ro':=by
 have hlt:=hg.base.sQ id gh g hi hb;refine⟨⟨hg.base.below,fun k o h=>?_,fun k o h=>?_,hg.base.sQ,hg.base.defers,fun q hq=>⟨fun k o h=>⟨hro _ _ ((hg.base.keep q hq).1 k o h).1,((hg.base.keep q hq).1 k o h).2⟩,(hg.base.keep q hq).2⟩,hg.base.held⟩,hg.size,fun t x hx=>?_,fun id' o ho=>?_,?_,hg.fresh,fun id' o ho=>?_⟩
 ·rcases hnew k o h with h | rfl
  ·exact hg.base.aO k o h
  ·exact hlt.2
 ·rcases hnew k o h with h | rfl
  ·exact hg.base.oZ k o h
  ·exact .inr hlt.1
 ·obtain⟨v,hv,hs⟩:=hg.tmps t x hx;have hc:bY x=false:=hnc _ (gZ _ _ _ hx);exact⟨v,hv,uN.mono hro (fun _ _ _=>rfl) (fun _ _ h=>h) hs⟩
 ·simp only[aQ]at ho;split at ho
  ·rename_i hbq;have:=ab5 hbq;subst this;cases ho;exact h'
  ·rename_i hbq;refine(hg.objs id' o ho).apP hro hnew fun hl' aX g' hi' hb' e=>?_
   subst e;have:=hg.inj id' id o ob aX gh g' ho bX hl' hl hi' hi hb' hb;subst this;exact hbq (Nat.beq_refl _)
 ·have pre:∀i o,look ((id,La)::S.objs) i=some o->o.live=true->∃o',look S.objs i=some o'/\o'.live=true:=fun i o h hl'=>by
   simp only[aQ]at h;split at h
   ·rename_i hbq;have:=ab5 hbq;subst this;exact⟨ob,bX,hl⟩
   ·exact⟨o,h,hl'⟩
  intro i1 i2 o1 o2 g1 g2 k h1 h2 l1 l2 e1 e2 b1 b2;obtain⟨p1,q1,r1⟩:=pre i1 o1 h1 l1;obtain⟨p2,q2,r2⟩:=pre i2 o2 h2 l2;exact hg.inj i1 i2 p1 p2 g1 g2 k q1 q2 r1 r2 e1 e2 b1 b2
 ·simp only[aQ]at ho;split at ho
  ·rename_i hbq;have:=ab5 hbq;subst this;exact hg.ids id ob bX
  ·exact hg.ids id' o ho
theorem abf(p:Nat×Option E.Ty)(hnc:aR S.tmps)(hg:cB E w0 aZ S a w ι ro):∃ro',aR (NI p S).tmps/\cB E w0 aZ (NI p S) a w ι ro'/\(NI p S).n=S.n:=by
 have same:∃ro',aR S.tmps/\cB E w0 aZ S a w ι ro'/\S.n=S.n:=⟨ro,hnc,hg,rfl⟩
 unfold NI;split
 ·rename_i id off hv;split
  ·rename_i cs t bX hp;split
   ·rename_i ds hag hds;split
    ·rename_i l hl;obtain⟨gh,g,vs,ty,h1,h2,hb,h3,h4,h5,h6,h7⟩:=hg.objs id _ bX;obtain⟨q1,q2⟩:=U4 hl;have hdl:=toDs_len hds;refine⟨ro,hnc,hg.other hnc bX rfl h1 hb (fun _ _ h=>h) (fun _ _ h=>.inl h) ⟨hag,gh,g,vs,ty,h1,h2,hb,h3,by rw[h4,zx,q1,<- hdl],fun j v c hv hc=>?_,⟨fun _=>h6,fun hf=>by cases hf⟩,h7⟩,rfl⟩;unfold kI at hc;rw[acS]at hc;cases hj:l[j]? with
     | none=>rw[hj]at hc;cases hc
     | some x =>
      rw[hj]at hc;cases hc;obtain⟨d,hd,hle⟩:=q2 j x hj;obtain⟨c0,r1,r2⟩:=Pw hag x;rw[r1]at hle;have hjc:j<cs.length:=by rw[<- hdl];exact(List.getElem?_eq_some_iff.1 hd).1
      obtain⟨g1,g2⟩:=h5 j v _ hv (aae hjc);have hdr:=toD_rep g2 (toDs_at hds _ _ _ (aae hjc) hd);refine⟨g1,?_⟩;rw[r2];exact .d _ _ ((hle.at_ 0 d c0 rfl rfl).rep hdr)
    ·exact same
   ·exact same
  ·rename_i t l bX hp;obtain⟨h0,gh,g,vs,ty,h1,h2,hb,h3,h4,h5,h6,h7⟩:=hg.objs id _ bX;refine⟨fun k o=>ro k o\/(k=g/\o<l.length),hnc,hg.other hnc bX rfl h1 hb (fun _ _ h=>.inl h) (fun _ _ h=>h.imp (fun h=>h) And.left) ⟨h0,gh,g,vs,ty,h1,h2,hb,h3,h4,fun j v c hv hc=>⟨(h5 j v c hv hc).1,(h5 j v c hv hc).2.mono (fun _ _ h=>.inl h) (fun _ _ _=>rfl) (fun _ _ h=>h)⟩,⟨fun hf=>(by cases hf),fun _ o ho=>.inr ⟨rfl,ho⟩⟩,h7⟩,rfl⟩
  ·exact same
 ·exact same
theorem IU:∀(l:List (Nat×Option E.Ty)) (S:aD E) (ro:Nat->Nat->Prop),aR S.tmps->cB E w0 aZ S a w ι ro->∃ro',aR (Yx l S).tmps/\cB E w0 aZ (Yx l S) a w ι ro'/\(Yx l S).n=S.n
 | [],S,ro,hnc,hg=>⟨ro,hnc,hg,rfl⟩
 | p::r,S,ro,hnc,hg=>by obtain⟨ro1,h1,h2,h3⟩:=abf p hnc hg;obtain⟨ro2,h4,h5,h6⟩:=IU r (NI p S) ro1 h1 h2;exact⟨ro2,h4,h5,h6.trans h3⟩
theorem Lr{R:Type}{k:aD E->Option R}{rr:R}{t:Nat}{kd:IntKind}{i:Int}(hnc:aR S.tmps)(hg:cB E w0 aZ S a w ι ro)(hl:look S.tmps t=some (.d (.int kd i))) :
  ∀(m j:Nat),splitN k S t kd i m j=some rr->∃S',aR S'.tmps/\cB E w0 aZ S' a w ι ro/\S'.n=S.n/\k S'=some rr
 | 0,_,h=>by cases h
 | m+1,j,h=>by
  unfold splitN at h;cases hb:i==(j:Int)with
  | false=>rw[hb]at h;exact Lr hnc hg hl m (j+1) h
  | true =>
   rw[hb]at h;have e:i=(j:Int):=by simpa using hb
   subst e;refine⟨⟨S.n,(t,.d (.int kd (j:Int)))::S.tmps,S.objs,S.next⟩,fun p hp=>?_,⟨hg.base,hg.size,fun t' x hl'=>?_,hg.objs,hg.inj,hg.fresh,hg.ids⟩,rfl,h⟩
   ·cases hp with
    | head=>rfl
    | tail _ hp=>exact hnc p hp
   ·simp only[aQ]at hl';split at hl'
    ·rename_i hb;have:=ab5 hb;subst this;cases hl';exact hg.tmps _ _ hl
    ·exact hg.tmps t' x hl'
theorem CP{R:Type}{k:aD E->Option R}{rr:R}:∀(l:List (Nat×Nat)) (S:aD E),aR S.tmps->cB E w0 aZ S a w ι ro->splitK l S k=some rr->∃S',aR S'.tmps/\cB E w0 aZ S' a w ι ro/\S'.n=S.n/\k S'=some rr
 | [],S,hnc,hg,h=>⟨S,hnc,hg,rfl,h⟩
 | (t,n)::r,S,hnc,hg,h=>by
  unfold splitK at h;split at h
  ·rename_i kd i hl;obtain⟨S1,h1,h2,h3,h4⟩:=Lr hnc hg hl n 0 h;obtain⟨S2,h5,h6,h7,h8⟩:=CP r S1 h1 h2 h4;exact⟨S2,h5,h6,h7.trans h3,h8⟩
  ·cases h
theorem qL:∀{l:List Nat} {i j:Nat},jh l i=some j->l[j]? = some i
 | [],_,_,h=>by cases h
 | x::r,i,j,h=>by
  unfold jh at h;split at h
  ·rename_i hb;cases h;simp[ab5 hb]
  ·split at h
   ·rename_i q hq;cases h;simpa using qL hq
   ·cases h
theorem Vm:∀{l:List Nat} {i:Nat},jh l i=none->i∉l
 | [],_,_=>by simp
 | x::r,i,h=>by
  unfold jh at h;split at h
  ·cases h
  ·rename_i hb;split at h
   ·cases h
   ·rename_i hq;have:=Vm hq;intro hm;cases hm with
    | head=>simp at hb
    | tail _ hm=>exact this hm
theorem aeR{l:List Nat}{i:Nat}(h:l.Nodup):(addN l i).Nodup:=by
 unfold addN;split
 ·exact h
 ·rename_i hn;rw[List.nodup_append];refine⟨h,by simp,fun x hx y hy e=>?_⟩;simp at hy;subst hy;subst e;exact Vm hn hx
theorem CQ:∀{m l:List Nat},l.Nodup->(Lm l m).Nodup
 | [],_,h=>h
 | _::r,_,h=>CQ (m:=r) (aeR h)
theorem Vn{ι':Nat->Option Gh}{v:Value}{x:AV E}(hc:Cc x=true)(h:aJ E w ro ι v x):aJ E w ro ι' v x:=by
 cases h with
 | d _ c h=>exact .d _ c h
 | st vs t x ha h=>exact .st vs t x ha h
 | _=>cases hc
theorem YB{ids:List Nat}{v:Value}{x:AV E}(h:aJ E w ro ι v x):aJ E w ro (fun j=>(ids[j]?).bind ι) v (PO ids x):=by
 cases h with
 | d _ c h=>exact .d _ c h
 | st vs t x ha h=>exact .st vs t x ha h
 | iF g off f cs h1 h2=>exact .iF g off f cs h1 h2
 | grow gh t l id h1 h2 h3 h4 h5 =>
  show aJ E w ro _ gh.v (match jh ids id with | some j=>.grow t l j | none=>.d (.slice t l));cases hj:jh ids id with
  | some j=>exact .grow gh t l j (show(ids[j]?).bind ι=some gh by rw[qL hj];exact h1) h2 h3 h4 h5
  | none=>exact .d _ _ h5
 | ptr gh g id off h1 h2 =>
  show aJ E w ro _ _ (match jh ids id with | some j=>.ptr j off | none=>.any);cases hj:jh ids id with
  | some j=>exact .ptr gh g j off (show(ids[j]?).bind ι=some gh by rw[qL hj];exact h1) h2
  | none=>exact .any _
 | row gh t id ad cap h1 h2 h3 h4 h5 =>
  show aJ E w ro _ gh.v (match jh ids id with | some j=>.row t gh.n j | none=>.any);cases hj:jh ids id with
  | some j=>exact .row gh t j ad cap (show(ids[j]?).bind ι=some gh by rw[qL hj];exact h1) h2 h3 h4 h5
  | none=>exact .any _
 | elt gh g id i off cap h1 h2 h3 =>
  show aJ E w ro _ _ (match jh ids id with | some j=>.elt j i off | none=>.any);cases hj:jh ids id with
  | some j=>exact .elt gh g j i off cap (show(ids[j]?).bind ι=some gh by rw[qL hj];exact h1) h2 h3
  | none=>exact .any _
 | yl gh l id h1 h2 =>
  show aJ E w ro _ _ (match jh ids id with | some j=>.yl j | none=>.any);cases hj:jh ids id with
  | some j=>exact .yl gh l j (show(ids[j]?).bind ι=some gh by rw[qL hj];exact h1) h2
  | none=>exact .any _
 | mp gh g id h1 h2 =>
  show aJ E w ro _ _ (match jh ids id with | some j=>.mp j | none=>.any);cases hj:jh ids id with
  | some j=>exact .mp gh g j (show(ids[j]?).bind ι=some gh by rw[qL hj];exact h1) h2
  | none=>exact .any _
 | Cv gh g id n cap h1 h2 =>
  show aJ E w ro _ _ (match jh ids id with | some j=>.Cv n j | none=>.any);cases hj:jh ids id with
  | some j=>exact .Cv gh g j n cap (show(ids[j]?).bind ι=some gh by rw[qL hj];exact h1) h2
  | none=>exact .any _
 | mk gh v g T id h1 h2 h3 h4 =>
  show aJ E w ro _ _ (match jh ids id with | some j=>.mk T j | none=>.any);cases hj:jh ids id with
  | some j=>exact .mk gh _ g T j (show(ids[j]?).bind ι=some gh by rw[qL hj];exact h1) h2 h3 h4
  | none=>exact .any _
 | fn f vs us a b h1 h2 h3 h4 =>
  show aJ E w ro _ _ (bif a.all Cc&&b.all Cc then .fn f a b else .any);cases hc:a.all Cc&&b.all Cc with
  | false=>exact .any _
  | true =>rw[ach,agY,agY]at hc;exact .fn f vs us a b h1 h2 (fun j v c hv hj=>Vn (hc.1 c (ag3 hj)) (h3 j v c hv hj)) fun j v c hv hj=>Vn (hc.2 c (ag3 hj)) (h4 j v c hv hj)
 | _=>exact .any _
theorem ab9{ids:List Nat}{vs:Array Value}{cs:List (AV E)}(h:∀(j:Nat) v c,vs[j]? = some v->cs[j]? = some c->aJ E w ro ι v c):∀(j:Nat) v c,vs[j]? = some v->(cs.map (PO ids))[j]? = some c->aJ E w ro (fun j=>(ids[j]?).bind ι) v c:=by
 intro j v c hv hc;rw[acS]at hc;cases hx:cs[j]? with
 | none=>rw[hx]at hc;cases hc
 | some y =>rw[hx]at hc;cases hc;exact YB (h j v y hv hx)
theorem ajL{ids:List Nat}{v:Value}{x:AV E}(h:aJ E w ro ι v x):aJ E w ro (fun j=>(ids[j]?).bind ι) v (IK ids x):=by
 have one:=YB (ids:=ids) h;cases h with
 | agg vs cs h1 h2=>exact .agg vs _ (by simp[h1]) (ab9 h2)
 | _=>exact one
theorem aeS{objs:List (Nat×aH E)}{v:Value}{x:AV E}(h:aJ E w ro ι v x):aJ E w ro ι v (yt objs x):=by
 have h0:=h;cases h with
 | grow gh t l id h1 h2 h3 h4 h5 =>
  show aJ E w ro ι gh.v (match look objs id with | some (.tail true)=>.grow t l id | _=>.d (.slice t l));split
  ·exact h0
  ·exact .d _ _ h5
 | _=>exact h0
theorem aeT{live:List Nat}{t:Nat}{y:AV E}(h:look (NJ S live) t=some y):∃x,look S.tmps t=some x/\y=yt S.objs x:=by
 induction live with
 | nil=>cases h
 | cons u r ih =>
  unfold NJ at h;cases hx:look S.tmps u with
  | some x =>
   rw[hx]at h;simp only[aQ]at h;split at h
   ·rename_i hb;have:=ab5 hb;grind
   ·exact ih h
  | none =>rw[hx]at h;exact ih h
theorem Vo{ids:List Nat}:∀{l:List (Nat×AV E)} {t:Nat} {y:AV E},look (PS ids l) t=some y->∃x,look l t=some x/\y=IK ids x
 | [],_,_,h=>by cases h
 | (u,x)::r,t,y,h=>by
  simp only[PS,aQ]at h ⊢;split at h
  ·grind
  ·rename_i hb;rw[if_neg hb];exact Vo h
theorem yx{objs:List (Nat×aH E)}{ids:List Nat}:∀{l:List Nat} {j q:Nat} {o:aH E},look (Rn objs ids l j) q=some o->∃i,j<=q/\l[q-j]? = some i/\(o = .dead\/∃o',look objs i=some o'/\o=an9 ids o')
 | [],_,_,_,h=>by cases h
 | i::r,j,q,o,h=>by
  simp only[Rn,aQ]at h;split at h
  ·rename_i hb;have:=ab5 hb;subst this;refine⟨i,acM _,by simp,?_⟩;grind
  ·obtain⟨i',h1,h2,h3⟩:=yx h;grind
theorem Fe{ids:List Nat}:∀(l:List (Nat×AV E)),aR (PS ids l)
 | []=>fun p h=>by cases h
 | (t,x)::r=>fun p h=>by
  cases h with
  | tail _ h=>exact Fe r p h
  | head =>
   simp only;cases x with
   | cond=>rfl
   | agg=>rfl
   | any=>rfl
   | d=>rfl
   | st=>rfl
   | ni=>rfl
   | iF=>rfl
   | sd=>rfl
   | ent=>rfl
   | fn f a b=>simp only[IK,PO];cases a.all Cc&&b.all Cc<;>rfl
   | _=>simp only[IK,PO];split<;>rfl
theorem ajM{ι':Nat->Option Gh}{v:Value}{c:AV E}{t:E.Ty}{l:List (E.Den t)}{j:Nat}(h:aJ E w ro ι v c)(hc:(kI t l)[j]? = some c):aJ E w ro ι' v c:=by
 unfold kI at hc;rw[acS]at hc;cases hl:l[j]? with
 | none=>rw[hl]at hc;cases hc
 | some x =>
  rw[hl]at hc;cases hc;unfold cell1 at h ⊢;cases h with
  | d _ _ hd=>exact .d _ _ hd
theorem agT(ids:List Nat)(hnd:ids.Nodup)(kept:List (Nat×AV E))(hkept:∀t y,look kept t=some y->∃z,look S.tmps t=some z/\y=yt S.objs z)(hio:∀q,w0.k=some q->∀id gh,q.ι id=some gh->ids[id]? = some id)(hnc:aR S.tmps)(hg:cB E w0 aZ S a w ι ro) :
  aR (PS ids kept)/\cB E w0 aZ ⟨S.n,PS ids kept,Rn S.objs ids ids 0,ids.length⟩ a w (fun j=>(ids[j]?).bind ι) ro:=by
 refine⟨Fe _,⟨hg.base.below,hg.base.aO,hg.base.oZ,fun id gh k h1 h2=>?_,hg.base.defers,(fun q hq=>⟨(hg.base.keep q hq).1,fun id gh h=>by simp only[hio q hq id gh h];exact(hg.base.keep q hq).2 id gh h⟩),fun k o h=>⟨(hg.base.held k o h).1,fun id gh h1 h2=>by cases hj:ids[id]? with | none=>(simp only[hj]at h1;cases h1) | some i=>(simp only[hj]at h1;exact(hg.base.held k o h).2 i gh h1 h2)⟩⟩,hg.size,fun t y hl=>?_,fun id o hl=>?_,?_,fun id h=>?_,fun id o hl=>?_⟩
 ·cases hj:ids[id]? with
  | none=>simp only[hj]at h1;cases h1
  | some i=>simp only[hj]at h1;exact hg.base.sQ i gh k h1 h2
 ·obtain⟨x,hx,rfl⟩:=Vo hl;obtain⟨z,hz,rfl⟩:=hkept _ _ hx;obtain⟨v,hv,hs⟩:=hg.tmps t z hz;have hc:bY z=false:=hnc _ (gZ _ _ _ hz);have hr:aJ E w ro ι v z:=by cases z<;>first | exact hs | cases hc
  refine⟨v,hv,?_⟩;have h2:=ajL (ids:=ids) (aeS (objs:=S.objs) hr);have h3:bY (IK ids (yt S.objs z))=false:=by have:=Fe (ids:=ids) [(0,yt S.objs z)];exact this (0,IK ids (yt S.objs z)) ab1
  show uN E w ro _ a.tmps v (IK ids (yt S.objs z));generalize IK ids (yt S.objs z)=y at h2 h3;cases y<;>first | exact h2 | cases h3
 ·obtain⟨i,_,hi,h⟩:=yx hl;simp only[alI]at hi;rcases h with rfl | ⟨o',ho',rfl⟩
  ·trivial
  ·have h:=hg.objs i o' ho';have hi':(fun j=>(ids[j]?).bind ι) id=ι i:=by
    grind
   cases o' with
   | tail l =>intro hl;obtain⟨gh,xs,h1,h2,h3⟩:=h hl;exact⟨gh,xs,hi'.trans h1,h2,h3⟩
   | QH =>obtain⟨gh,g,h1,h2⟩:=h;exact⟨gh,g,hi'.trans h1,h2⟩
   | arr t l fz =>obtain⟨h0,gh,g,vs,ty,h1,h2,hb,h3,h4,h5,h6⟩:=h;exact⟨h0,gh,g,vs,ty,hi'.trans h1,h2,hb,h3,h4,fun j v c hv hc=>⟨(h5 j v c hv hc).1,ajM (h5 j v c hv hc).2 hc⟩,h6⟩
   | mp tk tv z l tok =>obtain⟨gh,g,es,gK,q,h1,h2,h3,h4,h5⟩:=h;exact⟨gh,g,es,gK,q,hi'.trans h1,h2,h3,h4,⟨h5.kq,h5.st,h5.zero,h5.ents,h5.XP,fun n k h=>by cases h⟩⟩
   | row t l =>obtain⟨gh,xs,h1,h2⟩:=h;exact⟨gh,xs,hi'.trans h1,h2⟩
   | box cs =>
    obtain⟨gh,g,vs,ty,h1,h2,hb,h3,h4,h5,h6⟩:=h;exact⟨gh,g,vs,ty,hi'.trans h1,h2,hb,h3,by simp[h4],fun j v c hv hc=>⟨by
     have hj:j<cs.length:=by have:=(List.getElem?_eq_some_iff.1 hc).1;simpa using this
     exact(h5 j v _ hv (aae hj)).1,ab9 (fun j v c hv hc=>(h5 j v c hv hc).2) j v c hv hc⟩,h6⟩
   | _=>trivial
 ·intro id id' o o' gh aX k hl hl' l1 l2 i1 i2 b1 b2;obtain⟨i,_,hi,h⟩:=yx hl;obtain⟨i',_,hi',h'⟩:=yx hl';simp only[alI]at hi hi';rcases h with rfl | ⟨q,hq,rfl⟩
  ·cases l1
  rcases h' with rfl | ⟨q',hq',rfl⟩
  ·cases l2
  have e1:q.live=true:=by cases q<;>first | exact l1 | cases l1
  have e2:q'.live=true:=by cases q'<;>first | exact l2 | cases l2
  simp only at i1 i2;have i1':(ids[id]?).bind ι=some gh:=i1;have i2':(ids[id']?).bind ι=some aX:=i2;rw[show ids[id]? = some i from hi]at i1';rw[show ids[id']? = some i' from hi']at i2';have:=hg.inj i i' q q' gh aX k hq hq' e1 e2 i1' i2' b1 b2;subst this;have hlt:=(List.getElem?_eq_some_iff.1 hi).1;have hlt':=(List.getElem?_eq_some_iff.1 hi').1;exact(List.getElem?_inj hlt hnd).1 (hi.trans hi'.symm)
 ·grind
 ·obtain⟨i,_,hi,_⟩:=yx hl;grind
theorem ajN{l:List Nat}{i j x:Nat}(h:l[j]? = some x):(addN l i)[j]? = some x:=by unfold addN;grind
theorem IV{j x:Nat}:∀{m l:List Nat},l[j]? = some x->(Lm l m)[j]? = some x
 | [],_,h=>h
 | _::r,_,h=>IV (m:=r) (ajN h)
def Rt(own:Nat)(w0:Start):Prop:=∀q,w0.k=some q->∀id gh,q.ι id=some gh->id<own
theorem Rt.none{own:Nat}{w0:Start}(h:w0.k=none):Rt own w0:=fun q hq=>by rw[h]at hq;cases hq
theorem abg(own:Nat)(live:List Nat)(hio:Rt own w0)(hnc:aR S.tmps)(hg:cB E w0 aZ S a w ι ro):∃ι',aR (aeP own live S).tmps/\cB E w0 aZ (aeP own live S) a w ι' ro :=
 ⟨_,agT _ (CQ (CQ List.nodup_range)) (NJ S live) (fun _ _ h=>aeT h) (fun q hq id gh h=>IV (IV (by rw[List.getElem?_range (hio q hq id gh h)]))) hnc hg⟩
end
section
variable {P:Program} {E:Env P} {O:aK E} {w0:Start} {aZ:Nat->Nat->Prop}
theorem Ls{R:Type}(hO:aG E O)(bV:P.follows .mixedOrders=true){S:aD E}{a:Act}{w:World}{ι:Nat->Option Gh}{ro:Nat->Nat->Prop}(hnc:aR S.tmps)(hg:cB E w0 aZ S a w ι ro){k:aD E->Option R}{rr:R}{Q:Exit->Act->World->Prop}{b dr:Bool}{ops:Array Oper}{id:Nat}
  (hk:∀S' a' w' ι' ro',aR S'.tmps->cB E w0 aZ S' a' w' ι' ro'->S'.n=S.n->k S'=some rr->Q .normal a' w') (h:AJ b O ops dr S k=some rr):(Code.region id ops dr).wp P Q a w:=by
 have old:alc O ops dr S k=some rr->(Code.region id ops dr).wp P Q a w:=fun h=>by
  cases dr with
  | true=>exact Yr (n:=S.n) (glob:=S.tmps) (objs:=S.objs) (next:=S.next) hO bV hnc hg hk h
  | false=>exact wp_region_list (E5 (n:=S.n) (glob:=S.tmps) hO hnc hk ops.toList [] S.objs S.next a w ι ro hg h)
 unfold AJ at h;split at h
 ·exact Yu hO bV hnc hg hk h
 ·exact old h
end
section
variable {P:Program} {E:Env P}
def Tx(S:aD E)(r:ResultVar):Option (AV E):=match r with
 | .tmp q=>some (QI [] (look S.tmps q))
 | .cell q ty=>KX S.objs ty (QI [] (look S.tmps q))
def Tz(S:aD E):List ResultVar->List TypeId->Option (List (TV E))
 | [],[]=>some []
 | r::rs,T::Ts=>match E.code T with
  | some t=>match Tx S r with
   | some v=>match ng t v with
    | some x=>match Tz S rs Ts with
     | some xs=>some (⟨t,x⟩::xs)
     | none=>none
    | none=>none
   | none=>none
  | none=>none
 | _,_=>none
def IW:List (TV E)->Nat->List (Nat×AV E)
 | [],_=>[]
 | ⟨t,x⟩::r,i=>(i,eD t x)::IW r (i+1)
def Lu(fn:Func)(args:List (TV E)):aD E:=⟨args.length+(fn.ntmps-args.length),IW args 0,[],0⟩
def TA(fn:Func)(e:cZ)(S:aD E):Option (List (TV E)):=match e with
 | .exit _=>none
 | .goto _=>none
 | _=>Tz (rQ S) fn.results.toList fn.resultTypes.toList
abbrev fQ(E:Env P):=Nat->aD E->Option (List (TV E))
def CS(O:aK E)(h:Hint E)(G:fQ E)(fn:Func)(args:List (TV E)):Option (List (TV E)):=match fn.body with
 | some c=>jr O h G 0 c (Lu fn args) (TA fn)
 | none=>none
def aeU(O:aK E)(h:Hint E)(G:fQ E)(fn:Func)(j:Nat)(S:aD E):Option (List (TV E)):=match fn.body with
 | some c=>Yz O h G c j S (TA fn)
 | none=>none
end
section
variable {P:Program}
def sZ(P:Program)(c:Code)(Q:Exit->Act->World->Prop)(a:Act)(w:World):Prop :=
 ∀b k cs, ∃e a' w',Q e a' w'/\Arrives P (lone (b.at a (.code c :: .inLoop c::k)) cs w) b k cs e a' w'
theorem sZ.wp{c:Code}{Q:Exit->Act->World->Prop}{a:Act}{w:World}(h:sZ P c Q a w):(Code.loop c).wp P Q a w:=by intro b k cs;obtain⟨e,a',w',hq,harr⟩:=h b k cs;exact⟨e,a',w',hq,.of_steps (.one step_loop) harr⟩
theorem sZ.round{c:Code}{Q:Exit->Act->World->Prop}{a:Act}{w:World}(h:c.wp P (Exit.then (sZ P c Q) Q) a w):sZ P c Q a w:=by
 intro b k cs;obtain⟨e,a₁,w₁,hq,harr⟩:=h b (.inLoop c::k) cs;cases e with
 | normal =>obtain⟨e₂,a₂,w₂,hq₂,harr₂⟩:=hq b k cs;exact⟨e₂,a₂,w₂,hq₂,.of_steps (Steps.trans harr (.one step_inLoop)) harr₂⟩
 | _=>exact⟨_,a₁,w₁,hq,.pass (x:=.inLoop c) rfl (fun _ _=>.inl (by simp)) harr⟩
def CU(P:Program)(c rest:Code)(Q:Exit->Act->World->Prop)(a:Act)(w:World):Prop :=
 ∀b k cs, ∃e a' w',Q e a' w'/\Arrives P (lone (b.at a (.code rest :: .inScope c::k)) cs w) b k cs e a' w'
def Gl(P:Program)(c:Code)(Q:Exit->Act->World->Prop):Exit->Act->World->Prop
 | .goto l,a,w=>∃rest,findLabel c l=some rest/\CU P c rest Q a w
 | e,a,w=>Q e a w
theorem CU.of{c rest:Code}{Q:Exit->Act->World->Prop}{a:Act}{w:World}(h:rest.wp P (Gl P c Q) a w):CU P c rest Q a w:=by
 intro b k cs;obtain⟨e,a₁,w₁,hq,harr⟩:=h b (.inScope c::k) cs;cases e with
 | normal=>exact⟨.normal,a₁,w₁,hq,Steps.trans harr (.one step_inScope)⟩
 | exit id=>exact⟨.exit id,a₁,w₁,hq,fun k' hk=>harr k' (by simp[exitTo,hk])⟩
 | goto l' =>
  obtain⟨rest',hf,hJ⟩:=hq;have hg:gotoIn l' (.inScope c::k)=some (.code rest' :: .inScope c::k):=by simp[gotoIn,hf]
  obtain⟨e₂,a₂,w₂,hq₂,harr₂⟩:=hJ b k cs;exact⟨e₂,a₂,w₂,hq₂,.of_steps (harr _ hg) harr₂⟩
 | _=>exact⟨_,a₁,w₁,hq,harr⟩
theorem Vp{c:Code}{Q:Exit->Act->World->Prop}{a:Act}{w:World}(h:c.wp P (Gl P c Q) a w):(Code.scope c).wp P Q a w:=by
 intro b k cs;obtain⟨e,a₁,w₁,hq,harr⟩:=h b (.inScope c::k) cs;cases e with
 | normal=>exact⟨.normal,a₁,w₁,hq,.head step_scope (Steps.trans harr (.one step_inScope))⟩
 | exit id=>exact⟨.exit id,a₁,w₁,hq,fun k' hk=>.head step_scope (harr k' (by simp[exitTo,hk]))⟩
 | goto l' =>
  obtain⟨rest',hf,hJ⟩:=hq;have hg:gotoIn l' (.inScope c::k)=some (.code rest' :: .inScope c::k):=by simp[gotoIn,hf]
  obtain⟨e₂,a₂,w₂,hq₂,harr₂⟩:=hJ b k cs;exact⟨e₂,a₂,w₂,hq₂,.of_steps (.head step_scope (harr _ hg)) harr₂⟩
 | _=>exact⟨_,a₁,w₁,hq,.of_steps (.one step_scope) harr⟩
def jR(P:Program):Code->(Exit->Act->World->Prop)->Option (Code×(Exit->Act->World->Prop))
 | .scope c,Q=>some (c,Q)
 | .seq x y,Q=>(match dB x with
  | true=>jR P x (Exit.then (y.wp P Q) Q)
  | false=>jR P y Q)
 | .block id b,Q=>jR P b (Exit.inBlock id Q)
 | _,_=>none
def jc(P:Program):Code->Nat->(Exit->Act->World->Prop)->Option (Code×(Exit->Act->World->Prop))
 | .loop b,0,Q=>some (b,Q)
 | .loop b,j+1,Q=>jc P b j (Exit.then (sZ P b Q) Q)
 | .seq x y,j,Q=>match Nat.blt j (bF x)with
  | true=>jc P x j (Exit.then (y.wp P Q) Q)
  | false=>jc P y (j-bF x) Q
 | .cond _ x y,j,Q=>match Nat.blt j (bF x)with
  | true=>jc P x j Q
  | false=>jc P y (j-bF x) Q
 | .block id b,j,Q=>jc P b j (Exit.inBlock id Q)
 | .scope b,j,Q=>(match sW b with
  | true=>jc P b j (Exit.noGoto Q)
  | false=>none)
 | _,_,_=>none
def Placed(P:Program)(c0:Code)(Q0:Exit->Act->World->Prop)(i:Nat)(c:Code)(Q:Exit->Act->World->Prop):Prop :=
 ∀j,j<bF c->jc P c0 (i+j) Q0=jc P c j Q
theorem IX{a b:Nat}(h:a<b):Nat.blt a b=true:=by simpa[Nat.blt_eq]using h
theorem Er{a b:Nat}(h:b<=a):Nat.blt a b=false:=by
 cases hb:Nat.blt a b with
 | false=>rfl
 | true=>rw[Nat.blt_eq]at hb;omega
section
variable {c0:Code} {Q0 Q:Exit->Act->World->Prop} {i:Nat}
theorem Placed.seq{x y:Code}(h:Placed P c0 Q0 i (.seq x y) Q):Placed P c0 Q0 i x (Exit.then (y.wp P Q) Q)/\Placed P c0 Q0 (i+bF x) y Q:=by
 refine⟨fun j hj=>?_,fun j hj=>?_⟩
 ·rw[h j (by show j<bF x+bF y;omega)];simp only[jc,IX hj]
 ·rw[alh,h (bF x+j) (by show bF x+j<bF x+bF y;omega)];simp only[jc,Er (show bF x<=bF x+j by omega),Nat.add_sub_cancel_left]
theorem Placed.cond{c:Operand}{x y:Code}(h:Placed P c0 Q0 i (.cond c x y) Q):Placed P c0 Q0 i x Q/\Placed P c0 Q0 (i+bF x) y Q:=by
 refine⟨fun j hj=>?_,fun j hj=>?_⟩
 ·rw[h j (by show j<bF x+bF y;omega)];simp only[jc,IX hj]
 ·rw[alh,h (bF x+j) (by show bF x+j<bF x+bF y;omega)];simp only[jc,Er (show bF x<=bF x+j by omega),Nat.add_sub_cancel_left]
theorem Placed.block{id:Nat}{b:Code}(h:Placed P c0 Q0 i (.block id b) Q):Placed P c0 Q0 i b (Exit.inBlock id Q):=fun j hj=>h j hj
theorem Placed.scope{b:Code}(hb:sW b=true)(h:Placed P c0 Q0 i (.scope b) Q):Placed P c0 Q0 i b (Exit.noGoto Q):=fun j hj=>by rw[h j (by simp only[bF,hb];exact hj)];simp only[jc,hb]
theorem Placed.head{b:Code}(h:Placed P c0 Q0 i (.loop b) Q):jc P c0 i Q0=some (b,Q):=h 0 (by show 0<bF b+1;omega)
theorem Placed.inner{b:Code}(h:Placed P c0 Q0 i (.loop b) Q):Placed P c0 Q0 (i+1) b (Exit.then (sZ P b Q) Q):=fun j hj=>by rw[alh,Nat.add_comm 1 j];exact h (j+1) (by show j+1<bF b+1;omega)
theorem Placed.acd{c:Code}(h:bF c=0):Placed P c0 Q0 i c Q:=fun j hj=>by omega
theorem Placed.whole:Placed P c0 Q0 0 c0 Q0:=fun j _=>by rw[adr]
end
end
section
variable {P:Program} {E:Env P} {O:aK E} {h:Hint E} {w0:Start} {aZ:Nat->Nat->Prop} {n:Nat} {c0:Code} {Q0:Exit->Act->World->Prop}
def aoc(E:Env P)(w0:Start)(aZ:Nat->Nat->Prop)(n:Nat)(c0:Code)(Q0:Exit->Act->World->Prop)(i:Nat)(S:aD E):Prop :=
 ∀b Q,jc P c0 i Q0=some (b,Q)->∀a w ι ro,aR S.tmps->cB E w0 aZ S a w ι ro->S.n=n->sZ P b Q a w
def apQ(E:Env P)(w0:Start)(aZ:Nat->Nat->Prop)(n:Nat)(c0:Code)(Q0:Exit->Act->World->Prop)(i:Nat)(S:aD E):Prop :=
 ∀l,i=100+l->∀sc Q rest,jR P c0 Q0=some (sc,Q)->findLabel sc l=some rest->∀a w ι ro,aR S.tmps->cB E w0 aZ S a w ι ro->S.n=n->rest.wp P (Gl P sc Q) a w
def Lv(E:Env P)(w0:Start)(aZ:Nat->Nat->Prop)(n:Nat)(c0:Code)(Q0:Exit->Act->World->Prop)(i:Nat)(S:aD E):Prop:=aoc E w0 aZ n c0 Q0 i S/\apQ E w0 aZ n c0 Q0 i S
theorem rR:∀(c:Code) (j:Nat) (Q:Exit->Act->World->Prop),bF c<=j->jc P c j Q=none
 | .loop b,0,Q,h=>by simp[bF]at h
 | .loop b,j+1,Q,h=>rR b j _ (by simp only[bF]at h;omega)
 | .seq x y,j,Q,h=>by simp only[bF]at h;simp only[jc,Er (show bF x<=j by omega)];exact rR y _ Q (by omega)
 | .cond _ x y,j,Q,h=>by simp only[bF]at h;simp only[jc,Er (show bF x<=j by omega)];exact rR y _ Q (by omega)
 | .block id b,j,Q,h=>rR b j _ (by simpa only [bF]using h)
 | .skip,_,_,_=>rfl
 | .ret,_,_,_=>rfl
 | .exit _,_,_,_=>rfl
 | .region ..,_,_,_=>rfl
 | .scope b,j,Q,h=>by
  unfold jc;split
  ·rename_i hb;exact rR b j _ (by simp only[bF,hb]at h;exact h)
  ·rfl
 | .label _,_,_,_=>rfl
 | .goto _,_,_,_=>rfl
 | .rangeFunc ..,_,_,_=>rfl
 | .refuse _,_,_,_=>rfl
theorem tq(hh:Hint E)(i:Nat)(hio:Rt hh.own w0){S:aD E}{a:Act}{w:World}{ι:Nat->Option Gh}{ro:Nat->Nat->Prop}(hnc:aR S.tmps)(hg:cB E w0 aZ S a w ι ro)(hn:S.n=n) :
  ∃ι',aR (CO hh i S).tmps/\cB E w0 aZ (CO hh i S) a w ι' ro/\(CO hh i S).n=n:=by
 obtain⟨ι1,arW,hg1,hn1⟩:=Rq (Lp hh.qK i) S ι hnc hg;obtain⟨ι',hnc',hg'⟩:=abg hh.own (Lp hh.live i) hio arW hg1;exact⟨ι',hnc',hg',hn1.trans hn⟩
theorem mK{R:Type}(hO:aG E O)(bV:P.follows .mixedOrders=true){G:Nat->aD E->Option R}{rr:R}(hG:∀i S,G i S=some rr->Rt h.own w0/\Lv E w0 aZ n c0 Q0 i S) :
  ∀(c:Code) (i:Nat) (S:aD E) (k:cZ->aD E->Option R) (Q:Exit->Act->World->Prop) (a:Act) (w:World) (ι:Nat->Option Gh) (ro:Nat->Nat->Prop),Placed P c0 Q0 i c Q->(dB c=true->jR P c Q=jR P c0 Q0) ->
  aR S.tmps->cB E w0 aZ S a w ι ro->S.n=n->jr O h G i c S k=some rr ->
  (∀e S' a' w' ι' ro',aR S'.tmps->cB E w0 aZ S' a' w' ι' ro'->S'.n=n->k e S'=some rr->Q e.toExit a' w')->c.wp P Q a w:=by
 intro c
 induction c with
 | skip=>intro i S k Q a w ι ro _ _ hnc hg hn h hk;exact wp_skip (hk .normal S a w ι ro hnc hg hn h)
 | ret=>intro i S k Q a w ι ro _ _ hnc hg hn h hk;exact wp_ret (hk .ret S a w ι ro hnc hg hn h)
 | exit id=>intro i S k Q a w ι ro _ _ hnc hg hn h hk;exact wp_exit (hk (.exit id) S a w ι ro hnc hg hn h)
 | region id ops draw =>
  intro i S k Q a w ι ro _ _ hnc hg hn hh hk;have go:∀(S:aD E) (ro:Nat->Nat->Prop),aR S.tmps->cB E w0 aZ S a w ι ro->S.n=n->AJ (IJ h.lst id) O ops draw S (k .normal)=some rr->(Code.region id ops draw).wp P Q a w:=fun S ro hnc hg hn hq =>Ls hO bV hnc hg (fun S' a' w' ι' ro' h1 h2 h3 h4=>hk .normal S' a' w' ι' ro' h1 h2 (h3.trans hn) h4) hq
  simp only[jr]at hh;have fin:∀(l1:List (Nat×Nat)) (l2:List Nat) (S:aD E) (ro:Nat->Nat->Prop),aR S.tmps->cB E w0 aZ S a w ι ro->S.n=n->splitK l1 (Ep l2 S) (fun S'=>AJ (IJ h.lst id) O ops draw S' (k .normal))=some rr->(Code.region id ops draw).wp P Q a w:=by intro l1 l2 S ro hnc hg hn h;obtain⟨ro1,g1,g2,g3⟩:=Fb l2 S ro hnc hg;obtain⟨S2,g4,g5,g6,g7⟩:=CP _ _ g1 g2 h;grind
  split at hh
  ·obtain⟨h1,h2⟩:=wo hnc hg;obtain⟨roA,a1,a2,a3⟩:=IU (Lp h.arr id) (rQ S) _ h1 h2;exact fin _ _ _ roA a1 a2 (a3.trans hn) hh
  ·obtain⟨roA,a1,a2,a3⟩:=IU (Lp h.arr id) S ro hnc hg;exact fin _ _ _ roA a1 a2 (a3.trans hn) hh
 | seq x y Gm ihy =>
  intro i S k Q a w ι ro hp hs hnc hg hn h hk;simp only[jr]at h;split at h
  ·cases h
  ·rename_i hxy;have sx:dB x=true->jR P x (Exit.then (y.wp P Q) Q)=jR P c0 Q0:=fun hx=>by
    rw[<- hs (by simp only[dB,hx,acR])];simp only[jR,hx]
   have sy:dB y=true->jR P y Q=jR P c0 Q0:=fun hy=>by
    have hx:dB x=false:=by grind
    rw[<- hs (by simp only[dB,hy,ahH])];simp only[jR,hx]
   refine wp_seq (Gm i S _ _ a w ι ro hp.seq.1 sx hnc hg hn h fun e S' a' w' ι' ro' h1 h2 h3 h4=>?_);cases e with
   | normal=>exact ihy _ S' k Q a' w' ι' ro' hp.seq.2 sy h1 h2 h3 h4 hk
   | exit id=>exact hk (.exit id) S' a' w' ι' ro' h1 h2 h3 h4
   | ret=>exact hk .ret S' a' w' ι' ro' h1 h2 h3 h4
   | goto l=>exact hk (.goto l) S' a' w' ι' ro' h1 h2 h3 h4
 | cond c x y Gm ihy =>
  intro i S k Q a w ι ro hp _ hnc hg hn h hk;have hc:=wF (E:=E) (asm:=[]) hg.tmps (fun j b hb=>by simp[rA]at hb) c;simp only[jr]at h;split at h
  ·cases h
  ·rename_i hxy;rw[Bool.or_eq_false_iff]at hxy;split at h
   ·rename_i b hb;rw[hb]at hc;have hc:=hc.lM;cases b with
    | true=>exact wp_cond_true hc (Gm i S k Q a w ι ro hp.cond.1 (fun e=>by rw[hxy.1]at e;cases e) hnc hg hn h hk)
    | false=>exact wp_cond_false hc (ihy _ S k Q a w ι ro hp.cond.2 (fun e=>by rw[hxy.2]at e;cases e) hnc hg hn h hk)
   ·cases h
 | block id body ih =>
  intro i S k Q a w ι ro hp hs hnc hg hn h hk;refine wp_block (ih i S _ _ a w ι ro hp.block hs hnc hg hn h fun e S' a' w' ι' ro' h1 h2 h3 h4=>?_);cases e with
  | goto l=>exact hk (.goto l) S' a' w' ι' ro' h1 h2 h3 h4
  | normal=>exact hk .normal S' a' w' ι' ro' h1 h2 h3 h4
  | ret=>exact hk .ret S' a' w' ι' ro' h1 h2 h3 h4
  | exit i =>
   simp only[cZ.toExit,Exit.inBlock,AL]at h4 ⊢;cases hb:Nat.beq i id with
   | true =>rw[hb]at h4;rw[if_pos (ab5 hb)];exact hk .normal S' a' w' ι' ro' h1 h2 h3 h4
   | false =>rw[hb]at h4;rw[if_neg (fun e=>by subst e;simp at hb)];exact hk (.exit i) S' a' w' ι' ro' h1 h2 h3 h4
 | loop body ih =>intro i S k Q a w ι ro hp _ hnc hg hn hh hk;obtain⟨ι',h1,h2,h3⟩:=tq h i (hG i _ hh).1 hnc hg hn;exact((hG i _ hh).2.1 body Q hp.head a w ι' ro h1 h2 h3).wp
 | label l=>intro i S k Q a w ι ro _ _ hnc hg hn h hk;exact wp_label (hk .normal S a w ι ro hnc hg hn h)
 | goto l=>intro i S k Q a w ι ro _ _ hnc hg hn h hk;exact wp_goto (hk (.goto l) S a w ι ro hnc hg hn h)
 | scope c ih =>
  intro i S k Q a w ι ro hp hs hnc hg hn hh hk;simp only[jr]at hh;split at hh
  ·rename_i YC;refine wp_scope_straight (ih i S (Xk k) (Exit.noGoto Q) a w ι ro (hp.scope YC) (fun e=>by rw[nP c YC]at e;cases e) hnc hg hn hh fun e S' a' w' ι' ro' h1 h2 h3 h4=>?_);cases e with
   | normal=>exact hk .normal S' a' w' ι' ro' h1 h2 h3 h4
   | exit id=>exact hk (.exit id) S' a' w' ι' ro' h1 h2 h3 h4
   | ret=>exact hk .ret S' a' w' ι' ro' h1 h2 h3 h4
   | goto l=>cases h4
  rename_i YC;have hs1:dB (.scope c)=true:=by simp only[dB,YC,acO]
  split at hh
  ·rename_i hns hz;refine Vp (ih i S _ _ a w ι ro (Placed.acd hz) (fun e=>by rw[hns]at e;cases e) hnc hg hn hh fun e S' a' w' ι' ro' h1 h2 h3 h4=>?_);cases e with
   | normal=>exact hk .normal S' a' w' ι' ro' h1 h2 h3 h4
   | exit id=>exact hk (.exit id) S' a' w' ι' ro' h1 h2 h3 h4
   | ret=>exact hk .ret S' a' w' ι' ro' h1 h2 h3 h4
   | goto l =>
    simp only[Ro]at h4;split at h4
    ·rename_i rest hf;obtain⟨ι2,g1,g2,g3⟩:=tq h (100+l) (hG _ _ h4).1 h1 h2 h3;exact⟨rest,hf,CU.of ((hG _ _ h4).2.2 l rfl c Q rest (hs hs1).symm hf a' w' ι2 ro' g1 g2 g3)⟩
    ·cases h4
  ·cases hh
 | _=>intro i S k Q a w ι ro _ _ hnc hg hn h hk;cases h
theorem aeV{R:Type}(hO:aG E O)(bV:P.follows .mixedOrders=true){G:Nat->aD E->Option R}{rr:R}(hG:∀i S,G i S=some rr->Rt h.own w0/\Lv E w0 aZ n c0 Q0 i S) :
  ∀(c:Code) (i j:Nat) (k:cZ->aD E->Option R) (Q:Exit->Act->World->Prop) (i':Nat) (b:Code) (k':cZ->aD E->Option R),Placed P c0 Q0 i c Q->dB c=false->Bn O h G i c j k=some (i',b,k') ->
  (∀e S' a' w' ι' ro',aR S'.tmps->cB E w0 aZ S' a' w' ι' ro'->S'.n=n->k e S'=some rr->Q e.toExit a' w') ->
  i'=i+j/\dB b=false/\∃Q',Placed P c0 Q0 i' (.loop b) Q'/\∀e S' a' w' ι' ro',aR S'.tmps->cB E w0 aZ S' a' w' ι' ro'->S'.n=n->k' e S'=some rr->Q' e.toExit a' w':=by
 intro c
 induction c with
 | seq x y Gm ihy =>
  intro i j k Q i' b k' hp hns hc hk;simp only[Bn]at hc;split at hc
  ·rename_i hj;refine Gm i j _ _ i' b k' hp.seq.1 (Bool.or_eq_false_iff.1 hns).1 hc fun e S' a' w' ι' ro' h1 h2 h3 h4=>?_
   cases e with
   | normal=>exact mK hO bV hG y _ S' k Q a' w' ι' ro' hp.seq.2 (fun e=>by rw[(Bool.or_eq_false_iff.1 hns).2]at e;cases e) h1 h2 h3 h4 hk
   | goto l=>exact hk (.goto l) S' a' w' ι' ro' h1 h2 h3 h4
   | exit id=>exact hk (.exit id) S' a' w' ι' ro' h1 h2 h3 h4
   | ret=>exact hk .ret S' a' w' ι' ro' h1 h2 h3 h4
  ·rename_i hj;have hle:bF x<=j:=by
    rcases ahx j (bF x)with h | h
    ·rw[IX h]at hj;cases hj
    ·exact h
   obtain⟨e1,rest⟩:=ihy _ _ k Q i' b k' hp.seq.2 (Bool.or_eq_false_iff.1 hns).2 hc hk;exact⟨by omega,rest⟩
 | cond c x y Gm ihy =>
  intro i j k Q i' b k' hp hns hc hk;simp only[Bn]at hc;split at hc
  ·exact Gm i j k Q i' b k' hp.cond.1 (Bool.or_eq_false_iff.1 hns).1 hc hk
  ·rename_i hj;have hle:bF x<=j:=by
    rcases ahx j (bF x)with h | h
    ·rw[IX h]at hj;cases hj
    ·exact h
   obtain⟨e1,rest⟩:=ihy _ _ k Q i' b k' hp.cond.2 (Bool.or_eq_false_iff.1 hns).2 hc hk;exact⟨by omega,rest⟩
 | scope c ih =>
  intro i j k Q i' b k' hp hns hc hk;simp only[Bn]at hc;split at hc
  ·rename_i YC;refine ih i j (Xk k) (Exit.noGoto Q) i' b k' (hp.scope YC) (nP c YC) hc fun e S' a' w' ι' ro' h1 h2 h3 h4=>?_
   cases e with
   | normal=>exact hk .normal S' a' w' ι' ro' h1 h2 h3 h4
   | exit id=>exact hk (.exit id) S' a' w' ι' ro' h1 h2 h3 h4
   | ret=>exact hk .ret S' a' w' ι' ro' h1 h2 h3 h4
   | goto l=>cases h4
  ·cases hc
 | block id body ih =>
  intro i j k Q i' b k' hp hns hc hk;refine ih i j _ _ i' b k' hp.block hns hc fun e S' a' w' ι' ro' h1 h2 h3 h4=>?_
  cases e with
  | goto l=>exact hk (.goto l) S' a' w' ι' ro' h1 h2 h3 h4
  | normal=>exact hk .normal S' a' w' ι' ro' h1 h2 h3 h4
  | ret=>exact hk .ret S' a' w' ι' ro' h1 h2 h3 h4
  | exit i =>
   simp only[cZ.toExit,Exit.inBlock,AL]at h4 ⊢;cases hb:Nat.beq i id with
   | true =>rw[hb]at h4;rw[if_pos (ab5 hb)];exact hk .normal S' a' w' ι' ro' h1 h2 h3 h4
   | false =>rw[hb]at h4;rw[if_neg (fun e=>by subst e;simp at hb)];exact hk (.exit i) S' a' w' ι' ro' h1 h2 h3 h4
 | loop body ih =>
  intro i j k Q i' b k' hp hns hc hk;cases j with
  | zero =>cases hc;exact⟨rfl,hns,Q,hp,hk⟩
  | succ j =>
   obtain⟨e1,rest⟩:=ih (i+1) j _ _ i' b k' hp.inner hns hc fun e S' a' w' ι' ro' h1 h2 h3 h4=>(by
    cases e with
    | normal =>obtain⟨ι2,g1,g2,g3⟩:=tq h i (hG i _ h4).1 h1 h2 h3;exact(hG i _ h4).2.1 body Q hp.head a' w' ι2 ro' g1 g2 g3
    | exit id=>exact hk (.exit id) S' a' w' ι' ro' h1 h2 h3 h4
    | goto l=>exact hk (.goto l) S' a' w' ι' ro' h1 h2 h3 h4
    | ret=>exact hk .ret S' a' w' ι' ro' h1 h2 h3 h4)
   exact⟨by omega,rest⟩
 | _=>intro i j k Q i' b k' hp hns hc hk;cases hc
theorem aeW{R:Type}(hO:aG E O)(bV:P.follows .mixedOrders=true){G:Nat->aD E->Option R}{rr:R}(hG:∀i S,G i S=some rr->Rt h.own w0/\Lv E w0 aZ n c0 Q0 i S) :
  ∀(c:Code) (i:Nat) (k:cZ->aD E->Option R) (Q:Exit->Act->World->Prop) (sc:Code) (k':cZ->aD E->Option R),Placed P c0 Q0 i c Q->Tw O h G i c k=some (sc,k') ->
  (∀e S' a' w' ι' ro',aR S'.tmps->cB E w0 aZ S' a' w' ι' ro'->S'.n=n->k e S'=some rr->Q e.toExit a' w') ->
  ∃Q',jR P c Q=some (sc,Q')/\∀e S' a' w' ι' ro',aR S'.tmps->cB E w0 aZ S' a' w' ι' ro'->S'.n=n->k' e S'=some rr->Q' e.toExit a' w':=by
 intro c
 induction c with
 | scope c ih =>intro i k Q sc k' hp hc hk;cases hc;exact⟨Q,rfl,hk⟩
 | seq x y Gm ihy =>
  intro i k Q sc k' hp hc hk;simp only[Tw]at hc;split at hc
  ·rename_i hx hy;simp only[jR,hx];refine Gm i _ _ sc k' hp.seq.1 hc fun e S' a' w' ι' ro' h1 h2 h3 h4=>?_
   cases e with
   | normal=>exact mK hO bV hG y _ S' k Q a' w' ι' ro' hp.seq.2 (fun e=>by rw[hy]at e;cases e) h1 h2 h3 h4 hk
   | exit id=>exact hk (.exit id) S' a' w' ι' ro' h1 h2 h3 h4
   | goto l=>exact hk (.goto l) S' a' w' ι' ro' h1 h2 h3 h4
   | ret=>exact hk .ret S' a' w' ι' ro' h1 h2 h3 h4
  ·rename_i hx hy;simp only[jR,hx];exact ihy _ k Q sc k' hp.seq.2 hc hk
  ·cases hc
 | block id body ih =>
  intro i k Q sc k' hp hc hk;refine ih i _ _ sc k' hp.block hc fun e S' a' w' ι' ro' h1 h2 h3 h4=>?_
  cases e with
  | normal=>exact hk .normal S' a' w' ι' ro' h1 h2 h3 h4
  | goto l=>exact hk (.goto l) S' a' w' ι' ro' h1 h2 h3 h4
  | ret=>exact hk .ret S' a' w' ι' ro' h1 h2 h3 h4
  | exit i =>
   simp only[cZ.toExit,Exit.inBlock,AL]at h4 ⊢;cases hb:Nat.beq i id with
   | true =>rw[hb]at h4;rw[if_pos (ab5 hb)];exact hk .normal S' a' w' ι' ro' h1 h2 h3 h4
   | false =>rw[hb]at h4;rw[if_neg (fun e=>by subst e;simp at hb)];exact hk (.exit i) S' a' w' ι' ro' h1 h2 h3 h4
 | _=>intro i k Q sc k' hp hc hk;cases hc
theorem IY{R:Type}(hO:aG E O)(bV:P.follows .mixedOrders=true){G:Nat->aD E->Option R}{rr:R}(hG:∀i S,G i S=some rr->Rt h.own w0/\Lv E w0 aZ n c0 Q0 i S){j:Nat}{S:aD E}{k:cZ->aD E->Option R}
  (hk:∀e S' a' w' ι' ro',aR S'.tmps->cB E w0 aZ S' a' w' ι' ro'->S'.n=n->k e S'=some rr->Q0 e.toExit a' w') (hs:Yz O h G c0 j S k=some rr):Lv E w0 aZ n c0 Q0 j S:=by
 unfold Yz at hs;split at hs
 ·rename_i hj;have hj:=Nat.le_of_ble_eq_true hj;split at hs
  ·rename_i hn;have hnl:=Nat.le_of_ble_eq_true hn;refine⟨fun b Q hc=>?_,fun l hl sc Q rest hsc hf a w ι ro hnc hg hn=>?_⟩
   ·rw[rR c0 j Q0 (by omega)]at hc;cases hc
   ·unfold aob at hs;split at hs
    ·rename_i sc2 k2 hc;obtain⟨Q2,q1,q2⟩:=aeW hO bV hG c0 0 k Q0 sc2 k2 Placed.whole hc hk;rw[hsc]at q1;cases q1;subst hl;rw[Nat.add_sub_cancel_left,hf]at hs;simp only at hs;split at hs
     ·rename_i hns hz;refine mK hO bV hG rest 0 S _ _ a w ι ro (Placed.acd hz) (fun e=>by rw[hns]at e;cases e) hnc hg hn hs fun e S' a' w' ι' ro' h1 h2 h3 h4=>?_
      cases e with
      | normal=>exact q2 .normal S' a' w' ι' ro' h1 h2 h3 h4
      | exit id=>exact q2 (.exit id) S' a' w' ι' ro' h1 h2 h3 h4
      | ret=>exact q2 .ret S' a' w' ι' ro' h1 h2 h3 h4
      | goto l =>
       simp only[Ro]at h4;split at h4
       ·rename_i ald hf2;obtain⟨ι2,g1,g2,g3⟩:=tq h (100+l) (hG _ _ h4).1 h1 h2 h3;exact⟨ald,hf2,CU.of ((hG _ _ h4).2.2 l rfl sc Q ald hsc hf2 a' w' ι2 ro' g1 g2 g3)⟩
       ·cases h4
     ·cases hs
    ·cases hs
  ·cases hs
 rename_i hj;split at hs
 ·cases hs
 rename_i hns;split at hs
 ·rename_i i b k' hc;refine⟨?_,fun l hl=>absurd (Nat.ble_eq_true_of_le (show 100<=j by omega)) (by rw[hj];decide)⟩;obtain⟨e1,hnb,Q',hp,hk'⟩:=aeV hO bV hG c0 0 j k Q0 i b k' Placed.whole hns hc hk;rw[adr]at e1;subst e1;intro b2 Q2 hc2 a w ι ro hnc hg hn;rw[hp.head]at hc2;cases hc2;refine sZ.round (mK hO bV hG b (i+1) S _ _ a w ι ro hp.inner (fun e=>by rw[hnb]at e;cases e) hnc hg hn hs fun e S' a' w' ι' ro' h1 h2 h3 h4=>?_);cases e with
  | normal =>obtain⟨ι2,g1,g2,g3⟩:=tq h i (hG i _ h4).1 h1 h2 h3;exact(hG i _ h4).2.1 b Q' hp.head a' w' ι2 ro' g1 g2 g3
  | exit id=>exact hk' (.exit id) S' a' w' ι' ro' h1 h2 h3 h4
  | goto l=>exact hk' (.goto l) S' a' w' ι' ro' h1 h2 h3 h4
  | ret=>exact hk' .ret S' a' w' ι' ro' h1 h2 h3 h4
 ·cases hs
theorem IZ:∀{args:List (TV E)} {i t:Nat} {x:AV E},look (IW args i) t=some x->i<=t/\∃y,args[t-i]? = some y/\x=eD y.1 y.2
 | [],_,_,_,h=>by cases h
 | ⟨ty,y⟩::r,i,t,x,h=>by
  simp only[IW,aQ]at h;split at h
  ·rename_i hb;have:=ab5 hb;subst this;cases h;exact⟨acM _,⟨ty,y⟩,by simp,rfl⟩
  ·rename_i hb;obtain⟨h1,z,h2,h3⟩:=IZ h;grind
theorem pI{t:E.Ty}{x:E.Den t}:bY (eD t x)=false:=by
 unfold eD;split
 ·rfl
 ·split<;>rfl
theorem CV:∀(args:List (TV E)) (i:Nat),aR (IW args i)
 | [],_=>fun p h=>by cases h
 | ⟨t,x⟩::r,i=>fun p h=>by
  cases h with
  | head=>exact pI
  | tail _ h=>exact CV r (i+1) p h
def PV(tmps:Array Value):ResultVar->Sem Value
 | .tmp t=>pure (tmps.getD t undef)
 | .cell q ty=>do loadVar ty (<- asAddr (tmps.getD q undef))
theorem PW{S:aD E}{a:Act}{w:World}{ι:Nat->Option Gh}{ro:Nat->Nat->Prop}(hg:cB E w0 aZ S a w ι ro){r:ResultVar}{x:AV E}(h:Tx S r=some x) :
  ∃v,(PV a.tmps r).run P w = .ok v w/\aJ E w ro ι v x:=by
 have aeH:Nt a []:=fun j b hb=>by simp[rA]at hb
 cases r with
 | tmp t =>cases h;exact⟨_,rfl,wF (E:=E) hg.tmps aeH (.tmp t)⟩
 | cell q ty =>
  have hv:=wF (E:=E) hg.tmps aeH (.tmp q);change aJ E w ro ι (a.tmps.getD q undef) (QI [] (look S.tmps q))at hv;generalize hu:a.tmps.getD q undef=u at hv;obtain⟨val,hrun,hr⟩:=Kk (S:=S) hg.objs hv h;refine⟨val,?_,hr⟩;show(do loadVar ty (<- asAddr (a.tmps.getD q undef)):Sem Value).run P w=_;rw[hu];simp only[Instr.loadAt,Sem.run_bind]at hrun ⊢;cases u with
  | pointer p =>
   cases p with
   | some ad=>simpa[Instr.sureAddr,asAddr]using hrun
   | none=>simp[Instr.sureAddr,stuck,Result.andThen]at hrun
  | _=>simp[Instr.sureAddr,stuck,Result.andThen]at hrun
theorem PX{S:aD E}{a:Act}{w:World}{ι:Nat->Option Gh}{ro:Nat->Nat->Prop}(hg:cB E w0 aZ S a w ι ro):∀{rs:List ResultVar} {Ts:List TypeId} {xs:List (TV E)},Tz S rs Ts=some xs ->
  ∃vs:List Value,(rs.mapM (PV a.tmps)).run P w=Result.ok vs w/\dU E w ro vs xs
 | [],[],xs,h=>by cases h;exact⟨[],by simp,trivial⟩
 | r::rs,T::Ts,xs,h=>by
  unfold Tz at h;split at h
  ·rename_i t ht;split at h
   ·rename_i v hv;split at h
    ·rename_i x hx;split at h
     ·rename_i ys hys;cases h;obtain⟨u,hu,hr⟩:=PW hg hv;obtain⟨us,U9,hrs⟩:=PX hg hys;exact⟨u::us,by rw[List.mapM_cons];simp only[Sem.run_bind,hu,Result.andThen_ok,U9,Sem.run_pure],kK hr hx,hrs⟩
     ·cases h
    ·cases h
   ·cases h
  ·cases h
 | [],_::_,_,h=>by cases h
 | _::_,[],_,h=>by cases h
theorem TB{w w':World}(h:w.grownBy w' none):Below w.heap.size w w':=⟨h.os,h.tape,h.output,h.size,fun k hk=>h.block k hk (fun e=>by cases e)⟩
def Xm(E:Env P)(fn:Func)(res:List (TV E))(w:World)(ro:Nat->Nat->Prop):Exit->Act->World->Prop :=
 bodyPost P fn fun e w'=>∃v,e = .returned v/\Below w.heap.size w w'/\mH E w' (fun k o=>ro k o\/(w.heap.size<=k/\k<w'.heap.size)) v res
theorem I4{fn:Func}{res:List (TV E)}{w:World}{ro:Nat->Nat->Prop}{e:cZ}{S':aD E}{a':Act}{w':World}{ι':Nat->Option Gh}{ro':Nat->Nat->Prop}(hnc':aR S'.tmps)(hg':cB E ⟨w,none,none,[],fun _=>none⟩ ro S' a' w' ι' ro')(hk:TA fn e S'=some res) :
  Xm E fn res w ro e.toExit a' w':=by
 obtain⟨_,hg'⟩:=wo hnc' hg';generalize IQ S'.objs ι' ro'=ro' at hg';have fin:Tz (rQ S') fn.results.toList fn.resultTypes.toList=some res->a'.defers=[]/\∃v,(results fn a'.tmps).run P w' = .ok v w' /\
   (∃v',Ending.returned v = .returned v'/\Below w.heap.size w w'/\mH E w' (fun k o=>ro k o\/(w.heap.size<=k/\k<w'.heap.size)) v' res):=by
  intro hres;obtain⟨vs,hvs,hrep⟩:=PX hg' hres;have hmono:dU E w' (fun k o=>ro k o\/(w.heap.size<=k/\k<w'.heap.size)) vs res:=by
   have hmm:∀(vs:List Value) (rs:List (TV E)),dU E w' ro' vs rs->dU E w' (fun k o=>ro k o\/(w.heap.size<=k/\k<w'.heap.size)) vs rs:=by
    intro vs
    induction vs with
    | nil=>intro rs h;cases rs<;>exact h
    | cons v vs ih =>
     intro rs h;cases rs with
     | nil=>exact h
     | cons r rs =>
      exact⟨h.1.mono (fun k o hk=>by
       rcases hg'.base.oZ k o hk with h | h
       ·exact .inl h
       ·rcases h with h | h
        ·exact .inr ⟨h,hg'.base.aO k o hk⟩
        ·cases h) (fun _ _ _=>rfl),ih rs h.2⟩
   exact hmm vs res hrep
  have hl:=(dU.at_ vs res hrep).1;refine⟨hg'.base.defers,if h:vs.length=1 then vs[0]else .tuple vs.toArray,?_,_,rfl,TB hg'.base.below,?_⟩
  ·show(do let vs <- fn.results.mapM (PV a'.tmps);pure (if h:vs.size=1 then vs[0]else .tuple vs):Sem Value).run P w'=_;rw[Array.mapM_eq_mapM_toList];simp only[Sem.run_bind,Sem.run_map,hvs];simp[Result.andThen]
  ·unfold mH;split
   ·rename_i t x
    match vs,hl,hmono with
    | [v],_,hm=>exact hm.1
   ·rename_i hne;by_cases h1:vs.length=1
    ·exfalso
     match res,hl.symm.trans h1,hne with
     | [⟨t,x⟩],_,hne=>exact hne t x rfl
    ·rw[dif_neg h1];exact⟨vs,rfl,hmono⟩
 cases e with
 | exit id=>cases hk
 | goto l=>cases hk
 | _=>exact fin hk
def Ev(E:Env P)(fn:Func)(res:List (TV E))(i:Nat)(S:aD E):Prop :=
 ∀(w0:World) aZ n c,fn.body=some c->Lv E ⟨w0,none,none,[],fun _=>none⟩ aZ n c (Xm E fn res w0 aZ) i S
open Classical in
def Gr(E:Env P)(fn:Func)(res:List (TV E))(i:Nat)(S:aD E):Option (List (TV E)):=if Ev E fn res i S then some res else none
theorem dP{fn:Func}{res:List (TV E)}{i:Nat}{S:aD E}(h:Ev E fn res i S):Gr E fn res i S=some res:=if_pos h
theorem aeX{fn:Func}{res r:List (TV E)}{i:Nat}{S:aD E}(h:Gr E fn res i S=some r):Ev E fn res i S:=by
 unfold Gr at h;split at h
 ·assumption
 ·cases h
theorem Ev.step(hO:aG E O)(bV:P.follows .mixedOrders=true){fn:Func}{res:List (TV E)}{j:Nat}{S:aD E}(hs:aeU O h (Gr E fn res) fn j S=some res):Ev E fn res j S:=by intro w0 aZ n c hc;unfold aeU at hs;rw[hc]at hs;exact IY hO bV (fun i S hi=>⟨.none rfl,aeX hi w0 aZ n c hc⟩) (fun e S' a' w' ι' ro' h1 h2 _ h4=>I4 h1 h2 h4) hs
theorem I5(hO:aG E O)(bV:P.follows .mixedOrders=true){f:FuncId}{fn:Func}(hf:P.funcs[f]? = some fn){args res:List (TV E)}(hr:CS O h (Gr E fn res) fn args=some res):Nu E f args res:=by
 unfold CS at hr;split at hr
 ·rename_i c hc;intro w ro vals hargs qJ;obtain⟨hlen,hat⟩:=dU.at_ vals args hargs;refine calls_of_wp hf hc ?_;have hg:cB E ⟨w,none,none,[],fun _=>none⟩ ro (Lu fn args) { tmps:=vals.toArray++Array.replicate (fn.ntmps-vals.toArray.size) undef,defers:=[] } w (fun _=>none) ro:={
   base:=⟨⟨rfl,rfl,rfl,acM _,fun _ _ _=>rfl⟩,qJ,fun k o h=>.inl h,(fun id gh k h=>by cases h),rfl,(fun q h=>by cases h),(fun k o h=>by cases h)⟩
   size:=by simp[Lu,hlen]
   tmps:=fun t x hl=>by
    obtain⟨_,y,hy,rfl⟩:=IZ hl;rw[alI]at hy;have hlt:t<vals.length:=by rw[hlen];exact(List.getElem?_eq_some_iff.1 hy).1
    have hv:=aae hlt;refine⟨vals[t],by simp[alF,hlt],?_⟩;have hr:aJ E w ro (fun _=>none) vals[t] (eD y.1 y.2):=j3 (hat t _ y hv hy);have hc:=pI (E:=E) (t:=y.1) (x:=y.2);generalize eD y.1 y.2=z at hr hc;cases z<;>first | exact hr | cases hc
   objs:=fun id o hl=>by cases hl
   inj:=fun id id' o o' gh aX k hl=>by cases hl
   fresh:=fun _ _=>rfl
   ids:=fun id o hl=>by cases hl }
  exact mK (n:=(Lu fn args).n) (Q0:=Xm E fn res w ro) (c0:=c) hO bV (fun i S hi=>⟨.none rfl,aeX hi w ro _ c hc⟩) c 0 (Lu fn args) (TA fn) _ _ w _ ro Placed.whole (fun _=>rfl) (CV args 0) hg rfl hr
   fun e S' a' w' ι' ro' h1 h2 _ h4=>I4 h1 h2 h4
 ·cases hr
end
theorem amN{P:Program}{T a b c:Nat}(h:(P.info? T).map (fun i=>(i.size,i.bytes,i.zero.map fun z=>z.cells.size))=some (a,b,some c))(hc:c=a) :
  ∃i z,P.info? T=some i/\i.size=a/\i.bytes=b/\i.zero=some z/\z.cells.size=a:=by
 subst hc;cases hi:P.info? T with
 | none=>rw[hi]at h;cases h
 | some i =>
  rw[hi]at h;simp only[ale,Option.some.injEq,Prod.mk.injEq]at h;obtain⟨h1,h2,h3⟩:=h;cases hz:i.zero with
  | none=>rw[hz]at h3;cases h3
  | some z =>rw[hz]at h3;exact⟨i,z,rfl,h1,h2,hz,by simpa using h3⟩
section
variable {Ty:Type} {Den:Ty->Type}
def rY(k:IntKind):bE Den->Option Int
 | .int k' n=>if k=k' then some n else none
 | _=>none
def dBl:bE Den->Option Bool
 | .bool b=>some b
 | _=>none
def pJ:bE Den->Option (alJ)
 | .str s=>some s
 | _=>none
def zk(dec:DecidableEq Ty)(t:Ty):bE Den->Option (List (Den t))
 | .slice t' l=>match dec t' t with
  | .isTrue h=>some (h▸l)
  | .isFalse _=>none
 | .raw (.slice none 0 0)=>some []
 | _=>none
def rd{α β:Type}(cs:List (bE Den))(r:bE Den->Option α)(k:α->List (bE Den)->Option β):Option β:=match cs with
 | c::cs=>(match r c with
  | some y=>k y cs
  | none=>none)
 | []=>none
def rn{β:Type}(cs:List (bE Den))(x:β):Option β:=match cs with
 | []=>some x
 | _=>none
theorem aoe{α β:Type}{cs:List (bE Den)}{r:bE Den->Option α}{k:α->List (bE Den)->Option β}{x:β}(h:rd cs r k=some x):∃c l y,cs=c::l/\r c=some y/\k y l=some x:=by
 unfold rd at h;split at h
 ·split at h
  ·rename_i e;exact⟨_,_,_,rfl,e,h⟩
  ·cases h
 ·cases h
theorem aof{β:Type}{cs:List (bE Den)}{x y:β}(h:rn cs x=some y):cs=[]/\x=y:=by
 unfold rn at h;split at h
 ·cases h;exact⟨rfl,rfl⟩
 ·cases h
def aog:bE Den->Option Int
 | .flt n=>some n
 | _=>none
def aoh:bE Den->Option (Int×Int)
 | .uX a b=>some (a,b)
 | _=>none
theorem amO{c:bE Den}{n:Int}(h:aog c=some n):KV c (.flt n):=by
 unfold aog at h;split at h
 ·cases h;exact .inl rfl
 ·cases h
theorem amP{c:bE Den}{n:Int×Int}(h:aoh c=some n):KV c (.uX n.1 n.2):=by
 unfold aoh at h;split at h
 ·cases h;exact .inl rfl
 ·cases h
def dFn:bE Den->Option Nat
 | .raw (.func (.func f) ⟨[]⟩ ⟨[]⟩)=>some f
 | _=>none
theorem aoi{c:bE Den}{n:Nat}(h:dFn c=some n):KV c (.raw (.func (.func n) #[] #[])):=by
 unfold dFn at h;split at h
 ·cases h;exact .inl rfl
 ·cases h
theorem amQ{k:IntKind}{c:bE Den}{n:Int}(h:rY k c=some n):KV c (.int k n):=by
 unfold rY at h;split at h
 ·split at h
  ·rename_i e;subst e;cases h;exact .inl rfl
  ·cases h
 ·cases h
theorem aoj{c:bE Den}{n:Bool}(h:dBl c=some n):KV c (.bool n):=by
 unfold dBl at h;split at h
 ·cases h;exact .inl rfl
 ·cases h
theorem amR{c:bE Den}{n:alJ}(h:pJ c=some n):KV c (.str n):=by
 unfold pJ at h;split at h
 ·cases h;exact .inl rfl
 ·cases h
theorem aol{dec:DecidableEq Ty}{t:Ty}{c:bE Den}{l:List (Den t)}(h:zk dec t c=some l):KV c (.slice t l):=by
 unfold zk at h;split at h
 ·split at h
  ·rename_i e _;subst e;cases h;exact .inl rfl
  ·cases h
 ·cases h;exact .inr ⟨rfl,t,rfl⟩
 ·cases h
end
section
variable {P:Program} {E:Env P}
abbrev jH(E:Env P):=List (TV E)->Option (Bool×List (TV E))
abbrev Vq(E:Env P):=List (TV E)->Option (Bool×((t:E.Ty)×List (E.Den t)))
abbrev OA(E:Env P):=(t:E.Ty)->List (E.Den t)->List (TV E)->Option (Bool×Bool×List (E.Den t))
def aeY(a:E.Ty)(back:Bool)(ok:List (E.Den a)->Bool)(F:List (E.Den a)->List (E.Den a)):OA E:=fun t l rest=>match zX t a l,rest with
 | some x,[]=>(match zX a t (F x)with
  | some y=>some (ok x,back,y)
  | none=>none)
 | _,_=>none
theorem YD{a:E.Ty}{F:List (E.Den a)->List (E.Den a)}{ok:List (E.Den a)->Bool}{bk back:Bool}{t:E.Ty}{l l':List (E.Den t)}{rest:List (TV E)}(h:aeY a bk ok F t l rest=some (true,back,l')) :
  ∃x:List (E.Den a),(⟨t,l⟩:(t:E.Ty)×List (E.Den t))=⟨a,x⟩/\rest=[]/\bk=back/\ok x=true/\(⟨t,l'⟩:(t:E.Ty)×List (E.Den t))=⟨a,F x⟩:=by
 unfold aeY at h;split at h
 ·rename_i x hx;unfold zX at hx;split at hx
  ·rename_i e _;subst e;cases hx;split at h
   ·rename_i y hy;unfold zX at hy;split at hy
    ·cases hy;simp only[Option.some.injEq,Prod.mk.injEq]at h;obtain⟨h1,h2,h3⟩:=h;exact⟨_,rfl,rfl,h2,h1,by rw[<- h3]⟩
    ·cases hy
   ·cases h
  ·cases hx
 ·cases h
theorem fO{O:aK E}{H:Hint E}{fn:Func}{args res:List (TV E)}{t:(fQ E)->Option (List (TV E))}(k:∀G,CS O H G fn args=t G)(h:t (Gr E fn res)=some res):CS O H (Gr E fn res) fn args=some res:=(k _).trans h
theorem Ev.of{O:aK E}{H:Hint E}{fn:Func}{i:Nat}{S:aD E}{res:List (TV E)}(hO:aG E O)(bV:P.follows .mixedOrders=true){t:(fQ E)->Option (List (TV E))}(k:∀G,aeU O H G fn i S=t G)(h:t (Gr E fn res)=some res):Ev E fn res i S:=Ev.step hO bV ((k _).trans h)
def ji(l:List (FuncId×jH E))(m:List (FuncId×Vq E):=[])(u:List (FuncId×OA E):=[])(gr:List (FuncId×E.Ty):=[]):aK E where
 call:=fun f args=>match look l f with
  | some F=>F args
  | none=>none
 Cn:=fun f=>match look m f with
  | some _=>true
  | none=>false
 fresh:=fun f args=>match look m f with
  | some F=>F args
  | none=>none
 ak2:=fun f=>match look u f with
  | some _=>true
  | none=>false
 grow:=fun f=>look gr f
 aeb:=fun f t l xs=>match look u f with
  | some F=>F t l xs
  | none=>none
 inl:=.nil
def TD(E:Env P)(f:FuncId)(F:Vq E):Prop :=
 (mI P f)/\∀args t l,F args=some (true,⟨t,l⟩)->Q8 E f args t l
def Xn(E:Env P)(f:FuncId)(F:OA E):Prop :=
 (mI P f)/\∀t l xs back l',F t l xs=some (true,back,l')->XZ E f t l xs back l'
def Lx(E:Env P)(f:FuncId)(t:E.Ty):Prop :=
 (mI P f)/\U5 E f t
def zC(l:List (FuncId×E.Ty)):Prop:=∀p∈l,Lx E p.1 p.2
theorem zC.nil:zC (E:=E) []:=fun p h=>by cases h
theorem zC.cons{f:FuncId}{t:E.Ty}{l:List (FuncId×E.Ty)}(h:Lx E f t)(hl:zC l):zC ((f,t)::l):=fun p hp=>by
 cases hp with
 | head=>exact h
 | tail _ hp=>exact hl p hp
def CW(l:List (FuncId×OA E)):Prop:=∀p∈l,Xn E p.1 p.2
def I6(l:List (FuncId×jH E)):Prop:=∀p∈l,bM E p.1 p.2
def wL(l:List (FuncId×Vq E)):Prop:=∀p∈l,TD E p.1 p.2
theorem fI{l:List (FuncId×jH E)}{m:List (FuncId×Vq E)}{u:List (FuncId×OA E)}{gr:List (FuncId×E.Ty)}(h:I6 l)(hm:wL m)(hu:CW u)(hg:zC gr):aG E (ji l m u gr):=by
 refine⟨fun f args res hr=>?_,fun f args t x hr=>?_,fun f t x rest back x' hr=>?_,fun f t hr=>hg _ (gZ _ _ _ hr),(fun f args objs next k rr h=>by cases h),(fun f T h=>by cases h),(fun f args x h=>by cases h),(fun f t x args y res h=>by cases h),(fun f p xs res h=>by cases h)⟩
 ·simp only[ji]at hr;split at hr
  ·rename_i F hF;have:=h _ (gZ _ _ _ hF);exact⟨this.1,this.2 args res hr⟩
  ·cases hr
 ·simp only[ji]at hr;split at hr
  ·rename_i F hF;have:=hm _ (gZ _ _ _ hF);exact⟨this.1,this.2 args t x hr⟩
  ·cases hr
 ·simp only[ji]at hr;split at hr
  ·rename_i F hF;have:=hu _ (gZ _ _ _ hF);exact⟨this.1,this.2 t x rest back x' hr⟩
  ·cases hr
theorem I6.nil:I6 (E:=E) []:=fun p h=>by cases h
theorem wL.nil:wL (E:=E) []:=fun p h=>by cases h
theorem I6.cons{f:FuncId}{F:jH E}{l:List (FuncId×jH E)}(h:bM E f F)(hl:I6 l):I6 ((f,F)::l):=fun p hp=>by
 cases hp with
 | head=>exact h
 | tail _ hp=>exact hl p hp
theorem CW.nil:CW (E:=E) []:=fun p h=>by cases h
theorem CW.cons{f:FuncId}{F:OA E}{l:List (FuncId×OA E)}(h:Xn E f F)(hl:CW l):CW ((f,F)::l):=fun p hp=>by
 cases hp with
 | head=>exact h
 | tail _ hp=>exact hl p hp
theorem wL.cons{f:FuncId}{F:Vq E}{l:List (FuncId×Vq E)}(h:TD E f F)(hl:wL l):wL ((f,F)::l):=fun p hp=>by
 cases hp with
 | head=>exact h
 | tail _ hp=>exact hl p hp
def nQ(t:E.Ty)(v:TV E):Option (E.Den t):=Ec v.1 t v.2
theorem nX{t:E.Ty}{v:TV E}{x:E.Den t}(h:nQ t v=some x):v=⟨t,x⟩:=by
 unfold nQ Ec at h;cases hd:E.dec v.1 t with
 | isFalse hn=>rw[hd]at h;cases h
 | isTrue he =>rw[hd]at h;obtain⟨t',y⟩:=v;simp only at he;subst he;cases h;rfl
def Es(a t:E.Ty)(ok:E.Den a->Bool)(F:E.Den a->E.Den t):jH E
 | [x]=>match nQ a x with
  | some x=>some (ok x,[⟨t,F x⟩])
  | none=>none
 | _=>none
def Gp(a b t:E.Ty)(ok:E.Den a->E.Den b->Bool)(F:E.Den a->E.Den b->E.Den t):jH E
 | [x,y]=>match nQ a x with
  | some x=>match nQ b y with
   | some y=>some (ok x y,[⟨t,F x y⟩])
   | none=>none
  | none=>none
 | _=>none
def aeZ(a b t u:E.Ty)(ok:E.Den a->E.Den b->Bool)(F:E.Den a->E.Den b->E.Den t)(G:E.Den a->E.Den b->E.Den u):jH E
 | [x,y]=>match nQ a x with
  | some x=>match nQ b y with
   | some y=>some (ok x y,[⟨t,F x y⟩,⟨u,G x y⟩])
   | none=>none
  | none=>none
 | _=>none
def fn3(a b c t:E.Ty)(ok:E.Den a->E.Den b->E.Den c->Bool)(F:E.Den a->E.Den b->E.Den c->E.Den t):jH E
 | [x,y,z]=>match nQ a x with
  | some x=>match nQ b y with
   | some y=>match nQ c z with
    | some z=>some (ok x y z,[⟨t,F x y z⟩])
    | none=>none
   | none=>none
  | none=>none
 | _=>none
end
section
variable {P:Program} {E:Env P} {O:aK E} {masks:Hint E} {f:FuncId} {fn:Func}
theorem NK (hO:aG E O) (bV:P.follows .mixedOrders=true) (hf:P.funcs[f]? = some fn) (hn:(fn.name == "runtime.NumGoroutine")=false) (hb:fn.body.isNone=false) {F:jH E}
  (h:∀args res,F args=some (true,res)->CS O masks (Gr E fn res) fn args=some res):bM E f F :=
 ⟨⟨fn,hf,hn,hb⟩,fun args res hr=>I5 hO bV hf (h args res hr)⟩
theorem uZ {a t:E.Ty} {ok:E.Den a->Bool} {F:E.Den a->E.Den t} (hO:aG E O) (bV:P.follows .mixedOrders=true) (hf:P.funcs[f]? = some fn) (hn:(fn.name == "runtime.NumGoroutine")=false) (hb:fn.body.isNone=false)
  (h:∀x,ok x=true->CS O masks (Gr E fn [⟨t,F x⟩]) fn [⟨a,x⟩]=some [⟨t,F x⟩]):bM E f (Es a t ok F):=by
 refine NK (masks:=masks) hO bV hf hn hb fun args res hr=>?_
 unfold Es at hr;split at hr
 ·split at hr
  ·rename_i x hx;injection hr with hr
   injection hr with h1 h2
   subst h2;rw[nX hx];exact h _ h1
  ·cases hr
 ·cases hr
theorem yA {a b t:E.Ty} {ok:E.Den a->E.Den b->Bool} {F:E.Den a->E.Den b->E.Den t} (hO:aG E O) (bV:P.follows .mixedOrders=true) (hf:P.funcs[f]? = some fn) (hn:(fn.name == "runtime.NumGoroutine")=false) (hb:fn.body.isNone=false)
  (h:∀x y,ok x y=true->CS O masks (Gr E fn [⟨t,F x y⟩]) fn [⟨a,x⟩,⟨b,y⟩]=some [⟨t,F x y⟩]):bM E f (Gp a b t ok F):=by
 refine NK (masks:=masks) hO bV hf hn hb fun args res hr=>?_
 unfold Gp at hr;split at hr
 ·split at hr
  ·rename_i x hx;split at hr
   ·rename_i y hy;injection hr with hr
    injection hr with h1 h2
    subst h2;rw[nX hx,nX hy];exact h _ _ h1
   ·cases hr
  ·cases hr
 ·cases hr
theorem acf {a b t u:E.Ty} {ok:E.Den a->E.Den b->Bool} {F:E.Den a->E.Den b->E.Den t} {G':E.Den a->E.Den b->E.Den u} (hO:aG E O) (bV:P.follows .mixedOrders=true) (hf:P.funcs[f]? = some fn) (hn:(fn.name == "runtime.NumGoroutine")=false) (hb:fn.body.isNone=false)
  (h:∀x y,ok x y=true->CS O masks (Gr E fn [⟨t,F x y⟩,⟨u,G' x y⟩]) fn [⟨a,x⟩,⟨b,y⟩]=some [⟨t,F x y⟩,⟨u,G' x y⟩]):bM E f (aeZ a b t u ok F G'):=by
 refine NK (masks:=masks) hO bV hf hn hb fun args res hr=>?_
 unfold aeZ at hr;split at hr
 ·split at hr
  ·rename_i x hx;split at hr
   ·rename_i y hy;injection hr with hr
    injection hr with h1 h2
    subst h2;rw[nX hx,nX hy];exact h _ _ h1
   ·cases hr
  ·cases hr
 ·cases hr
theorem acg{a t:E.Ty}{ok:E.Den a->Bool}{F:E.Den a->E.Den t}(ex:mI P f)(h:∀x,ok x=false):bM E f (Es a t ok F) :=
 ⟨ex,fun args r hr=>by
  unfold Es at hr;split at hr
  ·split at hr
   ·rw[h]at hr;cases hr
   ·cases hr
  ·cases hr⟩
theorem amS{a b t:E.Ty}{ok:E.Den a->E.Den b->Bool}{F:E.Den a->E.Den b->E.Den t}(ex:mI P f)(h:∀x y,ok x y=false):bM E f (Gp a b t ok F) :=
 ⟨ex,fun args r hr=>by
  unfold Gp at hr;split at hr
  ·split at hr
   ·split at hr
    ·rw[h]at hr;cases hr
    ·cases hr
   ·cases hr
  ·cases hr⟩
theorem amT{a b c t:E.Ty}{ok:E.Den a->E.Den b->E.Den c->Bool}{F:E.Den a->E.Den b->E.Den c->E.Den t}(ex:mI P f)(h:∀x y z,ok x y z=false):bM E f (fn3 a b c t ok F) :=
 ⟨ex,fun args r hr=>by
  unfold fn3 at hr;split at hr
  ·split at hr
   ·split at hr
    ·split at hr
     ·rw[h]at hr;cases hr
     ·cases hr
    ·cases hr
   ·cases hr
  ·cases hr⟩
theorem agV {a b c t:E.Ty} {ok:E.Den a->E.Den b->E.Den c->Bool} {F:E.Den a->E.Den b->E.Den c->E.Den t} (hO:aG E O) (bV:P.follows .mixedOrders=true) (hf:P.funcs[f]? = some fn) (hn:(fn.name == "runtime.NumGoroutine")=false) (hb:fn.body.isNone=false)
  (h:∀x y z,ok x y z=true->CS O masks (Gr E fn [⟨t,F x y z⟩]) fn [⟨a,x⟩,⟨b,y⟩,⟨c,z⟩]=some [⟨t,F x y z⟩]):bM E f (fn3 a b c t ok F):=by
 refine NK (masks:=masks) hO bV hf hn hb fun args res hr=>?_
 unfold fn3 at hr;split at hr
 ·split at hr
  ·rename_i x hx;split at hr
   ·rename_i y hy;split at hr
    ·rename_i z hz;injection hr with hr
     injection hr with h1 h2
     subst h2;rw[nX hx,nX hy,nX hz];exact h _ _ _ h1
    ·cases hr
   ·cases hr
  ·cases hr
 ·cases hr
end
section
variable {P:Program} {E:Env P}
abbrev TL(E:Env P):=(t:E.Ty)×List (E.Den t)
def ajO(S:aD E):AV E->Option (TL E)
 | .row _ _ id=>match look S.objs id with
  | some (.row t l)=>some ⟨t,l⟩
  | _=>none
 | _=>none
def ae0(fn:Func)(e:cZ)(S:aD E):Option (TL E):=match e with
 | .exit _=>none
 | .goto _=>none
 | _=>match fn.results.toList with
  | [r]=>(match Tx S r with
   | some v=>ajO S v
   | none=>none)
  | _=>none
def alf(O:aK E)(h:Hint E)(G:Nat->aD E->Option (TL E))(fn:Func)(j:Nat)(S:aD E):Option (TL E):=match fn.body with
 | some c=>Yz O h G c j S (ae0 fn)
 | none=>none
def alg(E:Env P)(res:TL E)(w:World)(gh:Gh)(ro:Nat->Nat->Prop)(e:Ending)(w':World):Prop:=∃(aX:Gh) (xs':List Value),e = .returned aX.v/\w.grownBy w' gh.blk/\aX.n=res.2.length/\aX.e=E.tid res.1/\aX.sz=E.size res.1/\o9 w' aX xs' /\
  jJ E w' (fun k o=>ro k o\/(aX.blk≠some k/\(gh.blk=some k\/w.heap.size<=k/\k<w'.heap.size))) res.1 xs' res.2/\(∀g,aX.blk=some g->gh.blk=some g\/w.heap.size<=g)
def agW(E:Env P)(fn:Func)(res:TL E)(w:World)(gh:Gh)(ro:Nat->Nat->Prop):Exit->Act->World->Prop:=bodyPost P fn (alg E res w gh ro)
theorem ae1{fn:Func}{res:TL E}{w:World}{gh:Gh}{ro:Nat->Nat->Prop}{e:cZ}{S':aD E}{a':Act}{w':World}{ι':Nat->Option Gh}{ro':Nat->Nat->Prop}(hg':cB E ⟨w,gh.blk,none,[],fun _=>none⟩ ro S' a' w' ι' ro')(hk:ae0 fn e S'=some res) :
  agW E fn res w gh ro e.toExit a' w':=by
 have fin:∀r,fn.results.toList=[r]->(match Tx S' r with | some v=>ajO S' v | none=>none)=some res->a'.defers=[]/\∃v,(results fn a'.tmps).run P w' = .ok v w' /\
   alg E res w gh ro (.returned v) w':=by
  intro r hr hres;cases hv:Tx S' r with
  | none=>rw[hv]at hres;cases hres
  | some v =>
   rw[hv]at hres;simp only at hres;obtain⟨u,hrun,hrep⟩:=PW hg' hv;unfold ajO at hres;split at hres
   ·rename_i t0 n0 id;split at hres
    ·rename_i t l bX;cases hres;cases hrep with
     | row aX _ _ ad cap hi h2 h3 h4 h5 =>
      obtain⟨gh2,xs,hi2,hn,hge,hgs,hown,hrow,fq⟩:=hg'.objs id _ bX;rw[hi]at hi2;cases hi2;refine⟨hg'.base.defers,aX.v,?_,aX,xs,rfl,hg'.base.below,hn,hge,hgs,hown,hrow.mono (fun k o hk=>?_) (fun _ _ _=>rfl),fun g hg=>?_⟩
      ·show(do let vs <- fn.results.mapM (PV a'.tmps);pure (if h:vs.size=1 then vs[0]else .tuple vs):Sem Value).run P w'=_;rw[Array.mapM_eq_mapM_toList,hr];simp only[Sem.run_bind,Sem.run_map,List.mapM_cons,List.mapM_nil,hrun,Result.andThen_ok,Sem.run_pure];simp
      ·have hne:aX.blk≠some k:=fun e=>fq k e o hk
       rcases hg'.base.oZ k o hk with h | h | h
       ·exact .inl h
       ·exact .inr ⟨hne,.inr ⟨h,hg'.base.aO k o hk⟩⟩
       ·exact .inr ⟨hne,.inl h⟩
      ·rcases(hg'.base.sQ id aX g hi hg).1 with h | h
       ·exact .inr h
       ·exact .inl h
    ·cases hres
   ·cases hres
 cases e with
 | normal =>
  unfold ae0 at hk;split at hk
  ·rename_i h;cases h
  ·rename_i h;cases h
  ·split at hk
   ·rename_i r hr;exact fin r hr hk
   ·cases hk
 | ret =>
  unfold ae0 at hk;split at hk
  ·rename_i h;cases h
  ·rename_i h;cases h
  ·split at hk
   ·rename_i r hr;exact fin r hr hk
   ·cases hk
 | _=>cases hk
def EvM(E:Env P)(fn:Func)(res:TL E)(i:Nat)(S:aD E):Prop :=
 ∀(w0:World) (gh:Gh) aZ n c,fn.body=some c->Lv E ⟨w0,gh.blk,none,[],fun _=>none⟩ aZ n c (agW E fn res w0 gh aZ) i S
open Classical in
def GrM(E:Env P)(fn:Func)(res:TL E)(i:Nat)(S:aD E):Option (TL E):=if EvM E fn res i S then some res else none
theorem aon{fn:Func}{res r:TL E}{i:Nat}{S:aD E}(h:GrM E fn res i S=some r):EvM E fn r i S:=by
 unfold GrM at h;split at h
 ·cases h;assumption
 ·cases h
variable {O:aK E} {h:Hint E}
theorem EvM.step(hO:aG E O)(bV:P.follows .mixedOrders=true){fn:Func}{res:TL E}{j:Nat}{S:aD E}(hs:alf O h (GrM E fn res) fn j S=some res):EvM E fn res j S:=by intro w0 gh aZ n c hc;unfold alf at hs;rw[hc]at hs;exact IY hO bV (fun i S hi=>⟨.none rfl,aon hi w0 gh aZ n c hc⟩) (fun e S' a' w' ι' ro' _ h2 _ h4=>ae1 h2 h4) hs
variable {f:FuncId} {fn:Func}
end
section
variable {P:Program} {E:Env P} {O:aK E} {masks:Hint E} {f:FuncId} {fn:Func}
end
section
variable {P:Program} {E:Env P}
def Ru:List (AV E)->Nat->List (Nat×AV E)
 | [],_=>[]
 | v::r,i=>(i,bif bY v then .any else v)::Ru r (i+1)
def LA(fn:Func)(args:List (AV E))(objs:List (Nat×aH E))(next:Nat):aD E:=⟨args.length+(fn.ntmps-args.length),Ru args 0,objs,next⟩
def NM(S:aD E):List ResultVar->Option (List (AV E))
 | []=>some []
 | r::rs=>match Tx S r with
  | some v=>(match bY v with
   | true=>none
   | false=>(match NM S rs with
    | some vs=>some (v::vs)
    | none=>none))
  | none=>none
def ajP{R:Type}(fn:Func)(k:AV E->List (Nat×aH E)->Nat->Option R)(e:cZ)(S:aD E):Option R:=match e with
 | .exit _=>none
 | .goto _=>none
 | _=>match NM S fn.results.toList with
  | some [v]=>k v S.objs S.next
  | some vs=>k (.ni vs) S.objs S.next
  | none=>none
def ae2{R:Type}(f:aD E->(cZ->aD E->Option R)->Option R):Nat->aD E->(cZ->aD E->Option R)->Option R
 | 0,_,_=>none
 | m+1,S,k=>f S (PU (fun S'=>ae2 f m S' k) k)
def scK{R:Type}(J:Code->Code->aD E->(cZ->aD E->Option R)->Option R)(c:Code)(k:cZ->aD E->Option R)(e:cZ)(S:aD E):Option R:=match e with
 | .goto l=>(match findLabel c l with
  | some rest=>J c rest S k
  | none=>none)
 | .normal=>k .normal S
 | .exit id=>k (.exit id) S
 | .ret=>k .ret S
def zD{R:Type}(O:aK E)(h:Hint E)(m:Nat)(J:Code->Code->aD E->(cZ->aD E->Option R)->Option R):Code->aD E->(cZ->aD E->Option R)->Option R
 | .skip,S,k=>k .normal S
 | .region id ops dr,S,k=>splitK (Lp h.split id) (Ep (Lp h.opn id) (match IJ h.frz id with | true=>rQ S | false=>S)) fun S'=>AJ (IJ h.lst id) O ops dr S' (k .normal)
 | .seq x y,S,k=>zD O h m J x S (PU (fun S'=>zD O h m J y S' k) k)
 | .cond c x y,S,k=>match aS S.tmps [] c with
  | .d (.bool b)=>bif b then zD O h m J x S k else zD O h m J y S k
  | _=>none
 | .block id body,S,k=>zD O h m J body S (AL id k)
 | .loop b,S,k=>ae2 (zD O h m J b) m S k
 | .exit id,S,k=>k (.exit id) S
 | .ret,S,k=>k .ret S
 | .scope c,S,k=>zD O h m J c S (scK J c k)
 | .label _,S,k=>k .normal S
 | .goto l,S,k=>k (.goto l) S
 | _,_,_=>none
def YE{R:Type}(O:aK E)(h:Hint E)(m:Nat):Nat->Code->Code->aD E->(cZ->aD E->Option R)->Option R
 | 0,_,_,_,_=>none
 | d+1,c,rest,S,k=>zD O h m (YE O h m d) rest S (scK (YE O h m d) c k)
def evU{R:Type}(O:aK E)(h:Hint E)(m:Nat):Code->aD E->(cZ->aD E->Option R)->Option R:=zD O h m (YE O h m m)
def JOk{R:Type}(E:Env P)(w0:Start)(aZ:Nat->Nat->Prop)(n:Nat)(rr:R)(J:Code->Code->aD E->(cZ->aD E->Option R)->Option R):Prop :=
 ∀(c rest:Code) (S:aD E) (k:cZ->aD E->Option R) (Q:Exit->Act->World->Prop) (a:Act) (w:World) (ι:Nat->Option Gh) (ro:Nat->Nat->Prop),
  aR S.tmps->cB E w0 aZ S a w ι ro->S.n=n->J c rest S k=some rr ->
  (∀e S' a' w' ι' ro',aR S'.tmps->cB E w0 aZ S' a' w' ι' ro'->S'.n=n->k e S'=some rr->Q e.toExit a' w')->CU P c rest Q a w
theorem Vr{R:Type}{w0:Start}{aZ:Nat->Nat->Prop}{n:Nat}{rr:R}{J:Code->Code->aD E->(cZ->aD E->Option R)->Option R}(hJ:JOk E w0 aZ n rr J){c:Code}{k:cZ->aD E->Option R}{Q:Exit->Act->World->Prop}
  (hk:∀e S' a' w' ι' ro',aR S'.tmps->cB E w0 aZ S' a' w' ι' ro'->S'.n=n->k e S'=some rr->Q e.toExit a' w') (e:cZ) (S':aD E) (a':Act) (w':World) (ι':Nat->Option Gh) (ro':Nat->Nat->Prop)
  (h1:aR S'.tmps) (h2:cB E w0 aZ S' a' w' ι' ro') (h3:S'.n=n) (h4:scK J c k e S'=some rr):Gl P c Q e.toExit a' w':=by
 cases e with
 | normal=>exact hk .normal S' a' w' ι' ro' h1 h2 h3 h4
 | exit id=>exact hk (.exit id) S' a' w' ι' ro' h1 h2 h3 h4
 | ret=>exact hk .ret S' a' w' ι' ro' h1 h2 h3 h4
 | goto l =>
  simp only[scK]at h4;split at h4
  ·rename_i rest hf;exact⟨rest,hf,hJ c rest S' k Q a' w' ι' ro' h1 h2 h3 h4 hk⟩
  ·cases h4
theorem Rv{R:Type}{O:aK E}(hO:aG E O)(bV:P.follows .mixedOrders=true){h:Hint E}{m n:Nat}{w0:Start}{aZ:Nat->Nat->Prop}{rr:R}{J:Code->Code->aD E->(cZ->aD E->Option R)->Option R}(hJ:JOk E w0 aZ n rr J) :
  ∀(c:Code) (S:aD E) (k:cZ->aD E->Option R) (Q:Exit->Act->World->Prop) (a:Act) (w:World) (ι:Nat->Option Gh) (ro:Nat->Nat->Prop),
  aR S.tmps->cB E w0 aZ S a w ι ro->S.n=n->zD O h m J c S k=some rr ->
  (∀e S' a' w' ι' ro',aR S'.tmps->cB E w0 aZ S' a' w' ι' ro'->S'.n=n->k e S'=some rr->Q e.toExit a' w')->c.wp P Q a w:=by
 intro c
 induction c with
 | skip=>intro S k Q a w ι ro hnc hg hn h hk;exact wp_skip (hk .normal S a w ι ro hnc hg hn h)
 | ret=>intro S k Q a w ι ro hnc hg hn h hk;exact wp_ret (hk .ret S a w ι ro hnc hg hn h)
 | exit id=>intro S k Q a w ι ro hnc hg hn h hk;exact wp_exit (hk (.exit id) S a w ι ro hnc hg hn h)
 | region id ops draw =>
  intro S k Q a w ι ro hnc hg hn hh hk;have go:∀(S:aD E) (ro:Nat->Nat->Prop),aR S.tmps->cB E w0 aZ S a w ι ro->S.n=n->AJ (IJ h.lst id) O ops draw S (k .normal)=some rr->(Code.region id ops draw).wp P Q a w:=fun S ro hnc hg hn hq =>Ls hO bV hnc hg (fun S' a' w' ι' ro' h1 h2 h3 h4=>hk .normal S' a' w' ι' ro' h1 h2 (h3.trans hn) h4) hq
  simp only[zD]at hh;have fin:∀(l1:List (Nat×Nat)) (l2:List Nat) (S:aD E) (ro:Nat->Nat->Prop),aR S.tmps->cB E w0 aZ S a w ι ro->S.n=n->splitK l1 (Ep l2 S) (fun S'=>AJ (IJ h.lst id) O ops draw S' (k .normal))=some rr->(Code.region id ops draw).wp P Q a w:=by intro l1 l2 S ro hnc hg hn h;obtain⟨ro1,g1,g2,g3⟩:=Fb l2 S ro hnc hg;obtain⟨S2,g4,g5,g6,g7⟩:=CP _ _ g1 g2 h;grind
  split at hh
  ·obtain⟨h1,h2⟩:=wo hnc hg;exact fin _ _ (rQ S) _ h1 h2 hn hh
  ·exact fin _ _ S ro hnc hg hn hh
 | seq x y Gm ihy =>
  intro S k Q a w ι ro hnc hg hn h hk;refine wp_seq (Gm S _ _ a w ι ro hnc hg hn h fun e S' a' w' ι' ro' h1 h2 h3 h4=>?_);cases e with
  | normal=>exact ihy S' k Q a' w' ι' ro' h1 h2 h3 h4 hk
  | exit id=>exact hk (.exit id) S' a' w' ι' ro' h1 h2 h3 h4
  | goto l=>exact hk (.goto l) S' a' w' ι' ro' h1 h2 h3 h4
  | ret=>exact hk .ret S' a' w' ι' ro' h1 h2 h3 h4
 | cond c x y Gm ihy =>
  intro S k Q a w ι ro hnc hg hn h hk;have hc:=wF (E:=E) (asm:=[]) hg.tmps (fun j b hb=>by simp[rA]at hb) c;simp only[zD]at h;split at h
  ·rename_i b hb;rw[hb]at hc;have hc:=hc.lM;cases b with
   | true=>exact wp_cond_true hc (Gm S k Q a w ι ro hnc hg hn h hk)
   | false=>exact wp_cond_false hc (ihy S k Q a w ι ro hnc hg hn h hk)
  ·cases h
 | block id body ih =>
  intro S k Q a w ι ro hnc hg hn h hk;refine wp_block (ih S _ _ a w ι ro hnc hg hn h fun e S' a' w' ι' ro' h1 h2 h3 h4=>?_);cases e with
  | normal=>exact hk .normal S' a' w' ι' ro' h1 h2 h3 h4
  | goto l=>exact hk (.goto l) S' a' w' ι' ro' h1 h2 h3 h4
  | ret=>exact hk .ret S' a' w' ι' ro' h1 h2 h3 h4
  | exit i =>
   simp only[cZ.toExit,Exit.inBlock,AL]at h4 ⊢;cases hb:Nat.beq i id with
   | true =>rw[hb]at h4;rw[if_pos (ab5 hb)];exact hk .normal S' a' w' ι' ro' h1 h2 h3 h4
   | false =>rw[hb]at h4;rw[if_neg (fun e=>by subst e;simp at hb)];exact hk (.exit i) S' a' w' ι' ro' h1 h2 h3 h4
 | loop body ih =>
  intro S k Q a w ι ro hnc hg hn hh hk;have rounds:∀(f:Nat) (S:aD E) (a:Act) (w:World) (ι:Nat->Option Gh) (ro:Nat->Nat->Prop),aR S.tmps->cB E w0 aZ S a w ι ro->S.n=n->ae2 (zD O h m J body) f S k=some rr->sZ P body Q a w:=by
   intro f
   induction f with
   | zero=>intro S a w ι ro _ _ _ h;cases h
   | succ f ihf =>
    intro S a w ι ro hnc hg hn h;refine sZ.round (ih S _ _ a w ι ro hnc hg hn h fun e S' a' w' ι' ro' h1 h2 h3 h4=>?_);cases e with
    | normal=>exact ihf S' a' w' ι' ro' h1 h2 h3 h4
    | exit id=>exact hk (.exit id) S' a' w' ι' ro' h1 h2 h3 h4
    | goto l=>exact hk (.goto l) S' a' w' ι' ro' h1 h2 h3 h4
    | ret=>exact hk .ret S' a' w' ι' ro' h1 h2 h3 h4
  exact(rounds m S a w ι ro hnc hg hn hh).wp
 | scope body ih =>intro S k Q a w ι ro hnc hg hn hh hk;exact Vp (ih S (scK J body k) (Gl P body Q) a w ι ro hnc hg hn hh fun e S' a' w' ι' ro' h1 h2 h3 h4=>Vr hJ hk e S' a' w' ι' ro' h1 h2 h3 h4)
 | label l=>intro S k Q a w ι ro hnc hg hn h hk;exact wp_label (hk .normal S a w ι ro hnc hg hn h)
 | goto l=>intro S k Q a w ι ro hnc hg hn h hk;exact wp_goto (hk (.goto l) S a w ι ro hnc hg hn h)
 | _=>intro S k Q a w ι ro hnc hg hn h hk;cases h
theorem TF{R:Type}{O:aK E}(hO:aG E O)(bV:P.follows .mixedOrders=true){h:Hint E}{m n:Nat}{w0:Start}{aZ:Nat->Nat->Prop}{rr:R}:∀d,JOk E w0 aZ n rr (YE O h m d)
 | 0=>fun c rest S k Q a w ι ro _ _ _ h=>by cases h
 | d+1=>fun c rest S k Q a w ι ro hnc hg hn hh hk =>CU.of (Rv hO bV (TF hO bV d) rest S (scK (YE O h m d) c k) (Gl P c Q) a w ι ro hnc hg hn hh fun e S' a' w' ι' ro' h1 h2 h3 h4=>Vr (TF hO bV d) hk e S' a' w' ι' ro' h1 h2 h3 h4)
theorem agX{R:Type}{O:aK E}(hO:aG E O)(bV:P.follows .mixedOrders=true){h:Hint E}{m n:Nat}{w0:Start}{aZ:Nat->Nat->Prop}{rr:R}
  (c:Code) (S:aD E) (k:cZ->aD E->Option R) (Q:Exit->Act->World->Prop) (a:Act) (w:World) (ι:Nat->Option Gh) (ro:Nat->Nat->Prop)
  (hnc:aR S.tmps) (hg:cB E w0 aZ S a w ι ro) (hn:S.n=n) (hh:evU O h m c S k=some rr)
  (hk:∀e S' a' w' ι' ro',aR S'.tmps->cB E w0 aZ S' a' w' ι' ro'->S'.n=n->k e S'=some rr->Q e.toExit a' w'):c.wp P Q a w :=
 Rv hO bV (TF hO bV m) c S k Q a w ι ro hnc hg hn hh hk
def hintOf(hs:List (FuncId×Hint E))(f:FuncId):Hint E:=match look hs f with
 | some h=>h
 | none=>{}
def mkI(O:aK E)(Et:List (FuncId×Func))(hs:List (FuncId×Hint E)):Nat->XM E
 | 0=>.nil
 | n+1=>⟨fun f=>(look Et f).isSome,fun f args objs next k=>match look Et f with
  | some fn=>match fn.body with
   | some c=>evU { O with inl:=mkI O Et hs n } (hintOf hs f) (hintOf hs f).rounds c (LA fn args objs next) (ajP fn k)
   | none=>none
  | none=>none⟩
def Xo(O:aK E)(Et:List (FuncId×Func))(hs:List (FuncId×Hint E):=[])(d:Nat:=4):aK E:={ O with inl:=mkI O Et hs d }
theorem Rw:∀{args:List (AV E)} {i t:Nat} {x:AV E},look (Ru args i) t=some x->i<=t/\∃y,args[t-i]? = some y/\x=bif bY y then .any else y
 | [],_,_,_,h=>by cases h
 | v::r,i,t,x,h=>by
  simp only[Ru,aQ]at h;split at h
  ·rename_i hb;have:=ab5 hb;grind
  ·rename_i hb;obtain⟨h1,z,h2,h3⟩:=Rw h;grind
theorem LB:∀(args:List (AV E)) (i:Nat),aR (Ru args i)
 | [],_=>fun p h=>by cases h
 | v::r,i=>fun p h=>by
  cases h with
  | head =>
   cases hc:bY v with
   | true=>rfl
   | false=>exact hc
  | tail _ h=>exact LB r (i+1) p h
theorem Vs{w0:Start}{aZ:Nat->Nat->Prop}{S:aD E}{a:Act}{w:World}{ι:Nat->Option Gh}{ro:Nat->Nat->Prop}(hg:cB E w0 aZ S a w ι ro):∀{rs:List ResultVar} {xs:List (AV E)},NM S rs=some xs ->
  ∃vs:List Value,(rs.mapM (PV a.tmps)).run P w=Result.ok vs w/\vs.length=xs.length/\∀(i:Nat) v x,vs[i]? = some v->xs[i]? = some x->aJ E w ro ι v x/\bY x=false
 | [],xs,h=>by cases h;exact⟨[],by simp,rfl,fun i v x hv=>by simp at hv⟩
 | r::rs,xs,h=>by
  unfold NM at h;split at h
  ·rename_i v hv;split at h
   ·cases h
   ·rename_i hc;split at h
    ·rename_i ys hys;cases h;obtain⟨u,hu,hr⟩:=PW hg hv;obtain⟨us,U9,hl,hrs⟩:=Vs hg hys;refine⟨u::us,by rw[List.mapM_cons];simp only[Sem.run_bind,hu,Result.andThen_ok,U9,Sem.run_pure],by simp[hl],fun i v' x' h1 h2=>?_⟩;grind
    ·cases h
  ·cases h
def ae3{R:Type}(E:Env P)(k:AV E->List (Nat×aH E)->Nat->Option R)(rr:R)(w0:Start)(aZ:Nat->Nat->Prop)(e:Ending)(w':World):Prop :=
 ∃(v:Value) (x:AV E) (jm:List (Nat×aH E)) (next':Nat) (ι':Nat->Option Gh) (ro':Nat->Nat->Prop) (a':Act),e = .returned v/\k x jm next'=some rr/\aJ E w' ro' ι' v x/\Base w0 aZ a' w' ι' ro' /\
  (∀(id:Nat) o,look jm id=some o->fM E w' ro' ι' id o)/\QV E jm ι'/\(∀id,next'<=id->ι' id=none)/\(∀id o,look jm id=some o->id<next')
theorem ae4{R:Type}{fn:Func}{k:AV E->List (Nat×aH E)->Nat->Option R}{rr:R}{w0:Start}{aZ:Nat->Nat->Prop}{e:cZ}{S':aD E}{a':Act}{w':World}{ι':Nat->Option Gh}{ro':Nat->Nat->Prop}(hg':cB E w0 aZ S' a' w' ι' ro')(hk:ajP fn k e S'=some rr)(hd:w0.dl=[]) :
  bodyPost P fn (ae3 E k rr w0 aZ) e.toExit a' w':=by
 have fin:(match NM S' fn.results.toList with | some [v]=>k v S'.objs S'.next | some vs=>k (.ni vs) S'.objs S'.next | none=>none)=some rr->a'.defers=[]/\∃v,(results fn a'.tmps).run P w' = .ok v w'/\ae3 E k rr w0 aZ (.returned v) w':=by
  intro h;cases hv:NM S' fn.results.toList with
  | none=>rw[hv]at h;cases h
  | some xs =>
   rw[hv]at h;obtain⟨vs,hvs,hl,hrep⟩:=Vs hg' hv;refine⟨hg'.base.defers.trans hd,if h:vs.length=1 then vs[0]else .tuple vs.toArray,?_,?_⟩
   ·show(do let vs <- fn.results.mapM (PV a'.tmps);pure (if h:vs.size=1 then vs[0]else .tuple vs):Sem Value).run P w'=_;rw[Array.mapM_eq_mapM_toList];simp only[Sem.run_bind,Sem.run_map,hvs];simp[Result.andThen]
   ·by_cases h1:vs.length=1
    ·rw[dif_pos h1]
     match xs,hl,h,hrep with
     | [x],_,h,hrep=>exact⟨_,x,_,_,ι',ro',a',rfl,h,(hrep 0 _ x (aae (by omega)) rfl).1,hg'.base,hg'.objs,hg'.inj,hg'.fresh,hg'.ids⟩
     | [],hl,_,_=>exact absurd (h1.symm.trans hl) (by simp)
     | _::_::_,hl,_,_=>exact absurd (h1.symm.trans hl) (by simp)
    ·rw[dif_neg h1];have h:k (.ni xs) S'.objs S'.next=some rr:=by
      grind
     exact⟨_,.ni xs,_,_,ι',ro',a',rfl,h,.ni _ _ (by simpa using hl) (fun j v x hv hx=>(hrep j v x (by simpa using hv) hx).1),hg'.base,hg'.objs,hg'.inj,hg'.fresh,hg'.ids⟩
 cases e with
 | exit id=>cases hk
 | goto l=>cases hk
 | _=>exact fin hk
def Eu (P:Program) (Et:List (FuncId×Func)):Prop:=∀p∈Et,P.funcs[p.1]? = some p.2/\(p.2.name == "runtime.NumGoroutine")=false/\p.2.body.isNone=false
theorem Eu.nil:Eu P []:=fun p h=>by cases h
theorem Eu.cons {f:FuncId} {fn:Func} {l:List (FuncId×Func)} (h1:P.funcs[f]? = some fn) (h2:(fn.name == "runtime.NumGoroutine")=false) (h3:fn.body.isNone=false) (hl:Eu P l):Eu P ((f,fn)::l):=fun p hp=>by
 cases hp with
 | head=>exact⟨h1,h2,h3⟩
 | tail _ hp=>exact hl p hp
theorem agZ{O:aK E}(hO:aG E O)(bV:P.follows .mixedOrders=true){Et:List (FuncId×Func)}{hs:List (FuncId×Hint E)}(ht:Eu P Et):∀n,ak6 E (mkI O Et hs n)
 | 0=>fun f args objs next k rr h=>by cases h
 | n+1=>fun f args objs next k rr h=>by
  have hO':aG E { O with inl:=mkI O Et hs n }:=⟨hO.1,hO.2.1,hO.2.2.1,hO.2.2.2.1,agZ hO bV ht n,hO.2.2.2.2.2⟩
  simp only[mkI]at h;split at h
  ·rename_i fn hl;obtain⟨hf,hname,hbody⟩:=ht _ (gZ _ _ _ hl);split at h
   ·rename_i c hc;refine⟨⟨fn,hf,hname,hbody⟩,fun w0 aZ a w ι ro vals hb ho hi hfr iC hlen hargs=>?_⟩;let w1:Start:=⟨w0.w,w0.x,some ⟨w,ro,ι⟩,[],w0.h⟩
    refine(calls_of_wp (R:=ae3 E k rr w1 aZ) hf hc ?_).mono fun e w' he=>by
     obtain⟨v,x,jm,next',ι',ro',a',h1,h2,h3,h4,h5,h6,h7,h8⟩:=he;obtain⟨q1,q2⟩:=h4.keep _ rfl;exact⟨v,x,jm,next',ι',ro',h1,h2,h3,⟨h4.below,h4.aO,h4.oZ,h4.sQ,hb.defers,fun q hq=>by obtain⟨p1,p2⟩:=hb.keep q hq;exact⟨fun k o h=>⟨(q1 k o (p1 k o h).1).1,(q1 k o (p1 k o h).1).2.trans (p1 k o h).2⟩,fun id gh h=>q2 id gh (p2 id gh h)⟩,h4.held⟩,h5,h6,h7,h8,q1,q2⟩
    have hg:cB E w1 aZ (LA fn args objs next) { tmps:=vals.toArray++Array.replicate (fn.ntmps-vals.toArray.size) undef,defers:=[] } w ι ro:={
     base:=⟨hb.below,hb.aO,hb.oZ,hb.sQ,rfl,(fun q hq=>by cases hq;exact⟨fun k o h=>⟨h,rfl⟩,fun _ _ h=>h⟩),hb.held⟩
     size:=by simp[LA,hlen]
     tmps:=fun t x hl=>by
      obtain⟨_,y,hy,rfl⟩:=Rw hl;rw[alI]at hy;have hlt:t<vals.length:=by rw[hlen];exact(List.getElem?_eq_some_iff.1 hy).1
      have hv:=aae hlt;refine⟨vals[t],by simp[alF,hlt],?_⟩;have hr:aJ E w ro ι vals[t] y:=hargs t _ y hv hy;cases hcy:bY y with
      | true=>exact aJ.any _
      | false =>rw[cond_false];cases y<;>first | exact hr | cases hcy
     objs:=ho
     inj:=hi
     fresh:=hfr
     ids:=iC }
    exact agX (n:=(LA fn args objs next).n) hO' bV c (LA fn args objs next) (ajP fn k) _ _ w _ ro (LB args 0) hg rfl h
     fun e S' a' w' ι' ro' _ h2 _ h4=>ae4 h2 h4 rfl
   ·cases h
  ·cases h
theorem ajQ{O:aK E}(hO:aG E O)(bV:P.follows .mixedOrders=true){Et:List (FuncId×Func)}{hs:List (FuncId×Hint E)}{d:Nat}(ht:Eu P Et):aG E (Xo O Et hs d):=⟨hO.1,hO.2.1,hO.2.2.1,hO.2.2.2.1,agZ hO bV ht d,hO.2.2.2.2.2⟩
def AO(fn:Func)(t:E.Ty)(x:E.Den t)(rest:List (TV E)):aD E:=⟨(rest.length+1)+(fn.ntmps-(rest.length+1)),(0,.ptr 0 0)::IW rest 1,[(0,.box ((E.cells t x).map .d))],1⟩
def ajR(t:E.Ty)(fn:Func)(S:aD E):Option (List (TV E)):=match look S.objs 0 with
 | some (.box cs)=>(match Xb t cs with
  | some y=>(match Tz S fn.results.toList fn.resultTypes.toList with
   | some xs=>some (⟨t,y⟩::xs)
   | none=>none)
  | none=>none)
 | _=>none
def ae5(t:E.Ty)(fn:Func)(e:cZ)(S:aD E):Option (List (TV E)):=match e with
 | .exit _=>none
 | .goto _=>none
 | _=>ajR t fn (rQ S)
def Rx(O:aK E)(h:Hint E)(G:fQ E)(fn:Func)(t:E.Ty)(x:E.Den t)(rest:List (TV E)):Option (List (TV E)):=match fn.body with
 | some c=>jr O h G 0 c (AO fn t x rest) (ae5 t fn)
 | none=>none
def ae6(O:aK E)(h:Hint E)(G:fQ E)(fn:Func)(t:E.Ty)(j:Nat)(S:aD E):Option (List (TV E)):=match fn.body with
 | some c=>Yz O h G c j S (ae5 t fn)
 | none=>none
def YF(g:Nat)(e0:TypeId):Gh:=⟨.pointer (some ⟨g,0,none⟩),0,e0,0,some g⟩
def ioB(g:Nat)(e0:TypeId):Nat->Option Gh:=fun id=>if id=0 then some (YF g e0)else none
def stB(w:World)(g:Nat)(e0:TypeId):Start:=⟨w,some g,some ⟨w,fun _ _=>False,ioB g e0⟩,[],fun _=>none⟩
theorem ag0{w:World}{g:Nat}{e0:TypeId}{own:Nat}(h:0<own):Rt own (stB w g e0):=fun q hq id gh hi=>by
 cases hq;simp only[ioB]at hi;split at hi
 ·omega
 ·cases hi
def ae7(E:Env P)(t:E.Ty)(g:Nat)(e0:TypeId)(res:List (TV E))(w:World)(ro:Nat->Nat->Prop)(ed:Ending)(w':World):Prop:=∃y rs,res=⟨t,y⟩::rs/\∃(v:Value) (vs':Array Value),ed = .returned v/\w.grownBy w' (some g)/\w'.heap[g]? = some (.cells vs' e0 (0,0)) /\
 jP E w' (fun k o=>ro k o\/(w.heap.size<=k/\k<w'.heap.size)) vs' (E.cells t y)/\mH E w' (fun k o=>ro k o\/(w.heap.size<=k/\k<w'.heap.size)) v rs
def YG(E:Env P)(fn:Func)(t:E.Ty)(g:Nat)(e0:TypeId)(res:List (TV E))(w:World)(ro:Nat->Nat->Prop):Exit->Act->World->Prop:=bodyPost P fn (ae7 E t g e0 res w ro)
theorem aop{w:World}{ro:Nat->Nat->Prop}{vs:List Value}{rs:List (TV E)}(h:dU E w ro vs rs):mH E w ro (if h:vs.length=1 then vs[0]else .tuple vs.toArray) rs:=by
 have hl:=(dU.at_ vs rs h).1;unfold mH;split
 ·rename_i t x
  match vs,hl,h with
  | [v],_,hm=>exact hm.1
 ·rename_i hne;by_cases h1:vs.length=1
  ·exfalso
   match rs,hl.symm.trans h1,hne with
   | [⟨t,x⟩],_,hne=>exact hne t x rfl
  ·rw[dif_neg h1];exact⟨vs,rfl,h⟩
theorem Vt{w:World}{ro ro':Nat->Nat->Prop}(h0:∀k o,ro k o->ro' k o):∀{vs:List Value} {rs:List (TV E)},dU E w ro vs rs->dU E w ro' vs rs
 | [],[],h=>h
 | _::_,_::_,h=>⟨h.1.mono h0 (fun _ _ _=>rfl),Vt h0 h.2⟩
 | [],_::_,h=>h.elim
 | _::_,[],h=>h.elim
theorem Ry{fn:Func}{t:E.Ty}{g:Nat}{e0:TypeId}{res:List (TV E)}{w:World}{ro:Nat->Nat->Prop}{e:cZ}{S':aD E}{a':Act}{w':World}{ι':Nat->Option Gh}{ro':Nat->Nat->Prop}(hnc':aR S'.tmps)(hg':cB E (stB w g e0) ro S' a' w' ι' ro')(hk:ae5 t fn e S'=some res) :
  YG E fn t g e0 res w ro e.toExit a' w':=by
 obtain⟨_,hg'⟩:=wo hnc' hg';generalize IQ S'.objs ι' ro'=ro' at hg';have fin:ajR t fn (rQ S')=some res->a'.defers=[]/\∃v,(results fn a'.tmps).run P w' = .ok v w'/\ae7 E t g e0 res w ro (.returned v) w':=by
  intro hres;unfold ajR at hres;split at hres
  ·rename_i cs bX;split at hres
   ·rename_i y hy;split at hres
    ·rename_i xs hxs;cases hres;obtain⟨vs,hvs,hrep⟩:=PX hg' hxs;obtain⟨gh,g',vs',e',hi,hgv,hblk,hh,hsz,hcell,fq,hge⟩:=hg'.objs 0 _ bX;have hi0:ι' 0=some (YF g e0):=(hg'.base.keep _ rfl).2 0 (YF g e0) rfl;rw[hi0]at hi;cases hi;have e1:g'=g:=by
      have h:(some g:Option Nat)=some g':=hblk;exact(Option.some.inj h).symm
     subst e1;have e2:e'=e0:=hge.symm;subst e2;have hro:∀k o,ro' k o->ro k o\/(w.heap.size<=k/\k<w'.heap.size):=fun k o hk=>by
      rcases hg'.base.oZ k o hk with h | h | h
      ·exact .inl h
      ·exact .inr ⟨h,hg'.base.aO k o hk⟩
      ·have h:(some g':Option Nat)=some k:=h;cases h;exact absurd hk (fq o)
     refine⟨hg'.base.defers,if h:vs.length=1 then vs[0]else .tuple vs.toArray,?_,y,xs,rfl,_,vs',rfl,hg'.base.below,hh,?_,aop (Vt hro hrep)⟩
     ·show(do let vs <- fn.results.mapM (PV a'.tmps);pure (if h:vs.size=1 then vs[0]else .tuple vs):Sem Value).run P w'=_;rw[Array.mapM_eq_mapM_toList];simp only[Sem.run_bind,Sem.run_map,hvs];simp[Result.andThen]
     ·unfold Xb at hy;split at hy
      ·rename_i ds hds;obtain⟨hl,hat⟩:=toDs_rep (vs:=vs') hds;refine jP.mono hro (fun _ _ _=>rfl) (jP.le (E.o8 t ds y hy) ⟨by rw[hsz,hl],fun j u d hu hd=>?_⟩);have hj:j<cs.length:=by rw[hl];exact(List.getElem?_eq_some_iff.1 hd).1
       exact toD_rep (hcell j u _ hu (aae hj)).2 (hat j _ d (aae hj) hd)
      ·cases hy
    ·cases hres
   ·cases hres
  ·cases hres
 cases e with
 | exit id=>cases hk
 | goto l=>cases hk
 | _=>exact fin hk
def EvB(E:Env P)(fn:Func)(t:E.Ty)(res:List (TV E))(i:Nat)(S:aD E):Prop :=
 ∀(w0:World) (g:Nat) (e0:TypeId) aZ n c,fn.body=some c->Lv E (stB w0 g e0) aZ n c (YG E fn t g e0 res w0 aZ) i S
open Classical in
def YH(E:Env P)(fn:Func)(t:E.Ty)(res:List (TV E))(i:Nat)(S:aD E):Option (List (TV E)):=if EvB E fn t res i S then some res else none
theorem aoq{fn:Func}{t:E.Ty}{res:List (TV E)}{i:Nat}{S:aD E}(h:EvB E fn t res i S):YH E fn t res i S=some res:=if_pos h
theorem ag1{fn:Func}{t:E.Ty}{res r:List (TV E)}{i:Nat}{S:aD E}(h:YH E fn t res i S=some r):EvB E fn t r i S:=by unfold YH at h;grind
variable {O:aK E} {h:Hint E}
theorem EvB.step(hO:aG E O)(bV:P.follows .mixedOrders=true)(ho:0<h.own){fn:Func}{t:E.Ty}{res:List (TV E)}{j:Nat}{S:aD E}(hs:ae6 O h (YH E fn t res) fn t j S=some res):EvB E fn t res j S:=by intro w0 g e0 aZ n c hc;unfold ae6 at hs;rw[hc]at hs;exact IY hO bV (fun i S hi=>⟨ag0 ho,ag1 hi w0 g e0 aZ n c hc⟩) (fun e S' a' w' ι' ro' h1 h2 _ h4=>Ry h1 h2 h4) hs
theorem WE(args:List (TV E))(i:Nat):aR ((0,wD.ptr i 0)::IW args 1):=fun p hp=>by
 cases hp with
 | head=>rfl
 | tail _ hp=>exact CV args 1 p hp
theorem OB(hO:aG E O)(bV:P.follows .mixedOrders=true)(ho:0<h.own){f:FuncId}{fn:Func}(hf:P.funcs[f]? = some fn){t:E.Ty}{x y:E.Den t}{rest res:List (TV E)}(hr:Rx O h (YH E fn t (⟨t,y⟩::res)) fn t x rest=some (⟨t,y⟩::res)):PG E f t x rest y res:=by
 unfold Rx at hr;split at hr
 ·rename_i c hc;intro w ro g e0 vs vals hh hrow fq hargs qJ;obtain⟨hlen,hat⟩:=dU.at_ vals rest hargs;have Ti:g<w.heap.size:=by
   grind
  refine(calls_of_wp (R:=ae7 E t g e0 (⟨t,y⟩::res) w ro) hf hc ?_).mono fun e w' he=>by obtain⟨y',rs,h0,h1⟩:=he;cases h0;exact h1
  have hg:cB E (stB w g e0) ro (AO fn t x rest) { tmps:=(.pointer (some ⟨g,0,none⟩)::vals).toArray++Array.replicate (fn.ntmps-(Value.pointer (some ⟨g,0,none⟩)::vals).toArray.size) undef,defers:=[] } w (ioB g e0) ro:={
   base:=⟨⟨rfl,rfl,rfl,acM _,fun _ _ _=>rfl⟩,qJ,fun k o h=>.inl h,(fun id gh k h hb=>by
    simp only[ioB]at h;split at h
    ·cases h;have hb:(some g:Option Nat)=some k:=hb;cases hb;exact⟨.inr rfl,Ti⟩
    ·cases h),rfl,(fun q h=>by cases h;exact⟨fun _ _ h=>h.elim,fun _ _ h=>h⟩),(fun k o h=>by cases h)⟩
   size:=by simp[AO,hlen]
   tmps:=fun q z hl=>by
    simp only[AO,aQ]at hl;split at hl
    ·rename_i hb;have:=ab5 hb;subst this;cases hl;exact⟨.pointer (some ⟨g,0,none⟩),by simp[alF],.ptr (YF g e0) g 0 0 rfl rfl⟩
    ·obtain⟨h1,y,hy,rfl⟩:=IZ hl;obtain⟨m,rfl⟩:∃m,q=m+1:=⟨q-1,by omega⟩
     rw[Nat.add_sub_cancel]at hy;have hlt:m<vals.length:=by rw[hlen];exact(List.getElem?_eq_some_iff.1 hy).1
     have hv:=aae hlt;refine⟨vals[m],by simp[alF,hlt],?_⟩;have hr:aJ E w ro (ioB g e0) vals[m] (eD y.1 y.2):=j3 (hat m _ y hv hy);have hc:=pI (E:=E) (t:=y.1) (x:=y.2);generalize eD y.1 y.2=z at hr hc;cases z<;>first | exact hr | cases hc
   objs:=fun id o hl=>by
    simp only[AO,look_nil,aQ]at hl;split at hl
    ·rename_i hb;have:=ab5 hb;subst this;cases hl;refine⟨YF g e0,g,vs,e0,rfl,rfl,rfl,hh,by rw[hrow.1,agU],fun j u q hu hq=>?_,fq,rfl⟩;rw[acS]at hq;cases hj:(E.cells t x)[j]? with
     | none=>rw[hj]at hq;cases hq
     | some d =>rw[hj]at hq;cases hq;have:=hrow.2 j u d hu hj;exact⟨this.one,.d _ _ this⟩
    ·cases hl
   inj:=fun id id' o o' g1 g2 k hl hl' _ _ h1 h2 _ _=>by simp only[ioB]at h1 h2;grind
   fresh:=fun id h=>by have h:1<=id:=h;exact if_neg (by omega)
   ids:=fun id o hl=>by
    simp only[AO,look_nil,aQ]at hl;split at hl
    ·rename_i hb;have:=ab5 hb;show id<1;omega
    ·cases hl }
  exact mK (n:=(AO fn t x rest).n) (Q0:=YG E fn t g e0 (⟨t,y⟩::res) w ro) (c0:=c) hO bV (fun i S hi=>⟨ag0 ho,ag1 hi w g e0 ro _ c hc⟩) c 0 (AO fn t x rest) (ae5 t fn) _ _ w _ ro Placed.whole (fun _=>rfl) (WE rest 0) hg rfl hr
   fun e S' a' w' ι' ro' h1 h2 _ h4=>Ry h1 h2 h4
 ·cases hr
abbrev OC(E:Env P):=(t:E.Ty)×(E.Den t->List (TV E)->Option (Bool×E.Den t×List (TV E)))
def aor(p:OC E)(t:E.Ty)(x:E.Den t)(args:List (TV E)):Option (Bool×E.Den t×List (TV E)):=match E.dec t p.1 with
 | .isTrue h=>(match p.2 (h▸x) args with
  | some (ok,y,res)=>some (ok,h▸y,res)
  | none=>none)
 | .isFalse _=>none
def RA(O:aK E)(l:List (FuncId×OC E)):aK E:={ O with
 ajj:=fun f=>(match look l f with
  | some p=>some p.1
  | none=>none)
 ajk:=fun f t x args=>(match look l f with
  | some p=>aor p t x args
  | none=>none) }
def I7 (P:Program) (f:FuncId) (fn:Func):Prop:=P.funcs[f]? = some fn/\(fn.name == "runtime.NumGoroutine")=false/\fn.body.isNone=false
def Xp(E:Env P)(f:FuncId)(p:OC E):Prop:=(∃fn,I7 P f fn)/\∀x args y res,p.2 x args=some (true,y,res)->PG E f p.1 x args y res
def CX(l:List (FuncId×OC E)):Prop:=∀p∈l,Xp E p.1 p.2
theorem CX.nil:CX (E:=E) []:=fun p h=>by cases h
theorem CX.cons{f:FuncId}{p:OC E}{l:List (FuncId×OC E)}(h:Xp E f p)(hl:CX l):CX ((f,p)::l):=fun q hq=>by
 cases hq with
 | head=>exact h
 | tail _ hq=>exact hl q hq
theorem ajS{O:aK E}(hO:aG E O){l:List (FuncId×OC E)}(hl:CX l):aG E (RA O l):=by
 refine⟨hO.1,hO.2.1,hO.2.2.1,hO.2.2.2.1,hO.2.2.2.2.1,hO.2.2.2.2.2.1,hO.2.2.2.2.2.2.1,fun f t x args y res h=>?_,hO.2.2.2.2.2.2.2.2⟩;simp only[RA]at h;split at h
 ·rename_i p hp;have hb:=hl _ (gZ _ _ _ hp);refine⟨hb.1,?_⟩;unfold aor at h;split at h
  ·rename_i e _;subst e;split at h
   ·rename_i ok y' res' hq;cases h;exact hb.2 x args _ _ hq
   ·cases h
  ·cases h
 ·cases h
def avA:Arg E->AV E
 | .v x=>eD x.1 x.2
 | .c f p q=>K6 f (p.map fun y=>eD y.1 y.2) (q.map fun y=>eD y.1 y.2)
def RB:List (Arg E)->Nat->List (Nat×AV E)
 | [],_=>[]
 | y::r,i=>(i,avA y)::RB r (i+1)
def LC(fn:Func)(args:List (Arg E)):aD E:=⟨args.length+(fn.ntmps-args.length),RB args 0,[],0⟩
def Xq(O:aK E)(h:Hint E)(G:fQ E)(fn:Func)(args:List (Arg E)):Option (List (TV E)):=match fn.body with
 | some c=>jr O h G 0 c (LC fn args) (TA fn)
 | none=>none
theorem Vu{w:World}{ro:Nat->Nat->Prop}{ι:Nat->Option Gh}{vs:Array Value}{p:List (TV E)}(h:dU E w ro vs.toList p):vs.size=(p.map fun y=>eD y.1 y.2).length/\∀(j:Nat) v c,vs[j]? = some v->(p.map fun y=>eD y.1 y.2)[j]? = some c->aJ E w ro ι v c:=by
 obtain⟨h1,h2⟩:=dU.at_ _ _ h;refine⟨by simpa using h1,fun j v c hv hc=>?_⟩;rw[acS]at hc;cases hj:p[j]? with
 | none=>rw[hj]at hc;cases hc
 | some y=>rw[hj]at hc;cases hc;exact j3 (h2 j v y (by simpa using hv) hj)
theorem amU{w:World}{ro:Nat->Nat->Prop}{ι:Nat->Option Gh}{v:Value}{y:Arg E}(h:aes E w ro v y):aJ E w ro ι v (avA y)/\bY (avA y)=false:=by
 cases y with
 | v x=>exact⟨j3 h,pI⟩
 | c f p q =>
  obtain⟨vs,us,rfl,hp,hq⟩:=h;obtain⟨p1,p2⟩:=Vu (ι:=ι) hp;obtain⟨q1,q2⟩:=Vu (ι:=ι) hq;show aJ E w ro ι _ (K6 f (p.map fun y=>eD y.1 y.2) (q.map fun y=>eD y.1 y.2))/\bY (K6 f (p.map fun y=>eD y.1 y.2) (q.map fun y=>eD y.1 y.2))=false;generalize (p.map fun y=>eD y.1 y.2)=a at p1 p2 ⊢;generalize (q.map fun y=>eD y.1 y.2)=b at q1 q2 ⊢
  match a,b,p1,p2,q1,q2 with
  | [],[],p1,_,q1,_ =>have e1:vs = #[]:=ak3 p1;have e2:us = #[]:=ak3 q1;subst e1;subst e2;exact⟨.d _ _ (.raw _ rfl),rfl⟩
  | x::a,b,p1,p2,q1,q2=>exact⟨.fn f vs us (x::a) b p1 q1 p2 q2,rfl⟩
  | [],x::b,p1,p2,q1,q2=>exact⟨.fn f vs us [] (x::b) p1 q1 p2 q2,rfl⟩
theorem RD:∀{args:List (Arg E)} {i t:Nat} {x:AV E},look (RB args i) t=some x->i<=t/\∃y,args[t-i]? = some y/\x=avA y
 | [],_,_,_,h=>by cases h
 | y::r,i,t,x,h=>by
  simp only[RB,aQ]at h;split at h
  ·rename_i hb;have:=ab5 hb;grind
  ·rename_i hb;obtain⟨h1,z,h2,h3⟩:=RD h;grind
theorem ae8(y:Arg E):bY (avA y)=false:=by
 cases y with
 | v x=>exact pI
 | c f p q =>show bY (K6 f _ _)=false;unfold K6;split<;>rfl
theorem LD:∀(args:List (Arg E)) (i:Nat),aR (RB args i)
 | [],_=>fun p h=>by cases h
 | y::r,i=>fun p h=>by
  cases h with
  | head=>exact ae8 y
  | tail _ h=>exact LD r (i+1) p h
theorem Vv(hO:aG E O)(bV:P.follows .mixedOrders=true){f:FuncId}{fn:Func}(hf:P.funcs[f]? = some fn){args:List (Arg E)}{res:List (TV E)}(hr:Xq O h (Gr E fn res) fn args=some res):Q9 E f args res:=by
 unfold Xq at hr;split at hr
 ·rename_i c hc;intro w ro vals hlen hat qJ;refine calls_of_wp hf hc ?_;have hg:cB E ⟨w,none,none,[],fun _=>none⟩ ro (LC fn args) { tmps:=vals.toArray++Array.replicate (fn.ntmps-vals.toArray.size) undef,defers:=[] } w (fun _=>none) ro:={
   base:=⟨⟨rfl,rfl,rfl,acM _,fun _ _ _=>rfl⟩,qJ,fun k o h=>.inl h,(fun id gh k h=>by cases h),rfl,(fun q h=>by cases h),(fun k o h=>by cases h)⟩
   size:=by simp[LC,hlen]
   tmps:=fun t x hl=>by
    obtain⟨_,y,hy,rfl⟩:=RD hl;rw[alI]at hy;have hlt:t<vals.length:=by rw[hlen];exact(List.getElem?_eq_some_iff.1 hy).1
    have hv:=aae hlt;refine⟨vals[t],by simp[alF,hlt],?_⟩;obtain⟨hr,hc⟩:=amU (ι:=fun _=>none) (hat t _ y hv hy);generalize avA y=z at hr hc;cases z<;>first | exact hr | cases hc
   objs:=fun id o hl=>by cases hl
   inj:=fun id id' o o' gh aX k hl=>by cases hl
   fresh:=fun _ _=>rfl
   ids:=fun id o hl=>by cases hl }
  exact mK (n:=(LC fn args).n) (Q0:=Xm E fn res w ro) (c0:=c) hO bV (fun i S hi=>⟨.none rfl,aeX hi w ro _ c hc⟩) c 0 (LC fn args) (TA fn) _ _ w _ ro Placed.whole (fun _=>rfl) (LD args 0) hg rfl hr
   fun e S' a' w' ι' ro' h1 h2 _ h4=>I4 h1 h2 h4
 ·cases hr
abbrev Gq(E:Env P):=List (rX E)×(List (Arg E)->Option (Bool×List (TV E)))
def YI(f:FuncId):List (FuncId×Gq E)->List (Gq E)
 | []=>[]
 | p::r=>(match Nat.beq p.1 f with
  | true=>p.2::YI f r
  | false=>YI f r)
def Xr(O:aK E)(l:List (FuncId×Gq E)):aK E:={ O with cla:=fun f=>YI f l }
def AOk(E:Env P)(f:FuncId)(p:Gq E):Prop:=(∃fn,I7 P f fn)/\∀xs res,p.2 xs=some (true,res)->Q9 E f xs res
def PY(l:List (FuncId×Gq E)):Prop:=∀p∈l,AOk E p.1 p.2
theorem PY.nil:PY (E:=E) []:=fun p h=>by cases h
theorem PY.cons{f:FuncId}{p:Gq E}{l:List (FuncId×Gq E)}(h:AOk E f p)(hl:PY l):PY ((f,p)::l):=fun q hq=>by
 cases hq with
 | head=>exact h
 | tail _ hq=>exact hl q hq
theorem PZ{f:FuncId}{p:Gq E}:∀{l:List (FuncId×Gq E)},p∈YI f l->(f,p)∈l
 | [],h=>by cases h
 | q::r,h=>by
  unfold YI at h;split at h
  ·rename_i hb;have:=ab5 hb;cases h with
   | head=>rw[<- this];exact ab1
   | tail _ h=>exact aav _ (PZ h)
  ·exact aav _ (PZ h)
theorem ajT{O:aK E}(hO:aG E O){l:List (FuncId×Gq E)}(hl:PY l):aG E (Xr O l) :=
 ⟨hO.1,hO.2.1,hO.2.2.1,hO.2.2.2.1,hO.2.2.2.2.1,hO.2.2.2.2.2.1,hO.2.2.2.2.2.2.1,hO.2.2.2.2.2.2.2.1,fun f p xs res hp h=>by have:=hl _ (PZ hp);exact⟨this.1,this.2 xs res h⟩⟩
end
inductive Tr (ρ σ:Type) where
 | k (r:ρ)
 | g (s:σ)
 | n
def Tr.el{ρ σ τ:Type}(k:ρ->τ)(g:σ->τ)(n:τ):Tr ρ σ->τ
 | .k r=>k r
 | .g s=>g s
 | .n=>n
class Df (α:Type) where
 d:α
instance:Df Int:=⟨0⟩
instance:Df Nat:=⟨0⟩
instance:Df Bool:=⟨false⟩
instance:Df Unit:=⟨()⟩
instance {α:Type}:Df (List α):=⟨[]⟩
instance {α β:Type} [Df α] [Df β]:Df (α×β):=⟨(Df.d,Df.d)⟩
section
variable {α τ:Type} [Df α]
def gv(o:Option α):α:=o.getD Df.d
def cl(o:Option α)(n:τ)(f:α->τ):τ:=bif o.isSome then f (o.getD Df.d)else n
def gL{β:Type}(l:List β)(i:Int):Bool:=decide ((0:Int)<=i)&&decide (i<(l.length:Int))
def gt(l:List α)(i:Int):α:=l.getD i.toNat Df.d
def ix(l:List α)(i:Int)(n:τ)(f:α->τ):τ:=bif decide ((0:Int)<=i)&&decide (i<(l.length:Int))then f (l.getD i.toNat Df.d)else n
end
def OD{τ:Type}(l:alJ)(i:Int)(n:τ)(f:Int->τ):τ:=bif decide ((0:Int)<=i)&&decide (i<(l.length:Int))then f (((l.getD i.toNat 0).toNat:Nat):Int)else n
def rD(i:Int):Nat:=0+i.toNat*1
def ck{τ:Type}(b:Bool)(n x:τ):τ:=bif b then x else n
def cut{α:Type}(l:List α)(a b:Int):List α:=List.take (b.toNat-a.toNat) (List.drop a.toNat l)
def bG{α:Type}(l:List α)(a b:Int):Bool:=decide ((0:Int)<=a)&&decide (a<=b)&&decide (b<=(l.length:Int))
def aM(a b:Int):Bool:=decide (a<b)
def dG(a b:Int):Bool:=decide (a<=b)
def aI{α:Type}(l:List α):Int:=(l.length:Int)
def AP(l:alJ)(i:Int):Int:=(((List.getD l (Int.toNat i) 0).toNat:Nat):Int)
def RF{α:Type}(l:List α)(i:Int)(d:α):α:=List.getD l (Int.toNat i) d
def bN(a b:Bool):Bool:=bif a then true else b
def aab(a b:Bool):Bool:=bif a then b else false
theorem bH:(∀a b:Int,aM a b=decide (a<b))/\(∀a b:Int,dG a b=decide (a<=b))/\(∀(α:Type) (l:List α),aI l=(l.length:Int))/\(∀(l:alJ) (i:Int),AP l i=(((List.getD l (Int.toNat i) 0).toNat:Nat):Int))/\(∀(α:Type) (l:List α) (i:Int) (d:α),RF l i d=List.getD l (Int.toNat i) d) /\
  (∀a b:Bool,bN a b=bif a then true else b)/\∀a b:Bool,aab a b=bif a then b else false:=⟨fun _ _=>rfl,fun _ _=>rfl,fun _ _=>rfl,fun _ _=>rfl,fun _ _ _ _=>rfl,fun _ _=>rfl,fun _ _=>rfl⟩
section
variable {ρ σ τ:Type} {k:ρ->τ} {g:σ->τ} {n:τ}
theorem eK(r:ρ):(Tr.k r:Tr ρ σ).el k g n=k r:=rfl
theorem eG(s:σ):(Tr.g s:Tr ρ σ).el k g n=g s:=rfl
theorem eN:(Tr.n:Tr ρ σ).el k g n=n:=rfl
theorem eB(c:Bool)(a b:Tr ρ σ):(bif c then a else b).el k g n=bif c then a.el k g n else b.el k g n:=by cases c<;>rfl
theorem eC{α:Type}[Df α](o:Option α)(a:Tr ρ σ)(f:α->Tr ρ σ):(cl o a f).el k g n=cl o (a.el k g n) fun x=>(f x).el k g n:=by unfold cl;cases o<;>rfl
theorem eI{α:Type}[Df α](l:List α)(i:Int)(a:Tr ρ σ)(f:α->Tr ρ σ):(ix l i a f).el k g n=ix l i (a.el k g n) fun x=>(f x).el k g n:=by unfold ix;exact eB _ _ _
theorem eS(l:alJ)(i:Int)(a:Tr ρ σ)(f:Int->Tr ρ σ):(OD l i a f).el k g n=OD l i (a.el k g n) fun x=>(f x).el k g n:=by unfold OD;exact eB _ _ _
theorem eJ(c:Bool)(a b:Tr ρ σ):(ck c a b).el k g n=ck c (a.el k g n) (b.el k g n):=by unfold ck;exact eB _ _ _
theorem eA:(∀r:ρ,(Tr.k r:Tr ρ σ).el k g n=k r)/\(∀s:σ,(Tr.g s:Tr ρ σ).el k g n=g s)/\((Tr.n:Tr ρ σ).el k g n=n)/\(∀(c:Bool) (a b:Tr ρ σ),(bif c then a else b).el k g n=bif c then a.el k g n else b.el k g n) /\
  (∀(α:Type) [Df α] (o:Option α) (a:Tr ρ σ) (f:α->Tr ρ σ),(cl o a f).el k g n=cl o (a.el k g n) fun x=>(f x).el k g n)/\(∀(α:Type) [Df α] (l:List α) (i:Int) (a:Tr ρ σ) (f:α->Tr ρ σ),(ix l i a f).el k g n=ix l i (a.el k g n) fun x=>(f x).el k g n) /\
  (∀(l:alJ) (i:Int) (a:Tr ρ σ) (f:Int->Tr ρ σ),(OD l i a f).el k g n=OD l i (a.el k g n) fun x=>(f x).el k g n)/\∀(c:Bool) (a b:Tr ρ σ),(ck c a b).el k g n=ck c (a.el k g n) (b.el k g n) :=
 ⟨eK,eG,eN,eB,fun _ _=>eC,fun _ _=>eI,eS,eJ⟩
end
section
variable {α τ:Type} [Df α]
theorem aF(x:α)(n:τ)(f:α->τ):cl (some x) n f=f x:=rfl
theorem mE(x:α):gv (some x)=x:=rfl
theorem aj(n x:τ):ck true n x=x:=rfl
end
inductive Te (ρ σ:Type):Type 1 where
 | k (r:ρ)
 | g (s:σ)
 | n
 | b (c:Bool) (x y:Te ρ σ)
 | q (c:Bool) (x:Te ρ σ)
 | c {α:Type} [Df α] (o:Option α) (f:α->Te ρ σ)
 | i {α:Type} [Df α] (l:List α) (i:Int) (f:α->Te ρ σ)
 | s (l:alJ) (i:Int) (f:Int->Te ρ σ)
 | l {α:Type} (v:α) (f:α->Te ρ σ)
abbrev Tree(ρ σ:Type):=σ->Te ρ σ
def Te.run{ρ σ:Type}(τ:Type)(k:ρ->τ)(g:σ->τ)(n:τ)(t:Te ρ σ):τ :=
 Te.rec (motive:=fun _=>τ) k g n (fun c _ _ x y=>bif c then x else y) (fun c _ x=>ck c n x) (fun o _ f=>cl o n f) (fun l i _ f=>ix l i n f) (fun l i _ f=>OD l i n f) (fun v _ f=>f v) t
section
variable {ρ σ τ:Type} {k:ρ->τ} {g:σ->τ} {n:τ}
theorem aP:(∀r:ρ,(Te.k r:Te ρ σ).run τ k g n=k r)/\(∀s:σ,(Te.g s:Te ρ σ).run τ k g n=g s)/\((Te.n:Te ρ σ).run τ k g n=n)/\(∀(c:Bool) (x y:Te ρ σ),(Te.b c x y).run τ k g n=bif c then x.run τ k g n else y.run τ k g n) /\
  (∀(c:Bool) (x:Te ρ σ),(Te.q c x).run τ k g n=ck c n (x.run τ k g n))/\(∀(α:Type) [Df α] (o:Option α) (f:α->Te ρ σ),(Te.c o f).run τ k g n=cl o n fun x=>(f x).run τ k g n)/\(∀(α:Type) [Df α] (l:List α) (i:Int) (f:α->Te ρ σ),(Te.i l i f).run τ k g n=ix l i n fun x=>(f x).run τ k g n) /\
  (∀(l:alJ) (i:Int) (f:Int->Te ρ σ),(Te.s l i f).run τ k g n=OD l i n fun x=>(f x).run τ k g n)/\∀(α:Type) (v:α) (f:α->Te ρ σ),(Te.l v f).run τ k g n=(f v).run τ k g n :=
 ⟨fun _=>rfl,fun _=>rfl,rfl,fun _ _ _=>rfl,fun _ _=>rfl,fun _ _ _ _=>rfl,fun _ _ _ _ _=>rfl,fun _ _ _=>rfl,fun _ _ _=>rfl⟩
theorem Te.nat(t:Te ρ σ):t.run τ k g n=(t.run (Tr ρ σ) Tr.k Tr.g Tr.n).el k g n:=by
 induction t with
 | b c x y h1 h2=>simp only[aP,eA,h1,h2]
 | q c x h=>simp only[aP,eA,h]
 | c o f h=>simp only[aP,eA,h]
 | i l i f h=>simp only[aP,eA,h]
 | s l i f h=>simp only[aP,eA,h]
 | l v f h=>exact h v
 | _=>rfl
end
def LG{ρ σ:Type}(t:Tree ρ σ):Nat->σ->Option ρ
 | 0,_=>none
 | f+1,s=>(t s).run (Option ρ) some (LG t f) none
def sH:Nat:=1000000000000000000000000000000
def mu{ρ σ:Type}(t:Tree ρ σ)(s:σ):Option ρ:=LG t sH s
def Te.o{ρ:Type}(t:Te ρ Empty):Option ρ:=t.run (Option ρ) some (fun e=>nomatch e) none
section
variable {ρ σ:Type} {t:Tree ρ σ}
theorem YJ:∀(f:Nat) (s:σ) (r:ρ),LG t f s=some r->∀f',f<=f'->LG t f' s=some r
 | 0,_,_,h,_,_=>by cases h
 | f+1,s,r,h,0,hf=>by omega
 | f+1,s,r,h,f'+1,hf=>by
  simp only[LG]at h ⊢;rw[Te.nat]at h ⊢;cases ht:(t s).run _ Tr.k Tr.g Tr.n with
  | k r'=>rw[ht]at h;exact h
  | n=>rw[ht]at h;cases h
  | g s'=>rw[ht]at h;exact YJ f s' r h f' (by omega)
theorem Te.ae9{t:Te ρ Empty}{r:ρ}(h:t.o=some r){τ:Type}{k:ρ->τ}{g:Empty->τ}{n:τ}:t.run τ k g n=k r:=by
 rw[Te.o,Te.nat]at h;rw[Te.nat];cases ht:t.run _ Tr.k Tr.g Tr.n with
 | k r'=>rw[ht]at h;cases h;rfl
 | n=>rw[ht]at h;cases h
 | g s'=>cases s'
theorem Te.prop{t:Te ρ σ}{k:ρ->Prop}{g:σ->Prop}(h:t.run Prop k g False):(∃r,t.run (Tr ρ σ) Tr.k Tr.g Tr.n = .k r/\k r)\/∃s',t.run (Tr ρ σ) Tr.k Tr.g Tr.n = .g s'/\g s':=by
 rw[Te.nat]at h;cases ht:t.run (Tr ρ σ) Tr.k Tr.g Tr.n with
 | k r=>rw[ht]at h;exact .inl ⟨r,rfl,h⟩
 | g s'=>rw[ht]at h;exact .inr ⟨s',rfl,h⟩
 | n=>rw[ht]at h;exact h.elim
theorem come{m:Option ρ}{s:σ}(Q:ρ->Prop)(hm:m=mu t s)(I:σ->Prop)(M:σ->Nat)(hs:I s)(hM:M s<1000000000000000000000000000000)(h:∀s,I s->(t s).run Prop Q (fun s'=>I s'/\M s'<M s) False):∃r,m=some r/\Q r:=by
 have go:∀n s,M s<n->I s->∃r,LG t n s=some r/\Q r:=by
  intro n
  induction n with
  | zero=>intro s h0;omega
  | succ n ih =>
   intro s h0 hs;simp only[LG];rw[Te.nat];rcases Te.prop (h s hs)with⟨r,e,h2⟩ | ⟨s',e,h2,h3⟩
   ·rw[e];exact⟨r,rfl,h2⟩
   ·rw[e];exact ih s' (by omega) h2
 obtain⟨r,h1,h2⟩:=go (M s+1) s (Nat.lt_succ_self _) hs;exact⟨r,hm.trans (YJ _ _ _ h1 _ (show M s+1<=sH by unfold sH;omega)),h2⟩
theorem apR{m:Option ρ}{t:Te ρ Empty}(Q:ρ->Prop)(hm:m=t.o)(h:t.run Prop Q (fun _=>False) False):∃r,m=some r/\Q r:=by
 subst hm;rcases Te.prop h with⟨r,e,h2⟩ | ⟨s',_,h2⟩
 ·rw[Te.o,Te.nat,e];exact⟨r,rfl,h2⟩
 ·exact h2.elim
end
section
variable {α:Type} [Df α]
theorem wB(c:Bool)(a b:Prop):(bif c then a else b)=((c=true->a)/\(c=false->b)):=by cases c<;>simp
theorem wK(c:Bool)(a:Prop):ck c False a=(c=true/\a):=by unfold ck;cases c<;>simp
theorem wI(l:List α)(i:Int)(f:α->Prop):ix l i False f=(0<=i/\i<(l.length:Int)/\f (l.getD i.toNat Df.d)):=by unfold ix;rw[wB];simp;exact⟨fun⟨h1,h2⟩=>⟨h2.1,h2.2,h1 h2.1 h2.2⟩,fun⟨h1,h2,h3⟩=>⟨fun _ _=>h3,h1,h2⟩⟩
theorem wS(l:alJ)(i:Int)(f:Int->Prop):OD l i False f=(0<=i/\i<(l.length:Int)/\f ((l.getD i.toNat 0).toNat:Int)):=by unfold OD;rw[wB];simp;exact⟨fun⟨h1,h2⟩=>⟨h2.1,h2.2,h1 h2.1 h2.2⟩,fun⟨h1,h2,h3⟩=>⟨fun _ _=>h3,h1,h2⟩⟩
theorem wC(o:Option α)(f:α->Prop):cl o False f=∃r,o=some r/\f r:=by
 cases o with
 | _=>simp[cl]
end
section
variable {P:Program} {E:Env P}
abbrev sI(n:Int):AV E:=.d (.int .i64 n)
abbrev sS(s:alJ):AV E:=.d (.str s)
abbrev sB(b:Bool):AV E:=.d (.bool b)
abbrev sL(t:E.Ty)(l:List (E.Den t)):AV E:=.d (.slice t l)
inductive Hd (E:Env P) where
 | e (args:List (TV E))
 | c (args:List (Arg E))
 | h (i:Nat) (S:aD E)
inductive Md (E:Env P) where
 | fn
 | bx (t:E.Ty)
def Fg(M:Md E)(O:aK E)(H:Hint E)(G:fQ E)(fn:Func)(s:Hd E):Option (List (TV E)):=match M,s with
 | .fn,.e args=>CS O H G fn args
 | .fn,.c args=>Xq O H G fn args
 | .fn,.h i S=>aeU O H G fn i S
 | .bx t,.e args=>(match args with
  | v::args=>(match nQ t v with
   | some x=>Rx O H G fn t x args
   | none=>none)
  | []=>none)
 | .bx t,.h i S=>ae6 O H G fn t i S
 | .bx _,.c _=>none
def gH(M:Md E)(O:aK E)(H:Hint E)(G:fQ E)(fn:Func):Hd E->Option (List (TV E))
 | .e args=>Fg M O H G fn (.e args)
 | .c args=>Fg M O H G fn (.c args)
 | .h i S=>G i S
structure Runs {ρ σ:Type} (M:Md E) (O:aK E) (fn:Func) (H:Hint E) (C:σ->Hd E) (enc:ρ->List (TV E)) (t:Tree ρ σ):Prop where
 run:∀(s:σ) (G:fQ E),Fg M O H G fn (C s)=(t s).run _ (fun r=>some (enc r)) (fun s=>gH M O H G fn (C s)) none
def GrX(M:Md E)(fn:Func)(res:List (TV E)):fQ E:=match M with
 | .fn=>Gr E fn res
 | .bx t=>YH E fn t res
def EvX(M:Md E)(fn:Func)(res:List (TV E))(i:Nat)(S:aD E):Prop:=match M with
 | .fn=>Ev E fn res i S
 | .bx t=>EvB E fn t res i S
def arX(M:Md E)(O:aK E)(H:Hint E)(fn:Func)(res:List (TV E)):Hd E->Prop
 | .e args=>Fg M O H (GrX M fn res) fn (.e args)=some res
 | .c args=>Fg M O H (GrX M fn res) fn (.c args)=some res
 | .h i S=>EvX M fn res i S
theorem aos{M:Md E}{fn:Func}{res:List (TV E)}{i:Nat}{S:aD E}(h:EvX M fn res i S):GrX M fn res i S=some res:=by
 cases M with
 | fn=>exact dP h
 | bx t=>exact aoq h
theorem EvX.step{M:Md E}{O:aK E}{H:Hint E}(hO:aG E O)(bV:P.follows .mixedOrders=true)(ho:M = .fn\/0<H.own){fn:Func}{res:List (TV E)}{i:Nat}{S:aD E}(h:Fg M O H (GrX M fn res) fn (.h i S)=some res):EvX M fn res i S:=by
 cases M with
 | fn=>exact Ev.step hO bV h
 | bx t=>exact EvB.step hO bV (ho.resolve_left (fun e=>by cases e)) h
theorem Runs.sound{ρ σ:Type}{M:Md E}{O:aK E}{fn:Func}{H:Hint E}{C:σ->Hd E}{enc:ρ->List (TV E)}{t:Tree ρ σ}(R:Runs M O fn H C enc t)(hO:aG E O)(bV:P.follows .mixedOrders=true)(ho:M = .fn\/0<H.own) :
  ∀(f:Nat) (s:σ) (r:ρ),LG t f s=some r->arX M O H fn (enc r) (C s)
 | 0,_,_,h=>by cases h
 | f+1,s,r,h=>by
  have h1:Fg M O H (GrX M fn (enc r)) fn (C s)=some (enc r):=by
   rw[R.run,Te.nat];simp only[LG]at h;rw[Te.nat]at h;cases ht:(t s).run _ Tr.k Tr.g Tr.n with
   | k r'=>rw[ht]at h;cases h;rfl
   | n=>rw[ht]at h;cases h
   | g s' =>
    rw[ht]at h;have ih:=R.sound hO bV ho f s' r h;show gH M O H _ fn (C s')=_;cases hc:C s' with
    | h i S=>rw[hc]at ih;exact aos ih
    | _=>rw[hc]at ih;exact ih
  cases hc:C s with
  | h i S=>rw[hc]at h1;exact EvX.step hO bV ho h1
  | _=>rw[hc]at h1;exact h1
def Args(E:Env P):List E.Ty->Type
 | []=>Unit
 | [t]=>E.Den t
 | t::u::ts=>E.Den t×Args E (u::ts)
def iA:(ts:List E.Ty)->Args E ts->List (TV E)
 | [],_=>[]
 | [t],x=>[⟨t,x⟩]
 | t::u::ts,x=>⟨t,x.1⟩::iA (u::ts) x.2
def TG:(ts:List E.Ty)->List (TV E)->Option (Args E ts)
 | [],l=>(match l with
  | []=>some ()
  | _=>none)
 | [t],l=>(match l with
  | [v]=>nQ t v
  | _=>none)
 | t::u::ts,l=>(match l with
  | []=>none
  | v::vs=>(match nQ t v with
   | some x=>(match TG (u::ts) vs with
    | some y=>some (x,y)
    | none=>none)
   | none=>none))
def dfA:(ts:List E.Ty)->Args E ts
 | []=>()
 | [t]=>E.dflt t
 | t::u::ts=>(E.dflt t,dfA (u::ts))
theorem Gs:∀(ts:List E.Ty) (l:List (TV E)) (x:Args E ts),TG ts l=some x->l=iA ts x
 | [],l,x=>by
  intro h
  match l,h with
  | [],_=>rfl
  | _::_,h=>cases(show none=some x from h)
 | [t],l,x=>by
  intro h
  match l,h with
  | [],h=>cases(show none=some x from h)
  | [v],h=>rw[nX (show nQ t v=some x from h)];rfl
  | _::_::_,h=>cases(show none=some x from h)
 | t::u::ts,l,x=>by
  intro h;unfold TG at h;split at h
  ·cases h
  ·split at h
   ·rename_i y hy;split at h
    ·rename_i z hz;cases h;rw[nX hy,Gs _ _ _ hz];rfl
    ·cases h
   ·cases h
theorem afa{t:E.Ty}{x:E.Den t}:nQ t (⟨t,x⟩:TV E)=some x:=by
 unfold nQ Ec;cases h:E.dec t t with
 | isTrue h=>rfl
 | isFalse h'=>exact absurd rfl h'
def LH(ps rs:List E.Ty)(m:Args E ps->Option (Args E rs)):jH E:=fun l=>match TG ps l with
 | some x=>some ((m x).isSome,iA rs ((m x).getD (dfA rs)))
 | none=>none
theorem YK{f:FuncId}{fn:Func}(ex:I7 P f fn){ps rs:List E.Ty}{m:Args E ps->Option (Args E rs)}(h:∀a r,m a=some r->Nu E f (iA ps a) (iA rs r)):bM E f (LH ps rs m) :=
 ⟨⟨fn,ex⟩,fun args res hr=>by
  unfold LH at hr;split at hr
  ·rename_i x hx;rw[Gs _ _ _ hx];cases hm:m x with
   | none=>rw[hm]at hr;cases hr
   | some r=>rw[hm]at hr;cases hr;exact h x r hm
  ·cases hr⟩
theorem ajU{f:FuncId}{ps rs:List E.Ty}(ex:∃fn,I7 P f fn):bM E f (LH ps rs fun _=>none):=by obtain⟨fn,ex⟩:=ex;exact YK ex fun a r h=>by cases h
theorem Runs.fn{ρ σ:Type}{O:aK E}{fn:Func}{H:Hint E}{C:σ->Hd E}{t:Tree ρ σ}{f:FuncId}{ps rs:List E.Ty}{enc:ρ->List (TV E)}(R:Runs .fn O fn H C enc t)(hO:aG E O)(bV:P.follows .mixedOrders=true)(ex:I7 P f fn)
  {st:Args E ps->σ} (hs:∀a,C (st a) = .e (iA ps a)) {m:Args E ps->Option (Args E rs)} (hm:∀a r,m a=some r->∃r',mu t (st a)=some r'/\enc r'=iA rs r):bM E f (LH ps rs m) :=
 YK ex fun a r h=>by obtain⟨r',h1,h2⟩:=hm a r h;have:=R.sound hO bV (.inl rfl) sH _ _ h1;rw[hs a]at this;rw[<- h2];exact I5 hO bV ex.1 this
def bxG(t:E.Ty)(ps rs:List E.Ty)(m:E.Den t->Args E ps->Option (E.Den t×Args E rs)):OC E:=⟨t,fun x l=>match TG ps l with
 | some a=>some ((m x a).isSome,((m x a).getD (E.dflt t,dfA rs)).1,iA rs ((m x a).getD (E.dflt t,dfA rs)).2)
 | none=>none⟩
theorem Runs.bx{ρ σ:Type}{O:aK E}{fn:Func}{H:Hint E}{C:σ->Hd E}{t:Tree ρ σ}{f:FuncId}{b:E.Ty}{ps rs:List E.Ty}{enc:ρ->List (TV E)}(R:Runs (.bx b) O fn H C enc t)(hO:aG E O)(bV:P.follows .mixedOrders=true)(ho:0<H.own)(ex:I7 P f fn)
  {st:E.Den b->Args E ps->σ} (hs:∀x a,C (st x a) = .e (⟨b,x⟩::iA ps a)) {m:E.Den b->Args E ps->Option (E.Den b×Args E rs)} (hm:∀x a r,m x a=some r->∃r',mu t (st x a)=some r'/\enc r'=⟨b,r.1⟩::iA rs r.2):Xp E f (bxG b ps rs m) :=
 ⟨⟨fn,ex⟩,fun(x:E.Den b) l y res h=>by
  simp only[bxG]at h;split at h
  ·rename_i a ha;rw[Gs _ _ _ ha];cases hmm:m x a with
   | none=>rw[hmm]at h;cases h
   | some r =>rw[hmm]at h;cases h;obtain⟨r',h1,h2⟩:=hm x a r hmm;have:=R.sound hO bV (.inr ho) sH _ _ h1;rw[hs x a]at this;rw[h2]at this;have this:(match nQ b (⟨b,x⟩:TV E)with | some x=>Rx O H (YH E fn b (⟨b,r.1⟩::iA rs r.2)) fn b x (iA ps a) | none=>none)=some (⟨b,r.1⟩::iA rs r.2):=this;rw[afa]at this;exact OB hO bV ho ex.1 this
  ·cases h⟩
def um:List (rX E)->List E.Ty
 | []=>[]
 | .v t::r=>t::um r
 | .c _ ps qs::r=>ps++(qs++um r)
def NP:List (Arg E)->List (TV E)
 | []=>[]
 | .v x::r=>x::NP r
 | .c _ p q::r=>p++(q++NP r)
def I8:List (rX E)->List (TV E)->List (Arg E)
 | [],_=>[]
 | .v _::r,l=>(match l with
  | x::l=>.v x::I8 r l
  | []=>[])
 | .c f ps qs::r,l=>.c f (l.take ps.length) ((l.drop ps.length).take qs.length)::I8 r ((l.drop ps.length).drop qs.length)
def Cq:List (rX E)->List (Arg E)->Bool
 | [],[]=>true
 | .v _::r,.v _::s=>Cq r s
 | .c f ps qs::r,.c f' p q::s=>Nat.beq f f'&&(Nat.beq ps.length p.length&&(Nat.beq qs.length q.length&&Cq r s))
 | _,_=>false
theorem LJ:∀(ss:List (rX E)) (xs:List (Arg E)),Cq ss xs=true->I8 ss (NP xs)=xs
 | [],[],_=>rfl
 | .v _::r,.v x::s,h=>by have h:Cq r s=true:=h;simp only[NP,I8,LJ r s h]
 | .c f ps qs::r,.c f' p q::s,h=>by simp only[Cq,ach]at h;obtain⟨h1,h2,h3,h4⟩:=h;have h1:=ab5 h1;have h2:=ab5 h2;have h3:=ab5 h3;subst h1;simp only[NP,I8,h2,h3,List.take_left,List.drop_left,LJ r s h4]
 | [],_::_,h=>by cases h
 | .v _::_,[],h=>by cases h
 | .c _ _ _::_,[],h=>by cases h
 | .v _::_,.c _ _ _::_,h=>by cases h
 | .c _ _ _::_,.v _::_,h=>by cases h
def fnP(sh:List (rX E))(rs:List E.Ty)(m:Args E (um sh)->Option (Args E rs)):Gq E:=(sh,fun xs=>match Cq sh xs with
 | true=>(match TG (um sh) (NP xs)with
  | some a=>some ((m a).isSome,iA rs ((m a).getD (dfA rs)))
  | none=>none)
 | false=>none)
theorem aok{f:FuncId}{fn:Func}{sh:List (rX E)}{rs:List E.Ty}{m:Args E (um sh)->Option (Args E rs)}(ex:I7 P f fn)(h:∀a r,m a=some r->Q9 E f (I8 sh (iA (um sh) a)) (iA rs r)):AOk E f (fnP sh rs m) :=
 ⟨⟨fn,ex⟩,fun xs res hr=>by
  simp only[fnP]at hr;split at hr
  ·rename_i hsh;split at hr
   ·rename_i a ha;have e:=LJ sh xs hsh;rw[Gs _ _ _ ha]at e;cases hm:m a with
    | none=>rw[hm]at hr;cases hr
    | some r =>rw[hm]at hr;cases hr;exact e▸h a r hm
   ·cases hr
  ·cases hr⟩
theorem Runs.cl{ρ σ:Type}{O:aK E}{fn:Func}{H:Hint E}{C:σ->Hd E}{t:Tree ρ σ}{f:FuncId}{sh:List (rX E)}{rs:List E.Ty}{enc:ρ->List (TV E)}(R:Runs .fn O fn H C enc t)(hO:aG E O)(bV:P.follows .mixedOrders=true)(ex:I7 P f fn)
  {st:Args E (um sh)->σ} (hs:∀a,C (st a) = .c (I8 sh (iA (um sh) a))) {m:Args E (um sh)->Option (Args E rs)} (hm:∀a r,m a=some r->∃r',mu t (st a)=some r'/\enc r'=iA rs r):AOk E f (fnP sh rs m) :=
 aok ex fun a r h=>by obtain⟨r',h1,h2⟩:=hm a r h;have:=R.sound hO bV (.inl rfl) sH _ _ h1;rw[hs a]at this;rw[<- h2];exact Vv hO bV ex.1 this
theorem Ce {f:FuncId} {fn:Func} (e:P.funcs[f]? = some fn) (h:(fn.name == "runtime.NumGoroutine" || fn.body.isNone)=false):I7 P f fn:=⟨e,(Bool.or_eq_false_iff.1 h).1,(Bool.or_eq_false_iff.1 h).2⟩
structure oU (E:Env P) where
 w:List (FuncId×jH E)
 r:List (FuncId×Vq E)
 u:List (FuncId×OA E)
 v:List (FuncId×E.Ty)
 i:List (FuncId×Func)
 h:List (FuncId×Hint E)
 b:List (FuncId×OC E)
 a:List (FuncId×Gq E)
 mix:P.follows .mixedOrders=true
 hw:I6 w
 hr:wL r
 hu:CW u
 hv:zC v
 hi:Eu P i
 hb:CX b
 ha:PY a
namespace oU
def O(q:oU E):aK E:=Xr (RA (Xo (ji q.w q.r q.u q.v) q.i q.h) q.b) q.a
theorem ok(q:oU E):aG E q.O:=ajT (ajS (ajQ (fI q.hw q.hr q.hu q.hv) q.mix q.hi) q.hb) q.ha
def e(m:P.follows .mixedOrders=true):oU E:=⟨[],[],[],[],[],[],[],[],m,.nil,.nil,.nil,.nil,.nil,.nil,.nil⟩
def W(q:oU E)(f:FuncId)(F:jH E)(k:bM E f F):oU E:={ q with w:=(f,F)::q.w,hw:=.cons k q.hw }
def R(q:oU E)(f:FuncId)(F:Vq E)(k:TD E f F):oU E:={ q with r:=(f,F)::q.r,hr:=.cons k q.hr }
def V(q:oU E)(f:FuncId)(t:E.Ty)(k:Lx E f t):oU E:={ q with v:=(f,t)::q.v,hv:=.cons k q.hv }
def B(q:oU E)(f:FuncId)(F:OC E)(k:Xp E f F):oU E:={ q with b:=(f,F)::q.b,hb:=.cons k q.hb }
def A(q:oU E)(f:FuncId)(F:Gq E)(k:AOk E f F):oU E:={ q with a:=(f,F)::q.a,ha:=.cons k q.ha }
def I (q:oU E) (f:FuncId) {fn:Func} (k:P.funcs[f]? = some fn) (h:List (FuncId×Hint E):=[]) (n:(fn.name == "runtime.NumGoroutine" || fn.body.isNone)=false:=by kernel_rfl):oU E:={ q with i:=(f,fn)::q.i,h:=h++q.h,hi:=.cons k (Ce k n).2.1 (Ce k n).2.2 q.hi }
def or(p q:oU E):oU E:=⟨p.w++q.w,p.r++q.r,p.u++q.u,p.v++q.v,p.i++q.i,p.h++q.h,p.b++q.b,p.a++q.a,p.mix,fun x h=>(List.mem_append.1 h).elim (p.hw x) (q.hw x),fun x h=>(List.mem_append.1 h).elim (p.hr x) (q.hr x),fun x h=>(List.mem_append.1 h).elim (p.hu x) (q.hu x),fun x h=>(List.mem_append.1 h).elim (p.hv x) (q.hv x),fun x h=>(List.mem_append.1 h).elim (p.hi x) (q.hi x),fun x h=>(List.mem_append.1 h).elim (p.hb x) (q.hb x),fun x h=>(List.mem_append.1 h).elim (p.ha x) (q.ha x)⟩
theorem top(q:oU E){f:FuncId}{F:jH E}(h:q.w=(f,F)::q.w.tail):bM E f F:=q.hw (f,F) (by rw[h];exact ab1)
section
variable (q:oU E) (f:FuncId) (ps rs:List E.Ty) {fn:Func} {σ:Type}
def f0 (t:Args E ps->Te (Args E rs) Empty) (e:P.funcs[f]? = some fn) (H:Hint E:={}) (n:(fn.name == "runtime.NumGoroutine" || fn.body.isNone)=false:=by kernel_rfl) (k:∀a G,CS q.O H G fn (iA ps a)=(t a).run (Option (List (TV E))) (fun r=>some (iA rs r)) (fun e=>nomatch e) none:=by intro a G;kernel_rfl):oU E :=
 q.W f (LH ps rs fun a=>(t a).o) (YK (Ce e n) fun a _ h=>I5 q.ok q.mix e ((k a _).trans (Te.ae9 h)))
def fl (t:Tree (Args E rs) σ) (st:Args E ps->σ) (C:σ->Hd E) (H:Hint E) (e:P.funcs[f]? = some fn) (n:(fn.name == "runtime.NumGoroutine" || fn.body.isNone)=false:=by kernel_rfl) (k:∀s G,Fg .fn q.O H G fn (C s)=(t s).run (Option (List (TV E))) (fun r=>some (iA rs r)) (fun s=>gH .fn q.O H G fn (C s)) none:=by intro s G;cases s<;>kernel_rfl) (hs:∀a,C (st a) = .e (iA ps a):=by intro _;rfl):oU E :=
 q.W f (LH ps rs fun a=>mu t (st a)) (Runs.fn (enc:=iA rs) ⟨k⟩ q.ok q.mix (Ce e n) hs fun _ r h=>⟨r,h,rfl⟩)
def b0 (b:E.Ty) (t:E.Den b->Args E ps->Te (E.Den b×Args E rs) Empty) (e:P.funcs[f]? = some fn) (H:Hint E:={ own:=1 }) (n:(fn.name == "runtime.NumGoroutine" || fn.body.isNone)=false:=by kernel_rfl) (o:0<H.own:=by decide) (k:∀x a G,Rx q.O H G fn b x (iA ps a)=(t x a).run (Option (List (TV E))) (fun r=>some (⟨b,r.1⟩::iA rs r.2)) (fun e=>nomatch e) none:=by intro x a G;kernel_rfl):oU E :=
 q.B f (bxG b ps rs fun x a=>(t x a).o) ⟨⟨fn,Ce e n⟩,fun(x:E.Den b) l y res h=>by
  simp only[bxG]at h;split at h
  ·rename_i a ha;rw[Gs _ _ _ ha];cases hm:(t x a).o with
   | none=>rw[hm]at h;cases h
   | some r =>rw[hm]at h;cases h;exact OB q.ok q.mix o e ((k x a _).trans (Te.ae9 hm))
  ·cases h⟩
def c0 (sh:List (rX E)) (t:Args E (um sh)->Te (Args E rs) Empty) (e:P.funcs[f]? = some fn) (H:Hint E:={}) (n:(fn.name == "runtime.NumGoroutine" || fn.body.isNone)=false:=by kernel_rfl) (k:∀a G,Xq q.O H G fn (I8 sh (iA (um sh) a))=(t a).run (Option (List (TV E))) (fun r=>some (iA rs r)) (fun e=>nomatch e) none:=by intro a G;kernel_rfl):oU E :=
 q.A f (fnP sh rs fun a=>(t a).o) (aok (Ce e n) fun a _ h=>Vv q.ok q.mix e ((k a _).trans (Te.ae9 h)))
def cl (sh:List (rX E)) (t:Tree (Args E rs) σ) (st:Args E (um sh)->σ) (C:σ->Hd E) (H:Hint E) (e:P.funcs[f]? = some fn) (n:(fn.name == "runtime.NumGoroutine" || fn.body.isNone)=false:=by kernel_rfl) (k:∀s G,Fg .fn q.O H G fn (C s)=(t s).run (Option (List (TV E))) (fun r=>some (iA rs r)) (fun s=>gH .fn q.O H G fn (C s)) none:=by intro s G;cases s<;>kernel_rfl) (hs:∀a,C (st a) = .c (I8 sh (iA (um sh) a)):=by intro _;rfl):oU E :=
 q.A f (fnP sh rs fun a=>mu t (st a)) (Runs.cl (enc:=iA rs) ⟨k⟩ q.ok q.mix (Ce e n) hs fun _ r h=>⟨r,h,rfl⟩)
def fr (l:Nat->Args E ps->Option (Args E rs)) (t:(Args E ps->Option (Args E rs))->Tree (Args E rs) σ) (st:Args E ps->σ) (C:σ->Hd E) (H:Hint E) (e:P.funcs[f]? = some fn) (n:(fn.name == "runtime.NumGoroutine" || fn.body.isNone)=false:=by kernel_rfl) (k:∀S s G,Fg .fn (Xr (RA (Xo (ji ((f,LH ps rs S)::q.w) q.r q.u q.v) q.i q.h) q.b) q.a) H G fn (C s)=(t S s).run (Option (List (TV E))) (fun r=>some (iA rs r)) (fun s=>gH .fn (Xr (RA (Xo (ji ((f,LH ps rs S)::q.w) q.r q.u q.v) q.i q.h) q.b) q.a) H G fn (C s)) none:=by intro S s G;cases s<;>kernel_rfl) (hs:∀a,C (st a) = .e (iA ps a):=by intro _;rfl) (h0:∀a,l 0 a=none:=by intro _;rfl) (h1:∀n a,l (n+1) a=mu (t (l n)) (st a):=by intro _ _;rfl):oU E :=
 q.W f (LH ps rs (l sH)) (Nat.rec (motive:=fun n=>bM E f (LH ps rs (l n))) ((funext h0:l 0=fun _=>none)▸ajU ⟨fn,Ce e n⟩) (fun m ih=>(funext (h1 m):l (m+1)=fun a=>mu (t (l m)) (st a))▸Runs.fn (enc:=iA rs) ⟨k (l m)⟩ (q.W f _ ih).ok q.mix (Ce e n) hs fun _ r h=>⟨r,h,rfl⟩) sH)
end
end oU
end
section
variable {P:Program} {Ty:Type} {Den:Ty->Type} {T:TypeId} {t:Ty} {cells:Den t->List (bE Den)} {q:(Den t->Den t->Bool)×(Den t->Bool)}
theorem CY(s:alJ):(⟨s.toArray⟩:ByteArray).size=s.length:=by simp[ByteArray.size]
theorem ajV{e:TypeId}(A:WideMaps.ArrKey P T e 2)(he:P.underlying e=some .string)(hsz:∃m,P.types.size=m+1)(f g:Den t->alJ)(hi:∀x y,f x=f y->g x=g y->x=y)(hc:∀x,cells x=[.str (f x),.str (g x)])
  (h1:∀x y,q.1 x y=(f x==f y&&g x==g y)) (h2:∀x,q.2 x=(decide ((f x).length<=maxLen)&&decide ((g x).length<=maxLen))):ad2 P Den T true t cells q where
 keyed:=Maps.Keyed.of_law A.law
 eq:=fun x y=>by rw[h1,ach,beq_iff_eq,beq_iff_eq];exact⟨fun h=>hi x y h.1 h.2,fun e=>by rw[e];exact⟨rfl,rfl⟩⟩
 flat:=fun x=>by rw[hc];rfl
 inj:=fun x y h=>by
  rw[hc,hc]at h;injection h with ha hb
  injection hb with hb _
  injection ha with ha
  injection hb with hb
  exact hi x y ha hb
 lit:=fun x h=>by
  rw[h2,ach,acJ,acJ]at h;have ha:(⟨(f x).toArray⟩:ByteArray).size<=maxLen:=by rw[CY];exact acy h.1 (by decide)
  have hb:(⟨(g x).toArray⟩:ByteArray).size<=maxLen:=by rw[CY];exact acy h.2 (by decide)
  rw[hc];have hkt:=A.keyType hsz;obtain⟨m,hm⟩:=hsz;refine⟨.string (keyBytes [.string (f x),.string (g x)]),?_⟩;show keyOf P T (.agg #[.string ⟨(f x).toArray⟩,.string ⟨(g x).toArray⟩])=_;unfold keyOf;simp only[A.hu];rw[if_pos (by simp[hkt,Value.formed,A.hu,A.size]),hm];unfold Program.keyLits;simp only[A.hu,Value.cells];rw[if_pos (by rw[A.size];rfl),show List.range 2=[0,1]from rfl,List.mapM_cons,List.mapM_cons,List.mapM_nil];simp[A.one,Program.keyLits,he,ha,hb]
end
end Go.Proofs.YtibpdjmikfmmaaaGreat.bB
namespace Go.Proofs
open Go.Shelf
def Tryz.lays190_ren:Go.Shelf.Ren:=⟨fun | 190=>56 | 125=>69 | 258=>68 | 128=>99 | 129=>100 | 302=>90 | 303=>91 | 304=>92 | 305=>93 | 306=>94 | 307=>95 | 308=>96 | 309=>97 | 310=>98 | 333=>116 | 329=>117 | 330=>118 | 334=>119 | 335=>120 | 336=>121 | 344=>130 | n=>n,fun | 31=>27 | 9=>9 | 3=>3 | 46=>91 | 0=>0 | 51=>121 | 53=>123 | 4=>4 | 183=>114 | 182=>113 | 131=>110 | 5=>5 | 218=>137 | 222=>141 | 228=>152 | 229=>153 | n=>n,fun | n=>n⟩
theorem Tryz.lays190:Go.Proofs.Lays.n190 Tryz.prog Tryz.lays190_ren:={
 mixed:=by kernel_rfl
 f125:=Tryz.func69.trans (congrArg some (by kernel_rfl))
 f128:=Tryz.func99.trans (congrArg some (by kernel_rfl))
 f129:=Tryz.func100.trans (congrArg some (by kernel_rfl))
 f190:=Tryz.func56.trans (congrArg some (by kernel_rfl))
 f258:=Tryz.func68.trans (congrArg some (by kernel_rfl))
 f302:=Tryz.func90.trans (congrArg some (by kernel_rfl))
 f303:=Tryz.func91.trans (congrArg some (by kernel_rfl))
 f304:=Tryz.func92.trans (congrArg some (by kernel_rfl))
 f305:=Tryz.func93.trans (congrArg some (by kernel_rfl))
 f306:=Tryz.func94.trans (congrArg some (by kernel_rfl))
 f307:=Tryz.func95.trans (congrArg some (by kernel_rfl))
 f308:=Tryz.func96.trans (congrArg some (by kernel_rfl))
 f309:=Tryz.func97.trans (congrArg some (by kernel_rfl))
 f310:=Tryz.func98.trans (congrArg some (by kernel_rfl))
 f329:=Tryz.func117.trans (congrArg some (by kernel_rfl))
 f330:=Tryz.func118.trans (congrArg some (by kernel_rfl))
 f333:=Tryz.func116.trans (congrArg some (by kernel_rfl))
 f334:=Tryz.func119.trans (congrArg some (by kernel_rfl))
 f335:=Tryz.func120.trans (congrArg some (by kernel_rfl))
 f336:=Tryz.func121.trans (congrArg some (by kernel_rfl))
 f344:=Tryz.func130.trans (congrArg some (by kernel_rfl))
 t0:=Tryz.underlying0
 a0:=Tryz.isAgg0
 z0:=Tryz.sizeOf0
 v0:=Tryz.zeroValue0
 t3:=Tryz.underlying3
 a3:=Tryz.isAgg3
 z3:=Tryz.sizeOf3
 v3:=Tryz.zeroValue3
 t4:=Tryz.underlying4
 a4:=Tryz.isAgg4
 z4:=Tryz.sizeOf4
 v4:=Tryz.zeroValue4
 t5:=Tryz.underlying5
 a5:=Tryz.isAgg5
 z5:=Tryz.sizeOf5
 v5:=Tryz.zeroValue5
 t9:=Tryz.underlying9
 a9:=Tryz.isAgg9
 z9:=Tryz.sizeOf9
 v9:=Tryz.zeroValue9
 t31:=Tryz.underlying27
 a31:=Tryz.isAgg27
 z31:=Tryz.sizeOf27
 v31:=Tryz.zeroValue27
 t46:=Tryz.underlying91
 a46:=Tryz.isAgg91
 z46:=Tryz.sizeOf91
 v46:=Tryz.zeroValue91
 t51:=Tryz.underlying121
 a51:=Tryz.isAgg121
 z51:=Tryz.sizeOf121
 v51:=Tryz.zeroValue121
 t53:=Tryz.underlying123
 a53:=Tryz.isAgg123
 z53:=Tryz.sizeOf123
 v53:=Tryz.zeroValue123
 t131:=Tryz.underlying110
 a131:=Tryz.isAgg110
 z131:=Tryz.sizeOf110
 v131:=Tryz.zeroValue110
 t182:=Tryz.underlying113
 a182:=Tryz.isAgg113
 z182:=Tryz.sizeOf113
 v182:=Tryz.zeroValue113
 t183:=Tryz.underlying114
 a183:=Tryz.isAgg114
 z183:=Tryz.sizeOf114
 v183:=Tryz.zeroValue114
 t218:=Tryz.underlying137
 a218:=Tryz.isAgg137
 z218:=Tryz.sizeOf137
 v218:=Tryz.zeroValue137
 t222:=Tryz.underlying141
 a222:=Tryz.isAgg141
 z222:=Tryz.sizeOf141
 v222:=Tryz.zeroValue141
 t228:=Tryz.underlying152
 a228:=Tryz.isAgg152
 z228:=Tryz.sizeOf152
 v228:=Tryz.zeroValue152
 t229:=Tryz.underlying153
 a229:=Tryz.isAgg153
 z229:=Tryz.sizeOf153
 v229:=Tryz.zeroValue153 }
open Go.Sort Go.RowKit in
theorem Tryz.slices_Sort_string(blk off cap:Nat)(ss:List (alJ))(w:World)(hH:Holds encStr w blk off ss.toArray)(hblk:blk<w.heap.size)(hsz:ss.length<4611686018427387904) :
  Calls Tryz.prog 56 #[.slice (some ⟨blk,off,none⟩) ss.length cap] w fun e w' =>e = .returned (.tuple #[])/\∃n os,w'=grow (putRow encStr (Sort.ahead w n) blk off (ss.mergeSort fun x y=>decide (x<=y)).toArray) os:=Any.slices_Sort_string Tryz.lays190 blk off cap ss w hH hblk hsz
def Tryz.lays194_ren:Go.Shelf.Ren:=⟨fun | 194=>57 | n=>n,fun | 31=>27 | 9=>9 | 3=>3 | 4=>4 | 0=>0 | n=>n,fun | n=>n⟩
theorem Tryz.lays194:Go.Proofs.Lays.n194 Tryz.prog Tryz.lays194_ren:={
 mixed:=by kernel_rfl
 f194:=Tryz.func57.trans (congrArg some (by kernel_rfl))
 t0:=Tryz.underlying0
 a0:=Tryz.isAgg0
 z0:=Tryz.sizeOf0
 v0:=Tryz.zeroValue0
 t3:=Tryz.underlying3
 a3:=Tryz.isAgg3
 z3:=Tryz.sizeOf3
 v3:=Tryz.zeroValue3
 t4:=Tryz.underlying4
 a4:=Tryz.isAgg4
 z4:=Tryz.sizeOf4
 v4:=Tryz.zeroValue4
 t9:=Tryz.underlying9
 a9:=Tryz.isAgg9
 z9:=Tryz.sizeOf9
 v9:=Tryz.zeroValue9
 t31:=Tryz.underlying27
 a31:=Tryz.isAgg27
 z31:=Tryz.sizeOf27
 v31:=Tryz.zeroValue27 }
open Go.RowKit Go.Lib Go.Sort in
theorem Tryz.slices_Compact_string(blk off cap:Nat)(zs:List (alJ))(w:World)(hH:Holds encStr w blk off zs.toArray)(hsz:zs.length<=9223372036854775807)(hcap:zs.length<=cap) :
  Calls Tryz.prog 57 #[.slice (some ⟨blk,off,none⟩) zs.length cap] w fun e w'=>e = .returned (.slice (some ⟨blk,off,none⟩) (Lib.compact zs).length cap)/\∃q,w'=putRow encStr (Sort.ahead w q) blk off (Lib.compact zs++List.replicate (zs.length-(Lib.compact zs).length) []).toArray:=Any.slices_Compact_string Tryz.lays194 blk off cap zs w hH hsz hcap
open Go.RowKit Go.Lib Go.Sort in
theorem Tryz.slices_Compact_string_empty(a:Option Addr)(cap:Nat)(w:World) :
  Calls Tryz.prog 57 #[.slice a 0 cap] w fun e w'=>e = .returned (.slice a 0 cap)/\w'=w:=Any.slices_Compact_string_empty Tryz.lays194 a cap w
open Go.RowKit Go.Sort in
theorem Tryz.slices_Sort_string_none(p:Option Addr)(cap:Nat)(w:World) :
  Calls Tryz.prog 56 #[.slice p 0 cap] w fun e w'=>e = .returned (.tuple #[])/\w'=w:=Any.slices_Sort_string_none Tryz.lays190 p cap w
end Go.Proofs
namespace Go.Proofs.YtibpdjmikfmmaaaGreat.Pl
open Go
abbrev Str:=alJ
theorem CZ(a:Str):¬ a<a:=List.lt_irrefl a
theorem aco{a b c:Str}(h:a<b)(h':b<c):a<c:=List.lt_trans h h'
theorem acp{a b:Str}(h:a<b):¬ b<a:=fun h'=>CZ a (aco h h')
theorem P5{a b:Str}:a<=b↔¬ b<a:=Iff.rfl
theorem apS(a b:Str):a<b\/a=b\/b<a:=by
 by_cases h:a<b
 ·exact .inl h
 ·by_cases h':b<a
  ·exact .inr (.inr h')
  ·exact .inr (.inl (List.le_antisymm h' h))
theorem RG{a b c:Str}(h:a<=b)(h':b<=c):a<=c:=List.le_trans h h'
theorem Km{a b:Str}(h:a<=b)(hn:a≠b):a<b:=by
 rcases apS a b with h1 | h1 | h1
 ·exact h1
 ·exact absurd h1 hn
 ·exact absurd h1 h
def SS(l:List Str):Prop:=l.Pairwise (· < ·)
theorem Vw:∀{l m:List Str},SS l->SS m->(∀x,x∈l↔x∈m)->l=m
 | [],[],_,_,_=>rfl
 | [],b::m,_,_,h=>by have:=(h b).2 ab1;cases this
 | a::l,[],_,_,h=>by have:=(h a).1 ab1;cases this
 | a::l,b::m,hl,hm,h=>by
  have hl':=List.pairwise_cons.1 hl;have hm':=List.pairwise_cons.1 hm;have e:a=b:=by
   have h1:=(h a).1 ab1;have h2:=(h b).2 ab1;rcases List.mem_cons.1 h1 with h1 | h1
   ·exact h1
   ·rcases List.mem_cons.1 h2 with h2 | h2
    ·exact h2.symm
    ·exact absurd (hm'.1 a h1) (acp (hl'.1 b h2))
  subst e;rw[Vw hl'.2 hm'.2 fun x=>⟨fun hx=>?_,fun hx=>?_⟩]
  ·rcases List.mem_cons.1 ((h x).1 (aav _ hx))with e | e
   ·subst e;exact absurd (hl'.1 x hx) (CZ x)
   ·exact e
  ·rcases List.mem_cons.1 ((h x).2 (aav _ hx))with e | e
   ·subst e;exact absurd (hm'.1 x hx) (CZ x)
   ·exact e
def lS(p:Str):List Str->List Str
 | []=>[]
 | a::t=>if a=p then lS a t else a::lS a t
theorem OE:∀(l:List Str) (p x:Str),lS p (l++[x])=lS p l++(if x=(p::l).getLastD p then[]else[x])
 | [],p,x=>by simp[lS]
 | a::t,p,x=>by
  have ih:=OE t a x;have e:(p::a::t).getLastD p=(a::t).getLastD a:=by cases t<;>simp[List.getLastD]
  simp only[adh,lS,ih,e];split<;>simp
theorem LK(a:Str)(t:List Str):Lib.compact (a::t)=a::lS a t:=by
 have key:∀m,m<=t.length->Lib.compactUpTo (a::t).toArray (m+1)=a::lS a (t.take m):=by
  intro m
  induction m with
  | zero =>intro _;rw[Lib.compactUpTo_succ,Lib.keeps_lt_one _ 0 (by decide)];simp[Lib.compactUpTo,lS]
  | succ m ih =>
   intro hm;have hlt:m<t.length:=by omega
   have e1:(a::t).toArray[m+1]! = t[m]:=by simp[hlt]
   have e2:(a::t).toArray[m+1-1]! = (a::t.take m).getLastD a:=by
    cases m with
    | zero=>simp
    | succ k =>
     have hk:k<t.length:=by omega
     have:(a::t.take (k+1)).getLastD a=t[k]:=by rw[show a::t.take (k+1)=(a::t.take k)++[t[k]]from by rw[adh,List.take_append_getElem hk],List.getLastD_eq_getLast?,List.getLast?_concat];rfl
     rw[this];simp[hk]
   rw[Lib.compactUpTo_succ,ih (by omega),<- List.take_append_getElem hlt,OE,<- e2,e1];by_cases hx:t[m]=(a::t).toArray[m+1-1]!
   ·rw[Lib.keeps_neg (by omega) (by rw[e1];exact hx),if_pos hx];simp
   ·rw[Lib.keeps_pos (by rw[e1];exact hx),if_neg hx];simp
 have h:=key t.length (acM _);rw[List.take_length]at h;exact h
theorem OG:∀(l:List Str) (p:Str),(p::l).Pairwise (· <= ·)->SS (p::lS p l)/\∀x,x∈p::lS p l↔x∈p::l
 | [],p,_=>⟨by simp[SS,lS],fun x=>by simp[lS]⟩
 | a::t,p,h=>by
  have h1:=List.pairwise_cons.1 h;obtain⟨i1,i2⟩:=OG t a h1.2;unfold lS;split
  ·rename_i e;subst e;refine⟨i1,fun x=>?_⟩;rw[i2 x];simp
  ·rename_i hne;have hpa:p<a:=Km (h1.1 a ab1) (fun e=>hne e.symm);refine⟨List.pairwise_cons.2 ⟨fun x hx=>?_,i1⟩,fun x=>?_⟩
   ·rcases List.mem_cons.1 hx with e | e
    ·subst e;exact hpa
    ·exact aco hpa ((List.pairwise_cons.1 i1).1 x e)
   ·rw[List.mem_cons,i2 x,List.mem_cons (b:=p)]
theorem RH:∀(l:List Str) (p:Str),(lS p l).length<=l.length
 | [],_=>acM _
 | a::t,p=>by
  have:=RH t a;unfold lS;split
  ·simp only[acj];omega
  ·simp only[acj];omega
def o7(l:List Str):List Str:=l.mergeSort fun x y=>decide (x<=y)
def bq(l:List Str):List Str:=Lib.compact (o7 l)
theorem ajW(l:List Str):(o7 l).Pairwise (· <= ·):=by
 have h:=List.pairwise_mergeSort (le:=fun x y:Str=>decide (x<=y)) (fun a b c h h'=>by
  simp only[acJ]at *;exact RG h h') (fun a b=>by
  simp only[alC,acJ];exact List.le_total a b) l
 exact h.imp (fun h=>by simpa using h)
theorem ag6{l:List Str}{x:Str}:x∈o7 l↔x∈l:=List.mem_mergeSort
theorem LM(l:List Str):(o7 l).length=l.length:=List.length_mergeSort l
theorem qM(l:List Str):SS (bq l)/\∀x,x∈bq l↔x∈l:=by
 have hp:=ajW l;have hm:∀x,x∈o7 l↔x∈l:=fun x=>ag6
 unfold bq;generalize o7 l=m at hp hm;cases m with
 | nil=>exact⟨List.Pairwise.nil,hm⟩
 | cons a t =>rw[LK];obtain⟨h1,h2⟩:=OG t a hp;exact⟨h1,fun x=>(h2 x).trans (hm x)⟩
theorem ig{l:List Str}{x:Str}:x∈bq l↔x∈l:=(qM l).2 x
theorem wM{l m:List Str}(hs:SS m)(h:∀x,x∈m↔x∈l):bq l=m:=Vw (qM l).1 hs fun x=>(ig).trans (h x).symm
theorem OH(l:List Str):(Lib.compact l).length<=l.length:=by
 cases l with
 | nil=>exact acM _
 | cons a t =>rw[LK];have:=RH t a;simp only[acj];omega
theorem qE(l:List Str):(bq l).length<=l.length:=by have:=OH (o7 l);rw[LM]at this;exact this
end Go.Proofs.YtibpdjmikfmmaaaGreat.Pl
namespace Go.Proofs.YtibpdjmikfmmaaaGreat.Pl
end Go.Proofs.YtibpdjmikfmmaaaGreat.Pl
