/- 'SchemaServices' of chapter 19, closed: what the law's function computes (by the Mirror) gives the given statement, without conditions. -/
import Derived.Test.YtclnniijooeajaaGreatDoorSw1
import Derived.Test.YtclnniijooeajaaGreatDoorSw8
import Derived.Test.YtclnniijooeajaaGreatDoorSw5
import Derived.Test.YtclnniijooeajaaGreatDoorSw3
import Derived.Deep.Slices
import Derived.ChangeSame
import Derived.ChangeArms
import Derived.Test.YtclnniijooeajaaGreatDoorCards
import Derived.Test.YtclnniijooeajaaGreatDoorTie
import Derived.WalkKit
import Derived.ProofKit
import Derived.OpenShut
import Derived.ChangeOld
import Derived.Below
import Derived.Carry
import Derived.Lay
import Derived.LaidMore
import Derived.SevenTiedAt
import Derived.Stop.Joined
noncomputable section
namespace Go.Proofs.YtclnniijooeajaaGreatDoor.Rf
open Go Go.RowKit Go.Sort Go.Proofs.YtclnniijooeajaaGreatDoor.bg
section
theorem aBB(n:Node):wg 10000 11 (RN n)=true:=by simp[wg,RN,dx,fD]
theorem Rj{ks L:List (aqO)}(hk:ks.Nodup)(hL:L.Nodup):((L.filter (fun k=>eF ks k)).length=ks.length)↔(ks.all fun k=>eF L k)=true:=by
 have hF:(L.filter (fun k=>eF ks k)).Nodup:=hL.filter _;have hFk:∀x∈L.filter (fun k=>eF ks k),x∈ks:=fun x hx=>jm.1 (List.mem_filter.1 hx).2
 have hle:=ML _ ks hF hFk;rw[ahn];constructor
 ·intro he k hkm;cases hb:eF L k with
  | true=>rfl
  | false =>
   exfalso;have hnL:k∉L:=fun h=>by rw[jm.2 h]at hb;cases hb
   have:=ML _ (ks.erase k) hF fun x hx=>(List.mem_erase_of_ne (fun e=>by subst e;exact hnL (List.mem_filter.1 hx).1)).2 (hFk x hx)
   grind
 ·intro ha;have:=ML ks _ hk fun x hx=>List.mem_filter.2 ⟨jm.1 (ha x hx),jm.2 hx⟩
  omega
theorem qC{m:Node}(h3:m.kind=3)(hl:m.keys.length=m.kids.length)(k:aqO):aD m k=eF m.keys k:=by unfold aD get;rw[if_pos h3];exact oJ hl
theorem lf3{m:Node}(h3:m.kind=3)(hl:m.keys.length=m.kids.length)(hn:m.keys.Nodup):(lfV m==0)=dY m [cK,sK,rK]:=by
 have h:=Rj hn (show([cK,sK,rK]:List (aqO)).Nodup by decide);have e:(([cK,sK,rK].filter fun k=>eF m.keys k).length:Int)=(b2 (eF m.keys cK)+b2 (eF m.keys sK))+b2 (eF m.keys rK):=by cases h1:eF m.keys cK<;>cases h2:eF m.keys sK<;>cases h4:eF m.keys rK<;>simp[List.filter,h1,h2,h4,b2]
 unfold lfV dY;rw[qC h3 hl,qC h3 hl,qC h3 hl,nK h3,cond_false];grind
def tf(s:aqO):Bool:=(s==jU)||(s==ow)
def co(s:aqO):Bool:=((s==lZ)||(s==Uy))||(s==Uz)
theorem I4(s:aqO):OC s = !(tf s):=by unfold OC tf;cases s==jU<;>cases s==ow<;>rfl
theorem ajX(s:aqO):nco s = !(co s):=by unfold nco co;cases s==lZ<;>cases s==Uy<;>cases s==Uz<;>rfl
theorem Vg(m:Node)(k o:aqO):Jr m k o=(bT m k []&&tf (aM m k o)):=by have e:Jr m k o=(bif bT m k []then(bif aM m k o==jU then true else aM m k o==ow)else false):=rfl;rw[e];unfold tf;grind
theorem aCO{m:Node}(h3:m.kind=3):(!(bdV m))=(bif(bif(bif bT m cK lZ then Jr m sK ow else false)then Jr m rK jU else false)then(bif(bif aM m cK lZ==lZ then true else aM m cK lZ==Uy)then true else aM m cK lZ==Uz)else false):=by
 have e1:bT m cK lZ=bT m cK []:=rfl;have e2:(bif(bif aM m cK lZ==lZ then true else aM m cK lZ==Uy)then true else aM m cK lZ==Uz)=co (aM m cK lZ):=by unfold co;grind
 rw[e1,e2,Vg,Vg];unfold bdV;rw[nK h3,I4,I4,ajX];grind
def Ky(y:Node):Prop:=(y.kind=0->y=zn)/\(y.kind=3->y.keys.length=y.kids.length/\y.keys.Nodup)
theorem Ky.zn:Ky zn:=⟨fun _=>rfl,fun h=>by cases h⟩
theorem aBC{y:Node}(h0:y.kind≠0):em y=y:=by unfold em;rw[eT h0];rfl
theorem azg{y:Node}(h0:y.kind=0):em y=⟨3,[],[],[]⟩:=by unfold em;rw[iU h0];rfl
theorem Ky.em{y:Node}(h:Ky y):((em y).kind=3->(em y).keys.length=(em y).kids.length/\(em y).keys.Nodup):=by
 by_cases h0:y.kind=0
 ·rw[azg h0];exact fun _=>⟨rfl,anu⟩
 ·rw[aBC h0];exact h.2
theorem anC{s:aqO}(h:tf s=true):fD (s==jU)=bI s:=by
 unfold tf at h;cases h1:s==jU with
 | true =>
  have:s=jU:=by simpa using h1
  subst this;rfl
 | false =>
  rw[h1,ajH]at h;have:s=ow:=by simpa using h
  subst this;rfl
theorem Zg{y:Node}(h:JA y=true):(em y).kind=3/\co (aM (em y) cK lZ)=true/\tf (aM (em y) sK ow)=true/\tf (aM (em y) rK jU)=true:=by unfold JA at h;rw[abj,ajC]at h;have hb:=h.1;unfold bdV at hb;rw[I4,I4,ajX]at hb;grind
theorem axi{y:Node}(hy:Ky y):JA y=Js y/\(JA y=true->RN y=Lv y):=by
 by_cases h3:(em y).kind=3
 ·obtain⟨hl,hn⟩:=hy.em h3;have e:=lf3 h3 hl hn;have eb:JA y=Js y:=by
   unfold JA Js;rw[e,aCO h3];grind
  refine⟨eb,fun hb=>?_⟩;obtain⟨_,_,q2,q3⟩:=Zg hb;have ho:dY (em y) [cK,sK,rK]=true:=by rw[eb]at hb;unfold Js at hb;grind
  unfold RN Lv;rw[ho,anC q2,anC q3];rfl
 ·have o:dY (em y) [cK,sK,rK]=false:=by unfold dY;rw[kr h3];rfl
  have b:JA y=false:=by unfold JA bdV;rw[kr h3];rfl
  refine⟨by rw[b];unfold Js;rw[o];rfl,fun h=>by rw[b]at h;cases h⟩
def GL(y:Node):Prop:=JA y=true/\RN y=y
theorem anD(b:Bool):(Bl b==jU)=b:=by cases b<;>rfl
theorem ath(b:Bool):tf (Bl b)=true:=by cases b<;>rfl
theorem avT{c:aqO}(hc:co c=true)(r s:Bool):GL ⟨3,[],[cK,rK,sK],[dx c,fD r,fD s]⟩:=by
 have em_:em (⟨3,[],[cK,rK,sK],[dx c,fD r,fD s]⟩:Node)=⟨3,[],[cK,rK,sK],[dx c,fD r,fD s]⟩:=rfl;have g1:aD (⟨3,[],[cK,rK,sK],[dx c,fD r,fD s]⟩:Node) cK=true:=rfl;have g2:aD (⟨3,[],[cK,rK,sK],[dx c,fD r,fD s]⟩:Node) rK=true:=rfl;have g3:aD (⟨3,[],[cK,rK,sK],[dx c,fD r,fD s]⟩:Node) sK=true:=rfl;have v1:aJ (⟨3,[],[cK,rK,sK],[dx c,fD r,fD s]⟩:Node) cK=dx c:=rfl;have v2:aJ (⟨3,[],[cK,rK,sK],[dx c,fD r,fD s]⟩:Node) rK=fD r:=rfl;have v3:aJ (⟨3,[],[cK,rK,sK],[dx c,fD r,fD s]⟩:Node) sK=fD s:=rfl;have f1:∀o,aM (⟨3,[],[cK,rK,sK],[dx c,fD r,fD s]⟩:Node) cK o=c:=fun o=>by unfold aM;rw[g1,v1];rfl
 have f2:∀o,aM (⟨3,[],[cK,rK,sK],[dx c,fD r,fD s]⟩:Node) rK o=Bl r:=fun o=>by unfold aM;rw[g2,v2];rfl
 have f3:∀o,aM (⟨3,[],[cK,rK,sK],[dx c,fD r,fD s]⟩:Node) sK o=Bl s:=fun o=>by unfold aM;rw[g3,v3];rfl
 constructor
 ·unfold JA bdV lfV;rw[em_,f1,f2,f3,I4,I4,ajX,ath,ath,hc,g1,g2,g3];unfold bT;rw[g1,g2,g3,v1,v2,v3];rfl
 ·unfold RN;rw[em_,f1,f2,f3,anD,anD]
theorem aCP{y:Node}(h:JA y=true):GL (RN y):=avT (Zg h).2.1 _ _
theorem azh(y:Node)(h:GL y):wg 10000 11 y=true/\kd 11 y=true:=by rw[<- h.2];exact⟨aBB y,by simp[kd,RN,dx,fD]⟩
theorem aBD:Pl.bA [cK,rK,sK]=[cK,rK,sK]:=Pl.xw (by unfold Pl.SS;decide) fun _=>Iff.rfl
theorem ajY(y:Node)(h:GL y):aQ 11 y=y:=by
 have e:∀a b c:Node,aQ 10 a=a->aQ 10 b=b->aQ 10 c=c->aQ 11 (⟨3,[],[cK,rK,sK],[a,b,c]⟩:Node)=⟨3,[],[cK,rK,sK],[a,b,c]⟩:=by intro a b c h1 h2 h3;have e1:aQ 11 (⟨3,[],[cK,rK,sK],[a,b,c]⟩:Node)=⟨3,[],Pl.bA [cK,rK,sK],(Pl.bA [cK,rK,sK]).map fun k=>aQ 10 (aJ ⟨3,[],[cK,rK,sK],[a,b,c]⟩ k)⟩:=rfl;have v1:aJ (⟨3,[],[cK,rK,sK],[a,b,c]⟩:Node) cK=a:=rfl;have v2:aJ (⟨3,[],[cK,rK,sK],[a,b,c]⟩:Node) rK=b:=rfl;have v3:aJ (⟨3,[],[cK,rK,sK],[a,b,c]⟩:Node) sK=c:=rfl;rw[e1,aBD,aeH,aeH,aeH,aib,v1,v2,v3,h1,h2,h3]
 rw[<- h.2];exact e _ _ _ rfl rfl rfl
theorem anE{y:Node}(h:GL y):Ky y:=by rw[<- h.2];exact⟨(fun e=>by cases e),fun _=>⟨rfl,(by show[cK,rK,sK].Nodup;decide)⟩⟩
theorem avU{y:Node}(h:GL y):Js y=true/\Lv y=y:=by obtain⟨h1,h2⟩:=axi (anE h);exact⟨by rw[<- h1];exact h.1,by rw[<- h2 h.1];exact h.2⟩
theorem abq(f:aqO->Bool):∀(l:List (aqO)) (r:List Node) (o:Node),(pd f l r o true).2=true
 | [],_,_=>rfl
 | _::_,[],_=>rfl
 | _::t,_::r,_=>abq f t r _
theorem aqo(g:aqO->Bool)(l:List (aqO))(r:List Node)(o:Node):(rd g l r false o).2=false:=by
 cases l with
 | nil=>rfl
 | cons s t=>cases r<;>rfl
theorem axj{ψ:aqO->Prop}{f g:aqO->Bool}(hfg:∀s,f s=g s)(hψ:∀k,g k=true->ψ k):∀(l:List (aqO)) (r:List Node) (o:Node),(∀y∈r,Ky y)->Iv ψ GL o ->
  ((pd f l r o false).2=true/\(rd g l r true o).2=false)\/∃o',pd f l r o false=(o',false)/\rd g l r true o=(o',true)/\Iv ψ GL o'
 | [],_,o,_,h=>.inr ⟨o,by unfold pd;rfl,by unfold rd;rfl,h⟩
 | _::_,[],o,_,h=>.inr ⟨o,by unfold pd;rfl,by unfold rd;rfl,h⟩
 | s::t,y::r,o,hy,h=>by
  obtain⟨q1,q2⟩:=axi (hy y abd);unfold pd rd;rw[hfg,h.with_,cond_true,cond_false,<- q1];cases he:JA y with
  | false=>exact .inl ⟨abq f t r _,aqo g t r _⟩
  | true =>
   rw[<- q2 he];cases hg:g s with
   | false=>exact .inl ⟨abq f t r _,aqo g t r _⟩
   | true=>exact axj hfg hψ t r _ (fun z hz=>hy z (abb _ hz)) (h.put (hψ s hg) (aCP he))
theorem ati{g:aqO->Bool}:∀(ks:List (aqO)) (vs:List Node) (o:Node),ks.length=vs.length->ks.Nodup->(∀k∈ks,k∉o.keys)->(o.kind=0\/o.kind=3)->o.keys.length=o.kids.length->o.text=[] ->
  (∀k∈ks,g k=true)->(∀y∈vs,Js y=true/\Lv y=y)->∃o',rd g ks vs true o=(o',true)/\o'.text=[]/\o'.keys=o.keys++ks/\o'.kids=o.kids++vs
 | [],[],o,_,_,_,_,_,ht,_,_=>⟨o,by unfold rd;rfl,ht,by simp,by simp⟩
 | s::t,y::r,o,hl,hn,hd,hk,hlen,ht,hg,hv=>by
  have hn':=List.nodup_cons.1 hn;obtain⟨v1,v2⟩:=hv y abd;unfold rd;rw[hg s abd,v1,v2,cond_true,cond_true,Es hk hlen (hd s abd)];obtain⟨o',h1,h2,h3,h4⟩:=ati (g:=g) t r ⟨3,[],o.keys++[s],o.kids++[y]⟩ (by simpa using hl) hn'.2 (fun k hm hq=>by
    rcases List.mem_append.1 hq with hq | hq
    ·exact hd k (abb _ hm) hq
    ·rw[List.mem_singleton.1 hq]at hm;exact hn'.1 hm) (.inr rfl) (by simp[hlen]) rfl (fun k hm=>hg k (abb _ hm)) (fun z hz=>hv z (abb _ hz))
  grind
 | [],_::_,_,h,_,_,_,_,_,_,_=>by simp at h
 | _::_,[],_,h,_,_,_,_,_,_,_=>by simp at h
def Ge(n:Node):Prop:=(n.kind=3->n.keys.length=n.kids.length)/\∀y∈n.kids,Ky y
theorem anF{n:Node}(hn:Ge n):(dpV n=Lx n/\dpE n=(bif LA n then 0 else 10))/\(LA n=true->Sf (fun k=>cO gJ k=true) GL (Lx n)):=by
 have fin:∀(p q:Node×Bool),((p.2=true/\q.2=false)\/∃o,p=(o,false)/\q=(o,true)/\Iv (fun k=>cO gJ k=true) GL o) ->
   (DY p.1 p.2=eP q.1 q.2/\DZ p.1 p.2=(bif eO q.1 q.2 then 0 else 10))/\(eO q.1 q.2=true->Sf (fun k=>cO gJ k=true) GL (eP q.1 q.2)):=by
  rintro p q (⟨ha,hb⟩ | ⟨o,rfl,rfl,hi⟩)
  ·rw[ha,hb];exact⟨abo _,fun h=>by cases h⟩
  ·refine⟨hi.dn azh,fun hb=>?_⟩;have hb:eO o true=true:=hb;have h32:o.keys.length<=32:=by
    unfold eO at hb;grind
   have e:eP o true=aQ 12 (iG o):=by unfold eP;rw[hb];rfl
   show Sf _ _ (eP o true);rw[e];exact hi.form ajY h32
 have hm:qH n 3=BA n:=by
  unfold qH BA;by_cases h3:n.kind=3
  ·rw[hn.1 h3]
  ·rw[eT h3];rfl
 have hky:∀l, ∀y∈Bn n l,Ky y:=fun l y hy=>by
  unfold Bn at hy;by_cases h3:n.kind=3
  ·rw[iU h3]at hy;exact hn.2 y hy
  ·rw[eT h3,cond_false]at hy;obtain⟨_,_,rfl⟩:=List.mem_map.1 hy;exact Ky.zn
 have step:=fun(l:List (aqO))=>axj (ψ:=fun k=>cO gJ k=true) (f:=rU Bj yx) (g:=cO gJ) Bd (fun k h=>h) l (Bn n l) zn (hky l) Iv.nil
 unfold dpV dpE Lx LA;refine fin (dpP n) (rdP n) ?_;unfold dpP rdP dp0 D6 uD;rw[hm];cases hr:BA n with
 | true=>exact step n.keys
 | false =>
  simp only[cond_false];rw[Kh];cases ht:pY n with
  | false=>exact .inl ⟨abq _ _ _ _,aqo _ _ _ _⟩
  | true =>rw[Bg ht];exact step (bH n)
theorem atj{a:Node}(h:Sf (fun k=>cO gJ k=true) GL a):Lx a=a/\LA a=true:=by
 have hr:BA a=true:=by unfold BA;rw[iU h.kind,cond_true,dT (by have:=h.le;omega)]
 have hd:Bn a a.keys=a.kids:=by unfold Bn;rw[iU h.kind];rfl
 obtain⟨o',h1,h2,h3,h4⟩:=ati (g:=cO gJ) a.keys a.kids zn h.len (oK h.ss) (fun k _ h=>by cases h) (.inl rfl) rfl rfl h.key (fun y hy=>avU (h.kid y hy));unfold Lx LA rdP uD;rw[hr];simp only[cond_true];rw[hd,h1];exact IZ h ajY h2 (by rw[h3];rfl) (by rw[h4];rfl)
theorem lf2{m:Node}(h3:m.kind=3)(hl:m.keys.length=m.kids.length)(hn:m.keys.Nodup):(apY m==0)=dY m [iY,lS]:=by
 have h:=Rj hn (show([iY,lS]:List (aqO)).Nodup by decide);have e:(([iY,lS].filter fun k=>eF m.keys k).length:Int)=b2 (eF m.keys iY)+b2 (eF m.keys lS):=by cases h1:eF m.keys iY<;>cases h2:eF m.keys lS<;>simp[List.filter,h1,h2,b2]
 unfold apY dY;rw[qC h3 hl,qC h3 hl,nK h3,cond_false];grind
theorem azi(s:aqO):decide ((s.length:Int)<1)=(s==[]):=by
 cases s with
 | nil=>rfl
 | cons c t=>grind
theorem aCQ{m:Node}(h3:m.kind=3)(hl:m.keys.length=m.kids.length)(hn:m.keys.Nodup):Ng m=(bif !(dY m [iY,lS])then true else LB m):=by have e1:bT m lS xS=bT m lS []:=rfl;unfold Ng apX LB;rw[lf2 h3 hl hn,nK h3,Bd,azi,e1];grind
def exK(k:aqO):Prop:=k=iY\/k=lS
structure Gx (m:Node):Prop where
 text:m.kind=3->m.text=[]
 len:m.kind=3->m.keys.length=m.kids.length
 nd:m.kind=3->m.keys.Nodup
 wg_:wg 10000 12 m=true
 kd_:kd 12 m=true
 tx:∀y∈m.kids,y.kind=1->DT y
theorem abr{m:Node}(h:dY m [iY,lS]=true)(hn:m.kind=3->m.keys.Nodup):m.kind=3/\m.keys.length<=2/\∀k∈m.keys,exK k:=by
 unfold dY at h;by_cases h3:m.kind=3
 ·rw[nK h3,cond_false,ahn]at h;refine⟨h3,ML m.keys [iY,lS] (hn h3) fun k hk=>jm.1 (h k hk),fun k hk=>?_⟩;have:=jm.1 (h k hk);simpa[exK]using this
 ·rw[kr h3]at h;cases h
theorem avV{o:Node}(h3:o.kind=3)(hl:o.keys.length=o.kids.length)(k:aqO):get (aQ 12 o) k=(get o k).map (aQ 11):=by
 have e:aQ 12 o=⟨o.kind,o.text,Pl.bA o.keys,(Pl.bA o.keys).map fun k=>aQ 11 (aJ o k)⟩:=by show(bif o.kind==3 then _ else _)=_;rw[iU h3];rfl
 rw[e];show(if o.kind=3 then lk (Pl.bA o.keys) ((Pl.bA o.keys).map fun k=>aQ 11 (aJ o k)) k else none)=_;rw[if_pos h3];by_cases hk:k∈o.keys
 ·rw[ajQ _ _ (Pl.jN.2 hk)];obtain⟨v,hv⟩:=VU hl hk;have hg:get o k=some v:=by unfold get;rw[if_pos h3];exact hv
  unfold aJ;rw[hg];rfl
 ·have h1:get o k=none:=by
   unfold get;rw[if_pos h3];have:=oJ (k:=k) hl;rw[Vf hk]at this;cases hq:lk o.keys o.kids k with
   | none=>rfl
   | some v=>rw[hq]at this;cases this
  have h2:lk (Pl.bA o.keys) ((Pl.bA o.keys).map fun k=>aQ 11 (aJ o k)) k=none:=by
   have:=oJ (k:=k) (ks:=Pl.bA o.keys) (vs:=(Pl.bA o.keys).map fun k=>aQ 11 (aJ o k)) (by simp);rw[Vf (fun h=>hk (Pl.jN.1 h))]at this;cases hq:lk (Pl.bA o.keys) ((Pl.bA o.keys).map fun k=>aQ 11 (aJ o k)) k with
   | none=>rfl
   | some v=>rw[hq]at this;cases this
  rw[h1,h2];rfl
theorem Gx.kids{m:Node}(g:Gx m)(ho:dY m [iY,lS]=true)(hr:LB m=false):∀y∈m.kids,DT y:=by
 obtain⟨h3,hle,hk⟩:=abr ho g.nd;have hl:=g.len h3;have fs:bT m iY []=true/\bT m lS []=true:=by unfold LB at hr;have e1:bT m lS xS=bT m lS []:=rfl;grind
 intro y hy;obtain⟨i,hi,rfl⟩:=List.getElem_of_mem hy;have hik:i<m.keys.length:=by omega
 have hget:get m m.keys[i]=some m.kids[i]:=by
  unfold get;rw[if_pos h3];have hm:=Pg m.keys m.kids hl (g.nd h3);have:(m.keys.map fun k=>(lk m.keys m.kids k).getD zn)[i]? = m.kids[i]? := by rw[hm]
  rw[adT,aaz hik,aaz hi]at this;simp only[aji,Option.some.injEq]at this;obtain⟨v,hv⟩:=VU hl (aee hik);rw[hv]at this ⊢;rw[<- this];rfl
 have hkind:m.kids[i].kind=1:=by
  have hx:∀k:aqO,m.keys[i]=k->bT m k []=true->m.kids[i].kind=1:=by intro k e hf;unfold bT aD aJ at hf;rw[<- e,hget]at hf;simpa using hf
  rcases hk _ (aee hik)with e | e
  ·exact hx _ e fs.1
  ·exact hx _ e fs.2
 exact g.tx _ hy hkind
theorem Gx.iv{m:Node}(g:Gx m)(ho:dY m [iY,lS]=true)(hr:LB m=false):Iv exK DT m:=by obtain⟨h3,hle,hk⟩:=abr ho g.nd;exact⟨.inr h3,(fun e=>by rw[h3]at e;cases e),g.text h3,g.len h3,g.nd h3,hk,g.kids ho hr⟩
theorem aj0{m:Node}(h3:m.kind=3):iG m=m:=by show(⟨3,m.text,m.keys,m.kids⟩:Node)=m;rw[<- h3];exact gB m
theorem ext_eq{n:Node}(g:Gx (iZ n)):(exV n=vg n/\Xz n=(bif DR n then 0 else 10))/\(DR n=true->Sf exK DT (vg n)/\vg n=aQ 12 (iZ n)/\dY (iZ n) [iY,lS]=true/\LB (iZ n)=false):=by
 unfold exV Xz vg DR;by_cases h3:(iZ n).kind=3
 ·rw[aCQ h3 (g.len h3) (g.nd h3)];cases ho:dY (iZ n) [iY,lS]with
  | false=>grind
  | true =>
   cases hr:LB (iZ n)with
   | true=>grind
   | false =>
    obtain⟨_,hle,_⟩:=abr ho g.nd;have hb:eO (iZ n) true=true:=by unfold eO;grind
    have hv:eP (iZ n) true=aQ 12 (iZ n):=by unfold eP;rw[hb,aj0 h3];rfl
    have hs:fP 1000 (iZ n)=aQ 12 (iZ n):=(fun(m:Nat) (hm:m=12+988)=>(by rw[hm,sort_k 12 988 _ g.wg_,LJ 12 _ g.wg_ g.kd_]:fP m (iZ n)=aQ 12 (iZ n))) 1000 (by omega);simp only[adr,cond_false];rw[hb,hv,hs];refine⟨⟨rfl,rfl⟩,fun _=>⟨?_,rfl,trivial,trivial⟩⟩;have:=(g.iv ho hr).form LK (by omega);rwa[aj0 h3]at this
 ·have ho:dY (iZ n) [iY,lS]=false:=by unfold dY;rw[kr h3];rfl
  have hf:Ng (iZ n)=true:=by unfold Ng apX;rw[kr h3];simp
  grind
theorem avW{m a:Node}(g:Gx m)(ho:dY m [iY,lS]=true)(hr:LB m=false)(ha:a=aQ 12 m)(sf:Sf exK DT a):vg a=a/\DR a=true:=by
 have h3:=(abr ho g.nd).1;have iv:=g.iv ho hr;have e1:iZ a=a:=by unfold iZ;rw[eT (by rw[sf.kind];decide)];rfl
 have hget:∀k,get a k=get m k:=fun k=>by
  rw[ha,avV h3 (g.len h3)];cases hq:get m k with
  | none=>rfl
  | some v =>
   have hm:v∈m.kids:=by
    have hb:aD m k=true:=by unfold aD;rw[hq];rfl
    have:=xB hb;unfold aJ at this;rw[hq]at this;exact this
   rw[aji,LK _ (iv.kid v hm)]
 have hoa:dY a [iY,lS]=true:=by unfold dY;rw[nK sf.kind,cond_false,ahn];intro k hk;refine jm.2 ?_;have:exK k:=sf.key k hk;simpa[exK]using this
 have hf:∀k o,aM a k o=aM m k o/\bT a k o=bT m k o:=fun k o=>by unfold aM bT aD aJ;rw[hget k];exact⟨rfl,rfl⟩
 have hra:LB a=false:=by rw[<- hr];unfold LB;grind
 unfold vg DR;rw[e1,hoa,hra];simp only[adr,cond_false];exact IZ sf LK sf.text rfl rfl
end
section
def avX(t:aqO):Prop:=t=[]\/∃c r,t=c::r/\dZ c=true
theorem anG:∀(s t:aqO),s.all dZ=true->(∀c r,t=c::r->dZ c=false)->eY (s++t)=s.length
 | [],[],_,_=>rfl
 | [],c::t,_,h=>by show eY (c::t)=0;rw[eY,h c t rfl];rfl
 | c::s,t,h,h2=>by rw[aeB,abj]at h;show eY (c::(s++t))=_;rw[eY,h.1,cond_true,anG s t h.2 h2,List.length_cons]
theorem adh(u:Nat):∃c r,Ah u=c::r/\dZ c=false:=by unfold Ah;split<;>exact⟨_,_,rfl,by decide⟩
theorem aCR{u:Nat}(hu:u<=3){t:aqO}(ht:avX t):gU (Ah u++t)=(u,(Ah u).length):=by
 have:u=0\/u=1\/u=2\/u=3:=by omega
 rcases this with rfl | rfl | rfl | rfl
 ·rfl
 ·rcases ht with rfl | ⟨c,r,rfl,hc⟩
  ·rfl
  ·have:=vY.1 hc;show(bif(((c.toNat:Nat):Int)==115)then((3,2):Nat×Nat)else(1,1))=_;rw[eT (by omega)];rfl
 ·rfl
 ·rfl
theorem atl{k:Int}(h0:0<=k)(h1:k<9223372036854775808){u:Nat}(hu:u<=3){t:aqO}(ht:avX t) :
  gH (aZ k++(Ah u++t))=aZ k/\gX (aZ k++(Ah u++t))=(u,(Ah u).length)/\gR (aZ k++(Ah u++t))=t:=by
 obtain⟨_,_,q3⟩:=xL h0 h1;obtain⟨c,r,e,hc⟩:=adh u;have hp:eY (aZ k++(Ah u++t))=(aZ k).length:=anG _ _ q3 fun c' r' h=>by rw[e]at h;cases h;exact hc
 have hx:gX (aZ k++(Ah u++t))=(u,(Ah u).length):=by unfold gX;rw[hp,List.drop_left,aCR hu ht]
 refine⟨by unfold gH;rw[hp,List.take_left],hx,?_⟩;unfold gR;rw[hp,hx,<- abt];grind
theorem anH{n:Int}{i:Nat}(h:0<n / (bP i:Int)):O6 n i=aZ (n / (bP i:Int))++Ah i:=by unfold O6;rw[dT h];rfl
theorem aj1{n:Int}{i:Nat}(h:¬ 0<n / (bP i:Int)):O6 n i=[]:=by unfold O6;rw[dF h];rfl
theorem atm:∀(k i:Nat) (n:Int),0<=n->n<=1099511627776->avX (IL k i n)
 | 0,_,_,_,_=>.inl rfl
 | k+1,i,n,h0,h1=>by
  obtain⟨a1,a2,a3,a4,a5,a6,a7⟩:=Y8 i h0 h1;unfold IL;by_cases hk:0<n / (bP i:Int)
  ·rw[anH hk];obtain⟨q1,_,q3⟩:=xL a2 (by omega);cases ht:aZ (n / (bP i:Int))with
   | nil=>rw[ht]at q1;cases q1
   | cons c r =>rw[ht,aeB,abj]at q3;exact .inr ⟨c,_,rfl,q3.1⟩
  ·rw[aj1 hk];exact atm k (i+1) _ a5 (by omega)
theorem Zh:∀(k i:Nat) (n:Int) (f:Nat) (last:Int),k+i=4->0<=n->n<=1099511627776->last<i->(0<=last\/0<n)->(IL k i n).length<f->(i=4->n=0)->p8 f last (IL k i n)=some n.toNat
 | 0,i,n,f,last,h1,h2,h3,h4,h5,h6,h7=>by
  have hn:=h7 (by omega);subst hn;cases f with
  | zero=>simp[IL]at h6
  | succ f =>show p8 (f+1) last []=_;rw[p8,show(([]:aqO)==[])=true from rfl,cond_true,dF (by omega)];rfl
 | k+1,i,n,f,last,h1,h2,h3,h4,h5,h6,h7=>by
  obtain⟨a1,a2,a3,a4,a5,a6,a7⟩:=Y8 i h2 h3;have hi4:i+1=4->n%(bP i:Int)=0:=fun e=>by
   obtain rfl:i=3:=by omega
   show n%1=0;omega
  unfold IL at h6 ⊢;by_cases hk:0<n / (bP i:Int)
  ·rw[anH hk]at h6 ⊢;have hL:=aa5 i;obtain⟨g1,g2,g3⟩:=atl (t:=IL k (i+1) (n%(bP i:Int))) a2 (show n / (bP i:Int)<9223372036854775808 by omega) (show i<=3 by omega) (atm k (i+1) _ a5 (by omega));obtain⟨q1,q2,q3⟩:=xL a2 (show n / (bP i:Int)<9223372036854775808 by omega);rw[abt]at h6 ⊢;have hne:aZ (n / (bP i:Int))++(Ah i++IL k (i+1) (n%(bP i:Int)))≠[]:=fun e=>by
    have:=congrArg List.length e;obtain⟨c,r,e2,_⟩:=adh i;rw[e2]at this;simp at this
   have hne2:(aZ (n / (bP i:Int))++(Ah i++IL k (i+1) (n%(bP i:Int)))==[])=false:=by simpa using hne
   have h48:(aZ (n / (bP i:Int))==[48])=false:=by rw[<- aa4 q1];simp only[agA];omega
   have hlen:((Ah i).length==0)=false:=by obtain⟨c,r,e2,_⟩:=adh i;rw[e2];rfl
   have hbad:FC last (aZ (n / (bP i:Int))++(Ah i++IL k (i+1) (n%(bP i:Int))))=false:=by unfold FC;rw[g1,g2,g3,hlen,q1,h48,dF (show ¬ (i:Int)<=last by omega)];rfl
   cases f with
   | zero=>omega
   | succ f =>
    have hlt:(IL k (i+1) (n%(bP i:Int))).length<f:=by
     rw[List.length_append,List.length_append]at h6;have:(Ah i).length≠0:=by simpa using hlen
     omega
    have ih:=Zh k (i+1) (n%(bP i:Int)) f (i:Int) (by omega) a5 (by omega) (by omega) (.inl (by omega)) hlt hi4;rw[p8,hne2,hbad,cond_false,cond_false,g1,g2,g3,ih,aji];grind
  ·rw[aj1 hk]at h6 ⊢;have hz:n%(bP i:Int)=n:=zero_mod i (by omega);rw[hz]at h6 hi4 ⊢;exact Zh k (i+1) n f last (by omega) h2 h3 (by omega) h5 h6 hi4
theorem aj2{n:Int}(h0:0<=n)(h1:n<=1099511627776):xR (yC n)=(n,0):=by
 unfold yC;rw[dF (show ¬ n<0 by omega),dF (show ¬ (1099511627776:Int)<n by omega),cond_false,cond_false];by_cases hz:n=0
 ·subst hz;decide
 ·rw[eT hz,cond_false];unfold xR;rw[Zh 4 0 n _ (-1) rfl h0 h1 (by decide) (.inr (by omega)) (Nat.lt_succ_self _) (fun h=>by cases h)];simp only[FD];grind
theorem aBF(n:Int):(yC n).length<=100:=by
 unfold yC;cases(bif decide (n<0)then true else decide ((1099511627776:Int)<n))with
 | true=>exact aaG _
 | false =>
  rw[cond_false];cases n==0 with
  | true=>grind
  | false =>have l:=ay7;have l0:=l n 0;have l1:=l (n%(bP 0:Int)) 1;have l2:=l (n%(bP 0:Int)%(bP 1:Int)) 2;have l3:=l (n%(bP 0:Int)%(bP 1:Int)%(bP 2:Int)) 3;show(O6 n 0++(O6 (n%(bP 0:Int)) 1++(O6 (n%(bP 0:Int)%(bP 1:Int)) 2++(O6 (n%(bP 0:Int)%(bP 1:Int)%(bP 2:Int)) 3++[])))).length<=100;grind
theorem Pk(s:aqO):0<=u6 s/\u6 s<=1099511627776:=by
 unfold u6 xR;cases p8 (s.length+1) (-1) s with
 | none=>exact⟨by decide,by decide⟩
 | some t =>simp only[FD];grind
def hV(n:Node):Node:=(hP n).1
def hE(n:Node):Int:=(hP n).2
theorem lf5{m:Node}(h3:m.kind=3)(hl:m.keys.length=m.kids.length)(hn:m.keys.Nodup):(hLf m==0)=dY m R7:=by
 have h:=Rj hn (show R7.Nodup by decide);have e:((R7.filter fun k=>eF m.keys k).length:Int)=(((b2 (eF m.keys bQ)+b2 (eF m.keys dQ))+b2 (eF m.keys fu))+b2 (eF m.keys bS))+b2 (eF m.keys iO):=by unfold R7;cases h1:eF m.keys bQ<;>cases h2:eF m.keys dQ<;>cases h4:eF m.keys fu<;>cases h5:eF m.keys bS<;>cases h6:eF m.keys iO<;>simp[List.filter,h1,h2,h4,h5,h6,b2]
 unfold hLf dY;rw[qC h3 hl,qC h3 hl,qC h3 hl,qC h3 hl,qC h3 hl,nK h3,cond_false];grind
theorem atn(n:Node)(l:Int)(k:aqO)(hl:l<=1000):LC n k l=((bT n k []&&(acS (aM n k Gw)==0))&&decide (l<=u6 (aM n k Gw))):=by
 have e1:acS Gw=0:=by decide
 have e2:u6 Gw=1000:=by decide
 unfold LC bT aM;grind
theorem avY:Nh UE 65536=0/\BL UE 65536=0:=by decide
theorem aj3(n:Node):mF n bS=FE n:=by
 unfold mF FE aM;cases aD n bS with
 | false=>rw[aec,cond_true,cond_false,avY.2]
 | true=>rfl
theorem aBG(n:Node)(b:Bool):bdR n b=(bif(bif b then true else !(MK n bS))then true else decide ((10:Int)<mF n bS)):=by
 rw[aj3];have hb:=IK (aJ n bS).text 65536 (by decide);unfold bdR MK FE bT aM;cases aD n bS with
 | false=>simp only[aec,cond_true,cond_false,avY.1,avY.2];cases b<;>rfl
 | true =>grind
def Gh0(n:Node):Prop:=n.kind=3->n.keys.length=n.kids.length/\n.keys.Nodup
theorem aCS{n:Node}(hn:Gh0 n):(ai6 n || !(hLf n==0))=F6 n:=by
 by_cases h3:n.kind=3
 ·obtain⟨hl,hd⟩:=hn h3;rw[lf5 h3 hl hd];unfold ai6 F6 U8;rw[aBG];have hI:=Pk (aM n dQ Gw);have hS:=Pk (aM n fu Gw);rw[atn n 1 dQ (by decide),atn n 0 fu (by decide),Vg,dT hS.1];unfold UJ UK UJ Lg JB;rw[nK h3,I4];have hz:(u6 (aM n dQ Gw)==0) = !(decide ((1:Int)<=u6 (aM n dQ Gw))):=by
   by_cases h:u6 (aM n dQ Gw)=0
   ·rw[iU h,dF (by omega)];rfl
   ·rw[eT h,dT (by omega)];rfl
  have hr:tsR (aJ n bQ) = !(IU (aJ n bQ)==0):=rfl;grind
 ·have o:dY n R7=false:=by unfold dY;rw[kr h3];rfl
  have b:ai6 n=true:=by
   have hD:JB n=true:=by unfold JB;rw[kr h3];rfl
   have hT:Lg n (JB n)=true:=by unfold Lg;rw[hD];rfl
   have hI:UK n (Lg n (JB n))=true:=by unfold UK UJ;rw[hT];rfl
   have hS:UJ n fu (UK n (Lg n (JB n)))=true:=by unfold UJ;rw[hI];rfl
   unfold ai6 bdR;rw[hS];rfl
  unfold F6;rw[b,o];rfl
theorem aBH{n:Node}(h:F6 n=false):YS n=(GI n==jU):=by
 unfold F6 at h;cases ho:dY n R7 with
 | false=>rw[ho]at h;cases h
 | true =>
  rw[ho]at h;unfold YS GI;cases hg:aD n bQ with
  | false=>grind
  | true =>
   rw[hg]at h;simp only[cond_true,cond_false,adr]at h ⊢;cases hk:IU (aJ n bQ)==0 with
   | true=>rw[hk]at h;cases h
   | false =>
    have:tsN (aJ n bQ)=(IU (aJ n bQ)==2):=by unfold IU at hk;unfold tsN IU;grind
    grind
theorem aCT{n:Int}(h0:0<=n)(h1:n<=1099511627776):(yC n==[])=false:=by
 cases h:yC n with
 | cons c t=>rfl
 | nil =>
  have:=aj2 h0 h1;rw[h]at this;have e:xR []=(0,3):=by decide
  grind
theorem Vh(n:Node)(k:aqO)(l:Int):(!(qA n k l==[]))=aD n k:=by
 unfold qA;cases aD n k with
 | false=>rfl
 | true=>rw[cond_true,aCT (Pk _).1 (Pk _).2];rfl
def isK(k:aqO):Prop:=k∈R7
def l6(y:Node):Prop:=y=bI y.text
theorem Wp(y:Node)(h:l6 y):wg 10000 11 y=true/\kd 11 y=true:=by rw[h];exact⟨oI _ 10,by simp[kd,bI]⟩
theorem LM(y:Node)(h:l6 y):aQ 11 y=y:=by rw[h];rfl
def Ap(b:Bool)(k:aqO)(v o:Node):Node:=bif b then aY o k v else o
theorem Wq{b:Bool}{k:aqO}{v o:Node}(h:Iv isK l6 o)(hk:isK k)(hv:l6 v):Iv isK l6 (Ap b k v o):=by
 unfold Ap;cases b with
 | true=>exact h.put hk hv
 | false=>exact h
theorem Ws{b:Bool}{k:aqO}{v o:Node}(h:Iv isK l6 o)(q:aqO):lk (Ap b k v o).keys (Ap b k v o).kids q=if q=k then(bif b then some v else lk o.keys o.kids q)else lk o.keys o.kids q:=by
 unfold Ap;cases b with
 | true=>rw[cond_true,ajS h.kind h.len];rfl
 | false =>rw[cond_false,cond_false];split<;>rfl
theorem ato(n:Node):rO n=Ap (decide (0<mF n bS)) bS (bI (aZ (mF n bS))) (Ap (aD n fu) fu (bI (qA n fu 0)) (Ap (aD n dQ) dQ (bI (qA n dQ 1)) (Ap (aD n bQ) bQ (bI (IV (aJ n bQ))) zn))):=by unfold rO NT vk Ra Ap;rw[Vh,Vh]
theorem kyT:isK bQ/\isK dQ/\isK fu/\isK bS/\isK iO:=by unfold isK;decide
theorem GN(s:aqO):l6 (bI s):=rfl
theorem aqp(b:Bool)(v:Node)(hv:l6 v):Iv isK l6 (Ap b bQ v zn):=Wq Iv.nil kyT.1 hv
theorem axl(b c:Bool)(v u:Node)(hv:l6 v)(hu:l6 u):Iv isK l6 (Ap c dQ u (Ap b bQ v zn)):=Wq (aqp b v hv) kyT.2.1 hu
theorem axn(b c d:Bool)(v u t:Node)(hv:l6 v)(hu:l6 u)(ht:l6 t):Iv isK l6 (Ap d fu t (Ap c dQ u (Ap b bQ v zn))):=Wq (axl b c v u hv hu) kyT.2.2.1 ht
theorem agq(n:Node):Iv isK l6 (rO n):=by rw[ato];exact Wq (axn _ _ _ _ _ _ rfl rfl rfl) kyT.2.2.2.1 rfl
def hL(n:Node)(q:aqO):Option Node:=if q=bS then(bif decide (0<mF n bS)then some (bI (aZ (mF n bS)))else none)
 else if q=fu then(bif aD n fu then some (bI (qA n fu 0))else none)
 else if q=dQ then(bif aD n dQ then some (bI (qA n dQ 1))else none)
 else if q=bQ then(bif aD n bQ then some (bI (IV (aJ n bQ)))else none)else none
theorem axo(n:Node)(q:aqO):lk (rO n).keys (rO n).kids q=hL n q:=by
 rw[ato,Ws (axn _ _ _ _ _ _ (GN _) (GN _) (GN _)),Ws (axl _ _ _ _ (GN _) (GN _)),Ws (aqp _ _ (GN _)),Ws Iv.nil];unfold hL;have hz:lk zn.keys zn.kids q=none:=rfl;rw[hz];by_cases h1:q=bS
 ·subst h1;simp only[if_true,if_neg (show bS≠fu by decide),if_neg (show bS≠dQ by decide),if_neg (show bS≠bQ by decide)]
 grind
theorem aCU(n:Node):hO n=rO n:=by
 have e1:NP n zn=Ra n:=by
  unfold NP Ra;cases aD n bQ with
  | true=>exact Iv.nil.with_ (ψ:=isK) (φ:=l6) _ _
  | false=>rfl
 have i1:Iv isK l6 (Ra n):=by have:Ra n=Ap (aD n bQ) bQ (bI (IV (aJ n bQ))) zn:=rfl;rw[this];exact aqp _ _ rfl
 have ep:∀(k:aqO) (l:Int) (o:Node),Iv isK l6 o->NQ n k o=vk n k l o:=fun k l o h=>by
  unfold NQ vk;rw[Vh];have:qA n k l=bif aD n k then yC (u6 (aJ n k).text)else[]:=rfl
  cases hg:aD n k with
  | false=>rfl
  | true =>
   rw[this,hg,cond_true,cond_true,cond_true,h.with_];have:aM n k Gw=(aJ n k).text:=by unfold aM;rw[hg];rfl
   rw[this];rfl
 have i2:Iv isK l6 (vk n dQ 1 (Ra n)):=by
  unfold vk;cases !(qA n dQ 1==[])with
  | true=>exact i1.put kyT.2.1 rfl
  | false=>exact i1
 have i3:Iv isK l6 (vk n fu 0 (vk n dQ 1 (Ra n))):=by
  conv=>rhs;unfold vk
  cases !(qA n fu 0==[])with
  | true=>exact i2.put kyT.2.2.1 rfl
  | false=>exact i2
 unfold hO rO;rw[e1,ep dQ 1 _ i1,ep fu 0 _ i2];unfold ap3 NT;rw[aj3];cases decide (0<FE n)with
 | true=>exact i3.with_ _ _
 | false=>rfl
theorem avZ:DY (bD zn iO (fD true)) false=Jt/\DZ (bD zn iO (fD true)) false=0:=by
 have e:bD zn iO (fD true)=aY zn iO (bI jU):=Iv.nil.with_ (ψ:=isK) (φ:=l6) _ _;have i:Iv isK l6 (aY zn iO (bI jU)):=Iv.nil.put kyT.2.2.2.2 rfl;rw[e];obtain⟨h1,h2⟩:=i.dn Wp;have hm:aY zn iO (bI jU)=Jt:=Es (.inl rfl) rfl (by simp[zn]) _;have sd:Sf isK l6 Jt:=⟨rfl,rfl,by unfold Pl.SS;decide,rfl,by decide,fun k hk=>by rw[List.mem_singleton.1 hk];exact kyT.2.2.2.2,fun y hy=>by rw[List.mem_singleton.1 hy];rfl⟩
 obtain⟨q1,q2⟩:=IZ (o':=aY zn iO (bI jU)) sd LM (by rw[hm];rfl) (by rw[hm]) (by rw[hm]);rw[h1,h2,q1,q2];exact⟨rfl,rfl⟩
theorem atp{n:Node}(hn:Gh0 n):hV n=Aj n/\hE n=(bif Ak n then 0 else 10):=by
 unfold hV hE hP ap4 Aj Ak;rw[aCS hn];cases h:F6 n with
 | true=>exact⟨rfl,rfl⟩
 | false =>
  rw[aBH h];simp only[cond_false];cases GI n==jU with
  | true=>exact avZ
  | false =>rw[aCU];exact(agq n).dn Wp
theorem aCV(n:Node)(hb:eO (rO n) true=true):(rO n).keys.length<=32:=by unfold eO at hb;grind
theorem azj{o:Node}(h:Iv isK l6 o)(q:aqO):get (aQ 12 (iG o)) q=lk o.keys o.kids q:=by
 have e:aQ 12 (iG o)=⟨3,o.text,Pl.bA o.keys,(Pl.bA o.keys).map fun k=>aQ 11 (aJ (iG o) k)⟩:=rfl;rw[e];have:get (⟨3,o.text,Pl.bA o.keys,(Pl.bA o.keys).map fun k=>aQ 11 (aJ (iG o) k)⟩:Node) q=lk (Pl.bA o.keys) ((Pl.bA o.keys).map fun k=>aQ 11 (aJ (iG o) k)) q:=if_pos rfl;rw[this];have hg:get (iG o) q=lk o.keys o.kids q:=if_pos rfl;by_cases hq:q∈o.keys
 ·rw[ajQ _ _ (Pl.jN.2 hq)];have hs:(lk o.keys o.kids q).isSome=true:=by rw[oJ h.len];exact jm.2 hq
  cases hl:lk o.keys o.kids q with
  | none=>rw[hl]at hs;cases hs
  | some y =>
   have hv:aJ (iG o) q=y:=by unfold aJ;rw[hg,hl];rfl
   have hb:aD (iG o) q=true:=by unfold aD;rw[hg,hl];rfl
   rw[LM _ (h.kid _ (xB (a:=iG o) hb)),hv]
 ·have h1:lk o.keys o.kids q=none:=ada h.len hq;have h2:lk (Pl.bA o.keys) ((Pl.bA o.keys).map fun k=>aQ 11 (aJ (iG o) k)) q=none:=ada (by simp) (fun hm=>hq (Pl.jN.1 hm));rw[h1,h2]
theorem av0{o a:Node}(h:Iv isK l6 o)(ha:Sf isK l6 a)(he:∀q,lk o.keys o.kids q=get a q):eP o true=a/\eO o true=true:=by
 have hga:∀q,get a q=lk a.keys a.kids q:=fun q=>if_pos ha.kind
 have hmem:∀q,q∈o.keys↔q∈a.keys:=fun q=>by have h1:=oJ (k:=q) h.len;have h2:=oJ (k:=q) ha.len;rw[he,hga,h2]at h1;rw[<- jm,<- jm,h1]
 have hs:Pl.bA o.keys=a.keys:=Pl.xw ha.ss fun q=>(hmem q).symm
 have hlen:o.keys.length<=32:=by
  have:=ML o.keys a.keys h.nd fun x hx=>(hmem x).1 hx
  have:=ha.le;omega
 have hb:eO o true=true:=by unfold eO;grind
 refine⟨?_,hb⟩;unfold eP;rw[hb,cond_true];have e:aQ 12 (iG o)=⟨3,o.text,Pl.bA o.keys,(Pl.bA o.keys).map fun k=>aQ 11 (aJ (iG o) k)⟩:=rfl;have e2:aQ 12 a=⟨3,a.text,Pl.bA a.keys,(Pl.bA a.keys).map fun k=>aQ 11 (aJ a k)⟩:=by show(bif a.kind==3 then _ else _)=_;rw[iU ha.kind,cond_true,ha.kind]
 have hv:∀k,aJ (iG o) k=aJ a k:=fun k=>by unfold aJ;rw[<- he k];have:get (iG o) k=lk o.keys o.kids k:=if_pos rfl;rw[this]
 rw[<- ha.sorted LM,e,e2,hs,h.text,ha.text,show Pl.bA a.keys=a.keys from Pl.xw ha.ss fun _=>Iff.rfl];grind
structure Fh (n a:Node):Prop where
 sf:Sf isK l6 a
 Vi:∀q,get a q=hL n q
theorem aBI(n:Node):0<=mF n bS/\mF n bS<=65536:=by rw[aj3];exact IK _ _ (by decide)
theorem Fh.b{n a:Node}(h:Fh n a):(aD a bS=decide (0<mF n bS)/\aD a fu=aD n fu/\aD a dQ=aD n dQ/\aD a bQ=aD n bQ/\aD a iO=false):=by
 unfold aD;rw[h.Vi,h.Vi,h.Vi,h.Vi,h.Vi];unfold hL;simp only[if_true,if_neg (show fu≠bS by decide),if_neg (show dQ≠bS by decide),if_neg (show dQ≠fu by decide),if_neg (show bQ≠bS by decide),if_neg (show bQ≠fu by decide),if_neg (show bQ≠dQ by decide),if_neg (show iO≠bS by decide),if_neg (show iO≠fu by decide),if_neg (show iO≠dQ by decide),if_neg (show iO≠bQ by decide)];refine⟨?_,?_,?_,?_,rfl⟩
 ·cases decide (0<mF n bS)<;>rfl
 ·cases hg:aD n fu<;>(unfold aD at hg;rw[hg];rfl)
 ·cases hg:aD n dQ<;>(unfold aD at hg;rw[hg];rfl)
 ·cases hg:aD n bQ<;>(unfold aD at hg;rw[hg];rfl)
theorem Fh.v{n a:Node}(h:Fh n a):(0<mF n bS->aJ a bS=bI (aZ (mF n bS)))/\(aD n fu=true->aJ a fu=bI (qA n fu 0))/\(aD n dQ=true->aJ a dQ=bI (qA n dQ 1))/\(aD n bQ=true->aJ a bQ=bI (IV (aJ n bQ))):=by
 unfold aJ;rw[h.Vi,h.Vi,h.Vi,h.Vi];unfold hL;simp only[if_true,if_neg (show fu≠bS by decide),if_neg (show dQ≠bS by decide),if_neg (show dQ≠fu by decide),if_neg (show bQ≠bS by decide),if_neg (show bQ≠fu by decide),if_neg (show bQ≠dQ by decide)];refine⟨fun g=>?_,fun g=>?_,fun g=>?_,fun g=>?_⟩
 ·rw[dT g];rfl
 ·rw[g];rfl
 ·rw[g];rfl
 ·rw[g];rfl
theorem Fh.sp{n a:Node}(h:Fh n a):qA a dQ 1=qA n dQ 1/\qA a fu 0=qA n fu 0/\(∀l,LC n dQ l=true->LC a dQ l=true)/\(∀l,LC n fu l=true->LC a fu l=true):=by
 obtain⟨b1,b2,b3,b4,b5⟩:=h.b;obtain⟨v1,v2,v3,v4⟩:=h.v;have key:∀(k:aqO) (l:Int),aD a k=aD n k->(aD n k=true->aJ a k=bI (qA n k l))->qA a k l=qA n k l/\∀l',LC n k l'=true->LC a k l'=true:=fun k l hb hv=>by
  unfold qA LC;rw[hb];cases hg:aD n k with
  | false=>exact⟨rfl,fun _ _=>rfl⟩
  | true =>
   have hd:=Pk (aJ n k).text;have hv:=hv hg;have hx:qA n k l=yC (u6 (aJ n k).text):=by unfold qA;rw[hg];rfl
   have ht:(aJ a k).text=yC (u6 (aJ n k).text):=by rw[hv,hx];rfl
   have hk:(aJ a k).kind=1:=by rw[hv];rfl
   have hp:=aj2 hd.1 hd.2;have p1:u6 (yC (u6 (aJ n k).text))=u6 (aJ n k).text:=by show(xR (yC (u6 (aJ n k).text))).1=_;rw[hp]
   have p2:acS (yC (u6 (aJ n k).text))=0:=by show(xR (yC (u6 (aJ n k).text))).2=_;rw[hp]
   simp only[cond_true];rw[ht,hk,p1,p2];refine⟨rfl,fun l' hl'=>?_⟩;cases h1:(bif(aJ n k).kind==1 then acS (aJ n k).text==0 else false)with
   | false=>rw[h1]at hl';cases hl'
   | true=>rw[h1]at hl';exact hl'
 obtain⟨i1,i2⟩:=key dQ 1 b3 v3;obtain⟨s1,s2⟩:=key fu 0 b2 v2;exact⟨i1,s1,i2,s2⟩
theorem Fh.nu{n a:Node}(h:Fh n a):mF a bS=mF n bS/\MK a bS=true:=by
 obtain⟨b1,_⟩:=h.b;obtain⟨v1,_⟩:=h.v;have hb:=aBI n;have eb:MK a bS=bif aD a bS then(bif(bif(aJ a bS).kind==1 then Nh (aJ a bS).text 65536==0 else false)then decide (0<BL (aJ a bS).text 65536)else false)else true:=rfl
 have ev:mF a bS=bif aD a bS then BL (aJ a bS).text 65536 else 0:=rfl
 rw[eb,ev,b1];by_cases hp:0<mF n bS
 ·have ht:=YR hb.1 hb.2 (by omega);have t1:BL (aZ (mF n bS)) 65536=mF n bS:=congrArg Prod.fst ht;have t2:Nh (aZ (mF n bS)) 65536=0:=congrArg Prod.snd ht;rw[dT hp,v1 hp];show BL (aZ (mF n bS)) 65536=mF n bS/\(bif(bif(1:Int)==1 then Nh (aZ (mF n bS)) 65536==0 else false)then decide (0<BL (aZ (mF n bS)) 65536)else false)=true;rw[t1,t2,dT hp];exact⟨rfl,rfl⟩
 grind
theorem Fh.lks{n a:Node}(h:Fh n a)(q:aqO):hL a q=hL n q:=by
 obtain⟨b1,b2,b3,b4,b5⟩:=h.b;obtain⟨v1,v2,v3,v4⟩:=h.v;obtain⟨s1,s2,_⟩:=h.sp;unfold hL;rw[h.nu.1,b2,b3,b4,s1,s2];cases hg:aD n bQ with
 | false=>rfl
 | true=>rw[v4 hg];rfl
theorem alU{n a:Node}(h:Fh n a)(hno:F6 n=false):Aj a=a/\Ak a=true:=by
 obtain⟨b1,b2,b3,b4,b5⟩:=h.b;obtain⟨v1,v2,v3,v4⟩:=h.v;obtain⟨s1,s2,s3,s4⟩:=h.sp;have hk:(bif aD a bQ then IU (aJ a bQ)==0 else false)=false/\GI a=ow:=by
  have fd:aM a iO ow=ow:=by unfold aM;rw[b5];rfl
  unfold GI;rw[b4,fd];cases hg:aD n bQ with
  | false=>exact⟨rfl,rfl⟩
  | true=>rw[v4 hg];exact⟨rfl,rfl⟩
 have ho:dY a R7=true:=by unfold dY;rw[nK h.sf.kind,cond_false,ahn];exact fun k hk=>jm.2 (h.sf.key k hk)
 have ht:Jr a iO ow=true:=by
  have fd:aM a iO ow=ow:=by unfold aM;rw[b5];rfl
  have fb:bT a iO []=true:=by unfold bT;rw[b5];rfl
  rw[Vg,fb,fd];rfl
 have hbad:U8 n=false:=by unfold F6 at hno;grind
 have hparts:LC n dQ 1=true/\LC n fu 0=true/\decide ((10:Int)<mF n bS)=false:=by unfold U8 at hbad;grind
 have hna:F6 a=false:=by unfold F6 U8;rw[ho,hk.1,ht,s3 1 hparts.1,s4 0 hparts.2.1,h.nu.2,h.nu.1,hparts.2.2];rfl
 obtain⟨d1,d2⟩:=av0 (agq a) h.sf fun q=>by rw[axo,h.lks,h.Vi]
 unfold Aj Ak;rw[hna,hk.2,d1,d2];exact⟨rfl,rfl⟩
theorem azk{n:Node}(hb:eO (rO n) true=true):Fh n (eP (rO n) true):=by
 have h32:=aCV n hb;have e:eP (rO n) true=aQ 12 (iG (rO n)):=by unfold eP;rw[hb];rfl
 rw[e];exact⟨(agq n).form LM h32,fun q=>by rw[azj (agq n),axo]⟩
theorem atq:Aj Jt=Jt/\Ak Jt=true:=by
 have h1:F6 Jt=false:=by decide
 have h2:GI Jt=jU:=by decide
 unfold Aj Ak;rw[h1,h2];exact⟨rfl,rfl⟩
end
section
structure Ip (P:aqO->Node->Prop) (o:Node):Prop where
 kind:o.kind=0\/o.kind=3
 none_:o.kind=0->o.keys=[]
 text:o.text=[]
 len:o.keys.length=o.kids.length
 nd:o.keys.Nodup
 val:∀k v,lk o.keys o.kids k=some v->P k v
def Fa(P:aqO->Node->Prop):List (aqO)->List Node->Prop
 | [],[]=>True
 | k::ks,v::vs=>P k v/\Fa P ks vs
 | _,_=>False
section
variable {P:aqO->Node->Prop}
theorem Ip.nil{k:Int}(hk:k=0\/k=3):Ip P ⟨k,[],[],[]⟩:=⟨hk,fun _=>rfl,rfl,rfl,anu,fun k v h=>by cases h⟩
theorem Ip.put{o:Node}(h:Ip P o){k:aqO}{v:Node}(hv:P k v):Ip P (aY o k v):=by
 obtain⟨h1,h2,h3,h4⟩:=MG (k:=k) (v:=v) h.kind h.len;have e:=Zd h.kind k v;refine⟨.inr h1,(fun e=>by rw[h1]at e;cases e),(by rw[e]),h2,?_,fun q w hq=>?_⟩
 ·rw[e];show(o.keys++BK (eF o.keys k) k).Nodup;by_cases hm:k∈o.keys
  ·rw[jm.2 hm];simpa[BK]using h.nd
  ·rw[Vf hm];show(o.keys++[k]).Nodup;rw[List.nodup_append];exact⟨h.nd,by simp,fun a ha b hb=>by rw[List.mem_singleton.1 hb];intro e;exact hm (e▸ha)⟩
 ·rw[ajS h.kind h.len]at hq;by_cases hqk:q=k
  ·grind
  ·rw[if_neg hqk]at hq;exact h.val q w hq
theorem Ip.there{o:Node}(h:Ip P o)(k:aqO):aD o k=eF o.keys k:=by
 unfold aD get;rcases h.kind with e | e
 ·rw[if_neg (by rw[e];decide),h.none_ e];rfl
 ·rw[if_pos e];exact oJ h.len
theorem Ip.with_{o:Node}(h:Ip P o)(k:aqO)(v:Node):bD o k v=aY o k v:=Zc h.kind h.len h.nd
theorem aqr:∀{ks:List (aqO)} {vs:List Node},ks.length=vs.length->ks.Nodup->∀y∈vs, ∃k,lk ks vs k=some y
 | [],[],_,_,y,hy=>by cases hy
 | a::t,x::w,h,hn,y,hy=>by
  have hn':=List.nodup_cons.1 hn;rcases List.mem_cons.1 hy with rfl | hy
  ·exact⟨a,by unfold lk;rw[if_pos rfl]⟩
  ·obtain⟨k,hk⟩:=aqr (by simpa using h) hn'.2 y hy;refine⟨k,?_⟩;unfold lk;rw[if_neg (fun e:k=a=>hn'.1 (e▸atb hk))];exact hk
 | [],_::_,h,_,_,_=>by simp at h
 | _::_,[],h,_,_,_=>by simp at h
theorem Ip.mem{o:Node}(h:Ip P o){y:Node}(hy:y∈o.kids):∃k,P k y:=by obtain⟨k,hk⟩:=aqr h.len h.nd y hy;exact⟨k,h.val k y hk⟩
theorem Ip.leafs{o:Node}(h:Ip P o){d:Nat}(hP:∀k y,P k y->wg 10000 d y=true/\kd d y=true)(hl:o.keys.length<=10000):wg 10000 (d+1) (iG o)=true/\kd (d+1) (iG o)=true:=by
 have hk:∀y∈o.kids,wg 10000 d y=true/\kd d y=true:=fun y hy=>by obtain⟨k,hp⟩:=h.mem hy;exact hP k y hp
 exact⟨fE.2 ⟨hl,by have:=h.len;show o.kids.length<=10000;omega,fun _=>h.len,fun y hy=>(hk y hy).1⟩,
  FT.2 ⟨⟨⟨show(0:Int)<=3 by decide,show(3:Int)<=3 by decide⟩,fun e=>absurd rfl e⟩,fun e=>absurd (show(3:Int)<2 from e) (by decide),fun y hy=>(hk y hy).2⟩⟩
theorem adi{d:Nat}{x:Node}(hd:d<=1000)(hw:wg 10000 d x=true)(hk:kd d x=true):fP 1000 x=aQ d x:=by
 have e:∀m:Nat,m=d+(1000-d)->fP m x=aQ d x:=fun m hm=>by rw[hm,sort_k d (1000-d) _ hw,LJ d _ hw hk]
 exact e 1000 (by omega)
theorem Ip.dn{o:Node}(h:Ip P o)(hP:∀k y,P k y->wg 10000 11 y=true/\kd 11 y=true):DY o false=eP o true/\DZ o false=(bif eO o true then 0 else 10):=by
 unfold DY DZ eP eO aaN;simp only[cond_false,adr];by_cases h32:(32:Int)<(o.keys.length:Int)
 ·rw[dT h32];exact⟨rfl,rfl⟩
 ·obtain⟨hw,hk⟩:=h.leafs (d:=11) hP (by omega);rw[dF h32];simp only[cond_false,aec,cond_true];exact⟨adi (by decide) hw hk,trivial⟩
structure Sp (P:aqO->Node->Prop) (a:Node):Prop where
 kind:a.kind=3
 text:a.text=[]
 ss:Pl.SS a.keys
 all:Fa P a.keys a.kids
theorem LP:∀{ks:List (aqO)} {vs:List Node},Fa P ks vs->ks.length=vs.length
 | [],[],_=>rfl
 | _::ks,_::vs,h=>by simp only[List.length_cons,LP h.2]
 | [],_::_,h=>h.elim
 | _::_,[],h=>h.elim
theorem Pm:∀{ks:List (aqO)} {vs:List Node},Fa P ks vs->∀y∈vs, ∃k,P k y
 | [],[],_,y,hy=>by cases hy
 | [],_::_,h,_,_=>h.elim
 | _::_,[],h,_,_=>h.elim
 | _::ks,v::vs,h,y,hy=>by
  rcases List.mem_cons.1 hy with rfl | hy
  ·exact⟨_,h.1⟩
  ·exact Pm h.2 y hy
theorem abu:∀{ks:List (aqO)} {vs:List Node},Fa P ks vs->∀k∈ks, ∃v,P k v
 | [],[],_,y,hy=>by cases hy
 | [],_::_,h,_,_=>h.elim
 | _::_,[],h,_,_=>h.elim
 | _::ks,v::vs,h,y,hy=>by
  rcases List.mem_cons.1 hy with rfl | hy
  ·exact⟨_,h.1⟩
  ·exact abu h.2 y hy
theorem atr(g:aqO->Node):∀(l:List (aqO)),(∀k∈l,P k (g k))->Fa P l (l.map g)
 | [],_=>trivial
 | k::l,h=>⟨h k abd,atr g l fun q hq=>h q (abb _ hq)⟩
theorem Ip.form{o:Node}(h:Ip P o){d:Nat}(hs:∀k y,P k y->aQ d y=y):Sp P (aQ (d+1) (iG o)):=by
 have e:aQ (d+1) (iG o)=⟨3,o.text,Pl.bA o.keys,(Pl.bA o.keys).map fun k=>aQ d (aJ (iG o) k)⟩:=rfl;rw[e];refine⟨rfl,h.text,(Pl.EP o.keys).1,atr _ _ fun k hk=>?_⟩;have hk':=Pl.jN.1 hk;have hi:(lk o.keys o.kids k).isSome=true:=by rw[oJ h.len];exact jm.2 hk'
 have hg:aJ (iG o) k=(lk o.keys o.kids k).getD zn:=by show(get (iG o) k).getD zn=_;rw[show get (iG o) k=lk o.keys o.kids k from if_pos rfl]
 cases hl:lk o.keys o.kids k with
 | none=>rw[hl]at hi;cases hi
 | some v =>have hp:=h.val k v hl;grind
theorem Sp.sorted{a:Node}(h:Sp P a){d:Nat}(hs:∀k y,P k y->aQ d y=y):aQ (d+1) a=a:=by
 have hk:Pl.bA a.keys=a.keys:=Pl.xw h.ss fun _=>Iff.rfl
 have hl:=LP h.all;have e:aQ (d+1) a=⟨a.kind,a.text,Pl.bA a.keys,(Pl.bA a.keys).map fun k=>aQ d (aJ a k)⟩:=by show(bif a.kind==3 then _ else _)=_;rw[iU h.kind];rfl
 rw[e,hk];have e2:(a.keys.map fun k=>aQ d (aJ a k))=a.keys.map fun k=>(lk a.keys a.kids k).getD zn:=by
  refine ajr fun k hk=>?_
  have hg:aD a k=true:=by show(get a k).isSome=true;rw[show get a k=lk a.keys a.kids k from if_pos h.kind,oJ hl];exact jm.2 hk
  obtain⟨q,hp⟩:=Pm h.all _ (xB hg);rw[hs q _ hp];show(get a k).getD zn=_;rw[show get a k=lk a.keys a.kids k from if_pos h.kind]
 rw[e2,Pg _ _ hl (oK h.ss)];exact gB a
theorem Sp.leafs{a:Node}(h:Sp P a){d:Nat}(hP:∀k y,P k y->wg 10000 d y=true/\kd d y=true)(hl:a.keys.length<=10000):wg 10000 (d+1) a=true/\kd (d+1) a=true:=by
 have hk:∀y∈a.kids,wg 10000 d y=true/\kd d y=true:=fun y hy=>by obtain⟨k,hp⟩:=Pm h.all y hy;exact hP k y hp
 have hlen:=LP h.all;exact⟨fE.2 ⟨hl,by omega,fun _=>hlen,fun y hy=>(hk y hy).1⟩,
  FT.2 ⟨⟨⟨by rw[h.kind];decide,by rw[h.kind];decide⟩,fun e=>absurd h.kind e⟩,fun e=>absurd (h.kind▸e) (by decide),fun y hy=>(hk y hy).2⟩⟩
theorem adj{o:Node}(ho:o.kind=0\/o.kind=3)(hl:o.keys.length=o.kids.length)(hn:o.keys.Nodup){k:aqO}{v:Node}(hk:k∉o.keys):aY o k v=⟨3,[],o.keys++[k],o.kids++[v]⟩/\(o.keys++[k]).Nodup:=by refine⟨Es ho hl hk v,?_⟩;grind
end
theorem anI{P:aqO->Node->Prop}{a o':Node}(h:Sp P a)(hs:∀k y,P k y->aQ 11 y=y)(h32:a.keys.length<=32)(h1:o'.text=[])(h2:o'.keys=a.keys)(h3:o'.kids=a.kids):eP o' true=a/\eO o' true=true:=by
 have hm:iG o'=a:=by show(⟨3,o'.text,o'.keys,o'.kids⟩:Node)=a;rw[h1,h2,h3,<- h.text,<- h.kind];exact gB a
 have hb:eO o' true=true:=by unfold eO;grind
 unfold eP;rw[hb,hm,h.sorted hs];exact⟨rfl,rfl⟩
theorem att{P:aqO->Node->Prop}(hw:∀k y,P k y->wg 10000 11 y=true/\kd 11 y=true)(hs:∀k y,P k y->aQ 11 y=y)(p:Node×Bool)(q:Option Node)(h:(p.2=true/\q=none)\/∃o',q=some o'/\p=(o',false)/\Ip P o') :
  (DY p.1 p.2=oV q/\DZ p.1 p.2=(bif oB q then 0 else 10))/\(oB q=true->Sp P (oV q)/\(oV q).keys.length<=32):=by
 rcases h with⟨hb,rfl⟩ | ⟨o',rfl,rfl,hi⟩
 ·rw[hb];exact⟨abo _,fun h=>by cases h⟩
 ·refine⟨hi.dn hw,fun hb=>?_⟩;have hb:eO o' true=true:=hb;have h32:o'.keys.length<=32:=by
   unfold eO at hb;grind
  have e:oV (some o')=aQ 12 (iG o'):=by show eP o' true=_;unfold eP;rw[hb];rfl
  rw[e];refine⟨hi.form hs,?_⟩;show(Pl.bA o'.keys).length<=32;exact Nat.le_trans (Pl.tZ _) h32
theorem atu(s:aqO):(jg s).2≠0->(jg s).1=CO:=by
 have hf:∀p,(qd p).2≠0->(qd p).1=CO:=fun p=>by unfold qd;grind
 have hp:∀h pr,(uz h pr).2≠0->(uz h pr).1=CO:=fun h pr=>by
  match hl:bU 58 h with
  | []=>exact absurd hl (oH _ _)
  | [a]=>rw[pP1 hl];exact hf _
  | [a,b]=>rw[pP2 hl];exact hf _
  | [a,b,c] =>rw[pP3 hl];grind
  | a::b::c::d::t=>rw[pP4 hl];exact fun _=>rfl
 unfold jg;cases zN s [47]<;>exact hp _ _
theorem aj4{p:Port}(h:kE p=false):zB p=[]:=by unfold zB;rw[h];rfl
theorem aCW:kE CO=false:=rfl
theorem azl(p:Port):(zB p).length<=p.host.length+60:=by
 have h1:=qX p.iP;have h2:=qX p.out;unfold zB;cases !(kE p)with
 | true=>exact aaG _
 | false =>
  have hO:(JF p).length<=21:=by unfold JF;cases decide (0<p.out)with | true=>exact h2 | false=>exact aaG _
  have hH:(XC p).length<=p.host.length+22:=by unfold XC;grind
  have hC:(En p).length<=p.host.length+23:=by unfold En;grind
  rw[cond_false];cases p.proto==[117,100,112]with
  | true=>rw[cond_true,List.length_append,List.length_append];show _+4<=_;omega
  | false=>rw[cond_false,List.length_append];omega
def gP(k:aqO)(v:Node):Prop:=((jg k).2=0/\zB (jg k).1=k/\k≠[]/\k.length<=2000)/\v=zn
theorem axp{p:Port}(h:kE p=true)(hl:p.host.length<=1900):gP (zB p) zn:=by obtain⟨h1,h2⟩:=ac9 h;exact⟨⟨by rw[h1],by rw[h1],h2,by have:=azl p;omega⟩,rfl⟩
theorem aCX(k:aqO)(y:Node)(h:gP k y):wg 10000 11 y=true/\kd 11 y=true:=anA y h.2
theorem av1(k:aqO)(y:Node)(h:gP k y):aQ 11 y=y:=abp y h.2
theorem atv(f:field)(k:aqO):yB f k=(f.bad || !(MK f.n k))/\(iM (aM f.n k [48]) 65536).1=mF f.n k:=by
 have c0:fH [48] 65536=(0,0):=by decide
 unfold yB MK mF bT aM;rw[count_eq _ (by decide)];cases aD f.n k with
 | false=>grind
 | true =>simp only[adr,cond_true,cond_false];refine⟨?_,rfl⟩;have hb:=(IK (aJ f.n k).text 65536 (by decide)).1;show(bif(bif(f.bad || !((aJ f.n k).kind==1))then true else Nh (aJ f.n k).text 65536 != 0)then true else BL (aJ f.n k).text 65536==0)=_;grind
theorem lf4{m:Node}(h3:m.kind=3)(hl:m.keys.length=m.kids.length)(hn:m.keys.Nodup)(a b c d:aqO)(hd:[a,b,c,d].Nodup):(((((m.keys.length:Int)-b2 (aD m a))-b2 (aD m b))-b2 (aD m c))-b2 (aD m d)==0)=dY m [a,b,c,d]:=by
 have h:=Rj hn hd;have e:(([a,b,c,d].filter fun k=>eF m.keys k).length:Int)=((b2 (eF m.keys a)+b2 (eF m.keys b))+b2 (eF m.keys c))+b2 (eF m.keys d):=by cases h1:eF m.keys a<;>cases h2:eF m.keys b<;>cases h4:eF m.keys c<;>cases h5:eF m.keys d<;>simp[List.filter,h1,h2,h4,h5,b2]
 unfold dY;rw[qC h3 hl,qC h3 hl,qC h3 hl,qC h3 hl,nK h3,cond_false];grind
def Nd(y:Node):Prop:=y.kind=3->y.keys.length=y.kids.length/\y.keys.Nodup
theorem aCY{y:Node}(hy:Nd y):RX y=Zb y/\lgB y=(dY y pkL&&(!(U9 y)&&kE (Zb y))):=by
 have c:=atv;have e1:RX y=Zb y:=by unfold RX Zb;rw[(c ⟨y,0,false⟩ nG).2,(c ⟨y,0,false⟩ dz).2]
 refine⟨e1,?_⟩;unfold lgB;rw[e1];have hb:(lgF y).bad=((y.kind != 3)||U9 y):=by show((((yB (JG (f0 y) dz) nG) || !(bT y qg [])) || !(bT y za [])))=_;rw[(c (JG (f0 y) dz) nG).1];show(((yB (f0 y) dz || !(MK y nG)) || !(bT y qg [])) || !(bT y za []))=_;rw[(c (f0 y) dz).1];show(((((y.kind != 3) || !(MK y dz)) || !(MK y nG)) || !(bT y qg [])) || !(bT y za []))=_;unfold U9;rw[show bT y za UO=bT y za []from rfl];grind
 have hL:(lgF y).left=((((y.keys.length:Int)-b2 (aD y dz))-b2 (aD y nG))-b2 (aD y qg))-b2 (aD y za):=rfl;rw[hb,hL];by_cases h3:y.kind=3
 ·obtain⟨hl,hn⟩:=hy h3;have h4:=lf4 h3 hl hn dz nG qg za (by decide);rw[h4,nK h3];show _=(dY y [dz,nG,qg,za]&&_)
  grind
 ·have:dY y pkL=false:=by unfold dY;rw[kr h3];rfl
  rw[kr h3,this];rfl
theorem aCZ{y:Node}(hy:Nd y):poB y = !(Ep y==[])/\(poB y=true->poX y=Ep y):=by
 unfold poB poX Ep;cases hk:y.kind==1 with
 | true =>
  simp only[cond_true];by_cases he:(jg y.text).2=0
  ·have hr:=ank y.text he;have hne:=(ac9 hr).2;grind
  grind
 | false =>
  obtain⟨e1,e2⟩:=aCY hy;simp only[cond_false];rw[e1,e2];cases dY y pkL with
  | false=>exact⟨rfl,fun h=>by cases h⟩
  | true =>
   cases U9 y with
   | true=>exact⟨rfl,fun h=>by cases h⟩
   | false =>
    simp only[adr,aec,cond_false,aeu];cases hr:kE (Zb y)with
    | false=>rw[aj4 hr];exact⟨rfl,fun h=>by cases h⟩
    | true =>have hne:=(ac9 hr).2;grind
theorem aC0{y:Node}(hz:Kz y)(h:(Ep y==[])=false):gP (Ep y) zn:=by
 unfold Ep at h ⊢;cases hk:y.kind==1 with
 | true =>
  rw[hk,cond_true]at h;rw[cond_true];by_cases he:(jg y.text).2=0
  ·rw[nK he,cond_false];refine axp (ank y.text he) ?_;obtain⟨h1,h2⟩:=zT y.text (by have:=hz.text;omega);rw[FK y.text (by have:=hz.text;omega) h1]at h2;have h2:(jg y.text).1.host.length<=y.text.length:=h2;have:=hz.text;omega
  ·rw[kr he]at h;cases h
 | false =>
  rw[hk,cond_false]at h;rw[cond_false];cases ho:dY y pkL with
  | false=>rw[ho]at h;cases h
  | true =>
   rw[ho]at h;simp only[adr,cond_false]at h ⊢;cases hn:U9 y with
   | true=>rw[hn]at h;cases h
   | false =>
    rw[hn]at h;simp only[cond_false]at h ⊢;cases hr:kE (Zb y)with
    | false=>rw[aj4 hr]at h;cases h
    | true=>exact axp hr (by have:=Wo hz.Rb qg [] (by decide);show(aM y qg []).length<=_;omega)
theorem anJ:∀(l:List Node) (o:Node),(poS l o true).2=true
 | [],_=>rfl
 | _::t,_=>anJ t _
theorem anK:∀(l:List (aqO)) (r:List Node) (o:Node),(UQ l r o true).2=true
 | [],_,_=>rfl
 | _::_,[],_=>rfl
 | _::t,_::r,_=>anK t r _
theorem atw:∀(l:List Node) (o:Node),(∀y∈l,Nd y/\Kz y)->Ip gP o->((poS l o false).2=true/\Va l o=none)\/∃o',Va l o=some o'/\poS l o false=(o',false)/\Ip gP o'
 | [],o,_,h=>.inr ⟨o,rfl,rfl,h⟩
 | y::t,o,hl,h=>by
  obtain⟨h1,h2⟩:=aCZ (hl y abd).1;unfold Va poS;rw[h1,cond_false,h.with_];cases hb:Ep y==[]with
  | true=>exact .inl ⟨anJ t _,rfl⟩
  | false =>rw[hb]at h1;rw[h2 h1];exact atw t _ (fun q hq=>hl q (abb _ hq)) (h.put (aC0 (hl y abd).2 hb))
theorem aj5(s:aqO):Ep (bI s)=bif(jg s).2 != 0 then[]else zB (jg s).1:=rfl
theorem key_eq(s:aqO)(k:Int):(bif(bif(!(zB (jg s).1==s))then true else(s==[]))then true else(k != 0))=(bif(bif k==0 then Ep (bI s)==s else false)then s==[]else true):=by
 rw[aj5];by_cases he:(jg s).2=0
 ·grind
 ·rw[kr he,cond_true,atu s he,aj4 aCW];grind
theorem atx:∀(l:List (aqO)) (r:List Node) (o:Node),(∀s∈l,s.length<=2000)->Ip gP o->((UQ l r o false).2=true/\GJ l r o=none)\/∃o',GJ l r o=some o'/\UQ l r o false=(o',false)/\Ip gP o'
 | [],_,o,_,h=>.inr ⟨o,by unfold GJ;rfl,by unfold UQ;rfl,h⟩
 | _::_,[],o,_,h=>.inr ⟨o,by unfold GJ;rfl,by unfold UQ;rfl,h⟩
 | s::t,y::r,o,hl,h=>by
  unfold GJ UQ;rw[cond_false,key_eq,h.with_];cases hb:(bif(bif y.kind==0 then Ep (bI s)==s else false)then s==[]else true)with
  | true=>exact .inl ⟨anK t r _,rfl⟩
  | false =>
   refine atx t r _ (fun q hq=>hl q (abb _ hq)) (h.put ?_);have hc:(bif y.kind==0 then Ep (bI s)==s else false)=true:=by grind
   rw[hc,cond_true]at hb;have hs:Ep (bI s)=s:=by grind
   have hne:s≠[]:=by simpa using hb
   rw[aj5]at hs;by_cases he:(jg s).2=0
   ·rw[nK he]at hs;exact⟨⟨he,hs,hne,by have:=hl s abd;omega⟩,rfl⟩
   grind
theorem aj6{n:Node}(_:n.kind=3->n.keys.length=n.kids.length)(hkd:n.kind<=3)(hs:∀s∈n.keys,s.length<=2000)(hy:∀y∈n.kids,Nd y/\Kz y):(RY n=xV n/\RZ n=(bif Al n then 0 else 10))/\(Al n=true->Sp gP (xV n)/\(xV n).keys.length<=32):=by
 unfold RY RZ xV Al;refine att aCX av1 (poP n) (LG n) ?_;unfold poP LG qH;by_cases h32:(32:Int)<(n.kids.length:Int)
 ·grind
 ·rw[dF h32,dT (show(n.kids.length:Int)<=32 by omega),cond_false];by_cases h2:n.kind=2
  ·rw[iU h2,dF (show ¬ n.kind<2 by omega)];exact atw n.kids zn hy (Ip.nil (.inl rfl))
  ·by_cases h3':n.kind=3
   ·rw[eT h2,iU h3',dF (show ¬ n.kind<2 by omega)];exact atx n.keys n.kids zn hs (Ip.nil (.inl rfl))
   grind
theorem aj7:∀(ks:List (aqO)) (vs:List Node) (o:Node),Fa gP ks vs->ks.Nodup->(∀k∈ks,k∉o.keys)->(o.kind=0\/o.kind=3)->o.keys.length=o.kids.length->o.keys.Nodup->o.text=[]->∃o',GJ ks vs o=some o'/\o'.text=[]/\o'.keys=o.keys++ks/\o'.kids=o.kids++vs
 | [],[],o,_,_,_,_,_,_,ht=>⟨o,by unfold GJ;rfl,ht,by simp,by simp⟩
 | s::t,y::r,o,hf,hn,hd,hk,hl,hnd,ht=>by
  have hn':=List.nodup_cons.1 hn;obtain⟨⟨g1,g2,g3,_⟩,rfl⟩:=hf.1;have hop:Ep (bI s)=s:=by rw[aj5,nK g1];exact g2
  have hz:(s==[])=false:=by simpa using g3
  obtain⟨p1,p2⟩:=adj hk hl hnd (v:=zn) (hd s abd);unfold GJ;rw[hop,show(zn.kind==0)=true from rfl,cond_true,show(s==s)=true by simp,cond_true,hz,cond_false,p1];obtain⟨o',q1,q2,q3,q4⟩:=aj7 t r ⟨3,[],o.keys++[s],o.kids++[zn]⟩ hf.2 hn'.2 (fun k hm hq=>by
   rcases List.mem_append.1 hq with hq | hq
   ·exact hd k (abb _ hm) hq
   ·rw[List.mem_singleton.1 hq]at hm;exact hn'.1 hm) (.inr rfl) (by simp[hl]) p2 rfl
  grind
 | [],_::_,_,h,_,_,_,_,_,_=>h.elim
 | _::_,[],_,h,_,_,_,_,_,_=>h.elim
theorem aqs{a:Node}(h:Sp gP a)(h32:a.keys.length<=32):xV a=a/\Al a=true:=by
 have hl:=LP h.all;obtain⟨o',q1,q2,q3,q4⟩:=aj7 a.keys a.kids zn h.all (oK h.ss) (fun k _ h=>by cases h) (.inl rfl) rfl anu rfl;have e:LG a=some o':=by unfold LG;rw[dF (show ¬ (32:Int)<(a.kids.length:Int) by omega),cond_false,dF (show ¬ a.kind<2 by rw[h.kind];decide),cond_false,eT (show a.kind≠2 by rw[h.kind];decide),cond_false];exact q1
 unfold xV Al;rw[e];exact anI h av1 h32 q2 (by rw[q3];rfl) (by rw[q4];rfl)
end
section
theorem aC1{y:Node}(hy:Nd y):UY y=Jv y/\plB y=(dY y Vb&&ajN y):=by
 refine⟨rfl,?_⟩;have hb:(plF y).bad=(((((y.kind != 3) || !(bT y jr [])) || !(bT y dz []))||(!(bT y lI [])||OC (aM y lI ow))) || !(bT y lJ [])):=by show(((((((y.kind != 3) || !(bT y jr [])) || !(bT y dz [])) || !(bT y lI []))||OC (aM y lI (Bl false))) || !(bT y lJ [])))=_;rw[show Bl false=ow from rfl];cases(y.kind != 3)<;>cases bT y jr []<;>cases bT y dz []<;>cases bT y lI []<;>cases OC (aM y lI ow)<;>cases bT y lJ []<;>rfl
 have hL:(plF y).left=((((y.keys.length:Int)-b2 (aD y jr))-b2 (aD y dz))-b2 (aD y lI))-b2 (aD y lJ):=rfl;have hK:plK (aM y lJ ze)=(bif(bif aM y lJ ze==[118,111,108,117,109,101]then true else aM y lJ ze==[98,105,110,100])then true else aM y lJ ze==[116,109,112,102,115]):=by unfold plK;cases aM y lJ ze==[98,105,110,100]<;>cases aM y lJ ze==[118,111,108,117,109,101]<;>cases aM y lJ ze==[116,109,112,102,115]<;>rfl
 have hM:sI (UY y)=sI (Jv y):=rfl;unfold plB ajN;rw[hb,hL,hK,hM,Vg,I4,show bT y lJ ze=bT y lJ []from rfl];by_cases h3:y.kind=3
 ·obtain⟨hl,hn⟩:=hy h3;have h4:=lf4 h3 hl hn jr dz lI lJ (by decide);rw[h4,nK h3];show _=(dY y [jr,dz,lI,lJ]&&_)
  cases dY y [jr,dz,lI,lJ]<;>cases bT y jr []<;>cases bT y dz []<;>cases bT y lI []<;>cases tf (aM y lI ow)<;>cases bT y lJ []<;>cases sI (Jv y)<;>rfl
 ·have:dY y Vb=false:=by unfold dY;rw[kr h3];rfl
  rw[kr h3,this];rfl
theorem aC2{y:Node}(hy:Nd y):moB y=Er y/\(Er y=true->moX y=qB y):=by
 unfold moB Er moX qB;cases hk:y.kind==1 with
 | true=>exact⟨rfl,fun _=>rfl⟩
 | false =>
  obtain⟨e1,e2⟩:=aC1 hy;simp only[cond_false];rw[e1,e2];cases dY y Vb with
  | false=>exact⟨rfl,fun h=>by cases h⟩
  | true=>exact⟨rfl,fun _=>rfl⟩
def MN(k:aqO)(v:Node):Prop:=∃m:fO,sI m=true/\m.target=k/\v=bI (oz m)/\k.length<=64
theorem aBJ{m:fO}(hs:m.target.length<=1000000)(h:sI m=true):MN m.target (bI (oz m)):=⟨m,h,rfl,rfl,(ajE hs (ajF hs h).1).2.1⟩
theorem agr{k:aqO}{v:Node}(h:MN k v):l6 v/\v.text.length<=200:=by obtain⟨m,h1,h2,rfl,h3⟩:=h;exact⟨rfl,(anp (by rw[h2];omega) h1).2⟩
theorem aBK(k:aqO)(y:Node)(h:MN k y):wg 10000 11 y=true/\kd 11 y=true:=Wp y (agr h).1
theorem aqt(k:aqO)(y:Node)(h:MN k y):aQ 11 y=y:=LM y (agr h).1
theorem axq{y:Node}(hz:Kz y)(h:Er y=true):MN (qB y).target (bI (oz (qB y))):=by
 obtain⟨_,_,hl⟩:=Pf y hz;refine aBJ (by omega) ?_;unfold Er at h;unfold qB;cases hk:y.kind==1 with
 | true =>rw[hk,cond_true]at h;exact aCM y.text (eq_of_beq h)
 | false =>
  rw[hk,cond_false]at h;cases ho:dY y Vb with
  | false=>rw[ho]at h;cases h
  | true =>
   rw[ho]at h;have h:ajN y=true:=h;show sI (Jv y)=true;unfold ajN at h;cases hr:sI (Jv y)with
   | true=>rfl
   | false =>rw[hr]at h;cases hq:(bif(bif(bif bT y jr []then bT y dz []else false)then Jr y lI ow else false)then bT y lJ ze else false)<;>rw[hq]at h<;>cases h
theorem anL:∀(l:List Node) (o:Node),(moS l o true).2=true
 | [],_=>rfl
 | _::t,_=>anL t _
theorem anM:∀(l:List (aqO)) (r:List Node) (o:Node),(UZ l r o true).2=true
 | [],_,_=>rfl
 | _::_,[],_=>rfl
 | _::t,_::r,_=>anM t r _
theorem aty:∀(l:List Node) (o:Node),(∀y∈l,Nd y/\Kz y)->Ip MN o->((moS l o false).2=true/\Vd l o=none)\/∃o',Vd l o=some o'/\moS l o false=(o',false)/\Ip MN o'
 | [],o,_,h=>.inr ⟨o,rfl,rfl,h⟩
 | y::t,o,hl,h=>by
  obtain⟨h1,h2⟩:=aC2 (hl y abd).1;unfold Vd moS;rw[h1,cond_false,h.with_];cases hb:Er y with
  | false=>exact .inl ⟨anL t _,rfl⟩
  | true =>rw[h2 hb];exact aty t _ (fun q hq=>hl q (abb _ hq)) (h.put (axq (hl y abd).2 hb))
theorem azm(s:aqO)(y:Node):(bif(bif(bif(y.kind != 1)then true else((nH y.text).2 != 0))then true else(!((nH y.text).1.target==s)))then true else(!(oz (nH y.text).1==y.text)))=(bif !(Er y)then true else(bif(bif y.kind != 1 then true else !(y.text==oz (qB y)))then true else !(s==(qB y).target))):=by
 by_cases hk:y.kind=1
 ·have e1:Er y=((nH y.text).2==0):=by unfold Er;rw[iU hk];rfl
  have e2:qB y=(nH y.text).1:=by unfold qB;rw[iU hk];rfl
  rw[e1,e2,nK hk,show((nH y.text).1.target==s)=(s==(nH y.text).1.target)from Bool.beq_comm,show(oz (nH y.text).1==y.text)=(y.text==oz (nH y.text).1)from Bool.beq_comm,show((nH y.text).2 != 0) = !((nH y.text).2==0)from rfl];cases(nH y.text).2==0<;>cases s==(nH y.text).1.target<;>cases y.text==oz (nH y.text).1<;>rfl
 ·rw[kr hk];cases Er y<;>rfl
theorem atz:∀(l:List (aqO)) (r:List Node) (o:Node),(∀y∈r,Kz y/\(y.kind=1->y=bI y.text))->Ip MN o->((UZ l r o false).2=true/\GK l r o=none)\/∃o',GK l r o=some o'/\UZ l r o false=(o',false)/\Ip MN o'
 | [],_,o,_,h=>.inr ⟨o,by unfold GK;rfl,by unfold UZ;rfl,h⟩
 | _::_,[],o,_,h=>.inr ⟨o,by unfold GK;rfl,by unfold UZ;rfl,h⟩
 | s::t,y::r,o,hl,h=>by
  unfold GK UZ;rw[cond_false,azm,h.with_];cases hb:(bif !(Er y)then true else(bif(bif y.kind != 1 then true else !(y.text==oz (qB y)))then true else !(s==(qB y).target)))with
  | true=>exact .inl ⟨anM t r _,rfl⟩
  | false =>
   have hc:Er y=true/\y.kind=1/\y.text=oz (qB y)/\s=(qB y).target:=by
    cases h1:Er y with
    | false=>rw[h1]at hb;cases hb
    | true =>
     rw[h1]at hb;by_cases h2:y.kind=1
     ·rw[nK h2]at hb;cases h3:y.text==oz (qB y)with
      | false=>rw[h3]at hb;cases hb
      | true =>rw[h3]at hb;exact⟨rfl,h2,by simpa using h3,by simpa using hb⟩
     ·rw[kr h2]at hb;cases hb
   obtain⟨c1,c2,c3,c4⟩:=hc;have hy:=hl y abd;have e:y=bI (oz (qB y)):=by rw[<- c3];exact hy.2 c2
   have e2:aY o s y=aY o (qB y).target (bI (oz (qB y))):=by rw[<- c4,<- e]
   rw[cond_false,e2];exact atz t r _ (fun q hq=>hl q (abb _ hq)) (h.put (axq hy.1 c1))
theorem aeN{n:Node}(hkd:n.kind<=3)(hy:∀y∈n.kids,(Nd y/\Kz y)/\(y.kind=1->y=bI y.text)):(R4 n=xW n/\R5 n=(bif Am n then 0 else 10))/\(Am n=true->Sp MN (xW n)/\(xW n).keys.length<=32):=by
 unfold R4 R5 xW Am;refine att aBK aqt (moP n) (LH n) ?_;unfold moP LH qH;by_cases h32:(32:Int)<(n.kids.length:Int)
 ·rw[dT h32,dF (show ¬ (n.kids.length:Int)<=32 by omega)];refine .inl ⟨?_,rfl⟩;cases n.kind==2<;>cases n.kind==3<;>rfl
 ·rw[dF h32,dT (show(n.kids.length:Int)<=32 by omega),cond_false];by_cases h2:n.kind=2
  ·rw[iU h2,dF (show ¬ n.kind<2 by omega)];exact aty n.kids zn (fun y h=>(hy y h).1) (Ip.nil (.inl rfl))
  ·by_cases h3':n.kind=3
   ·rw[eT h2,iU h3',dF (show ¬ n.kind<2 by omega)];exact atz n.keys n.kids zn (fun y h=>⟨(hy y h).1.2,(hy y h).2⟩) (Ip.nil (.inl rfl))
   ·rw[eT h2,eT h3',dT (show n.kind<2 by omega)];exact .inl ⟨rfl,rfl⟩
theorem aj8:∀(ks:List (aqO)) (vs:List Node) (o:Node),Fa MN ks vs->ks.Nodup->(∀k∈ks,k∉o.keys)->(o.kind=0\/o.kind=3)->o.keys.length=o.kids.length->o.keys.Nodup->o.text=[]->∃o',GK ks vs o=some o'/\o'.text=[]/\o'.keys=o.keys++ks/\o'.kids=o.kids++vs
 | [],[],o,_,_,_,_,_,_,ht=>⟨o,by unfold GK;rfl,ht,by simp,by simp⟩
 | s::t,y::r,o,hf,hn,hd,hk,hl,hnd,ht=>by
  have hn':=List.nodup_cons.1 hn;obtain⟨m,g1,rfl,rfl,g2⟩:=hf.1;have hb:=(anp (by omega) g1).1;have e1:Er (bI (oz m))=true:=by show((nH (oz m)).2==0)=true;rw[hb];rfl
  have e2:qB (bI (oz m))=m:=by show(nH (oz m)).1=m;rw[hb]
  obtain⟨p1,p2⟩:=adj hk hl hnd (v:=bI (oz m)) (hd m.target abd);unfold GK;rw[e1,e2,show((bI (oz m)).kind != 1)=false from rfl,show(bI (oz m)).text=oz m from rfl,show(oz m==oz m)=true by simp,show(m.target==m.target)=true by simp];simp only[adr,cond_false];rw[p1];obtain⟨o',q1,q2,q3,q4⟩:=aj8 t r ⟨3,[],o.keys++[m.target],o.kids++[bI (oz m)]⟩ hf.2 hn'.2 (fun k hm hq=>by
   rcases List.mem_append.1 hq with hq | hq
   ·exact hd k (abb _ hm) hq
   ·rw[List.mem_singleton.1 hq]at hm;exact hn'.1 hm) (.inr rfl) (by simp[hl]) p2 rfl
  exact⟨o',q1,q2,by rw[q3];simp,by rw[q4];simp⟩
 | [],_::_,_,h,_,_,_,_,_,_=>h.elim
 | _::_,[],_,h,_,_,_,_,_,_=>h.elim
theorem alV{a:Node}(h:Sp MN a)(h32:a.keys.length<=32):xW a=a/\Am a=true:=by
 have hl:=LP h.all;obtain⟨o',q1,q2,q3,q4⟩:=aj8 a.keys a.kids zn h.all (oK h.ss) (fun k _ h=>by cases h) (.inl rfl) rfl anu rfl;have e:LH a=some o':=by unfold LH;rw[dF (show ¬ (32:Int)<(a.kids.length:Int) by omega),cond_false,dF (show ¬ a.kind<2 by rw[h.kind];decide),cond_false,eT (show a.kind≠2 by rw[h.kind];decide),cond_false];exact q1
 unfold xW Am;rw[e];exact anI h aqt h32 q2 (by rw[q3];rfl) (by rw[q4];rfl)
end
section
def si:Nat->Node->Prop
 | 0,_=>False
 | d+1,x=>((x.keys.length<=300/\x.kids.length<=300)/\(x.kind=3->x.keys.length=x.kids.length)/\x.text.length<=200/\∀k∈x.keys,k.length<=200)/\((0<=x.kind/\x.kind<=3)/\(x.kind≠1->x.text=[])/\(x.kind≠3->x.keys=[])/\(x.kind<2->x.kids=[]))/\(x.kind=3->x.keys.Nodup)/\∀y∈x.kids,si d y
theorem FU:∀{d:Nat} {x:Node},si d x->sn d x
 | 0,_,h=>h.elim
 | _+1,_,h=>⟨⟨h.1.1,h.1.2.1,Nat.le_trans h.1.2.2.1 (by decide),fun k hk=>Nat.le_trans (h.1.2.2.2 k hk) (by decide)⟩,h.2.1,fun y hy=>FU (h.2.2.2 y hy)⟩
theorem Rk:∀{d:Nat} {x:Node},sn d x->wg 10000 d x=true
 | 0,_,h=>h.elim
 | _+1,_,h=>fE.2 ⟨Nat.le_trans h.1.1.1 (by decide),Nat.le_trans h.1.1.2 (by decide),h.1.2.1,fun y hy=>Rk (h.2.2 y hy)⟩
theorem aqu:∀{d:Nat} {x:Node},sn d x->kd d x=true
 | 0,_,h=>h.elim
 | _+1,_,h=>FT.2 ⟨⟨h.2.1.1,fun e=>by rw[h.2.1.2.2.1 e];rfl⟩,fun e=>by rw[h.2.1.2.2.2 e];rfl,fun y hy=>aqu (h.2.2 y hy)⟩
theorem axr:∀{d:Nat} {x:Node},sn d x->wr d x
 | 0,_,h=>h.elim
 | _+1,x,h=>⟨h.1.1.1,h.1.1.2,fun e=>by
   rcases e with e | e
   ·rw[h.2.1.2.2.1 (by omega),h.2.1.2.2.2 (by omega)];rfl
   ·exact h.1.2.1 e,h.1.2.2.1,h.1.2.2.2,fun y hy=>axr (h.2.2 y hy)⟩
theorem Wt{B n m:Nat}{x:Node}(h:n<=m)(hx:wg B n x=true):wg B m x=true:=by have:=vK (m-n) hx;rwa[show n+(m-n)=m by omega]at this
theorem axt{n m:Nat}{x:Node}(h:n<=m)(hx:kd n x=true):kd m x=true:=by have:=anv (m-n) hx;rwa[show n+(m-n)=m by omega]at this
theorem Et(d:Nat){s:aqO}(h:s.length<=30000):sn (d+1) (bI s):=⟨⟨⟨aaG _,aaG _⟩,(fun e=>by cases e),h,(fun k hk=>by cases hk)⟩,⟨⟨(by show(0:Int)<=1;decide),(by show(1:Int)<=3;decide)⟩,(fun e=>absurd rfl e),fun _=>rfl,fun _=>rfl⟩,fun y hy=>by cases hy⟩
theorem aBL(d:Nat):sn (d+1) zn:=⟨⟨⟨aaG _,aaG _⟩,(fun e=>by cases e),aaG _,(fun k hk=>by cases hk)⟩,⟨⟨amd 0,(by show(0:Int)<=3;decide)⟩,(fun _=>rfl),fun _=>rfl,fun _=>rfl⟩,fun y hy=>by cases hy⟩
theorem Vj{d:Nat}{a:Node}(h3:a.kind=3)(ht:a.text=[])(hl:a.keys.length=a.kids.length)(hk:a.keys.length<=300)(hs:∀k∈a.keys,k.length<=30000)(hy:∀y∈a.kids,sn d y):sn (d+1) a :=
 ⟨⟨⟨hk,by omega⟩,fun _=>hl,by rw[ht];exact aaG _,hs⟩,⟨⟨by rw[h3];decide,by rw[h3];decide⟩,fun _=>ht,fun e=>absurd h3 e,fun e=>absurd (h3▸e) (by decide)⟩,hy⟩
theorem aBM{d:Nat}{l:List (aqO)}(hl:l.length<=300)(hs:∀s∈l,s.length<=30000):sn (d+2) (sS l) :=
 ⟨⟨⟨aaG _,by show(l.map bI).length<=300;rw[List.length_map];exact hl⟩,(fun e=>by cases e),aaG _,(fun k hk=>by cases hk)⟩,⟨⟨(by show(0:Int)<=2;decide),(by show(2:Int)<=3;decide)⟩,(fun _=>rfl),(fun _=>rfl),fun e=>absurd (show(2:Int)<2 from e) (by decide)⟩,fun y hy=>by obtain⟨s,h1,rfl⟩:=List.mem_map.1 hy;exact Et d (hs s h1)⟩
theorem Rl{d:Nat}{x:Node}(h:si (d+1) x):Nd x:=fun e=>⟨h.1.2.1 e,h.2.2.1 e⟩
theorem Vk{d:Nat}{x:Node}(h:si (d+1) x)(h1:x.kind=1):x=bI x.text:=asS (FU h) h1
theorem axu{d:Nat}{x:Node}(h:si (d+1) x)(h1:x.kind=0):x=zn:=awV (FU h) h1
theorem abv{d:Nat}{x:Node}(h:si (d+2) x)(k:aqO):aJ x k=zn\/si (d+1) (aJ x k):=by
 rcases O9 x k with e | e
 ·exact .inl e
 ·exact .inr (h.2.2.2 _ e)
theorem Wu{d:Nat}{x:Node}(h:si (d+2) x):Kz x:=⟨Nat.le_trans h.1.2.2.1 (by decide),Oq (Rk (FU h)) (by decide),fun k=>by
 rcases abv h k with e | e
 ·rw[e];exact aaG _
 ·exact Nat.le_trans e.1.2.2.1 (by decide)⟩
theorem aC3{d:Nat}{v:Node}(h:si (d+4) v)(hd:d+4<=12):Rz v:=by
 have hw:=Wt hd (Rk (FU h));have hkz:∀y∈v.kids,Kz y:=fun y hy=>Wu (d:=d+1) (h.2.2.2 y hy)
 have he:fit (iZ v)=true/\((iZ v).kind=3->wg 10000 12 (iZ v)=true):=by
  unfold iZ;by_cases h1:v.kind=1
  ·rw[iU h1,cond_true];have hv:=Vk h h1;have hw2:wg 10000 12 (⟨3,[],[iY],[v]⟩:Node)=true:=fE.2 ⟨by simp,by simp,fun _=>rfl,fun y hy=>by rw[List.mem_singleton.1 hy,hv];exact oI _ _⟩;exact⟨Oq hw2 (by decide),fun _=>hw2⟩
  ·rw[eT h1,cond_false];exact⟨Oq hw (by decide),fun _=>hw⟩
 refine⟨Wu h,Nat.le_trans h.1.1.1 (by decide),Nat.le_trans h.1.1.2 (by decide),h.1.2.1,h.2.1.1.2,fun s hs=>Nat.le_trans (h.1.2.2.2 s hs) (by decide),hkz,he.1,he.2,?_,?_⟩
 ·rcases abv h bQ with e | e
  ·rw[e];exact aaG _
  ·exact Nat.le_trans e.1.1.2 (by decide)
 ·rcases abv h bQ with e | e
  ·rw[e];exact fun s hs=>by cases hs
  ·exact fun s hs=>by have:=Ze (B:=200) (fun y hy=>(e.2.2.2 y hy).1.2.2.1) s hs;omega
structure Fo (k:aqO) (a:Node):Prop where
 nz:a.kind≠0
 fd:fdF k a=some (a,0)
 CQ:sn 6 a
 srt:aQ 12 a=a
def Vl(n:Node)(k:Int):Bool:=(decide (n.text.length<=1000000)&&decide (n.kids.length<=1000000))&&(decide (0<=k)&&decide (k<=5))
def nJ(n:Node)(k:Int):Node:=bif k==5 then CK n else DN n k
def Pn(n:Node)(k:Int):Bool:=bif k==5 then F4 n else FQ n k
theorem k6{k:Int}(h0:0<=k)(h5:k<=5):k=0\/k=1\/k=2\/k=3\/k=4\/k=5:=by omega
theorem I5(f:aqO->Bool)(n:Node):wX f n=(bif !(JD f n)then n else zn)/\wY f n=(bif !(JD f n)then 0 else 10):=by unfold wX wY;cases JD f n<;>exact⟨rfl,rfl⟩
theorem atA(n:Node):byV n=(bif !(JE n)then bI (Ai (kD n.text))else zn)/\byE n=(bif !(JE n)then 0 else 10):=by unfold byV byE;cases JE n<;>exact⟨rfl,rfl⟩
structure Ask (n:Node) (k:Int):Prop where
 f:Vl n k=true
 s:Oo 12 (nJ n k) (nJ n k)=true
 again:Pn n k=true->Vl (nJ n k) k=true/\nJ (nJ n k) k=nJ n k/\Pn (nJ n k) k=true
theorem anN{a b:Bool}(h:(!a)=b):a = !b:=by cases a<;>cases b<;>first | rfl | cases h
theorem azn(l:List (aqO))(h:l.length<=10000):wg 10000 12 (sS l)=true :=
 fE.2 ⟨aaG _,by show(l.map bI).length<=10000;rw[List.length_map];exact h,fun e=>absurd e (by show(2:Int)≠3;decide),fun y hy=>by obtain⟨s,_,rfl⟩:=List.mem_map.1 hy;exact oI _ _⟩
theorem anO:∀l:List (aqO),lq (l.map bI)=some l
 | []=>rfl
 | s::l=>by show lq (bI s::l.map bI)=_;rw[lq,anO l];rfl
theorem Zi{f:aqO->Bool}{n:Node}(h:JD f n=false):n.kind=1:=by
 unfold JD at h;by_cases hk:n.kind=1
 ·exact hk
 ·rw[kr hk]at h;cases h
theorem atB{n:Node}{k:Int}(h:FQ n k=true):n.kind=1:=by
 have h:=anN h;by_cases h2:k=2
 ·subst h2;have h:JE n=false:=h;unfold JE at h;by_cases hk:n.kind=1
  ·exact hk
  ·rw[kr hk]at h;cases h
 ·rw[eT h2,cond_false]at h;cases h0:k==0<;>rw[h0]at h
  ·cases h1:k==1<;>rw[h1]at h
   ·cases h3:k==3<;>rw[h3]at h<;>exact Zi h
   ·exact Zi h
  ·exact Zi h
theorem azo{n:Node}(hn:wf 300 12 n=true){k:Int}(h0:0<=k)(h4:k<=4):Ask n k:=by
 have w:=TI.1 hn;have hk5:(k==5)=false:=eT (by omega);have f:Vl n k=true:=by simp only[Vl,abj,adB];exact⟨⟨by have:=w.2.2.2.1;omega,by have:=w.2.1;omega⟩,h0,by omega⟩
 have e1:nJ n k=DN n k:=by unfold nJ;rw[hk5];rfl
 have e2:Pn n k=FQ n k:=by unfold Pn;rw[hk5];rfl
 by_cases h2:k=2
 ·subst h2;cases hb:FQ n 2 with
  | false =>
   have:nJ n 2=zn:=by rw[e1];unfold DN;rw[hb];rfl
   exact⟨f,by rw[this];exact Pj Ph,fun h=>by rw[e2,hb]at h;cases h⟩
  | true =>
   have e:nJ n 2=bI (Ai (kD n.text)):=by rw[e1];unfold DN;rw[hb];rfl
   have hx:JE n=false:=anN hb;have hz:kD n.text<=1125899906842624:=by
    unfold JE at hx;have hE:XA n.text=0:=by
     by_cases h:XA n.text=0
     ·exact h
     ·rw[kr h]at hx;cases hq:n.kind != 1<;>rw[hq]at hx<;>cases hx
    unfold kD XA at *;unfold IW at *;cases hq:FI (n.text.drop (jV n.text))with
    | false=>rw[hq]at hE;cases hE
    | true =>
     simp only[adr,cond_false];obtain⟨u0,u3⟩:=af5 (n.text.drop (jV n.text));have hb:=fun P (h:(0:Int)<=1125899906842624 / P)=>(IK (n.text.take (jV n.text)) _ h).2
     have hb1:=hb 1 (by decide);have hb2:=hb 1024 (by decide);have hb3:=hb 1048576 (by decide);have hb4:=hb 1073741824 (by decide);unfold BL at hb1 hb2 hb3 hb4;rcases MI u0 u3 with⟨_,h⟩ | ⟨_,h⟩ | ⟨_,h⟩ | ⟨_,h⟩<;>rw[h]<;>omega
   have h0:=axb n.text;have zt:=ay6 h0 hz;have hlen:(Ai (kD n.text)).length<=22:=by
    unfold Ai;have hl:=qX (kD n.text / 2 ^ (Int.toNat (10*kF (kD n.text))));have:(sfx (kF (kD n.text))).length<=1:=by
     obtain⟨u0,u3⟩:=aa7 (kD n.text);have:kF (kD n.text)=0\/kF (kD n.text)=1\/kF (kD n.text)=2\/kF (kD n.text)=3:=by omega
     rcases this with h | h | h | h<;>rw[h]<;>decide
    cases(bif decide (kD n.text<0)then true else decide ((1125899906842624:Int)<kD n.text))with
    | true=>exact aaG _
    | false=>rw[cond_false,List.length_append];omega
   have hv0:kD n.text≠0:=by intro h;unfold JE at hx;rw[iU h]at hx;cases hq:(bif n.kind != 1 then true else XA n.text != 0)<;>rw[hq]at hx<;>cases hx
   have hB:JE (bI (Ai (kD n.text)))=false:=by unfold JE XA kD;show(bif(bif(1:Int)!=1 then true else(IW (Ai (kD n.text))).2 != 0)then true else(IW (Ai (kD n.text))).1==0)=false;rw[zt];exact eT hv0
   refine⟨f,by rw[e];exact Pj (oI _ _),fun _=>?_⟩;rw[e];have hOB:FQ (bI (Ai (kD n.text))) 2=true:=by show(!(JE (bI (Ai (kD n.text)))))=true;rw[hB];rfl
   refine⟨?_,?_,hOB⟩
   ·simp only[Vl,abj,adB];exact⟨⟨by show(Ai (kD n.text)).length<=1000000;omega,aaG _⟩,by decide,by decide⟩
   ·show DN (bI (Ai (kD n.text))) 2=_;unfold DN;rw[hOB];show bI (Ai (kD (Ai (kD n.text))))=_;unfold kD at zt ⊢;rw[zt]
 ·have e3:nJ n k=bif FQ n k then n else zn:=by rw[e1];unfold DN;rw[eT h2];rfl
  cases hb:FQ n k with
  | false=>exact⟨f,by rw[e3,hb];exact Pj Ph,fun h=>by rw[e2,hb]at h;cases h⟩
  | true =>
   have e:nJ n k=n:=by rw[e3,hb];rfl
   exact⟨f,by rw[e];exact Pj (apf (by decide) (awu hn)),fun _=>by rw[e];exact⟨f,e,e2.trans hb⟩⟩
theorem atC{n:Node}(hn:wf 300 12 n=true):Ask n 5:=by
 have w:=TI.1 hn;have f:Vl n 5=true:=by simp only[Vl,abj,adB];exact⟨⟨by have:=w.2.2.2.1;omega,by have:=w.2.1;omega⟩,by decide,by decide⟩
 cases hb:F4 n with
 | false =>
  have e:nJ n 5=zn:=by show CK n=zn;unfold CK;rw[hb];rfl
  exact⟨f,by rw[e];exact Pj Ph,fun h=>absurd (show F4 n=true from h) (by rw[hb];decide)⟩
 | true =>
  have e:nJ n 5=sS (jP n):=by show CK n=_;unfold CK;rw[hb];rfl
  have hl:(jP n).length<=32:=by
   unfold jP;by_cases h1:n.kind=1
   ·rw[iU h1];exact Q5 _
   ·rw[eT h1,cond_false];unfold F4 at hb;rw[eT h1,cond_false]at hb;have hb0:pY n=true:=hb;unfold pY at hb;have:=DL n;rw[Bg hb0]at this;by_cases h2:n.kind=2
    ·rw[iU h2,cond_true,abj,adB]at hb;omega
    ·rw[eT h2]at hb;simp at hb
  refine⟨f,by rw[e];exact Pj (azn _ (by omega)),fun _=>?_⟩;rw[e];have hT:lq (sS (jP n)).kids=some (jP n):=anO _;have hB:F4 (sS (jP n))=true:=by
   show(bif(2:Int)==1 then _ else pY (sS (jP n)))=true;show pY (sS (jP n))=true;unfold pY;rw[hT];show(true&&(bif(2:Int)==2 then decide (((sS (jP n)).kids.length:Int)<=32)else false))=true;have:(sS (jP n)).kids.length=(jP n).length:=by show((jP n).map bI).length=_;rw[List.length_map]
   rw[this];show decide (((jP n).length:Int)<=32)=true;exact decide_eq_true (by omega)
  refine⟨?_,?_,hB⟩
  ·simp only[Vl,abj,adB];exact⟨⟨aaG _,by show((jP n).map bI).length<=1000000;rw[List.length_map];omega⟩,by decide,by decide⟩
  ·show CK (sS (jP n))=_;unfold CK;rw[hB];show sS (bH (sS (jP n)))=_;unfold bH;rw[hT];rfl
theorem atD(B:Nat):∀(n:Nat) (t w:aqO) (b:Bool) (out l:List (aqO)),kg n t w b out=some l->w.length+t.length<=B->(∀s∈out,s.length<=B)->∀s∈l,s.length<=B:=by
 have put:∀{w:aqO} {b:Bool} {out:List (aqO)},w.length<=B->(∀s∈out,s.length<=B)->∀s∈(bif b then out++[w]else out),s.length<=B:=by
  intro w b out hw ho s hs;cases b with
  | false=>exact ho s hs
  | true =>
   rcases List.mem_append.1 hs with h | h
   ·exact ho s h
   ·rw[List.mem_singleton.1 h];exact hw
 intro n
 induction n with
 | zero=>intro t w b out l h;cases h
 | succ n ih =>
  intro t w b out l h hB ho;cases t with
  | nil =>have h:some (bif b then out++[w]else out)=some l:=h;cases h;exact put (by simpa using hB) ho
  | cons c t =>
   rw[List.length_cons]at hB;by_cases hc:sw ((c.toNat:Nat):Int)=true
   ·simp only[kg,hc,cond_true]at h;refine ih t _ false _ l h ?_ (put (by omega) ho);cases b
    ·show w.length+t.length<=B;omega
    ·show 0+t.length<=B;omega
   ·simp only[kg,Bool.eq_false_iff.2 hc,cond_false]at h;cases hq:Lj (c::t)with
    | none=>rw[hq]at h;cases h
    | some q =>rw[hq]at h;obtain⟨q1,q2,q3⟩:=asN hq;rw[List.length_cons]at q1;refine ih _ _ true out l h ?_ ho;rw[List.length_append,adH,List.length_cons];omega
theorem azp(t:aqO):∀s∈QZ t,s.length<=t.length:=by
 intro s hs;unfold QZ p9 at hs;cases hq:kg (t.length+1) t [] false []with
 | none=>rw[hq]at hs;cases hs
 | some l =>
  rw[hq]at hs;have hs:s∈(bif decide ((32:Int)<(l.length:Int))then[]else l):=hs;cases hd:decide ((32:Int)<(l.length:Int))with
  | true=>rw[hd]at hs;cases hs
  | false =>rw[hd]at hs;exact atD t.length _ t [] false [] l hq (by simp) (fun s hs=>by cases hs) s hs
theorem azq(l:List (aqO)):aQ 12 (sS l)=sS l:=by have e:aQ 12 (sS l)=⟨2,[],[],(l.map bI).map (aQ 11)⟩:=rfl;rw[e,List.map_map];rfl
theorem axv{d:Nat}:∀{n:Nat} {x:Node},si n x->wf 300 (n+d) x=true
 | 0,_,h=>h.elim
 | n+1,x,h=>by rw[Nat.add_right_comm];exact TI.2 ⟨h.1.1.1,h.1.1.2,h.1.2.1,h.1.2.2.1,h.1.2.2.2,fun y hy=>axv (h.2.2.2 y hy)⟩
theorem anP{e:Nat}{v:Node}(h:si (e+4) v)(he:e+4<=11){j:Int}(h0:0<=j)(h5:j<=5):vo v j=nJ v j/\uE v j=Pn v j/\(Pn v j=true->(nJ v j).kind≠0/\sn 6 (nJ v j)/\aQ 12 (nJ v j)=nJ v j/\nJ (nJ v j) j=nJ v j/\Pn (nJ v j) j=true):=by
 have hw:wf 300 12 v=true:=by have:=axv (d:=12-(e+4)) h;rwa[show e+4+(12-(e+4))=12 by omega]at this
 have e1:vo v j=nJ v j:=by
  unfold vo nJ;by_cases h5':j=5
  ·rw[iU h5',dF (by omega)];rfl
  ·rw[eT h5',dT (show j<5 by omega)];rfl
 have e2:uE v j=Pn v j:=by
  unfold uE Pn;by_cases h5':j=5
  ·rw[iU h5',dF (by omega)];rfl
  ·rw[eT h5',dT (show j<5 by omega)];rfl
 refine⟨e1,e2,fun hb=>?_⟩;have shape:(nJ v j).kind≠0/\sn 6 (nJ v j)/\aQ 12 (nJ v j)=nJ v j:=by
  by_cases h5':j=5
  ·subst h5';have hb:F4 v=true:=hb;have e:nJ v 5=sS (jP v):=by show CK v=_;unfold CK;rw[hb];rfl
   rw[e];refine⟨by show(2:Int)≠0;decide,?_,azq _⟩;have hl:(jP v).length<=300/\∀s∈jP v,s.length<=30000:=by
    unfold jP;by_cases h1:v.kind=1
    ·rw[iU h1,cond_true];refine⟨Nat.le_trans (Q5 _) (by decide),fun s hs=>?_⟩;have:=azp v.text s hs;have:=h.1.2.2.1;omega
    ·rw[eT h1,cond_false];exact O8 (FU h)
   exact aBM (d:=4) hl.1 hl.2
  ·have e:nJ v j=DN v j:=by unfold nJ;rw[eT h5'];rfl
   have hb:FQ v j=true:=by unfold Pn at hb;rw[eT h5']at hb;exact hb
   have hk:=atB hb;rw[e];unfold DN;rw[hb,cond_true];by_cases h2:j=2
   ·rw[iU h2,cond_true];refine⟨by show(1:Int)≠0;decide,Et 5 ?_,rfl⟩;have hl:=qX (kD v.text / 2 ^ (Int.toNat (10*kF (kD v.text))));unfold Ai;cases(bif decide (kD v.text<0)then true else decide ((1125899906842624:Int)<kD v.text))with
    | true=>exact aaG _
    | false =>
     rw[cond_false,List.length_append];have:(sfx (kF (kD v.text))).length<=1:=by
      obtain⟨u0,u3⟩:=aa7 (kD v.text);have:kF (kD v.text)=0\/kF (kD v.text)=1\/kF (kD v.text)=2\/kF (kD v.text)=3:=by omega
      rcases this with h | h | h | h<;>rw[h]<;>decide
     omega
   ·rw[eT h2,cond_false];have hv:=Vk h hk;refine⟨by omega,?_,by rw[hv];rfl⟩;rw[hv];exact Et 5 (Nat.le_trans h.1.2.2.1 (by decide))
 have ag:nJ (nJ v j) j=nJ v j/\Pn (nJ v j) j=true:=by
  by_cases h5':j=5
  ·subst h5';exact((atC hw).again hb).2
  ·exact((azo hw h0 (by omega)).again hb).2
 exact⟨shape.1,shape.2.1,shape.2.2,ag.1,ag.2⟩
end
section
theorem LQ(k:aqO):((k=ac3\/k=ac5\/k=ac6\/k=ac4\/k=ac1\/k=ac2)\/(k=YX\/k=YZ)\/(k=Y2\/k=NS)\/k=Y0\/k=Y1\/k=Y3\/k=Y4\/k=Y5)\/qM k = -1/\∀v,fdF k v=none:=by
 by_cases h0:k=ac3
 ·exact .inl (.inl (.inl h0))
 by_cases h1:k=ac5
 ·exact .inl (.inl (.inr (.inl h1)))
 by_cases h2:k=ac6
 ·exact .inl (.inl (.inr (.inr (.inl h2))))
 by_cases h3:k=ac4
 ·exact .inl (.inl (.inr (.inr (.inr (.inl h3)))))
 by_cases h4:k=ac1
 ·exact .inl (.inl (.inr (.inr (.inr (.inr (.inl h4))))))
 by_cases h5:k=ac2
 ·exact .inl (.inl (.inr (.inr (.inr (.inr (.inr h5))))))
 by_cases h6:k=YX
 ·exact .inl (.inr (.inl (.inl h6)))
 by_cases h7:k=YZ
 ·exact .inl (.inr (.inl (.inr h7)))
 by_cases h8:k=Y2
 ·exact .inl (.inr (.inr (.inl (.inl h8))))
 by_cases h9:k=NS
 ·exact .inl (.inr (.inr (.inl (.inr h9))))
 by_cases h10:k=Y0
 ·exact .inl (.inr (.inr (.inr (.inl h10))))
 by_cases h11:k=Y1
 ·exact .inl (.inr (.inr (.inr (.inr (.inl h11)))))
 by_cases h12:k=Y3
 ·exact .inl (.inr (.inr (.inr (.inr (.inr (.inl h12))))))
 by_cases h13:k=Y4
 ·exact .inl (.inr (.inr (.inr (.inr (.inr (.inr (.inl h13)))))))
 by_cases h14:k=Y5
 ·exact .inl (.inr (.inr (.inr (.inr (.inr (.inr (.inr h14)))))))
 right;have e:∀{a:aqO},¬ k=a->(a==k)=false:=fun h=>by simpa using fun h'=>h h'.symm
 refine⟨?_,fun v=>?_⟩
 ·unfold qM Ve;simp only[nbG,e h0,e h1,e h2,e h3,e h4,e h5,e h6,e h7,e h8,e h10,e h11,e h12,e h13,e h14,cond_false];rw[show(k==NS)=false by simpa using h9];rfl
 ·unfold fdF;rw[if_neg h4,if_neg h5,if_neg h6,if_neg h7,if_neg h10,if_neg h11,if_neg h8,if_neg h9,if_neg h12,if_neg h13,if_neg h14,if_neg h0,if_neg h3,if_neg h1,if_neg h2]
def sU(k:aqO)(v:Node):Prop:=fdF k v=some (vo v (qM k),bif uE v (qM k)then 0 else 10)
theorem axw(v:Node){j:Int}(h5:j<=5):vo v j=nJ v j/\uE v j=Pn v j:=by
 constructor
 ·unfold vo nJ;by_cases h5':j=5
  ·rw[iU h5',dF (by omega)];rfl
  ·rw[eT h5',dT (show j<5 by omega)];rfl
 ·unfold uE Pn;by_cases h5':j=5
  ·rw[iU h5',dF (by omega)];rfl
  ·rw[eT h5',dT (show j<5 by omega)];rfl
theorem aBP(n:Node):wdE n=(bif F4 n then 0 else 10):=rfl
theorem atE(v:Node):sU ac3 v:=by show some (wX vE v,wY vE v)=_;rw[(I5 _ _).1,(I5 _ _).2];rfl
theorem atF(v:Node):sU ac5 v:=by show some (wX Ba v,wY Ba v)=_;rw[(I5 _ _).1,(I5 _ _).2];rfl
theorem atG(v:Node):sU ac6 v:=by show some (byV v,byE v)=_;rw[(atA _).1,(atA _).2];rfl
theorem atH(v:Node):sU ac4 v:=by show some (wX A9 v,wY A9 v)=_;rw[(I5 _ _).1,(I5 _ _).2];rfl
theorem atI(v:Node):sU ac1 v:=by show some (wX su v,wY su v)=_;rw[(I5 _ _).1,(I5 _ _).2];rfl
theorem atJ(v:Node):sU ac2 v:=by show some (CK v,wdE v)=_;rw[aBP];rfl
theorem J8{k:aqO}{v V:Node}{E:Int}{R:Node}{B:Bool}(hf:fdF k v=some (V,E))(hv:vo v (qM k)=R)(hb:uE v (qM k)=B)(h:V=R/\E=(bif B then 0 else 10)):sU k v:=by unfold sU;rw[hf,hv,hb,h.1,h.2]
theorem atK{v:Node}(h:Gn v):sU YX v:=J8 (V:=Jj v true) (E:=Jk v true) rfl (show vo v 6=qI v true from rfl) (show uE v 6=zf v true from rfl) (Zf h true).1
theorem atL{v:Node}(h:Gn v):sU YZ v:=J8 (V:=Jj v false) (E:=Jk v false) rfl (show vo v 7=qI v false from rfl) (show uE v 7=zf v false from rfl) (Zf h false).1
theorem atM{v:Node}(h:Gn v):sU Y2 v:=J8 (V:=M7 v) (E:=M8 v) rfl (show vo v 8=qz v from rfl) (show uE v 8=Bf v from rfl) (ajW h).1
theorem atO{v:Node}(h:Gn v):sU NS v:=J8 (V:=M7 v) (E:=M8 v) rfl (show vo v 8=qz v from rfl) (show uE v 8=Bf v from rfl) (ajW h).1
theorem atP{v:Node}(h:RY v=xV v/\RZ v=(bif Al v then 0 else 10)):sU Y0 v:=J8 (V:=RY v) (E:=RZ v) rfl (show vo v 9=xV v from rfl) (show uE v 9=Al v from rfl) h
theorem atQ{v:Node}(h:R4 v=xW v/\R5 v=(bif Am v then 0 else 10)):sU Y1 v:=J8 (V:=R4 v) (E:=R5 v) rfl (show vo v 10=xW v from rfl) (show uE v 10=Am v from rfl) h
theorem atS{v:Node}(h:Ge v):sU Y3 v:=J8 (V:=dpV v) (E:=dpE v) rfl (show vo v 11=Lx v from rfl) (show uE v 11=LA v from rfl) (anF h).1
theorem atT{v:Node}(h:Gx (iZ v)):sU Y4 v:=J8 (V:=exV v) (E:=Xz v) rfl (show vo v 12=vg v from rfl) (show uE v 12=DR v from rfl) (ext_eq h).1
theorem aj9{v:Node}(h:Gh0 v):sU Y5 v:=J8 (V:=hV v) (E:=hE v) (show some (hP v)=some (hV v,hE v)from rfl) (show vo v 13=Aj v from rfl) (show uE v 13=Ak v from rfl) (atp h)
theorem Ie{d:Nat}{v:Node}(h:si (d+2) v):Gn v:=⟨Rl h,fun y hy=>(h.2.2.2 y hy).1.2.2.1⟩
theorem aC4{d:Nat}{y:Node}(h:si (d+1) y):Ky y:=⟨axu h,Rl h⟩
theorem aqv{d:Nat}{v:Node}(h:si (d+2) v):Ge v:=⟨h.1.2.1,fun y hy=>aC4 (h.2.2.2 y hy)⟩
theorem axx{d:Nat}{v:Node}(h:si (d+3) v):(RY v=xV v/\RZ v=(bif Al v then 0 else 10))/\(Al v=true->Sp gP (xV v)/\(xV v).keys.length<=32) :=
 aj6 h.1.2.1 h.2.1.1.2 (fun s hs=>Nat.le_trans (h.1.2.2.2 s hs) (by decide)) fun y hy=>⟨Rl (h.2.2.2 y hy),Wu (h.2.2.2 y hy)⟩
theorem axy{d:Nat}{v:Node}(h:si (d+3) v):(R4 v=xW v/\R5 v=(bif Am v then 0 else 10))/\(Am v=true->Sp MN (xW v)/\(xW v).keys.length<=32) :=
 aeN h.2.1.1.2 fun y hy=>⟨⟨Rl (h.2.2.2 y hy),Wu (h.2.2.2 y hy)⟩,Vk (h.2.2.2 y hy)⟩
theorem aqw{d:Nat}{v:Node}(h:si (d+2) v)(hd:d+2<=11):Gx (iZ v):=by
 unfold iZ;by_cases h1:v.kind=1
 ·rw[iU h1,cond_true];have hv:=Vk h h1;refine⟨fun _=>rfl,fun _=>rfl,fun _=>by show[iY].Nodup;decide,?_,?_,fun y hy _=>?_⟩
  ·exact fE.2 ⟨by simp,by simp,fun _=>rfl,fun y hy=>by rw[List.mem_singleton.1 hy,hv];exact oI _ _⟩
  ·exact FT.2 ⟨⟨⟨show(0:Int)<=3 by decide,show(3:Int)<=3 by decide⟩,fun e=>absurd rfl e⟩,fun e=>absurd (show(3:Int)<2 from e) (by decide),fun y hy=>by rw[List.mem_singleton.1 hy,hv];exact(Wp (bI v.text) rfl).2⟩
  ·rw[List.mem_singleton.1 hy];exact⟨hv,h.1.2.2.1⟩
 ·rw[eT h1,cond_false];exact⟨fun e=>h.2.1.2.1 (by omega),h.1.2.1,fun e=>h.2.2.1 e,Wt (by omega) (Rk (FU h)),axt (by omega) (aqu (FU h)),fun y hy e=>⟨Vk (h.2.2.2 y hy) e,(h.2.2.2 y hy).1.2.2.1⟩⟩
theorem azr(d:Nat){s:aqO}(h:s.length<=200):si (d+1) (bI s):=⟨⟨⟨aaG _,aaG _⟩,(fun e=>by cases e),h,(fun k hk=>by cases hk)⟩,⟨⟨(by show(0:Int)<=1;decide),(by show(1:Int)<=3;decide)⟩,(fun e=>absurd rfl e),fun _=>rfl,fun _=>rfl⟩,(fun e=>by cases e),fun y hy=>by cases hy⟩
theorem atU(d:Nat):si (d+1) zn:=⟨⟨⟨aaG _,aaG _⟩,(fun e=>by cases e),aaG _,(fun k hk=>by cases hk)⟩,⟨⟨amd 0,(by show(0:Int)<=3;decide)⟩,(fun _=>rfl),fun _=>rfl,fun _=>rfl⟩,(fun e=>by cases e),fun y hy=>by cases hy⟩
theorem FV{k:aqO}{a:Node}(hs:vo a (qM k)=a/\uE a (qM k)=true)(ha:sU k a)(nz:a.kind≠0)(hn:sn 6 a)(ht:aQ 12 a=a):Fo k a:=by refine⟨nz,?_,hn,ht⟩;unfold sU at ha;rw[ha,hs.1,hs.2];rfl
section
variable {ψ:aqO->Prop} {φ:Node->Prop} {P:aqO->Node->Prop}
theorem Sf.nz{a:Node}(h:Sf ψ φ a):a.kind≠0:=by rw[h.kind];decide
theorem Sp.nz{a:Node}(h:Sp P a):a.kind≠0:=by rw[h.kind];decide
theorem Sf.CQ{a:Node}(h:Sf ψ φ a)(hk:∀k,ψ k->k.length<=30000)(hy:∀y,φ y->sn 5 y):sn 6 a:=Vj h.kind h.text h.len (Nat.le_trans h.le (by decide)) (fun k hm=>hk k (h.key k hm)) (fun y hm=>hy y (h.kid y hm))
theorem Sp.CQ{a:Node}{d:Nat}(h:Sp P a)(hl:a.keys.length<=300)(hp:∀k y,P k y->k.length<=30000/\sn d y):sn (d+1) a:=Vj h.kind h.text (LP h.all) hl
 (fun k hm=>by obtain⟨v,hv⟩:=abu h.all k hm;exact(hp k v hv).1)
 (fun y hm=>by obtain⟨k,hv⟩:=Pm h.all y hm;exact(hp k y hv).2)
theorem Sf.kd_{a:Node}(h:Sf ψ φ a)(hφ:∀y,φ y->wg 10000 11 y=true/\kd 11 y=true):kd 12 a=true :=
 FT.2 ⟨⟨⟨by rw[h.kind];decide,by rw[h.kind];decide⟩,fun e=>absurd h.kind e⟩,fun e=>absurd (h.kind▸e) (by decide),fun y hy=>(hφ y (h.kid y hy)).2⟩
end
theorem Sf.Gn_{ψ:aqO->Prop}{φ:Node->Prop}{a:Node}(h:Sf ψ φ a)(hy:∀y,φ y->y.text.length<=200):Gn a:=⟨fun _=>⟨h.len,oK h.ss⟩,fun y hm=>hy y (h.kid y hm)⟩
theorem akb{k:aqO}{v:Bool}(h:nI k v=true):k.length<=30000:=Nat.le_trans (azf h) (by decide)
theorem adk(y:Node)(h:DT y):sn 5 y:=by rw[h.1];exact Et 4 (Nat.le_trans h.2 (by decide))
theorem anQ(y:Node)(h:Ri y):sn 5 y:=by rw[h];exact aBL 4
theorem aBQ{s:aqO}(h:co s=true):s.length<=30000:=by unfold co at h;simp only[amf,beq_iff_eq]at h;rcases h with(h | h) | h<;>rw[h]<;>decide
theorem axz(b:Bool)(d:Nat):sn (d+1) (fD b):=by have e:fD b=bI (Bl b):=rfl;rw[e];exact Et d (by cases b<;>decide)
theorem azs(y:Node)(h:GL y):sn 5 y:=by
 have hp:=Zg h.1;rw[<- h.2];refine Vj rfl rfl rfl (by show(3:Nat)<=300;decide) (fun k hk=>?_) (fun z hz=>?_)
 ·have hk:k∈[cK,rK,sK]:=hk;simp only[List.mem_cons,List.not_mem_nil,or_false]at hk;rcases hk with rfl | rfl | rfl<;>decide
 ·have hz:z∈[dx (aM (em y) cK lZ),fD (aM (em y) rK jU==jU),fD (aM (em y) sK ow==jU)]:=hz;simp only[List.mem_cons,List.not_mem_nil,or_false]at hz;rcases hz with rfl | rfl | rfl
  ·exact Et 3 (aBQ hp.2.1)
  ·exact axz _ 3
  ·exact axz _ 3
theorem Zj{v:Node}(h:Gn v)(b:Bool)(hb:zf v b=true):Gn (qI v b)/\(qI (qI v b) b=qI v b/\zf (qI v b) b=true)/\(qI v b).kind≠0/\sn 6 (qI v b)/\aQ 12 (qI v b)=qI v b:=by have sf:=(Zf h b).2 hb;exact⟨sf.Gn_ fun y hy=>hy.2,aqn sf,sf.nz,sf.CQ (fun k hk=>akb hk) adk,sf.sorted LK⟩
theorem akc{v:Node}(h:Gn v)(hb:Bf v=true):Gn (qz v)/\(qz (qz v)=qz v/\Bf (qz v)=true)/\(qz v).kind≠0/\sn 6 (qz v)/\aQ 12 (qz v)=qz v:=by have sf:=(ajW h).2 hb;exact⟨sf.Gn_ fun y hy=>by rw[hy];exact aaG _,set_self sf,sf.nz,sf.CQ (fun k hk=>akb (v:=false) hk) anQ,sf.sorted abp⟩
theorem aC5(k:aqO)(y:Node)(h:gP k y):k.length<=30000/\sn 5 y:=⟨by have:=h.1.2.2.2;omega,anQ y h.2⟩
theorem aBR(k:aqO)(y:Node)(h:MN k y):k.length<=30000/\sn 5 y:=by have ht:=agr h;obtain⟨m,_,_,_,h3⟩:=h;exact⟨by omega,adk y ht⟩
theorem akd{v:Node}{d:Nat}(h:si (d+3) v)(hb:Al v=true):Fo Y0 (xV v):=by
 obtain⟨sp,h32⟩:=(axx h).2 hb;refine FV (aqs sp h32) (atP (aj6 (fun _=>LP sp.all) (by rw[sp.kind];decide) (fun s hs=>?_) (fun y hy=>?_)).1) sp.nz (sp.CQ (by omega) aC5) (sp.sorted av1)
 ·obtain⟨w,hw⟩:=abu sp.all s hs;exact hw.1.2.2.2
 ·obtain⟨k,hk⟩:=Pm sp.all y hy;have e:y=zn:=hk.2;rw[e];exact⟨Rl (atU 1),Wu (atU 1)⟩
theorem aeO{v:Node}{d:Nat}(h:si (d+3) v)(hb:Am v=true):Fo Y1 (xW v):=by obtain⟨sp,h32⟩:=(axy h).2 hb;refine FV (alV sp h32) (atQ (aeN (by rw[sp.kind];decide) (fun y hy=>?_)).1) sp.nz (sp.CQ (by omega) aBR) (sp.sorted aqt);obtain⟨k,hk⟩:=Pm sp.all y hy;obtain⟨t1,t2⟩:=agr hk;have e:y=bI y.text:=t1;rw[e];have:=azr 1 t2;exact⟨⟨Rl this,Wu this⟩,fun _=>rfl⟩
theorem anR{v:Node}(h:Ge v)(hb:LA v=true):Fo Y3 (Lx v):=by have sf:=(anF h).2 hb;exact FV (atj sf) (atS ⟨fun _=>sf.len,fun y hy=>anE (sf.kid y hy)⟩) sf.nz (sf.CQ (fun k hk=>akb (v:=false) hk) azs) (sf.sorted ajY)
theorem atV{v:Node}(h:Gx (iZ v))(hb:DR v=true):Fo Y4 (vg v):=by
 obtain⟨sf,e,ho,hr⟩:=(ext_eq h).2 hb;have e1:iZ (vg v)=vg v:=by show(bif(vg v).kind==1 then _ else vg v)=_;rw[eT (show(vg v).kind≠1 by rw[sf.kind];decide)];rfl
 refine FV (avW h ho hr e sf) (atT ?_) sf.nz (sf.CQ (fun k hk=>by rcases hk with rfl | rfl<;>decide) adk) (sf.sorted LK);rw[e1];exact⟨fun _=>sf.text,fun _=>sf.len,fun _=>oK sf.ss,sf.wg_ adg,sf.kd_ adg,fun y hy _=>sf.kid y hy⟩
end
section
theorem qt4{s:aqO}:(IQ s).length<=4*s.length+2:=by
 unfold IQ;cases zA s with
 | true=>rw[cond_true];omega
 | false =>have h:=ajw s;rw[<- ajv]at h;rw[cond_false,List.length_append,List.length_append];simp only[List.length_cons,List.length_nil];omega
theorem atW:∀l:List (aqO),(∀s∈l,s.length<=200)->(U2 l).length<=l.length*803
 | [],_=>abn _
 | x::t,h=>by
  have ih:=atW t fun s hs=>h s (abb _ hs)
  have h1:=h x abd;have h2:=qt4 (s:=x);have e:U2 (x::t)=(32::IQ x)++U2 t:=by simp[U2]
  rw[e,List.length_append,List.length_cons,List.length_cons];omega
theorem aC6{l:List (aqO)}(h:∀s∈l,s.length<=200):(Lf l).length<=l.length*803:=by
 cases l with
 | nil=>show 0<=_;omega
 | cons x t =>
  have h1:=h x abd;have h2:=qt4 (s:=x);have h3:=atW t fun s hs=>h s (abb _ hs)
  rw[Wh,List.length_append,List.length_cons];omega
theorem azt{n:Node}(h:pY n=true):n.kids.length<=32:=by
 unfold pY at h;by_cases h2:n.kind=2
 ·rw[iU h2,cond_true,abj,adB]at h;omega
 ·rw[eT h2]at h;simp at h
theorem azu{l:List (aqO)}{B:Nat}(h:∀s∈l,s.length<=B)(i:Nat):(l.getD i []).length<=B:=by
 rw[List.getD];cases hq:l[i]? with
 | none=>exact aaG _
 | some x=>exact h x (agC hq)
theorem atX{n:Node}(h1:n.text.length<=200)(hy:∀y∈n.kids,y.text.length<=200):(IV n).length<=30000:=by
 have ht:=Ze hy;unfold IV;cases n.kind==1 with
 | true=>rw[cond_true];omega
 | false =>
  rw[cond_false];cases hx:tsX n with
  | true=>exact aaG _
  | false =>
   have hb:pY n=true:=by
    unfold tsX at hx;cases hb:pY n with
    | true=>rfl
    | false=>rw[hb]at hx;cases hx
   have h32:=azt hb;have hl:(bH n).length<=32:=by have:=DL n;rw[Bg hb]at this;omega
   rw[cond_false];cases(bH n).getD 0 []==UF with
   | true=>exact aaG _
   | false =>
    rw[cond_false];cases(bH n).getD 0 []==UG with
    | true =>
     rw[cond_true];cases((bH n).length:Int)==2 with
     | true=>exact Nat.le_trans (azu ht 1) (by decide)
     | false=>exact aaG _
    | false =>
     rw[cond_false];cases(bH n).getD 0 []==UH with
     | false=>exact aaG _
     | true =>
      rw[cond_true];have:=aC6 (l:=(bH n).drop 1) fun s hs=>ht s (List.mem_of_mem_drop hs)
      rw[adH]at this;omega
theorem aBS{d:Nat}{v:Node}(h:si (d+3) v)(q:aqO)(y:Node)(hy:hL v q=some y):y.text.length<=30000:=by
 have hsp:∀k l,(qA v k l).length<=30000:=fun k l=>by
  unfold qA;cases aD v k with
  | true=>exact Nat.le_trans (aBF _) (by decide)
  | false=>exact aaG _
 have hts:(IV (aJ v bQ)).length<=30000:=by
  rcases abv (d:=d+1) h bQ with e | e
  ·rw[e];exact atX (aaG _) fun y hy=>by cases hy
  ·exact atX e.1.2.2.1 fun y hy=>(e.2.2.2 y hy).1.2.2.1
 have of:∀{b:Bool} {s:aqO},s.length<=30000->(bif b then some (bI s)else none)=some y->y.text.length<=30000:=by
  intro b s hs he;cases b with
  | false=>cases he
  | true=>cases he;exact hs
 unfold hL at hy;split at hy
 ·exact of (Nat.le_trans (qX _) (by decide)) hy
 ·split at hy
  ·exact of (hsp _ _) hy
  ·split at hy
   ·exact of (hsp _ _) hy
   ·split at hy
    ·exact of hts hy
    ·cases hy
theorem Wv:Sf isK l6 Jt:=⟨rfl,rfl,by unfold Pl.SS;exact List.pairwise_singleton _ _,rfl,by decide,fun k hk=>by rw[List.mem_singleton.1 hk];exact kyT.2.2.2.2,fun y hy=>by rw[List.mem_singleton.1 hy];rfl⟩
theorem anS(k:aqO)(h:isK k):k.length<=30000:=by
 have:∀k∈R7,k.length<=30000:=by decide
 exact this k h
theorem Sf.Gh{ψ:aqO->Prop}{φ:Node->Prop}{a:Node}(h:Sf ψ φ a):Gh0 a:=fun _=>⟨h.len,oK h.ss⟩
theorem aeP{v:Node}{d:Nat}(h:si (d+3) v)(hb:Ak v=true):Fo Y5 (Aj v):=by
 unfold Ak at hb;unfold Aj;cases hno:F6 v with
 | true=>rw[hno]at hb;cases hb
 | false =>
  rw[hno,cond_false]at hb;rw[cond_false];cases hof:GI v==jU with
  | true =>rw[cond_true];refine FV atq (aj9 Wv.Gh) Wv.nz (Vj rfl rfl rfl (by decide) (fun k hk=>anS k (Wv.key k hk)) fun y hy=>?_) (Wv.sorted LM);rw[List.mem_singleton.1 hy];exact Et 4 (by decide)
  | false =>
   rw[hof,cond_false]at hb;rw[cond_false];have fh:=azk hb;refine FV (alU fh hno) (aj9 fh.sf.Gh) fh.sf.nz (Vj fh.sf.kind fh.sf.text fh.sf.len (Nat.le_trans fh.sf.le (by decide)) (fun k hk=>anS k (fh.sf.key k hk)) fun y hy=>?_) (fh.sf.sorted LM);obtain⟨q,hq⟩:=aqr fh.sf.len (oK fh.sf.ss) y hy;have hg:get (eP (rO v) true) q=some y:=by unfold get;rw[if_pos fh.sf.kind];exact hq
   rw[fh.Vi]at hg;have hl:=aBS h q y hg;have e:y=bI y.text:=fh.sf.kid y hy;rw[e];exact Et 4 hl
theorem Po{e:Nat}{v:Node}(h:si (e+4) v)(he:e+4<=11){k:aqO}{j:Int}(hj:qM k=j)(h0:0<=j)(h5:j<=5)(ask:∀x,sU k x)(hb:uE v j=true):Fo k (vo v j):=by obtain⟨e1,e2,ag⟩:=anP h he h0 h5;rw[e2]at hb;rw[e1];obtain⟨g1,g2,g3,g4,g5⟩:=ag hb;refine FV ?_ (ask _) g1 g2 g3;rw[hj,(axw _ h5).1,(axw _ h5).2];exact⟨g4,g5⟩
theorem atY{e:Nat}{k:aqO}{v:Node}(h:si (e+4) v)(he:e+4<=11)(hn:¬ qM k<0):sU k v/\(uE v (qM k)=true->Fo k (vo v (qM k))):=by
 rcases LQ k with hk | hk
 ·rcases hk with hk | hk | hk | rfl | rfl | rfl | rfl | rfl
  ·rcases hk with rfl | rfl | rfl | rfl | rfl | rfl
   ·exact⟨atE v,Po h he (j:=0) rfl (by decide) (by decide) atE⟩
   ·exact⟨atF v,Po h he (j:=1) rfl (by decide) (by decide) atF⟩
   ·exact⟨atG v,Po h he (j:=2) rfl (by decide) (by decide) atG⟩
   ·exact⟨atH v,Po h he (j:=3) rfl (by decide) (by decide) atH⟩
   ·exact⟨atI v,Po h he (j:=4) rfl (by decide) (by decide) atI⟩
   ·exact⟨atJ v,Po h he (j:=5) rfl (by decide) (by decide) atJ⟩
  ·rcases hk with rfl | rfl
   ·refine⟨atK (Ie h),fun hb=>?_⟩;obtain⟨g1,g2,g3,g4,g5⟩:=Zj (Ie h) true hb;exact FV (k:=YX) g2 (atK g1) g3 g4 g5
   ·refine⟨atL (Ie h),fun hb=>?_⟩;obtain⟨g1,g2,g3,g4,g5⟩:=Zj (Ie h) false hb;exact FV (k:=YZ) g2 (atL g1) g3 g4 g5
  ·rcases hk with rfl | rfl
   ·refine⟨atM (Ie h),fun hb=>?_⟩;obtain⟨g1,g2,g3,g4,g5⟩:=akc (Ie h) hb;exact FV (k:=Y2) g2 (atM g1) g3 g4 g5
   ·refine⟨atO (Ie h),fun hb=>?_⟩;obtain⟨g1,g2,g3,g4,g5⟩:=akc (Ie h) hb;exact FV (k:=NS) g2 (atO g1) g3 g4 g5
  ·exact⟨atP (axx h).1,akd h⟩
  ·exact⟨atQ (axy h).1,aeO h⟩
  ·exact⟨atS (aqv h),anR (aqv h)⟩
  ·exact⟨atT (aqw (d:=e+2) h (by omega)),atV (aqw (d:=e+2) h (by omega))⟩
  ·exact⟨aj9 (Rl h),aeP h⟩
 ·exact absurd (show qM k<0 by omega) hn
theorem av2{k:aqO}(v:Node)(hn:qM k<0):fdF k v=none:=by
 rcases LQ k with hk | hk
 ·exfalso;rcases hk with(rfl | rfl | rfl | rfl | rfl | rfl) | (rfl | rfl) | (rfl | rfl) | rfl | rfl | rfl | rfl | rfl<;>exact absurd hn (by decide)
 ·exact hk.2 v
end
section
theorem aqx{l:List (aqO)}(h:l.Nodup):(Pl.bA l).length=l.length :=
 Nat.le_antisymm (Pl.tZ l) (ML l (Pl.bA l) h fun _ hx=>Pl.jN.2 hx)
section
variable {P:aqO->Node->Prop}
theorem azv{o:Node}(h3:o.kind=3):iG o=o:=by show(⟨3,o.text,o.keys,o.kids⟩:Node)=o;rw[<- h3];exact gB o
theorem aER{d:Nat}(hd:d+1<=1000)(hw:∀k y,P k y->wg 10000 d y=true/\kd d y=true)(hs:∀k y,P k y->aQ d y=y){o:Node}(h:Ip P o)(h3:o.kind=3)(hl:o.keys.length<=300) :
  fP 1000 o=aQ (d+1) o/\Sp P (aQ (d+1) o)/\(aQ (d+1) o).keys.length=o.keys.length:=by
 obtain⟨w1,w2⟩:=h.leafs hw (by omega);have hf:=h.form hs;rw[azv h3]at w1 w2 hf;refine⟨adi hd w1 w2,hf,?_⟩;have e:aQ (d+1) o=⟨o.kind,o.text,Pl.bA o.keys,(Pl.bA o.keys).map fun k=>aQ d (aJ o k)⟩:=by show(bif o.kind==3 then _ else _)=_;rw[iU h3];rfl
 rw[e];exact aqx h.nd
theorem Sp.aES{o:Node}(h:Sp P o){d:Nat}(hd:d+1<=1000)(hw:∀k y,P k y->wg 10000 d y=true/\kd d y=true)(hs:∀k y,P k y->aQ d y=y)(hl:o.keys.length<=300):fP 1000 ⟨3,[],o.keys,o.kids⟩=o:=by
 have e:(⟨3,[],o.keys,o.kids⟩:Node)=o:=by rw[<- h.text,<- h.kind];exact gB o
 obtain⟨w1,w2⟩:=h.leafs hw (by omega);rw[e,adi hd w1 w2,h.sorted hs]
theorem azw{o:Node}(h3:o.kind=3)(hl:o.keys.length=o.kids.length)(hn:o.keys.Nodup){k:aqO}{v:Node}(hk:k∉o.keys):bD o k v=⟨3,[],o.keys++[k],o.kids++[v]⟩/\(o.keys++[k]).Nodup:=by rw[Zc (.inr h3) hl hn];exact adj (.inr h3) hl hn hk
theorem azx{l:List (aqO)}{k s:aqO}{t:List (aqO)}(hd:∀q∈s::t,q∉l)(hn:(s::t).Nodup)(hk:k∈t):k∉l++[s]:=fun hq=>by
 rcases List.mem_append.1 hq with hq | hq
 ·exact hd k (abb _ hk) hq
 ·rw[List.mem_singleton.1 hq]at hk;exact(List.nodup_cons.1 hn).1 hk
end
theorem atZ{k:aqO}{a:Node}(h:Fo k a):XD k=false/\¬ qM k<0:=by
 rcases LQ k with hk | hk
 ·rcases hk with(rfl | rfl | rfl | rfl | rfl | rfl) | (rfl | rfl) | (rfl | rfl) | rfl | rfl | rfl | rfl | rfl<;>exact⟨rfl,by decide⟩
 ·have:=h.fd;rw[hk.2 a]at this;cases this
theorem axA(k:aqO)(y:Node)(h:Fo k y):wg 10000 12 y=true/\kd 12 y=true:=⟨Wt (by decide) (Rk h.CQ),axt (by decide) (aqu h.CQ)⟩
theorem av3(k:aqO)(y:Node)(h:Fo k y):aQ 12 y=y:=h.srt
theorem azy{k:aqO}{a:Node}(h:Fo k a):k.length<=30000:=by
 rcases LQ k with hk | hk
 ·rcases hk with(rfl | rfl | rfl | rfl | rfl | rfl) | (rfl | rfl) | (rfl | rfl) | rfl | rfl | rfl | rfl | rfl<;>decide
 ·have:=h.fd;rw[hk.2 a]at this;cases this
structure Sv (a:Node):Prop where
 kind:a.kind=3
 again:Jp a=(a,[],0)
 CQ:sn 7 a
 srt:aQ 13 a=a
 key:∀k∈a.keys,¬ qM k<0
theorem ake:∀(ks:List (aqO)) (vs:List Node) (o:Node),Fa Fo ks vs->ks.Nodup->(∀k∈ks,k∉o.keys)->o.kind=3->o.text=[]->o.keys.length=o.kids.length->o.keys.Nodup->FL ks vs o=(fP 1000 ⟨3,[],o.keys++ks,o.kids++vs⟩,[],0)
 | [],[],o,_,_,_,h3,ht,_,_=>by unfold FL;rw[aeb,aeb,<- h3,<- ht,gB]
 | k::ks,v::vs,o,hf,hn,hd,h3,ht,hl,hnd=>by
  have hn':=List.nodup_cons.1 hn;obtain⟨p1,p2⟩:=azw h3 hl hnd (v:=v) (hd k abd);obtain⟨q1,q2⟩:=atZ hf.1;rw[FL,q1,cond_false,hf.1.fd];simp only;rw[eT hf.1.nz,cond_false,show((0:Int)!=0)=false from rfl,cond_false,kr hf.1.nz,cond_true,p1,
   ake ks vs _ hf.2 hn'.2 (fun q hq=>azx hd hn hq) rfl rfl (by simp[hl]) p2]
  simp
 | [],_::_,_,h,_,_,_,_,_,_=>h.elim
 | _::_,[],_,h,_,_,_,_,_,_=>h.elim
theorem Sp.Sv_{a:Node}(h:Sp Fo a)(hl:a.keys.length<=300):Sv a:=by
 refine⟨h.kind,?_,h.CQ hl fun k y hy=>⟨azy hy,hy.CQ⟩,h.sorted av3,fun k hk=>?_⟩
 ·unfold Jp;rw[eT (show a.kind≠0 by rw[h.kind];decide),nK h.kind,cond_false,cond_false,ake a.keys a.kids _ h.all (oK h.ss) (fun k _ h=>by cases h) rfl rfl rfl anu];show(fP 1000 ⟨3,[],a.keys,a.kids⟩,_,_)=_;rw[h.aES (by decide) axA av3 hl]
 ·obtain⟨v,hv⟩:=abu h.all k hk;exact(atZ hv).2
theorem at0{e:Nat}(he:e+4<=11):∀(ks:List (aqO)) (vs:List Node) (o:Node),(∀y∈vs,si (e+4) y)->Ip Fo o->o.kind=3->o.keys.length+ks.length<=300 ->
  FL ks vs o=((sD ks vs o).n,(sD ks vs o).path,(sD ks vs o).e)/\((sD ks vs o).e=0->Sv (sD ks vs o).n/\(sD ks vs o).path=[]):=by
 have fin:∀o:Node,Ip Fo o->o.kind=3->o.keys.length<=300->((fP 1000 o,([]:aqO),(0:Int))=(aQ 13 o,[],0))/\((0:Int)=0->Sv (aQ 13 o)/\([]:aqO)=[]):=fun o ho h3 hl=>by obtain⟨g1,g2,g3⟩:=aER (d:=12) (by decide) axA av3 ho h3 hl;exact⟨by rw[g1],fun _=>⟨g2.Sv_ (by omega),rfl⟩⟩
 intro ks
 induction ks with
 | nil =>intro vs o _ ho h3 hl;exact fin o ho h3 (by simpa using hl)
 | cons k ks ih =>
  intro vs o hv ho h3 hl;rw[List.length_cons]at hl;cases vs with
  | nil=>exact fin o ho h3 (by omega)
  | cons v vs =>
   have hv':=fun y hy=>hv y (abb _ hy)
   rw[FL,sD];cases hf:XD k with
   | true=>exact ih vs o hv' ho h3 (by omega)
   | false =>
    simp only[cond_false];by_cases hn:qM k<0
    ·rw[av2 v hn,dT hn];exact⟨rfl,fun h=>by cases h⟩
    ·obtain⟨a1,a2⟩:=atY (hv v abd) he hn;unfold sU at a1;rw[a1,dF hn];simp only[cond_false];cases hk0:v.kind==0 with
     | true=>exact ih vs o hv' ho h3 (by omega)
     | false =>
      simp only[cond_false];cases hb:uE v (qM k)with
      | false=>exact⟨rfl,fun h=>by cases h⟩
      | true =>have fo:=a2 hb;obtain⟨h1,h2,h4,_⟩:=MG (k:=k) (v:=vo v (qM k)) ho.kind ho.len;simp only[cond_true,adr,cond_false,show((0:Int)!=0)=false from rfl];rw[kr fo.nz,cond_true,ho.with_];exact ih vs _ hv' (ho.put fo) h1 (by omega)
theorem aBT:aQ 13 ⟨3,[],[],[]⟩=⟨3,[],[],[]⟩:=by have e:aQ 13 (⟨3,[],[],[]⟩:Node)=⟨3,[],Pl.bA [],(Pl.bA []).map fun k=>aQ 12 (aJ ⟨3,[],[],[]⟩ k)⟩:=rfl;have h:Pl.bA []=[]:=List.length_eq_zero_iff.1 (Nat.le_zero.1 (Pl.tZ []));rw[e,h];rfl
theorem XK{e:Nat}{n:Node}(h:si (e+5) n)(he:e+4<=11):Jp n=((Ao n).n,(Ao n).path,(Ao n).e)/\((Ao n).e=0->Sv (Ao n).n/\(Ao n).path=[]):=by
 unfold Ao Jp;by_cases h0:n.kind=0
 ·have ez:=axu h h0;have hi:=at0 he [] [] ⟨3,[],[],[]⟩ (fun y hy=>by cases hy) (Ip.nil (.inr rfl)) rfl (by decide);have es:sD [] [] ⟨3,[],[],[]⟩=⟨⟨3,[],[],[]⟩,[],0⟩:=by
   show(⟨aQ 13 ⟨3,[],[],[]⟩,[],0⟩:BP)=_;rw[aBT]
  rw[es]at hi;subst ez;show(_=((sD [] [] ⟨3,[],[],[]⟩).n,(sD [] [] ⟨3,[],[],[]⟩).path,(sD [] [] ⟨3,[],[],[]⟩).e))/\((sD [] [] ⟨3,[],[],[]⟩).e=0->Sv (sD [] [] ⟨3,[],[],[]⟩).n/\(sD [] [] ⟨3,[],[],[]⟩).path=[]);rw[es];exact⟨rfl,hi.2⟩
 ·rw[eT h0,kr h0,cond_false,cond_true];by_cases h3:n.kind=3
  ·rw[nK h3,cond_false,cond_false];exact at0 he n.keys n.kids _ h.2.2.2 (Ip.nil (.inr rfl)) rfl (by show 0+_<=_;have:=h.1.1.1;omega)
  ·rw[kr h3,cond_true,cond_true];exact⟨rfl,fun h=>by cases h⟩
end
section
end
section
theorem anT:∀(n:Nat) (x:Node) (d l:Int),d+(n+1:Nat)=14->l<=301->0<=leftV (n+1) x d l->qL n x=true->si n x
 | n,x,d,l,hd,hl,h,hs=>by
  unfold leftV at h;cases h1:BJ x d (l-1)with
  | true=>rw[h1,cond_true]at h;omega
  | false =>
   cases h2:Gt x with
   | true=>rw[h1,h2,cond_false,cond_true]at h;omega
   | false =>
    cases h3:Gu x (l-1)with
    | true=>rw[h1,h2,h3,cond_false,cond_false,cond_true]at h;omega
    | false =>
     rw[h1,h2,h3,cond_false,cond_false,cond_false]at h;have hA:¬ 12<d/\0<=x.kind/\x.kind<=3:=by
      unfold BJ at h1;refine⟨fun a=>?_,?_⟩
      ·rw[dT a]at h1;cases hx:decide (l-1<0)<;>rw[hx]at h1<;>cases h1
      ·by_cases a:x.kind<0
       ·rw[dT a]at h1;cases hx:decide (l-1<0)<;>cases hy:decide (12<d)<;>rw[hx,hy]at h1<;>cases h1
       ·by_cases b:3<x.kind
        ·rw[dT b]at h1;cases hx:decide (l-1<0)<;>cases hy:decide (12<d)<;>cases hz:decide (x.kind<0)<;>rw[hx,hy,hz]at h1<;>cases h1
        ·omega
     obtain⟨m,rfl⟩:∃m,n=m+1:=⟨n-1,by omega⟩
     simp only[qL,abj,adB,ahn]at hs;obtain⟨q1,q2⟩:=QN (fun k l h=>K6 (m+1) k (d+1) l h) x.kids (l-1) h;have hrec:∀y∈x.kids,si m y:=fun y hy=>by obtain⟨l',h4,h5⟩:=q2 y hy;exact anT m y (d+1) l' (by omega) (by omega) h4 (hs.2.2 y hy)
     have hB:(x.kind≠1->x.text.length=0)/\(x.kind≠3->x.keys.length=0)/\(x.kind<2->x.kids.length=0):=by
      unfold Gt at h2;refine⟨fun e=>?_,fun e=>?_,fun e=>?_⟩
      ·by_cases a1:(0:Int)<(x.text.length:Int)
       ·rw[kr e,dT a1]at h2;cases h2
       ·omega
      ·by_cases a1:(0:Int)<(x.keys.length:Int)
       ·rw[kr e,dT a1]at h2;cases hx:(bif x.kind != 1 then decide ((0:Int)<(x.text.length:Int))else false)<;>rw[hx]at h2<;>cases h2
       ·omega
      ·by_cases a1:(0:Int)<(x.kids.length:Int)
       ·rw[dT e,dT a1]at h2;cases hx:(bif x.kind != 1 then decide ((0:Int)<(x.text.length:Int))else false)<;>cases hy:(bif x.kind != 3 then decide ((0:Int)<(x.keys.length:Int))else false)<;>rw[hx,hy]at h2<;>cases h2
       ·omega
     have hC:x.kind=3->x.keys.length=x.kids.length/\x.keys.Nodup:=by
      intro e;unfold Gu at h3;rw[iU e,cond_true]at h3;by_cases a1:(x.keys.length:Int)=x.kids.length
      ·refine⟨by omega,?_⟩;by_cases a2:((Pl.bA x.keys).length:Int)=(x.keys.length:Int)
       ·exact afG (by omega)
       ·rw[kr a2]at h3;cases hq:(bif(x.keys.length:Int)!=(x.kids.length:Int)then true else decide (l-1<(x.kids.length:Int)))<;>rw[hq]at h3<;>cases h3
      ·rw[kr a1]at h3;cases h3
     have hk:x.keys.length<=300:=by
      by_cases e:x.kind=3
      ·have:=(hC e).1;omega
      ·have:=hB.2.1 e;omega
     have av4:∀{α:Type} {t:List α},t.length=0->t=[]:=fun h=>List.length_eq_zero_iff.1 h
     exact⟨⟨⟨hk,by omega⟩,fun e=>(hC e).1,hs.1,hs.2.1⟩,⟨hA.2,fun e=>av4 (hB.1 e),fun e=>av4 (hB.2.1 e),fun e=>av4 (hB.2.2 e)⟩,fun e=>(hC e).2,hrec⟩
 termination_by n=>n
theorem av5{x:Node}{m:Int}(hm:m<=300)(h:IJ x m=true):si 12 x:=by
 unfold IJ at h;by_cases h0:0<=leftV 13 x 1 m
 ·rw[dT h0,cond_true]at h;exact anT 12 x 1 m (by decide) (by omega) h0 h
 ·rw[dF h0]at h;cases h
theorem Pp{o:Node}{b:Bool}(h:eO o b=false):eP o b=zn:=by unfold eP;rw[h];rfl
theorem aqy{q:Option Node}(h:oB q=false):oV q=zn:=by
 cases q with
 | none=>rfl
 | some o=>exact Pp h
theorem aC7{v:Node}{k:Int}(hb:uE v k=false):vo v k=zn:=by
 unfold uE at hb;unfold vo;cases h1:decide (k<5)with
 | true =>rw[h1]at hb;have hb:FQ v k=false:=hb;show DN v k=zn;unfold DN;rw[hb];rfl
 | false =>
  rw[h1,cond_false]at hb;rw[cond_false];cases h2:k==5 with
  | true =>rw[h2]at hb;have hb:F4 v=false:=hb;show CK v=zn;unfold CK;rw[hb];rfl
  | false =>
   rw[h2,cond_false]at hb;rw[cond_false];cases h3:(bif k==6 then true else k==7)with
   | true=>rw[h3]at hb;exact aqy hb
   | false =>
    rw[h3,cond_false]at hb;rw[cond_false];cases h4:k==8 with
    | true=>rw[h4]at hb;exact Pp hb
    | false =>
     rw[h4,cond_false]at hb;rw[cond_false];cases h5:k==9 with
     | true=>rw[h5]at hb;exact aqy hb
     | false =>
      rw[h5,cond_false]at hb;rw[cond_false];cases h6:k==10 with
      | true=>rw[h6]at hb;exact aqy hb
      | false =>
       rw[h6,cond_false]at hb;rw[cond_false];cases h7:k==11 with
       | true=>rw[h7]at hb;exact Pp hb
       | false =>
        rw[h7,cond_false]at hb;rw[cond_false];cases h8:k==12 with
        | true =>
         rw[h8]at hb;have hb:DR v=false:=hb;show vg v=zn;unfold DR at hb;unfold vg;cases g1 : !(dY (iZ v) [iY,lS])with
         | true=>rfl
         | false =>
          rw[g1]at hb;cases g2:LB (iZ v)with
          | true=>rfl
          | false=>rw[g2]at hb;exact Pp hb
        | false =>
         rw[h8]at hb;have hb:Ak v=false:=hb;show Aj v=zn;unfold Ak at hb;unfold Aj;cases g1:F6 v with
         | true=>rfl
         | false =>
          rw[g1]at hb;cases g2:GI v==jU with
          | true=>rw[g2]at hb;cases hb
          | false=>rw[g2]at hb;exact Pp hb
theorem aC8{d:Nat}{v:Node}(h:si (d+4) v)(hd:d+4<=11)(k:Int):wg 10000 12 (vo v k)=true:=by
 cases hb:uE v k with
 | false=>rw[aC7 hb];exact Ph
 | true =>
  have s6:∀{x:Node},sn 6 x->wg 10000 12 x=true:=fun hx=>Wt (by decide) (Rk hx)
  unfold uE at hb;unfold vo;by_cases h1:k<5
  ·rw[dT h1,cond_true];unfold DN;cases FQ v k with
   | false=>exact Ph
   | true =>
    cases k==2 with
    | true=>exact oI _ _
    | false=>exact Wt (by omega) (Rk (FU h))
  ·rw[dF h1,cond_false]at hb;rw[dF h1,cond_false];by_cases h2:k=5
   ·rw[iU h2]at hb ⊢;have:=(anP h hd (j:=5) (by decide) (by decide)).2.2 hb;exact s6 this.2.1
   ·rw[eT h2,cond_false]at hb;rw[eT h2,cond_false];cases h3:(bif k==6 then true else k==7)with
    | true=>rw[h3]at hb;exact s6 (Zj (Ie h) _ hb).2.2.2.1
    | false =>
     rw[h3,cond_false]at hb;rw[cond_false];cases h4:k==8 with
     | true=>rw[h4]at hb;exact s6 (akc (Ie h) hb).2.2.2.1
     | false =>
      rw[h4,cond_false]at hb;rw[cond_false];cases h5:k==9 with
      | true=>rw[h5]at hb;exact s6 (akd h hb).CQ
      | false =>
       rw[h5,cond_false]at hb;rw[cond_false];cases h6:k==10 with
       | true=>rw[h6]at hb;exact s6 (aeO h hb).CQ
       | false =>
        rw[h6,cond_false]at hb;rw[cond_false];cases h7:k==11 with
        | true=>rw[h7]at hb;exact s6 (anR (aqv h) hb).CQ
        | false =>
         rw[h7,cond_false]at hb;rw[cond_false];cases h8:k==12 with
         | true=>rw[h8]at hb;exact s6 (atV (aqw (d:=d+2) h (by omega)) hb).CQ
         | false=>rw[h8]at hb;exact s6 (aeP h hb).CQ
theorem at1{d:Nat}{v:Node}(h:si (d+4) v)(hd:d+4<=11):Rf1 v:=⟨aC3 h (by omega),aC8 h hd⟩
theorem alW{n:Node}(h:si 12 n):nE n=some (Ao n) :=
 afF n (Nat.le_trans h.1.1.1 (by decide)) (fun e=>h.2.1.2.2.1 (by omega)) h.1.2.1 fun y hy=>at1 (d:=7) (h.2.2.2 y hy) (by decide)
theorem akf{n:Node}(h:si 12 n)(hs:(fG n).isSome=true):fG n=some ((Ao n).n,(Ao n).path,(Ao n).e) :=
 V9 hs fun hs=>by rw[abe (d:=7) (FU h) hs,(XK (e:=7) h (by decide)).1]
theorem afH{a:Node}(h:Sv a)(hs:(fG a).isSome=true):fG a=some (a,[],0) :=
 V9 hs fun hs=>by rw[abe (d:=2) h.CQ hs,h.again]
end
section
def akg{α:Type}(l:List α):Bool:=Nat.ble l.length 1000000
theorem azz{α:Type}(l:List α):nL l=akg l:=by
 unfold nL akg;cases h:Nat.ble l.length 1000000 with
 | true=>exact decide_eq_true (ani h)
 | false=>exact decide_eq_false fun h'=>by rw[Nat.ble_eq_true_of_le h']at h;cases h
noncomputable def abw:jC E:=EO (E:=E) .cu .cu akg Pl.KE
def alX:FuncId:=26
theorem alY:bG E alX abw:=by have h:=Qn;unfold Iz at h;rw[show Pl.bA=Pl.KE from funext Pl.Tx,show(nL:List (aqO)->Bool)=akg from funext azz]at h;exact h
def FW:Te ((List (aqO))) Empty:=.q (akg [[105,109,97,103,101],[99,111,109,109,97,110,100],[101,110,118,105,114,111,110,109,101,110,116],[108,97,98,101,108,115],[112,111,114,116,115],[118,111,108,117,109,101,115],[110,101,116,119,111,114,107,115],[112,114,111,102,105,108,101,115],[100,101,112,101,110,100,115,95,111,110],[101,120,116,101,110,100,115],[104,101,97,108,116,104,99,104,101,99,107],[114,101,115,116,97,114,116],[115,99,97,108,101],[99,112,117,115],[109,101,109,95,108,105,109,105,116]]) (.k (Pl.KE [[105,109,97,103,101],[99,111,109,109,97,110,100],[101,110,118,105,114,111,110,109,101,110,116],[108,97,98,101,108,115],[112,111,114,116,115],[118,111,108,117,109,101,115],[110,101,116,119,111,114,107,115],[112,114,111,102,105,108,101,115],[100,101,112,101,110,100,115,95,111,110],[101,120,116,101,110,100,115],[104,101,97,108,116,104,99,104,101,99,107],[114,101,115,116,97,114,116],[115,99,97,108,101],[99,112,117,115],[109,101,109,95,108,105,109,105,116]]))
def zC:=(FW).o
def abx:=(afg.W 26 abw alY).f0 11 [] [.cu] (fun _=>FW) Tryz.func11
def anU:Te (Bool) Empty:=.c (fG ⟨3,[],[[111,100,100]],[⟨0,[],[],[]⟩]⟩) fun y1=>.l (aab (y1.2.1==[111,100,100]) (y1.2.2==10)) fun z1=>.c (aff ⟨0,[],[],[]⟩) fun y2=>.l (aab (aab z1 (y2.2.2==0)) ((y2.1).kind==3)) fun z2=>.q ((zC.isSome) || !z2) (.k (aab z2 (aC (gv zC)==15)))
def Ww:=(anU).o
def azA:=abx.f0 6 [] [.bool] (fun _=>anU) Tryz.func6
theorem akh:Ww=some true:=by kernel_rfl
end
section
inductive axB where
 | e (x0:Node)
 | h0 (v0:Int) (v1:Node)
def ags:axB->Te (Bool) axB
 | .e x0=>.l (aj x0) fun z1=>.q (aiO z1 200) (.b (!(IJ z1 200)) (.c Ww fun y1=>.k y1) (.c (fG z1) fun y2=>.l (aj (y2.1)) fun z2=>.c (nE z1) fun y3=>.q ((Oo 1000) z2 (aj (y3.n))) (.b (aL (aL (!((same 1000) z2 (aj (y3.n)))) (!(y2.2.1==y3.path))) (y2.2.2 != y3.e)) (.k false) (.b (y2.2.2 != 0) (.c Ww fun y4=>.k y4) (.c (fG z2) fun y5=>.l (aL (y5.2.2 != 0) (!(y5.2.1==[]))) fun z3=>.q (((Oo 1000) z2 (aj (y5.1))) || !(!z3)) (.b (aL z3 (!((same 1000) z2 (aj (y5.1))))) (.k false) (.g (.h0 0 (y2.1)))))))))
 | .h0 v0 v1=>.b (aF v0 (aC v1.keys)) (.c zC fun y1=>.i v1.keys v0 fun y2=>.q ((fun l _=>nL l) y1 y2) (.b (!(eF y1 y2)) (.k false) (.g (.h0 (ak (v0+1)) v1)))) (.c Ww fun y3=>.k y3)
def aqz(x0:Node):=mu ags (.e x0)
def aC9:=(((O5.or azA).W 9 (Aa 1000) (asl 1000)).W 5 acM avr).fl 3 [.ah] [.bool] ags (fun a=>.e a) (fun | .e x0=>.e [⟨.ah,x0⟩] | .h0 v0 v1=>.h 0 ⟨77,[(3,.ptr 0 0),(10,.d (.int .i64 v0))],[(0,.box [.d (.int .i64 v1.kind),.d (.str v1.text),.d (.slice .str v1.keys),.d (.slice .ah v1.kids)])],1⟩) { live:=[(0,[3,10])] } Tryz.func3
def axC:jC E:=fnG (E:=E) [.ah] [.bool] fun a=>aqz a
theorem aBU:bG E 3 axC:=aC9.top (by kernel_rfl)
end
section
theorem aBV{d:Nat}{n:Node}(h:wr (d+2) n)(i:Nat):wr (d+1) (n.kids.getD i (Df.d:Node)):=by
 rw[List.getD];cases e:n.kids[i]? with
 | none=>exact⟨aaG _,aaG _,(fun _=>rfl),aaG _,(fun k hk=>by cases hk),(fun y hy=>by cases hy)⟩
 | some x=>exact h.2.2.2.2.2 x (agC e)
theorem aET{d:Nat}{n:Node}(h:wr (d+1) n):n.keys.length<=300/\(n.kind=3->n.keys.length=n.kids.length)/\TL n.keys:=⟨h.1,fun e=>h.2.2.1 (.inr e),by unfold TL;exact h.2.2.2.2.1⟩
theorem aDa{d:Nat}(hd:d<=491){n:Node}(h:wr d n):W1 n:=by unfold W1 W;have:=acy (491-d) h;rwa[show d+(491-d)=491 by omega]at this
theorem aDb{d:Nat}(hd:d<=400){n:Node}(h:wr (d+2) n):H1 n:=by unfold H1;exact⟨aET h,fun i=>aDa (by omega) (aBV h i)⟩
theorem aBW{α:Type}[Df α]{o:Option α}{Q:α->Prop}(h:Z o Q):∃r,o=some r/\Q r:=by obtain⟨h1,h2⟩:=h;obtain⟨r,rfl⟩:=Option.isSome_iff_exists.1 h1;exact⟨r,rfl,h2⟩
theorem aby{f:Node->Node->Bool}:∀(l:List Node),(∀x∈l,f x x=true)->Ms f l l=true
 | [],_=>rfl
 | a::t,h=>by unfold Ms;rw[h a abd,aby t fun x hx=>h x (abb _ hx)];rfl
theorem aeQ:∀(n:Nat) (x:Node),dp n x=true->same n x x=true
 | 0,_,h=>by cases h
 | n+1,x,h=>by unfold same;rw[aby x.kids fun y hy=>aeQ n y ((KL.1 h).2 y hy)];simp
def aqA:List (aqO):=[[105,109,97,103,101],[99,111,109,109,97,110,100],[101,110,118,105,114,111,110,109,101,110,116],[108,97,98,101,108,115],[112,111,114,116,115],[118,111,108,117,109,101,115],[110,101,116,119,111,114,107,115],[112,114,111,102,105,108,101,115],[100,101,112,101,110,100,115,95,111,110],[101,120,116,101,110,100,115],[104,101,97,108,116,104,99,104,101,99,107],[114,101,115,116,97,114,116],[115,99,97,108,101],[99,112,117,115],[109,101,109,95,108,105,109,105,116]]
theorem aBX:zC=some (Pl.KE aqA):=by refine dL rfl ?_;simp only[aN,FW];rfl
theorem av6{k:aqO}(h:¬ qM k<0):eF (Pl.KE aqA) k=true:=by
 rw[jm,<- Pl.Tx,Pl.jN];rcases LQ k with hk | hk
 ·rcases hk with(rfl | rfl | rfl | rfl | rfl | rfl) | (rfl | rfl) | (rfl | rfl) | rfl | rfl | rfl | rfl | rfl<;>decide
 ·exact absurd (show qM k<0 by omega) h
theorem azB:nL (Pl.KE aqA)=true:=by rw[<- Pl.Tx];exact sW.2 (Nat.le_trans (Pl.tZ aqA) (by decide))
theorem at5{d:Nat}(hd:d<=1000){x:Node}(h:wg 10000 d x=true):Oo 1000 x x=true/\same 1000 x x=true:=by have:=ape (by decide) (Wt hd h);exact⟨by simp only[Oo,this,adM],aeQ 1000 x this⟩
theorem Vm{d:Nat}(hd:d<=400){n:Node}(h:sn (d+2) n):(fG n).isSome=true:=by obtain⟨r,hr,_⟩:=aBW (YF n (aDb hd (axr h)));rw[hr];rfl
theorem aDc(n:Node):aqz n=some true:=by
 refine jo rfl (fun | .e y=>y=n | .h0 v0 v1=>Sv v1/\∃i:Nat,v0=(i:Int)/\i<=v1.keys.length/\v1.keys.length<=300) (fun | .e _=>10000000000 | .h0 v0 v1=>((v1.keys.length:Int)-v0).toNat) rfl (by show 10000000000<_;omega) ?_;rintro(y | ⟨v0,v1⟩) hs'
 ·have hs':y=n:=hs';subst hs';simp only[aN,bB,ags,bf,akh,aH];rw[show aiO y (200:Int)=true from rfl,av];cases h : !(IJ y (200:Int))with
  | true=>rw[cond_true];trivial
  | false =>
   have hsm:IJ y 200=true:=by simpa using h
   have hsi:=av5 (by decide) hsm;have hp:=akf hsi (Vm (d:=10) (by decide) (FU hsi));have hw:=aBy y (Nat.le_trans hsi.1.1.1 (by decide)) fun z hz=>at1 (d:=7) (hsi.2.2.2 z hz) (by decide)
   obtain⟨s1,s2⟩:=at5 (by decide) hw;have hl:=(XK (e:=7) hsi (by decide)).2;rw[cond_false,hp,alW hsi];simp only[aH];generalize Ao y=s at hl s1 s2 ⊢;rw[s1,av,s2];simp only[beq_self_eq_true,bne_self_eq_false,adr,cond_false];by_cases he:s.e=0
   ·obtain⟨sv,_⟩:=hl he;rw[nK he,cond_false,afH sv (Vm (d:=5) (by decide) sv.CQ)];simp only[aH,s1,s2];have hk:=sv.CQ.1.1.1;refine⟨⟨sv,0,rfl,aaG _,hk⟩,?_⟩;show((s.n.keys.length:Int)-0).toNat<10000000000;omega
   ·rw[kr he,cond_true];trivial
 ·obtain⟨sv,i,rfl,h1,h2⟩:=hs';simp only[aN,bB,ags,akh,aH,aBX];by_cases hi:i<v1.keys.length
  ·have e1:ak ((i:Int)+1)=((i+1:Nat):Int):=by rw[aV (by omega) (by omega)];omega
   have hg:v1.keys.getD i (Df.d:aqO)=v1.keys[i]:=by rw[List.getD,aaz hi];rfl
   rw[dT (show(i:Int)<(v1.keys.length:Int) by omega),cond_true,wI];refine⟨by omega,by omega,?_⟩;rw[aaE,hg,azB,av,av6 (sv.key _ (aee hi)),e1];exact⟨⟨sv,i+1,rfl,by omega,h2⟩,by show((v1.keys.length:Int)-((i+1:Nat):Int)).toNat<((v1.keys.length:Int)-(i:Int)).toNat;omega⟩
  ·rw[dF (show ¬ (i:Int)<(v1.keys.length:Int) by omega),cond_false];trivial
def aBY:jC E:=fnG (E:=E) [.ah] [.bool] fun _=>some true
theorem azC:bG E 3 aBY:=by
 have h:=aBU;unfold axC at h;have e:(fun a:Args E [.ah]=>(aqz a:Option (Args E [.bool])))=fun _=>some true:=funext fun a=>aDc a
 rw[e]at h;exact h
end
end Go.Proofs.YtclnniijooeajaaGreatDoor.Rf
namespace Go.Proofs.YtclnniijooeajaaGreatDoor.bg
open Go Go.RowKit Go.Deep
section
def below(w:World):Nat->Nat->Prop:=fun k _=>k<w.heap.size
section
variable {P:Program} {E:Env P}
def Opens(E:Env P)(T:TypeId)(R:List (bC E.Den)->Prop):Prop :=
 ∀{H:Type} (enc:TypeId×Value->H) (w:World) (base:Nat) (spare:Nat->Bool) (held:Bool) (fuel:Nat) (cs:List Value) (x:DataW H×List MemPlace),DataW.trod enc P w base spare held fuel T cs=some x ->
  ∃ds,R ds/\cs.length=ds.length/\∀(j:Nat) v d,cs[j]? = some v->ds[j]? = some d->dO E w (below w) v d
def Pq(E:Env P)(t:E.Ty):Prop:=Opens E (E.tid t) fun ds=>∃x,ds=E.cells t x
theorem one_cell{w:World}{v:Value}{d:bC E.Den}(h:dO E w (below w) v d):∀(j:Nat) u e,[v][j]? = some u->[d][j]? = some e->dO E w (below w) u e:=by
 intro j u e hu he;cases j with
 | zero=>simp at hu he;subst hu;subst he;exact h
 | succ j=>simp at hu
theorem at6{T:TypeId}{k:IntKind}(hT:P.underlying T=some (.int k)):Opens E T fun ds=>∃n,ds=[.int k n]:=by intro H enc w base spare held fuel cs x h;obtain⟨n,rfl,_,_⟩:=DataW.trod_int hT h;exact⟨[.int k n],⟨n,rfl⟩,rfl,one_cell (.int k n)⟩
theorem at7{T:TypeId}(hT:P.underlying T=some .string):Opens E T fun ds=>∃s:aqO,ds=[.str s]/\s.length<=maxLen:=by intro H enc w base spare held fuel cs x h;obtain⟨s,rfl,_,hs⟩:=DataW.trod_string hT h;refine⟨[.str s.data.toList],⟨_,rfl,by rw[ahg];exact hs⟩,rfl,one_cell ?_⟩;have:=dO.str (E:=E) (w:=w) (ro:=below w) s.data.toList;simpa using this
theorem anV{w:World}{a:Addr}{u:Value}(h:w.cell? a=some u):a.block<w.heap.size:=by
 rcases aiX a.block w.heap.size with hl | hl
 ·exact hl
 ·unfold World.cell? at h;rw[Array.getElem?_eq_none hl]at h;cases h
theorem alZ{T:TypeId}{t:E.Ty}(hT:P.underlying T=some (.slice (E.tid t)))(ht:Pq E t)(hC:P.cellsOf (E.tid t)=E.size t):Opens E T fun ds=>∃l,ds=[.slice t l]:=by
 intro H enc w base spare held fuel cs x h;rcases open_slice hT h with⟨rfl,_⟩ | ⟨a,len,cap,m,n,D,Pl,rfl,hb,hl,hm,hmm,hx,hi⟩
 ·exact⟨[.slice t []],⟨[],rfl⟩,rfl,one_cell (.nil t none 0)⟩
 ·have hle:len<=m:=by rw[hmm];split<;>omega
  have hpos:=E.size_pos t;have key:∀i,i<len->∃x:E.Den t, ∀(j:Nat) c,(E.cells t x)[j]? = some c->∃u,w.cell? (a.add (i*E.size t+j))=some u/\dO E w (below w) u c:=by
   intro i hil;obtain⟨cs',hc,htr⟩:=hi i (by omega);rw[hC]at hc;obtain⟨ds,⟨y,rfl⟩,hlen,hd⟩:=ht enc w base spare held n cs' _ htr;obtain⟨_,hcl,hat⟩:=World.cells?_some hc;refine⟨y,fun j c hj=>?_⟩;have hjl:j<E.size t:=by rw[<- E.jd t y];exact(List.getElem?_eq_some_iff.1 hj).1
   have hcj:=hat j hjl;have hv:cs'[j]? = some (cs'[j]'(by omega)):=aaz (by omega);refine⟨_,?_,hd j _ c hv hj⟩;rw[<- Go.Deep.add_add,hcj,hv]
  let pick:Nat->E.Den t:=fun i=>if hil:i<len then Classical.choose (key i hil)else E.dflt t
  have hpick:∀i,i<len->∀(j:Nat) c,(E.cells t (pick i))[j]? = some c->∃u,w.cell? (a.add (i*E.size t+j))=some u/\dO E w (below w) u c:=by intro i hil;have:=Classical.choose_spec (key i hil);simpa only [pick,dif_pos hil]using this
  refine⟨[.slice t ((List.range len).map pick)],⟨_,rfl⟩,rfl,one_cell ?_⟩;by_cases h0:len=0
  ·subst h0;exact .nil t _ _
  ·obtain⟨g,off,spot⟩:=a;have hsp:spot=none:=by
    have hc0:0<(E.cells t (pick 0)).length:=by rw[E.jd];exact hpos
    obtain⟨u,hu,_⟩:=hpick 0 (by omega) 0 _ (aaz hc0);have:=World.cell?_spot hu;unfold Addr.add at this;split at this
    ·simpa using this
    ·rename_i hne;exact absurd (by simp) hne
   subst hsp;have hlen:((List.range len).map pick).length=len:=by simp
   have at_:∀i x j c,((List.range len).map pick)[i]? = some x->(E.cells t x)[j]? = some c->∃u,w.cell? ⟨g,off+i*E.size t+j,none⟩=some u/\dO E w (below w) u c:=by
    intro i x j c hix hj;have hil:i<len:=by have:=(List.getElem?_eq_some_iff.1 hix).1;simpa using this
    have hx':x=pick i:=by simp[hil]at hix;exact hix.symm
    subst hx';obtain⟨u,hu,hd⟩:=hpick i hil j c hj;rw[show(⟨g,off,none⟩:Addr).add (i*E.size t+j)=⟨g,off+(i*E.size t+j),none⟩from by unfold Addr.add;split<;>simp_all]at hu;rw[<- al3]at hu;exact⟨u,hu,hd⟩
   have:=dO.slice (E:=E) (w:=w) (ro:=below w) t ((List.range len).map pick) g off cap (fun i j=>(w.cell? ⟨g,off+i*E.size t+j,none⟩).getD undef) (by rw[hlen];exact hl)
    (fun i x j c hix hj=>by obtain⟨u,hu,_⟩:=at_ i x j c hix hj;exact⟨anV hu,by rw[hu];rfl⟩)
    (fun i x j c hix hj=>by obtain⟨u,hu,hd⟩:=at_ i x j c hix hj;simp only[hu,am4];exact hd)
   rw[hlen]at this;exact this
def RAll:List (List (bC E.Den)->Prop)->List (bC E.Den)->Prop
 | [],ds=>ds=[]
 | R::Rs,ds=>∃a b,R a/\ds=a++b/\RAll Rs b
theorem Opens.mono{T:TypeId}{R R':List (bC E.Den)->Prop}(h:Opens E T R)(hR:∀ds,R ds->R' ds):Opens E T R':=by intro H enc w base spare held fuel cs x hx;obtain⟨ds,h1,h2⟩:=h enc w base spare held fuel cs x hx;exact⟨ds,hR ds h1,h2⟩
theorem azD{H:Type}{enc:TypeId×Value->H}{w:World}{base:Nat}{spare:Nat->Bool}{held:Bool}{t:E.Ty}(ho:Pq E t){v:Value}{d:DataW H}{p:List MemPlace}(hsh:(E.agg t=true/\∃vs,v = .agg vs)\/(E.agg t=false/\v.cells = #[v]))
  (h:DataW.Trod enc P w base spare held (E.tid t) v d p):∃x,uF E w (below w) v t x:=by
 obtain⟨fuel,h⟩:=h;obtain⟨ds,⟨x,rfl⟩,hl,hd⟩:=ho enc w base spare held fuel _ _ h;refine⟨x,?_⟩;rcases hsh with⟨ha,vs,rfl⟩ | ⟨ha,hv⟩
 ·exact .inl ⟨ha,vs,rfl,by simpa[Value.cells]using hl,fun j u e hu he=>hd j u e (by simpa[Value.cells]using hu) he⟩
 ·rw[hv]at hl hd;obtain⟨c,hc⟩:=Rm ((E.jd t x).trans (E.one t ha));refine .inr ⟨ha,c,hc,hd 0 v c rfl (by rw[hc];rfl)⟩
end
end
end Go.Proofs.YtclnniijooeajaaGreatDoor.bg
namespace Go.Proofs.YtclnniijooeajaaGreatDoor.bg
open Go Go.RowKit Go.Deep
section
section
variable {P:Program} {E:Env P}
def yG(E:Env P)(b:Nat)(T:TypeId)(R:List (bC E.Den)->Prop):Prop :=
 ∀{H:Type} (enc:TypeId×Value->H) (w:World) (base:Nat) (spare:Nat->Bool) (held:Bool) (fuel:Nat) (cs:List Value) (x:DataW H×List MemPlace),fuel<b->DataW.trod enc P w base spare held fuel T cs=some x ->
  ∃ds,R ds/\cs.length=ds.length/\∀(j:Nat) v d,cs[j]? = some v->ds[j]? = some d->dO E w (below w) v d
theorem aqB{T:TypeId}{R:List (bC E.Den)->Prop}(h:∀b,yG E b T R):Opens E T R:=fun enc w base spare held fuel cs x hx=>h (fuel+1) enc w base spare held fuel cs x (Nat.lt_succ_self _) hx
theorem Vn{b:Nat}{T:TypeId}{R:List (bC E.Den)->Prop}(h:Opens E T R):yG E b T R:=fun enc w base spare held fuel cs x _ hx=>h enc w base spare held fuel cs x hx
theorem al0{T:TypeId}{R:List (bC E.Den)->Prop}:yG E 0 T R:=fun _ _ _ _ _ _ _ _ hx _=>absurd hx (Nat.not_lt_zero _)
theorem yG.mono{b:Nat}{T:TypeId}{R R':List (bC E.Den)->Prop}(h:yG E b T R)(hR:∀ds,R ds->R' ds):yG E b T R':=fun enc w base spare held fuel cs x hfb hx=>by obtain⟨ds,h1,h2⟩:=h enc w base spare held fuel cs x hfb hx;exact⟨ds,hR ds h1,h2⟩
theorem aki{b:Nat}{T:TypeId}{t:E.Ty}(hT:P.underlying T=some (.slice (E.tid t)))(ht:yG E b (E.tid t) fun ds=>∃x,ds=E.cells t x)(hC:P.cellsOf (E.tid t)=E.size t):yG E b T fun ds=>∃l,ds=[.slice t l]:=by
 intro H enc w base spare held fuel cs x hfb h;rcases DataW.trod_slice hT h with⟨rfl,_⟩ | ⟨a,len,cap,elems,rest,n,hfu,rfl,hx,hb,hl,hm,aFM,hel,_,_⟩
 ·exact⟨[.slice t []],⟨[],rfl⟩,rfl,one_cell (.nil t none 0)⟩
 ·have hpos:=E.size_pos t;have key:∀i,i<len->∃x:E.Den t, ∀(j:Nat) c,(E.cells t x)[j]? = some c->∃u,w.cell? (a.add (i*E.size t+j))=some u/\dO E w (below w) u c:=by
   intro i hil;have ZP:=hel i hil;rw[aaz (show i<elems.length by omega)]at ZP;obtain⟨cs',hc,htr⟩:=Option.bind_eq_some_iff.1 ZP;rw[hC]at hc;obtain⟨ds,⟨y,rfl⟩,hlen,hd⟩:=ht enc w base spare held n cs' _ (by omega) htr;obtain⟨_,hcl,hat⟩:=World.cells?_some hc;refine⟨y,fun j c hj=>?_⟩;have hjl:j<E.size t:=by rw[<- E.jd t y];exact(List.getElem?_eq_some_iff.1 hj).1
   have hcj:=hat j hjl;have hv:cs'[j]? = some (cs'[j]'(by omega)):=aaz (by omega);refine⟨_,?_,hd j _ c hv hj⟩;rw[<- Go.Deep.add_add,hcj,hv]
  let pick:Nat->E.Den t:=fun i=>if hil:i<len then Classical.choose (key i hil)else E.dflt t
  have hpick:∀i,i<len->∀(j:Nat) c,(E.cells t (pick i))[j]? = some c->∃u,w.cell? (a.add (i*E.size t+j))=some u/\dO E w (below w) u c:=by intro i hil;have:=Classical.choose_spec (key i hil);simpa only [pick,dif_pos hil]using this
  refine⟨[.slice t ((List.range len).map pick)],⟨_,rfl⟩,rfl,one_cell ?_⟩;by_cases h0:len=0
  ·subst h0;exact .nil t _ _
  ·obtain⟨g,off,spot⟩:=a;have hsp:spot=none:=by
    have hc0:0<(E.cells t (pick 0)).length:=by rw[E.jd];exact hpos
    obtain⟨u,hu,_⟩:=hpick 0 (by omega) 0 _ (aaz hc0);have:=World.cell?_spot hu;unfold Addr.add at this;split at this
    ·simpa using this
    ·rename_i hne;exact absurd (by simp) hne
   subst hsp;have hlen:((List.range len).map pick).length=len:=by simp
   have at_:∀i x j c,((List.range len).map pick)[i]? = some x->(E.cells t x)[j]? = some c->∃u,w.cell? ⟨g,off+i*E.size t+j,none⟩=some u/\dO E w (below w) u c:=by
    intro i x j c hix hj;have hil:i<len:=by have:=(List.getElem?_eq_some_iff.1 hix).1;simpa using this
    have hx':x=pick i:=by simp[hil]at hix;exact hix.symm
    subst hx';obtain⟨u,hu,hd⟩:=hpick i hil j c hj;rw[show(⟨g,off,none⟩:Addr).add (i*E.size t+j)=⟨g,off+(i*E.size t+j),none⟩from by unfold Addr.add;split<;>simp_all]at hu;rw[<- al3]at hu;exact⟨u,hu,hd⟩
   have:=dO.slice (E:=E) (w:=w) (ro:=below w) t ((List.range len).map pick) g off cap (fun i j=>(w.cell? ⟨g,off+i*E.size t+j,none⟩).getD undef) (by rw[hlen];exact hl)
    (fun i x j c hix hj=>by obtain⟨u,hu,_⟩:=at_ i x j c hix hj;exact⟨anV hu,by rw[hu];rfl⟩)
    (fun i x j c hix hj=>by obtain⟨u,hu,hd⟩:=at_ i x j c hix hj;simp only[hu,am4];exact hd)
   rw[hlen]at this;exact this
def adl(E:Env P)(b n:Nat):Nat->List Field->List (List (bC E.Den)->Prop)->Prop
 | off,[],[]=>off=n
 | off,f::fs,R::Rs=>f.offset=off/\yG E b f.type R/\adl E b n (off+P.cellsOf f.type) fs Rs
 | _,_,_=>False
theorem R9{H:Type}{enc:TypeId×Value->H}{w:World}{base:Nat}{spare:Nat->Bool}{held:Bool}{b n fuel:Nat}{cs:List Value}(hfb:fuel<b)(hn:cs.length=n):∀(fl:List Field) (Rs:List (List (bC E.Den)->Prop)) (off:Nat),adl E b n off fl Rs ->
  (∀f∈fl, ∃y,DataW.trod enc P w base spare held fuel f.type ((cs.drop f.offset).take (P.cellsOf f.type))=some y) ->
  ∃ds,RAll Rs ds/\(cs.drop off).length=ds.length/\∀(j:Nat) v d,(cs.drop off)[j]? = some v->ds[j]? = some d->dO E w (below w) v d
 | [],[],off,h,_=>by have h:off=n:=h;subst h;exact⟨[],rfl,by simp[hn],fun j v d _ hd=>by simp at hd⟩
 | f::fl,R::Rs,off,h,hf=>by
  obtain⟨ho,hR,hrest⟩:=h;subst ho;obtain⟨y,hy⟩:=hf f abd;obtain⟨d1,hR1,hl1,hd1⟩:=hR enc w base spare held fuel _ _ hfb hy;obtain⟨d2,hR2,hl2,hd2⟩:=R9 hfb hn fl Rs _ hrest fun g hg=>hf g (abb _ hg)
  rw[<- ama]at hl2 hd2;generalize hA:(cs.drop f.offset).take (P.cellsOf f.type)=A at *;generalize hB:(cs.drop f.offset).drop (P.cellsOf f.type)=B at *;have hsplit:cs.drop f.offset=A++B:=by rw[<- hA,<- hB,aif]
  refine⟨d1++d2,⟨d1,d2,hR1,rfl,hR2⟩,by rw[hsplit,List.length_append,List.length_append,hl1,hl2],fun j v d hv hd=>?_⟩;rw[hsplit]at hv;rcases aiX j d1.length with hj | hj
  ·rw[aer (by omega)]at hv;rw[aer hj]at hd;exact hd1 j v d hv hd
  ·rw[aef (by omega),hl1]at hv;rw[aef hj]at hd;exact hd2 _ v d hv hd
 | [],_::_,_,h,_=>h.elim
 | _::_,[],_,h,_=>h.elim
theorem afI{b:Nat}{T:TypeId}{fs:Array Field}{Rs:List (List (bC E.Den)->Prop)}(hT:P.underlying T=some (.struct fs))(hF:adl E b (P.cellsOf T) 0 fs.toList Rs):yG E (b+1) T (RAll Rs):=by
 intro H enc w base spare held fuel cs x hfb h;obtain⟨xs,n,rfl,rfl,hl,hlen,hf⟩:=DataW.trod_struct hT h;obtain⟨ds,h1,h2,h3⟩:=R9 (enc:=enc) (w:=w) (base:=base) (spare:=spare) (held:=held) (fuel:=n) (by omega) hl fs.toList Rs 0 hF (fun f hf'=>by
  obtain⟨i,hi⟩:=List.getElem?_of_mem hf';have hi':fs[i]? = some f:=by simpa using hi
  have hlt:i<xs.length:=by rw[hlen];exact(Array.getElem?_eq_some_iff.1 hi').1
  exact⟨xs[i],by rw[hf i f hi',aaz hlt]⟩)
 exact⟨ds,h1,by simpa using h2,by simpa using h3⟩
end
end
end Go.Proofs.YtclnniijooeajaaGreatDoor.bg
namespace Go.Proofs.YtclnniijooeajaaGreatDoor.Rf
open Go Go.ChangeShapes Go.WideShapes Go.ChangeAt Go.RowKit Go.Proofs.YtclnniijooeajaaGreatDoor.bg
theorem azE:Pq E .int:=Opens.mono (E:=E) (at6 (T:=3) (k:=.i64) (by kernel_rfl)) fun _ ⟨n,h⟩=>⟨n,h⟩
theorem anX:Pq E .str:=Opens.mono (E:=E) (at7 (T:=9) (by kernel_rfl)) fun _ ⟨n,h,_⟩=>⟨n,h⟩
theorem aua:Pq E .cu:=Opens.mono (E:=E) (alZ (E:=E) (T:=22) (t:=.str) (by kernel_rfl) anX (by kernel_rfl)) fun _ ⟨l,h⟩=>⟨l,h⟩
set_option maxRecDepth 100000 in
theorem akj:Pq E .ah:=aqB fun b=>by
 induction b with
 | zero=>exact al0
 | succ b ih=>exact yG.mono (E:=E) (afI (E:=E) (Rs:=[(fun ds=>∃x,ds=E.cells .int x),(fun ds=>∃x,ds=E.cells .str x),(fun ds=>∃x,ds=E.cells .cu x),(fun ds=>∃x,ds=E.cells .jT x)]) Tryz.underlying25 ⟨by kernel_rfl,Vn azE,by kernel_rfl,Vn anX,by kernel_rfl,Vn aua,by kernel_rfl,yG.mono (aki (E:=E) (T:=23) (t:=.ah) (by kernel_rfl) ih (by kernel_rfl)) fun _ ⟨l,h⟩=>⟨l,h⟩,(by kernel_rfl:0+Tryz.prog.cellsOf 3+Tryz.prog.cellsOf 9+Tryz.prog.cellsOf 22+Tryz.prog.cellsOf 23=Tryz.prog.cellsOf 25)⟩) fun _ ⟨_,_,⟨x0,h0⟩,g0,_,_,⟨x1,h1⟩,g1,_,_,⟨x2,h2⟩,g2,_,_,⟨x3,h3⟩,g3,g4⟩=>⟨(⟨x0,x1,x2,x3⟩:Node),by rw[g0,h0,g1,h1,g2,h2,g3,h3,g4];rfl⟩
theorem own:ownKnob Tryz.prog.godebug=none:=by kernel_rfl
theorem laidOut:laidOutB Tryz.prog=true:=by kernel_rfl
theorem av7{w:World}{ro:Nat->Nat->Prop}{v:Value}{b:Bool}(h:pQ E w ro v [⟨.bool,b⟩]):v = .bool b:=by
 rcases h with⟨ha,_⟩ | ⟨_,c,hc,hd⟩
 ·cases ha
 ·have e:c = .bool b:=by
   have:([.bool b]:List (bC E.Den))=[c]:=hc;simpa using this.symm
  subst e;cases hd;rfl
set_option maxRecDepth 100000 in
theorem lifted(os:Os)(started:os.Started)(H:Type)(enc:TypeId×Value->H) :
  ReturnsInHanded {} Tryz.checked os 3 .any (fun w args=>(Rows.schemaServicesSpec.pre enc Tryz.prog Tryz.f3 Rows.schemaServicesRow.domain false w args/\laidMetH Tryz.prog Rows.schemaServicesRow.laid w)/\sizedMet enc Tryz.prog Tryz.f3 (OpenSpec.ofChange Rows.schemaServicesSpec) false w args) (Rows.schemaServicesSpec.post enc Tryz.prog Tryz.f3 false true false false):=by
 refine returnsInHanded_of_change_and (C:=Tryz.checked) (X:=fun w _=>laidMetH Tryz.prog Rows.schemaServicesRow.laid w) (fun _ _ _ hh h=>h.of_heap hh) own started (by kernel_rfl) Tryz.func3
  (ChangeSpec.witness_shaped (enc:=enc) (C:=Tryz.checked) (os:=os) (X:=fun w _=>laidMetH Tryz.prog Rows.schemaServicesRow.laid w) false (World.laidAll Tryz.prog os Rows.schemaServicesRow.laid) #[.agg #[.int .i64 0,.string ⟨#[]⟩,.slice none 0 0,.slice none 0 0]] 8 (World.laidAll_os _ _ _)
   (World.shaped_of_ZipB (by kernel_rfl) (by kernel_rfl)) (by kernel_rfl) (by kernel_rfl) (by kernel_rfl)
   (by rw[MakeChecks.laidMetH_plain _ _ _ (by kernel_rfl)];exact laidMet_laidAll _ (by kernel_rfl) (by kernel_rfl))) ?_
 intro W base args ds gs before hval0 hW _ _ hL _;have hval:∀(j:Nat) t v,Tryz.f3.params[j]? = some t->args[j]? = some v->Value.okWide Tryz.prog W .any base t v:=hval0;have hW':=hW;obtain⟨p,q,hA0,hV,rfl,hfz,hnd⟩:=hW;have hA:DataW.TrodAll enc Tryz.prog W 0 (fun _=>true) true Tryz.f3.params.toList args.toList ds p:=hA0;rw[Tryz.params3]at hA hval;obtain⟨v0,vs0,d0,ds0,p0,q0,hargs,rfl,rfl,h0,r0⟩:=trodAll_cons hA;obtain⟨rfl,rfl,rfl⟩:=trodAll_nil r0;obtain rfl:args = #[v0]:=by cases args;simp_all
 obtain⟨rfl,rfl⟩:=trodVars_none hV;obtain⟨cs0,rfl,_⟩:=okWide_struct Tryz.underlying25 (hval 0 25 v0 rfl rfl);have lt0:∀x∈p0,x.block<W.heap.size:=by obtain⟨m,hm⟩:=h0;exact DataW.trod_lt m _ _ _ hm
 obtain⟨x0,t0⟩:=azD (E:=E) (t:=.ah) akj (.inl ⟨rfl,_,rfl⟩) h0;clear hA0 hval0;refine(azC.2 [⟨.ah,x0⟩] [⟨.bool,true⟩] rfl W (below W) [_] ⟨t0,trivial⟩ (fun _ _ h=>h)).mono fun e W' ⟨v,he,bel,hret⟩=>?_
 have hv:=av7 hret;subst hv;subst he;exact⟨_,rfl,_,_,_,[],_,[],hW',trodAll_mk1 (shut_bool Tryz.underlying4 _),
  (trodAll_cons_mk (Below.trod laidOut (by kernel_rfl) (of_decide_eq_true (by kernel_rfl)) h0 bel lt0) trodAll_mk0),rfl,bel.frame _,fun h=>by cases h⟩
theorem over:Rows.schemaServicesRow.holds Tryz.pinned (OpenSpec.ofChange Rows.schemaServicesSpec) :=
 OpenClaim.holds_of_wide 3 Tryz.f3 rfl rfl rfl rfl rfl rfl rfl ⟨rfl,rfl,rfl,rfl,rfl⟩ rfl rfl rfl rfl rfl (by kernel_rfl) Tryz.func3 (by kernel_rfl)
  (of_decide_eq_true (by kernel_rfl)) (by unfold Func.isWrapper;first | (rw[if_pos (by decide +kernel)];kernel_rfl) | (rw[if_neg (by decide +kernel)];exact⟨rfl,rfl⟩))
  (fun os started H enc _=>lifted os started H enc)
theorem schemaServices_proved:Rows.SchemaServicesCardSaid :=
 Claim7.holds_tied_plain_at .later [] [.data,.pinned] true (true, "5eaabc0b90d9a0f78aab311b87f583091d4f8c9d2356998a9423c47df71a69f5") false over (fun _ h=>by cases h) (by kernel_rfl) (fun _ h=>by cases h) schemaServices_row_tie rfl ⟨rfl,rfl⟩ (by kernel_rfl) rfl
  (fun f fn hf hfn=>by
   obtain rfl:f=3:=Option.some.inj ((show Tryz.prog.funcNamed "longshore/longshorelaw19.SchemaServices" = some 3 by kernel_rfl).symm.trans hf) |>.symm
   obtain rfl:fn=Tryz.f3:=(Option.some.inj (Tryz.func3.symm.trans hfn)).symm;exact⟨by kernel_rfl,fun j t ht=>by
    rw[Tryz.params3]at ht;have hm:t∈[25]:=by simpa using Array.mem_of_getElem? ht
    have hall:([25].all fun u=>!Tryz.prog.wantsStandIn u)=true:=by kernel_rfl
    exact(show Tryz.prog.wantsStandIn t=false by simpa using ahn.1 hall t hm)⟩)
  (by kernel_rfl)
#print axioms schemaServices_proved
end Go.Proofs.YtclnniijooeajaaGreatDoor.Rf
