/- 'BlendOver' of chapter 20, closed: what the law's function computes (by the Mirror) gives the given statement, without conditions. -/
import Derived.Test.YtibpdjmikfmmaaaGreatDoorBw1
import Derived.Test.YtibpdjmikfmmaaaGreatDoorBw8
import Derived.Test.YtibpdjmikfmmaaaGreatDoorBw5
import Derived.Test.YtibpdjmikfmmaaaGreatDoorBw6
import Derived.Test.YtibpdjmikfmmaaaGreatDoorBw3
import Derived.Deep.Slices
import Derived.ChangeSame
import Derived.ChangeArms
import Derived.Test.YtibpdjmikfmmaaaGreatDoorCards
import Derived.Test.YtibpdjmikfmmaaaGreatDoorTie
import Derived.WalkKit
import Derived.ProofKit
import Derived.OpenShut
import Derived.ChangeOld
import Derived.Below
import Derived.Carry
import Derived.Lay
import Derived.LaidMore
import Derived.SevenTiedAt
import Derived.Stop.Joined
noncomputable section
namespace Go.Proofs.YtibpdjmikfmmaaaGreatDoor.Rf
open Go Go.RowKit Go.Sort Go.Proofs.YtibpdjmikfmmaaaGreatDoor.bB
theorem azF(n:An):(qp n).e≠0->(qp n).n=zn:=by
 have fin:∀o:An,(bif decide ((16:Int)<(o.keys.length:Int))then(⟨zn,jw,9⟩:jD)else⟨aL 14 o,[],0⟩).e≠0->(bif decide ((16:Int)<(o.keys.length:Int))then(⟨zn,jw,9⟩:jD)else⟨aL 14 o,[],0⟩).n=zn:=fun o=>by
  cases decide ((16:Int)<(o.keys.length:Int))with
  | true=>exact fun _=>rfl
  | false=>exact fun h=>absurd rfl h
 have go:∀(ks:List (anY)) (vs:List An) (o:An),(mZ ks vs o).e≠0->(mZ ks vs o).n=zn:=by
  intro ks
  induction ks with
  | nil=>intro vs o;rw[mZ];exact fin o;intro _ _ _ _ h;cases h
  | cons k ks ih =>
   intro vs o;cases vs with
   | nil=>rw[mZ];exact fin o;intro _ _ _ _ _ h;cases h
   | cons v vs =>
    rw[mZ];cases !(bP fV k)with
    | true=>exact fun _=>rfl
    | false =>
     cases(uD v).e != 0 with
     | true=>exact fun _=>rfl
     | false=>exact ih vs _
 unfold qp;cases n.kind != 3 with
 | true=>exact fun _=>rfl
 | false=>exact go _ _ _
theorem aBI{k:anY}(h:YR k=false):k=Kv\/k=jw\/k=O8\/k=O7:=by
 unfold YR at h;by_cases h1:k=Kv
 ·exact .inl h1
 by_cases h2:k=jw
 ·exact .inr (.inl h2)
 by_cases h3:k=O8
 ·exact .inr (.inr (.inl h3))
 by_cases h4:k=O7
 ·exact .inr (.inr (.inr h4))
 have e:∀{a:anY},¬ k=a->(k==a)=false:=fun h=>by simpa using h
 rw[e h1,e h2,e h3,e h4]at h;cases h
theorem azG{d e:Nat}{a:An}(h:sn d a)(h1:d<=e)(h2:e<=1000){m:Nat}(hm:d<=m)(hm2:m<=1000)(hs:aL m a=a):aL e a=a:=by have g1:=Qw h2 (Aw h1 (wO h)) (XO h1 (SV h));have g2:=Qw hm2 (Aw hm (wO h)) (XO hm (SV h));rw[<- g1,g2,hs]
structure Ff (k:anY) (a:An):Prop where
 fk:YR k=false
 nz:a.kind≠0
 v:(DX k a).1=a
 e:(DX k a).2.2=0
 uE:sn 8 a
 srt:aL 14 a=a
theorem Ff.aBJ{k:anY}{a:An}(h:Ff k a):ML k=false/\k.length<=30000:=by rcases aBI h.fk with rfl | rfl | rfl | rfl<;>exact⟨rfl,by decide⟩
theorem ard(k:anY)(y:An)(h:Ff k y):wg 10000 14 y=true/\kd 14 y=true:=⟨Aw (by decide) (wO h.uE),XO (by decide) (SV h.uE)⟩
theorem arf(k:anY)(y:An)(h:Ff k y):aL 14 y=y:=h.srt
theorem awG{e:Nat}{k:anY}{v:An}(h:si (e+6) v)(he:e+4<=11)(hf:YR k=false):(DX k v).2.2=(wD k v).e/\((wD k v).e≠0->(DX k v).2.1=(wD k v).path/\(wD k v).n=zn)/\((wD k v).e=0->(DX k v).1=(wD k v).n/\Ff k (wD k v).n):=by
 by_cases h1:k=jw
 ·have e1:∀x,DX k x=SE x:=fun x=>by unfold DX;rw[h1];rfl
  have e2:wD k v=qp v:=by unfold wD;rw[h1];rfl
  obtain⟨g1,g2⟩:=alc h he;rw[e1,e2,g1];refine⟨rfl,fun hx=>⟨rfl,azF v hx⟩,fun hx=>⟨rfl,?_⟩⟩;have s:=g2 hx;refine⟨hf,by rw[s.kind];decide,?_,?_,s.uE,s.srt⟩
  ·rw[e1,s.again]
  ·rw[e1,s.again]
 ·have n1:(k==jw)=false:=by simpa using h1
  by_cases h2:k=Kv
  ·have n2:(k==Kv)=true:=by rw[h2];rfl
   have e1:∀x:An,DX k x=(bif(bif x.kind != 1 then true else !(bP CV x.text))then(zn,k,10)else(x,[],0)):=fun x=>by unfold DX;rw[n1,n2,aqP];rfl
   have e2:wD k v=(bif(bif v.kind != 1 then true else !(bP CV v.text))then⟨zn,k,10⟩else⟨v,[],0⟩):=by unfold wD;rw[n1,n2];rfl
   rw[e1,e2];cases hc:(bif v.kind != 1 then true else !(bP CV v.text))with
   | true=>exact⟨rfl,fun _=>⟨rfl,rfl⟩,fun h=>by cases h⟩
   | false =>
    have hk:v.kind=1:=by
     by_cases hk:v.kind=1
     ·exact hk
     ·rw[jK hk]at hc;cases hc
    have hv:=Qy h hk;refine⟨rfl,fun h=>absurd rfl h,fun _=>⟨rfl,hf,by show v.kind≠0;omega,?_,?_,?_,?_⟩⟩
    ·show(DX k v).1=v;rw[e1,hc];rfl
    ·show(DX k v).2.2=0;rw[e1,hc];rfl
    ·show sn 8 v;rw[hv];exact Ct 7 (Nat.le_trans h.1.2.2.1 (by decide))
    ·show aL 14 v=v;rw[hv];rfl
  ·have n2:(k==Kv)=false:=by simpa using h2
   have e1:∀x:An,DX k x=(G5 x,k,G6 x):=fun x=>by unfold DX;rw[n1,n2];rfl
   have e2:wD k v=(bif !(rZ v)then⟨zn,k,10⟩else⟨jS v,[],0⟩):=by unfold wD;rw[n1,n2];rfl
   have gn:=Er (d:=e+4) h;obtain⟨g1,g2⟩:=(Wx gn).1;rw[e1,e2,g1,g2];cases hb:rZ v with
   | false=>exact⟨rfl,fun _=>⟨rfl,rfl⟩,fun h=>by cases h⟩
   | true =>
    obtain⟨f1,f2,f3,f4,f5⟩:=WI gn hb;obtain⟨q1,q2⟩:=(Wx f1).1;refine⟨rfl,fun h=>absurd rfl h,fun _=>⟨rfl,hf,f3,?_,?_,aCV (by decide) f4,azG f4 (by decide) (by decide) (m:=12) (by decide) (by decide) f5⟩⟩
    ·show(DX k (jS v)).1=jS v;rw[e1];show G5 (jS v)=_;rw[q1,f2.1]
    ·show(DX k (jS v)).2.2=0;rw[e1];show G6 (jS v)=0;rw[q2,f2.2];rfl
structure Sl (a:An):Prop where
 kind:a.kind=3
 again:flP a=(a,[],0)
 fe:Bu a=(a,[],0)
 uE:sn 9 a
 srt:aL 15 a=a
theorem aoK:∀(ks:List (anY)) (vs:List An) (o:An),Fa Ff ks vs->ks.Nodup->(∀k∈ks,k∉o.keys)->o.kind=3->o.text=[]->o.keys.length=o.kids.length->o.keys.Nodup->DY ks vs o=(dS 1000 ⟨3,[],o.keys++ks,o.kids++vs⟩,[],0)
 | [],[],o,_,_,_,h3,ht,_,_=>by unfold DY;rw[acg,acg,<- h3,<- ht,fP]
 | k::ks,v::vs,o,hf,hn,hd,h3,ht,hl,hnd=>by have hn':=List.nodup_cons.1 hn;obtain⟨p1,p2⟩:=aep h3 hl hnd (v:=v) (hd k abI);have q:=hf.1;rw[DY,q.aBJ.1,q.fk,eT q.nz,q.v,q.e];simp only[cond_false,show((0:Int)!=0)=false from rfl];rw[jK q.nz,cond_true,p1,aoK ks vs _ hf.2 hn'.2 (fun q hq=>aer hd hn hq) rfl rfl (by simp[hl]) p2];simp
 | [],_::_,_,h,_,_,_,_,_,_=>h.elim
 | _::_,[],_,h,_,_,_,_,_,_=>h.elim
theorem Sp.aBK{a:An}(h:Sp Ff a)(hl:a.keys.length<=1000):Bu a=(a,[],0):=by unfold Bu;rw[eT (show a.kind≠0 by rw[h.kind];decide),kZ h.kind,cond_false,cond_false,aoK a.keys a.kids _ h.all (lD h.ss) (fun k _ h=>by cases h) rfl rfl rfl aj7];show(dS 1000 ⟨3,[],a.keys,a.kids⟩,_,_)=_;rw[h.awD (by decide) ard arf hl]
theorem Sp.fsn{a:An}(h:Sp Ff a)(hl:a.keys.length<=1000):sn 9 a:=h.uE hl fun _ _ hy=>⟨hy.aBJ.2,hy.uE⟩
theorem Sp.Sl_{a:An}(h:Sp Ff a)(hl:a.keys.length<=1000)(hr:lg a=true):Sl a:=by refine⟨h.kind,?_,h.aBK hl,h.fsn hl,h.sorted arf⟩;unfold flP;rw[h.aBK hl];show(bif(bif(0:Int)==0 then !(lg a)else false)then _ else _)=_;rw[hr];rfl
theorem ayf{e:Nat}(he:e+4<=11):∀(ks:List (anY)) (vs:List An) (o:An),(∀y∈vs,si (e+6) y)->Ip Ff o->o.kind=3->o.keys.length+ks.length<=1000 ->
  ((yc ks vs o).e≠0/\DY ks vs o=(zn,(yc ks vs o).path,(yc ks vs o).e)/\(yc ks vs o).n=zn)\/∃o',Ip Ff o'/\o'.kind=3/\o'.keys.length<=1000/\DY ks vs o=(dS 1000 o',[],0)/\yc ks vs o=bif !(lg (aL 15 o'))then⟨zn,[],9⟩else⟨aL 15 o',[],0⟩:=by
 intro ks
 induction ks with
 | nil =>intro vs o _ ho h3 hl;exact .inr ⟨o,ho,h3,by simpa using hl,by unfold DY;rfl,by unfold yc;rfl⟩
 | cons k ks ih =>
  intro vs o hv ho h3 hl;rw[List.length_cons]at hl;cases vs with
  | nil=>exact .inr ⟨o,ho,h3,by omega,by unfold DY;rfl,by unfold yc;rfl⟩
  | cons v vs =>
   have hv':=fun y hy=>hv y (abD _ hy)
   rw[DY,yc];cases hf:ML k with
   | true=>exact ih vs o hv' ho h3 (by omega)
   | false =>
    cases hk:YR k with
    | true=>exact .inl ⟨by show(10:Int)≠0;decide,rfl,rfl⟩
    | false =>
     obtain⟨a1,a2,a3⟩:=awG (hv v abI) he hk;simp only[cond_false];cases hk0:v.kind==0 with
     | true=>exact ih vs o hv' ho h3 (by omega)
     | false =>
      simp only[cond_false];rw[a1];by_cases hx:(wD k v).e=0
      ·obtain⟨b1,b2⟩:=a3 hx;obtain⟨h1,h2,h4,_⟩:=EY (k:=k) (v:=(wD k v).n) ho.kind ho.len;rw[kZ hx,cond_false,cond_false,b1,jK b2.nz,cond_true,ho.with_];exact ih vs _ hv' (ho.put b2) h1 (by omega)
      ·obtain⟨b1,b2⟩:=a2 hx;rw[jK hx,cond_true,cond_true,b1];exact .inl ⟨hx,rfl,b2⟩
theorem aBL:aL 15 ⟨3,[],[],[]⟩=⟨3,[],[],[]⟩:=by have e:aL 15 (⟨3,[],[],[]⟩:An)=⟨3,[],Pl.bn [],(Pl.bn []).map fun k=>aL 14 (aG ⟨3,[],[],[]⟩ k)⟩:=rfl;have h:Pl.bn []=[]:=List.length_eq_zero_iff.1 (Nat.le_zero.1 (Pl.sw []));rw[e,h];rfl
theorem aC1{d:Nat}(hd:d<=13){x:An}(h:sn d x):dp 13 x=true:=ahl (by decide) (Aw hd (wO h))
theorem aoL{e:Nat}(hq:e+4<=11)(ks:List (anY))(vs:List An)(n:An)(hl:ks.length<=1000)(hy:∀y∈vs,si (e+6) y)(he:Bu n=DY ks vs ⟨3,[],[],[]⟩)(hr:rM n=yc ks vs ⟨3,[],[],[]⟩) :
  flP n=((rM n).n,(rM n).path,(rM n).e)/\((rM n).e=0->Sl (rM n).n)/\dp 13 (Bu n).1=true:=by
 unfold flP;rw[he,hr];rcases ayf hq ks vs ⟨3,[],[],[]⟩ hy (Ip.nil (.inr rfl)) rfl (by show 0+_<=_;omega)with⟨g1,g2,g3⟩ | ⟨o,g1,g2,g3,g4,g5⟩
 ·rw[g2];show(bif(bif(yc ks vs ⟨3,[],[],[]⟩).e==0 then !(lg zn)else false)then _ else _)=_/\_;rw[eT g1,g3];exact⟨rfl,fun h=>absurd h g1,rfl⟩
 ·obtain⟨f1,f2,f3⟩:=arb (d:=14) (by decide) ard arf g1 g2 g3;rw[g4,g5,f1];show((bif(bif(0:Int)==0 then !(lg (aL 15 o))else false)then _ else _)=_)/\_;have hd:=aC1 (by decide) (f2.fsn (by omega));cases hR:lg (aL 15 o)with
  | false=>exact⟨rfl,fun h=>absurd (show(9:Int)=0 from h) (by decide),hd⟩
  | true=>exact⟨rfl,fun _=>f2.Sl_ (by omega) hR,hd⟩
theorem ald{e:Nat}{n:An}(h:si (e+7) n)(he:e+4<=11):flP n=((rM n).n,(rM n).path,(rM n).e)/\((rM n).e=0->Sl (rM n).n)/\dp 13 (Bu n).1=true:=by
 by_cases h0:n.kind=0
 ·have ez:=aq7 h h0;have e1:Bu n=(⟨3,[],[],[]⟩,[],0):=by unfold Bu;rw[jL h0];rfl
  have e2:DY [] [] ⟨3,[],[],[]⟩=(⟨3,[],[],[]⟩,[],0):=by unfold DY;rw[(arb (P:=Ff) (d:=14) (by decide) ard arf (Ip.nil (.inr rfl)) rfl (by decide)).1,aBL]
  refine aoL he [] [] n (by decide) (fun y hy=>by cases hy) (by rw[e1,e2]) ?_;rw[ez];rfl
 ·by_cases h3:n.kind=3
  ·refine aoL he n.keys n.kids n h.1.1.1 h.2.2.2 ?_ ?_
   ·unfold Bu;rw[eT h0,kZ h3];rfl
   ·unfold rM;rw[jK h0,kZ h3];rfl
  ·have e1:Bu n=(zn,[],10):=by unfold Bu;rw[eT h0,jK h3];rfl
   have e2:rM n=⟨zn,[],10⟩:=by unfold rM;rw[jK h0,jK h3];rfl
   unfold flP;rw[e1,e2];exact⟨rfl,fun h=>absurd h (by decide),rfl⟩
theorem aBM{e:Nat}{n:An}(h:si (e+7) n)(he:e+4<=11):(rM n).e≠0->(rM n).n=zn:=by
 have go:∀(ks:List (anY)) (vs:List An),ks.length<=1000->(∀y∈vs,si (e+6) y)->(yc ks vs ⟨3,[],[],[]⟩).e≠0->(yc ks vs ⟨3,[],[],[]⟩).n=zn:=fun ks vs hl hy hne=>by
  rcases ayf he ks vs ⟨3,[],[],[]⟩ hy (Ip.nil (.inr rfl)) rfl (by show 0+_<=_;omega)with⟨g1,g2,g3⟩ | ⟨o,g1,g2,g3,g4,g5⟩
  ·exact g3
  ·rw[g5]at hne ⊢;cases hR:lg (aL 15 o)with
   | false=>rfl
   | true=>rw[hR]at hne;exact absurd rfl hne
 unfold rM;cases(bif n.kind != 0 then n.kind != 3 else false)with
 | true=>exact fun _=>rfl
 | false=>exact go n.keys n.kids h.1.1.1 h.2.2.2
theorem aoM(B:Nat):∀(n:Nat) (x:An) (d l:Int),d+(n+1:Nat)=14->l<=(B:Int)+1->0<=leftV (n+1) x d l->rR n x=true->sb B n x
 | n,x,d,l,hd,hl,h,hs=>by
  unfold leftV at h;cases h1:CW x d (l-1)with
  | true=>rw[h1,cond_true]at h;omega
  | false =>
   cases h2:Iw x with
   | true=>rw[h1,h2,cond_false,cond_true]at h;omega
   | false =>
    cases h3:Iy x (l-1)with
    | true=>rw[h1,h2,h3,cond_false,cond_false,cond_true]at h;omega
    | false =>
     rw[h1,h2,h3,cond_false,cond_false,cond_false]at h;have hA:¬ 12<d/\0<=x.kind/\x.kind<=3:=by
      unfold CW at h1;refine⟨fun a=>?_,?_⟩
      ·rw[dT a]at h1;cases hx:decide (l-1<0)<;>rw[hx]at h1<;>cases h1
      ·by_cases a:x.kind<0
       ·rw[dT a]at h1;cases hx:decide (l-1<0)<;>cases hy:decide (12<d)<;>rw[hx,hy]at h1<;>cases h1
       ·by_cases b:3<x.kind
        ·rw[dT b]at h1;cases hx:decide (l-1<0)<;>cases hy:decide (12<d)<;>cases hz:decide (x.kind<0)<;>rw[hx,hy,hz]at h1<;>cases h1
        ·omega
     obtain⟨m,rfl⟩:∃m,n=m+1:=⟨n-1,by omega⟩
     simp only[rR,abK,ab6,afE]at hs;obtain⟨q1,q2⟩:=R9 (fun k l h=>Mf (m+1) k (d+1) l h) x.kids (l-1) h;have hrec:∀y∈x.kids,sb B m y:=fun y hy=>by obtain⟨l',h4,h5⟩:=q2 y hy;exact aoM B m y (d+1) l' (by omega) (by omega) h4 (hs.2.2 y hy)
     have hB:(x.kind≠1->x.text.length=0)/\(x.kind≠3->x.keys.length=0)/\(x.kind<2->x.kids.length=0):=by
      unfold Iw at h2;refine⟨fun e=>?_,fun e=>?_,fun e=>?_⟩
      ·by_cases a1:(0:Int)<(x.text.length:Int)
       ·rw[jK e,dT a1]at h2;cases h2
       ·omega
      ·by_cases a1:(0:Int)<(x.keys.length:Int)
       ·rw[jK e,dT a1]at h2;cases hx:(bif x.kind != 1 then decide ((0:Int)<(x.text.length:Int))else false)<;>rw[hx]at h2<;>cases h2
       ·omega
      ·by_cases a1:(0:Int)<(x.kids.length:Int)
       ·rw[dT e,dT a1]at h2;cases hx:(bif x.kind != 1 then decide ((0:Int)<(x.text.length:Int))else false)<;>cases hy:(bif x.kind != 3 then decide ((0:Int)<(x.keys.length:Int))else false)<;>rw[hx,hy]at h2<;>cases h2
       ·omega
     have hC:x.kind=3->x.keys.length=x.kids.length/\x.keys.Nodup:=by
      intro e;unfold Iy at h3;rw[jL e,cond_true]at h3;by_cases a1:(x.keys.length:Int)=x.kids.length
      ·refine⟨by omega,?_⟩;by_cases a2:((Pl.bn x.keys).length:Int)=(x.keys.length:Int)
       ·exact agQ (by omega)
       ·rw[jK a2]at h3;cases hq:(bif(x.keys.length:Int)!=(x.kids.length:Int)then true else decide (l-1<(x.kids.length:Int)))<;>rw[hq]at h3<;>cases h3
      ·rw[jK a1]at h3;cases h3
     have hk:x.keys.length<=B:=by
      by_cases e:x.kind=3
      ·have:=(hC e).1;omega
      ·have:=hB.2.1 e;omega
     have awH:∀{α:Type} {t:List α},t.length=0->t=[]:=fun h=>List.length_eq_zero_iff.1 h
     exact⟨⟨⟨hk,by omega⟩,fun e=>(hC e).1,hs.1,hs.2.1⟩,⟨hA.2,fun e=>awH (hB.1 e),fun e=>awH (hB.2.1 e),fun e=>awH (hB.2.2 e)⟩,fun e=>(hC e).2,hrec⟩
 termination_by n=>n
theorem awI{B:Nat}{x:An}{m:Int}(hm:m<=(B:Int))(h:Mg x m=true):sb B 12 x:=by
 unfold Mg at h;by_cases h0:0<=leftV 13 x 1 m
 ·rw[dT h0,cond_true]at h;exact aoM B 12 x 1 m (by decide) (by omega) h0 h
 ·rw[dF h0]at h;cases h
theorem Lm{o:An}{b:Bool}(h:fq o b=false):fu o b=zn:=by unfold fu;rw[h];rfl
theorem arh{q:Option An}(h:oB q=false):oV q=zn:=by
 cases q with
 | none=>rfl
 | some o=>exact Lm h
theorem aC2{v:An}{k:Int}(hb:vH v k=false):wE v k=zn:=by
 unfold vH at hb;unfold wE;cases h1:decide (k<5)with
 | true =>rw[h1]at hb;have hb:Hw v k=false:=hb;show EN v k=zn;unfold EN;rw[hb];rfl
 | false =>
  rw[h1,cond_false]at hb;rw[cond_false];cases h2:k==5 with
  | true =>rw[h2]at hb;have hb:H8 v=false:=hb;show DV v=zn;unfold DV;rw[hb];rfl
  | false =>
   rw[h2,cond_false]at hb;rw[cond_false];cases h3:(bif k==6 then true else k==7)with
   | true=>rw[h3]at hb;exact arh hb
   | false =>
    rw[h3,cond_false]at hb;rw[cond_false];cases h4:k==8 with
    | true=>rw[h4]at hb;exact Lm hb
    | false =>
     rw[h4,cond_false]at hb;rw[cond_false];cases h5:k==9 with
     | true=>rw[h5]at hb;exact arh hb
     | false =>
      rw[h5,cond_false]at hb;rw[cond_false];cases h6:k==10 with
      | true=>rw[h6]at hb;exact arh hb
      | false =>
       rw[h6,cond_false]at hb;rw[cond_false];cases h7:k==11 with
       | true=>rw[h7]at hb;exact Lm hb
       | false =>
        rw[h7,cond_false]at hb;rw[cond_false];cases h8:k==12 with
        | true =>
         rw[h8]at hb;have hb:EO v=false:=hb;show wu v=zn;unfold EO at hb;unfold wu;cases g1 : !(eX (je v) [jd,mG])with
         | true=>rfl
         | false =>
          rw[g1]at hb;cases g2:MZ (je v)with
          | true=>rfl
          | false=>rw[g2]at hb;exact Lm hb
        | false =>
         rw[h8]at hb;have hb:Bw v=false:=hb;show Bv v=zn;unfold Bw at hb;unfold Bv;cases g1:Ia v with
         | true=>rfl
         | false =>
          rw[g1]at hb;cases g2:II v==kg with
          | true=>rw[g2]at hb;cases hb
          | false=>rw[g2]at hb;exact Lm hb
theorem aC3{d:Nat}{v:An}(h:si (d+4) v)(hd:d+4<=11)(k:Int):wg 10000 12 (wE v k)=true:=by
 cases hb:vH v k with
 | false=>rw[aC2 hb];exact Qt
 | true =>
  have s6:∀{x:An},sn 6 x->wg 10000 12 x=true:=fun hx=>Aw (by decide) (wO hx)
  unfold vH at hb;unfold wE;by_cases h1:k<5
  ·rw[dT h1,cond_true];unfold EN;cases Hw v k with
   | false=>exact Qt
   | true =>
    cases k==2 with
    | true=>exact pR _ _
    | false=>exact Aw (by omega) (wO (Cr h))
  ·rw[dF h1,cond_false]at hb;rw[dF h1,cond_false];by_cases h2:k=5
   ·rw[jL h2]at hb ⊢;have:=(aoG h hd (j:=5) (by decide) (by decide)).2.2 hb;exact s6 this.2.1
   ·rw[eT h2,cond_false]at hb;rw[eT h2,cond_false];cases h3:(bif k==6 then true else k==7)with
    | true=>rw[h3]at hb;exact s6 (aax (Er h) _ hb).2.2.2.1
    | false =>
     rw[h3,cond_false]at hb;rw[cond_false];cases h4:k==8 with
     | true=>rw[h4]at hb;exact s6 (WI (Er h) hb).2.2.2.1
     | false =>
      rw[h4,cond_false]at hb;rw[cond_false];cases h5:k==9 with
      | true=>rw[h5]at hb;exact s6 (ak9 h hb).uE
      | false =>
       rw[h5,cond_false]at hb;rw[cond_false];cases h6:k==10 with
       | true=>rw[h6]at hb;exact s6 (af0 h hb).uE
       | false =>
        rw[h6,cond_false]at hb;rw[cond_false];cases h7:k==11 with
        | true=>rw[h7]at hb;exact s6 (aoI (aq8 h) hb).uE
        | false =>
         rw[h7,cond_false]at hb;rw[cond_false];cases h8:k==12 with
         | true=>rw[h8]at hb;exact s6 (aur (aq9 (d:=d+2) h (by omega)) hb).uE
         | false=>rw[h8]at hb;exact s6 (af2 h hb).uE
theorem aBN{d:Nat}{v:An}(h:si (d+4) v)(hd:d+4<=11):Rf1 v:=⟨aCW h (by omega),aC3 h hd⟩
theorem aBO{d:Nat}{v:An}(h:si (d+5) v)(hd:d+4<=11):Rs1 v :=
 ⟨Nat.le_trans h.1.1.1 (by decide),fun e=>h.2.1.2.2.1 (by omega),h.1.2.1,fun y hy=>aBN (h.2.2.2 y hy) hd,fun s hs=>Nat.le_trans (h.1.2.2.2 s hs) (by decide)⟩
theorem aBP{v:An}(h:Gn v):wg 10000 14 (jS v)=true:=by
 cases hb:rZ v with
 | false=>rw[show jS v=zn from Lm hb];rfl
 | true=>exact Aw (by decide) (wO (WI h hb).2.2.2.1)
theorem aBQ{d:Nat}{v:An}(h:si (d+6) v)(hd:d+4<=11)(hd2:d+6<=14):Rp1 v :=
 ⟨Nat.le_trans h.1.1.1 (by decide),Nat.le_trans h.1.1.2 (by decide),h.1.2.1,fun s hs=>Nat.le_trans (h.1.2.2.2 s hs) (by decide),fun y hy=>aBO (h.2.2.2 y hy) hd,Aw hd2 (wO (Cr h)),aBP (Er (d:=d+4) h)⟩
theorem awJ{n:An}(h:si 12 n):kC n=some (rM n) :=
 aqV n (Nat.le_trans h.1.1.1 (by decide)) (fun e=>h.2.1.2.2.1 (by omega)) h.1.2.1 fun y hy=>aBQ (d:=5) (h.2.2.2 y hy) (by decide) (by decide)
theorem auy{n:An}(h:si 12 n)(hs:(kN n).isSome=true):kN n=some ((rM n).n,(rM n).path,(rM n).e) :=
 ad3 hs fun hs=>by obtain⟨g1,g2,g3⟩:=ald (e:=5) h (by decide);rw[ay8 (d:=5) (Cr h) g3 hs,g1]
def zI(a b:An):Bool:=a.kind==3&&b.kind==3
theorem ari{a b:An}:zI a b=true↔a.kind=3/\b.kind=3:=by simp[zI]
def ext:anY:=[101,120,116,101,110,100,115]
def pick(f:An->An->An)(a b:An)(k:anY):An:=bif aB b k then(bif aB a k&&!(k==ext)then f (aG a k) (aG b k)else aG b k)else aG a k
def lI:Nat->An->An->An
 | 0,_,b=>b
 | n+1,a,b=>bif zI a b then⟨3,[],both a.keys b.keys,(both a.keys b.keys).map (pick (lI n) a b)⟩else b
theorem XR{A B:Nat}(h:A<=B):∀{d:Nat} {x:An},sb A d x->sb B d x
 | 0,_,q=>q.elim
 | _+1,_,q=>⟨⟨⟨Nat.le_trans q.1.1.1 h,Nat.le_trans q.1.1.2 h⟩,q.1.2⟩,q.2.1,q.2.2.1,fun y hy=>XR h (q.2.2.2 y hy)⟩
theorem ale{a b:List (anY)}{k:anY}(h:k∈both a b):k∈a\/k∈b:=by have h:k∈Pl.bn (a++b):=h;exact List.mem_append.1 (Pl.jY.1 h)
theorem aay(a b:List (anY)):(both a b).length<=a.length+b.length:=by have:=Pl.sw (a++b);rw[List.length_append]at this;exact this
theorem aoN{a:An}(h:a.keys.length=a.kids.length)(h3:a.kind=3){k:anY}(hk:k∈a.keys):aB a k=true:=by obtain⟨x,hx⟩:=PK h hk;unfold aB get;rw[if_pos h3,hx];rfl
theorem auz{A B:Nat}:∀{d n:Nat} {a b:An},d<=n->sb A d a->sb B d b->sb (A+B) d (lI n a b)
 | 0,_,_,_,_,h,_=>h.elim
 | d+1,0,_,_,hn,_,_=>by omega
 | d+1,n+1,a,b,hn,ha,hb=>by
  unfold lI;cases hp:zI a b with
  | false=>exact XR (by omega) hb
  | true =>
   obtain⟨ka,kb⟩:=ari.1 hp;have hl:=aay a.keys b.keys;have la:=ha.1.1;have lb:=hb.1.1;refine⟨⟨⟨by show(both a.keys b.keys).length<=_;omega,by show((both a.keys b.keys).map _).length<=_;rw[List.length_map];omega⟩,(fun _=>(List.length_map _).symm),aa4 _,fun k hk=>?_⟩,⟨⟨by show(0:Int)<=3;decide,by show(3:Int)<=3;decide⟩,(fun _=>rfl),(fun e=>absurd rfl e),fun e=>absurd (show(3:Int)<2 from e) (by decide)⟩,(fun _=>lD (Pl.BP _).1),fun y hy=>?_⟩
   ·rcases ale hk with h | h
    ·exact ha.1.2.2.2 k h
    ·exact hb.1.2.2.2 k h
   ·obtain⟨k,hk,rfl⟩:=List.mem_map.1 hy;unfold pick;cases gb:aB b k with
    | false =>
     have hk2:k∈a.keys:=(ale hk).resolve_right fun h=>by rw[aoN (hb.1.2.1 kb) kb h]at gb;cases gb
     exact XR (by omega) (ha.2.2.2 _ (rA (aoN (ha.1.2.1 ka) ka hk2)))
    | true =>
     have hv:=hb.2.2.2 _ (rA gb);cases hc:aB a k&&!(k==ext)with
     | false=>exact XR (by omega) hv
     | true =>rw[abK]at hc;exact auz (by omega) (ha.2.2.2 _ (rA hc.1)) hv
theorem alf{n:Nat}{a b:An}{ks:List (anY)}{i:Int}{k:anY}{ok:List (anY)}{ov:List An}{v:An}(h0:0<=i)(hi:i<(ks.length:Int))(hk:ks.length<=20000)(ho:(ok.length:Int)=i)(hv:(ov.length:Int)=i)
  (h5:ok++k::ks.drop (i+1).toNat=ks) (h6:ov++pick (lI n) a b k::(ks.drop (i+1).toNat).map (pick (lI n) a b)=ks.map (pick (lI n) a b)) (e:v=pick (lI n) a b k) :
  (decide ((ok.length+1)*16<=av)=true/\decide ((ov.length+1)*72<=av)=true)/\au (i+1)=i+1/\((0<=i+1/\i+1<=(ks.length:Int))/\((ok++[k]).length:Int)=i+1/\((ov++[v]).length:Int)=i+1/\(ok++[k])++ks.drop (i+1).toNat=ks/\(ov++[v])++(ks.drop (i+1).toNat).map (pick (lI n) a b)=ks.map (pick (lI n) a b))/\((ks.length:Int)-(i+1)).toNat<((ks.length:Int)-i).toNat:=by
 subst e;refine⟨⟨dT (by rw[mb];omega),dT (by rw[mb];omega)⟩,bX (by omega),⟨⟨by omega,by omega⟩,by simp;omega,by simp;omega,by simpa using h5,by simpa using h6⟩,by omega⟩
theorem auA(a b:An):(bif a.kind != 3 then true else b.kind != 3) = !(zI a b):=by unfold zI bne;cases a.kind==3<;>cases b.kind==3<;>rfl
theorem Pg:∀(n m:Nat) (a b:An),n<=m->wg 10000 n a=true->wg 10000 n b=true->JA m a b=some (lI n a b)
 | 0,_,_,_,_,h,_=>by cases h
 | n+1,0,_,_,h,_,_=>by omega
 | n+1,m+1,a,b,hn,ha,hb=>by
  have fa:=Dc ha (by decide);have fb:=Dc hb (by decide);have la:=dQ.1 ha;have lb:=dQ.1 hb;have hl:=aay a.keys b.keys;have ih:=Pg n m;refine iB (t:=DR (JA m)) (s:=.e a b) rfl (fun | .e y0 y1=>y0=a/\y1=b | .h0 v0 v1 v2 v3 v4 _ _ v7 v8 v9 v10=>(v0=both a.keys b.keys/\v1=(v0.length:Int)/\v3=a/\v4=b/\v7=3/\v8=[])/\zI a b=true/\(0<=v2/\v2<=(v0.length:Int))/\(v9.length:Int)=v2/\(v10.length:Int)=v2/\v9++v0.drop v2.toNat=v0/\v10++(v0.drop v2.toNat).map (pick (lI n) a b)=v0.map (pick (lI n) a b))
   (fun | .e _ _=>10000000000 | .h0 v0 _ v2 _ _ _ _ _ _ _ _=>((v0.length:Int)-v2).toNat) ⟨rfl,rfl⟩ (by show 10000000000<_;omega) ?_
  rintro(⟨y0,y1⟩ | ⟨v0,v1,v2,v3,v4,v5,v6,v7,v8,v9,v10⟩) hs
  ·obtain⟨rfl,rfl⟩:=hs;have hp:Tt y0 y1=some (zI y0 y1):=by
    refine dh rfl ?_;simp only[aK,aW,Km,zI];cases y0.kind==3<;>rfl
   have h5:Tf y0.keys y1.keys=true:=by simp only[Tf,ab6];omega
   simp only[aK,aW,DR,aQ,hp,aD,h5,ak];cases hpp:zI y0 y1 with
   | false=>simp only[acn,cond_true,lI,hpp,cond_false]
   | true=>exact⟨⟨⟨trivial,trivial,trivial,trivial,trivial,trivial⟩,rfl,⟨akG 0,by omega⟩,rfl,rfl,rfl,rfl⟩,by show(((both y0.keys y1.keys).length:Int)-0).toNat<10000000000;omega⟩
  ·obtain⟨⟨rfl,rfl,rfl,rfl,rfl,rfl⟩,hpp,⟨h1,h2⟩,h3,h4,h5,h6⟩:=hs;simp only[aK,aW,DR,aQ,aa9];by_cases hi:v2<((both v3.keys v4.keys).length:Int)
   ·rw[dT hi,cond_true,wI];refine⟨h1,hi,?_⟩;rw[fB _ Df.d h1 hi]at h5 h6;rw[afu]at h6;generalize (both v3.keys v4.keys).getD v2.toNat Df.d=k at h5 h6 ⊢;have fin:=@alf n v3 v4 (both v3.keys v4.keys) v2 k v9 v10;simp only[fa,fb,ak];cases gb:aB v4 k with
    | false =>obtain⟨⟨c1,c2⟩,c3,⟨c4,c5⟩,c6⟩:=fin (v:=aG v3 k) h1 hi (by omega) h3 h4 h5 h6 (by simp only[pick,gb,cond_false]);simp only[acn,cond_true,c1,c2,c3,ak];exact⟨⟨⟨trivial,trivial,trivial,trivial,trivial,trivial⟩,hpp,c4,c5⟩,c6⟩
    | true =>
     cases hc:(bif aB v3 k then !(k==[101,120,116,101,110,100,115])else false)with
     | true =>
      have ga:aB v3 k=true:=by cases h:aB v3 k with | true=>rfl | false=>(rw[h]at hc;cases hc)
      have gk:(!(k==ext))=true:=by rw[ga]at hc;exact hc
      rw[ih _ _ (by omega) (Gj ha ga) (Gj hb gb)];obtain⟨⟨c1,c2⟩,c3,⟨c4,c5⟩,c6⟩:=fin (v:=lI n (aG v3 k) (aG v4 k)) h1 hi (by omega) h3 h4 h5 h6 (by simp only[pick,gb,ga,gk,cond_true,acf]);simp only[ab7,cond_true,cond_false,aD,c1,c2,c3,ak];exact⟨⟨⟨trivial,trivial,trivial,trivial,trivial,trivial⟩,hpp,c4,c5⟩,c6⟩
     | false =>
      have gk:(aB v3 k&&!(k==ext))=false:=by cases h:aB v3 k with | false=>rfl | true=>(rw[h]at hc;exact hc)
      obtain⟨⟨c1,c2⟩,c3,⟨c4,c5⟩,c6⟩:=fin (v:=aG v4 k) h1 hi (by omega) h3 h4 h5 h6 (by simp only[pick,gb,gk,cond_true,cond_false]);simp only[ab7,cond_false,c1,c2,c3,ak];exact⟨⟨⟨trivial,trivial,trivial,trivial,trivial,trivial⟩,hpp,c4,c5⟩,c6⟩
   ·rw[iE _ (by omega)]at h5 h6;rw[dF hi,cond_false];rw[acg]at h5;rw[afM,acg]at h6;show(⟨3,[],v9,v10⟩:An)=lI (n+1) v3 v4;simp only[lI,hpp,cond_true];rw[<- h6,<- h5]
theorem af3:∀(n m:Nat) (a b:An),n<=m->wg 10000 n a=true->wg 10000 n b=true->rW m a b=some (lI n a b)
 | 0,_,_,_,_,h,_=>by cases h
 | n+1,0,_,_,h,_,_=>by omega
 | n+1,m+1,a,b,hn,ha,hb=>by
  have fa:=Dc ha (by decide);have fb:=Dc hb (by decide);have la:=dQ.1 ha;have lb:=dQ.1 hb;have hl:=aay a.keys b.keys;have ih:=af3 n m;refine iB (t:=nZ (rW m)) (s:=.e a b) rfl (fun | .e y0 y1=>y0=a/\y1=b | .h0 v0 v2 v3 v4 _ _ v7 v8 v9 v10=>(v0=both a.keys b.keys/\v3=a/\v4=b/\v7=3/\v8=[])/\zI a b=true/\(0<=v2/\v2<=(v0.length:Int))/\(v9.length:Int)=v2/\(v10.length:Int)=v2/\v9++v0.drop v2.toNat=v0/\v10++(v0.drop v2.toNat).map (pick (lI n) a b)=v0.map (pick (lI n) a b))
   (fun | .e _ _=>10000000000 | .h0 v0 v2 _ _ _ _ _ _ _ _=>((v0.length:Int)-v2).toNat) ⟨rfl,rfl⟩ (by show 10000000000<_;omega) ?_
  rintro(⟨y0,y1⟩ | ⟨v0,v2,v3,v4,v5,v6,v7,v8,v9,v10⟩) hs
  ·obtain⟨rfl,rfl⟩:=hs;have h5:Tf y0.keys y1.keys=true:=by simp only[Tf,ab6];omega
   simp only[aK,aW,nZ,aQ,h5,ak];rw[auA];cases hpp:zI y0 y1 with
   | false=>simp only[acn,cond_true,lI,hpp,cond_false]
   | true=>exact⟨⟨⟨trivial,trivial,trivial,trivial,trivial⟩,rfl,⟨akG 0,by omega⟩,rfl,rfl,rfl,rfl⟩,by show(((both y0.keys y1.keys).length:Int)-0).toNat<10000000000;omega⟩
  ·obtain⟨⟨rfl,rfl,rfl,rfl,rfl⟩,hpp,⟨h1,h2⟩,h3,h4,h5,h6⟩:=hs;simp only[aK,aW,nZ,aQ,aa9];by_cases hi:v2<((both v3.keys v4.keys).length:Int)
   ·have hin:fU (both v3.keys v4.keys) v2=true:=by unfold fU;rw[dT h1,dT hi];rfl
    rw[dT hi,cond_true,wI,hin];refine⟨h1,hi,?_⟩;rw[fB _ Df.d h1 hi]at h5 h6;rw[afu]at h6;generalize (both v3.keys v4.keys).getD v2.toNat Df.d=k at h5 h6 ⊢;have fin:=@alf n v3 v4 (both v3.keys v4.keys) v2 k v9 v10;simp only[fa,fb,ak,dT h1,acf,aci];cases gb:aB v4 k with
    | false =>obtain⟨⟨c1,c2⟩,c3,⟨c4,c5⟩,c6⟩:=fin (v:=aG v3 k) h1 hi (by omega) h3 h4 h5 h6 (by simp only[pick,gb,cond_false]);simp only[acn,cond_true,c1,c2,c3,ak];exact⟨⟨⟨trivial,trivial,trivial,trivial,trivial⟩,hpp,c4,c5⟩,c6⟩
    | true =>
     cases hc:(bif aB v3 k then !(k==[101,120,116,101,110,100,115])else false)with
     | true =>
      have ga:aB v3 k=true:=by cases h:aB v3 k with | true=>rfl | false=>(rw[h]at hc;cases hc)
      have gk:(!(k==ext))=true:=by rw[ga]at hc;exact hc
      rw[ih _ _ (by omega) (Gj ha ga) (Gj hb gb)];obtain⟨⟨c1,c2⟩,c3,⟨c4,c5⟩,c6⟩:=fin (v:=lI n (aG v3 k) (aG v4 k)) h1 hi (by omega) h3 h4 h5 h6 (by simp only[pick,gb,ga,gk,cond_true,acf]);simp only[ab7,cond_true,cond_false,aD,c1,c2,c3,ak];exact⟨⟨⟨trivial,trivial,trivial,trivial,trivial⟩,hpp,c4,c5⟩,c6⟩
     | false =>
      have gk:(aB v3 k&&!(k==ext))=false:=by cases h:aB v3 k with | false=>rfl | true=>(rw[h]at hc;exact hc)
      obtain⟨⟨c1,c2⟩,c3,⟨c4,c5⟩,c6⟩:=fin (v:=aG v4 k) h1 hi (by omega) h3 h4 h5 h6 (by simp only[pick,gb,gk,cond_true,cond_false]);simp only[ab7,cond_false,c1,c2,c3,ak];exact⟨⟨⟨trivial,trivial,trivial,trivial,trivial⟩,hpp,c4,c5⟩,c6⟩
   ·rw[iE _ (by omega)]at h5 h6;rw[dF hi,cond_false];rw[acg]at h5;rw[afM,acg]at h6;show(⟨3,[],v9,v10⟩:An)=lI (n+1) v3 v4;simp only[lI,hpp,cond_true];rw[<- h6,<- h5]
def J9:List An->An
 | []=>⟨3,[],[],[]⟩
 | x::r=>r.foldl (lI 13) x
theorem awK(l:List An)(x:An):J9 (l++[x])=bif l.isEmpty then x else lI 13 (J9 l) x:=by
 cases l with
 | nil=>rfl
 | cons y r=>simp[J9,List.foldl_append]
theorem auB{B:Nat}(l:List An)(h:∀x∈l,sb B 12 x):sb (B*l.length) 12 (J9 l):=by
 have go:∀(r:List An) (x:An) (n:Nat),(∀y∈r,sb B 12 y)->sb (B*n) 12 x->sb (B*(n+r.length)) 12 (r.foldl (lI 13) x):=by
  intro r
  induction r with
  | nil=>intro x n _ hx;exact hx
  | cons y r ih =>intro x n hy hx;have:=ih (lI 13 x y) (n+1) (fun z hz=>hy z (abD _ hz)) (by rw[Nat.mul_add,afK];exact auz (by decide) hx (hy y abI));rwa[List.length_cons,show n+(r.length+1)=n+1+r.length by omega]
 match l,h with
 | [],_=>exact⟨⟨⟨aa4 _,aa4 _⟩,(fun _=>rfl),aa4 _,(fun k hk=>by cases hk)⟩,⟨⟨by show(0:Int)<=3;decide,by show(3:Int)<=3;decide⟩,(fun _=>rfl),(fun e=>absurd rfl e),fun _=>rfl⟩,(fun _=>aj7),fun y hy=>by cases hy⟩
 | x::r,h =>have:=go r x 1 (fun y hy=>h y (abD _ hy)) (by rw[afK];exact h x abI);rwa[List.length_cons,Nat.add_comm]
theorem auC{α:Type}(l:List α)(d:α){i:Int}(h0:0<=i)(h:i<(l.length:Int)):l.take (i+1).toNat=l.take i.toNat++[l.getD i.toNat d]:=by
 have hi:i.toNat<l.length:=by omega
 rw[show(i+1).toNat=i.toNat+1 by omega,afJ hi];simp[List.getD,hi]
theorem alg{α:Type}(l:List α){i:Int}(h:(l.length:Int)<=i):l.take i.toNat=l:=aeV (by omega)
theorem ayg{B d:Nat}{x:An}(hB:B<=1000)(hd:d<=13)(h:sb B d x):wg 10000 13 x=true:=Aw hd (wO (Cr (aq6 hB h)))
theorem auD{l:List An}(hl:l.length<=5)(h:∀x∈l,sb 200 12 x){i:Int}(h0:0<i)(hi:i<(l.length:Int)) :
  DT (J9 (l.take i.toNat)) (l.getD i.toNat Df.d)=some (J9 (l.take (i+1).toNat))/\GY (J9 (l.take i.toNat)) (l.getD i.toNat Df.d)=some (J9 (l.take (i+1).toNat)):=by
 have h1:sb 200 12 (l.getD i.toNat Df.d):=h _ (gM l Df.d (by omega) hi);have h2:=auB (l.take i.toNat) fun x hx=>h x (aj2 hx)
 rw[acu]at h2;have w1:=ayg (by decide) (by decide) h1;have w2:=ayg (by omega) (by decide) h2;have e:J9 (l.take (i+1).toNat)=lI 13 (J9 (l.take i.toNat)) (l.getD i.toNat Df.d):=by
  rw[auC l Df.d (by omega) hi,awK];have:(l.take i.toNat).isEmpty=false:=by rw[Bool.eq_false_iff];intro h;have:=List.isEmpty_iff.1 h;have:=congrArg List.length this;rw[acu,List.length_nil]at this;omega
  rw[this,cond_false]
 rw[e];exact⟨Pg 13 qM _ _ (by unfold qM;omega) w2 w1,af3 13 qM _ _ (by unfold qM;omega) w2 w1⟩
theorem auE{l:List An}(h:0<l.length):l.getD (Int.toNat 0) Df.d=J9 (l.take (Int.toNat (0+1))):=by
 match l,h with
 | x::r,_=>rfl
theorem alh{l:List An}(hl:l.length<=5)(h:∀x∈l,sb 200 12 x){r:An×anY×Int}(hr:kN (J9 l)=some r):VB l=some r:=by
 refine iB rfl (fun | .e y=>y=l | .h0 v0 v1 v2 _ _ v5=>v0=l/\v1=(l.length:Int)/\(0<=v2/\v2<=v1)/\v5=J9 (l.take v2.toNat)) (fun | .e _=>10000000000 | .h0 _ v1 v2 _ _ _=>(v1-v2).toNat) rfl (by show 10000000000<_;omega) ?_;rintro(y | ⟨v0,v1,v2,v3,v4,v5⟩) hs
 ·cases hs;simp only[aK,GX];exact⟨⟨trivial,trivial,⟨by omega,by omega⟩,rfl⟩,by show((l.length:Int)-0).toNat<_;omega⟩
 ·obtain⟨rfl,rfl,⟨h1,h2⟩,rfl⟩:=hs;simp only[aK,aW,GX,aQ];by_cases hi:v2<(v0.length:Int)
  ·have e1:au (v2+1)=v2+1:=bX (by omega);have hm:((v0.length:Int)-(v2+1)).toNat<((v0.length:Int)-v2).toNat:=by omega
   rw[dT hi,cond_true,wI,e1];refine⟨h1,hi,?_⟩;by_cases h3:v2=0
   ·subst h3;exact⟨⟨trivial,trivial,⟨by omega,by omega⟩,auE (by omega)⟩,hm⟩
   ·rw[eT h3,cond_false,(auD hl h (by omega) hi).1];exact⟨⟨trivial,trivial,⟨by omega,by omega⟩,rfl⟩,hm⟩
  ·rw[dF hi,cond_false,alg v0 (by omega),hr];rfl
theorem arj{l:List An}(hl:l.length<=5)(h:∀x∈l,sb 200 12 x){r:jD}(hr:kC (J9 l)=some r):FC l=some r:=by
 refine iB rfl (fun | .e y=>y=l | .h0 v0 v2 _ _ _ _ v5=>v0=l/\(0<v2/\v2<=(l.length:Int))/\v5=J9 (l.take v2.toNat)) (fun | .e _=>10000000000 | .h0 v0 v2 _ _ _ _ _=>((v0.length:Int)-v2).toNat) rfl (by show 10000000000<_;omega) ?_;rintro(y | ⟨v0,v2,v3,v4,v5,v6,v7⟩) hs
 ·cases hs;simp only[aK,aW,qZ];by_cases h0:(l.length:Int)=0
  ·have:l=[]:=List.length_eq_zero_iff.1 (by omega);subst this;rw[jL h0,cond_true,show kC ⟨3,[],[],[]⟩=some r from hr];simp only[aD,aQ]
  ·rw[eT h0,cond_false,wI];exact⟨by decide,by omega,⟨trivial,⟨by decide,by omega⟩,auE (by omega)⟩,by show((l.length:Int)-1).toNat<_;omega⟩
 ·obtain⟨rfl,⟨h1,h2⟩,rfl⟩:=hs;simp only[aK,aW,qZ,aQ];by_cases hi:v2<(v0.length:Int)
  ·have e1:au (v2+1)=v2+1:=bX (by omega);rw[dT hi,cond_true,wI,e1];refine⟨by omega,hi,?_⟩;rw[(auD hl h h1 hi).2];exact⟨⟨trivial,⟨by omega,by omega⟩,rfl⟩,by show((v0.length:Int)-(v2+1)).toNat<((v0.length:Int)-v2).toNat;omega⟩
  ·rw[dF hi,cond_false,alg v0 (by omega),hr];simp only[aD]
def Y0:An:=⟨1,[49],[],[]⟩
def Y1:An:=⟨1,[50],[],[]⟩
def ndT(a b:An):Bool:=a.kind==b.kind&&(a.text==b.text&&(a.keys.isEmpty&&a.kids.isEmpty))
theorem auF{a b:An}(h:ndT a b=true)(hk:b.keys=[])(hv:b.kids=[]):a=b:=by simp only[ndT,abK,beq_iff_eq,List.isEmpty_iff]at h;obtain⟨k,t,ks,vs⟩:=a;obtain⟨k',t',ks',vs'⟩:=b;obtain⟨h1,h2,h3,h4⟩:=h;have hk:ks'=[]:=hk;have hv:vs'=[]:=hv;have h1:k=k':=h1;have h2:t=t':=h2;have h3:ks=[]:=h3;have h4:vs=[]:=h4;rw[h1,h2,h3,h4,hk,hv]
def awL(a b:An):Bool:=ndT a Y0&&ndT b Y1
def aBR(_ _:An):List (anY):=[[]]
noncomputable def auG:iU E:=Cv (E:=E) .ah .ah .bH awL aBR
def azH:FuncId:=16
def awM:tH E:=(VD.W 60 (sN 12) (avG 12)).I 34 Tryz.func34
theorem aBS:Ij awM.O {} (Gr E Tryz.f16 [⟨.bH,[[]]⟩]) Tryz.f16 [⟨.ah,Y0⟩,⟨.ah,Y1⟩]=some [⟨.bH,[[]]⟩]:=by kernel_rfl
theorem azI:aV E azH auG:=Xr ⟨Tryz.f16,by kernel_rfl,by kernel_rfl,by kernel_rfl⟩ fun a b hk=>by rw[awL,abK]at hk;rw[auF hk.1 rfl rfl,auF hk.2 rfl rfl];exact K3 awM.ok awM.mix (by kernel_rfl) aBS
def Ph(x0:anY)(x1:An):Te (An) Empty:=.k ⟨3,[],[x0],[aj x1]⟩
def D6(x0:anY)(x1:An):=(Ph x0 x1).o
def amP:=Qg.f0 15 [.str,.ah] [.ah] (fun a=>Ph a.1 a.2) Tryz.func15
def WJ:Te (Bool) Empty:=.c (D6 [120] ⟨1,[49],[],[]⟩) fun y1=>.c (D6 [97] y1) fun y2=>.c (D6 [121] ⟨1,[50],[],[]⟩) fun y3=>.c (D6 [97] y3) fun y4=>.c (DT y2 y4) fun y5=>.l (aC (y5.keys)==1) fun z2=>.l (aab z2 (aC ((Ai (y5.kids) 0 (dflt .ah)).keys)==2)) fun z1=>.q (fU (y5.kids) 0||!z2) (.q (awL ⟨1,[49],[],[]⟩ ⟨1,[50],[],[]⟩||!z1) (.k (aab z1 (aC (aBR ⟨1,[49],[],[]⟩ ⟨1,[50],[],[]⟩)==1))))
def Ka:=(WJ).o
def auH:=(amP.W 16 auG azI).f0 5 [] [.bool] (fun _=>WJ) Tryz.func5
inductive ayi where
 | e (x0:List An)
 | h0 (v0:List An) (v1:Int)
def ahI:ayi->Te (Bool) ayi
 | .e x0=>.b (aF 5 (aC x0)) (.c Ka fun y1=>.k y1) (.g (.h0 x0 0))
 | .h0 v0 v1=>.b (aF v1 (aC v0)) (.i v0 v1 fun y1=>.q (ajJ (aj y1) 200) (.b (!(Mg (aj y1) 200)) (.c Ka fun y2=>.k y2) (.g (.h0 v0 (au (v1+1)))))) (.c (VB v0) fun y3=>.l (aj (y3.1)) fun z1=>.c (FC v0) fun y4=>.l (aab (aab ((same 1000) z1 (aj (y4.n))) (y3.2.1==y4.path)) (y3.2.2==y4.e)) fun z2=>.q ((Gi 1000) z1 (aj (y4.n))) (.q ((Ka.isSome)||!z2) (.k (aab z2 (gv Ka)))))
def ark(x0:List An):=mu ahI (.e x0)
def aC4:=((auH.W 9 (Ba 1000) (asS 1000)).W 6 adL av2).fl 3 [.dP] [.bool] ahI (fun a=>.e a) (fun | .e x0=>.e [⟨.dP,x0⟩] | .h0 v0 v1=>.h 0 ⟨52,[(0,sL .ah v0),(3,sI v1)],[],0⟩) { live:=[(0,[0,3])] } Tryz.func3
def ayj:iU E:=PI (E:=E) [.dP] [.bool] fun a=>ark a
theorem aBT:aV E 3 ayj:=aC4.top (by kernel_rfl)
theorem bM:eO.isSome=true/\(gv eO).1=⟨0,[],[],[]⟩:=YZ
theorem Nc(x0:An)(hp:W2 x0):Z (nO x0) fun r=>G 501 r.1:=by
 refine cB rfl ?_;simp only[bC,nN]
 all_goals grind[agI,bM,kK,WC]
theorem ER(x0 x1:anY):Z (jH x0 x1) fun r=>r.1.length<=x0.length:=by
 refine cB rfl ?_;simp only[bC,jG,cut,acu,ach];have:=mK x0 x1;have h2:x1.isPrefixOf x0=true->x1.length<=x0.length:=fun h=>(List.isPrefixOf_iff_prefix.1 h).length_le
 grind
theorem jP(x0:An)(hp:W2 x0):Z (nP x0) fun r=>TL r.1/\r.1.length<=x0.kids.length:=by
 refine jy rfl (fun | .e y0=>y0=x0 | .h0 v0 v1 v2 v3 v4=>0<=v3/\v3<=v2/\v2=(v1.length:Int)/\v1.length<=1100/\v1=x0.kids/\v2=(x0.kids.length:Int)/\v4=x0/\TL v0/\(v0.length:Int)<=v3) (fun | .e _=>10000000000 | .h0 v0 v1 v2 v3 v4=>(v2-v3).toNat) rfl (by show 10000000000<_;omega) ?_;rintro(y0 | ⟨v0,v1,v2,v3,v4⟩) hs
 ·cases hs;simp only[bC,wY]
  (repeat' (first | (intro _) | (apply And.intro)))<;>grind[dx,av,aA,jg,jh,lF,oJ, -> lG,oK,oM, -> ou,oN,lH,kK,iP,ji,oo,kY,nA,oq,iN,iO,bM,d9]
 ·dsimp only at hs;simp only[bC,wY];have:=@dx (v3+1)
  (repeat' (first | (intro _) | (apply And.intro)))<;>grind[dx,av,aA,jg,jh,lF,oJ, -> lG,oK,oM, -> ou,oN,lH,kK,iP,ji,oo,kY,nA,oq,iN,iO,bM,d9]
theorem amQ(x0:An)(hp:W2 x0):Z (zO x0) fun r=>G 501 r.1:=by
 refine cB rfl ?_;simp only[bC,I9]
 all_goals grind[dx,av,aA,jg,jh,lF,oJ, -> lG,oK,oM, -> ou,oN,lH,kK,iP,ji,oo,kY,nA,oq,iN,iO,bM,Nc]
theorem Ub(x0 x1:anY):Z (uG x0 x1) fun r=>r.1.length<=x0.length:=by
 refine cB rfl ?_;simp only[bC,uF]
 all_goals grind[dx,av,aA,jg,jh,lF,oJ, -> lG,oK,oM, -> ou,oN,lH,kK,iP,ji,oo,kY,nA,oq,iN,iO,bM,ER]
theorem aaz(x0:anY)(hp:x0.length<=100000):Z (yN x0) fun _=>True:=by
 refine cB rfl ?_;simp only[bC,yM]
 (repeat' (first | (intro _) | (apply And.intro)))<;>grind[dx,av,aA,jg,jh,lF,oJ, -> lG,oK,oM, -> ou,oN,lH,kK,iP,ji,oo,kY,nA,oq,iN,iO,bM,oH,Ub]
theorem Kc(x0:An)(hp:W2 x0):Z (lM x0) fun r=>G 501 r.1:=by
 refine cB rfl ?_;simp only[bC,lK]
 all_goals grind[dx,av,aA,jg,jh,lF,oJ, -> lG,oK,oM, -> ou,oN,lH,kK,iP,ji,oo,kY,nA,oq,iN,iO,bM,aaz]
theorem aes(x0:An)(hp:W2 x0):Z (sQ x0) fun r=>G 501 r.1:=by
 refine cB rfl ?_;simp only[bC,Cb]
 all_goals grind[dx,av,aA,jg,jh,lF,oJ, -> lG,oK,oM, -> ou,oN,lH,kK,iP,ji,oo,kY,nA,oq,iN,iO,bM,Kc]
theorem aeu(x0:anY)(hp:x0.length<=100000):Z (Ce x0) fun _=>True:=by
 refine cB rfl ?_;simp only[bC,Cc]
 all_goals grind[dx,av,aA,jg,jh,lF,oJ, -> lG,oK,oM, -> ou,oN,lH,kK,iP,ji,oo,kY,nA,oq,iN,iO,bM,oH]
theorem Ld(x0:An)(hp:W2 x0):Z (mX x0) fun r=>G 501 r.1:=by
 refine cB rfl ?_;simp only[bC,mW]
 all_goals grind[dx,av,aA,jg,jh,lF,oJ, -> lG,oK,oM, -> ou,oN,lH,kK,iP,ji,oo,kY,nA,oq,iN,iO,bM,aeu]
theorem ali(x0:An)(hp:W2 x0):Z (xw x0) fun r=>G 501 r.1:=by
 refine cB rfl ?_;simp only[bC,Gw]
 all_goals grind[dx,av,aA,jg,jh,lF,oJ, -> lG,oK,oM, -> ou,oN,lH,kK,iP,ji,oo,kY,nA,oq,iN,iO,bM,Ld]
theorem acG(x0:An)(hp:W2 x0):Z (nR x0) fun r=>G 501 r.1:=by
 refine jy rfl (fun | .e y0=>y0=x0 | .h0 v0 v1 v2 v3 v4 v5 v6 v7=>0<=v4/\v4<=v3/\v3=(v2.length:Int)/\v2.length<=1100/\v0=x0.keys/\v1=true/\v2=x0.kids/\v3=(x0.kids.length:Int)/\v5=(0:Int)/\v6=([]:anY)/\Fm v7.n/\v7.n.kids.length=0 | .h1 v0 v1 v2 v3 v4 v5=>0<=v2/\v2<=v1/\v1=(v0.length:Int)/\v0.length<=1100/\TL v0/\Fm v5.n/\(v5.n.kids.length:Int)<=v2) (fun | .e _=>10000000000 | .h0 v0 v1 v2 v3 v4 v5 v6 v7=>20000000+(v3-v4).toNat | .h1 v0 v1 v2 v3 v4 v5=>10000000+(v1-v2).toNat) rfl (by show 10000000000<_;omega) ?_;rintro(y0 | ⟨v0,v1,v2,v3,v4,v5,v6,v7⟩ | ⟨v0,v1,v2,v3,v4,v5⟩) hs
 ·cases hs;simp only[bC,vo]
  (repeat' (first | (intro _) | (apply And.intro)))<;>grind[dx,av,aA,jg,jh,lF,oJ, -> lG,oK,oM, -> ou,oN,lH,kK,iP,ji,oo,kY,nA,oq,iN,iO,bM,gV,dI,dX,dM,d9,jP]
 ·dsimp only at hs;simp only[bC,vo];have:=@dx (v4+1)
  (repeat' (first | (intro _) | (apply And.intro)))<;>grind[dx,av,aA,jg,jh,lF,oJ, -> lG,oK,oM, -> ou,oN,lH,kK,iP,ji,oo,kY,nA,oq,iN,iO,bM,gV,dI,dX,dM,d9,jP]
 ·dsimp only at hs;simp only[bC,vo];have:=@dx (v2+1)
  (repeat' (first | (intro _) | (apply And.intro)))<;>grind[dx,av,aA,jg,jh,lF,oJ, -> lG,oK,oM, -> ou,oN,lH,kK,iP,ji,oo,kY,nA,oq,iN,iO,bM,gV,dI,dX,dM,d9,jP]
set_option maxHeartbeats 2000000 in
theorem alj(x0:An)(x1:Bool)(hp:W2 x0):Z (xk x0 x1) fun r=>G 501 r.1:=by
 refine jy rfl (fun | .e y0 y1=>y0=x0/\y1=x1 | .RI v0 v1 v2 v3 v4 v5=>0<=v2/\v2<=v1/\v1=(v0.length:Int)/\v0.length<=1100/\v3=(0:Int)/\v4=([]:anY)/\TL v0/\Fm v5.n/\(v5.n.kids.length:Int)<=v2 | .L8 v0 v1 v2 v3 v4 v5=>0<=v2/\v2<=v1/\v1=(v0.length:Int)/\v0.length<=1100/\v3=(0:Int)/\v4=([]:anY)/\TL v0/\Fm v5.n/\(v5.n.kids.length:Int)<=v2 | .RJ v0 v1 v2 v3 v4 v5 v6=>0<=v2/\v2<=v1/\v1=(v0.length:Int)/\v0.length<=1100/\v0=x0.keys/\v1=(x0.keys.length:Int)/\v3=x0/\v4=(0:Int)/\v5=([]:anY)/\x0.kind=3/\Fm v6.n/\(v6.n.kids.length:Int)<=v2 | .L9 v0 v1 v2 v3 v4 v5 v6=>0<=v2/\v2<=v1/\v1=(v0.length:Int)/\v0.length<=1100/\v0=x0.keys/\v1=(x0.keys.length:Int)/\v3=x0/\v4=(0:Int)/\v5=([]:anY)/\x0.kind=3/\Fm v6.n/\(v6.n.kids.length:Int)<=v2) (fun | .e _ _=>10000000000 | .RI v0 v1 v2 v3 v4 v5=>40000000+(v1-v2).toNat | .L8 v0 v1 v2 v3 v4 v5=>30000000+(v1-v2).toNat | .RJ v0 v1 v2 v3 v4 v5 v6=>20000000+(v1-v2).toNat | .L9 v0 v1 v2 v3 v4 v5 v6=>10000000+(v1-v2).toNat) ⟨rfl,rfl⟩ (by show 10000000000<_;omega) ?_;rintro(⟨y0,y1⟩ | ⟨v0,v1,v2,v3,v4,v5⟩ | ⟨v0,v1,v2,v3,v4,v5⟩ | ⟨v0,v1,v2,v3,v4,v5,v6⟩ | ⟨v0,v1,v2,v3,v4,v5,v6⟩) hs
 ·obtain⟨rfl,rfl⟩:=hs;simp only[bC,lS]
  (repeat' (first | (intro _) | (apply And.intro)))<;>grind[dx,av,aA,jg,jh,lF,oJ, -> lG,oK,oM, -> ou,oN,lH,kK,iP,ji,oo,kY,nA,oq,iN,iO,bM,gV,vC,dI,dX,dM,d9,jP]
 ·dsimp only at hs;simp only[bC,lS];have:=@dx (v2+1)
  (repeat' (first | (intro _) | (apply And.intro)))<;>grind[dx,av,aA,jg,jh,lF,oJ, -> lG,oK,oM, -> ou,oN,lH,kK,iP,ji,oo,kY,nA,oq,iN,iO,bM,gV,vC,dI,dX,dM,d9,jP]
 ·dsimp only at hs;simp only[bC,lS];have:=@dx (v2+1)
  (repeat' (first | (intro _) | (apply And.intro)))<;>grind[dx,av,aA,jg,jh,lF,oJ, -> lG,oK,oM, -> ou,oN,lH,kK,iP,ji,oo,kY,nA,oq,iN,iO,bM,gV,vC,dI,dX,dM,d9,jP]
 ·dsimp only at hs;simp only[bC,lS];have:=@dx (v2+1)
  (repeat' (first | (intro _) | (apply And.intro)))<;>grind[dx,av,aA,jg,jh,lF,oJ, -> lG,oK,oM, -> ou,oN,lH,kK,iP,ji,oo,kY,nA,oq,iN,iO,bM,gV,vC,dI,dX,dM,d9,jP]
 ·dsimp only at hs;simp only[bC,lS];have:=@dx (v2+1)
  (repeat' (first | (intro _) | (apply And.intro)))<;>grind[dx,av,aA,jg,jh,lF,oJ, -> lG,oK,oM, -> ou,oN,lH,kK,iP,ji,oo,kY,nA,oq,iN,iO,bM,gV,vC,dI,dX,dM,d9,jP]
theorem Ob{α:Type}(l:List α)(a b:Int)(h:0<=a/\a<=b/\b<=l.length):(cut l a b).length=(b-a).toNat:=by unfold cut;rw[acu,ach];omega
theorem ayk:∀(s:anY) (c:UInt8),Lib.indexByte s c<s.length /\ -1<=Lib.indexByte s c
 | [],c=>by simp[Lib.indexByte]
 | b::t,c=>by
  have:=ayk t c;unfold Lib.indexByte;simp only[List.length_cons];split
  ·omega
  ·split
   ·omega
   ·omega
theorem aBU(s:anY)(c:Int):Io s c<s.length /\ -1<=Io s c:=ayk s _
set_option maxHeartbeats 4000000 in
theorem alk(x0:anY)(hp:x0.length<=1000000):Z (Gp x0) fun r=>r.2=0->r.1.length<=32:=by
 refine jy rfl (fun | .e y0=>y0=x0 | .ZB v0 v1 v2=>v0.length<=2000000 | .w9 v0 v1 v2 v3 v4=>v0=x0/\0<=v3/\v3<=x0.length/\(v1.length:Int)<=v3/\(v2.length:Int)<=v3 | .RH v0 v1 v2 v3 v4=>v0=x0/\0<=v3/\v3<=x0.length/\(v1.length:Int)<=v3/\(v2.length:Int)<=v3 | .Kl v0 v1 v2 v3 v4=>v0=x0/\0<=v3/\v3<=x0.length/\(v1.length:Int)<=v3/\(v2.length:Int)<=v3)
  (fun | .e _=>10000000000 | .ZB v0 v1 v2=>0 | .w9 v0 v1 v2 v3 v4=>((x0.length:Int)-v3).toNat+1 | .RH v0 v1 v2 v3 v4=>((x0.length:Int)-v3).toNat+1 | .Kl v0 v1 v2 v3 v4=>((x0.length:Int)-v3).toNat+1) rfl (by show 10000000000<_;omega) ?_
 rintro(y0 | ⟨v0,v1,v2⟩ | ⟨v0,v1,v2,v3,v4⟩ | ⟨v0,v1,v2,v3,v4⟩ | ⟨v0,v1,v2,v3,v4⟩) hs
 ·cases hs;simp only[bC,ig,av,List.length_cons,List.length_nil]
  (repeat' (first | (intro _) | (apply And.intro)))<;>grind[VY]
 ·dsimp only at hs;simp only[bC,ig,av,List.length_append,List.length_cons,List.length_nil]
  (repeat' (first | (intro _) | (apply And.intro)))<;>grind
 ·obtain⟨rfl,h1,h2,h3,h4⟩:=hs;simp only[bC,ig,av,List.length_append,List.length_cons,List.length_nil]
  (repeat' (first | (intro _) | (apply And.intro)))<;>grind[dx,VY]
 ·obtain⟨rfl,h1,h2,h3,h4⟩:=hs;simp only[bC,ig,av,List.length_append,List.length_nil,List.length_map];have q1:=aBU (cut v0 v3 (v0.length:Int)) 39;rw[Ob v0 v3 (v0.length:Int) ⟨h1,h2,akG _⟩]at q1;generalize Io (cut v0 v3 (v0.length:Int)) 39=k at q1 ⊢;have q2:=Ob v0 v3 (au (v3+k))
  (repeat' (first | (intro _) | (apply And.intro)))<;>grind[dx]
 ·obtain⟨rfl,h1,h2,h3,h4⟩:=hs;simp only[bC,ig,av,List.length_append,List.length_cons,List.length_nil]
  (repeat' (first | (intro _) | (apply And.intro)))<;>grind[dx]
theorem Pj(x0:An)(hp:W2 x0):Z (Jb x0) fun r=>r.1.host.length<=30000:=by
 refine cB rfl ?_;simp only[bC,Ja]
 (repeat' (first | (intro _) | (apply And.intro)))<;>grind[dx,av,aA,jg,jh,lF,oJ, -> lG,oK,oM, -> ou,oN,lH,kK,iP,ji,oo,kY,nA,oq,iN,iO,bM,WE,jq,MI]
set_option maxHeartbeats 2000000 in
theorem alm(x0:An)(hp:W2 x0):Z (tV x0) fun r=>G 501 r.1:=by
 refine jy rfl (fun | .e y0=>y0=x0 | .h0 v0 v1 v2 v3 v4 v5=>0<=v2/\v2<=v1/\v0=x0.kids/\v1=(x0.kids.length:Int)/\v3=(0:Int)/\v4=([]:anY)/\Fm v5.n/\(v5.n.kids.length:Int)<=v2 | .h1 v0 v1 v2 v3 v4 v5 v6=>0<=v2/\v2<=v1/\v1=(v0.length:Int)/\v0.length<=1100/\v0=x0.keys/\v1=(x0.keys.length:Int)/\v3=x0/\v4=(0:Int)/\v5=([]:anY)/\x0.kind=3/\Fm v6.n/\(v6.n.kids.length:Int)<=v2) (fun | .e _=>10000000000 | .h0 v0 v1 v2 v3 v4 v5=>20000000+(v1-v2).toNat | .h1 v0 v1 v2 v3 v4 v5 v6=>10000000+(v1-v2).toNat) rfl (by show 10000000000<_;omega) ?_;rintro(y0 | ⟨v0,v1,v2,v3,v4,v5⟩ | ⟨v0,v1,v2,v3,v4,v5,v6⟩) hs
 ·cases hs;simp only[bC,qE]
  (repeat' (first | (intro _) | (apply And.intro)))<;>grind[dx,av,aA,jg,jh,lF,oJ, -> lG,oK,oM, -> ou,oN,lH,kK,iP,ji,oo,kY,nA,oq,iN,iO,bM,dI,dX,dM,Pj,d9,zW,Bt,Pf]
 ·dsimp only at hs;simp only[bC,qE];have:=@dx (v2+1)
  (repeat' (first | (intro _) | (apply And.intro)))<;>grind[dx,av,aA,jg,jh,lF,oJ, -> lG,oK,oM, -> ou,oN,lH,kK,iP,ji,oo,kY,nA,oq,iN,iO,bM,dI,dX,dM,Pj,d9,zW,Bt,Pf]
 ·dsimp only at hs;simp only[bC,qE];have:=@dx (v2+1)
  (repeat' (first | (intro _) | (apply And.intro)))<;>grind[dx,av,aA,jg,jh,lF,oJ, -> lG,oK,oM, -> ou,oN,lH,kK,iP,ji,oo,kY,nA,oq,iN,iO,bM,dI,dX,dM,Pj,d9,zW,Bt,Pf]
theorem amR(x0:Bool):Z (lT x0) fun r=>G 500 r:=by
 refine cB rfl ?_;simp only[bC,Jd]
 all_goals grind[dx,av,aA,jg,jh,lF,oJ, -> lG,oK,oM, -> ou,oN,lH,kK,iP,ji,oo,kY,nA,oq,iN,iO,bM]
def R2(l:List An):Prop:=∀y∈l,G 1 y
theorem aBV:R2 []:=fun y h=>by cases h
theorem aBW{l:List An}(h:R2 l)(s:anY):R2 (l++[dz s]):=fun x hx=>by
 rcases List.mem_append.1 hx with hx | hx
 ·exact h x hx
 ·rw[List.mem_singleton.1 hx];exact aq5 0 1 s (by decide)
theorem aEY{l:List An}(h:R2 l)(hl:l.length<=1100):G 501 ⟨2,[],[],l⟩:=by
 have:G 2 ⟨2,[],[],l⟩:=by unfold G;exact dQ.2 ⟨aa4 _,by show l.length<=5000;omega,(fun e=>by cases e),fun y hy=>by have:=h y hy;unfold G at this;exact this⟩
 unfold G at this ⊢;exact wW (n:=2) 499 this
attribute [irreducible] R2
theorem arl(x0:List (anY))(hp:x0.length<=1100):Z (Gq x0) fun r=>G 501 r:=by
 refine jy rfl (fun | .e y0=>y0=x0 | .h0 v0 v1 v2 v3 v4 v5 v6 v7=>0<=v2/\v2<=v1/\v1=(v0.length:Int)/\v0.length<=1100/\v5=(2:Int)/\v6=([]:anY)/\R2 v7/\(v7.length:Int)<=v2) (fun | .e _=>10000000000 | .h0 v0 v1 v2 v3 v4 v5 v6 v7=>(v1-v2).toNat) rfl (by show 10000000000<_;omega) ?_;rintro(y0 | ⟨v0,v1,v2,v3,v4,v5,v6,v7⟩) hs
 ·cases hs;simp only[bC,BS]
  (repeat' (first|intro _|apply And.intro))<;>grind[aBV]
 ·dsimp only at hs;simp only[bC,BS,av]
  (repeat' (first|intro _|apply And.intro))<;>grind[aBW,aEY,dx]
theorem aln(x0:An)(hp:W2 x0):Z (xg x0) fun r=>G 501 r.1:=by
 refine cB rfl ?_;simp only[bC,Gs];have h0:=lG hp
 (repeat' (first|intro _|apply And.intro))<;>grind[bM,arl,jP,alk,kY]
theorem agR(x0:anY)(hp:x0.length<=1000000):Z (Ee x0) fun r=>r.1.length<=x0.length/\r.2.1.length<=x0.length:=by
 refine jy rfl (fun | .e y0=>y0=x0 | .h0 v0 v1 v2=>v0=x0/\0<=v2/\v2<=v1/\v1=(x0.length:Int)) (fun | .e _=>10000000000 | .h0 v0 v1 v2=>(v1-v2).toNat) rfl (by show 10000000000<_;omega) ?_;rintro(y0 | ⟨v0,v1,v2⟩) hs
 ·cases hs;simp only[bC,uT]
  (repeat' (first|intro _|apply And.intro))<;>grind
 ·obtain⟨rfl,h1,h2,h3⟩:=hs;simp only[bC,uT,cut,acu,ach,List.length_nil]
  (repeat' (first|intro _|apply And.intro))<;>grind[dx]
theorem agS(x0:anY)(hp:x0.length<=1000000):Z (Ef x0) fun _=>True:=by
 refine jy rfl (fun | .e y0=>y0=x0 | .h0 v0 v1 v2 v3=>v0.length<=1000000/\0<=v3/\v3<=3) (fun | .e _=>10000000000 | .h0 v0 v1 v2 v3=>(3-v3).toNat) rfl (by show 10000000000<_;omega) ?_;rintro(y0 | ⟨v0,v1,v2,v3⟩) hs
 ·cases hs;simp only[bC,uU]
  (repeat' (first|intro _|apply And.intro))<;>grind[agR,dx]
 ·dsimp only at hs;simp only[bC,uU]
  (repeat' (first|intro _|apply And.intro))<;>grind[TA,dx]
theorem agT(x0:anY)(hp:x0.length<=100000):Z (Ei x0) fun _=>True:=by
 refine cB rfl ?_;simp only[bC,Eh]
 (repeat' (first|intro _|apply And.intro))<;>grind[agS]
theorem Nf(x0:An)(hp:W2 x0):Z (nT x0) fun r=>G 501 r.1:=by
 refine cB rfl ?_;simp only[bC,nS];have h0:=lG hp
 (repeat' (first|intro _|apply And.intro))<;>grind[agT,bM,kK,kY]
theorem amS(x0:An)(hp:W2 x0):Z (zU x0) fun r=>G 501 r.1:=by
 refine cB rfl ?_;simp only[bC,Jk]
 (repeat' (first|intro _|apply And.intro))<;>grind[Nf]
theorem amT(x0:anY):Z (Dj x0) fun r=>0<=r.1/\r.1<=3:=by
 refine cB rfl ?_;simp only[bC,Jl]
 (repeat' (first|intro _|apply And.intro))<;>grind
theorem alo(x0:anY)(hp:x0.length<=1000000):Z (Gy x0) fun _=>True:=by
 refine jy rfl (fun | .e y0=>y0=x0 | .h0 v0 v1=>v0=x0/\0<=v1/\v1<=(x0.length:Int)) (fun | .e _=>10000000000 | .h0 v0 v1=>v1.toNat) rfl (by show 10000000000<_;omega) ?_;rintro(y0 | ⟨v0,v1⟩) hs
 ·cases hs;simp only[bC,xA]
  (repeat' (first|intro _|apply And.intro))<;>grind
 ·obtain⟨rfl,h1,h2⟩:=hs;simp only[bC,xA];have h3:=amT (cut v0 v1 (v0.length:Int));have h4:=@oH (cut v0 0 v1);have h5:=Ob v0 0 v1;have h6:=@dx (v1-1);have h7:=@dx (10*(gv (Dj (cut v0 v1 (v0.length:Int)))).1)
  (repeat' (first|intro _|apply And.intro))<;>grind
theorem alp(x0:Int):Z (nV x0) fun r=>0<=r/\r<=3:=by
 refine jy rfl (fun | .e y0=>y0=x0 | .h0 v0 v1=>0<=v1/\v1<=3) (fun | .e _=>10000000000 | .h0 v0 v1=>(3-v1).toNat) rfl (by show 10000000000<_;omega) ?_;rintro(y0 | ⟨v0,v1⟩) hs
 ·cases hs;simp only[bC,A8]
  (repeat' (first|intro _|apply And.intro))<;>grind
 ·dsimp only at hs;simp only[bC,A8]
  (repeat' (first|intro _|apply And.intro))<;>grind[dx]
theorem aC5(x:Int)(k:Nat)(h:0<=x):0<=x / 2 ^ k/\x / 2 ^ k<=x:=by have hp:(0:Int)<2 ^ k:=Int.pow_pos (by decide);exact⟨Int.ediv_nonneg h (by omega),Int.ediv_le_self _ h⟩
theorem amU(x0:Int):Z (Jo x0) fun r=>r.length<=200:=by
 refine cB rfl ?_;simp only[bC,Jm,aA,List.length_append];have h1:=alp x0;have h2:=@dx (10*gv (nV x0));have h3:=fun h=>aC5 x0 (au (10*gv (nV x0))).toNat h
 have h4:=BG (x0 / 2 ^ (au (10*gv (nV x0))).toNat);have h5:∀i,((([[],[107],[109],[103]]:List (anY))).getD i (dflt Ty.str)).length<=1:=fun i=>by
  match i with
  | 0=>decide
  | 1=>decide
  | 2=>decide
  | 3=>decide
  | n+4=>exact aa4 _
 have h6:=h5 (gv (nV x0)).toNat;generalize (([[],[107],[109],[103]]:List (anY))).getD (gv (nV x0)).toNat (dflt Ty.str)=q at h6 ⊢
 (repeat' (first|intro _|apply And.intro))<;>grind
theorem alq(x0:An)(hp:W2 x0):Z (xB x0) fun r=>G 501 r.1:=by
 refine cB rfl ?_;simp only[bC,Gz];have h0:=lG hp
 (repeat' (first|intro _|apply And.intro))<;>grind[alo,amU,bM,kY,oq]
theorem aC6(s:anY)(h:s.length<=1000000):okT s=true:=by
 have:=MH s h;unfold okT;rw[this.1,decide_eq_true h,afq,afq,akX];cases h1:gv (iX s)with
 | true=>exact .inr (decide_eq_true (this.2 h1))
 | false=>exact .inl rfl
theorem Es(x0:gD)(hp:x0.source.length<=1000000/\x0.target.length<=1000000):Z (gI x0) fun _=>True:=by
 refine cB rfl ?_;simp only[bC,Ej];have h1:=aC6 x0.target hp.2;have h2:=MH x0.source hp.1
 (repeat' (first|intro _|apply And.intro))<;>grind[adY]
theorem Ng(x0:An)(hp:W2 x0):Z (GD x0) fun r=>r.1.source.length<=30000/\r.1.target.length<=30000:=by
 refine cB rfl ?_;simp only[bC,GA]
 (repeat' (first|intro _|apply And.intro))<;>grind[jq,BH,Es]
theorem Nh(x0:gD)(hp:x0.source.length<=1000000/\x0.target.length<=1000000):Z (xC x0) fun _=>True:=by
 refine cB rfl ?_;simp only[bC,GH,aA,List.length_append,List.length_cons,List.length_nil]
 (repeat' (first|intro _|apply And.intro))<;>grind[Es]
theorem agU(b:Bool):(gI ⟨[],[],b⟩).isSome=true:=(Es ⟨[],[],b⟩ ⟨aa4 _,aa4 _⟩).1
theorem aC7(l:List (anY))(a b:Int)(i n:Nat)(h:∀j,(l.getD j (Df.d:anY)).length<=n):((cut l a b).getD i (Df.d:anY)).length<=n:=by
 have hm:∀x∈l,x.length<=n:=fun x hx=>by obtain⟨j,hj,rfl⟩:=List.mem_iff_getElem.1 hx;have:=h j;rwa[List.getD,aaO hj]at this
 rw[List.getD];cases e:(cut l a b)[i]? with
 | none=>exact aa4 _
 | some x=>exact hm x (List.mem_of_mem_drop (aj2 (afD e)))
theorem awN(s:anY)(c:UInt8)(a b x y:Int)(i:Nat):((cut (eY s [c] a b) x y).getD i (Df.d:anY)).length<=s.length:=aC7 _ x y i _ fun j=>SA s c a b j
set_option maxHeartbeats 2000000 in
theorem KG(x0:anY)(hp:x0.length<=1000000):Z (zy x0) fun r=>r.1.source.length<=x0.length/\r.1.target.length<=x0.length:=by
 refine cB rfl ?_;simp only[bC,El];have h1:=Eo x0 58 0 (-1);have h2:=Ob (eY x0 [58] 0 (-1)) 0 (au (((eY x0 [58] 0 (-1)).length:Int)-1));have h3:=@dx (((eY x0 [58] 0 (-1)).length:Int)-1)
 (repeat' (first|intro _|apply And.intro))<;>grind[SA,XD,awN,Es,agU]
set_option maxHeartbeats 2000000 in
theorem agV(x0:An)(hp:W2 x0):Z (uV x0) fun r=>G 501 r.1:=by
 refine jy rfl (fun | .e y0=>y0=x0 | .h0 v0 v1 v2 v3 v4 v5=>0<=v2/\v2<=v1/\v0=x0.kids/\v1=(x0.kids.length:Int)/\v3=(0:Int)/\v4=([]:anY)/\Fm v5.n/\(v5.n.kids.length:Int)<=v2 | .h1 v0 v1 v2 v3 v4 v5 v6=>0<=v2/\v2<=v1/\v1=(v0.length:Int)/\v0.length<=1100/\v0=x0.keys/\v1=(x0.keys.length:Int)/\v3=x0/\v4=(0:Int)/\v5=([]:anY)/\x0.kind=3/\Fm v6.n/\(v6.n.kids.length:Int)<=v2) (fun | .e _=>10000000000 | .h0 v0 v1 v2 v3 v4 v5=>20000000+(v1-v2).toNat | .h1 v0 v1 v2 v3 v4 v5 v6=>10000000+(v1-v2).toNat) rfl (by show 10000000000<_;omega) ?_;rintro(y0 | ⟨v0,v1,v2,v3,v4,v5⟩ | ⟨v0,v1,v2,v3,v4,v5,v6⟩) hs
 ·cases hs;simp only[bC,oF]
  (repeat' (first | (intro _) | (apply And.intro)))<;>grind[dx,av,aA,jg,jh,lF,oJ, -> lG,oK,oM, -> ou,oN,lH,kK,iP,ji,oo,kY,nA,oq,iN,iO,bM,KG,Nh,dI,dX,dM,d9,zW,Ng]
 ·dsimp only at hs;simp only[bC,oF];have:=@dx (v2+1)
  (repeat' (first | (intro _) | (apply And.intro)))<;>grind[dx,av,aA,jg,jh,lF,oJ, -> lG,oK,oM, -> ou,oN,lH,kK,iP,ji,oo,kY,nA,oq,iN,iO,bM,KG,Nh,dI,dX,dM,d9,zW,Ng]
 ·dsimp only at hs;simp only[bC,oF];have:=@dx (v2+1)
  (repeat' (first | (intro _) | (apply And.intro)))<;>grind[dx,av,aA,jg,jh,lF,oJ, -> lG,oK,oM, -> ou,oN,lH,kK,iP,ji,oo,kY,nA,oq,iN,iO,bM,KG,Nh,dI,dX,dM,d9,zW,Ng]
theorem aC8{d:Nat}{x:An}(h:G (d+1) x)(i:Nat):G (d+1) (x.kids.getD i (Df.d:An))/\(0<d->i<x.kids.length->G d (x.kids.getD i (Df.d:An))):=by
 unfold G at *;rw[List.getD];cases e:x.kids[i]? with
 | none =>refine⟨by have:=WC d;unfold G at this;exact this,fun _ hi=>?_⟩;rw[aaO hi]at e;cases e
 | some y =>have:=(dQ.1 h).2.2.2 y (afD e);exact⟨wW 1 this,fun _ _=>this⟩
theorem aBX{d:Nat}{x:An}(h:G (d+1) x):x.keys.length<=5000/\x.kids.length<=5000:=by unfold G at h;exact⟨(dQ.1 h).1,(dQ.1 h).2.1⟩
theorem aC9:∀(n:Nat) (b:budget) (x:An) (deep:Int),13<=(n:Int)+deep->0<=deep->deep<=100->G (n+1) x->Z (fI (n+1) b x deep) fun _=>True:=by
 intro n
 induction n with
 | zero =>
  intro b x deep h1 h2 h3 h4;refine jy (t:=fH (fI 0)) (s:=.e b x deep) rfl (fun | .e y0 y1 y2=>y2=deep | .h0 _ _ _ _ _=>False) (fun _=>0) rfl (by decide) ?_;rintro(⟨y0,y1,y2⟩ | ⟨v0,v1,v2,v3,v4⟩) hs
  ·cases hs;simp only[bC,fH]
   (repeat' (first|intro _|apply And.intro))<;>grind
  ·exact hs.elim
 | succ n ih =>
  intro b x deep h1 h2 h3 h4;have hk:=aBX h4;refine jy (t:=fH (fI (n+1))) (s:=.e b x deep) rfl (fun | .e y0 y1 y2=>y1=x/\y2=deep | .h0 v0 v1 v2 v3 v4=>v0=deep/\deep<=12/\v1=x.kids/\v2=(x.kids.length:Int)/\0<=v3/\v3<=v2) (fun | .e _ _ _=>10000000000 | .h0 v0 v1 v2 v3 v4=>(v2-v3).toNat) ⟨rfl,rfl⟩ (by show 10000000000<_;omega) ?_;rintro(⟨y0,y1,y2⟩ | ⟨v0,v1,v2,v3,v4⟩) hs
  ·obtain⟨rfl,rfl⟩:=hs;simp only[bC,fH,mU]
   (repeat' (first|intro _|apply And.intro))<;>grind
  ·obtain⟨rfl,h5,rfl,rfl,h6,h7⟩:=hs;simp only[bC,fH];have h8:=@dx (v0+1);have h9:=@dx (v3+1);have h10:=(aC8 h4 v3.toNat).2;have h11:=ih ⟨v4⟩ (x.kids.getD v3.toNat Df.d) (v0+1)
   (repeat' (first|intro _|apply And.intro))<;>grind
theorem WK(x:An)(h:G 600 x):Z (AZ x) fun _=>True:=by
 refine cB rfl ?_;simp only[bC,Gv];have h2:G (999999999999999999999999999998+1+1) x:=by unfold G at *;exact wW (n:=600) 999999999999999999999999999400 h
 have:=aC9 999999999999999999999999999999 ⟨2000⟩ x 1 (by omega) (by omega) (by omega) h2;exact⟨this.1,trivial⟩
theorem amV(b:Bool):Z (lT b) fun r=>r=dz [116,114,117,101]\/r=dz [102,97,108,115,101]:=by
 refine cB rfl ?_;simp only[bC,Jd]
 (repeat' (first|intro _|apply And.intro))<;>grind
theorem wf1(d:Nat)(k:Int)(s:anY)(_:k≠3)(hs:s.length<=30000):wr (d+1) ⟨k,s,[],[]⟩:=⟨aa4 _,aa4 _,(fun _=>rfl),hs,(fun k hk=>by cases hk),(fun y hy=>by cases hy)⟩
theorem aBY(s:anY)(hs:s.length<=30000):W1 (dz s):=by unfold W1 W;exact wf1 490 1 s (by decide) hs
theorem ayl{ks:List (anY)}{l:List An}(h1:ks.length<=1000)(h2:ks.length=l.length)(h3:∀k∈ks,k.length<=30000)(h4:∀y∈l,W1 y):W2 ⟨3,[],ks,l⟩:=by unfold W2 W;refine⟨h1,by show l.length<=1000;omega,fun _=>h2,aa4 _,h3,fun y hy=>?_⟩;have:=h4 y hy;unfold W1 W at this;exact this
theorem arn:W2 ⟨0,[],[],[]⟩:=by unfold W2 W;exact wf1 491 0 [] (by decide) (aa4 _)
theorem acH(ks:List (anY))(l:List An)(hp:W2 ⟨3,[],ks,l⟩):Z (mq ks l) fun r=>r=⟨0,[],[],[]⟩\/r=⟨3,[],ks,l⟩:=by
 refine cB rfl ?_;simp only[bC,K4,av];have h1:=lG hp;have h2:=WK _ (by have:=kK hp;unfold G at *;exact wW (n:=501) 99 this)
 (repeat' (first|intro _|apply And.intro))<;>grind
theorem azJ(b:Bool):(lT b).isSome=true/\W1 (gv (lT b)):=by have:=amV b;refine⟨this.1,?_⟩;rcases this.2 with h | h<;>rw[h]<;>exact aBY _ (by decide)
theorem aBZ(s:anY)(a b:An)(hs:s.length<=30000)(ha:W1 a)(hb:W1 b):(mq [[99,111,110,100,105,116,105,111,110],[114,101,113,117,105,114,101,100],[114,101,115,116,97,114,116]] [dz s,a,b]).isSome=true/\G 500 (gv (mq [[99,111,110,100,105,116,105,111,110],[114,101,113,117,105,114,101,100],[114,101,115,116,97,114,116]] [dz s,a,b])):=by
 have hw:=ayl (ks:=[[99,111,110,100,105,116,105,111,110],[114,101,113,117,105,114,101,100],[114,101,115,116,97,114,116]]) (l:=[dz s,a,b]) (by decide) rfl (by decide) (fun y hy=>by
  simp only[am8,anG,or_false]at hy;rcases hy with rfl | rfl | rfl
  ·exact aBY _ hs
  ·exact ha
  ·exact hb)
 have:=acH _ _ hw;refine⟨this.1,?_⟩;rcases this.2 with h | h
 ·rw[h];exact oo
 ·rw[h];have:=W_G (d:=492) (by unfold W2 at hw;exact hw);exact aav (d:=492) 8 this
set_option maxHeartbeats 2000000 in
theorem Y2(x0:An)(hp:W2 x0):Z (Dh x0) fun r=>G 500 r.1:=by
 refine cB rfl ?_;simp only[bC,Je];have h1:=@aEV x0 hp;have h2:=fun f h=>jq f [99,111,110,100,105,116,105,111,110] [115,101,114,118,105,99,101,95,115,116,97,114,116,101,100] ⟨h,by decide⟩
 (repeat' (first|intro _|apply And.intro))<;>grind[BH,azJ,aBZ]
theorem amW(x0:An)(hp:W2 x0):Z (zR x0) fun r=>G 501 r.1:=by
 refine jy rfl (fun | .e y0=>y0=x0 | .h0 v0 v1 v2 v3 v4 v5 v6=>0<=v2/\v2<=v1/\v1=(v0.length:Int)/\v0.length<=1100/\v3=x0/\v4=(0:Int)/\v5=([]:anY)/\v3=x0/\(x0.kind=3->v0.length<=x0.kids.length)/\TL v0/\Fm v6.n/\(v6.n.kids.length:Int)<=v2) (fun | .e _=>10000000000 | .h0 v0 v1 v2 v3 v4 v5 v6=>(v1-v2).toNat) rfl (by show 10000000000<_;omega) ?_;rintro(y0 | ⟨v0,v1,v2,v3,v4,v5,v6⟩) hs
 ·cases hs;simp only[bC,zQ]
  (repeat' (first | (intro _) | (apply And.intro)))<;>grind[dx,av,aA,jg,jh,lF,oJ, -> lG,oK,oM, -> ou,oN,lH,kK,iP,ji,oo,kY,nA,oq,arn,bM,gV,Y2,dI,dX,dM,d9,jP]
 ·dsimp only at hs;simp only[bC,zQ];have:=@dx (v2+1)
  (repeat' (first | (intro _) | (apply And.intro)))<;>grind[dx,av,aA,jg,jh,lF,oJ, -> lG,oK,oM, -> ou,oN,lH,kK,iP,ji,oo,kY,nA,oq,arn,bM,gV,Y2,dI,dX,dM,d9,jP]
theorem aEZ{x:An}(h:G 501 x):wg 10000 1000 x=true:=awz (aav (d:=501) 99 h)
theorem aDa(x:An)(h:W1 x):Z (mq [[115,101,114,118,105,99,101]] [x]) fun r=>W2 r:=by
 have hw:=ayl (ks:=[[115,101,114,118,105,99,101]]) (l:=[x]) (by decide) rfl (by decide) (fun y hy=>by simp only[am8,anG,or_false]at hy;rw[hy];exact h)
 have:=acH _ _ hw;refine⟨this.1,?_⟩;rcases this.2 with h | h
 ·rw[h];exact arn
 ·rw[h];exact hw
theorem agW(x0:anY)(hp:x0.length<=1000000):Z (oD x0) fun r=>0<=r/\r<=x0.length:=by
 refine jy rfl (fun | .e y0=>y0=x0 | .h0 v0 v1=>v0=x0/\0<=v1/\v1<=(x0.length:Int)) (fun | .e _=>10000000000 | .h0 v0 v1=>((x0.length:Int)-v1).toNat) rfl (by show 10000000000<_;omega) ?_;rintro(y0 | ⟨v0,v1⟩) hs
 ·cases hs;simp only[bC,uQ]
  (repeat' (first|intro _|apply And.intro))<;>grind
 ·obtain⟨rfl,h1,h2⟩:=hs;simp only[bC,uQ]
  (repeat' (first|intro _|apply And.intro))<;>grind[dx]
theorem aro(x0:anY):Z (pX x0) fun r=>0<=r.2.2/\r.2.2<=x0.length/\(r.2.2=0\/r.2.1≠0):=by
 refine cB rfl ?_;simp only[bC,K5];have h0:(x0==[])=false->0<x0.length:=fun h=>List.length_pos_iff.2 (by simpa using h)
 (repeat' (first|intro _|apply And.intro))<;>grind
set_option maxHeartbeats 2000000 in
theorem aev(x0:An)(hp:W1 x0):Z (sP x0) fun r=>G 501 r.1:=by
 refine cB rfl ?_;simp only[bC,BZ];have key:∀y,W2 y->G 501 (dS 1000 y):=fun y h=>WB 1000 501 y (kK h)
 have key2:∀y,W2 y->wg 10000 1000 y=true:=fun y h=>aEZ (kK h)
 have h0:=lH hp;have h1:=aDa x0 hp;have step:∀y:An,W2 y->(aX ⟨y,(y.keys.length:Int),y.kind != 3⟩ [115,101,114,118,105,99,101] []).isSome=true/\(gv (aX ⟨y,(y.keys.length:Int),y.kind != 3⟩ [115,101,114,118,105,99,101] [])).1.n=y:=fun y h=>by have:=jq ⟨y,(y.keys.length:Int),y.kind != 3⟩ [115,101,114,118,105,99,101] [] ⟨h,by decide⟩;exact⟨this.1,this.2.1⟩
 have step2:∀f:field,W2 f.n->(aX ⟨f.n,f.left,f.bad⟩ [102,105,108,101] [120]).isSome=true:=fun f h=>(jq ⟨f.n,f.left,f.bad⟩ [102,105,108,101] [120] ⟨h,by decide⟩).1
 refine⟨fun _=>?_,fun _=>?_⟩
 ·refine⟨h1.1,?_⟩;have h1:=h1.2;generalize gv (mq _ _)=y at h1 ⊢;have a1:=step y h1;refine⟨a1.1,?_⟩;generalize gv (aX _ _ _)=p at a1 ⊢;refine⟨step2 p.1 (by rw[a1.2];exact h1),?_⟩
  (repeat' (first|intro _|apply And.intro))<;>grind[gV,bM,kY]
 ·have a1:=step x0 h0;refine⟨a1.1,?_⟩;generalize gv (aX _ _ _)=p at a1 ⊢;refine⟨step2 p.1 (by rw[a1.2];exact h0),?_⟩
  (repeat' (first|intro _|apply And.intro))<;>grind[gV,bM,kY]
set_option maxHeartbeats 2000000 in
theorem amX(x0:anY)(hp:x0.length<=1000000):Z (Jj x0) fun _=>True:=by
 refine jy rfl (fun | .e y0=>y0=x0 | .h0 v0 v1 v2 v3 v4=>v0=x0/\0<=v4/\v4<=(x0.length:Int)) (fun | .e _=>10000000000 | .h0 v0 v1 v2 v3 v4=>((x0.length:Int)-v4).toNat) rfl (by show 10000000000<_;omega) ?_;rintro(y0 | ⟨v0,v1,v2,v3,v4⟩) hs
 ·cases hs;simp only[bC,Di]
  (repeat' (first|intro _|apply And.intro))<;>grind
 ·obtain⟨rfl,h1,h2⟩:=hs;simp only[bC,Di];have h3:=Ob v0 v4 (v0.length:Int) ⟨h1,h2,akG _⟩;have h4:(oD (cut v0 v4 (v0.length:Int))).isSome=true/\0<=gv (oD (cut v0 v4 (v0.length:Int)))/\gv (oD (cut v0 v4 (v0.length:Int)))<=(cut v0 v4 (v0.length:Int)).length:=agW (cut v0 v4 (v0.length:Int)) (by omega);generalize gv (oD (cut v0 v4 (v0.length:Int)))=k at h4 ⊢;have h5:au (v4+k)=v4+k:=aT (by omega) (by omega);rw[h5];have h6:=Ob v0 v4 (v4+k) ⟨h1,by omega,by omega⟩;have h7:=Ob v0 (v4+k) (v0.length:Int) ⟨by omega,by omega,by omega⟩;have h8:(pX (cut v0 (v4+k) (v0.length:Int))).isSome=true/\0<=(gv (pX (cut v0 (v4+k) (v0.length:Int)))).2.2/\(gv (pX (cut v0 (v4+k) (v0.length:Int)))).2.2<=(cut v0 (v4+k) (v0.length:Int)).length/\((gv (pX (cut v0 (v4+k) (v0.length:Int)))).2.2=0\/(gv (pX (cut v0 (v4+k) (v0.length:Int)))).2.1≠0):=aro (cut v0 (v4+k) (v0.length:Int));have h9:=fun m=>oH (cut v0 v4 (v4+k)) m (by omega)
  generalize gv (pX (cut v0 (v4+k) (v0.length:Int)))=u at h8 ⊢;have h10:au (v4+k+u.2.2)=v4+k+u.2.2:=aT (by omega) (by omega);rw[h10]
  (repeat' (first|intro _|apply And.intro))<;>grind
theorem auI(c:UInt8)(new:anY)(h:new.length=4):∀s:anY,(rC c new s).length<=4*s.length
 | []=>aa4 _
 | b::t=>by have:=auI c new h t;rw[JO];split<;>simp only[List.length_append,List.length_cons,h]<;>omega
theorem aB0(s:anY)(h:s.length<=1000000):U8 s [39] [39,92,39,39] (-1)=true:=by unfold U8;rw[decide_eq_true h];rfl
theorem aDb(s:anY):(Yt s [39] [39,92,39,39] (-1)).length<=4*s.length:=auI _ _ rfl s
theorem auJ(sep:anY)(M:Nat):∀l:List (anY),(∀s∈l,s.length<=M)->(Lib.join l sep).length<=l.length*(M+sep.length)
 | [],_=>by simp[Lib.join,List.intercalate]
 | [a],h=>by have:=h a abI;simp[Lib.join,List.intercalate];omega
 | a::b::t,h=>by
  have h1:=h a abI;have h2:=auJ sep M (b::t) fun s hs=>h s (abD _ hs)
  have e:Lib.join (a::b::t) sep=a++sep++Lib.join (b::t) sep:=by simp[Lib.join,List.intercalate,List.intersperse]
  rw[e,List.length_append,List.length_append,List.length_cons (a:=a),anF];omega
def TJ(l:List (anY)):Prop:=∀s∈l,s.length<=200000
theorem auK:TJ []:=fun s h=>by cases h
theorem auL{l:List (anY)}{s:anY}(h:TJ l)(hs:s.length<=200000):TJ (l++[s]):=fun x hx=>by
 rcases List.mem_append.1 hx with hx | hx
 ·exact h x hx
 ·rw[List.mem_singleton.1 hx];exact hs
theorem aoO{l:List (anY)}(c:UInt8)(h:TJ l)(hl:l.length<=1100):ado l [c]=true:=by have:=auJ [c] 200000 l h;have h2:l.length*(200000+[c].length)<=1100*200001:=Nat.mul_le_mul hl (by simp);unfold ado;rw[decide_eq_true (show l.length<=1000000 by omega),decide_eq_true (show(Lib.join l [c]).length<=1000000000 by omega)];rfl
theorem aB1{l:List (anY)}(h:TL l)(a b:Int):TL (cut l a b):=by unfold TL at *;intro s hs;exact h s (List.mem_of_mem_drop (aj2 hs))
attribute [irreducible] TJ
theorem amY(x0:anY)(hp:x0.length<=1000000):Z (Jf x0) fun _=>True:=by
 refine jy rfl (fun | .e y0=>y0=x0 | .h0 v0 v1 v2=>0<=v2/\v2<=v1/\v1=(v0.length:Int)/\v0=x0) (fun | .e _=>10000000000 | .h0 v0 v1 v2=>(v1-v2).toNat) rfl (by show 10000000000<_;omega) ?_;rintro(y0 | ⟨v0,v1,v2⟩) hs
 ·cases hs;simp only[bC,zS]
  (repeat' (first|intro _|apply And.intro))<;>grind
 ·dsimp only at hs;simp only[bC,zS];have:=@dx (v2+1)
  (repeat' (first|intro _|apply And.intro))<;>grind
theorem amZ(x0:List (anY))(hp:TL x0/\x0.length<=1100):Z (Jg x0) fun _=>True:=by
 refine jy rfl (fun | .e y0=>y0=x0 | .h0 v0 v1 v2 v3=>0<=v3/\v3<=v2/\v2=(v1.length:Int)/\v1=x0/\TJ v0/\(v0.length:Int)=v3) (fun | .e _=>10000000000 | .h0 v0 v1 v2 v3=>(v2-v3).toNat) rfl (by show 10000000000<_;omega) ?_;rintro(y0 | ⟨v0,v1,v2,v3⟩) hs
 ·cases hs;simp only[bC,zT]
  (repeat' (first|intro _|apply And.intro))<;>grind[auK]
 ·dsimp only at hs;simp only[bC,zT,av,aA,List.length_append,List.length_cons,List.length_nil];have h1:=@dx (v3+1);have h2:=lF hp.1 v3.toNat;have h3:=aB0 (List.getD x0 v3.toNat Df.d) (by omega);have h4:=aDb (List.getD x0 v3.toNat Df.d);have h5:=amY (List.getD x0 v3.toNat Df.d) (by omega);have h6:(v0++[[39]++Yt (List.getD x0 v3.toNat Df.d) [39] [39,92,39,39] (-1)++[39]])=v0++[[39]++Yt (List.getD x0 v3.toNat Df.d) [39] [39,92,39,39] (-1)++[39]]:=rfl;have h7:=fun s=>@auL v0 s
  have h8:=@aoO v0 32
  (repeat' (first|intro _|apply And.intro))<;>grind[List.length_append,List.length_cons,List.length_nil]
theorem am0(x0:An)(hp:W1 x0):Z (Ji x0) fun _=>True:=by
 refine cB rfl ?_;simp only[bC,Jh];have h0:=lH hp;have h1:=jP x0 h0;have h2:=lG h0;have h3:=fun a b=>aB1 h1.2.1 a b
 have h4:=fun a b=>Ob (gv (nP x0)).1 a b
 (repeat' (first|intro _|apply And.intro))<;>grind[amZ]
theorem aE0(n:Int) : -9223372036854775808<=au n/\au n<=9223372036854775807:=by have e:au n=(if decide (n%18446744073709551616>=9223372036854775808)=true then n%18446744073709551616-18446744073709551616 else n%18446744073709551616):=rfl;have h1:=Int.emod_nonneg n (b:=18446744073709551616) (by decide);have h2:=Int.emod_lt_of_pos n (b:=18446744073709551616) (by decide);rw[e];split<;>rename_i h<;>rw[ab6]at h<;>omega
def Rg(n:Int):Prop:=-9223372036854775808<=n/\n<=9223372036854775807
theorem agX(x0:anY)(x1:Int)(hp:x0.length<=1000000):Z (zu x0 x1) fun r=>Rg r.1:=by
 refine jy rfl (fun | .e y0 y1=>y0=x0/\y1=x1 | .h0 v0 v1 v2 v3 v4 v5=>0<=v5/\v5<=v4/\v4=(v0.length:Int)/\v0.length<=1000000/\Rg v2) (fun | .e _ _=>10000000000 | .h0 v0 v1 v2 v3 v4 v5=>(v4-v5).toNat) ⟨rfl,rfl⟩ (by show 10000000000<_;omega) ?_;have hw:∀n,Rg (au n):=aE0;have h0:Rg 0:=⟨by decide,by decide⟩
 rintro(⟨y0,y1⟩ | ⟨v0,v1,v2,v3,v4,v5⟩) hs
 ·obtain⟨rfl,rfl⟩:=hs;simp only[bC,oC]
  all_goals grind
 ·dsimp only at hs;simp only[bC,oC];have:=@dx (v5+1)
  all_goals grind
theorem agY(x0:anY)(x1:Int)(hp:x0.length<=1000000):Z (gW x0 x1) fun r=>Rg r.1:=by
 refine cB rfl ?_;simp only[bC,zw];have h0:Rg 0:=⟨by decide,by decide⟩
 all_goals grind[agX]
theorem Uc(f:field)(k:anY)(h:W2 f.n):Z (kI f k) fun r=>r.1.n=f.n /\ -9223372036854775808<=r.2/\r.2<=9223372036854775807:=by
 refine cB rfl ?_;simp only[bC,qC];have h1:=acE h;have h2:∀x n,x.length<=1000000->(gW x n).isSome=true/\(-9223372036854775808<=(gv (gW x n)).1/\(gv (gW x n)).1<=9223372036854775807):=fun x n h=>agY x n h
 grind[jq]
theorem aB2(x L:Int)(h:0<=x/\x<=1099511627776)(hL:1<=L/\L<=3600000):au (Int.tdiv x L)=x / L/\0<=x / L/\x / L<=x/\au (x / L*L)=x / L*L/\0<=x / L*L/\x / L*L<=x/\au (x-x / L*L)=x-x / L*L:=by
 have h1:0<=x / L:=Int.ediv_nonneg h.1 (by omega);have h2:x / L*L<=x:=Int.ediv_mul_le x (by omega);have h3:x / L<=x / L*L:=by have:=Int.mul_le_mul_of_nonneg_left hL.1 h1;omega
 have h4:0<=x / L*L:=by omega
 refine⟨?_,h1,by omega,aT (by omega) (by omega),h4,h2,aT (by omega) (by omega)⟩;rw[afQ h.1];exact aT (by omega) (by omega)
theorem arp(x0:Int):Z (K6 x0) fun _=>True:=by
 refine jy rfl (fun | .e y0=>y0=x0 | .h0 v0 v1 v2 v3=>(0<=v0/\v0<=1099511627776)/\(0<=v3/\v3<=4)/\(v1.length:Int)<=30*v3/\∀i:Int,0<=i->i<4->∃L nm,List.getD ([v2.e0,v2.e1,v2.e2,v2.e3]:List yH) (Int.toNat i) (dflt Ty.BQ)=⟨L,nm⟩/\(1<=L/\L<=3600000)/\nm.length<=2) (fun | .e _=>10000000000 | .h0 v0 v1 v2 v3=>(4-v3).toNat) rfl (by show 10000000000<_;omega) ?_;rintro(y0 | ⟨v0,v1,v2,v3⟩) hs
 ·cases hs;simp only[bC,Ca];refine⟨fun _=>trivial,fun h=>⟨fun _=>trivial,fun h'=>⟨⟨by grind,⟨by omega,by omega⟩,by decide,?_⟩,by decide⟩⟩⟩;intro i h1 h2;have:i=0\/i=1\/i=2\/i=3:=by omega
  rcases this with rfl | rfl | rfl | rfl
  ·exact⟨3600000,[104],rfl,by decide⟩
  ·exact⟨60000,[109],rfl,by decide⟩
  ·exact⟨1000,[115],rfl,by decide⟩
  ·exact⟨1,[109,115],rfl,by decide⟩
 ·obtain⟨h1,h2,h3,h4⟩:=hs;simp only[bC,Ca,aA,List.length_append];refine⟨fun h=>?_,fun _=>trivial⟩;obtain⟨L,nm,e,hL,hn⟩:=h4 v3 h2.1 h;rw[e];obtain⟨a1,a2,a3,a4,a5,a6,a7⟩:=aB2 v0 L h1 hL;dsimp only;rw[a1,a4,a7];have h5:=@dx (v3+1);have h6:=BG (v0 / L) (by omega);rw[h5 (by omega)]
  (repeat' (first|intro _|apply And.intro))<;>grind
set_option maxHeartbeats 4000000 in
theorem agZ(x0:An)(hp:W2 x0):Z (uS x0) fun r=>G 501 r.1:=by
 refine jy rfl (fun | .e y0=>y0=x0 | .h0 v0 v1 v2 v3 v4 v5 v6 v7 v8=>0<=v3/\v3<=v2/\v2=(v1.length:Int)/\v1.length<=2/\v4=x0/\v8.n=x0/\Fm v7.n/\(v7.n.kids.length:Int)<=v3+1) (fun | .e _=>10000000000 | .h0 v0 v1 v2 v3 v4 v5 v6 v7 v8=>(v2-v3).toNat) rfl (by show 10000000000<_;omega) ?_;have k1:=acE hp;have k2:=aBz hp;rintro(y0 | ⟨v0,v1,v2,v3,v4,v5,v6,v7,⟨n8,l8,b8⟩⟩) hs
 ·cases hs;simp only[bC,uR];have h1:=fun l b=>BH ⟨x0,l,b⟩ [100,105,115,97,98,108,101] false hp
  (repeat' (first|intro _|apply And.intro))<;>grind[am0,dM,nA,iP]
 ·obtain⟨h1,h2,h3,h4,rfl,h6,h7,h8⟩:=hs;simp only[bC,uR];have g1:=@dx (v3+1);have h6:n8=v4:=h6;subst h6;have g2:=fun k l b=>jq ⟨n8,l,b⟩ k [49,115] ⟨hp,by decide⟩
  have g3:=fun l b=>Uc ⟨n8,l,b⟩ [114,101,116,114,105,101,115] hp
  have g4:=amR true
  (repeat' (first|intro _|apply And.intro))<;>grind[amX,arp,dM,dI,BG,bM,nA,kY,iP]
def Fq(d:Nat)(n:An):Prop:=(n.kind=3/\n.keys.length=n.kids.length)/\∀y∈n.kids,G d y
theorem alr(d:Nat):Fq d ⟨3,[],[],[]⟩:=⟨⟨rfl,rfl⟩,fun y h=>by cases h⟩
theorem aew{d:Nat}{n:An}(k:anY){v:An}(h:Fq d n)(hv:G d v):Fq d (aY n k v)/\(aY n k v).kids.length<=n.kids.length+1:=by
 obtain⟨⟨h1,h2⟩,h3⟩:=h;unfold aY;rw[show(bif n.kind != 3 then n.kind != 0 else false)=false by rw[h1];rfl,cond_false];cases decide (0<=index n.keys k)with
 | true =>
  rw[cond_true];refine⟨⟨⟨rfl,by simp[h2]⟩,fun y hy=>?_⟩,by simp⟩;rcases mem_set hy with hy | rfl
  ·exact h3 y hy
  ·exact hv
 | false =>
  rw[cond_false];refine⟨⟨⟨rfl,by simp[h2]⟩,fun y hy=>?_⟩,by simp⟩;rcases List.mem_append.1 hy with hy | hy
  ·exact h3 y hy
  ·rw[List.mem_singleton.1 hy];exact hv
theorem arq{d:Nat}{n:An}(k:anY)(v:An)(h:Fq d n)(hl:n.kids.length<=5000):fM n k v=true :=
 sM.2 ⟨⟨by have:=h.1.2;show n.keys.length<=_;omega,by show n.kids.length<=_;omega⟩,fun _=>h.1.2⟩
theorem aE1{d:Nat}{n:An}(h:Fq d n)(hl:n.kids.length<=5000):G (d+1) n:=by unfold Fq G at *;exact dQ.2 ⟨by have:=h.1.2;omega,hl,fun _=>h.1.2,h.2⟩
theorem aex{d:Nat}{n:An}(h:Fq d n)(hl:n.kids.length<=5000)(hd:d<599):wg 10000 1000 n=true/\G (d+1) (dS 1000 n):=by have h1:=aE1 h hl;refine⟨?_,WB 1000 (d+1) n h1⟩;have:=aav (d:=d+1) (599-d) h1;rw[show d+1+(599-d)=600 by omega]at this;exact awz this
def F1(n:An):Prop:=Fq 501 n
theorem aB3:F1 ⟨3,[],[],[]⟩:=alr 501
theorem aoP{n:An}(k:anY){v:An}(h:F1 n)(hv:G 501 v):F1 (aY n k v)/\(aY n k v).kids.length<=n.kids.length+1:=aew k h hv
theorem aDc{n:An}(k:anY)(v:An)(h:F1 n)(hl:n.kids.length<=5000):fM n k v=true:=arq k v h hl
theorem azK{n:An}(h:F1 n)(hl:n.kids.length<=5000):wg 10000 1000 n=true/\G 502 (dS 1000 n):=aex h hl (by decide)
def H1(n:An):Prop:=(n.keys.length<=1000/\(n.kind=3->n.keys.length=n.kids.length)/\TL n.keys)/\∀i:Nat,W1 (n.kids.getD i (Df.d:An))
theorem aE2{n:An}(h:H1 n):n.keys.length<=1000/\(n.kind=3->n.keys.length=n.kids.length)/\TL n.keys:=h.1
theorem aE3{n:An}(h:H1 n)(i:Nat):W1 (n.kids.getD i (Df.d:An)):=h.2 i
attribute [irreducible] F1 H1
theorem awO:G 502 ⟨0,[],[],[]⟩:=WC 501
theorem aE4:G 502 ⟨3,[],[],[]⟩:=by unfold G;exact dQ.2 ⟨aa4 _,aa4 _,(fun _=>rfl),(fun y hy=>by cases hy)⟩
theorem acI{c:Bool}{X Y:Prop}(x:X)(y:Y):bif c then X else Y:=by cases c<;>assumption
theorem tot_arm{v o:An}{k:anY}{m:Option (An×Int)}{R:An×anY×Int->Prop}{J:An->Prop}(hm:Z m fun r=>G 501 r.1)(hv:G 501 v)(hR:∀e,R (⟨0,[],[],[]⟩,k,e))(hJ:J o)(hW:∀w,G 501 w->fM o k w=true/\J (aY o k w)) :
  bif v.kind==0 then(bif v.kind != 0 then ck (fM o k v) False (J (aY o k v))else J o)else cl m False fun y=>bif y.2 != 0 then R (⟨0,[],[],[]⟩,k,y.2)else bif y.1.kind != 0 then ck (fM o k y.1) False (J (aY o k y.1))else J o:=by
 have e:∀w,G 501 w->(bif w.kind != 0 then ck (fM o k w) False (J (aY o k w))else J o):=fun w hw=>acI (by rw[wK];exact hW w hw) hJ
 refine acI (e v hv) ?_;rw[wZ];exact⟨hm.1,acI (hR _) (e _ hm.2)⟩
def ars(n:An):gL->Prop
 | .e y=>y=n
 | .h0 v0 v1 v2 v3 _ _ v6=>0<=v2/\v2<=v1/\v1=(v0.length:Int)/\v0=n.keys/\v3=n/\n.kind=3/\F1 v6/\(v6.kids.length:Int)<=v2
def aey:gL->Nat
 | .e _=>10000000000
 | .h0 _ v1 v2 _ _ _ _=>(v1-v2).toNat
theorem FP(x0:An)(hp:H1 x0):Z (jR x0) fun r=>G 502 r.1/\r.2.1.length<=30000:=by
 refine jy rfl (ars x0) aey rfl (by show 10000000000<_;omega) ?_;have h0:=aE2 hp;rintro(y0 | ⟨v0,v1,v2,v3,v4,v5,o⟩) hs
 ·have hs:y0=x0:=hs;subst hs;simp only[bC,fE,ars,aey]
  (repeat' (first|intro _|apply And.intro))<;>grind[aB3,awO,aE4]
 ·obtain⟨h1,h2,rfl,rfl,rfl,h6,h7,h8⟩:=hs;have a2:=aE3 hp v2.toNat;have a4:=lF h0.2.2 v2.toNat;simp only[aK,aW,fE,aQ];by_cases hi:v2<(v3.keys.length:Int)
  ·rw[decide_eq_true hi,cond_true,wI,wI,dx (by omega)];refine⟨h1,hi,h1,by have:=h0.2.1 h6;omega,?_⟩;generalize v3.kids.getD v2.toNat Df.d=v at a2 ⊢;generalize v3.keys.getD v2.toNat Df.d=k at a4 ⊢;have a3:=lH a2;have hJ:∀o',F1 o'->o'.kids.length<=o.kids.length+1->ars v3 (.h0 v3.keys v3.keys.length (v2+1) v3 v4 v5 o')/\aey (.h0 v3.keys v3.keys.length (v2+1) v3 v4 v5 o')<aey (.h0 v3.keys v3.keys.length v2 v3 v4 v5 o):=fun o' f1 f2=>⟨⟨by omega,by omega,rfl,rfl,rfl,h6,f1,by omega⟩,by show(_-(v2+1)).toNat<(_-v2).toNat;omega⟩
   have A:=fun m hm=>@tot_arm v o k m (fun r=>G 502 r.1/\r.2.1.length<=30000) (fun o'=>ars v3 (.h0 v3.keys v3.keys.length (v2+1) v3 v4 v5 o')/\aey (.h0 v3.keys v3.keys.length (v2+1) v3 v4 v5 o')<aey (.h0 v3.keys v3.keys.length v2 v3 v4 v5 o)) hm (kK a3) (fun _=>⟨awO,a4⟩) (hJ o h7 (by omega)) fun w hw=>⟨aDc k w h7 (by omega),hJ _ (aoP k h7 hw).1 (aoP k h7 hw).2⟩
   rw[wZ];refine⟨(EH k).1,acI (hJ o h7 (by omega)) ?_⟩
   repeat' (first | exact A _ (amQ v a3) | exact A _ (aln v a3) | exact A _ (alj v _ a3) | exact A _ (alm v a3) | exact A _ (agV v a3) | exact A _ (acG v a3) | exact A _ (amW v a3) | exact A _ (aev v a2) | exact A _ (agZ v a3) | exact A _ (aes v a3) | exact A _ (ali v a3) | exact A _ (amS v a3) | exact A _ (alq v a3) | exact⟨awO,a4⟩ | refine acI ?_ ?_)
  ·rw[decide_eq_false hi,cond_false,wK];have a5:=azK h7 (by omega);exact⟨a5.1,a5.2,by decide⟩
def F2(n:An):Prop:=Fq 502 n
theorem aB4:F2 ⟨3,[],[],[]⟩:=alr 502
theorem azL{n:An}(k:anY){v:An}(h:F2 n)(hv:G 502 v):F2 (aY n k v)/\(aY n k v).kids.length<=n.kids.length+1:=aew k h hv
theorem aDd{n:An}(k:anY)(v:An)(h:F2 n)(hl:n.kids.length<=5000):fM n k v=true:=arq k v h hl
theorem azM{n:An}(h:F2 n)(hl:n.kids.length<=5000):wg 10000 1000 n=true/\G 503 (dS 1000 n):=aex h hl (by decide)
def F3(n:An):Prop:=Fq 503 n
theorem aB5:F3 ⟨3,[],[],[]⟩:=alr 503
theorem azN{n:An}(k:anY){v:An}(h:F3 n)(hv:G 503 v):F3 (aY n k v)/\(aY n k v).kids.length<=n.kids.length+1:=aew k h hv
theorem aDe{n:An}(k:anY)(v:An)(h:F3 n)(hl:n.kids.length<=5000):fM n k v=true:=arq k v h hl
theorem azO{n:An}(h:F3 n)(hl:n.kids.length<=5000):wg 10000 1000 n=true/\G 504 (dS 1000 n):=aex h hl (by decide)
def H2(n:An):Prop:=(n.keys.length<=1000/\(n.kind=3->n.keys.length=n.kids.length)/\TL n.keys)/\∀i:Nat,H1 (n.kids.getD i (Df.d:An))
def H3(n:An):Prop:=(n.keys.length<=1000/\(n.kind=3->n.keys.length=n.kids.length)/\TL n.keys)/\∀i:Nat,W1 (n.kids.getD i (Df.d:An))/\H2 (n.kids.getD i (Df.d:An))
attribute [irreducible] F2 F3 H2 H3
theorem aE5{n:An}(h:H2 n):n.keys.length<=1000/\(n.kind=3->n.keys.length=n.kids.length)/\TL n.keys:=by unfold H2 at h;exact h.1
theorem aE6{n:An}(h:H2 n)(i:Nat):H1 (n.kids.getD i (Df.d:An)):=by unfold H2 at h;exact h.2 i
theorem aE7{n:An}(h:H3 n):n.keys.length<=1000/\(n.kind=3->n.keys.length=n.kids.length)/\TL n.keys:=by unfold H3 at h;exact h.1
theorem aE8{n:An}(h:H3 n)(i:Nat):W1 (n.kids.getD i (Df.d:An))/\H2 (n.kids.getD i (Df.d:An)):=by unfold H3 at h;exact h.2 i
theorem awP:G 503 ⟨0,[],[],[]⟩:=WC 502
theorem aE9:G 503 ⟨3,[],[],[]⟩:=by unfold G;exact dQ.2 ⟨aa4 _,aa4 _,(fun _=>rfl),(fun y hy=>by cases hy)⟩
theorem awQ:G 504 ⟨0,[],[],[]⟩:=WC 503
theorem aFa:G 504 ⟨3,[],[],[]⟩:=by unfold G;exact dQ.2 ⟨aa4 _,aa4 _,(fun _=>rfl),(fun y hy=>by cases hy)⟩
theorem aaA(x0:An)(hp:H1 x0):Z (tY x0) fun r=>G 502 r.1/\r.2.1.length<=30000:=by
 refine cB rfl ?_;simp only[bC,yQ]
 (repeat' (first|intro _|apply And.intro))<;>grind[FP]
theorem aFb{l:List (anY)}(h:TJ l)(i:Nat):(l.getD i (Df.d:anY)).length<=200000:=by
 unfold TJ at h;rw[List.getD];cases e:l[i]? with
 | none=>exact aa4 _
 | some x=>exact h x (afD e)
theorem TR(x0:List (anY))(hp:TJ x0/\x0.length<=1100):Z (zq x0) fun _=>True:=by
 refine jy rfl (fun | .e y0=>y0=x0 | .h0 v0 v1 v2 v3=>0<=v3/\v3<=v2/\v2=(v1.length:Int)/\v1=x0/\TJ v0/\(v0.length:Int)<=v3) (fun | .e _=>10000000000 | .h0 v0 v1 v2 v3=>(v2-v3).toNat) rfl (by show 10000000000<_;omega) ?_;rintro(y0 | ⟨v0,v1,v2,v3⟩) hs
 ·cases hs;simp only[bC,uP]
  (repeat' (first|intro _|apply And.intro))<;>grind[auK]
 ·dsimp only at hs;simp only[bC,uP,av,List.length_append,List.length_cons,List.length_nil];have h1:=@dx (v3+1);have h2:=aFb hp.1 v3.toNat;have h7:=fun s=>@auL v0 s
  have h8:=@aoO v0 46
  (repeat' (first|intro _|apply And.intro))<;>grind[List.length_append,List.length_cons,List.length_nil]
theorem aFc(a b:anY)(h:a.length<=200000/\b.length<=200000):TJ [a,b]:=by
 unfold TJ;intro s hs;simp only[am8,anG,or_false]at hs;rcases hs with rfl | rfl
 ·exact h.1
 ·exact h.2
theorem aFd(a b c:anY)(h:a.length<=200000/\b.length<=200000/\c.length<=200000):TJ [a,b,c]:=by
 unfold TJ;intro s hs;simp only[am8,anG,or_false]at hs;rcases hs with rfl | rfl | rfl
 ·exact h.1
 ·exact h.2.1
 ·exact h.2.2
set_option maxHeartbeats 2000000 in
theorem ES(x0:An)(hp:H2 x0):Z (jI x0) fun r=>G 503 r.1:=by
 refine jy rfl (fun | .e y0=>y0=x0 | .h0 v0 v1 v2 v3 v4 v5 v6=>0<=v2/\v2<=v1/\v1=(v0.length:Int)/\v0=x0.keys/\v3=x0/\x0.kind=3/\F2 v6/\(v6.kids.length:Int)<=v2) (fun | .e _=>10000000000 | .h0 v0 v1 v2 v3 v4 v5 v6=>(v1-v2).toNat) rfl (by show 10000000000<_;omega) ?_;have h0:=aE5 hp;rintro(y0 | ⟨v0,v1,v2,v3,v4,v5,v6⟩) hs
 ·cases hs;simp only[bC,gG]
  (repeat' (first|intro _|apply And.intro))<;>grind[aB4,awP,aE9]
 ·obtain⟨h1,h2,h3,rfl,rfl,h6,h7,h8⟩:=hs;have a1:=@dx (v2+1);have a2:=aE6 hp v2.toNat;have a4:=lF h0.2.2 v2.toNat;have a5:=azM h7 (by omega);have a6:=fun k v=>aDd k v h7 (by omega)
  have a7:=fun k v h=>@azL v6 k v h7 h
  simp only[bC,gG];generalize v3.kids.getD v2.toNat Df.d=y2 at a2 ⊢;generalize v3.keys.getD v2.toNat Df.d=y1 at a4 ⊢;have a8:=aaA y2 a2;have a9:=TR [[115,101,114,118,105,99,101,115],y1] ⟨aFc _ _ ⟨by decide,by omega⟩,by simp⟩;have a10:=TR [[115,101,114,118,105,99,101,115],y1,(gv (tY y2)).2.1] ⟨aFd _ _ _ ⟨by decide,by omega,by have:=a8.2.2;omega⟩,by simp⟩
  (repeat' (first|intro _|apply And.intro))<;>grind[awP,gV]
theorem X3(x0:An)(hp:H2 x0):Z (lC x0) fun r=>G 503 r.1:=by
 refine cB rfl ?_;simp only[bC,wM]
 (repeat' (first|intro _|apply And.intro))<;>grind[ES,awP]
theorem aDf{n:An}(h:W1 n):G 503 n:=aav (d:=501) 2 (kK (lH h))
theorem aFe{n:An}(h:G 501 n):G 503 n:=aav (d:=501) 2 h
set_option maxHeartbeats 4000000 in
theorem IU(x0:An)(hp:H3 x0):Z (jv x0) fun r=>G 504 r.1:=by
 refine jy rfl (fun | .e y0=>y0=x0 | .h0 v0 v1 v2 v3 v4 v5 v6=>0<=v2/\v2<=v1/\v1=(v0.length:Int)/\v0=x0.keys/\v3=x0/\x0.kind=3/\F3 v6/\(v6.kids.length:Int)<=v2) (fun | .e _=>10000000000 | .h0 v0 v1 v2 v3 v4 v5 v6=>(v1-v2).toNat) rfl (by show 10000000000<_;omega) ?_;have h0:=aE7 hp;rintro(y0 | ⟨v0,v1,v2,v3,v4,v5,v6⟩) hs
 ·cases hs;simp only[bC,iG]
  (repeat' (first|intro _|apply And.intro))<;>grind[aB5,awQ,aFa]
 ·obtain⟨h1,h2,h3,rfl,rfl,h6,h7,h8⟩:=hs;have a1:=@dx (v2+1);have a2:=aE8 hp v2.toNat;have a4:=lF h0.2.2 v2.toNat;have a5:=azO h7 (by omega);have a6:=fun k v=>aDe k v h7 (by omega)
  have a7:=fun k v h=>@azN v6 k v h7 h
  simp only[bC,iG];generalize v3.kids.getD v2.toNat Df.d=y2 at a2 ⊢;generalize v3.keys.getD v2.toNat Df.d=y1 at a4 ⊢;have a8:=aDf a2.1;have a9:=X3 y2 a2.2;have a10:=acG y2 (lH a2.1);have a11:=@aFe (gv (nR y2)).1
  (repeat' (first|intro _|apply And.intro))<;>grind[awQ,EH,adX]
theorem ag0(x0:An)(hp:H3 x0):Z (kN x0) fun r=>G 504 r.1:=by
 refine cB rfl ?_;simp only[bC,Em];have a1:=IU x0 hp;have a2:=WK (gv (jv x0)).1 (aav (d:=504) 96 a1.2)
 (repeat' (first|intro _|apply And.intro))<;>grind[awQ]
theorem acJ{d:Nat}{n:An}(h:wr (d+2) n)(i:Nat):wr (d+1) (n.kids.getD i (Df.d:An)):=by
 rw[List.getD];cases e:n.kids[i]? with
 | none=>exact⟨aa4 _,aa4 _,(fun _=>rfl),aa4 _,(fun k hk=>by cases hk),(fun y hy=>by cases hy)⟩
 | some x=>exact h.2.2.2.2.2 x (afD e)
theorem awR{d:Nat}{n:An}(h:wr (d+1) n):n.keys.length<=1000/\(n.kind=3->n.keys.length=n.kids.length)/\TL n.keys:=⟨h.1,fun e=>h.2.2.1 (.inr e),by unfold TL;exact h.2.2.2.2.1⟩
theorem aym{d:Nat}(hd:d<=491){n:An}(h:wr d n):W1 n:=by unfold W1 W;have:=aen (491-d) h;rwa[show d+(491-d)=491 by omega]at this
theorem aDg{d:Nat}(hd:d<=400){n:An}(h:wr (d+2) n):H1 n:=by unfold H1;exact⟨awR h,fun i=>aym (by omega) (acJ h i)⟩
theorem aDh{d:Nat}(hd:d<=399){n:An}(h:wr (d+3) n):H2 n:=by unfold H2;exact⟨awR h,fun i=>aDg (d:=d) (by omega) (acJ h i)⟩
theorem aDi{d:Nat}(hd:d<=398){n:An}(h:wr (d+4) n):H3 n:=by unfold H3;exact⟨awR h,fun i=>⟨aym (by omega) (acJ h i),aDh (d:=d) (by omega) (acJ h i)⟩⟩
theorem aB6{α:Type}[Df α]{o:Option α}{Q:α->Prop}(h:Z o Q):∃r,o=some r/\Q r:=by obtain⟨h1,h2⟩:=h;obtain⟨r,rfl⟩:=Option.isSome_iff_exists.1 h1;exact⟨r,rfl,h2⟩
theorem acK{f:An->An->Bool}:∀(l:List An),(∀x∈l,f x x=true)->Gf f l l=true
 | [],_=>rfl
 | a::t,h=>by unfold Gf;rw[h a abI,acK t fun x hx=>h x (abD _ hx)];rfl
theorem af4:∀(n:Nat) (x:An),dp n x=true->same n x x=true
 | 0,_,h=>by cases h
 | n+1,x,h=>by unfold same;rw[acK x.kids fun y hy=>af4 n y ((Gg.1 h).2 y hy)];simp
theorem af5{d:Nat}(hd:d<=1000){x:An}(h:wg 10000 d x=true):Gi 1000 x x=true/\same 1000 x x=true:=by have:=ahl (by decide) (Aw hd h);exact⟨by simp only[Gi,this,acf],af4 1000 x this⟩
theorem auM{d:Nat}(hd:d<=398){n:An}(h:sn (d+4) n):(kN n).isSome=true:=by obtain⟨r,hr,_⟩:=aB6 (ag0 n (aDi hd (ax7 h)));rw[hr];rfl
def yg(k:anY)(x:An):An:=⟨3,[],[k],[x]⟩
theorem aDj(k:anY)(x:An):D6 k x=some (yg k x):=by refine dh rfl ?_;simp only[aK,Ph,aQ];rfl
theorem aDk:both [[97]] [[97]]=[[97]]:=Pl.tJ (by simp[Pl.SS]) fun x=>by simp
theorem aDl:both [[120]] [[121]]=[[120],[121]]:=Pl.tJ (by unfold Pl.SS;decide) fun x=>by simp
theorem aFf(n:Nat):lI (n+1) (yg [97] (yg [120] Y0)) (yg [97] (yg [121] Y1))=⟨3,[],[[97]],[lI n (yg [120] Y0) (yg [121] Y1)]⟩:=by show(⟨3,[],both [[97]] [[97]],(both [[97]] [[97]]).map (pick (lI n) (yg [97] (yg [120] Y0)) (yg [97] (yg [121] Y1)))⟩:An)=_;rw[aDk];rfl
theorem aFg(n:Nat):(lI (n+1) (yg [120] Y0) (yg [121] Y1)).keys=[[120],[121]]:=aDl
theorem af6:Ka=some true:=by refine dh rfl ?_;have h:=Pg 13 qM (yg [97] (yg [120] Y0)) (yg [97] (yg [121] Y1)) (by unfold qM;omega) rfl rfl;rw[aFf 12]at h;have h:DT (yg [97] (yg [120] Y0)) (yg [97] (yg [121] Y1))=_:=h;have h2:=aFg 11;simp only[aK,aW,WJ,aDj,aD];change cl (DT (yg [97] (yg [120] Y0)) (yg [97] (yg [121] Y1))) _ _;rw[h,aD];generalize lI 12 (yg [120] Y0) (yg [121] Y1)=q at h2;simp only[List.getD,aiB,Int.toNat_zero,akp,aa9,h2];rfl
theorem aDm(l:List An):ark l=some true:=by
 refine iB rfl (fun | .e y=>y=l | .h0 v0 v1=>v0=l/\l.length<=5/\(0<=v1/\v1<=(l.length:Int))/\∀x∈l.take v1.toNat,sb 200 12 x) (fun | .e _=>10000000000 | .h0 v0 v1=>((v0.length:Int)-v1).toNat) rfl (by show 10000000000<_;omega) ?_;rintro(y | ⟨v0,v1⟩) hs
 ·cases hs;simp only[aK,aW,ahI,af6,aD];by_cases h5:(5:Int)<(l.length:Int)
  ·rw[dT h5];trivial
  ·rw[dF h5,cond_false];exact⟨⟨trivial,by omega,⟨by decide,by omega⟩,fun x hx=>by cases hx⟩,by show((l.length:Int)-0).toNat<_;omega⟩
 ·obtain⟨rfl,hl,⟨h1,h2⟩,h3⟩:=hs;simp only[aK,aW,ahI,af6,aD,aQ];by_cases hi:v1<(v0.length:Int)
  ·have e1:au (v1+1)=v1+1:=bX (by omega);rw[dT hi,cond_true,wI,e1];refine⟨h1,hi,?_⟩;have ht:=auC v0 Df.d h1 hi;generalize v0.getD v1.toNat Df.d=x at ht ⊢;rw[show ajJ x (200:Int)=true from rfl,ak];cases h : !(Mg x (200:Int))with
   | true=>trivial
   | false =>
    have hx:sb 200 12 x:=awI (B:=200) (m:=200) (by decide) (by simpa using h);refine⟨⟨trivial,hl,⟨by omega,by omega⟩,fun z hz=>?_⟩,by show((v0.length:Int)-(v1+1)).toNat<((v0.length:Int)-v1).toNat;omega⟩;rw[ht]at hz;rcases List.mem_append.1 hz with hz | hz
    ·exact h3 z hz
    ·rw[List.mem_singleton.1 hz];exact hx
  ·rw[alg v0 (by omega)]at h3;have hsi:si 12 (J9 v0):=aq6 (B:=200*v0.length) (by omega) (auB v0 h3);have hp:=auy hsi (auM (d:=8) (by decide) (Cr hsi));have hl2:=(ald (e:=5) hsi (by decide)).2.1;have hz:=aBM (e:=5) hsi (by decide);rw[dF hi,cond_false,alh hl h3 hp,arj hl h3 (awJ hsi)];simp only[aD];generalize rM (J9 v0)=s at hl2 hz ⊢;have hs:Gi 1000 s.n s.n=true/\same 1000 s.n s.n=true:=by
    by_cases he:s.e=0
    ·exact af5 (d:=9) (by decide) (wO (hl2 he).uE)
    ·rw[hz he];exact af5 (d:=1) (by decide) rfl
   rw[hs.1,hs.2];simp only[beq_self_eq_true,ak,cond_true,ab7,aff,Bool.or_false,dO]
def aB7:iU E:=PI (E:=E) [.dP] [.bool] fun _=>some true
theorem azP:aV E 3 aB7:=by
 have h:=aBT;unfold ayj at h;have e:(fun a:Args E [.dP]=>(ark a:Option (Args E [.bool])))=fun _=>some true:=funext fun a=>aDm a
 rw[e]at h;exact h
end Go.Proofs.YtibpdjmikfmmaaaGreatDoor.Rf
namespace Go.Proofs.YtibpdjmikfmmaaaGreatDoor.bB
open Go Go.RowKit Go.Deep
def below(w:World):Nat->Nat->Prop:=fun k _=>k<w.heap.size
section
variable {P:Program} {E:Env P}
def Opens(E:Env P)(T:TypeId)(R:List (bQ E.Den)->Prop):Prop :=
 ∀{H:Type} (enc:TypeId×Value->H) (w:World) (base:Nat) (spare:Nat->Bool) (held:Bool) (fuel:Nat) (cs:List Value) (x:DataW H×List MemPlace),DataW.trod enc P w base spare held fuel T cs=some x ->
  ∃ds,R ds/\cs.length=ds.length/\∀(j:Nat) v d,cs[j]? = some v->ds[j]? = some d->dU E w (below w) v d
def Ni(E:Env P)(t:E.Ty):Prop:=Opens E (E.tid t) fun ds=>∃x,ds=E.cells t x
theorem one_cell{w:World}{v:Value}{d:bQ E.Den}(h:dU E w (below w) v d):∀(j:Nat) u e,[v][j]? = some u->[d][j]? = some e->dU E w (below w) u e:=by
 intro j u e hu he;cases j with
 | zero=>simp at hu he;subst hu;subst he;exact h
 | succ j=>simp at hu
theorem auN{T:TypeId}{k:IntKind}(hT:P.underlying T=some (.int k)):Opens E T fun ds=>∃n,ds=[.int k n]:=by intro H enc w base spare held fuel cs x h;obtain⟨n,rfl,_,_⟩:=DataW.trod_int hT h;exact⟨[.int k n],⟨n,rfl⟩,rfl,one_cell (.int k n)⟩
theorem auO{T:TypeId}(hT:P.underlying T=some .string):Opens E T fun ds=>∃s:anY,ds=[.str s]/\s.length<=maxLen:=by intro H enc w base spare held fuel cs x h;obtain⟨s,rfl,_,hs⟩:=DataW.trod_string hT h;refine⟨[.str s.data.toList],⟨_,rfl,by rw[afP];exact hs⟩,rfl,one_cell ?_⟩;have:=dU.str (E:=E) (w:=w) (ro:=below w) s.data.toList;simpa using this
theorem aoQ{w:World}{a:Addr}{u:Value}(h:w.cell? a=some u):a.block<w.heap.size:=by
 rcases afR a.block w.heap.size with hl | hl
 ·exact hl
 ·unfold World.cell? at h;rw[Array.getElem?_eq_none hl]at h;cases h
theorem Y3{T:TypeId}{t:E.Ty}(hT:P.underlying T=some (.slice (E.tid t)))(ht:Ni E t)(hC:P.cellsOf (E.tid t)=E.size t):Opens E T fun ds=>∃l,ds=[.slice t l]:=by
 intro H enc w base spare held fuel cs x h;rcases open_slice hT h with⟨rfl,_⟩ | ⟨a,len,cap,m,n,D,Pl,rfl,hb,hl,hm,hmm,hx,hi⟩
 ·exact⟨[.slice t []],⟨[],rfl⟩,rfl,one_cell (.nil t none 0)⟩
 ·have hle:len<=m:=by rw[hmm];split<;>omega
  have hpos:=E.size_pos t;have key:∀i,i<len->∃x:E.Den t, ∀(j:Nat) c,(E.cells t x)[j]? = some c->∃u,w.cell? (a.add (i*E.size t+j))=some u/\dU E w (below w) u c:=by
   intro i hil;obtain⟨cs',hc,htr⟩:=hi i (by omega);rw[hC]at hc;obtain⟨ds,⟨y,rfl⟩,hlen,hd⟩:=ht enc w base spare held n cs' _ htr;obtain⟨_,hcl,hat⟩:=World.cells?_some hc;refine⟨y,fun j c hj=>?_⟩;have hjl:j<E.size t:=by rw[<- E.jl t y];exact(List.getElem?_eq_some_iff.1 hj).1
   have hcj:=hat j hjl;have hv:cs'[j]? = some (cs'[j]'(by omega)):=aaO (by omega);refine⟨_,?_,hd j _ c hv hj⟩;rw[<- Go.Deep.add_add,hcj,hv]
  let pick:Nat->E.Den t:=fun i=>if hil:i<len then Classical.choose (key i hil)else E.dflt t
  have hpick:∀i,i<len->∀(j:Nat) c,(E.cells t (pick i))[j]? = some c->∃u,w.cell? (a.add (i*E.size t+j))=some u/\dU E w (below w) u c:=by intro i hil;have:=Classical.choose_spec (key i hil);simpa only [pick,dif_pos hil]using this
  refine⟨[.slice t ((List.range len).map pick)],⟨_,rfl⟩,rfl,one_cell ?_⟩;by_cases h0:len=0
  ·subst h0;exact .nil t _ _
  ·obtain⟨g,off,spot⟩:=a;have hsp:spot=none:=by
    have hc0:0<(E.cells t (pick 0)).length:=by rw[E.jl];exact hpos
    obtain⟨u,hu,_⟩:=hpick 0 (by omega) 0 _ (aaO hc0);have:=World.cell?_spot hu;unfold Addr.add at this;split at this
    ·simpa using this
    ·rename_i hne;exact absurd (by simp) hne
   subst hsp;have hlen:((List.range len).map pick).length=len:=by simp
   have at_:∀i x j c,((List.range len).map pick)[i]? = some x->(E.cells t x)[j]? = some c->∃u,w.cell? ⟨g,off+i*E.size t+j,none⟩=some u/\dU E w (below w) u c:=by
    intro i x j c hix hj;have hil:i<len:=by have:=(List.getElem?_eq_some_iff.1 hix).1;simpa using this
    have hx':x=pick i:=by simp[hil]at hix;exact hix.symm
    subst hx';obtain⟨u,hu,hd⟩:=hpick i hil j c hj;rw[show(⟨g,off,none⟩:Addr).add (i*E.size t+j)=⟨g,off+(i*E.size t+j),none⟩from by unfold Addr.add;split<;>simp_all]at hu;rw[<- ajU]at hu;exact⟨u,hu,hd⟩
   have:=dU.slice (E:=E) (w:=w) (ro:=below w) t ((List.range len).map pick) g off cap (fun i j=>(w.cell? ⟨g,off+i*E.size t+j,none⟩).getD undef) (by rw[hlen];exact hl)
    (fun i x j c hix hj=>by obtain⟨u,hu,_⟩:=at_ i x j c hix hj;exact⟨aoQ hu,by rw[hu];rfl⟩)
    (fun i x j c hix hj=>by obtain⟨u,hu,hd⟩:=at_ i x j c hix hj;simp only[hu,akp];exact hd)
   rw[hlen]at this;exact this
def RAll:List (List (bQ E.Den)->Prop)->List (bQ E.Den)->Prop
 | [],ds=>ds=[]
 | R::Rs,ds=>∃a b,R a/\ds=a++b/\RAll Rs b
theorem Opens.mono{T:TypeId}{R R':List (bQ E.Den)->Prop}(h:Opens E T R)(hR:∀ds,R ds->R' ds):Opens E T R':=by intro H enc w base spare held fuel cs x hx;obtain⟨ds,h1,h2⟩:=h enc w base spare held fuel cs x hx;exact⟨ds,hR ds h1,h2⟩
theorem azQ{H:Type}{enc:TypeId×Value->H}{w:World}{base:Nat}{spare:Nat->Bool}{held:Bool}{t:E.Ty}(ho:Ni E t){v:Value}{d:DataW H}{p:List MemPlace}(hsh:(E.agg t=true/\∃vs,v = .agg vs)\/(E.agg t=false/\v.cells = #[v]))
  (h:DataW.Trod enc P w base spare held (E.tid t) v d p):∃x,vI E w (below w) v t x:=by
 obtain⟨fuel,h⟩:=h;obtain⟨ds,⟨x,rfl⟩,hl,hd⟩:=ho enc w base spare held fuel _ _ h;refine⟨x,?_⟩;rcases hsh with⟨ha,vs,rfl⟩ | ⟨ha,hv⟩
 ·exact .inl ⟨ha,vs,rfl,by simpa[Value.cells]using hl,fun j u e hu he=>hd j u e (by simpa[Value.cells]using hu) he⟩
 ·rw[hv]at hl hd;obtain⟨c,hc⟩:=S9 ((E.jl t x).trans (E.one t ha));refine .inr ⟨ha,c,hc,hd 0 v c rfl (by rw[hc];rfl)⟩
end
end Go.Proofs.YtibpdjmikfmmaaaGreatDoor.bB
namespace Go.Proofs.YtibpdjmikfmmaaaGreatDoor.bB
open Go Go.RowKit Go.Deep
section
variable {P:Program} {E:Env P}
def zJ(E:Env P)(b:Nat)(T:TypeId)(R:List (bQ E.Den)->Prop):Prop :=
 ∀{H:Type} (enc:TypeId×Value->H) (w:World) (base:Nat) (spare:Nat->Bool) (held:Bool) (fuel:Nat) (cs:List Value) (x:DataW H×List MemPlace),fuel<b->DataW.trod enc P w base spare held fuel T cs=some x ->
  ∃ds,R ds/\cs.length=ds.length/\∀(j:Nat) v d,cs[j]? = some v->ds[j]? = some d->dU E w (below w) v d
theorem aru{T:TypeId}{R:List (bQ E.Den)->Prop}(h:∀b,zJ E b T R):Opens E T R:=fun enc w base spare held fuel cs x hx=>h (fuel+1) enc w base spare held fuel cs x (Nat.lt_succ_self _) hx
theorem WL{b:Nat}{T:TypeId}{R:List (bQ E.Den)->Prop}(h:Opens E T R):zJ E b T R:=fun enc w base spare held fuel cs x _ hx=>h enc w base spare held fuel cs x hx
theorem am1{T:TypeId}{R:List (bQ E.Den)->Prop}:zJ E 0 T R:=fun _ _ _ _ _ _ _ _ hx _=>absurd hx (Nat.not_lt_zero _)
theorem zJ.mono{b:Nat}{T:TypeId}{R R':List (bQ E.Den)->Prop}(h:zJ E b T R)(hR:∀ds,R ds->R' ds):zJ E b T R':=fun enc w base spare held fuel cs x hfb hx=>by obtain⟨ds,h1,h2⟩:=h enc w base spare held fuel cs x hfb hx;exact⟨ds,hR ds h1,h2⟩
theorem als{b:Nat}{T:TypeId}{t:E.Ty}(hT:P.underlying T=some (.slice (E.tid t)))(ht:zJ E b (E.tid t) fun ds=>∃x,ds=E.cells t x)(hC:P.cellsOf (E.tid t)=E.size t):zJ E b T fun ds=>∃l,ds=[.slice t l]:=by
 intro H enc w base spare held fuel cs x hfb h;rcases DataW.trod_slice hT h with⟨rfl,_⟩ | ⟨a,len,cap,elems,rest,n,hfu,rfl,hx,hb,hl,hm,aGe,hel,_,_⟩
 ·exact⟨[.slice t []],⟨[],rfl⟩,rfl,one_cell (.nil t none 0)⟩
 ·have hpos:=E.size_pos t;have key:∀i,i<len->∃x:E.Den t, ∀(j:Nat) c,(E.cells t x)[j]? = some c->∃u,w.cell? (a.add (i*E.size t+j))=some u/\dU E w (below w) u c:=by
   intro i hil;have hei:=hel i hil;rw[aaO (show i<elems.length by omega)]at hei;obtain⟨cs',hc,htr⟩:=Option.bind_eq_some_iff.1 hei;rw[hC]at hc;obtain⟨ds,⟨y,rfl⟩,hlen,hd⟩:=ht enc w base spare held n cs' _ (by omega) htr;obtain⟨_,hcl,hat⟩:=World.cells?_some hc;refine⟨y,fun j c hj=>?_⟩;have hjl:j<E.size t:=by rw[<- E.jl t y];exact(List.getElem?_eq_some_iff.1 hj).1
   have hcj:=hat j hjl;have hv:cs'[j]? = some (cs'[j]'(by omega)):=aaO (by omega);refine⟨_,?_,hd j _ c hv hj⟩;rw[<- Go.Deep.add_add,hcj,hv]
  let pick:Nat->E.Den t:=fun i=>if hil:i<len then Classical.choose (key i hil)else E.dflt t
  have hpick:∀i,i<len->∀(j:Nat) c,(E.cells t (pick i))[j]? = some c->∃u,w.cell? (a.add (i*E.size t+j))=some u/\dU E w (below w) u c:=by intro i hil;have:=Classical.choose_spec (key i hil);simpa only [pick,dif_pos hil]using this
  refine⟨[.slice t ((List.range len).map pick)],⟨_,rfl⟩,rfl,one_cell ?_⟩;by_cases h0:len=0
  ·subst h0;exact .nil t _ _
  ·obtain⟨g,off,spot⟩:=a;have hsp:spot=none:=by
    have hc0:0<(E.cells t (pick 0)).length:=by rw[E.jl];exact hpos
    obtain⟨u,hu,_⟩:=hpick 0 (by omega) 0 _ (aaO hc0);have:=World.cell?_spot hu;unfold Addr.add at this;split at this
    ·simpa using this
    ·rename_i hne;exact absurd (by simp) hne
   subst hsp;have hlen:((List.range len).map pick).length=len:=by simp
   have at_:∀i x j c,((List.range len).map pick)[i]? = some x->(E.cells t x)[j]? = some c->∃u,w.cell? ⟨g,off+i*E.size t+j,none⟩=some u/\dU E w (below w) u c:=by
    intro i x j c hix hj;have hil:i<len:=by have:=(List.getElem?_eq_some_iff.1 hix).1;simpa using this
    have hx':x=pick i:=by simp[hil]at hix;exact hix.symm
    subst hx';obtain⟨u,hu,hd⟩:=hpick i hil j c hj;rw[show(⟨g,off,none⟩:Addr).add (i*E.size t+j)=⟨g,off+(i*E.size t+j),none⟩from by unfold Addr.add;split<;>simp_all]at hu;rw[<- ajU]at hu;exact⟨u,hu,hd⟩
   have:=dU.slice (E:=E) (w:=w) (ro:=below w) t ((List.range len).map pick) g off cap (fun i j=>(w.cell? ⟨g,off+i*E.size t+j,none⟩).getD undef) (by rw[hlen];exact hl)
    (fun i x j c hix hj=>by obtain⟨u,hu,_⟩:=at_ i x j c hix hj;exact⟨aoQ hu,by rw[hu];rfl⟩)
    (fun i x j c hix hj=>by obtain⟨u,hu,hd⟩:=at_ i x j c hix hj;simp only[hu,akp];exact hd)
   rw[hlen]at this;exact this
def aez(E:Env P)(b n:Nat):Nat->List Field->List (List (bQ E.Den)->Prop)->Prop
 | off,[],[]=>off=n
 | off,f::fs,R::Rs=>f.offset=off/\zJ E b f.type R/\aez E b n (off+P.cellsOf f.type) fs Rs
 | _,_,_=>False
theorem TS{H:Type}{enc:TypeId×Value->H}{w:World}{base:Nat}{spare:Nat->Bool}{held:Bool}{b n fuel:Nat}{cs:List Value}(hfb:fuel<b)(hn:cs.length=n):∀(fl:List Field) (Rs:List (List (bQ E.Den)->Prop)) (off:Nat),aez E b n off fl Rs ->
  (∀f∈fl, ∃y,DataW.trod enc P w base spare held fuel f.type ((cs.drop f.offset).take (P.cellsOf f.type))=some y) ->
  ∃ds,RAll Rs ds/\(cs.drop off).length=ds.length/\∀(j:Nat) v d,(cs.drop off)[j]? = some v->ds[j]? = some d->dU E w (below w) v d
 | [],[],off,h,_=>by have h:off=n:=h;subst h;exact⟨[],rfl,by simp[hn],fun j v d _ hd=>by simp at hd⟩
 | f::fl,R::Rs,off,h,hf=>by
  obtain⟨ho,hR,hrest⟩:=h;subst ho;obtain⟨y,hy⟩:=hf f abI;obtain⟨d1,hR1,hl1,hd1⟩:=hR enc w base spare held fuel _ _ hfb hy;obtain⟨d2,hR2,hl2,hd2⟩:=TS hfb hn fl Rs _ hrest fun g hg=>hf g (abD _ hg)
  rw[<- akA]at hl2 hd2;generalize hA:(cs.drop f.offset).take (P.cellsOf f.type)=A at *;generalize hB:(cs.drop f.offset).drop (P.cellsOf f.type)=B at *;have hsplit:cs.drop f.offset=A++B:=by rw[<- hA,<- hB,afO]
  refine⟨d1++d2,⟨d1,d2,hR1,rfl,hR2⟩,by rw[hsplit,List.length_append,List.length_append,hl1,hl2],fun j v d hv hd=>?_⟩;rw[hsplit]at hv;rcases afR j d1.length with hj | hj
  ·rw[afh (by omega)]at hv;rw[afh hj]at hd;exact hd1 j v d hv hd
  ·rw[aeF (by omega),hl1]at hv;rw[aeF hj]at hd;exact hd2 _ v d hv hd
 | [],_::_,_,h,_=>h.elim
 | _::_,[],_,h,_=>h.elim
theorem ag1{b:Nat}{T:TypeId}{fs:Array Field}{Rs:List (List (bQ E.Den)->Prop)}(hT:P.underlying T=some (.struct fs))(hF:aez E b (P.cellsOf T) 0 fs.toList Rs):zJ E (b+1) T (RAll Rs):=by
 intro H enc w base spare held fuel cs x hfb h;obtain⟨xs,n,rfl,rfl,hl,hlen,hf⟩:=DataW.trod_struct hT h;obtain⟨ds,h1,h2,h3⟩:=TS (enc:=enc) (w:=w) (base:=base) (spare:=spare) (held:=held) (fuel:=n) (by omega) hl fs.toList Rs 0 hF (fun f hf'=>by
  obtain⟨i,hi⟩:=List.getElem?_of_mem hf';have hi':fs[i]? = some f:=by simpa using hi
  have hlt:i<xs.length:=by rw[hlen];exact(Array.getElem?_eq_some_iff.1 hi').1
  exact⟨xs[i],by rw[hf i f hi',aaO hlt]⟩)
 exact⟨ds,h1,by simpa using h2,by simpa using h3⟩
end
end Go.Proofs.YtibpdjmikfmmaaaGreatDoor.bB
namespace Go.Proofs.YtibpdjmikfmmaaaGreatDoor.Rf
open Go Go.ChangeShapes Go.WideShapes Go.ChangeAt Go.RowKit Go.Proofs.YtibpdjmikfmmaaaGreatDoor.bB
theorem azR:Ni E .int:=Opens.mono (E:=E) (auN (T:=3) (k:=.i64) (by kernel_rfl)) fun _ ⟨n,h⟩=>⟨n,h⟩
theorem aoS:Ni E .str:=Opens.mono (E:=E) (auO (T:=9) (by kernel_rfl)) fun _ ⟨n,h,_⟩=>⟨n,h⟩
theorem auP:Ni E .bH:=Opens.mono (E:=E) (Y3 (E:=E) (T:=25) (t:=.str) (by kernel_rfl) aoS (by kernel_rfl)) fun _ ⟨l,h⟩=>⟨l,h⟩
set_option maxRecDepth 100000 in
theorem alu:Ni E .ah:=aru fun b=>by
 induction b with
 | zero=>exact am1
 | succ b ih=>exact zJ.mono (E:=E) (ag1 (E:=E) (Rs:=[(fun ds=>∃x,ds=E.cells .int x),(fun ds=>∃x,ds=E.cells .str x),(fun ds=>∃x,ds=E.cells .bH x),(fun ds=>∃x,ds=E.cells .dP x)]) Tryz.underlying27 ⟨by kernel_rfl,WL azR,by kernel_rfl,WL aoS,by kernel_rfl,WL auP,by kernel_rfl,zJ.mono (als (E:=E) (T:=22) (t:=.ah) (by kernel_rfl) ih (by kernel_rfl)) fun _ ⟨l,h⟩=>⟨l,h⟩,(by kernel_rfl:0+Tryz.prog.cellsOf 3+Tryz.prog.cellsOf 9+Tryz.prog.cellsOf 25+Tryz.prog.cellsOf 22=Tryz.prog.cellsOf 27)⟩) fun _ ⟨_,_,⟨x0,h0⟩,g0,_,_,⟨x1,h1⟩,g1,_,_,⟨x2,h2⟩,g2,_,_,⟨x3,h3⟩,g3,g4⟩=>⟨(⟨x0,x1,x2,x3⟩:An),by rw[g0,h0,g1,h1,g2,h2,g3,h3,g4];rfl⟩
theorem aeA:Ni E .dP:=Opens.mono (E:=E) (Y3 (E:=E) (T:=22) (t:=.ah) (by kernel_rfl) alu (by kernel_rfl)) fun _ ⟨l,h⟩=>⟨l,h⟩
theorem own:ownKnob Tryz.prog.godebug=none:=by kernel_rfl
theorem laidOut:laidOutB Tryz.prog=true:=by kernel_rfl
theorem awS{w:World}{ro:Nat->Nat->Prop}{v:Value}{b:Bool}(h:qz E w ro v [⟨.bool,b⟩]):v = .bool b:=by
 rcases h with⟨ha,_⟩ | ⟨_,c,hc,hd⟩
 ·cases ha
 ·have e:c = .bool b:=by
   have:([.bool b]:List (bQ E.Den))=[c]:=hc;simpa using this.symm
  subst e;cases hd;rfl
set_option maxRecDepth 100000 in
theorem lifted(os:Os)(started:os.Started)(H:Type)(enc:TypeId×Value->H) :
  ReturnsInHanded {} Tryz.checked os 3 .any (fun w args=>(Rows.blendOverSpec.pre enc Tryz.prog Tryz.f3 Rows.blendOverRow.domain false w args/\laidMetH Tryz.prog Rows.blendOverRow.laid w)/\sizedMet enc Tryz.prog Tryz.f3 (OpenSpec.ofChange Rows.blendOverSpec) false w args) (Rows.blendOverSpec.post enc Tryz.prog Tryz.f3 false true false false):=by
 refine returnsInHanded_of_change_and (C:=Tryz.checked) (X:=fun w _=>laidMetH Tryz.prog Rows.blendOverRow.laid w) (fun _ _ _ hh h=>h.of_heap hh) own started (by kernel_rfl) Tryz.func3
  (ChangeSpec.witness_shaped (enc:=enc) (C:=Tryz.checked) (os:=os) (X:=fun w _=>laidMetH Tryz.prog Rows.blendOverRow.laid w) false (World.laidAll Tryz.prog os Rows.blendOverRow.laid) #[.slice none 0 0] 8 (World.laidAll_os _ _ _)
   (World.shaped_of_ZipB (by kernel_rfl) (by kernel_rfl)) (by kernel_rfl) (by kernel_rfl) (by kernel_rfl)
   (by rw[MakeChecks.laidMetH_plain _ _ _ (by kernel_rfl)];exact laidMet_laidAll _ (by kernel_rfl) (by kernel_rfl))) ?_
 intro W base args ds gs before hval0 hW _ _ hL _;have hval:∀(j:Nat) t v,Tryz.f3.params[j]? = some t->args[j]? = some v->Value.okWide Tryz.prog W .any base t v:=hval0;have hW':=hW;obtain⟨p,q,hA0,hV,rfl,hfz,hnd⟩:=hW;have hA:DataW.TrodAll enc Tryz.prog W 0 (fun _=>true) true Tryz.f3.params.toList args.toList ds p:=hA0;rw[Tryz.params3]at hA hval;obtain⟨v0,vs0,d0,ds0,p0,q0,hargs,rfl,rfl,h0,r0⟩:=trodAll_cons hA;obtain⟨rfl,rfl,rfl⟩:=trodAll_nil r0;obtain rfl:args = #[v0]:=by cases args;simp_all
 obtain⟨rfl,rfl⟩:=trodVars_none hV;obtain⟨a0,aGp,cap0,rfl⟩:=okWide_slice Tryz.underlying22 (hval 0 22 v0 rfl rfl);have lt0:∀x∈p0,x.block<W.heap.size:=by obtain⟨m,hm⟩:=h0;exact DataW.trod_lt m _ _ _ hm
 obtain⟨x0,t0⟩:=azQ (E:=E) (t:=.dP) aeA (.inr ⟨rfl,rfl⟩) h0;clear hA0 hval0;refine(azP.2 [⟨.dP,x0⟩] [⟨.bool,true⟩] rfl W (below W) [_] ⟨t0,trivial⟩ (fun _ _ h=>h)).mono fun e W' ⟨v,he,bel,hret⟩=>?_
 have hv:=awS hret;subst hv;subst he;exact⟨_,rfl,_,_,_,[],_,[],hW',trodAll_mk1 (shut_bool Tryz.underlying4 _),
  (trodAll_cons_mk (Below.trod laidOut (by kernel_rfl) (of_decide_eq_true (by kernel_rfl)) h0 bel lt0) trodAll_mk0),rfl,bel.frame _,fun h=>by cases h⟩
theorem over:Rows.blendOverRow.holds Tryz.pinned (OpenSpec.ofChange Rows.blendOverSpec) :=
 OpenClaim.holds_of_wide 3 Tryz.f3 rfl rfl rfl rfl rfl rfl rfl ⟨rfl,rfl,rfl,rfl,rfl⟩ rfl rfl rfl rfl rfl (by kernel_rfl) Tryz.func3 (by kernel_rfl)
  (of_decide_eq_true (by kernel_rfl)) (by unfold Func.isWrapper;first | (rw[if_pos (by decide +kernel)];kernel_rfl) | (rw[if_neg (by decide +kernel)];exact⟨rfl,rfl⟩))
  (fun os started H enc _=>lifted os started H enc)
theorem aaB:Rows.BlendOverCardSaid :=
 Claim7.holds_tied_plain_at .later [] [.data,.pinned] true (true, "010709a3148be67552485295bb8ac4ccb484f98a19631293fa4f453008c21c30") false over (fun _ h=>by cases h) (by kernel_rfl) (fun _ h=>by cases h) blendOver_row_tie rfl ⟨rfl,rfl⟩ (by kernel_rfl) rfl
  (fun f fn hf hfn=>by
   obtain rfl:f=3:=Option.some.inj ((show Tryz.prog.funcNamed "longshore/longshorelaw20.BlendOver" = some 3 by kernel_rfl).symm.trans hf) |>.symm
   obtain rfl:fn=Tryz.f3:=(Option.some.inj (Tryz.func3.symm.trans hfn)).symm;exact⟨by kernel_rfl,fun j t ht=>by
    rw[Tryz.params3]at ht;have hm:t∈[22]:=by simpa using Array.mem_of_getElem? ht
    have hall:([22].all fun u=>!Tryz.prog.wantsStandIn u)=true:=by kernel_rfl
    exact(show Tryz.prog.wantsStandIn t=false by simpa using afE.1 hall t hm)⟩)
  (by kernel_rfl)
#print axioms aaB
end Go.Proofs.YtibpdjmikfmmaaaGreatDoor.Rf
