/- 'ExtendWhole' of chapter 21, closed: what the law's function computes (by the Mirror) gives the given statement, without conditions. -/
import Derived.Test.YtibpdjmikfmmaaaGreatEw1
import Derived.Test.YtibpdjmikfmmaaaGreatEw7
import Derived.Test.YtibpdjmikfmmaaaGreatEw3
import Derived.Deep.Slices
import Derived.ChangeSame
import Derived.ChangeArms
import Derived.WalkKit
import Derived.ProofKit
import Derived.OpenShut
import Derived.ChangeOld
import Derived.Below
import Derived.Carry
noncomputable section
namespace Go.Proofs.YtibpdjmikfmmaaaGreat.Rf
open Go Go.RowKit Go.Sort Go.Proofs.YtibpdjmikfmmaaaGreat.bB
def af9:alJ:=[115,101,114,118,105,99,101]
def M4:alJ:=[102,105,108,101]
structure Fd (x:Node):Prop where
 nw_:nw 13 x
 ar7:cnt 13 x<=2000
 jI:sn 9 x
 k2:x.kind≠2
 s2:(av x bW).kind≠2
theorem xV{a:Node}{k:alJ}(h:aB a k=false):av a k=zn:=by
 unfold aB at h;unfold av;cases hg:get a k with
 | none=>rfl
 | some x=>rw[hg]at h;cases h
theorem xW{d:Nat}{x:Node}(h:sn (d+2) x)(k:alJ):sn (d+1) (av x k):=by
 cases g:aB x k with
 | true=>exact h.2.2 _ (iU g)
 | false=>rw[xV g];exact aaF d
theorem Bd{d:Nat}{x:Node}(h:sn (d+1) x):fit x=true:=u7 (ru h) (by decide)
def sD:List Named->aW->Option Node
 | [],_=>none
 | x::r,p=>bif x.name==p.e0 then get (av x.n bW) p.e1 else sD r p
def fH(l:List Named)(p:aW):Node:=(sD l p).getD zn
def mY(l:List Named)(p:aW):Bool:=(sD l p).isSome
theorem Bf{x:Named}{r:List Named}{p:aW}(h:(x.name==p.e0)=true):fH (x::r) p=av (av x.n bW) p.e1/\mY (x::r) p=aB (av x.n bW) p.e1:=by unfold fH mY sD;rw[h];exact⟨rfl,rfl⟩
theorem EU{x:Named}{r:List Named}{p:aW}(h:(x.name==p.e0)=false):sD (x::r) p=sD r p:=by rw[sD,h,cond_false]
theorem ai7{x:Node}(h:Fd x)(s:alJ):VX x [[115,101,114,118,105,99,101,115],s]=some (av (av x bW) s,aB (av x bW) s):=by
 have f0:=Bd h.jI;have f1:=Bd (xW h.jI bW);refine d9 rfl (fun | .e y z=>y=x/\z=[bW,s] | .h0 v0 v1 v2 v3 _ _=>(v0=[bW,s]/\v1=2)/\((v2=0/\v3=x)\/(v2=1/\v3=av x bW)\/(v2=2/\aB (av x bW) s=true/\v3=av (av x bW) s)))
  (fun | .e _ _=>10 | .h0 _ _ v2 _ _ _=>(2-v2).toNat) ⟨rfl,rfl⟩ (by show 10<_;omega) ?_
 have g0:([bW,s]:List (alJ)).getD (Int.toNat 0) Df.d=bW:=rfl;have g1:([bW,s]:List (alJ)).getD (Int.toNat 1) Df.d=s:=rfl;have w1:aA (0+1)=1:=fV (by omega);have w2:aA (1+1)=2:=fV (by omega);have l0:(0:Int)<(([bW,s]:List (alJ)).length:Int):=by show(0:Int)<2;decide
 have l1:(1:Int)<(([bW,s]:List (alJ)).length:Int):=by show(1:Int)<2;decide
 rintro(⟨y,z⟩ | ⟨v0,v1,v2,v3,v4,v5⟩) hs
 ·obtain⟨rfl,rfl⟩:=hs;exact⟨⟨⟨rfl,rfl⟩,.inl ⟨rfl,rfl⟩⟩,by show(2-0:Int).toNat<10;decide⟩
 ·obtain⟨⟨rfl,rfl⟩,hh⟩:=hs;rcases hh with⟨rfl,rfl⟩ | ⟨rfl,rfl⟩ | ⟨rfl,hb,rfl⟩
  ·simp only[aP,bH,AX,aU];rw[show decide ((0:Int)<2)=true from rfl,cond_true,wI,g0,bZ h.k2,cond_false,f0,aj,w1];refine⟨by decide,l0,?_⟩;cases hb:aB v3 bW with
   | false =>rw[xV hb];rfl
   | true=>exact⟨⟨⟨trivial,trivial⟩,.inr (.inl ⟨rfl,rfl⟩)⟩,by decide⟩
  ·simp only[aP,bH,AX,aU];rw[show decide ((1:Int)<2)=true from rfl,cond_true,wI,g1,bZ h.s2,cond_false,f1,aj,w2];refine⟨by decide,l1,?_⟩;cases hb:aB (av x bW) s with
   | false =>rw[xV hb];rfl
   | true=>exact⟨⟨⟨trivial,trivial⟩,.inr (.inr ⟨rfl,rfl,rfl⟩)⟩,by decide⟩
  ·simp only[aP,bH,AX,aU];rw[show decide ((2:Int)<2)=false from rfl,cond_false,hb]
theorem WY{l:List Named}(hl:l.length<=5)(h:∀x∈l,Fd x.n)(p:aW):Kw l p.e0 p.e1=some (fH l p,mY l p):=by
 refine d9 rfl (fun | .e x y z=>x=l/\y=p.e0/\z=p.e1 | .h0 v0 v1 v2 v3 v4 _ _=>(v0=p.e0/\v1=p.e1/\v2=l/\v3=(l.length:Int))/\(0<=v4/\v4<=(l.length:Int))/\sD (l.drop v4.toNat) p=sD l p)
  (fun | .e _ _ _=>1000 | .h0 _ _ _ _ v4 _ _=>((l.length:Int)-v4).toNat) ⟨rfl,rfl,rfl⟩ (by show 1000<_;omega) ?_
 rintro(⟨x,y,z⟩ | ⟨v0,v1,v2,v3,v4,v5,v6⟩) hs
 ·obtain⟨rfl,rfl,rfl⟩:=hs;exact⟨⟨⟨rfl,rfl,rfl,rfl⟩,⟨ahM 0,by omega⟩,rfl⟩,by show((x.length:Int)-0).toNat<1000;omega⟩
 ·obtain⟨⟨rfl,rfl,rfl,rfl⟩,⟨h1,h2⟩,h3⟩:=hs;simp only[aP,bH,Bp,aU];by_cases hi:v4<(v2.length:Int)
  ·have e1:aA (v4+1)=v4+1:=fV (by omega);rw[dT hi,cond_true,wI,e1];refine⟨h1,hi,?_⟩;have hm:=gM v2 Df.d h1 hi;rw[tL v2 Df.d h1 hi]at h3;generalize v2.getD v4.toNat Df.d=x at hm h3 ⊢;cases hn:x.name==p.e0 with
   | true =>have:=@Bf x (v2.drop (v4+1).toNat) p hn;unfold fH mY at this ⊢;rw[h3]at this;rw[cond_true,ai7 (h x hm),this.1,this.2];simp only[aF]
   | false =>rw[EU hn]at h3;exact⟨⟨⟨trivial,trivial,trivial,trivial⟩,⟨by omega,by omega⟩,h3⟩,by show((v2.length:Int)-(v4+1)).toNat<((v2.length:Int)-v4).toNat;omega⟩
  ·rw[yQ v2 (by omega)]at h3;rw[dF hi,cond_false];unfold fH mY;rw[<- h3];rfl
theorem Kg{l:List Named}(hl:l.length<=5)(h:∀x∈l,Fd x.n)(p:aW):lq l p=some (fH l p,mY l p):=by
 refine d9 rfl (fun | .e x y=>x=l/\y=p | .h0 v0 v1 v2 _ _=>(v0=l/\v2=p)/\(0<=v1/\v1<=(l.length:Int))/\sD (l.drop v1.toNat) p=sD l p)
  (fun | .e _ _=>1000 | .h0 _ v1 _ _ _=>((l.length:Int)-v1).toNat) ⟨rfl,rfl⟩ (by show 1000<_;omega) ?_
 rintro(⟨x,y⟩ | ⟨v0,v1,v2,v3,v4⟩) hs
 ·obtain⟨rfl,rfl⟩:=hs;exact⟨⟨⟨rfl,rfl⟩,⟨ahM 0,by omega⟩,rfl⟩,by show((x.length:Int)-0).toNat<1000;omega⟩
 ·obtain⟨⟨rfl,rfl⟩,⟨h1,h2⟩,h3⟩:=hs;simp only[aP,bH,qp,aU];by_cases hi:v1<(v0.length:Int)
  ·have e1:aA (v1+1)=v1+1:=fV (by omega);have hin:gL v0 v1=true:=by unfold gL;rw[dT h1,dT hi];rfl
   rw[dT hi,cond_true,wI,e1,hin];refine⟨h1,hi,?_⟩;have hm:=gM v0 Df.d h1 hi;rw[tL v0 Df.d h1 hi]at h3;generalize v0.getD v1.toNat Df.d=x at hm h3 ⊢;have hx:=h x hm;have f0:fit x.n=true:=Bd hx.jI;have f1:fit (av x.n bW)=true:=Bd (xW hx.jI bW);cases hn:x.name==v2.e0 with
   | true =>
    have:=@Bf x (v0.drop (v1+1).toNat) v2 hn;unfold fH mY at this ⊢;rw[h3]at this;rw[this.1,this.2];unfold bW at f1 ⊢;simp only[f0,f1,aj,cond_true];cases hb:aB x.n [115,101,114,118,105,99,101,115]with
    | false =>rw[xV hb];rfl
    | true=>trivial
   | false =>rw[EU hn]at h3;exact⟨⟨⟨trivial,trivial⟩,⟨by omega,by omega⟩,h3⟩,by show((v0.length:Int)-(v1+1)).toNat<((v0.length:Int)-v1).toNat;omega⟩
  ·rw[yQ v0 (by omega)]at h3;rw[dF hi,cond_false];unfold fH mY;rw[<- h3];rfl
def zh(n:Node)(p:aW):aW×Bool:=bif(bif !(aB n ext)then true else(av n ext).kind != 3)then(p,false)else(⟨bif aB (av n ext) M4 then(av (av n ext) M4).text else p.e0,(av (av n ext) af9).text⟩,true)
theorem WZ{d:Nat}{n:Node}(h:sn (d+3) n)(p:aW):KA n p=some (zh n p):=by
 have f0:fit n=true:=Bd h;have f1:fit (av n ext)=true:=Bd (xW h ext);refine eF rfl ?_;unfold zh ext M4 af9 at *;simp only[aP,bH,Bq,aU,f0,f1,aj];cases(bif !(aB n [101,120,116,101,110,100,115])then true else(av n [101,120,116,101,110,100,115]).kind != 3)with
 | true=>rfl
 | false=>cases aB (av n [101,120,116,101,110,100,115]) [102,105,108,101]<;>rfl
theorem aga{d:Nat}{n:Node}(h:sn (d+3) n)(p:aW):xL n p=some (zh n p):=by
 have f0:fit n=true:=Bd h;have f1:fit (av n ext)=true:=Bd (xW h ext);refine eF rfl ?_;unfold zh ext M4 af9 at *;simp only[aP,bH,qw,aU,f0,f1,aj];cases(bif !(aB n [101,120,116,101,110,100,115])then true else(av n [101,120,116,101,110,100,115]).kind != 3)with
 | true=>rfl
 | false=>cases aB (av n [101,120,116,101,110,100,115]) [102,105,108,101]<;>rfl
theorem ai8{l:List Named}(h:∀x∈l,Fd x.n)(p:aW):sn 7 (fH l p):=by
 induction l with
 | nil=>exact aaF 6
 | cons x r ih =>
  cases hn:x.name==p.e0 with
  | true =>rw[(Bf hn).1];exact xW (xW (h x ab1).jI _) _
  | false =>unfold fH;rw[EU hn];exact ih fun y hy=>h y (aav _ hy)
theorem anO{d:Nat}{n:Node}(h:sn (d+3) n){p:aW}(h0:p.e0.length<=maxLen)(h1:p.e1.length<=maxLen):(zh n p).1.e0.length<=maxLen/\(zh n p).1.e1.length<=maxLen:=by
 have t:∀k,(av (av n ext) k).text.length<=maxLen:=fun k=>acy (xW (xW h ext) k).1.2.2.1 (by decide)
 unfold zh;cases(bif !(aB n ext)then true else(av n ext).kind != 3)with
 | true=>exact⟨h0,h1⟩
 | false =>
  refine⟨?_,t af9⟩;show(bif aB (av n ext) M4 then(av (av n ext) M4).text else p.e0).length<=maxLen;cases aB (av n ext) M4 with
  | true=>exact t M4
  | false=>exact h0
def mZ(l:List aW)(p:aW):Bool:=l.any fun x=>dL x p
theorem zi{x y:aW}:dL x y=true↔x=y:=by obtain⟨a,b⟩:=x;obtain⟨c,d⟩:=y;unfold dL;rw[ach,beq_iff_eq,beq_iff_eq];exact⟨fun h=>by rw[show a=c from h.1,show b=d from h.2],fun h=>by cases h;exact⟨rfl,rfl⟩⟩
theorem anP{l:List aW}{p:aW}:mZ l p=true↔p∈l:=by unfold mZ;rw[List.any_eq_true];exact⟨fun⟨x,h,e⟩=>by rw[<- zi.1 e];exact h,fun h=>⟨p,h,zi.2 rfl⟩⟩
theorem akT(l:List aW)(q p:aW):mZ (l++[q]) p=(bif dL q p then true else mZ l p):=by unfold mZ;rw[List.any_append,alG,List.any_nil,Bool.or_false];cases dL q p<;>simp
def sv(f:Node->Nat)(l:List Named):Nat:=(l.map fun x=>((av x.n bW).kids.map f).sum).sum
theorem adT{P:aW->Bool}(hP:∀a b,P a=true->P b=true->a=b){c:Nat}{g:aW->Nat}:∀(ks:List aW),ks.Nodup->(ks.map fun k=>bif P k then c else g k).sum<=c+(ks.map g).sum
 | [],_=>by simp
 | k::t,h=>by
  obtain⟨h1,h2⟩:=List.nodup_cons.1 h;simp only[acU,ahw];cases e:P k with
  | true =>
   have:t.map (fun k=>bif P k then c else g k)=t.map g:=ado fun x hx=>by
    cases e2:P x with
    | false=>rfl
    | true=>exact absurd (hP _ _ e e2▸hx) h1
   rw[this,cond_true];omega
  | false =>have:=adT hP (c:=c) (g:=g) t h2;rw[cond_false];omega
theorem adU(f:Node->Nat)(nm:alJ):∀(keys:List (alJ)) (kids:List Node) (ks:List aW),ks.Nodup->(ks.map fun p=>bif nm==p.e0 then lc f (lk keys kids p.e1)else 0).sum<=(kids.map f).sum
 | a::t,v::w,ks,h=>by
  have e:(ks.map fun p=>bif nm==p.e0 then lc f (lk (a::t) (v::w) p.e1)else 0)=ks.map fun p=>bif dL ⟨nm,a⟩ p then f v else(bif nm==p.e0 then lc f (lk t w p.e1)else 0):=ado fun p _=>by
   have el:lk (a::t) (v::w) p.e1=if p.e1=a then some v else lk t w p.e1:=rfl
   unfold dL;rw[el];show _=bif(nm==p.e0&&a==p.e1)then _ else _
   cases nm==p.e0 with
   | false=>rfl
   | true =>
    by_cases h:p.e1=a
    ·rw[if_pos h,show(a==p.e1)=true by rw[beq_iff_eq];exact h.symm];rfl
    ·rw[if_neg h,show(a==p.e1)=false by rw[aia];exact fun e=>h e.symm];rfl
  rw[e,acU,ahw];have h1:=adT (P:=fun p=>dL ⟨nm,a⟩ p) (fun x y hx hy=>by rw[<- zi.1 hx,<- zi.1 hy]) (c:=f v) (g:=fun p=>bif nm==p.e0 then lc f (lk t w p.e1)else 0) ks h;have h2:=adU f nm t w ks h;omega
 | [],kids,ks,_=>by
  have e:(ks.map fun p=>bif nm==p.e0 then lc f (lk [] kids p.e1)else 0)=ks.map fun _=>0:=ado fun p _=>by unfold lk;cases nm==p.e0<;>rfl
  rw[e,zV];exact ab8 _
 | a::t,[],ks,_=>by
  have e:(ks.map fun p=>bif nm==p.e0 then lc f (lk (a::t) [] p.e1)else 0)=ks.map fun _=>0:=ado fun p _=>by unfold lk;cases nm==p.e0<;>rfl
  rw[e,zV];exact ab8 _
theorem adV(f:Node->Nat):∀(l:List Named) (ks:List aW),ks.Nodup->(ks.map fun p=>lc f (sD l p)).sum<=sv f l
 | [],ks,_=>by
  have e:(ks.map fun p=>lc f (sD [] p))=ks.map fun _=>0:=rfl
  rw[e,zV];exact ab8 _
 | x::r,ks,h=>by
  have h1:=adU f x.name (av x.n bW).keys (av x.n bW).kids ks h;have h2:=adV f r ks h;have h3:(ks.map fun p=>lc f (sD (x::r) p)).sum<=(ks.map fun p=>bif x.name==p.e0 then lc f (lk (av x.n bW).keys (av x.n bW).kids p.e1)else 0).sum+(ks.map fun p=>lc f (sD r p)).sum:=aaR fun p _=>by
   rw[sD];cases x.name==p.e0 with
   | false=>exact Nat.le_add_left _ _
   | true =>
    rw[cond_true,cond_true];unfold get;split
    ·exact Nat.le_add_right _ _
    ·exact ab8 _
  unfold sv at h2 ⊢;rw[acU,ahw];omega
theorem akU{d:Nat}{x:Node}(k:alJ):((av x k).kids.map (cnt d)).sum<=cnt (d+2) x:=by
 cases g:aB x k with
 | true =>have:=aaO (f:=cnt (d+1)) (iU g);have h1:cnt (d+1) (av x k)=1+((av x k).kids.map (cnt d)).sum:=rfl;have h2:cnt (d+2) x=1+(x.kids.map (cnt (d+1))).sum:=rfl;omega
 | false=>rw[xV g];exact ab8 _
theorem ai9:∀{l:List Named},(∀x∈l,Fd x.n)->sv (cnt 11) l<=2000*l.length
 | [],_=>ab8 _
 | x::r,h=>by
  have h1:=ai9 fun y hy=>h y (aav _ hy)
  have h2:_<=cnt 13 x.n:=akU (d:=11) (x:=x.n) bW;have h3:=(h x ab1).ar7;unfold sv at h1 ⊢;rw[acU,ahw,acj];omega
theorem adW{d:Nat}{x:Node}{k:alJ}(h:nw (d+1) x)(g:aB x k=true):nw d (av x k):=h.2.2 _ (iU g)
theorem apF{l:List Named}(h:∀x∈l,Fd x.n){p:aW}(hb:mY l p=true):nw 11 (fH l p):=by
 induction l with
 | nil=>cases hb
 | cons x r ih =>
  cases hn:x.name==p.e0 with
  | true =>
   rw[(Bf hn).1];rw[(Bf hn).2]at hb;refine adW (d:=11) ?_ hb;cases g:aB x.n bW with
   | true=>exact adW (h x ab1).nw_ g
   | false=>rw[xV g]at hb;cases hb
  | false =>unfold fH;unfold mY at hb;rw[EU hn]at hb ⊢;exact ih (fun y hy=>h y (aav _ hy)) hb
def Kt(l:List Named)(o:List aW):Prop:=o.Nodup/\∀p∈o,mY l p=true
theorem Kt.snoc{l:List Named}{o:List aW}{p:aW}(h:Kt l o)(h1:mZ o p=false)(h2:mY l p=true):Kt l (o++[p]):=by
 refine⟨List.nodup_append.2 ⟨h.1,by simp,fun a ha b hb=>?_⟩,fun q hq=>?_⟩
 ·rw[List.mem_singleton.1 hb];rintro rfl;rw[anP.2 ha]at h1;cases h1
 ·rcases List.mem_append.1 hq with hq | hq
  ·exact h.2 q hq
  ·rw[List.mem_singleton.1 hq];exact h2
theorem Kt.sum{l:List Named}(hl:l.length<=5)(hf:∀x∈l,Fd x.n){o:List aW}(h:Kt l o):((o.map (fH l)).map (cnt 11)).sum<=10000:=by
 have h1:=adV (cnt 11) l o h.1;have h2:=ai9 hf;have e:(o.map (fH l)).map (cnt 11)=o.map fun p=>lc (cnt 11) (sD l p):=by
  rw[List.map_map];refine ado fun p hp=>?_
  have:=h.2 p hp;unfold mY at this;show cnt 11 (fH l p)=_;unfold fH;cases hg:sD l p with
  | none=>rw[hg]at this;cases this
  | some x=>rfl
 rw[e];omega
theorem Kt.nw_{l:List Named}(hf:∀x∈l,Fd x.n){o:List aW}(h:Kt l o):∀y∈o.map (fH l),nw 11 y:=by intro y hy;obtain⟨p,hp,rfl⟩:=List.mem_map.1 hy;exact apF hf (h.2 p hp)
theorem Kt.len{l:List Named}(hl:l.length<=5)(hf:∀x∈l,Fd x.n){o:List aW}(h:Kt l o):o.length<=10000:=by have h1:=h.sum hl hf;have h2:=UK (h.nw_ hf);rw[agU]at h2;omega
def BH(l:List Named):Nat->List aW->List Node->aW->List aW×List Node×Int
 | 0,o,_,_=>(o,[],0)
 | n+1,o,a,p=>bif mZ o p then(o++[p],[],5)else(bif !(mY l p)then(o++[p],[],7)else(bif(zh (fH l p) p).2 then BH l n (o++[p]) (a++[fH l p]) (zh (fH l p) p).1 else(o++[p],a++[fH l p],0)))
theorem aaS{l:List Named}(hl:l.length<=5)(hf:∀x∈l,Fd x.n):∀(m:Nat) (o:List aW) (p:aW),Kt l o->10001<=o.length+m ->
  ∃c q,(BH l m o (o.map (fH l)) p).1=c++[q]/\Kt l c/\((mZ c q=true/\(BH l m o (o.map (fH l)) p).2=([],5))\/(mZ c q=false/\mY l q=false/\(BH l m o (o.map (fH l)) p).2=([],7))\/(mZ c q=false/\mY l q=true/\(BH l m o (o.map (fH l)) p).2=((c++[q]).map (fH l),0)))
 | 0,o,p,h,hm=>by have:=h.len hl hf;omega
 | m+1,o,p,h,hm=>by
  unfold BH;cases h1:mZ o p with
  | true=>exact⟨o,p,rfl,h,.inl ⟨h1,rfl⟩⟩
  | false =>
   cases h2:mY l p with
   | false=>exact⟨o,p,rfl,h,.inr (.inl ⟨h1,h2,rfl⟩)⟩
   | true =>
    cases(zh (fH l p) p).2 with
    | false=>exact⟨o,p,rfl,h,.inr (.inr ⟨h1,h2,by simp⟩)⟩
    | true =>have:=aaS hl hf m (o++[p]) (zh (fH l p) p).1 (h.snoc h1 h2) (by rw[List.length_append,aah];omega);rw[List.map_append]at this;exact this
def mo(l:List Named)(p:aW):List aW×List Node×Int:=BH l 10001 [] [] p
theorem aqy{p:aW}(h0:p.e0.length<=maxLen)(h1:p.e1.length<=maxLen):Ew p=true:=by unfold Ew;rw[dT h0,dT h1];rfl
theorem KQ{l:List Named}(hl:l.length<=5)(hf:∀x∈l,Fd x.n){p:aW}(h0:p.e0.length<=maxLen)(h1:p.e1.length<=maxLen):Bt l p.e0 p.e1=some (mo l p):=by
 refine d9 rfl (fun | .e x y z=>x=l/\y=p.e0/\z=p.e1 | .h0 v0 v1 v2 v3 v4 v5=>v0=l/\v2.length=v1.length/\v1.length<=10000/\(v3=false->(v1,v2,(0:Int))=mo l p)/\(v3=true->Kt l v1/\(v5.e0.length<=maxLen/\v5.e1.length<=maxLen)/\(∀k,mg dL 0 v4 k=bif mZ v1 k then 1 else 0)/\∃m,m+v1.length=10001/\BH l m v1 v2 v5=mo l p))
  (fun | .e _ _ _=>1000000 | .h0 _ v1 _ v3 _ _=>bif v3 then 10002-v1.length else 0) ⟨rfl,rfl,rfl⟩ (by show 1000000<_;omega) ?_
 rintro(⟨x,y,z⟩ | ⟨v0,v1,v2,v3,v4,v5⟩) hs
 ·obtain⟨rfl,rfl,rfl⟩:=hs;exact⟨⟨rfl,rfl,ab8 _,(fun h=>by cases h),fun _=>⟨⟨ahR,fun q hq=>by cases hq⟩,⟨h0,h1⟩,(fun k=>rfl),10001,rfl,rfl⟩⟩,by show 10002-0<1000000;omega⟩
 ·obtain⟨rfl,e2,e3,hn,ht⟩:=hs;simp only[aP,bH,Br,aU,aah];cases v3 with
  | false=>exact hn rfl
  | true =>
   obtain⟨hk,⟨k0,k1⟩,hm,m,m1,m2⟩:=ht rfl;have hm5:=hm v5;have m0:∃m',m=m'+1:=⟨m-1,by omega⟩
   obtain⟨m,rfl⟩:=m0;rw[BH]at m2;rw[cond_true,dT (show(v1.length+1)*32<=aL by rw[mb];omega),aqy k0 k1];simp only[aj];have Rh:mg dL 0 ((v5,aA (mg dL 0 v4 v5+1))::v4) v5=bif mZ v1 v5 then 2 else 1:=by
    rw[mg,show dL v5 v5=true from zi.2 rfl,cond_true,hm5];cases mZ v1 v5 with
    | true=>show aA (1+1)=2;exact fV (by omega)
    | false=>show aA (0+1)=1;exact fV (by omega)
   rw[Rh];cases hi:mZ v1 v5 with
   | true =>rw[hi]at m2;exact m2
   | false =>
    rw[hi,cond_false]at m2;rw[cond_false,show decide ((1:Int)<1)=false from rfl,cond_false,WY hl hf v5];simp only[aF];cases hb:mY v0 v5 with
    | false =>rw[hb]at m2;exact m2
    | true =>
     rw[hb]at m2;have hsn:=ai8 hf v5;rw[acn,cond_false,dT (show(v2.length+1)*72<=aL by rw[mb];omega),aj,WZ (d:=4) hsn v5];simp only[aF];have hk':=hk.snoc hi hb;have hl':=hk'.len hl hf;have e1:(v1++[v5]).length=v1.length+1:=by rw[List.length_append,aah]
     refine⟨⟨trivial,by rw[List.length_append,List.length_append,aah,aah];omega,hl',fun h=>?_,fun h=>⟨hk',anO (d:=4) hsn k0 k1,fun k=>?_,m,by omega,?_⟩⟩,?_⟩
     ·rw[h]at m2;exact m2
     ·rw[mg,akT,hm k];cases hq:dL v5 k with
      | true =>rw[show dL k v5=true from zi.2 (zi.1 hq).symm,cond_true,cond_true,hm5,hi];show aA (0+1)=1;exact fV (by omega)
      | false =>
       have:dL k v5=false:=by
        cases h:dL k v5 with
        | false=>rfl
        | true=>rw[zi.2 (zi.1 h).symm]at hq;cases hq
       rw[this];rfl
     ·rw[h]at m2;exact m2
     ·show(bif(zh (fH v0 v5) v5).2 then 10002-(v1++[v5]).length else 0)<10002-v1.length;cases(zh (fH v0 v5) v5).2 with
      | true=>rw[cond_true];omega
      | false=>rw[cond_false];omega
theorem UO{l:List Named}(hl:l.length<=5)(hf:∀x∈l,Fd x.n){p:aW}(h0:p.e0.length<=maxLen)(h1:p.e1.length<=maxLen):zI l p.e0 p.e1=some (mo l p).1:=by refine eF rfl ?_;simp only[aP,zH];rw[KQ hl hf h0 h1];simp only[aF]
theorem Pg{l:List Named}(hl:l.length<=5)(hf:∀x∈l,Fd x.n)(p:aW):oM l p=some (mo l p).1:=by
 refine d9 rfl (fun | .e x y=>x=l/\y=p | .h0 v0 v1 v2 v3=>v0=l/\v1=v3.length/\Kt l v3/\∃m a,m+v3.length=10001/\BH l m v3 a v2=mo l p | .h1 v0 v1 v2 v3 v4 v5=>v0=l/\v1=v5.length/\Kt l v5/\(∃m a,m+v5.length=10001/\BH l m v5 a v4=mo l p)/\(0<=v3/\v3<=(v1:Int))/\(bif v2 then true else mZ (v5.drop v3.toNat) v4)=mZ v5 v4)
  (fun | .e _ _=>100000000000000 | .h0 _ _ _ v3=>(10002-v3.length)*100000+50000 | .h1 _ v1 _ v3 _ v5=>(10002-v5.length)*100000+((v1:Int)-v3).toNat) ⟨rfl,rfl⟩ (by show 100000000000000<_;omega) ?_
 rintro(⟨x,y⟩ | ⟨v0,v1,v2,v3⟩ | ⟨v0,v1,v2,v3,v4,v5⟩) hs
 ·obtain⟨rfl,rfl⟩:=hs;exact⟨⟨rfl,rfl,⟨ahR,fun q hq=>by cases hq⟩,10001,[],rfl,rfl⟩,by show(10002-0)*100000+50000<100000000000000;omega⟩
 ·obtain⟨rfl,rfl,hk,hm⟩:=hs;have hl':=hk.len hl hf;exact⟨⟨rfl,rfl,hk,hm,⟨ahM 0,by omega⟩,rfl⟩,by show(10002-v3.length)*100000+((v3.length:Int)-0).toNat<(10002-v3.length)*100000+50000;omega⟩
 ·obtain⟨rfl,rfl,hk,⟨m,a,m1,m2⟩,⟨h1,h2⟩,h3⟩:=hs;have hl':=hk.len hl hf;simp only[aP,bH,oK,aU,aah,Bool.and_true];by_cases hi:v3<(v5.length:Int)
  ·have e1:aA (v3+1)=v3+1:=fV (by omega);rw[dT hi,cond_true,dT h1,e1];simp only[acK,aj,cond_true];rw[tL v5 (dflt .dK) h1 hi]at h3;generalize v5.getD v3.toNat (dflt .dK)=z at h3 ⊢;have hq:(z.e0==v4.e0&&z.e1==v4.e1)=dL z v4:=rfl;have hin:mZ (z::v5.drop (v3+1).toNat) v4=(dL z v4||mZ (v5.drop (v3+1).toNat) v4):=rfl;rw[hin]at h3;rw[hq];have hmz:(10002-v5.length)*100000+((v5.length:Int)-(v3+1)).toNat<(10002-v5.length)*100000+((v5.length:Int)-v3).toNat:=by omega
   cases hz:dL z v4 with
   | true =>refine⟨⟨trivial,trivial,hk,⟨m,a,m1,m2⟩,⟨by omega,by omega⟩,?_⟩,hmz⟩;rw[hz]at h3;rw[<- h3];cases v2<;>rfl
   | false =>refine⟨⟨trivial,trivial,hk,⟨m,a,m1,m2⟩,⟨by omega,by omega⟩,?_⟩,hmz⟩;rw[hz,als]at h3;exact h3
  ·have m0:∃m',m=m'+1:=⟨m-1,by omega⟩
   obtain⟨m,rfl⟩:=m0;rw[BH]at m2;rw[yQ v5 (by omega)]at h3;have h3:v2=mZ v5 v4:=by rw[<- h3];cases v2<;>rfl
   subst h3;rw[dF hi,cond_false,dT (show(v5.length+1)*32<=aL by rw[mb];omega),aj,Kg hl hf v4];simp only[aF];cases hi':mZ v5 v4 with
   | true =>rw[hi']at m2;rw[<- m2];rfl
   | false =>
    rw[hi',cond_false]at m2;cases hb:mY v0 v4 with
    | false =>rw[hb]at m2;rw[<- m2];rfl
    | true =>
     rw[hb]at m2;simp only[acn,cond_false];rw[aga (d:=4) (ai8 hf v4) v4];simp only[aF];have hk':=hk.snoc hi' hb;have hl2:=hk'.len hl hf;have e1:(v5++[v4]).length=v5.length+1:=by rw[List.length_append,aah]
     cases hx:(zh (fH v0 v4) v4).2 with
     | false =>rw[hx]at m2;rw[<- m2];rfl
     | true =>rw[hx]at m2;exact⟨⟨trivial,e1.symm,hk',m,_,by omega,m2⟩,by show(10002-(v5++[v4]).length)*100000+50000<(10002-v5.length)*100000+((v5.length:Int)-v3).toNat;omega⟩
def Bg:List Node->Node
 | []=>zn
 | x::r=>bif r.isEmpty then x else iW 13 (Bg r) (nW x ext)
theorem aja{n:Node}(h:nw 11 n):nw 11 (nW n ext)/\cnt 11 (nW n ext)<=cnt 11 n:=anM (d:=10) ext h
theorem aaT:∀{l:List Node},l≠[]->(∀y∈l,nw 11 y)->nw 11 (Bg l)/\cnt 11 (Bg l)<=(l.map (cnt 11)).sum
 | [],h,_=>absurd rfl h
 | [x],_,h=>⟨h x ab1,by show cnt 11 x<=cnt 11 x+0;omega⟩
 | x::y::r,_,h=>by
  obtain⟨h1,h2⟩:=aaT (l:=y::r) (by simp) fun z hz=>h z (aav _ hz)
  obtain⟨h3,h4⟩:=aja (h x ab1);obtain⟨h5,h6⟩:=ai3 (n:=13) (by decide) h1 h3;refine⟨h5,?_⟩;show cnt 11 (iW 13 (Bg (y::r)) (nW x ext))<=_;rw[acU,ahw];omega
theorem aaU(f:Node->Nat):∀(l:List Node) (i:Nat),((l.drop i).map f).sum<=(l.map f).sum
 | l,0=>by rw[agr];exact acM _
 | [],_+1=>acM _
 | a::t,i+1=>by have:=aaU f t i;rw[List.drop_succ_cons,acU,ahw];omega
theorem adX{l:List Node}(h:∀y∈l,nw 11 y)(hs:(l.map (cnt 11)).sum<=10000){i:Int}(h0:0<=i)(hi:i+1<(l.length:Int)) :
  Aj (l.getD i.toNat Df.d) ext=some (nW (l.getD i.toNat Df.d) ext)/\lC (l.getD i.toNat Df.d) ext=some (nW (l.getD i.toNat Df.d) ext) /\
  OX (Bg (l.drop (i+1).toNat)) (nW (l.getD i.toNat Df.d) ext)=some (Bg (l.drop i.toNat))/\yN (Bg (l.drop (i+1).toNat)) (nW (l.getD i.toNat Df.d) ext)=some (Bg (l.drop i.toNat)):=by
 have hm:=gM l Df.d h0 (by omega);have hd:=tL l Df.d h0 (show i<(l.length:Int) by omega);have s1:=aaU (cnt 11) l i.toNat;rw[hd]at s1 ⊢;generalize l.getD i.toNat Df.d=x at hm s1 ⊢;rw[acU,ahw]at s1;have hne:l.drop (i+1).toNat≠[]:=fun e=>by have:=congrArg List.length e;rw[acW,ag4]at this;omega
 obtain⟨h1,h2⟩:=aaT hne fun y hy=>h y (List.mem_of_mem_drop hy)
 have h3:=aja (h x hm);have e:Bg (x::l.drop (i+1).toNat)=iW 13 (Bg (l.drop (i+1).toNat)) (nW x ext):=by
  rw[Bg];cases hb:(l.drop (i+1).toNat).isEmpty with
  | true=>exact absurd (List.isEmpty_iff.1 hb) hne
  | false=>rfl
 have w1:=rz (m:=13) (by decide) (SH (B:=10000) h1 (by omega));have w2:=rz (m:=13) (by decide) (SH (B:=10000) h3.1 (by omega));rw[e];exact⟨abU (d:=10) (h x hm) (show cnt 11 x<=10000 by omega),af8 (d:=10) (h x hm) (show cnt 11 x<=10000 by omega),Pf 13 sH _ _ (by unfold sH;omega) w1 w2,Wp 13 sH _ _ (by unfold sH;omega) w1 w2⟩
def Kh(l:List Named)(p:aW):Node×Int:=bif(mo l p).2.2 != 0 then(zn,(mo l p).2.2)else(Bg (mo l p).2.1,0)
theorem Ki{l:List Named}(hl:l.length<=5)(hf:∀x∈l,Fd x.n)(p:aW):∃c q,(mo l p).1=c++[q]/\Kt l c/\((mZ c q=true/\(mo l p).2=([],5))\/(mZ c q=false/\mY l q=false/\(mo l p).2=([],7))\/(mZ c q=false/\mY l q=true/\(mo l p).2=((c++[q]).map (fH l),0))) :=
 aaS hl hf 10001 [] p ⟨ahR,fun q hq=>by cases hq⟩ (by decide)
theorem UQ{l:List Named}(hl:l.length<=5)(hf:∀x∈l,Fd x.n){c:List aW}{q:aW}(hk:Kt l c)(h1:mZ c q=false)(h2:mY l q=true):(∀y∈(c++[q]).map (fH l),nw 11 y)/\(((c++[q]).map (fH l)).map (cnt 11)).sum<=10000/\(c++[q]).length<=10000 :=
 ⟨(hk.snoc h1 h2).nw_ hf,(hk.snoc h1 h2).sum hl hf,(hk.snoc h1 h2).len hl hf⟩
theorem aaV{l:List Named}(hl:l.length<=5)(hf:∀x∈l,Fd x.n){p:aW}(h0:p.e0.length<=maxLen)(h1:p.e1.length<=maxLen):yM l p.e0 p.e1=some (Kh l p):=by
 obtain⟨c,q,hc,hk,hr⟩:=Ki hl hf p;have hw:=KQ hl hf h0 h1;have ho:Kh l p=bif(mo l p).2.2 != 0 then(zn,(mo l p).2.2)else(Bg (mo l p).2.1,0):=rfl
 generalize mo l p=w at hc hr hw ho;rw[ho];refine d9 rfl (fun | .e x y z=>x=l/\y=p.e0/\z=p.e1 | .h0 v0 v1 _ _ v4=>v0=w.2.1/\w.2.2=0/\(∀y∈v0,nw 11 y)/\(v0.map (cnt 11)).sum<=10000/\(0<v0.length/\v0.length<=10000)/\(-1<=v1/\v1<(v0.length:Int))/\v4=Bg (v0.drop (v1+1).toNat))
  (fun | .e _ _ _=>1000000 | .h0 _ v1 _ _ _=>(v1+1).toNat) ⟨rfl,rfl,rfl⟩ (by show 1000000<_;omega) ?_
 rintro(⟨x,y,z⟩ | ⟨v0,v1,v2,v3,v4⟩) hs
 ·obtain⟨rfl,rfl,rfl⟩:=hs;simp only[aP,bH,yL,hw,aF];rcases hr with⟨_,e⟩ | ⟨_,_,e⟩ | ⟨i1,i2,e⟩
  ·rw[e];rfl
  ·rw[e];rfl
  ·obtain⟨a1,a2,a3⟩:=UQ hl hf hk i1 i2;rw[e];have ll:((c++[q]).map (fH x)).length=c.length+1:=by simp
   have l3:(c++[q]).length=c.length+1:=by simp
   have e1:aA ((((c++[q]).map (fH x)).length:Int)-1)=(c.length:Int):=by rw[ll,fV (by omega)];omega
   simp only[e1];refine⟨⟨trivial,trivial,a1,a2,⟨by omega,by omega⟩,⟨by omega,by omega⟩,?_⟩,by show((c.length:Int)+1).toNat<1000000;omega⟩;rw[List.drop_of_length_le (by omega)];rfl
 ·obtain⟨rfl,e0,a1,a2,⟨a3,a5⟩,⟨b1,b2⟩,rfl⟩:=hs;simp only[aP,bH,yL,aU];by_cases hi:0<=v1
  ·have e1:aA (v1+1)=v1+1:=fV (by omega);have e2:aA (v1-1)=v1-1:=fV (by omega);have e3:v1-1+1=v1:=by omega
   rw[dT hi,cond_true,wI,e1,e2,e3];refine⟨hi,b2,?_⟩;have hm:v1.toNat<(v1+1).toNat:=by omega
   by_cases hx:v1+1=(w.2.1.length:Int)
   ·rw[fP hx,cond_true];refine⟨⟨trivial,e0,a1,a2,⟨a3,a5⟩,⟨by omega,by omega⟩,?_⟩,hm⟩;rw[tL w.2.1 Df.d hi b2,List.drop_of_length_le (by omega)];rfl
   ·obtain⟨m1,_,m3,_⟩:=adX a1 a2 hi (by omega);rw[bZ hx,cond_false,show Aj (w.2.1.getD v1.toNat Df.d) [101,120,116,101,110,100,115]=_ from m1];simp only[aF];rw[m3];exact⟨⟨trivial,e0,a1,a2,⟨a3,a5⟩,⟨by omega,by omega⟩,rfl⟩,hm⟩
  ·have e:(v1+1).toNat=0:=by omega
   rw[dF hi,cond_false,e0,e];rfl
theorem akV(l:List Named)(c:List aW){i:Int}(h0:0<=i)(h:i<(c.length:Int)):fH l (c.getD i.toNat Df.d)=(c.map (fH l)).getD i.toNat Df.d:=by
 have h1:i.toNat<c.length:=by omega
 simp[List.getD,h1]
theorem ajb{l:List Named}(hl:l.length<=5)(hf:∀x∈l,Fd x.n)(p:aW):yP l p=some (Kh l p):=by
 obtain⟨c,q,hc,hk,hr⟩:=Ki hl hf p;have hw:=Pg hl hf p;have ho:Kh l p=bif(mo l p).2.2 != 0 then(zn,(mo l p).2.2)else(Bg (mo l p).2.1,0):=rfl
 generalize mo l p=w at hc hr hw ho;rw[hc]at hw;rw[ho];have hcl:=hk.len hl hf;have l3:(c++[q]).length=c.length+1:=by simp
 have e1:aA (((c++[q]).length:Int)-1)=(c.length:Int):=by rw[l3,fV (by omega)];omega
 have e2:aA (((c++[q]).length:Int)-2)=(c.length:Int)-1:=by rw[l3,fV (by omega)];omega
 have gl:(c++[q]).getD (Int.toNat (c.length:Int)) Df.d=q:=by simp[List.getD]
 refine d9 rfl (fun | .e x y=>x=l/\y=p | .h0 v0 v1 v2 _ _ v5=>(v0=l/\v1=c++[q]/\v5=q)/\(0<=v2/\v2<=(c.length:Int))/\mZ (c.drop v2.toNat) q=mZ c q | .h1 v0 v1 v2 _ _ v5=>(v0=l/\v1=c++[q])/\mZ c q=false/\mY l q=true/\(-1<=v2/\v2<(c.length:Int))/\v5=Bg (((c++[q]).map (fH l)).drop (v2+1).toNat))
  (fun | .e _ _=>1000000 | .h0 _ _ v2 _ _ _=>100000+((c.length:Int)-v2).toNat | .h1 _ _ v2 _ _ _=>(v2+1).toNat) ⟨rfl,rfl⟩ (by show 1000000<_;omega) ?_
 rintro(⟨x,y⟩ | ⟨v0,v1,v2,v3,v4,v5⟩ | ⟨v0,v1,v2,v3,v4,v5⟩) hs
 ·obtain⟨rfl,rfl⟩:=hs;simp only[aP,bH,jD,hw,aF];rw[wI,e1,gl];exact⟨by omega,by omega,⟨⟨trivial,trivial,rfl⟩,⟨ahM 0,by omega⟩,rfl⟩,by show 100000+((c.length:Int)-0).toNat<1000000;omega⟩
 ·obtain⟨⟨rfl,rfl,rfl⟩,⟨h1,h2⟩,h3⟩:=hs;simp only[aP,bH,jD,Bool.and_true];rw[e1,e2];by_cases hi:v2<(c.length:Int)
  ·have e3:aA (v2+1)=v2+1:=fV (by omega);rw[dT hi,cond_true,wI,e3];refine⟨h1,by omega,?_⟩;have hg:(c++[v5]).getD v2.toNat Df.d=c.getD v2.toNat Df.d:=by
    have:v2.toNat<c.length:=by omega
    simp[List.getD,acY this]
   rw[hg];rw[tL c Df.d h1 hi]at h3;generalize c.getD v2.toNat Df.d=z at h3 ⊢;have hq:(z.e0==v5.e0&&z.e1==v5.e1)=dL z v5:=rfl;have hin:mZ (z::c.drop (v2+1).toNat) v5=(dL z v5||mZ (c.drop (v2+1).toNat) v5):=rfl;rw[hin]at h3;rw[hq];cases hz:dL z v5 with
   | true =>
    rw[hz,acR]at h3;rcases hr with⟨_,e⟩ | ⟨i1,_⟩ | ⟨i1,_⟩
    ·rw[e];rfl
    ·rw[i1]at h3;cases h3
    ·rw[i1]at h3;cases h3
   | false =>rw[hz,als]at h3;exact⟨⟨⟨trivial,trivial,trivial⟩,⟨by omega,by omega⟩,h3⟩,by show 100000+((c.length:Int)-(v2+1)).toNat<100000+((c.length:Int)-v2).toNat;omega⟩
  ·have h3:mZ c v5=false:=by
    rw[yQ c (by omega)]at h3;rw[<- h3];rfl
   rw[dF hi,cond_false,Kg hl hf v5];simp only[aF];rcases hr with⟨i1,_⟩ | ⟨_,i2,e⟩ | ⟨_,i2,e⟩
   ·rw[i1]at h3;cases h3
   ·rw[i2,e];rfl
   ·rw[i2];refine⟨⟨⟨trivial,trivial⟩,h3,rfl,⟨by omega,by omega⟩,?_⟩,by show((c.length:Int)-1+1).toNat<100000+_;omega⟩;have e4:((c.length:Int)-1+1).toNat=c.length:=by omega
    rw[e4,List.map_append,List.drop_append_of_le_length (by simp),List.drop_of_length_le (by simp)];rfl
 ·obtain⟨⟨rfl,rfl⟩,i1,i2,⟨b1,b2⟩,rfl⟩:=hs;obtain⟨a1,a2,a3⟩:=UQ hl hf hk i1 i2;have ll:((c++[q]).map (fH v0)).length=c.length+1:=by simp
  have he:w.2=((c++[q]).map (fH v0),0):=by
   rcases hr with⟨j,_⟩ | ⟨_,j,_⟩ | ⟨_,_,e⟩
   ·rw[j]at i1;cases i1
   ·rw[j]at i2;cases i2
   ·exact e
  simp only[aP,bH,jD,aU];by_cases hi:0<=v2
  ·have e3:aA (v2-1)=v2-1:=fV (by omega);have e4:v2-1+1=v2:=by omega
   rw[dT hi,cond_true,wI,e3,e4];refine⟨hi,by omega,?_⟩;obtain⟨_,m2,_,m4⟩:=adX a1 a2 hi (by omega);rw[<- akV v0 (c++[q]) hi (by omega)]at m2 m4;rw[Kg hl hf];simp only[aF];rw[show lC (fH v0 ((c++[q]).getD v2.toNat Df.d)) [101,120,116,101,110,100,115]=_ from m2];simp only[aF];rw[m4];exact⟨⟨⟨trivial,trivial⟩,i1,i2,⟨by omega,by omega⟩,rfl⟩,by omega⟩
  ·have e:(v2+1).toNat=0:=by omega
   rw[dF hi,cond_false,he,e];rfl
def M5(x0:alJ):Te (Node) Empty:=.k ⟨1,x0,[],[]⟩
def aaW(x0:alJ):=(M5 x0).o
def aaX:=JM.f0 14 [.str] [.ah] (fun a=>M5 a) Tryz.func14
def Ph(x0:alJ)(x1:Node):Te (Node) Empty:=.k ⟨3,[],[x0],[ak x1]⟩
def Au(x0:alJ)(x1:Node):=(Ph x0 x1).o
def abV:=aaX.f0 13 [.str,.ah] [.ah] (fun a=>Ph a.1 a.2) Tryz.func13
inductive H6 where
 | e (x0:List Named)
 | h0 (v0:List Named) (v1:List Named) (v2:List Named) (v3:Int)
def uD:H6->Te ((List Named)×(List Named)×Bool) H6
 | .e x0=>.b (aM 5 (aI x0)) (.k ([],[],false)) (.g (.h0 x0 [] [] 0))
 | .h0 v0 v1 v2 v3=>.l (gL v0 v3) fun z1=>.b (aM v3 (aI v0)) (.i v0 v3 fun y1=>.l (ak (y1.n)) fun z2=>.q (Ze z2 200) (.q (z1 || !(!(!(AU z2 200)))) (.b (bN (!(AU z2 200)) (aM 100 (aI (y1.name)))) (.k ([],[],false)) (.q z1 (.c (qo z2) fun y3=>.l (ak (y3.n)) fun z3=>.b (y3.e != 0) (.k ([],[],false)) (.q z1 (.q (decide ((v1.length+([⟨y1.name,z3⟩]:List Named).length)*88<=aL)) (.q z1 (.q (decide ((v2.length+([⟨y1.name,z3⟩]:List Named).length)*88<=aL)) (.g (.h0 v0 (v1++([⟨y1.name,z3⟩]:List Named)) (v2++([⟨y1.name,z3⟩]:List Named)) (aA (v3+1))))))))))))) (.k (v1,v2,true))
def H7(x0:List Named):=mu uD (.e x0)
def UR:=(abV.W 11 Ua akc).fl 4 [.bJ] [.bJ,.cO,.bool] uD (fun a=>.e a) (fun | .e x0=>.e [⟨.bJ,x0⟩] | .h0 v0 v1 v2 v3=>.h 0 ⟨67,[(0,sL .dw v0),(5,.grow .dw v1 0),(6,.grow .eU v2 1),(7,sI v3)],[(0,.tail true),(1,.tail true)],2⟩) { live:=[(0,[0,5,6,7])],qK:=[(0,[(5,none,true,.dw),(6,none,true,.eU)])] } Tryz.func4
def Wq:Te (Bool) Empty:=.c (aaW [97]) fun y1=>.c (Au [115,101,114,118,105,99,101] y1) fun y2=>.c (Au [101,120,116,101,110,100,115] y2) fun y3=>.c (Au [97] y3) fun y4=>.c (Au [115,101,114,118,105,99,101,115] y4) fun y5=>.l (ak y5) fun z2=>.l (zI [⟨[102],z2⟩] [102] [97]) fun z1=>.c (yM [⟨[102],z2⟩] [102] [97]) fun y6=>.c (yM [⟨[102],z2⟩] [102] [98]) fun y7=>.l (aab (y6.2==5) (y7.2==7)) fun z3=>.q ((z1.isSome) || !z3) (.k (aab z3 (aI (gv z1)==2)))
def M6:=(Wq).o
def ajc:=UR.f0 5 [] [.bool] (fun _=>Wq) Tryz.func5
inductive amw where
 | e (x0:List Named) (x1:alJ) (x2:alJ)
 | h0 (v0:List aW) (v1:List aW) (v2:Int)
def XB:amw->Te (Bool) amw
 | .e x0 x1 x2=>.c (H7 x0) fun y1=>.b (!y1.2.2) (.c M6 fun y2=>.k y2) (.c (yM (y1.2.1) x1 x2) fun y3=>.c (yP (y1.1) ⟨x1,x2⟩) fun y4=>.c (zI (y1.2.1) x1 x2) fun y5=>.c (oM (y1.1) ⟨x1,x2⟩) fun y6=>.q ((Gu 1000) (ak (y3.1)) (ak (y4.1))) (.b (bN (bN (!((same 1000) (ak (y3.1)) (ak (y4.1)))) (y3.2 != y4.2)) (aI y5 != aI y6)) (.k false) (.g (.h0 y5 y6 0))))
 | .h0 v0 v1 v2=>.b (aM v2 (aI v0)) (.i v0 v2 fun y1=>.i v1 v2 fun y2=>.b (!((y1.e0==y2.e0)&&((y1.e1==y2.e1)&&true))) (.k false) (.g (.h0 v0 v1 (aA (v2+1))))) (.c M6 fun y3=>.k y3)
def XC(x0:List Named)(x1 x2:alJ):=mu XB (.e x0 x1 x2)
def aqz:=(ajc.W 10 (tu 1000) (ahp 1000)).fl 3 [.bJ,.str,.str] [.bool] XB (fun a=>.e a.1 a.2.1 a.2.2) (fun | .e x0 x1 x2=>.e [⟨.bJ,x0⟩,⟨.str,x1⟩,⟨.str,x2⟩] | .h0 v0 v1 v2=>.h 0 ⟨82,[(14,sL .dK v0),(15,sL .dK v1),(16,sI v2)],[],0⟩) { live:=[(0,[14,15,16])] } Tryz.func3
def amx:jH E:=LH (E:=E) [.bJ,.str,.str] [.bool] fun a=>XC a.1 a.2.1 a.2.2
theorem apG:bM E 3 amx:=aqz.top (by kernel_rfl)
theorem SI{f:Node->Node->Bool}:∀(l:List Node),(∀x∈l,f x x=true)->EC f l l=true
 | [],_=>rfl
 | a::t,h=>by unfold EC;rw[h a ab1,SI t fun x hx=>h x (aav _ hx)];rfl
theorem Ws:∀(n:Nat) (x:Node),dp n x=true->same n x x=true
 | 0,_,h=>by cases h
 | n+1,x,h=>by unfold same;rw[SI x.kids fun y hy=>Ws n y ((Gt.1 h).2 y hy)];simp
theorem Wt{n:Nat}{g:Node->Int->Int}(hg:∀k l,0<=g k l->g k l+cnt n k<=l):∀(ks:List Node) (l:Int),0<=wu g ks l->wu g ks l+((ks.map (cnt n)).sum:Nat)<=l
 | [],l,_=>by simp[wu]
 | k::t,l,h=>by
  unfold wu at h ⊢;by_cases hk:g k l<0
  ·rw[dT hk,cond_true]at h;omega
  ·rw[dF hk,cond_false]at h ⊢;have h1:=Wt hg t (g k l) h;have h3:=hg k l (by omega);rw[acU,ahw];omega
theorem Wu:∀(n:Nat) (x:Node) (d l:Int),0<=leftV n x d l->leftV n x d l+cnt n x<=l
 | 0,_,_,_,h=>by simp[leftV]at h
 | n+1,x,d,l,h=>by
  unfold leftV at h ⊢;cases h1:Fu x d (l-1)with
  | true=>rw[h1,cond_true]at h;omega
  | false =>
   cases h2:Jy x with
   | true=>rw[h1,h2,cond_false,cond_true]at h;omega
   | false =>
    cases h3:Jz x (l-1)with
    | true=>rw[h1,h2,h3,cond_false,cond_false,cond_true]at h;omega
    | false =>rw[h1,h2,h3,cond_false,cond_false,cond_false]at h;simp only[cond_false];have h4:=Wt (fun k l h=>Wu n k (d+1) l h) x.kids (l-1) h;unfold cnt;omega
theorem ajd{x:Node}(h:lV x=true):cnt 13 x<=2000:=by have h0:0<=leftV 13 x 1 2000:=of_decide_eq_true h;have:=Wu 13 x 1 2000 h0;omega
theorem UU:∀{d m:Nat} {x:Node},sn d x->d<=m->nw d (aC m x)
 | 0,_,_,h,_=>h.elim
 | d+1,0,_,_,hm=>by omega
 | d+1,m+1,x,h,hm=>by
  unfold aC;by_cases h3:x.kind=3
  ·rw[fP h3,cond_true];refine⟨fun _=>⟨(agU _).symm,iw (Pl.qM _).1,h.2.1.2.1 (by omega)⟩,(fun e=>absurd h3 e),fun y hy=>?_⟩;obtain⟨k,hk,rfl⟩:=List.mem_map.1 hy;have g:=UJ (h.1.2.1 h3) h3 (Pl.ig.1 hk);exact UU (h.2.2 _ (iU g)) (by omega)
  ·rw[bZ h3,cond_false];refine⟨(fun e=>absurd e h3),fun _=>rfl,fun y hy=>?_⟩;obtain⟨z,hz,rfl⟩:=List.mem_map.1 hy;exact UU (h.2.2 _ hz) (by omega)
theorem amy:∀{d:Nat} {x:Node} (e:Nat),nw d x->nw (d+e) x
 | 0,_,_,h=>h.elim
 | d+1,x,e,h=>by rw[Nat.add_right_comm];exact⟨h.1,h.2.1,fun y hy=>amy e (h.2.2 y hy)⟩
theorem amA{P:alJ->Node->Prop}:∀{ks:List (alJ)} {vs:List Node} {k:alJ} {y:Node},Fa P ks vs->lk ks vs k=some y->P k y
 | a::t,v::w,k,y,h,e=>by
  have el:lk (a::t) (v::w) k=if k=a then some v else lk t w k:=rfl
  rw[el]at e;by_cases hk:k=a
  ·rw[if_pos hk]at e;cases e;rw[hk];exact h.1
  ·rw[if_neg hk]at e;exact amA h.2 e
 | [],_,_,_,_,e=>by cases e
 | _::_,[],_,_,_,e=>by cases e
theorem Sl.fd{a:Node}(h:Sl a):Fd a:=by
 have hr:lV a=true:=by
  have h1:=h.again;unfold ZN at h1;rw[h.fe]at h1;cases hb:lV a with
  | true=>rfl
  | false =>rw[hb]at h1;exact absurd (congrArg (fun p:Node×alJ×Int=>p.2.2) h1) (show ¬ (9:Int)=0 by decide)
 refine⟨?_,ajd hr,h.jI,by rw[h.kind];decide,?_⟩
 ·have:=UU (m:=15) h.jI (by decide);rw[h.SG]at this;exact amy 4 this
 ·unfold av get;rw[if_pos h.kind];cases hg:lk a.keys a.kids bW with
  | none=>decide
  | some y =>have hf:=(amA h.all hg).e;show y.kind≠2;intro e2;have:vV bW y=MB y:=rfl;rw[this]at hf;unfold MB at hf;rw[fZ (show y.kind≠3 by omega),cond_true]at hf;cases hf
theorem Wv:M6=some true:=by kernel_rfl
theorem akW(l:List Named):∃r,H7 l=some r/\(r.2.2=true->r.2.1=r.1/\r.1.length<=5/\∀x∈r.1,Fd x.n):=by
 refine come (fun r:List Named×List Named×Bool=>r.2.2=true->r.2.1=r.1/\r.1.length<=5/\∀x∈r.1,Fd x.n) rfl (fun | .e y=>y=l | .h0 v0 v1 v2 v3=>v0=l/\l.length<=5/\(0<=v3/\v3<=(l.length:Int))/\v2=v1/\(v1.length:Int)=v3/\∀x∈v1,Fd x.n)
  (fun | .e _=>1000 | .h0 _ _ _ v3=>((l.length:Int)-v3).toNat) rfl (by show 1000<_;omega) ?_
 rintro(y | ⟨v0,v1,v2,v3⟩) hs
 ·cases hs;simp only[aP,bH,uD];by_cases h5:(5:Int)<(l.length:Int)
  ·rw[dT h5,cond_true];exact fun h=>by cases h
  ·rw[dF h5,cond_false];exact⟨⟨trivial,by omega,⟨by decide,by omega⟩,trivial,rfl,fun x hx=>by cases hx⟩,by show((l.length:Int)-0).toNat<_;omega⟩
 ·obtain⟨rfl,hl,⟨h1,h2⟩,hv,h4,h5⟩:=hs;subst hv;simp only[aP,bH,uD,aU,aah];by_cases hi:v3<(v0.length:Int)
  ·have e1:aA (v3+1)=v3+1:=fV (by omega);have hin:gL v0 v3=true:=by unfold gL;rw[dT h1,dT hi];rfl
   rw[dT hi,cond_true,wI,e1,hin];refine⟨h1,hi,?_⟩;generalize v0.getD v3.toNat Df.d=x;rw[show Ze x.n (200:Int)=true from rfl];simp only[aj,acR];cases h : !(AU x.n (200:Int))with
   | true=>exact fun h=>by cases h
   | false =>
    simp only[cond_false];by_cases hn:(100:Int)<(x.name.length:Int)
    ·rw[dT hn,cond_true];exact fun h=>by cases h
    ·have hx:si 12 x.n:=amk (B:=200) (by decide) (akQ (B:=200) (m:=200) (by decide) (by simpa using h));have hl2:=(akO (e:=5) hx (by decide)).2.1;rw[dF hn,cond_false,akR hx];simp only[aF];generalize q9 x.n=s at hl2 ⊢;by_cases he:s.e=0
     ·rw[iE he,cond_false,dT (show(v2.length+1)*88<=aL by rw[mb];omega)];refine⟨⟨trivial,hl,⟨by omega,by omega⟩,trivial,by rw[List.length_append,aah];omega,fun z hz=>?_⟩,by omega⟩;rcases List.mem_append.1 hz with hz | hz
      ·exact h5 z hz
      ·rw[List.mem_singleton.1 hz];exact(hl2 he).fd
     ·rw[fZ he,cond_true];exact fun h=>by cases h
  ·rw[dF hi,cond_false];exact fun _=>⟨trivial,by omega,h5⟩
theorem UW{d:Nat}{x:Node}(hd:d<=1000)(h:wg 10000 d x=true):Gu 1000 x x=true/\same 1000 x x=true:=by have:=Xt (by decide) (rz hd h);exact⟨by simp only[Gu,this,acK],Ws 1000 x this⟩
theorem akX{l:List Named}(hl:l.length<=5)(hf:∀x∈l,Fd x.n)(p:aW):Gu 1000 (Kh l p).1 (Kh l p).1=true/\same 1000 (Kh l p).1 (Kh l p).1=true:=by
 obtain⟨c,q,hc,hk,hr⟩:=Ki hl hf p;unfold Kh;rcases hr with⟨_,e⟩ | ⟨_,_,e⟩ | ⟨i1,i2,e⟩
 ·rw[e];exact UW (d:=1) (by decide) rfl
 ·rw[e];exact UW (d:=1) (by decide) rfl
 ·obtain⟨a1,a2,a3⟩:=UQ hl hf hk i1 i2;obtain⟨h1,h2⟩:=aaT (l:=(c++[q]).map (fH l)) (by simp) a1;rw[e];exact UW (d:=11) (by decide) (SH h1 (by show cnt 11 (Bg ((c++[q]).map (fH l)))<=10000;omega))
theorem aqA(l:List Named){f s:alJ}(h0:f.length<=maxLen)(h1:s.length<=maxLen):XC l f s=some true:=by
 obtain⟨r,hr,hq⟩:=akW l;refine d9 rfl (fun | .e x y z=>x=l/\y=f/\z=s | .h0 v0 v1 v2=>v1=v0/\v0.length<=20000/\0<=v2/\v2<=(v0.length:Int)) (fun | .e _ _ _=>10000000000 | .h0 v0 _ v2=>((v0.length:Int)-v2).toNat) ⟨rfl,rfl,rfl⟩ (by show 10000000000<_;omega) ?_;rintro(⟨x,y,z⟩ | ⟨v0,v1,v2⟩) hs
 ·obtain⟨rfl,rfl,rfl⟩:=hs;simp only[aP,bH,XB,Wv,aU,hr,aF];cases hb:r.2.2 with
  | false=>trivial
  | true =>
   obtain⟨q1,q2,q3⟩:=hq hb;obtain⟨c,q,hc,hk,_⟩:=Ki q2 q3 ⟨y,z⟩;have hcl:=hk.len q2 q3;have hs:=akX q2 q3 ⟨y,z⟩;rw[q1,aaV (p:=⟨y,z⟩) q2 q3 h0 h1,ajb q2 q3 ⟨y,z⟩,UO (p:=⟨y,z⟩) q2 q3 h0 h1,Pg q2 q3 ⟨y,z⟩];simp only[aF,hs.1,hs.2,aj,acn,cond_false,bne_self_eq_false];have hl:(mo r.1 ⟨y,z⟩).1.length<=20000:=by rw[hc];simp;omega
   exact⟨⟨trivial,hl,ahM 0,by omega⟩,by show(((mo r.1 ⟨y,z⟩).1.length:Int)-0).toNat<10000000000;omega⟩
 ·obtain⟨rfl,hl,h2,h3⟩:=hs;simp only[aP,bH,XB,Wv,aF,Bool.and_true];by_cases hi:v2<(v1.length:Int)
  ·have e1:aA (v2+1)=v2+1:=fV (by omega);rw[dT hi,cond_true,wI,wI,e1];refine⟨h2,hi,h2,hi,?_⟩;simp only[beq_self_eq_true,acK,acn,cond_false];exact⟨⟨trivial,hl,by omega,by omega⟩,by omega⟩
  ·rw[dF hi,cond_false];trivial
end Go.Proofs.YtibpdjmikfmmaaaGreat.Rf
namespace Go.Proofs.YtibpdjmikfmmaaaGreat.bB
open Go Go.RowKit Go.Deep
def below(w:World):Nat->Nat->Prop:=fun k _=>k<w.heap.size
section
variable {P:Program} {E:Env P}
def Opens(E:Env P)(T:TypeId)(R:List (bE E.Den)->Prop):Prop :=
 ∀{H:Type} (enc:TypeId×Value->H) (w:World) (base:Nat) (spare:Nat->Bool) (held:Bool) (fuel:Nat) (cs:List Value) (x:DataW H×List MemPlace),DataW.trod enc P w base spare held fuel T cs=some x ->
  ∃ds,R ds/\cs.length=ds.length/\∀(j:Nat) v d,cs[j]? = some v->ds[j]? = some d->cu E w (below w) v d
def Bh(E:Env P)(t:E.Ty):Prop:=Opens E (E.tid t) fun ds=>∃x,ds=E.cells t x
theorem one_cell{w:World}{v:Value}{d:bE E.Den}(h:cu E w (below w) v d):∀(j:Nat) u e,[v][j]? = some u->[d][j]? = some e->cu E w (below w) u e:=by
 intro j u e hu he;cases j with
 | zero=>simp at hu he;subst hu;subst he;exact h
 | succ j=>simp at hu
theorem aje{T:TypeId}{k:IntKind}(hT:P.underlying T=some (.int k)):Opens E T fun ds=>∃n,ds=[.int k n]:=by intro H enc w base spare held fuel cs x h;obtain⟨n,rfl,_,_⟩:=DataW.trod_int hT h;exact⟨[.int k n],⟨n,rfl⟩,rfl,one_cell (.int k n)⟩
theorem ajf{T:TypeId}(hT:P.underlying T=some .string):Opens E T fun ds=>∃s:alJ,ds=[.str s]/\s.length<=maxLen:=by intro H enc w base spare held fuel cs x h;obtain⟨s,rfl,_,hs⟩:=DataW.trod_string hT h;refine⟨[.str s.data.toList],⟨_,rfl,by rw[agS];exact hs⟩,rfl,one_cell ?_⟩;have:=cu.str (E:=E) (w:=w) (ro:=below w) s.data.toList;simpa using this
theorem adY{w:World}{a:Addr}{u:Value}(h:w.cell? a=some u):a.block<w.heap.size:=by
 rcases ahx a.block w.heap.size with hl | hl
 ·exact hl
 ·unfold World.cell? at h;rw[Array.getElem?_eq_none hl]at h;cases h
theorem Pj{T:TypeId}{t:E.Ty}(hT:P.underlying T=some (.slice (E.tid t)))(ht:Bh E t)(hC:P.cellsOf (E.tid t)=E.size t):Opens E T fun ds=>∃l,ds=[.slice t l]:=by
 intro H enc w base spare held fuel cs x h;rcases open_slice hT h with⟨rfl,_⟩ | ⟨a,len,cap,m,n,D,Pl,rfl,hb,hl,hm,hmm,hx,hi⟩
 ·exact⟨[.slice t []],⟨[],rfl⟩,rfl,one_cell (.nil t none 0)⟩
 ·have hle:len<=m:=by rw[hmm];split<;>omega
  have hpos:=E.size_pos t;have key:∀i,i<len->∃x:E.Den t, ∀(j:Nat) c,(E.cells t x)[j]? = some c->∃u,w.cell? (a.add (i*E.size t+j))=some u/\cu E w (below w) u c:=by
   intro i hil;obtain⟨cs',hc,htr⟩:=hi i (by omega);rw[hC]at hc;obtain⟨ds,⟨y,rfl⟩,hlen,hd⟩:=ht enc w base spare held n cs' _ htr;obtain⟨_,hcl,hat⟩:=World.cells?_some hc;refine⟨y,fun j c hj=>?_⟩;have hjl:j<E.size t:=by rw[<- E.fA t y];exact(List.getElem?_eq_some_iff.1 hj).1
   have hcj:=hat j hjl;have hv:cs'[j]? = some (cs'[j]'(by omega)):=aae (by omega);refine⟨_,?_,hd j _ c hv hj⟩;rw[<- Go.Deep.add_add,hcj,hv]
  let pick:Nat->E.Den t:=fun i=>if hil:i<len then Classical.choose (key i hil)else E.dflt t
  have hpick:∀i,i<len->∀(j:Nat) c,(E.cells t (pick i))[j]? = some c->∃u,w.cell? (a.add (i*E.size t+j))=some u/\cu E w (below w) u c:=by intro i hil;have:=Classical.choose_spec (key i hil);simpa only [pick,dif_pos hil]using this
  refine⟨[.slice t ((List.range len).map pick)],⟨_,rfl⟩,rfl,one_cell ?_⟩;by_cases h0:len=0
  ·subst h0;exact .nil t _ _
  ·obtain⟨g,off,spot⟩:=a;have hsp:spot=none:=by
    have hc0:0<(E.cells t (pick 0)).length:=by rw[E.fA];exact hpos
    obtain⟨u,hu,_⟩:=hpick 0 (by omega) 0 _ (aae hc0);have:=World.cell?_spot hu;unfold Addr.add at this;split at this
    ·simpa using this
    ·rename_i hne;exact absurd (by simp) hne
   subst hsp;have hlen:((List.range len).map pick).length=len:=by simp
   have at_:∀i x j c,((List.range len).map pick)[i]? = some x->(E.cells t x)[j]? = some c->∃u,w.cell? ⟨g,off+i*E.size t+j,none⟩=some u/\cu E w (below w) u c:=by
    intro i x j c hix hj;have hil:i<len:=by have:=(List.getElem?_eq_some_iff.1 hix).1;simpa using this
    have hx':x=pick i:=by simp[hil]at hix;exact hix.symm
    subst hx';obtain⟨u,hu,hd⟩:=hpick i hil j c hj;rw[show(⟨g,off,none⟩:Addr).add (i*E.size t+j)=⟨g,off+(i*E.size t+j),none⟩from by unfold Addr.add;split<;>simp_all]at hu;rw[<- alh]at hu;exact⟨u,hu,hd⟩
   have:=cu.slice (E:=E) (w:=w) (ro:=below w) t ((List.range len).map pick) g off cap (fun i j=>(w.cell? ⟨g,off+i*E.size t+j,none⟩).getD undef) (by rw[hlen];exact hl)
    (fun i x j c hix hj=>by obtain⟨u,hu,_⟩:=at_ i x j c hix hj;exact⟨adY hu,by rw[hu];rfl⟩)
    (fun i x j c hix hj=>by obtain⟨u,hu,hd⟩:=at_ i x j c hix hj;simp only[hu,Option.getD_some];exact hd)
   rw[hlen]at this;exact this
def RAll:List (List (bE E.Den)->Prop)->List (bE E.Den)->Prop
 | [],ds=>ds=[]
 | R::Rs,ds=>∃a b,R a/\ds=a++b/\RAll Rs b
def aaY(E:Env P)(n:Nat):Nat->List Field->List (List (bE E.Den)->Prop)->Prop
 | off,[],[]=>off=n
 | off,f::fs,R::Rs=>f.offset=off/\Opens E f.type R/\aaY E n (off+P.cellsOf f.type) fs Rs
 | _,_,_=>False
theorem M7{H:Type}{enc:TypeId×Value->H}{w:World}{base:Nat}{spare:Nat->Bool}{held:Bool}{n fuel:Nat}{cs:List Value}(hn:cs.length=n):∀(fl:List Field) (Rs:List (List (bE E.Den)->Prop)) (off:Nat),aaY E n off fl Rs ->
  (∀f∈fl, ∃y,DataW.trod enc P w base spare held fuel f.type ((cs.drop f.offset).take (P.cellsOf f.type))=some y) ->
  ∃ds,RAll Rs ds/\(cs.drop off).length=ds.length/\∀(j:Nat) v d,(cs.drop off)[j]? = some v->ds[j]? = some d->cu E w (below w) v d
 | [],[],off,h,_=>by have h:off=n:=h;subst h;exact⟨[],rfl,by simp[hn],fun j v d _ hd=>by simp at hd⟩
 | f::fl,R::Rs,off,h,hf=>by
  obtain⟨ho,hR,hrest⟩:=h;subst ho;obtain⟨y,hy⟩:=hf f ab1;obtain⟨d1,hR1,hl1,hd1⟩:=hR enc w base spare held fuel _ _ hy;obtain⟨d2,hR2,hl2,hd2⟩:=M7 hn fl Rs _ hrest fun g hg=>hf g (aav _ hg)
  rw[<- alv]at hl2 hd2;generalize hA:(cs.drop f.offset).take (P.cellsOf f.type)=A at *;generalize hB:(cs.drop f.offset).drop (P.cellsOf f.type)=B at *;have hsplit:cs.drop f.offset=A++B:=by rw[<- hA,<- hB,ag5]
  refine⟨d1++d2,⟨d1,d2,hR1,rfl,hR2⟩,by rw[hsplit,List.length_append,List.length_append,hl1,hl2],fun j v d hv hd=>?_⟩;rw[hsplit]at hv;rcases ahx j d1.length with hj | hj
  ·rw[acY (by omega)]at hv;rw[acY hj]at hd;exact hd1 j v d hv hd
  ·rw[acT (by omega),hl1]at hv;rw[acT hj]at hd;exact hd2 _ v d hv hd
 | [],_::_,_,h,_=>h.elim
 | _::_,[],_,h,_=>h.elim
theorem aaZ{T:TypeId}{fs:Array Field}{Rs:List (List (bE E.Den)->Prop)}(hT:P.underlying T=some (.struct fs))(hF:aaY E (P.cellsOf T) 0 fs.toList Rs):Opens E T (RAll Rs):=by
 intro H enc w base spare held fuel cs x h;obtain⟨xs,n,rfl,rfl,hl,hlen,hf⟩:=DataW.trod_struct hT h;obtain⟨ds,h1,h2,h3⟩:=M7 (enc:=enc) (w:=w) (base:=base) (spare:=spare) (held:=held) (fuel:=n) hl fs.toList Rs 0 hF (fun f hf'=>by
  obtain⟨i,hi⟩:=ahZ hf';have hi':fs[i]? = some f:=by simpa using hi
  have hlt:i<xs.length:=by rw[hlen];exact(Array.getElem?_eq_some_iff.1 hi').1
  exact⟨xs[i],by rw[hf i f hi',aae hlt]⟩)
 exact⟨ds,h1,by simpa using h2,by simpa using h3⟩
theorem Opens.mono{T:TypeId}{R R':List (bE E.Den)->Prop}(h:Opens E T R)(hR:∀ds,R ds->R' ds):Opens E T R':=by intro H enc w base spare held fuel cs x hx;obtain⟨ds,h1,h2⟩:=h enc w base spare held fuel cs x hx;exact⟨ds,hR ds h1,h2⟩
theorem UY{H:Type}{enc:TypeId×Value->H}{w:World}{base:Nat}{spare:Nat->Bool}{held:Bool}{t:E.Ty}(ho:Bh E t){v:Value}{d:DataW H}{p:List MemPlace}(hsh:(E.agg t=true/\∃vs,v = .agg vs)\/(E.agg t=false/\v.cells = #[v]))
  (h:DataW.Trod enc P w base spare held (E.tid t) v d p):∃x,jQ E w (below w) v t x:=by
 obtain⟨fuel,h⟩:=h;obtain⟨ds,⟨x,rfl⟩,hl,hd⟩:=ho enc w base spare held fuel _ _ h;refine⟨x,?_⟩;rcases hsh with⟨ha,vs,rfl⟩ | ⟨ha,hv⟩
 ·exact .inl ⟨ha,vs,rfl,by simpa[Value.cells]using hl,fun j u e hu he=>hd j u e (by simpa[Value.cells]using hu) he⟩
 ·rw[hv]at hl hd;obtain⟨c,hc⟩:=Kj ((E.fA t x).trans (E.one t ha));refine .inr ⟨ha,c,hc,hd 0 v c rfl (by rw[hc];rfl)⟩
end
end Go.Proofs.YtibpdjmikfmmaaaGreat.bB
namespace Go.Proofs.YtibpdjmikfmmaaaGreat.bB
open Go Go.RowKit Go.Deep
section
variable {P:Program} {E:Env P}
def rM(E:Env P)(b:Nat)(T:TypeId)(R:List (bE E.Den)->Prop):Prop :=
 ∀{H:Type} (enc:TypeId×Value->H) (w:World) (base:Nat) (spare:Nat->Bool) (held:Bool) (fuel:Nat) (cs:List Value) (x:DataW H×List MemPlace),fuel<b->DataW.trod enc P w base spare held fuel T cs=some x ->
  ∃ds,R ds/\cs.length=ds.length/\∀(j:Nat) v d,cs[j]? = some v->ds[j]? = some d->cu E w (below w) v d
theorem agb{T:TypeId}{R:List (bE E.Den)->Prop}(h:∀b,rM E b T R):Opens E T R:=fun enc w base spare held fuel cs x hx=>h (fuel+1) enc w base spare held fuel cs x (Nat.lt_succ_self _) hx
theorem M8{b:Nat}{T:TypeId}{R:List (bE E.Den)->Prop}(h:Opens E T R):rM E b T R:=fun enc w base spare held fuel cs x _ hx=>h enc w base spare held fuel cs x hx
theorem abW{T:TypeId}{R:List (bE E.Den)->Prop}:rM E 0 T R:=fun _ _ _ _ _ _ _ _ hx _=>absurd hx (Nat.not_lt_zero _)
theorem rM.mono{b:Nat}{T:TypeId}{R R':List (bE E.Den)->Prop}(h:rM E b T R)(hR:∀ds,R ds->R' ds):rM E b T R':=fun enc w base spare held fuel cs x hfb hx=>by obtain⟨ds,h1,h2⟩:=h enc w base spare held fuel cs x hfb hx;exact⟨ds,hR ds h1,h2⟩
theorem aa0{b:Nat}{T:TypeId}{t:E.Ty}(hT:P.underlying T=some (.slice (E.tid t)))(ht:rM E b (E.tid t) fun ds=>∃x,ds=E.cells t x)(hC:P.cellsOf (E.tid t)=E.size t):rM E b T fun ds=>∃l,ds=[.slice t l]:=by
 intro H enc w base spare held fuel cs x hfb h;rcases DataW.trod_slice hT h with⟨rfl,_⟩ | ⟨a,len,cap,elems,rest,n,hfu,rfl,hx,hb,hl,hm,as0,hel,_,_⟩
 ·exact⟨[.slice t []],⟨[],rfl⟩,rfl,one_cell (.nil t none 0)⟩
 ·have hpos:=E.size_pos t;have key:∀i,i<len->∃x:E.Den t, ∀(j:Nat) c,(E.cells t x)[j]? = some c->∃u,w.cell? (a.add (i*E.size t+j))=some u/\cu E w (below w) u c:=by
   intro i hil;have Rl:=hel i hil;rw[aae (show i<elems.length by omega)]at Rl;obtain⟨cs',hc,htr⟩:=Option.bind_eq_some_iff.1 Rl;rw[hC]at hc;obtain⟨ds,⟨y,rfl⟩,hlen,hd⟩:=ht enc w base spare held n cs' _ (by omega) htr;obtain⟨_,hcl,hat⟩:=World.cells?_some hc;refine⟨y,fun j c hj=>?_⟩;have hjl:j<E.size t:=by rw[<- E.fA t y];exact(List.getElem?_eq_some_iff.1 hj).1
   have hcj:=hat j hjl;have hv:cs'[j]? = some (cs'[j]'(by omega)):=aae (by omega);refine⟨_,?_,hd j _ c hv hj⟩;rw[<- Go.Deep.add_add,hcj,hv]
  let pick:Nat->E.Den t:=fun i=>if hil:i<len then Classical.choose (key i hil)else E.dflt t
  have hpick:∀i,i<len->∀(j:Nat) c,(E.cells t (pick i))[j]? = some c->∃u,w.cell? (a.add (i*E.size t+j))=some u/\cu E w (below w) u c:=by intro i hil;have:=Classical.choose_spec (key i hil);simpa only [pick,dif_pos hil]using this
  refine⟨[.slice t ((List.range len).map pick)],⟨_,rfl⟩,rfl,one_cell ?_⟩;by_cases h0:len=0
  ·subst h0;exact .nil t _ _
  ·obtain⟨g,off,spot⟩:=a;have hsp:spot=none:=by
    have hc0:0<(E.cells t (pick 0)).length:=by rw[E.fA];exact hpos
    obtain⟨u,hu,_⟩:=hpick 0 (by omega) 0 _ (aae hc0);have:=World.cell?_spot hu;unfold Addr.add at this;split at this
    ·simpa using this
    ·rename_i hne;exact absurd (by simp) hne
   subst hsp;have hlen:((List.range len).map pick).length=len:=by simp
   have at_:∀i x j c,((List.range len).map pick)[i]? = some x->(E.cells t x)[j]? = some c->∃u,w.cell? ⟨g,off+i*E.size t+j,none⟩=some u/\cu E w (below w) u c:=by
    intro i x j c hix hj;have hil:i<len:=by have:=(List.getElem?_eq_some_iff.1 hix).1;simpa using this
    have hx':x=pick i:=by simp[hil]at hix;exact hix.symm
    subst hx';obtain⟨u,hu,hd⟩:=hpick i hil j c hj;rw[show(⟨g,off,none⟩:Addr).add (i*E.size t+j)=⟨g,off+(i*E.size t+j),none⟩from by unfold Addr.add;split<;>simp_all]at hu;rw[<- alh]at hu;exact⟨u,hu,hd⟩
   have:=cu.slice (E:=E) (w:=w) (ro:=below w) t ((List.range len).map pick) g off cap (fun i j=>(w.cell? ⟨g,off+i*E.size t+j,none⟩).getD undef) (by rw[hlen];exact hl)
    (fun i x j c hix hj=>by obtain⟨u,hu,_⟩:=at_ i x j c hix hj;exact⟨adY hu,by rw[hu];rfl⟩)
    (fun i x j c hix hj=>by obtain⟨u,hu,hd⟩:=at_ i x j c hix hj;simp only[hu,Option.getD_some];exact hd)
   rw[hlen]at this;exact this
def UZ(E:Env P)(b n:Nat):Nat->List Field->List (List (bE E.Den)->Prop)->Prop
 | off,[],[]=>off=n
 | off,f::fs,R::Rs=>f.offset=off/\rM E b f.type R/\UZ E b n (off+P.cellsOf f.type) fs Rs
 | _,_,_=>False
theorem KR{H:Type}{enc:TypeId×Value->H}{w:World}{base:Nat}{spare:Nat->Bool}{held:Bool}{b n fuel:Nat}{cs:List Value}(hfb:fuel<b)(hn:cs.length=n):∀(fl:List Field) (Rs:List (List (bE E.Den)->Prop)) (off:Nat),UZ E b n off fl Rs ->
  (∀f∈fl, ∃y,DataW.trod enc P w base spare held fuel f.type ((cs.drop f.offset).take (P.cellsOf f.type))=some y) ->
  ∃ds,RAll Rs ds/\(cs.drop off).length=ds.length/\∀(j:Nat) v d,(cs.drop off)[j]? = some v->ds[j]? = some d->cu E w (below w) v d
 | [],[],off,h,_=>by have h:off=n:=h;subst h;exact⟨[],rfl,by simp[hn],fun j v d _ hd=>by simp at hd⟩
 | f::fl,R::Rs,off,h,hf=>by
  obtain⟨ho,hR,hrest⟩:=h;subst ho;obtain⟨y,hy⟩:=hf f ab1;obtain⟨d1,hR1,hl1,hd1⟩:=hR enc w base spare held fuel _ _ hfb hy;obtain⟨d2,hR2,hl2,hd2⟩:=KR hfb hn fl Rs _ hrest fun g hg=>hf g (aav _ hg)
  rw[<- alv]at hl2 hd2;generalize hA:(cs.drop f.offset).take (P.cellsOf f.type)=A at *;generalize hB:(cs.drop f.offset).drop (P.cellsOf f.type)=B at *;have hsplit:cs.drop f.offset=A++B:=by rw[<- hA,<- hB,ag5]
  refine⟨d1++d2,⟨d1,d2,hR1,rfl,hR2⟩,by rw[hsplit,List.length_append,List.length_append,hl1,hl2],fun j v d hv hd=>?_⟩;rw[hsplit]at hv;rcases ahx j d1.length with hj | hj
  ·rw[acY (by omega)]at hv;rw[acY hj]at hd;exact hd1 j v d hv hd
  ·rw[acT (by omega),hl1]at hv;rw[acT hj]at hd;exact hd2 _ v d hv hd
 | [],_::_,_,h,_=>h.elim
 | _::_,[],_,h,_=>h.elim
theorem W9{b:Nat}{T:TypeId}{fs:Array Field}{Rs:List (List (bE E.Den)->Prop)}(hT:P.underlying T=some (.struct fs))(hF:UZ E b (P.cellsOf T) 0 fs.toList Rs):rM E (b+1) T (RAll Rs):=by
 intro H enc w base spare held fuel cs x hfb h;obtain⟨xs,n,rfl,rfl,hl,hlen,hf⟩:=DataW.trod_struct hT h;obtain⟨ds,h1,h2,h3⟩:=KR (enc:=enc) (w:=w) (base:=base) (spare:=spare) (held:=held) (fuel:=n) (by omega) hl fs.toList Rs 0 hF (fun f hf'=>by
  obtain⟨i,hi⟩:=ahZ hf';have hi':fs[i]? = some f:=by simpa using hi
  have hlt:i<xs.length:=by rw[hlen];exact(Array.getElem?_eq_some_iff.1 hi').1
  exact⟨xs[i],by rw[hf i f hi',aae hlt]⟩)
 exact⟨ds,h1,by simpa using h2,by simpa using h3⟩
end
end Go.Proofs.YtibpdjmikfmmaaaGreat.bB
namespace Go.Proofs.YtibpdjmikfmmaaaGreat.Rf
open Go Go.ChangeShapes Go.WideShapes Go.ChangeAt Go.RowKit Go.Proofs.YtibpdjmikfmmaaaGreat.bB
theorem Pk{P:Program}{w:World}{r:Reach}{base:Nat}{t:TypeId}{s:ByteArray}(ht:P.underlying t=some .string)(h:Value.okWide P w r base t (.string s)):s.size<=maxLen:=by
 simp only[Value.okWide,ht,Cell.okWide,Cell.ok]at h;have h:(s.size:Int)<=IntKind.i64.max:=by first | exact h | exact h.2 | exact h.1
 have e:IntKind.i64.max=9223372036854775807:=rfl;rw[e]at h;have e2:maxLen=9223372036854775807:=rfl;omega
theorem CY{w:World}{ro:Nat->Nat->Prop}{s:ByteArray}{x:alJ}(h:jQ E w ro (.string s) .str x)(hs:s.size<=maxLen):x.length<=maxLen:=by
 rcases h with⟨ha,_⟩ | ⟨_,c,hc,hd⟩
 ·cases ha
 ·have e:c = .str x:=by
   have:([.str x]:List (bE E.Den))=[c]:=hc;simpa using this.symm
  subst e;cases hd;exact hs
theorem akY(l:List Named)(f s:alJ)(h0:f.length<=maxLen)(h1:s.length<=maxLen):amx [⟨.bJ,l⟩,⟨.str,f⟩,⟨.str,s⟩]=some (true,[⟨.bool,true⟩]):=by have e:=aqA l h0 h1;show some ((XC l f s).isSome,iA (E:=E) [Ty.bool] ((XC l f s).getD (dfA (E:=E) [Ty.bool])))=_;rw[e];rfl
theorem H8:Bh E .str:=Opens.mono (E:=E) (ajf (T:=9) (by kernel_rfl)) fun _ ⟨n,h,_⟩=>⟨n,h⟩
theorem anQ:Bh E .int:=Opens.mono (E:=E) (aje (T:=3) (k:=.i64) (by kernel_rfl)) fun _ ⟨n,h⟩=>⟨n,h⟩
theorem ajg:Bh E .bK:=Opens.mono (E:=E) (Pj (E:=E) (T:=27) (t:=.str) (by kernel_rfl) H8 (by kernel_rfl)) fun _ ⟨l,h⟩=>⟨l,h⟩
set_option maxRecDepth 100000 in
theorem aa1:Bh E .ah:=agb fun b=>by
 induction b with
 | zero=>exact abW
 | succ b ih=>exact rM.mono (E:=E) (W9 (E:=E) (Rs:=[(fun ds=>∃x,ds=E.cells .int x),(fun ds=>∃x,ds=E.cells .str x),(fun ds=>∃x,ds=E.cells .bK x),(fun ds=>∃x,ds=E.cells .fu x)]) Tryz.underlying30 ⟨by kernel_rfl,M8 anQ,by kernel_rfl,M8 H8,by kernel_rfl,M8 ajg,by kernel_rfl,rM.mono (aa0 (E:=E) (T:=28) (t:=.ah) (by kernel_rfl) ih (by kernel_rfl)) fun _ ⟨l,h⟩=>⟨l,h⟩,(by kernel_rfl:0+Tryz.prog.cellsOf 3+Tryz.prog.cellsOf 9+Tryz.prog.cellsOf 27+Tryz.prog.cellsOf 28=Tryz.prog.cellsOf 30)⟩) fun _ ⟨_,_,⟨x0,h0⟩,g0,_,_,⟨x1,h1⟩,g1,_,_,⟨x2,h2⟩,g2,_,_,⟨x3,h3⟩,g3,g4⟩=>⟨(⟨x0,x1,x2,x3⟩:Node),by rw[g0,h0,g1,h1,g2,h2,g3,h3,g4];rfl⟩
set_option maxRecDepth 100000 in
theorem SK:Bh E .dw :=
 Opens.mono (E:=E) (aaZ (E:=E) (Rs:=[(fun ds=>∃x,ds=E.cells .str x),(fun ds=>∃x,ds=E.cells .ah x)]) Tryz.underlying43 ⟨by kernel_rfl,H8,by kernel_rfl,aa1,(by kernel_rfl:0+Tryz.prog.cellsOf 9+Tryz.prog.cellsOf 30=Tryz.prog.cellsOf 43)⟩)
  fun _ ⟨_,_,⟨x0,h0⟩,g0,_,_,⟨x1,h1⟩,g1,g2⟩=>⟨(⟨x0,x1⟩:Named),by rw[g0,h0,g1,h1,g2];rfl⟩
theorem Om:Bh E .bJ:=Opens.mono (E:=E) (Pj (E:=E) (T:=22) (t:=.dw) (by kernel_rfl) SK (by kernel_rfl)) fun _ ⟨l,h⟩=>⟨l,h⟩
theorem own:ownKnob Tryz.prog.godebug=none:=by kernel_rfl
theorem laidOut:laidOutB Tryz.prog=true:=by kernel_rfl
theorem akZ{w:World}{ro:Nat->Nat->Prop}{v:Value}{b:Bool}(h:mH E w ro v [⟨.bool,b⟩]):v = .bool b:=by
 rcases h with⟨ha,_⟩ | ⟨_,c,hc,hd⟩
 ·cases ha
 ·have e:c = .bool b:=by
   have:([.bool b]:List (bE E.Den))=[c]:=hc;simpa using this.symm
  subst e;cases hd;rfl
set_option maxRecDepth 100000 in
theorem lifted(os:Os)(started:os.Started)(H:Type)(enc:TypeId×Value->H) :
  ReturnsInHanded {} Tryz.checked os 3 .any (Rows.extendWholeSpec.pre6 enc Tryz.prog Tryz.f3 Rows.extendWholeRow.domain false) (Rows.extendWholeSpec.post enc Tryz.prog Tryz.f3 false true false false):=by
 refine returnsInHanded_of_change (C:=Tryz.checked) own started (by kernel_rfl) Tryz.func3
  (ChangeSpec.witness6 (enc:=enc) (C:=Tryz.checked) false ⟨#[], #[.slice none 0 0,.string ⟨#[]⟩,.string ⟨#[]⟩],[]⟩ 8 (by kernel_rfl) (by kernel_rfl) (by kernel_rfl) (by kernel_rfl)) ?_
 intro W base args ds gs before hval0 hW hcnd _;have hval:∀(j:Nat) t v,Tryz.f3.params[j]? = some t->args[j]? = some v->Value.okWide Tryz.prog W .any base t v:=hval0;have hW':=hW;obtain⟨p,q,hA0,hV,rfl,hfz,hnd⟩:=hW;have hA:DataW.TrodAll enc Tryz.prog W 0 (fun _=>true) true Tryz.f3.params.toList args.toList ds p:=hA0;rw[Tryz.params3]at hA hval;obtain⟨v0,vs0,d0,ds0,p0,q0,hargs,rfl,rfl,h0,r0⟩:=trodAll_cons hA;obtain⟨v1,vs1,d1,ds1,p1,q1,rfl,rfl,rfl,h1,r1⟩:=trodAll_cons r0;obtain⟨v2,vs2,d2,ds2,p2,q2,rfl,rfl,rfl,h2,r2⟩:=trodAll_cons r1;obtain⟨rfl,rfl,rfl⟩:=trodAll_nil r2;obtain rfl:args = #[v0,v1,v2]:=by cases args;simp_all
 obtain⟨rfl,rfl⟩:=trodVars_none hV;obtain⟨a0,atb,cap0,rfl⟩:=okWide_slice Tryz.underlying22 (hval 0 22 v0 rfl rfl);obtain⟨s1,rfl⟩:=okWide_string Tryz.underlying9 (hval 1 9 v1 rfl rfl);obtain⟨s2,rfl⟩:=okWide_string Tryz.underlying9 (hval 2 9 v2 rfl rfl);have lt0:∀x∈p0,x.block<W.heap.size:=by obtain⟨m,hm⟩:=h0;exact DataW.trod_lt m _ _ _ hm
 have lt1:∀x∈p1,x.block<W.heap.size:=by obtain⟨m,hm⟩:=h1;exact DataW.trod_lt m _ _ _ hm
 have lt2:∀x∈p2,x.block<W.heap.size:=by obtain⟨m,hm⟩:=h2;exact DataW.trod_lt m _ _ _ hm
 obtain⟨x0,t0⟩:=UY (E:=E) (t:=.bJ) Om (.inr ⟨rfl,rfl⟩) h0;obtain⟨x1,t1⟩:=UY (E:=E) (t:=.str) H8 (.inr ⟨rfl,rfl⟩) h1;obtain⟨x2,t2⟩:=UY (E:=E) (t:=.str) H8 (.inr ⟨rfl,rfl⟩) h2;have sz1:=CY t1 (Pk Tryz.underlying9 (hval 1 9 (.string s1) rfl rfl));have sz2:=CY t2 (Pk Tryz.underlying9 (hval 2 9 (.string s2) rfl rfl));clear hA0 hval0;refine(apG.2 [⟨.bJ,x0⟩,⟨.str,x1⟩,⟨.str,x2⟩] [⟨.bool,true⟩] (akY x0 x1 x2 sz1 sz2) W (below W) [_,_,_] ⟨t0,t1,t2,trivial⟩ (fun _ _ h=>h)).mono fun e W' ⟨v,he,bel,hret⟩=>?_
 have hv:=akZ hret;subst hv;subst he;exact⟨_,rfl,_,_,_,[],_,[],hW',trodAll_mk1 (shut_bool Tryz.underlying4 _),
  (trodAll_cons_mk (Below.trod laidOut (by kernel_rfl) (of_decide_eq_true (by kernel_rfl)) h0 bel lt0) (trodAll_cons_mk (Below.trod laidOut (by kernel_rfl) (of_decide_eq_true (by kernel_rfl)) h1 bel lt1) (trodAll_cons_mk (Below.trod laidOut (by kernel_rfl) (of_decide_eq_true (by kernel_rfl)) h2 bel lt2) trodAll_mk0))),rfl,bel.frame _,fun h=>by cases h⟩
theorem over:Rows.extendWholeRow.holds Tryz.pinned (OpenSpec.ofChange Rows.extendWholeSpec) :=
 OpenClaim.holds_of_wide 3 Tryz.f3 rfl rfl rfl rfl rfl rfl rfl ⟨rfl,rfl,rfl,rfl,rfl⟩ rfl rfl rfl rfl rfl (by kernel_rfl) Tryz.func3 (by kernel_rfl)
  (of_decide_eq_true (by kernel_rfl)) (by unfold Func.isWrapper;first | (rw[if_pos (by decide +kernel)];kernel_rfl) | (rw[if_neg (by decide +kernel)];exact⟨rfl,rfl⟩))
  (fun os started H enc _=>lifted os started H enc)
theorem M9:Rows.ExtendWholeSaid:=over
#print axioms M9
end Go.Proofs.YtibpdjmikfmmaaaGreat.Rf
