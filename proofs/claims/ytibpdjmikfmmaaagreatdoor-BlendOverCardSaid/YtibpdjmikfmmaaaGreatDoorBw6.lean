/- Part 6 of a proof: the texts T1 X1 X2 X3 X4 X5 X6 X7 X8 D1 X9 Y1 X10 X11 X12 X13 X14 X15 X16 X17 X18 X19 T2 T3 X20 X21 X22 X23 X24 X25 X26 X27, one behind the other. -/
import Derived.Test.YtibpdjmikfmmaaaGreatDoorBw1
import Derived.Test.YtibpdjmikfmmaaaGreatDoorBw5
noncomputable section
namespace Go.Proofs.YtibpdjmikfmmaaaGreatDoor.Rf
open Go Go.RowKit Go.Sort Go.Proofs.YtibpdjmikfmmaaaGreatDoor.bB
abbrev Z{α:Type}[Df α](o:Option α)(Q:α->Prop):Prop:=o.isSome=true/\Q (gv o)
theorem zof{α:Type}[Df α]{o:Option α}{Q:α->Prop}(h:∃r,o=some r/\Q r):Z o Q:=by obtain⟨r,rfl,h⟩:=h;exact⟨rfl,h⟩
theorem cB{ρ:Type}[Df ρ]{t:Te ρ Empty}{m:Option ρ}{Q:ρ->Prop}(hm:m=t.o)(h:t.run Prop Q (fun _=>False) False):Z m Q:=zof (aw8 Q hm h)
theorem jy{ρ σ:Type}[Df ρ]{t:Tree ρ σ}{m:Option ρ}{s:σ}{Q:ρ->Prop}(hm:m=mu t s)(I:σ->Prop)(M:σ->Nat)(hs:I s)(hM:M s<1000000000000000000000000000000)(h:∀s,I s->(t s).run Prop Q (fun s'=>I s'/\M s'<M s) False):Z m Q:=zof (come Q hm I M hs hM h)
theorem wZ{α:Type}[Df α](o:Option α)(f:α->Prop):cl o False f=(o.isSome=true/\f (gv o)):=by
 rw[wC];cases o with
 | none=>simp
 | some r=>simp[gv]
theorem dx{n:Int}(h : -9223372036854775808<=n/\n<=9223372036854775807):au n=n:=aT h.1 h.2
theorem gM{α:Type}(l:List α)(d:α){i:Int}(h:0<=i)(h':i<(l.length:Int)):l.getD i.toNat d∈l:=by rw[List.getD,aaO (by omega)];exact acw _
theorem trB:(∀(c:Bool) (a b:Prop),(bif c then a else b)=((c=true->a)/\(c=false->b)))/\(∀(α:Type) [Df α] (l:List α) (i:Int) (f:α->Prop),ix l i False f=(0<=i/\i<(l.length:Int)/\f (l.getD i.toNat Df.d)))/\(∀(l:anY) (i:Int) (f:Int->Prop),PE l i False f=(0<=i/\i<(l.length:Int)/\f ((l.getD i.toNat 0).toNat:Int))) /\
  (∀(c:Bool) (a:Prop),ck c False a=(c=true/\a))/\(∀(α:Type) [Df α] (o:Option α) (f:α->Prop),cl o False f=(o.isSome=true/\f (gv o)))/\(∀x:An,aj x=x)/\(∀a b:Bool,((a||b)=true)=(a=true\/b=true))/\(∀a b:Bool,((a&&b)=true)=(a=true/\b=true))/\(∀(p:Prop) [Decidable p],(decide p=true)=p) /\
  (∀a:Bool,((!a)=true)=(a=false))/\(∀(p:Prop) [Decidable p],(decide p=false)=¬p)/\(∀(β:Type) (l:List β) (i:Int),fU l i=(decide ((0:Int)<=i)&&decide (i<(l.length:Int))))/\(∀(β:Type) (l:List β) (a b:Int),bN l a b=(decide ((0:Int)<=a)&&decide (a<=b)&&decide (b<=(l.length:Int)))) /\
  (∀(α:Type) [BEq α] [LawfulBEq α] (a b:α),((a==b)=true)=(a=b))/\(∀s p:anY,vJ s p=(decide (s.length<=1000000)&&decide (p.length=1)))/\(∀(s p:anY) (a b:Int),RG s p a b=(decide (s.length<=1000000)&&decide (p.length=1)&&(a==0)&&(b == -1))) :=
 ⟨wB,fun _ _=>wI,wS,wK,fun _ _=>wZ,aQ,fun _ _=>by simp,fun _ _=>by simp,fun _ _=>by simp,fun _=>by simp,fun _ _=>by simp,fun _ _ _=>rfl,fun _ _ _ _=>rfl,fun _ _ _ _ _=>by simp,fun _ _=>rfl,fun _ _ _ _=>rfl⟩
theorem bC:type_of% (And.intro @aK (And.intro aW trB)):=And.intro @aK (And.intro aW trB)
theorem mK(s p:anY):Z (iJ s p) fun r=>r=p.isPrefixOf s:=by
 refine cB rfl ?_;simp only[bC,mJ];refine⟨by omega,?_⟩;rw[Bool.eq_iff_iff,List.isPrefixOf_iff_prefix];by_cases h:(p.length:Int)<=(s.length:Int)
 ·simp only[h,decide_true,cond_true,cut,aaY,Int.toNat_zero,am6,acC,beq_iff_eq];exact⟨fun e=>List.prefix_iff_eq_take.2 e.symm,fun e=>(List.prefix_iff_eq_take.1 e).symm⟩
 ·simp only[h,decide_false,cond_false];exact⟨fun e=>(by cases e),fun e=>(by have:=e.length_le;omega)⟩
theorem T9(s p:anY):Z (HZ s p) fun r=>r=p.isPrefixOf s:=by refine cB rfl ?_;simp only[bC,Ab];grind[mK]
theorem EH(s:anY):Z (tO s) fun r=>r=[120,45].isPrefixOf s:=by refine cB rfl ?_;simp only[bC,EB];grind[T9]
theorem GZ(c:Int):Z (wX c) fun _=>True:=by refine cB rfl ?_;simp only[bC,LY]
theorem zB(c:Int):Z (oz c) fun _=>True:=by refine cB rfl ?_;simp only[bC,Ec];grind[GZ]
theorem rE(c:Int):Z (fG c) fun _=>True:=by refine cB rfl ?_;simp only[bC,Ki]
theorem ZV(c:Int):Z (EC c) fun _=>True:=by refine cB rfl ?_;simp only[bC,yJ];grind[zB,rE]
theorem yt(s:anY):Z (jA s) fun r=>r=true->0<s.length/\s.length<=24:=by
 refine jy rfl (fun | .e x=>x=s | .h0 x i=>x=s/\0<s.length/\s.length<=24/\1<=i/\i<=s.length) (fun | .e x=>100 | .h0 x i=>(s.length-i).toNat) rfl (by show 100<_;omega) ?_;rintro(x | ⟨x,i⟩) hs
 ·cases hs;simp only[bC,dJ];grind[ZV]
 ·obtain⟨rfl,h1,h2,h3,h4⟩:=hs;simp only[bC,dJ];have:=@dx (i+1);grind[zB,rE]
theorem iB{ρ σ:Type}{t:Tree ρ σ}{m:Option ρ}{s:σ}{r:ρ}(hm:m=mu t s)(I:σ->Prop)(M:σ->Nat)(hs:I s)(hM:M s<1000000000000000000000000000000)(h:∀s,I s->(t s).run Prop (fun r'=>r'=r) (fun s'=>I s'/\M s'<M s) False):m=some r:=by obtain⟨r',h1,h2⟩:=come (fun r'=>r'=r) hm I M hs hM h;rw[h1,h2]
theorem dh{ρ:Type}{t:Te ρ Empty}{m:Option ρ}{r:ρ}(hm:m=t.o)(h:t.run Prop (fun r'=>r'=r) (fun _=>False) False):m=some r:=by obtain⟨r',h1,h2⟩:=aw8 (fun r'=>r'=r) hm h;rw[h1,h2]
theorem fB{α:Type}(l:List α)(d:α){i:Int}(h0:0<=i)(h:i<(l.length:Int)):l.drop i.toNat=l.getD i.toNat d::l.drop (i+1).toNat:=by
 have hi:i.toNat<l.length:=by omega
 rw[<- abJ hi,show(i+1).toNat=i.toNat+1 by omega];simp[List.getD,hi]
theorem iE{α:Type}(l:List α){i:Int}(h:(l.length:Int)<=i):l.drop i.toNat=[]:=abb (by omega)
def xY(c:UInt8):Int:=(c.toNat:Int)-48
theorem aAJ(c:UInt8):au (au (c.toNat:Int)-48)=xY c:=by have:=c.toNat_lt;show au (au (c.toNat:Int)-48)=_;rw[aT (n:=(c.toNat:Int)) (by omega) (by omega),aT (by omega) (by omega)];rfl
def Mr(most d n:Int)(over:Bool):Bool:=bif(bif over then true else decide (Int.tdiv (most-d) 10<n))then true else decide (most<d)
def Qh(most:Int):anY->Int->Bool->Int×Int
 | [],n,over=>bif over then(0,9)else(n,0)
 | c::t,n,over=>bif(bif decide (xY c<0)then true else decide (9<xY c))then(0,3)else bif !(Mr most (xY c) n over)then Qh most t (n*10+xY c) (Mr most (xY c) n over)else Qh most t n (Mr most (xY c) n over)
def abW(s:anY):Bool:=bif s==[]then true else(bif decide ((1:Int)<(s.length:Int))then(((List.getD s 0 0).toNat:Int)==48)else false)
def iR(s:anY)(most:Int):Int×Int:=bif abW s then(0,3)else Qh most s 0 false
def anR(s:anY)(most:Int):Int:=(iR s most).1
def XB(s:anY)(most:Int):Int:=(iR s most).2
def aqu(s:anY)(most:Int):Bool:=decide (s.length<=1000000)&&decide (0<=most)&&decide (most<=9007199254740992)
theorem yX{s:anY}{most:Int}:aqu s most=true↔(s.length<=1000000/\0<=most)/\most<=9007199254740992:=by simp[aqu]
theorem aAK(c:UInt8) : -48<=xY c/\xY c<=207:=by have:=c.toNat_lt;unfold xY;omega
theorem bX{n:Int}(h : -9223372036854775808<=n/\n<=9223372036854775807):au n=n:=aT h.1 h.2
theorem Tv(s:anY)(most:Int)(hk:aqu s most=true):zu s most=some (iR s most):=by
 obtain⟨⟨hs,h0⟩,h1⟩:=yX.1 hk;refine iB rfl (fun | .e y0 y1=>y0=s/\y1=most | .h0 v0 v1 v2 v3 v4 v5=>v0=s/\v1=most/\v4=(s.length:Int)/\0<=v5/\v5<=v4/\0<=v2/\v2<=most/\Qh most (s.drop v5.toNat) v2 v3=iR s most) (fun | .e _ _=>10000000000 | .h0 v0 v1 v2 v3 v4 v5=>(v4-v5).toNat) ⟨rfl,rfl⟩ (by show 10000000000<_;omega) ?_;rintro(⟨y0,y1⟩ | ⟨v0,v1,v2,v3,v4,v5⟩) hs'
 ·obtain⟨rfl,rfl⟩:=hs';have e:iR y0 y1=bif abW y0 then(0,3)else Qh y1 y0 0 false:=rfl
  have e2:y0=[]\/0<y0.length:=by cases y0<;>simp
  simp only[bC,oC]
  (repeat' (first|intro _|apply And.intro))<;>grind[abW,acC]
 ·obtain⟨rfl,rfl,rfl,g1,g2,g3,g4,g5⟩:=hs';simp only[bC,oC,aAJ];have e1:=@bX (v5+1);by_cases hi:v5<(v0.length:Int)
  ·rw[fB v0 0 g1 hi,Qh]at g5;generalize v0.getD v5.toNat 0=c at g5 ⊢;have b:=aAK c;generalize xY c=d at g5 b ⊢;have w1:au (v1-d)=v1-d:=bX (by omega);have w2:au ((v1-d).tdiv 10)=(v1-d).tdiv 10:=bX (by have:((v1-d).tdiv 10).natAbs=(v1-d).natAbs / 10:=Int.natAbs_tdiv _ _;omega);have ov:Mr v1 d v2 v3=false->v2*10+d<=v1:=fun ho=>by
    unfold Mr at ho;cases v3 with
    | true=>cases ho
    | false =>
     by_cases a1:(v1-d).tdiv 10<v2
     ·rw[dT a1]at ho;cases ho
     ·rw[dF a1]at ho;have hmd:¬ v1<d:=by simpa using ho
      have hq:(v1-d).tdiv 10=(v1-d) / 10:=afQ (by omega);omega
   have w3:=@bX (v2*10);have w4:=@bX (v2*10+d);rw[w1,w2]
   (repeat' (first|intro _|apply And.intro))<;>grind[Mr]
  ·rw[iE v0 (by omega),Qh]at g5
   (repeat' (first|intro _|apply And.intro))<;>grind
theorem uW(s:anY)(most:Int)(hk:aqu s most=true):gW s most=some (iR s most):=by refine dh rfl ?_;have:=yX.1 hk;simp only[aK,aW,zw,Tv s most hk,aD,decide_eq_false (show ¬ most<0 by omega),cond_false]
def abX(c:Int):Bool:=bif decide (97<=c)then decide (c<=122)else false
def Lj(c:Int):Bool:=bif decide (48<=c)then decide (c<=57)else false
def Qi(c:Int):Bool:=bif abX c then true else(bif decide (65<=c)then decide (c<=90)else false)
def p1B(c:Int):Bool:=bif abX c then true else Lj c
def VE(c:Int):Bool:=bif(bif(bif abX c then true else Lj c)then true else c==45)then true else c==95
def Bh(c:Int):Bool:=bif Qi c then true else Lj c
def yx(c:Int):Bool:=bif(bif(bif(bif Qi c then true else Lj c)then true else c==45)then true else c==95)then true else c==46
def VF(c:Int):Bool:=bif Qi c then true else c==95
def NV(c:Int):Bool:=bif(bif Qi c then true else Lj c)then true else c==95
def oG(f g:Int->Bool)(s:anY):Bool:=bif(bif(bif decide ((s.length:Int)<1)then true else decide ((24:Int)<(s.length:Int)))then true else !(f (Int.ofNat (List.getD s (Int.toNat 0) 0).toNat)))then false else(s.drop 1).all fun c=>g (Int.ofNat c.toNat)
theorem Ms(c:Int):wX c=some (abX c):=dh rfl rfl
theorem zC(c:Int):fG c=some (Lj c):=dh rfl rfl
theorem En(c:Int):oz c=some (Qi c):=dh rfl (by simp only[aK,aW,Ec,Ms,aD];rfl)
theorem ZW(c:Int):EC c=some (Bh c):=dh rfl (by simp only[aK,aW,yJ,En,zC,aD,aff,aci,ak,dO];rfl)
theorem XZ(c:Int):CU c=some (VF c):=dh rfl (by simp only[aK,aW,wJ,En,aD];rfl)
theorem ZX(c:Int):EF c=some (p1B c):=dh rfl (by simp only[aK,aW,yO,Ms,zC,aD,aff,aci,ak,dO];rfl)
theorem ajQ(s:anY):((decide ((0:Int)<=0)&&decide ((0:Int)<(s.length:Int)))||!(!(bif decide ((s.length:Int)<1)then true else decide ((24:Int)<(s.length:Int)))))=true:=by
 cases s with
 | nil=>rfl
 | cons c t=>rw[decide_eq_true (show(0:Int)<((c::t).length:Int) by rw[List.length_cons];omega)];rfl
theorem pJ(s:anY)(hs:s.length<=1000000):iQ s=some (oG Bh yx s):=by
 have h:jA s=some (oG Bh yx s):=by
  refine iB rfl (fun | .e y0=>y0=s | .h0 v0 v1=>v0=s/\1<=v1/\v1<=(s.length:Int)/\((s.drop v1.toNat).all fun c=>yx (Int.ofNat c.toNat))=oG Bh yx s) (fun | .e _=>10000000000 | .h0 _ v1=>((s.length:Int)-v1).toNat) rfl (by show 10000000000<_;omega) ?_;rintro(y0 | ⟨v0,v1⟩) hs'
  ·cases hs';simp only[aK,aW,dJ,ZW,aff,aci,ak,dO];simp only[bC]
   (repeat' (first|intro _|apply And.intro))<;>grind[oG]
  ·obtain⟨rfl,h1,h2,h3⟩:=hs';simp only[aK,aW,dJ,En,zC,aD,aff,aci,ak,dO];simp only[bC];have e1:=@bX (v1+1);by_cases hi:v1<(v0.length:Int)
   ·rw[fB v0 0 (by omega) hi,afo]at h3;generalize v0.getD v1.toNat 0=c at h3 ⊢;have e:yx (Int.ofNat c.toNat)=yx (c.toNat:Int):=rfl
    (repeat' (first|intro _|apply And.intro))<;>grind[yx]
   ·rw[iE v0 (by omega)]at h3
    (repeat' (first|intro _|apply And.intro))<;>grind
 exact dh rfl (by simp only[aK,BR,h,aD])
theorem NW(s:anY)(hs:s.length<=1000000):Ak s=some (oG VF NV s):=by
 have h:jk s=some (oG VF NV s):=by
  refine iB rfl (fun | .e y0=>y0=s | .h0 v0 v1=>v0=s/\1<=v1/\v1<=(s.length:Int)/\((s.drop v1.toNat).all fun c=>NV (Int.ofNat c.toNat))=oG VF NV s) (fun | .e _=>10000000000 | .h0 _ v1=>((s.length:Int)-v1).toNat) rfl (by show 10000000000<_;omega) ?_;rintro(y0 | ⟨v0,v1⟩) hs'
  ·cases hs';simp only[aK,aW,dw,XZ,aff,aci,ak,dO];simp only[bC]
   (repeat' (first|intro _|apply And.intro))<;>grind[oG]
  ·obtain⟨rfl,h1,h2,h3⟩:=hs';simp only[aK,aW,dw,En,zC,aD,aff,aci,ak,dO];simp only[bC];have e1:=@bX (v1+1);by_cases hi:v1<(v0.length:Int)
   ·rw[fB v0 0 (by omega) hi,afo]at h3;generalize v0.getD v1.toNat 0=c at h3 ⊢;have e:NV (Int.ofNat c.toNat)=NV (c.toNat:Int):=rfl
    (repeat' (first|intro _|apply And.intro))<;>grind[NV]
   ·rw[iE v0 (by omega)]at h3
    (repeat' (first|intro _|apply And.intro))<;>grind
 exact dh rfl (by simp only[aK,Aj,h,aD])
theorem adP(s:anY)(hs:s.length<=1000000):Ch s=some (oG p1B VE s):=by
 have h:jB s=some (oG p1B VE s):=by
  refine iB rfl (fun | .e y0=>y0=s | .h0 v0 v1=>v0=s/\1<=v1/\v1<=(s.length:Int)/\((s.drop v1.toNat).all fun c=>VE (Int.ofNat c.toNat))=oG p1B VE s) (fun | .e _=>10000000000 | .h0 _ v1=>((s.length:Int)-v1).toNat) rfl (by show 10000000000<_;omega) ?_;rintro(y0 | ⟨v0,v1⟩) hs'
  ·cases hs';simp only[aK,aW,dK,ZX,aff,aci,ak,dO];simp only[bC]
   (repeat' (first|intro _|apply And.intro))<;>grind[oG]
  ·obtain⟨rfl,h1,h2,h3⟩:=hs';simp only[aK,aW,dK,Ms,zC,aD,aff,aci,ak,dO];simp only[bC];have e1:=@bX (v1+1);by_cases hi:v1<(v0.length:Int)
   ·rw[fB v0 0 (by omega) hi,afo]at h3;generalize v0.getD v1.toNat 0=c at h3 ⊢;have e:VE (Int.ofNat c.toNat)=VE (c.toNat:Int):=rfl
    (repeat' (first|intro _|apply And.intro))<;>grind[VE]
   ·rw[iE v0 (by omega)]at h3
    (repeat' (first|intro _|apply And.intro))<;>grind
 exact dh rfl (by simp only[aK,Cg,h,aD])
theorem part{ρ σ:Type}[Df ρ]{t:Tree ρ σ}{m:Option ρ}{s:σ}(hm:m=mu t s)(Q:ρ->Prop)(I:σ->Prop)(hs:I s)(h:∀s,I s->(t s).run Prop Q I True):m.isSome=true->Q (gv m):=by
 have go:∀f s r,I s->UU t f s=some r->Q r:=by
  intro f
  induction f with
  | zero=>intro s r _ e;cases e
  | succ f ih =>
   intro s r hs e;have h1:=h s hs;rw[UU,Te.nat]at e;rw[Te.nat]at h1;cases ht:(t s).run _ Tr.k Tr.g Tr.n with
   | k r'=>rw[ht]at e h1;injection e with e;subst e;exact h1
   | g s'=>rw[ht]at e h1;exact ih s' r h1 e
   | n=>rw[ht]at e;cases e
 intro hi;obtain⟨r,hr⟩:=Option.isSome_iff_exists.1 hi;rw[hr,dO];rw[hm]at hr;exact go _ s r hs hr
theorem axi{ρ:Type}[Df ρ]{t:Te ρ Empty}{m:Option ρ}(hm:m=t.o)(Q:ρ->Prop)(h:t.run Prop Q (fun _=>False) True):m.isSome=true->Q (gv m):=by
 subst hm;intro hi;rw[Te.nat]at h;rw[Te.o,Te.nat]at hi ⊢;cases ht:t.run _ Tr.k Tr.g Tr.n with
 | k r'=>rw[ht]at h;exact h
 | g s2=>cases s2
 | n=>rw[ht]at hi;cases hi
theorem gZ{ρ:Type}[Df ρ]{t:Te ρ Empty}{m:Option ρ}{q:ρ}(hm:m=t.o)(h:t.run Prop (fun r=>r=q) (fun _=>False) True):m.isSome=true->gv m=q:=axi hm _ h
theorem pI{α:Type}[Df α](l:List α)(i:Int)(f:α->Prop):ix l i True f=(0<=i->i<(l.length:Int)->f (l.getD i.toNat Df.d)):=by unfold ix;rw[wB];simp
theorem pS(l:anY)(i:Int)(f:Int->Prop):PE l i True f=(0<=i->i<(l.length:Int)->f ((l.getD i.toNat 0).toNat:Int)):=by unfold PE;rw[wB];simp
theorem pK(c:Bool)(a:Prop):ck c True a=(c=true->a):=by unfold ck;cases c<;>simp
theorem pZ{α:Type}[Df α](o:Option α)(f:α->Prop):cl o True f=(o.isSome=true->f (gv o)):=by
 cases o with
 | none=>simp[cl]
 | some r=>simp[cl,gv]
theorem trQ:(∀(c:Bool) (a b:Prop),(bif c then a else b)=((c=true->a)/\(c=false->b)))/\(∀(α:Type) [Df α] (l:List α) (i:Int) (f:α->Prop),ix l i True f=(0<=i->i<(l.length:Int)->f (l.getD i.toNat Df.d)))/\(∀(l:anY) (i:Int) (f:Int->Prop),PE l i True f=(0<=i->i<(l.length:Int)->f ((l.getD i.toNat 0).toNat:Int))) /\
  (∀(c:Bool) (a:Prop),ck c True a=(c=true->a))/\(∀(α:Type) [Df α] (o:Option α) (f:α->Prop),cl o True f=(o.isSome=true->f (gv o)))/\(∀x:An,aj x=x)/\(∀a b:Bool,((a||b)=true)=(a=true\/b=true))/\(∀a b:Bool,((a&&b)=true)=(a=true/\b=true))/\(∀(p:Prop) [Decidable p],(decide p=true)=p) /\
  (∀a:Bool,((!a)=true)=(a=false))/\(∀(p:Prop) [Decidable p],(decide p=false)=¬p)/\(∀(β:Type) (l:List β) (i:Int),fU l i=(decide ((0:Int)<=i)&&decide (i<(l.length:Int))))/\(∀(β:Type) (l:List β) (a b:Int),bN l a b=(decide ((0:Int)<=a)&&decide (a<=b)&&decide (b<=(l.length:Int)))) /\
  (∀(α:Type) [BEq α] [LawfulBEq α] (a b:α),((a==b)=true)=(a=b))/\(∀s p:anY,vJ s p=(decide (s.length<=1000000)&&decide (p.length=1)))/\(∀(s p:anY) (a b:Int),RG s p a b=(decide (s.length<=1000000)&&decide (p.length=1)&&(a==0)&&(b == -1))) :=
 ⟨wB,fun _ _=>pI,pS,pK,fun _ _=>pZ,trB.2.2.2.2.2⟩
theorem dR:type_of% (And.intro @aK (And.intro aW trQ)):=And.intro @aK (And.intro aW trQ)
def l7:List An->Option (List (anY))
 | []=>some []
 | x::t=>bif x.kind != 1 then none else(l7 t).map (x.text :: ·)
def bJ(n:An):List (anY):=(l7 n.kids).getD []
def qF(n:An):Bool:=(l7 n.kids).isSome&&(bif n.kind==2 then decide ((n.kids.length:Int)<=32)else false)
theorem jO:gv eO=(⟨0,[],[],[]⟩,10):=by have h:eO=some (⟨0,[],[],[]⟩,10):=dh rfl rfl;rw[h,dO]
theorem sU(n:An)(k:Int):jU n k=some (bif n.kind==k then decide ((n.kids.length:Int)<=32)else false):=dh rfl rfl
theorem Bj(n:An)(hl:n.kids.length<=1000000):(nP n).isSome=true->gv (nP n)=(bJ n,qF n):=by
 refine part rfl (fun r=>r=(bJ n,qF n)) (fun | .e y0=>y0=n | .h0 v0 v1 v2 v3 v4=>v1=n.kids/\v2=(n.kids.length:Int)/\0<=v3/\v3<=v2/\v4=n/\bJ n=((l7 (n.kids.drop v3.toNat)).map (v0 ++ ·)).getD []/\qF n=((l7 (n.kids.drop v3.toNat)).isSome&&(bif n.kind==2 then decide ((n.kids.length:Int)<=32)else false))) rfl ?_;rintro(y0 | ⟨v0,v1,v2,v3,v4⟩) hs
 ·cases hs;simp only[dR,wY];refine⟨trivial,trivial,by omega,by omega,trivial,?_,rfl⟩;show(l7 n.kids).getD []=((l7 n.kids).map (([]:List (anY)) ++ ·)).getD [];cases l7 n.kids<;>rfl
 ·obtain⟨rfl,rfl,h1,h2,rfl,h3,h4⟩:=hs;simp only[aK,aW,wY,sU,aD];simp only[dR];have e1:=@bX (v3+1);by_cases hi:v3<(v4.kids.length:Int)
  ·rw[fB v4.kids Df.d h1 hi,l7]at h3 h4;rw[e1 (by omega)];generalize v4.kids.getD v3.toNat Df.d=y at h3 h4 ⊢;cases hk:y.kind != 1<;>cases ht:l7 (v4.kids.drop (v3+1).toNat)<;>simp only[hk,ht,cond_true,cond_false,Option.map_none,ahT,Option.getD_none,akp,Option.isSome_none,aff,aju,afq]at h3 h4 ⊢ <;> ((repeat' (first|intro _|apply And.intro))<;>grind[ab9,afL])
  ·rw[iE v4.kids (by omega),l7]at h3 h4;simp only[ahT,akp,aff,afq,acg]at h3 h4
   (repeat' (first|intro _|apply And.intro))<;>grind
theorem rX:zn=(⟨0,[],[],[]⟩:An):=rfl
def rF(n:An)(k:Int):Bool:=bif n.kind==k then decide ((n.kids.length:Int)<=32)else false
def Bl(y:An):Bool:=bif y.kind != 0 then(bif y.kind != 3 then true else decide ((0:Int)<(y.keys.length:Int)))else false
def JU(v:anY->An):List (anY)->An->An
 | [],o=>o
 | s::t,o=>JU v t (aY o s (v s))
def abY(o:An)(bad:Bool):Bool:=bif bad then true else decide ((32:Int)<(o.keys.length:Int))
def FD(o:An)(bad:Bool):An:=bif abY o bad then zn else dS 1000 ⟨3,o.text,o.keys,o.kids⟩
def FE(o:An)(bad:Bool):Int:=bif abY o bad then 10 else 0
theorem iK(f:form)(b:Bool):cu f b=some (⟨f.n,bif f.bad then true else b⟩,b):=dh rfl (by simp only[aK,aW,yK,aQ])
theorem iH(f:form)(k:anY)(v:An):(cO f k v).isSome=true->gv (cO f k v)=(⟨aY f.n k v,f.bad⟩,()):=by refine gZ rfl ?_;simp only[dR,Al];exact fun _=>trivial
theorem iL(f:form):(dD f).isSome=true->(gv (dD f)).2=(FD f.n f.bad,FE f.n f.bad):=by
 refine axi rfl (fun r:form×An×Int=>r.2=(FD f.n f.bad,FE f.n f.bad)) ?_;simp only[dR,yL,jO,FD,FE,abY]
 (repeat' (first|intro _|apply And.intro))<;>grind[rX]
def rY(n:An):List (anY):=bif rF n 3 then n.keys else bJ n
def set0(n:An):Bool:=bif rF n 3 then n.kids.any Bl else !(qF n)
def ZY(n:An):Bool:=set0 n||(rY n).any fun s=>!(oG Bh yx s)
def Z0(n:An):An:=JU (fun _=>zn) (rY n) zn
def G5(n:An):An:=FD (Z0 n) (ZY n)
def G6(n:An):Int:=FE (Z0 n) (ZY n)
theorem aqv(n:An)(hl:n.kids.length<=1000000)(_:n.keys.length<=1000000)(hs:∀s∈rY n,s.length<=1000000)(hn:(rY n).length<=1000000):(nR n).isSome=true->gv (nR n)=(G5 n,G6 n):=by
 refine part rfl (fun r=>r=(G5 n,G6 n)) (fun | .e y0=>y0=n | .h0 v0 v1 v2 v3 v4 v5 v6 v7=>v0=n.keys/\v1=true/\v2=n.kids/\v3=(n.kids.length:Int)/\0<=v4/\v4<=v3/\rF n 3=true/\v7.n=zn/\(v7.bad||(n.kids.drop v4.toNat).any Bl)=n.kids.any Bl | .h1 v0 v1 v2 v3 v4 v5=>v0=rY n/\v1=((rY n).length:Int)/\0<=v2/\v2<=v1/\JU (fun _=>zn) ((rY n).drop v2.toNat) v5.n=Z0 n/\(v5.bad||((rY n).drop v2.toNat).any fun s=>!(oG Bh yx s))=ZY n) rfl ?_;rintro(y0 | ⟨v0,v1,v2,v3,v4,v5,v6,⟨o,bad⟩⟩ | ⟨v0,v1,v2,v3,v4,⟨o,bad⟩⟩) hs'
 ·cases hs';simp only[aK,aW,vo,sU,iK,aQ,aD];simp only[dR];have h1:=Bj n hl;have h2:rF n 3=(bif n.kind==3 then decide ((n.kids.length:Int)<=32)else false):=rfl
  (repeat' (first|intro _|apply And.intro))<;>grind[rY,set0,ZY,Z0,acC,rX]
 ·obtain⟨rfl,rfl,rfl,rfl,h1,h2,h3,h4,h5⟩:=hs';simp only[aK,aW,vo,iK,aQ,aD];simp only[dR];have e1:=@bX (v4+1);by_cases hi:v4<(n.kids.length:Int)
  ·rw[fB n.kids Df.d h1 hi,aj1]at h5;generalize n.kids.getD v4.toNat Df.d=y at h5 ⊢;have e2:(bif(y.kind != (0:Int))then(bif(y.kind != (3:Int))then true else(decide ((0:Int)<((y.keys).length:Int))))else false)=Bl y:=rfl;rw[e2]
   (repeat' (first|intro _|apply And.intro))<;>grind
  ·rw[iE n.kids (by omega),List.any_nil]at h5
   (repeat' (first|intro _|apply And.intro))<;>grind[rY,set0,ZY,Z0,acC]
 ·obtain⟨rfl,rfl,h1,h2,h3,h4⟩:=hs';simp only[aK,aW,vo,iK,aQ,aD];simp only[dR];have e1:=@bX (v2+1);by_cases hi:v2<((rY n).length:Int)
  ·rw[fB (rY n) Df.d h1 hi,JU]at h3;rw[fB (rY n) Df.d h1 hi,aj1]at h4;have h5:=hs _ (acw (show v2.toNat<(rY n).length by omega));have h6:(rY n).getD v2.toNat Df.d=(rY n)[v2.toNat]'(by omega):=by simp[List.getD,show v2.toNat<(rY n).length by omega]
   rw[<- h6]at h5;clear h6;generalize (rY n).getD v2.toNat Df.d=s at h3 h4 h5 ⊢;have h7:=pJ s h5;have h8:=fun b=>iH ⟨o,b⟩ s ⟨0,[],[],[]⟩
   rw[h7]
   (repeat' (first|intro _|apply And.intro))<;>grind[dO,rX]
  ·rw[iE (rY n) (by omega),JU]at h3;rw[iE (rY n) (by omega),List.any_nil]at h4;have h5:=iL ⟨o,bad⟩
   (repeat' (first|intro _|apply And.intro))<;>grind[G5,G6]
def OY:anY:=[61]
def YJ(f:anY->Bool):List (anY)->An->Bool->An×Bool
 | [],o,b=>(o,b)
 | s::t,o,b=>YJ f t (aY o (mI s OY) (dz (qB s OY))) (bif b then true else(bif aB o (mI s OY)then true else !(f (mI s OY))))
def Tw(f:anY->Bool):List (anY)->List An->An->Bool->An×Bool
 | s::t,y::r,o,b=>Tw f t r (aY o s (dz y.text)) (bif b then true else(bif decide ((1:Int)<y.kind)then true else !(f s)))
 | _,_,o,b=>(o,b)
def Mt(vars:Bool)(s:anY):Bool:=bif vars then oG VF NV s else oG Bh yx s
def VG(n:An)(vars:Bool):An×Bool:=bif qF n then YJ (Mt vars) (bJ n) zn false else bif rF n 3 then Tw (Mt vars) n.keys n.kids zn false else(zn,true)
theorem ajR(s p:anY):(mI s p).length<=s.length:=by
 unfold mI;cases decide (0<=qA s p)
 ·exact ab8 _
 ·show(List.take _ s).length<=s.length;rw[acu];omega
def Kn(n:An)(vars:Bool):An:=FD (VG n vars).1 (VG n vars).2
def Ko(n:An)(vars:Bool):Int:=FE (VG n vars).1 (VG n vars).2
theorem rG{l:List (anY)}{B:Nat}(h:∀s∈l,s.length<=B)(i:Nat):(l.getD i (Df.d:anY)).length<=B:=by
 rw[List.getD];cases e:l[i]? with
 | none=>exact aa4 _
 | some x=>exact h x (afD e)
theorem ajS:FD zn true=zn/\FE zn true=10:=⟨rfl,rfl⟩
set_option maxHeartbeats 1000000 in
theorem ajT(n:An)(vars:Bool)(hl:n.kids.length<=1000000)(hk:n.keys.length<=1000000)(h3:n.kind=3->n.keys.length=n.kids.length)(hs:∀s∈bJ n,s.length<=1000000)(hn:(bJ n).length<=1000000)(hs2:∀s∈n.keys,s.length<=1000000):(xk n vars).isSome=true->gv (xk n vars)=(Kn n vars,Ko n vars):=by
  refine part rfl (fun r=>r=(Kn n vars,Ko n vars)) (fun | .e y0 y1=>y0=n/\y1=vars | .RI v0 v1 v2 _ _ v5=>vars=false/\v0=bJ n/\v1=((bJ n).length:Int)/\0<=v2/\v2<=v1/\YJ (oG Bh yx) ((bJ n).drop v2.toNat) v5.n v5.bad=VG n vars | .L8 v0 v1 v2 _ _ v5=>vars=true/\v0=bJ n/\v1=((bJ n).length:Int)/\0<=v2/\v2<=v1/\YJ (oG VF NV) ((bJ n).drop v2.toNat) v5.n v5.bad=VG n vars | .RJ v0 v1 v2 v3 _ _ v6=>vars=false/\v3=n/\n.kind=3/\v0=n.keys/\v1=(n.keys.length:Int)/\0<=v2/\v2<=v1/\Tw (oG Bh yx) (n.keys.drop v2.toNat) (n.kids.drop v2.toNat) v6.n v6.bad=VG n vars | .L9 v0 v1 v2 v3 _ _ v6=>vars=true/\v3=n/\n.kind=3/\v0=n.keys/\v1=(n.keys.length:Int)/\0<=v2/\v2<=v1/\Tw (oG VF NV) (n.keys.drop v2.toNat) (n.kids.drop v2.toNat) v6.n v6.bad=VG n vars) ⟨rfl,rfl⟩ ?_;rintro(⟨y0,y1⟩ | ⟨v0,v1,v2,v3,v4,⟨o,bad⟩⟩ | ⟨v0,v1,v2,v3,v4,⟨o,bad⟩⟩ | ⟨v0,v1,v2,v3,v4,v5,⟨o,bad⟩⟩ | ⟨v0,v1,v2,v3,v4,v5,⟨o,bad⟩⟩) hs'
  · obtain⟨rfl,rfl⟩:=hs';simp only[aK,aW,lS,sU,aQ,aD];simp only[dR];have h1:=Bj y0 hl;have h2:=jO;have h4:=ajS;have h5:Mt true=oG VF NV:=rfl;have h6:Mt false=oG Bh yx:=rfl
    (repeat' (first|intro _|apply And.intro))<;>grind[VG,Kn,Ko,acC,rX,rF]
  all_goals
    first
    | (obtain⟨rfl,rfl,rfl,h1,h2,h4⟩:=hs'
       simp only[aK,aW,lS,iK,aQ,aD];simp only[dR];have e1:=@bX (v2+1);by_cases hi:v2<((bJ n).length:Int)
       · rw[fB (bJ n) Df.d h1 hi,YJ]at h4;have h5:=rG hs v2.toNat;generalize (bJ n).getD v2.toNat Df.d=s at h4 h5 ⊢;have h6:=ajR s [61];have h7:=fun b=>iH ⟨o,b⟩ (mI s [61]) (dz (qB s [61]))
         have h8:mI s OY=mI s [61]:=rfl;have h9:qB s OY=qB s [61]:=rfl;rw[h8,h9]at h4
         first | rw[pJ _ (by omega)] | rw[NW _ (by omega)]
         (repeat' (first|intro _|apply And.intro))<;>grind[dO]
       · rw[iE (bJ n) (by omega),YJ]at h4;have h5:=iL ⟨o,bad⟩
         (repeat' (first|intro _|apply And.intro))<;>grind[Kn,Ko])
    | (obtain⟨rfl,rfl,h0,rfl,rfl,h1,h2,h4⟩:=hs'
       have hkk:=h3 h0;simp only[aK,aW,lS,iK,aQ,aD];simp only[dR];have e1:=@bX (v2+1);by_cases hi:v2<(v3.keys.length:Int)
       · rw[fB v3.keys Df.d h1 hi,fB v3.kids Df.d h1 (by omega),Tw]at h4;have h5:=rG hs2 v2.toNat;generalize v3.keys.getD v2.toNat Df.d=s at h4 h5 ⊢;generalize v3.kids.getD v2.toNat Df.d=y at h4 ⊢;have h7:=fun b=>iH ⟨o,b⟩ s (dz y.text)
         first | rw[pJ _ h5] | rw[NW _ h5]
         (repeat' (first|intro _|apply And.intro))<;>grind[dO]
       · rw[iE v3.keys (by omega),Tw]at h4;have h5:=iL ⟨o,bad⟩
         (repeat' (first|intro _|apply And.intro))<;>grind[Kn,Ko]
         all_goals (intro a b c d e;cases e))
theorem aCn:∀(n m:Nat) (b:budget) (x:An) (d:Int),d+(n+1:Nat)=14->1<=d->dp (n+1) x=true -> -10<=b.left->b.left<=100000->(fI m b x d).isSome=true->(gv (fI m b x d)).2=decide (0<=leftV (n+1) x d b.left)/\((gv (fI m b x d)).2=true->(gv (fI m b x d)).1.left=leftV (n+1) x d b.left):=by
 intro n
 induction n with
 | zero =>
  intro m b x d hd h1 hx hb hb2
  match m with
  | 0=>intro h;cases h
  | m+1 =>
   have e:leftV (0+1) x d b.left = -1:=by
    unfold leftV;have:CW x d (b.left-1)=true:=by unfold CW;rw[dT (show 12<d by omega)];cases decide (b.left-1<0)<;>rfl
    rw[this,cond_true]
   refine part (t:=fH (fI m)) (s:=.e b x d) rfl (fun r=>r.2=decide (0<=leftV (0+1) x d b.left)/\(r.2=true->r.1.left=leftV (0+1) x d b.left)) (fun s=>s = .e b x d) rfl ?_;rintro s rfl;rw[e];simp only[dR,fH]
   (repeat' (first|intro _|apply And.intro))<;>grind
 | succ n ih =>
  intro m b x d hd h1 hx hb hb2
  match m with
  | 0=>intro h;cases h
  | m+1 =>
   have hx2:=Gg.1 hx;have hL:leftV (n+1+1) x d b.left=bif CW x d (b.left-1)then -1 else bif Iw x then -1 else bif Iy x (b.left-1)then -1 else vv (fun k l=>leftV (n+1) k (d+1) l) x.kids (b.left-1):=rfl
   generalize leftV (n+1+1) x d b.left=L at hL ⊢;refine part (t:=fH (fI m)) (s:=.e b x d) rfl (fun r=>r.2=decide (0<=L)/\(r.2=true->r.1.left=L)) (fun | .e y0 y1 y2=>y0=b/\y1=x/\y2=d | .h0 v0 v1 v2 v3 v4=>v0=d/\v1=x.kids/\v2=(x.kids.length:Int)/\0<=v3/\v3<=v2/\0<=v4/\v4<=100000/\vv (fun k l=>leftV (n+1) k (d+1) l) (x.kids.drop v3.toNat) v4=L) ⟨rfl,rfl,rfl⟩ ?_;have w1:=@bX (b.left-1);have w2:=@bX ((x.keys.length:Int)+(x.kids.length:Int));rintro(⟨y0,y1,y2⟩ | ⟨v0,v1,v2,v3,v4⟩) hs
   ·obtain⟨rfl,rfl,rfl⟩:=hs;simp only[dR,fH];rw[w1 (by omega),w2 (by omega)];have hk:y1.kids.length=0->y1.kids=[]:=fun h=>List.length_eq_zero_iff.1 h
    have ht:y1.text≠[]->0<y1.text.length:=fun h=>List.length_pos_iff.2 h
    have hn:∀l,vv (fun k l=>leftV (n+1) k (y2+1) l) [] l=l:=fun _=>rfl
    (repeat' (first|intro _|apply And.intro))<;>grind[CW,Iw,Iy,acC]
   ·obtain⟨rfl,rfl,rfl,h2,h3,h4,h5,h6⟩:=hs;simp only[dR,fH];have e1:=@bX (v3+1);have e2:=@bX (v0+1);by_cases hi:v3<(x.kids.length:Int)
    ·rw[fB x.kids Df.d h2 hi,vv]at h6;have hy:dp (n+1) (x.kids.getD v3.toNat Df.d)=true:=by
      rw[show x.kids.getD v3.toNat Df.d=x.kids[v3.toNat]'(by omega) by simp[List.getD,show v3.toNat<x.kids.length by omega]];exact hx2.2 _ (acw _)
     generalize x.kids.getD v3.toNat Df.d=y at h6 hy ⊢;have h7:=ih m ⟨v4⟩ y (v0+1) (by omega) (by omega) hy (by show -10<=v4;omega) (by show v4<=100000;omega);have h8:=Mf (n+1) y (v0+1) v4;rw[e2 (by omega),e1 (by omega)];generalize fI m ⟨v4⟩ y (v0+1)=o at h7 ⊢;generalize leftV (n+1) y (v0+1) v4=q at h6 h7 h8 ⊢;generalize hK:vv (fun k l=>leftV (n+1) k (v0+1) l) (x.kids.drop (v3+1).toNat) q=K at h6;refine⟨fun _ _ _ ho=>?_,fun h=>absurd hi h⟩;obtain⟨h9,h10⟩:=h7 ho;clear ih h7 hL w1 w2 e1 e2 hx hx2 hy;by_cases hq:0<=q
     ·rw[decide_eq_true hq]at h9;rw[decide_eq_false (show ¬ q<0 by omega),cond_false]at h6;have h11:=h10 h9;have h12:q+1<=v4:=h8 hq
      (repeat' (first|intro _|apply And.intro))<;>grind
     ·rw[decide_eq_false hq]at h9;rw[decide_eq_true (show q<0 by omega),cond_true]at h6
      (repeat' (first|intro _|apply And.intro))<;>grind
    ·rw[iE x.kids (by omega),vv]at h6
     (repeat' (first|intro _|apply And.intro))<;>grind
theorem VH(x:An)(h:dp 13 x=true):(AZ x).isSome=true->gv (AZ x)=lg x:=by refine gZ rfl ?_;simp only[dR,Gv];intro hi;exact(aCn 12 qM ⟨2000⟩ x 1 (by decide) (by decide) h (by decide) (by decide) hi).1
def CO(b:Bool):anY:=bif b then[116,114,117,101]else[102,97,108,115,101]
def fK(b:Bool):An:=⟨1,CO b,[],[]⟩
def cK:anY:=[99,111,110,100,105,116,105,111,110]
def rK:anY:=[114,101,113,117,105,114,101,100]
def sK:anY:=[114,101,115,116,97,114,116]
def kg:anY:=[116,114,117,101]
def o7:anY:=[102,97,108,115,101]
def mM:anY:=[115,101,114,118,105,99,101,95,115,116,97,114,116,101,100]
def VI:anY:=[115,101,114,118,105,99,101,95,104,101,97,108,116,104,121]
def VJ:anY:=[115,101,114,118,105,99,101,95,99,111,109,112,108,101,116,101,100,95,115,117,99,99,101,115,115,102,117,108,108,121]
def aN(n:An)(k or_:anY):anY:=bif !(aB n k)then or_ else(aG n k).text
def bV(n:An)(k _:anY):Bool:=bif !(aB n k)then true else(aG n k).kind==1
def Qj(s:anY):Bool:=!(s==kg)&&!(s==o7)
def nco(s:anY):Bool:=(!(s==mM)&&!(s==VI))&&!(s==VJ)
def b2(b:Bool):Int:=bif b then 1 else 0
def em(n:An):An:=bif n.kind==0 then⟨3,[],[],[]⟩else n
def Tx(n:An):An:=⟨3,[],[cK,rK,sK],[dz (aN (em n) cK mM),fK (aN (em n) rK kg==kg),fK (aN (em n) sK o7==kg)]⟩
def bdV(m:An):Bool:=((((((m.kind != 3)||!(bV m cK []))||!(bV m sK []))||Qj (aN m sK o7))||!(bV m rK []))||Qj (aN m rK kg))||nco (aN m cK mM)
def lfV(m:An):Int:=(((m.keys.length:Int)-b2 (aB m cK))-b2 (aB m sK))-b2 (aB m rK)
def KH(n:An):Bool:=!(bdV (em n))&&(lfV (em n)==0)
theorem YK(b:Bool):lT b=some (fK b):=dh rfl (by cases b<;>rfl)
def mF(f:field)(k:anY):field:=⟨f.n,f.left-b2 (aB f.n k),f.bad||!(bV f.n k [])⟩
theorem iq(f:field)(k o:anY)(h : -1000000<=f.left/\f.left<=1000000):(aX f k o).isSome=true->gv (aX f k o)=(mF f k,aN f.n k o):=by
 refine gZ rfl ?_;simp only[dR,wL];have:=@bX (f.left-1);obtain⟨n,l,b⟩:=f
 (repeat' (first|intro _|apply And.intro))<;>grind[mF,b2,bV,aN]
theorem vw(f:field)(k:anY)(o:Bool)(h : -1000000<=f.left/\f.left<=1000000):(fA f k o).isSome=true->gv (fA f k o)=(⟨f.n,f.left-b2 (aB f.n k),(f.bad||!(bV f.n k []))||Qj (aN f.n k (CO o))⟩,aN f.n k (CO o)==kg):=by
 refine gZ rfl ?_;simp only[dR,vk];have h1:=fun l b o=>iq ⟨f.n,l,b⟩ k o
 obtain⟨n,l,b⟩:=f;have h2:CO true=[116,114,117,101]:=rfl;have h3:CO false=[102,97,108,115,101]:=rfl
 (repeat' (first|intro _|apply And.intro))<;>grind[mF,Qj,kg,o7]
def zD(f:field)(k:anY):Bool:=bif(bif(f.bad||!(bV f.n k []))then true else(iR (aN f.n k [48]) 65536).2 != 0)then true else(bif aB f.n k then(iR (aN f.n k [48]) 65536).1==0 else false)
theorem Bn(f:field)(k:anY)(h : -1000000<=f.left/\f.left<=1000000)(hl:(aN f.n k [48]).length<=1000000):(kI f k).isSome=true->gv (kI f k)=(⟨f.n,f.left-b2 (aB f.n k),zD f k⟩,(iR (aN f.n k [48]) 65536).1):=by
 refine gZ rfl ?_;simp only[dR,qC];have h1:=iq f k [48] h;have h2:=uW (aN f.n k [48]) 65536 (yX.2 ⟨⟨hl,by decide⟩,by decide⟩);obtain⟨n,l,b⟩:=f
 (repeat' (first|intro _|apply And.intro))<;>grind[mF,zD,dO]
theorem aCo:Pl.bn ([[99,111,110,100,105,116,105,111,110],[114,101,113,117,105,114,101,100],[114,101,115,116,97,114,116]]:List (anY))=[[99,111,110,100,105,116,105,111,110],[114,101,113,117,105,114,101,100],[114,101,115,116,97,114,116]]:=Pl.tJ (by unfold Pl.SS;decide) fun _=>Iff.rfl
theorem Sr(n:Nat)(s:anY)(d l:Int)(hl:1<=l)(hd:d<=12):leftV (n+1) (dz s) d l=l-1:=by unfold leftV CW Iw Iy vv dz;simp only[decide_eq_false (show ¬ l-1<0 by omega),decide_eq_false (show ¬ 12<d by omega)];rfl
theorem aAL(a b c:anY):lg ⟨3,[],[cK,rK,sK],[dz a,dz b,dz c]⟩=true:=by
 unfold lg leftV CW Iw Iy;simp only[cK,rK,sK,aCo,vv];have l1:leftV 12 (dz a) (1+1) (2000-1)=1998:=by rw[Sr 11 a _ _ (by decide) (by decide)];rfl
 have l2:leftV 12 (dz b) (1+1) 1998=1997:=by rw[Sr 11 b _ _ (by decide) (by decide)];rfl
 have l3:leftV 12 (dz c) (1+1) 1997=1996:=by rw[Sr 11 c _ _ (by decide) (by decide)];rfl
 simp only[l1,l2,l3];rfl
theorem abZ(ks:List (anY))(l:List An)(h:dp 13 ⟨3,[],ks,l⟩=true):(mq ks l).isSome=true->gv (mq ks l)=bif lg ⟨3,[],ks,l⟩then⟨3,[],ks,l⟩else zn:=by
 refine gZ rfl ?_;simp only[dR,K4];have h1:=VH ⟨3,[],ks,l⟩ h
 (repeat' (first|intro _|apply And.intro))<;>grind[rX]
set_option maxHeartbeats 1000000 in
theorem YM(n:An)(hl:n.keys.length<=100000)(h0:n.kind=0->n=zn):(Dh n).isSome=true->gv (Dh n)=(Tx n,KH n):=by
 refine gZ rfl ?_;simp only[aK,aW,Je,aQ,YK,aD];have hand:∀x y:Bool,(bif x then y else false)=(x&&y):=by decide
 have hor:∀x y:Bool,(bif x then true else y)=(x||y):=by decide
 have key:∀(m:An),m=em n->m.keys.length<=100000->cl (aX ⟨m,(m.keys.length:Int),m.kind != 3⟩ cK mM) True fun y1=>cl (fA ⟨y1.1.n,y1.1.left,y1.1.bad⟩ sK false) True fun y2=>cl (fA ⟨y2.1.n,y2.1.left,y2.1.bad⟩ rK true) True fun y3=>cl (mq [cK,rK,sK] [dz y1.2,fK y3.2,fK y2.2]) True fun y6=>(y6,(bif(!(bif(y3.1).bad then true else(bif(bif(!(y1.2==mM))then(!(y1.2==VI))else false)then(!(y1.2==VJ))else false)))then((y3.1).left==(0:Int))else false))=(Tx n,KH n):=by
  intro m hm hml;have b1:∀x:Bool,0<=b2 x/\b2 x<=1:=fun x=>by cases x<;>decide
  have e1:=iq ⟨m,(m.keys.length:Int),m.kind != 3⟩ cK mM ⟨by show -1000000<=(m.keys.length:Int);omega,by show(m.keys.length:Int)<=1000000;omega⟩;simp only[dR];intro i1;rw[e1 i1];have c1:=b1 (aB m cK);have e2:=vw (mF ⟨m,(m.keys.length:Int),m.kind != 3⟩ cK) sK false ⟨by show -1000000<=(m.keys.length:Int)-b2 (aB m cK);omega,by show(m.keys.length:Int)-b2 (aB m cK)<=1000000;omega⟩;intro i2;rw[show fA ⟨(mF ⟨m,(m.keys.length:Int),m.kind != 3⟩ cK).n,(mF ⟨m,(m.keys.length:Int),m.kind != 3⟩ cK).left,(mF ⟨m,(m.keys.length:Int),m.kind != 3⟩ cK).bad⟩ sK false=fA (mF ⟨m,(m.keys.length:Int),m.kind != 3⟩ cK) sK false from rfl]at i2 ⊢;rw[e2 i2];have c2:=b1 (aB m sK);dsimp only [mF];intro i3;rw[vw _ rK true ⟨by dsimp only;omega,by dsimp only;omega⟩ i3];intro i4;rw[abZ _ _ (by simp[dp,dz,fK]) i4];have r3:=aAL (aN m cK mM) (CO (aN m rK (CO true)==kg)) (CO (aN m sK (CO false)==kg));rw[show lg ⟨3,[],[cK,rK,sK],[dz (aN m cK mM),fK (aN m rK (CO true)==kg),fK (aN m sK (CO false)==kg)]⟩=true from r3,cond_true];unfold Tx KH bdV lfV nco;rw[<- hm];simp only[hand,hor];rfl
 cases hz:n.kind==0 with
 | true =>have hn:=h0 (by simpa using hz);rw[cond_true];subst hn;exact key ⟨3,[],[],[]⟩ rfl (by decide)
 | false =>rw[cond_false];exact key n (by unfold em;rw[hz];rfl) hl
def pd(f:anY->Bool):List (anY)->List An->An->Bool->An×Bool
 | s::t,y::r,o,b=>pd f t r (aY o s (Tx y)) (bif b then true else(bif !(KH y)then true else !(f s)))
 | _,_,o,b=>(o,b)
def FH(n:An):List (anY):=bif rF n 3 then n.keys else bJ n
def CP(n:An)(l:List (anY)):List An:=bif n.kind==3 then n.kids else l.map fun _=>zn
def dp0(n:An):Bool:=bif rF n 3 then false else !(qF n)
def dpP(n:An):An×Bool:=pd (oG Bh yx) (FH n) (CP n (FH n)) zn (dp0 n)
def dpV(n:An):An:=FD (dpP n).1 (dpP n).2
def dpE(n:An):Int:=FE (dpP n).1 (dpP n).2
theorem ay0(l:List (anY))(i:Nat):(l.map fun _=>zn).getD i (Df.d:An)=zn:=by
 rw[List.getD];cases e:(l.map fun _=>zn)[i]? with
 | none=>rfl
 | some x =>have:=afD e;obtain⟨_,_,h⟩:=List.mem_map.1 this;exact h.symm
theorem Mv{P:An->Prop}{l:List An}(h:∀y∈l,P y){i:Int}(h0:0<=i)(hi:i<(l.length:Int)):P (l.getD i.toNat (Df.d:An)):=by rw[show l.getD i.toNat (Df.d:An)=l[i.toNat]'(by omega) by simp[List.getD,show i.toNat<l.length by omega]];exact h _ (acw _)
set_option maxHeartbeats 1000000 in
theorem amk(n:An)(hl:n.kids.length<=1000000)(hs:∀s∈FH n,s.length<=1000000)(hn:(FH n).length<=1000000)(hk:∀y∈n.kids,y.keys.length<=100000/\(y.kind=0->y=zn)):(zR n).isSome=true->gv (zR n)=(dpV n,dpE n):=by
 refine part rfl (fun r=>r=(dpV n,dpE n)) (fun | .e y0=>y0=n | .h0 v0 v1 v2 v3 _ _ v6=>v0=FH n/\v1=((FH n).length:Int)/\0<=v2/\v2<=v1/\v3=n/\pd (oG Bh yx) ((FH n).drop v2.toNat) ((CP n (FH n)).drop v2.toNat) v6.n v6.bad=dpP n) rfl ?_;rintro(y0 | ⟨v0,v1,v2,v3,v4,v5,⟨o,bad⟩⟩) hs'
 ·cases hs';simp only[aK,aW,zQ,sU,iK,aQ,aD];simp only[dR];have h1:=Bj n hl;have h2:rF n 3=(bif n.kind==3 then decide ((n.kids.length:Int)<=32)else false):=rfl
  (repeat' (first|intro _|apply And.intro))<;>grind[FH,dp0,dpP,acC,rX]
 ·obtain⟨rfl,rfl,h1,h2,rfl,h3⟩:=hs';simp only[aK,aW,zQ,iK,aQ,aD];simp only[dR];have e1:=@bX (v2+1);by_cases hi:v2<((FH v3).length:Int)
  ·rw[fB (FH v3) Df.d h1 hi]at h3;have h5:=rG hs v2.toNat;generalize (FH v3).getD v2.toNat Df.d=s at h3 h5 ⊢;rw[pJ s h5];have h8:=fun b v=>iH ⟨o,b⟩ s v
   cases hkd:v3.kind==3 with
   | true =>
    have hd:CP v3 (FH v3)=v3.kids:=by unfold CP;rw[hkd];rfl
    rw[hd]at h3;refine⟨fun _ _ _=>⟨fun _ _ hj=>?_,fun h=>?_⟩,fun h=>absurd hi h⟩
    ·rw[fB v3.kids Df.d h1 hj,pd]at h3;have h6:=Mv hk h1 hj;generalize v3.kids.getD v2.toNat Df.d=y at h3 h6 ⊢;have h7:=YM y h6.1 h6.2
     (repeat' (first|intro _|apply And.intro))<;>grind[dO]
    ·cases h
   | false =>
    have hd:CP v3 (FH v3)=(FH v3).map fun _=>zn:=by unfold CP;rw[hkd];rfl
    rw[hd,fB ((FH v3).map fun _=>zn) Df.d h1 (by rw[List.length_map];exact hi),ay0,pd]at h3;have h7:=YM zn (by decide) (fun _=>rfl);have h9:¬ v3.kind=3:=by simpa using hkd
    (repeat' (first|intro _|apply And.intro))<;>grind[dO,rX]
  ·rw[iE (FH v3) (by omega),pd]at h3;have h5:=iL ⟨o,bad⟩
   ·(repeat' (first|intro _|apply And.intro))<;>grind[dpV,dpE]
   ·intro a b c d e;cases e
def jd:anY:=[115,101,114,118,105,99,101]
def mG:anY:=[102,105,108,101]
def xS:anY:=[120]
def je(n:An):An:=bif n.kind==1 then⟨3,[],[jd],[n]⟩else n
def aqw(m:An):Bool:=((m.kind != 3)||!(bV m jd []))||!(bV m mG [])
def aqx(m:An):Int:=((m.keys.length:Int)-b2 (aB m jd))-b2 (aB m mG)
def OZ(m:An):Bool:=(((aqw m||!(aqx m==0))||!(oG Bh yx (aN m jd [])))||aN m mG xS==[])||decide ((64:Int)<((aN m mG xS).length:Int))
def exV(n:An):An:=bif OZ (je n)then zn else dS 1000 (je n)
def YN(n:An):Int:=bif OZ (je n)then 10 else 0
theorem aCp:Pl.bn ([[115,101,114,118,105,99,101]]:List (anY))=[[115,101,114,118,105,99,101]]:=Pl.tJ (by unfold Pl.SS;decide) fun _=>Iff.rfl
theorem aAN(a:anY):lg ⟨3,[],[jd],[dz a]⟩=true:=by
 unfold lg leftV CW Iw Iy;simp only[jd,aCp,vv];have l1:leftV 12 (dz a) (1+1) (2000-1)=1998:=by rw[Sr 11 a _ _ (by decide) (by decide)];rfl
 simp only[l1];rfl
theorem adQ(n:An)(hl:(je n).keys.length<=100000)(h1:n.kind=1->n=dz n.text)(hs:(aN (je n) jd []).length<=1000000):(sP n).isSome=true->gv (sP n)=(exV n,YN n):=by
 refine gZ rfl ?_;simp only[aK,aW,BZ,aQ];have hand:∀x y:Bool,(bif x then y else false)=(x&&y):=by decide
 have hor:∀x y:Bool,(bif x then true else y)=(x||y):=by decide
 have b1:∀x:Bool,0<=b2 x/\b2 x<=1:=fun x=>by cases x<;>decide
 have key:∀(m:An),m=je n->cl (aX ⟨m,(m.keys.length:Int),m.kind != 3⟩ jd []) True fun y2=>cl (aX ⟨y2.1.n,y2.1.left,y2.1.bad⟩ mG xS) True fun y3=>ck (((iQ (y2.2)).isSome)||!(!(!(bif(!(y3.1).bad)then((y3.1).left==(0:Int))else false)))) True (bif(bif(bif(bif(!(bif(!(y3.1).bad)then((y3.1).left==(0:Int))else false))then true else(!(gv (iQ (y2.2)))))then true else(y3.2==([]:anY)))then true else(decide ((64:Int)<((y3.2).length:Int))))then(cl eO True fun y4=>(y4.1,y4.2)=(exV n,YN n))else(ck ((wg 10000 1000) m) True ((dS 1000 m,(0:Int))=(exV n,YN n)))):=by
  intro m hm;rw[<- hm]at hl hs;have e1:=iq ⟨m,(m.keys.length:Int),m.kind != 3⟩ jd [] ⟨by show -1000000<=(m.keys.length:Int);omega,by show(m.keys.length:Int)<=1000000;omega⟩;simp only[dR];intro i1;rw[e1 i1];have c1:=b1 (aB m jd);intro i2;have e2:=iq (mF ⟨m,(m.keys.length:Int),m.kind != 3⟩ jd) mG xS ⟨by show -1000000<=(m.keys.length:Int)-b2 (aB m jd);omega,by show(m.keys.length:Int)-b2 (aB m jd)<=1000000;omega⟩;rw[show aX ⟨(mF ⟨m,(m.keys.length:Int),m.kind != 3⟩ jd).n,(mF ⟨m,(m.keys.length:Int),m.kind != 3⟩ jd).left,(mF ⟨m,(m.keys.length:Int),m.kind != 3⟩ jd).bad⟩ mG xS=aX (mF ⟨m,(m.keys.length:Int),m.kind != 3⟩ jd) mG xS from rfl]at i2 ⊢;rw[e2 i2];dsimp only [mF];rw[pJ _ hs,dO,jO];have hF:(bif(bif(bif(!(bif(!((m.kind != 3||!bV m jd [])||!bV m mG []))then((m.keys.length:Int)-b2 (aB m jd)-b2 (aB m mG)==(0:Int))else false))then true else(!(oG Bh yx (aN m jd []))))then true else(aN m mG xS==([]:anY)))then true else(decide ((64:Int)<((aN m mG xS).length:Int))))=OZ m:=by unfold OZ aqw aqx;simp only[hand,hor,Bool.not_and,Bool.not_not]
  refine fun _=>⟨fun hc _=>?_,fun hc _=>?_⟩
  ·have hc':OZ m=true:=hF.symm.trans hc;unfold exV YN;rw[<- hm,hc'];rfl
  ·have hc':OZ m=false:=hF.symm.trans hc;unfold exV YN;rw[<- hm,hc'];rfl
 cases hk:n.kind==1 with
 | true =>
  have h2:=h1 (by simpa using hk);have h3:je n=⟨3,[],[jd],[n]⟩:=by unfold je;rw[hk];rfl
  rw[cond_true,pZ];intro i;have e:=abZ [jd] [n] (by rw[h2];simp[dp,dz]) i;rw[show lg ⟨3,[],[jd],[n]⟩=true by rw[h2];exact aAN _,cond_true]at e;have e':gv (mq [[115,101,114,118,105,99,101]] [n])=_:=e;rw[e'];exact key _ h3.symm
 | false =>rw[cond_false];exact key n (by unfold je;rw[hk];rfl)
theorem wu64(n:Int):IntKind.wrap .u64 n=n%18446744073709551616:=by simp[IntKind.wrap,IntKind.bits,IntKind.signed]
theorem wu8(n:Int):IntKind.wrap .u8 n=n%256:=by simp[IntKind.wrap,IntKind.bits,IntKind.signed]
theorem DU{n:Int}(h:0<=n)(h':n<18446744073709551616):IntKind.wrap .u64 n=n:=by rw[wu64];omega
theorem axk{n:Int}(h:0<=n)(h':n<256):IntKind.wrap .u8 n=n:=by rw[wu8];omega
theorem ms:aA=4611686018427387904:=rfl
def dg(n:Nat):UInt8:=UInt8.ofNat (48+n)
def oW:Nat->Nat->anY
 | 0,_=>[]
 | f+1,u=>if u<10 then[dg u]else oW f (u / 10)++[dg (u%10)]
def Kq(u:Nat):anY:=oW 20 u
theorem NY:∀(f u:Nat),(oW f u).length<=f
 | 0,_=>ab8 _
 | f+1,u=>by
  unfold oW;split
  ·simp
  ·have:=NY f (u / 10);grind
def bA(n:Int):anY:=bif decide (n<0)then 45::Kq (-n).toNat else Kq n.toNat
theorem sH(n:Int):(bA n).length<=21:=by
 unfold bA Kq;cases decide (n<0)with
 | true=>have:=NY 20 (-n).toNat;simp only[cond_true,List.length_cons];omega
 | false=>have:=NY 20 n.toNat;simp only[cond_false];omega
def fC(c:UInt8):Bool:=decide (48<=c.toNat)&&decide (c.toNat<=57)
def G7(s:anY):Bool:=match s with
 | []=>true
 | [_]=>false
 | c::_=>c==48
def eP(s:anY):Bool:=!(G7 s)&&s.all fC
theorem Qk(c:UInt8):(bif decide ((c.toNat:Int)<48)then true else decide (57<(c.toNat:Int))) = !(fC c):=by unfold fC;grind
theorem c48(c:UInt8):((c.toNat:Int)==(48:Int))=(c==48):=by
 by_cases h:c=48
 ·subst h;rfl
 ·rw[eT (fun e=>h (UInt8.toNat_inj.1 (show c.toNat=48 by have e:(c.toNat:Int)=48:=e;omega)))];simpa using h
def bD:anY->Nat->Nat
 | [],n=>n
 | c::t,n=>bD t (n*10+(c.toNat-48))
theorem XC:∀(s:anY) (n:Nat),n<=bD s n
 | [],n=>ab8 _
 | c::t,n=>Nat.le_trans (by omega) (XC t (n*10+(c.toNat-48)))
theorem xZ{c:UInt8}:fC c=true↔48<=c.toNat/\c.toNat<=57:=by simp[fC]
theorem anS:∀(s:anY) (n:Nat),s.all fC=true->bD s n<(n+1)*10 ^ s.length
 | [],n,_=>by simp[bD]
 | c::t,n,h=>by rw[afo,abK]at h;have h1:=xZ.1 h.1;have:=anS t (n*10+(c.toNat-48)) h.2;unfold bD;refine afg this ?_;rw[List.length_cons,Nat.pow_succ,am7 (10 ^ t.length) 10,<- Nat.mul_assoc];exact afp _ (by omega)
def Mw(n:Nat):Int:=bif decide (n<72057594037927936)then(n:Int)else 1152921504606846976
theorem Ci{n:Nat}(h:n<72057594037927936):Mw n=n:=by unfold Mw;rw[dT h];rfl
theorem Ql{n:Nat}(h:¬ n<72057594037927936):Mw n=1152921504606846976:=by unfold Mw;rw[dF h];rfl
def jc(s:anY):Int:=Mw (bD s 0)
theorem aqy(s:anY):0<=jc s/\jc s<=1152921504606846976:=by
 unfold jc;by_cases h:bD s 0<72057594037927936
 ·rw[Ci h];omega
 ·rw[Ql h];omega
def Cj(most:Int)(n:Nat):Int×Int:=bif decide (most<(n:Int))then(0,9)else((n:Int),0)
theorem EI{most:Int}{n:Nat}(h:most<(n:Int)):Cj most n=(0,9):=by unfold Cj;rw[dT h];rfl
theorem EJ{most:Int}{n:Nat}(h:¬ most<(n:Int)):Cj most n=((n:Int),0):=by unfold Cj;rw[dF h];rfl
def gB(s:anY)(most:Int):Int×Int:=bif !(eP s)then(0,3)else Cj most (bD s 0)
def CY(s:anY)(most:Int):Int:=(gB s most).1
def O1(s:anY)(most:Int):Int:=(gB s most).2
theorem JV(s:anY)(most:Int)(h:0<=most):0<=CY s most/\CY s most<=most:=by
 unfold CY gB;cases eP s with
 | false=>exact⟨akG _,h⟩
 | true =>
  simp only[ab7,cond_false];by_cases hv:most<(bD s 0:Int)
  ·rw[EI hv];exact⟨akG _,h⟩
  ·rw[EJ hv];exact⟨Int.natCast_nonneg _,by simp only;omega⟩
theorem aAO{c:UInt8}(h:fC c=true):xY c=((c.toNat-48:Nat):Int)/\c.toNat-48<=9:=by have:=xZ.1 h;unfold xY;omega
theorem Z4(c:UInt8):(bif decide (xY c<0)then true else decide (9<xY c)) = !(fC c):=by rw[<- Qk];have e1:decide (xY c<0)=decide ((c.toNat:Int)<48):=decide_eq_decide.2 (by unfold xY;omega);have e2:decide (9<xY c)=decide (57<(c.toNat:Int)):=decide_eq_decide.2 (by unfold xY;omega);rw[e1,e2]
theorem ajV(most:Int):∀(s:anY) (n:Int) (over:Bool),s.all fC=false->Qh most s n over=(0,3)
 | [],_,_,h=>by cases h
 | c::t,n,over,h=>by
  unfold Qh;rw[Z4];cases hc:fC c with
  | false=>rfl
  | true =>
   rw[afo,hc,afq]at h;simp only[ab7,cond_false];cases Mr most (xY c) n over with
   | true=>exact ajV most t _ _ h
   | false=>exact ajV most t _ _ h
theorem ajW(most:Int):∀(s:anY) (n:Int),s.all fC=true->Qh most s n true=(0,9)
 | [],_,_=>rfl
 | c::t,n,h=>by rw[afo,abK]at h;unfold Qh;rw[Z4,h.1];exact ajW most t n h.2
theorem asY(most:Int)(h0:0<=most):∀(s:anY) (n:Nat),s.all fC=true->(n:Int)<=most->Qh most s n false=Cj most (bD s n)
 | [],n,_,hn=>by rw[bD,EJ (by omega)];rfl
 | c::t,n,h,hn=>by
  rw[afo,abK]at h;obtain⟨e,hd⟩:=aAO h.1;unfold Qh bD;rw[Z4,h.1];simp only[ab7,cond_false];rw[e];generalize hq:c.toNat-48=d at hd ⊢;by_cases hm:((n*10+d:Nat):Int)<=most
  ·have ho:Mr most (d:Int) n false=false:=by
    unfold Mr;grind
   rw[ho,acn,cond_true,show(n:Int)*10+(d:Int)=((n*10+d:Nat):Int) by omega];exact asY most h0 t _ h.2 hm
  ·have ho:Mr most (d:Int) n false=true:=by
    unfold Mr;grind
   rw[ho,ab7,cond_false,ajW most t _ h.2];have:=XC t (n*10+d);rw[EI (by omega)]
theorem av4(s:anY):abW s=G7 s:=by
 unfold abW
 match s with
 | []=>rfl
 | [c]=>rfl
 | c::d::t =>have e1:(c::d::t==([]:anY))=false:=rfl;rw[e1,cond_false,dT (show(1:Int)<((c::d::t).length:Int) by simp only[List.length_cons];omega),cond_true];exact c48 c
theorem count_eq(s:anY){most:Int}(h0:0<=most):iR s most=gB s most:=by
 unfold iR gB eP;rw[av4];cases G7 s with
 | true=>rfl
 | false =>
  simp only[cond_false,acn,afq];cases hd:s.all fC with
  | false=>rw[ajV most s _ _ hd];rfl
  | true=>rw[show(0:Int)=((0:Nat):Int)from rfl,asY most h0 s 0 hd (by omega)];rfl
theorem afF(s:anY){most:Int}(h0:0<=most):anR s most=CY s most:=congrArg Prod.fst (count_eq s h0)
theorem VK(s:anY){most:Int}(h0:0<=most):XB s most=O1 s most:=congrArg Prod.snd (count_eq s h0)
theorem ajX:∀(s t:anY) (n:Nat),bD (s++t) n=bD t (bD s n)
 | [],_,_=>rfl
 | _::s,t,_=>ajX s t _
theorem ab0{n:Nat}(h:n<10):(dg n).toNat=48+n:=by unfold dg;rw[UInt8.toNat_ofNat',Nat.mod_eq_of_lt (by omega)]
theorem asZ{n:Nat}(h:n<10):fC (dg n)=true:=xZ.2 (by rw[ab0 h];omega)
theorem VL:∀(f u:Nat),(oW f u).all fC=true
 | 0,_=>rfl
 | f+1,u=>by
  unfold oW;split
  ·rename_i h;simp[asZ h]
  ·rw[List.all_append,VL f];simp[asZ (Nat.mod_lt u (by decide))]
theorem afG:∀(f u:Nat),u<10 ^ f->bD (oW f u) 0=u
 | 0,u,h=>by simp at h;subst h;rfl
 | f+1,u,h=>by
  unfold oW;split
  ·rename_i hu;show 0*10+((dg u).toNat-48)=u;rw[ab0 hu];omega
  ·have h10:10 ^ (f+1)=10*10 ^ f:=by rw[Nat.pow_succ,am7]
   rw[ajX,afG f (u / 10) (by omega)];show u / 10*10+((dg (u%10)).toNat-48)=u;rw[ab0 (Nat.mod_lt u (by decide))];omega
theorem as0{s:anY}(t:anY)(h:G7 s=false)(h2:s≠[48]):G7 (s++t)=false:=by
 match s,h,h2 with
 | [c],_,h2 =>
  cases t with
  | nil=>rfl
  | cons d t =>show(c==48)=false;simpa using fun e=>h2 (by rw[e])
 | c::d::s,h,_=>exact h
theorem ab1:∀(f u:Nat),1<=f->u<10 ^ f->G7 (oW f u)=false/\(1<=u->∀c t,oW f u=c::t->c≠48)
 | 0,_,h,_=>absurd h (by decide)
 | f+1,u,_,h=>by
  unfold oW;split
  ·rename_i hu;refine⟨rfl,fun h1 c t e=>?_⟩;cases e;intro e;have:=ab0 hu;rw[e]at this;grind
  ·rename_i hu;have h10:10 ^ (f+1)=10*10 ^ f:=by rw[Nat.pow_succ,am7]
   have hf:1<=f:=by grind
   obtain⟨q1,q2⟩:=ab1 f (u / 10) hf (by omega);have q2:=q2 (by omega);refine⟨as0 _ q1 fun e=>q2 _ _ e rfl,fun _ c t e=>?_⟩;cases hd:oW f (u / 10)with
   | nil=>rw[hd]at q1;cases q1
   | cons a s =>rw[hd]at e;cases e;exact q2 _ _ hd
theorem aCq{u:Nat}(h:u<9223372036854775808):u<10 ^ 20:=afg h (by decide)
theorem yY{n:Int}(h0:0<=n)(h1:n<9223372036854775808):eP (bA n)=true/\(bD (bA n) 0:Int)=n/\(bA n).all fC=true:=by
 have e:bA n=Kq n.toNat:=by unfold bA;rw[dF (by omega)];rfl
 rw[e];unfold Kq;have hp:=aCq (u:=n.toNat) (by omega);refine⟨?_,by rw[afG 20 _ hp];omega,VL 20 _⟩;unfold eP;rw[VL,(ab1 20 _ (by decide) hp).1];rfl
theorem Z5{n most:Int}(h0:0<=n)(h1:n<=most)(h2:n<9223372036854775808):gB (bA n) most=(n,0):=by obtain⟨q1,q2,_⟩:=yY h0 h2;unfold gB;rw[q1,ab7,cond_false,EJ (by omega),q2]
theorem aqz{n:Int}(h:0<=n)(h':n<10):UInt8.ofNat (Int.toNat (IntKind.wrap .u8 (IntKind.wrap .u64 (48+n))))=dg n.toNat:=by rw[DU (by omega) (by omega),axk (by omega) (by omega)];unfold dg;rw[show(48+n).toNat=48+n.toNat from by omega]
theorem set_drop{α:Type}(l:List α)(i:Nat)(a:α)(h:i<l.length):(l.set i a).drop i=a::l.drop (i+1):=by rw[<- abJ (by rw[akJ];exact h),List.getElem_set_self,List.drop_set_of_lt (by omega)]
def byt(l:List Int):anY:=l.map fun y=>UInt8.ofNat (Int.toNat y)
theorem anT{α:Type}(l:List α)(a:Nat)(h:l.length=20)(h2:a<=20):cut l (a:Int) 20=l.drop a:=by unfold cut;rw[aaY];exact aeV (by rw[ach];omega)
theorem av5{f u:Nat}(h:u<10):oW (f+1) u=[dg u]:=by unfold oW;rw[if_pos h]
theorem av6{f u:Nat}(h:¬ u<10):oW (f+1) u=oW f (u / 10)++[dg (u%10)]:=by rw[oW,if_neg h]
theorem Bp(x:Int)(hx : -9223372036854775808<=x/\x<=9223372036854775807):(qD x).isSome=true->gv (qD x)=bA x:=by
 refine part rfl (fun r=>r=bA x) (fun | .e y=>y=x | .h0 v0 v1 v2 v3=>v1=decide (x<0)/\1<=v0/\v0<=20/\0<=v2/\v2<=9223372036854775808/\v3.length=20/\v2.toNat<10 ^ v0.toNat/\oW v0.toNat v2.toNat++byt (v3.drop v0.toNat)=Kq x.natAbs) rfl ?_;have hT:bA x=bif decide (x<0)then 45::Kq x.natAbs else Kq x.natAbs:=by
  unfold bA;by_cases h:x<0
  ·rw[dT h,cond_true,cond_true,show(-x).toNat=x.natAbs by omega]
  ·rw[dF h,cond_false,cond_false,show x.toNat=x.natAbs by omega]
 rintro(y | ⟨v0,v1,v2,v3⟩) hs
 ·cases hs;simp only[dR,xq,wu64];refine⟨fun h=>⟨trivial,by decide,by decide,by omega,by omega,rfl,Nat.lt_of_le_of_lt (show _<=9223372036854775808 by omega) (by decide),?_⟩,fun h=>⟨trivial,by decide,by decide,by omega,by omega,rfl,Nat.lt_of_le_of_lt (show _<=9223372036854775808 by omega) (by decide),?_⟩⟩
  ·rw[show((0-x%18446744073709551616)%18446744073709551616).toNat=x.natAbs by omega];show oW 20 x.natAbs++[]=_;rw[acg];rfl
  ·rw[show(x%18446744073709551616).toNat=x.natAbs by omega];show oW 20 x.natAbs++[]=_;rw[acg];rfl
 ·obtain⟨rfl,h1,h2,h3,h4,h5,h7,h6⟩:=hs;obtain⟨a,rfl⟩:∃a:Nat,v0=((a+1:Nat):Int):=⟨(v0-1).toNat,by omega⟩
  obtain⟨u,rfl⟩:∃u:Nat,v2=(u:Int):=⟨v2.toNat,by omega⟩
  have w1:au (((a+1:Nat):Int)-1)=(a:Int):=by rw[bX (by omega)];omega
  have e1:Int.tmod (u:Int) 10=((u%10:Nat):Int):=rfl;have e2:Int.tdiv (u:Int) 10=((u / 10:Nat):Int):=rfl;have e3:nL (a:Int)=a:=by rw[aiJ];omega
  have e4:IntKind.wrap .u64 ((u / 10:Nat):Int)=((u / 10:Nat):Int):=DU (by omega) (by omega);rw[aaY,aaY]at h6 h7;simp only[aK,aW,xq,w1,e1,e2,e3,e4];have hd:∀t:List Int,byt ((v3.set a (IntKind.wrap .u8 (IntKind.wrap .u64 (48+((u%10:Nat):Int))))).drop a)=dg (u%10)::byt (v3.drop (a+1)):=fun _=>by rw[set_drop v3 a _ (by omega)];show UInt8.ofNat (Int.toNat (IntKind.wrap .u8 (IntKind.wrap .u64 (48+((u%10:Nat):Int)))))::byt _=_;rw[aqz (by omega) (by omega),aaY]
  have hd:=hd [];simp only[dR];intro _ _ _ _;refine⟨fun hz=>?_,fun hz=>?_⟩
  ·have hu:u<10:=by
    have:((u / 10:Nat):Int)=0:=hz;omega
   rw[av5 hu,afL]at h6;rw[Nat.mod_eq_of_lt hu]at hd;refine⟨fun hn=>?_,fun hn=>?_⟩
   ·intro i1 i2 i3;have hn':decide (x<0)=true:=decide_eq_true hn;have ha:1<=a:=by
     have:=i1.1;by_cases h0:a=0
     ·subst h0;exact absurd this (by decide)
     ·omega
    obtain⟨c,rfl⟩:∃c,a=c+1:=⟨a-1,by omega⟩
    have w2:au (((c+1:Nat):Int)-1)=(c:Int):=by rw[bX (by omega)];omega
    have e5:nL (c:Int)=c:=by rw[aiJ];omega
    rw[w2,e5,anT _ c (by rw[akJ,akJ];exact h5) (by omega),set_drop _ c _ (by rw[akJ];omega)];rw[hT,hn',cond_true,<- h6];show _::byt _=_;rw[Nat.mod_eq_of_lt hu,hd];rfl
   ·intro i1;have hn':decide (x<0)=false:=decide_eq_false hn;rw[anT _ a (by rw[akJ];exact h5) (by omega),hT,hn',cond_false,<- h6,Nat.mod_eq_of_lt hu];exact hd
  ·have hu:¬ u<10:=fun h=>by
    have h0:u / 10=0:=by omega
    rw[h0]at hz;cases hz
   rw[av6 hu,ab9,afL]at h6;have ha:1<=a:=by
    by_cases h0:a=0
    ·subst h0;omega
    ·omega
   refine⟨trivial,by omega,by omega,by omega,by omega,by rw[akJ];exact h5,?_,?_⟩
   ·rw[aaY,aaY];rw[Nat.pow_succ]at h7;omega
   rw[aaY,aaY,hd];exact h6
theorem av7{k:Nat}(h:k<=19):10 ^ k<=10000000000000000000:=by
 have:=Nat.pow_le_pow_right (show 0<10 by omega) h;have e:(10:Nat) ^ 19=10000000000000000000:=by decide
 omega
theorem ajY:∀(s:anY) (n:Nat),n*10 ^ s.length<=bD s n
 | [],n=>by simp[bD]
 | c::t,n=>by have:=ajY t (n*10+(c.toNat-48));unfold bD;refine Nat.le_trans ?_ this;rw[List.length_cons,Nat.pow_succ,am7 (10 ^ t.length) 10,<- Nat.mul_assoc];exact afp _ (by omega)
theorem as2{s:anY}(h:eP s=true)(hl:19<s.length):10000000000000000000<=bD s 0:=by
 match s,h,hl with
 | [],_,hl=>simp at hl
 | [_],_,hl=>simp at hl
 | c::d::t,h,hl =>
  simp only[eP,G7,abK,afo,ah3]at h;have hc:=xZ.1 h.2.1;have h48:c.toNat≠48:=fun e=>by have:c=48:=UInt8.toNat_inj.1 e;subst this;exact absurd h.1 (by decide)
  have h1:=ajY (d::t) (0*10+(c.toNat-48));have h2:10 ^ 19<=10 ^ (d::t).length:=Nat.pow_le_pow_right (by omega) (by simp only[List.length_cons]at hl ⊢;omega);have e:(10:Nat) ^ 19=10000000000000000000:=by decide
  have h3:1*10 ^ (d::t).length<=(0*10+(c.toNat-48))*10 ^ (d::t).length:=afp _ (by omega);show 10000000000000000000<=bD (d::t) (0*10+(c.toNat-48));omega
theorem ay1(s:anY):G7 s=(bif((s.length:Int)==0)then true else(bif(decide ((1:Int)<(s.length:Int)))then((((s.getD (Int.toNat 0) 0).toNat:Nat):Int)==48)else false)):=by
 match s with
 | []=>rfl
 | [c]=>rfl
 | c::d::t =>
  have h1:(((c::d::t).length:Int)==0)=false:=by rw[afB,List.length_cons];omega
  have h2:decide ((1:Int)<((c::d::t).length:Int))=true:=decide_eq_true (by simp only[List.length_cons];omega);rw[h1,h2];show(c==48)=(((c.toNat:Nat):Int)==48)
  rw[c48]
theorem JB(s:anY)(hs:s.length<=1000000):lW s=some (eP s):=by
 refine iB rfl (fun | .e y=>y=s | .h0 v0 v1=>v0=s/\0<=v1/\v1<=(s.length:Int)/\(s.drop v1.toNat).all fC=eP s) (fun | .e _=>10000000000 | .h0 _ v1=>((s.length:Int)-v1).toNat) rfl (by show 10000000000<_;omega) ?_;rintro(y | ⟨v0,v1⟩) hs'
 ·cases hs';have e:eP s=(!(G7 s)&&s.all fC):=rfl;have hl:=ay1 s;simp only[aK,aW,lV];rw[<- hl];cases hb:G7 s with
  | true =>
   rw[hb]at e hl;simp only[bC]
   (repeat' (first|intro _|apply And.intro))<;>grind
  | false =>
   rw[hb]at e hl;simp only[bC]
   (repeat' (first|intro _|apply And.intro))<;>grind[acC]
 ·obtain⟨rfl,h1,h2,h3⟩:=hs';have e1:=@bX (v1+1);by_cases hi:v1<(v0.length:Int)
  ·rw[fB v0 0 h1 hi,afo]at h3;simp only[aK,aW,lV];rw[decide_eq_true hi,cond_true,wS];refine⟨h1,hi,?_⟩;generalize v0.getD v1.toNat 0=c at h3 ⊢;rw[Qk];cases hc:fC c with
   | false =>
    rw[hc]at h3;simp only[bC]
    (repeat' (first|intro _|apply And.intro))<;>grind
   | true =>
    rw[hc]at h3;simp only[bC]
    (repeat' (first|intro _|apply And.intro))<;>grind
  ·rw[iE v0 (by omega),List.all_nil]at h3;simp only[bC,lV]
   (repeat' (first|intro _|apply And.intro))<;>grind
theorem JC(s:anY)(hs:s.length<=1000000)(hd:s.all fC=true):lX s=some (jc s):=by
 refine iB rfl (fun | .e y=>y=s | .h0 v0 v1 v2=>v0=s/\0<=v2/\v2<=(s.length:Int)/\∃n:Nat,v1=(n:Int)/\n<72057594037927936/\Mw (bD (s.drop v2.toNat) n)=jc s) (fun | .e _=>10000000000 | .h0 _ _ v2=>((s.length:Int)-v2).toNat) rfl (by show 10000000000<_;omega) ?_;rintro(y | ⟨v0,v1,v2⟩) hs'
 ·cases hs';refine⟨⟨rfl,by decide,by omega,0,rfl,by decide,rfl⟩,?_⟩;show((s.length:Int)-0).toNat<10000000000;omega
 ·obtain⟨rfl,h1,h2,n,rfl,h3,h4⟩:=hs';simp only[aK,aW,vL];by_cases hi:v2<(v0.length:Int)
  ·have hc:=xZ.1 (afE.1 hd _ (gM v0 0 h1 hi));rw[fB v0 0 h1 hi,bD]at h4;rw[decide_eq_true hi,cond_true,wS];refine⟨h1,hi,?_⟩;generalize v0.getD v2.toNat 0=c at hc h4 ⊢;have e4:au (au (au ((n:Int)*10)+au ((c.toNat:Int)))-48)=((n*10+(c.toNat-48):Nat):Int):=by
    rw[aT (n:=(n:Int)*10) (by omega) (by omega),aT (n:=(c.toNat:Int)) (by omega) (by omega),aT (n:=(n:Int)*10+_) (by omega) (by omega),aT (by omega) (by omega)];omega
   rw[e4];by_cases hn:72057594037927936<=n*10+(c.toNat-48)
   ·have:=XC (v0.drop (v2+1).toNat) (n*10+(c.toNat-48));rw[dT (by omega),cond_true,<- h4,Ql (by omega)]
   ·rw[dF (by omega),cond_false,bX (by omega)];refine⟨⟨trivial,by omega,by omega,_,rfl,by omega,h4⟩,?_⟩;show((v0.length:Int)-(v2+1)).toNat<((v0.length:Int)-v2).toNat;omega
  ·rw[iE v0 (by omega),bD,Ci h3]at h4;rw[decide_eq_false hi,cond_false];exact h4
theorem qo(s:anY)(most:Int)(hs:s.length<=1000000)(hm:0<=most/\most<=9223372036854775807):dL s most=some (gB s most):=by
 refine iB rfl (fun | .e y0 y1=>y0=s/\y1=most | .h0 v0 v1 v2 v3=>v0=s/\v1=most/\0<=v3/\v3<=(s.length:Int)/\s.length<=19/\s.all fC=true/\∃n:Nat,v2=(n:Int)/\(n+1)*10 ^ (s.length-v3.toNat)<=10000000000000000000/\Cj most (bD (s.drop v3.toNat) n)=gB s most) (fun | .e _ _=>10000000000 | .h0 _ _ _ v3=>((s.length:Int)-v3).toNat) ⟨rfl,rfl⟩ (by show 10000000000<_;omega) ?_;rintro(⟨y0,y1⟩ | ⟨v0,v1,v2,v3⟩) hs'
 ·obtain⟨rfl,rfl⟩:=hs';simp only[aK,aW,pY,JB y0 hs,aD,dF (show ¬ y1<0 by omega),cond_false];have e:gB y0 y1=bif !(eP y0)then(0,3)else Cj y1 (bD y0 0):=rfl
  cases hw:eP y0 with
  | false=>rw[hw]at e;exact e.symm
  | true =>
   rw[hw]at e;have e:gB y0 y1=Cj y1 (bD y0 0):=e;rw[ab7,cond_false];by_cases hl:(19:Int)<(y0.length:Int)
   ·have:=as2 hw (by omega);rw[dT hl,cond_true,e,EI (by omega)]
   ·rw[dF hl,cond_false];have hall:y0.all fC=true:=by
     unfold eP at hw;rw[abK]at hw;exact hw.2
    refine⟨⟨trivial,trivial,by decide,by omega,by omega,hall,0,rfl,?_,e.symm⟩,?_⟩
    ·show(0+1)*10 ^ (y0.length-0)<=_;rw[am6];have:=av7 (k:=y0.length) (by omega);omega
    ·show((y0.length:Int)-0).toNat<10000000000;omega
 ·obtain⟨rfl,rfl,h1,h2,h3,h4,n,rfl,h5,h6⟩:=hs';simp only[aK,aW,pY];by_cases hi:v3<(v0.length:Int)
  ·have hc:=xZ.1 (afE.1 h4 _ (gM v0 0 h1 hi));rw[fB v0 0 h1 hi,bD]at h6;rw[decide_eq_true hi,cond_true,wS];refine⟨h1,hi,?_⟩;generalize v0.getD v3.toNat 0=c at hc h6 ⊢;have ep:v0.length-v3.toNat=(v0.length-(v3+1).toNat)+1:=by omega
   have aEM:1<=10 ^ (v0.length-(v3+1).toNat):=Nat.one_le_pow _ _ (by omega);rw[ep,Nat.pow_succ,am7 (10 ^ _) 10,<- Nat.mul_assoc]at h5;have h7:(n*10+(c.toNat-48)+1)*10 ^ (v0.length-(v3+1).toNat)<=(n+1)*10*10 ^ (v0.length-(v3+1).toNat):=afp _ (by omega);have h8:(n+1)*10<=10000000000000000000:=Nat.le_trans (aj8 _ aEM) h5;have e4:IntKind.wrap .u64 (IntKind.wrap .u64 (IntKind.wrap .u64 ((n:Int)*10)+IntKind.wrap .u64 ((c.toNat:Int)))-48)=((n*10+(c.toNat-48):Nat):Int):=by rw[DU (n:=(n:Int)*10) (by omega) (by omega),DU (n:=(c.toNat:Int)) (by omega) (by omega),DU (n:=(n:Int)*10+_) (by omega) (by omega),DU (by omega) (by omega)];omega
   rw[e4,bX (by omega)];refine⟨⟨trivial,trivial,by omega,by omega,h3,h4,_,rfl,by omega,h6⟩,?_⟩;show((v0.length:Int)-(v3+1)).toNat<((v0.length:Int)-v3).toNat;omega
  ·rw[iE v0 (by omega),bD]at h6;rw[show v0.length-v3.toNat=0 by omega]at h5;rw[decide_eq_false hi,cond_false,DU (by omega) (by omega),<- h6];by_cases h:v1<(n:Int)
   ·rw[dT h,EI h];rfl
   ·rw[dF h,EJ h,aT (by omega) (by omega)];rfl
def fJ:anY->Nat
 | []=>0
 | c::t=>bif fC c then fJ t+1 else 0
theorem ajZ:∀s:anY,fJ s<=s.length
 | []=>ab8 _
 | c::t=>by
  unfold fJ;have:=ajZ t;cases fC c with
  | true=>rw[cond_true,List.length_cons];omega
  | false=>exact aa4 _
def bS:Nat->Nat
 | 0=>3600000
 | 1=>60000
 | 2=>1000
 | _=>1
def gU:anY->Nat×Nat
 | []=>(0,0)
 | c::t=>bif(((c.toNat:Nat):Int)==104)then(0,1)
  else bif(((c.toNat:Nat):Int)==109)then(match t with
   | []=>(1,1)
   | d::_=>bif(((d.toNat:Nat):Int)==115)then(3,2)else(1,1))
  else bif(((c.toNat:Nat):Int)==115)then(2,1)else(0,0)
theorem aCr(s:anY):(gU s).2<=s.length/\(gU s).1<=3/\(gU s).2<=2:=by
 match s with
 | []=>simp[gU]
 | [c] =>simp only[gU];cases(((c.toNat:Nat):Int)==104)<;>cases(((c.toNat:Nat):Int)==109)<;>cases(((c.toNat:Nat):Int)==115)<;>simp
 | c::d::t =>simp only[gU];cases(((c.toNat:Nat):Int)==104)<;>cases(((c.toNat:Nat):Int)==109)<;>cases(((d.toNat:Nat):Int)==115)<;>cases(((c.toNat:Nat):Int)==115)<;>simp
def gH(s:anY):anY:=s.take (fJ s)
def gX(s:anY):Nat×Nat:=gU (s.drop (fJ s))
def gR(s:anY):anY:=s.drop (fJ s+(gX s).2)
theorem axl(s:anY):fJ s+(gX s).2<=s.length/\(gX s).1<=3/\(gX s).2<=2:=by have h:=aCr (s.drop (fJ s));have:=ajZ s;rw[ach]at h;unfold gX;omega
theorem as3(s:anY):(gH s).length<=s.length:=by unfold gH;rw[acu];omega
theorem ab2(s:anY):(gR s).length=s.length-(fJ s+(gX s).2):=by unfold gR;rw[ach]
def G8(last:Int)(s:anY):Bool:=bif(bif(bif(gX s).2==0 then true else !(eP (gH s)))then true else decide (((gX s).1:Int)<=last))then true else bif gH s==[48]then(bif decide (0<=last)then true else decide ((0:Int)<((gR s).length:Int)))else false
def qG:Nat->Int->anY->Option Nat
 | 0,_,_=>none
 | f+1,last,s=>bif s==[]then(bif decide (last<0)then none else some 0)else
  bif G8 last s then none else(qG f (gX s).1 (gR s)).map (bD (gH s) 0*bS (gX s).1 + ·)
def G9:Option Nat->Int×Int
 | none=>(0,3)
 | some t=>bif decide ((1099511627776:Int)<(t:Int))then(0,9)else((t:Int),0)
def yZ(s:anY):Int×Int:=G9 (qG (s.length+1) (-1) s)
def wm(s:anY):Int:=(yZ s).1
def adR(s:anY):Int:=(yZ s).2
theorem av8{f:Nat}{last:Int}{s:anY}(hs:s≠[])(h:G8 last s=true):qG (f+1) last s=none:=by
 have:(s==[])=false:=by simpa using hs
 rw[qG,this,h];rfl
theorem afH{f:Nat}{last:Int}{s:anY}(hs:s≠[])(h:G8 last s=false)(T:Nat):(qG (f+1) last s).map (T + ·)=(qG f (gX s).1 (gR s)).map ((T+bD (gH s) 0*bS (gX s).1) + ·):=by
 have:(s==[])=false:=by simpa using hs
 rw[qG,this,h];cases qG f (gX s).1 (gR s)with
 | none=>rfl
 | some t=>simp[ajU]
theorem afI{f:Nat}{last:Int}{s:anY}(hs:s≠[])(h:G8 last s=true)(T:Nat):(qG (f+1) last s).map (T + ·)=none:=by rw[av8 hs h];rfl
theorem anU{last:Int}{s:anY}(h:G8 last s=false):(gX s).2≠0/\eP (gH s)=true/\last<((gX s).1:Int):=by
 unfold G8 at h;by_cases h1:(gX s).2=0
 ·rw[show((gX s).2==0)=true from by rw[h1];rfl]at h;cases h
 ·have e1:((gX s).2==0)=false:=by simpa using h1
  rw[e1,cond_false]at h;cases h2:eP (gH s)with
  | false=>rw[h2]at h;cases h
  | true =>
   rw[h2]at h;by_cases h3:((gX s).1:Int)<=last
   ·rw[dT h3]at h;cases h
   ·exact⟨h1,rfl,by omega⟩
theorem ab3{h:anY}(hw:eP h=true):(bD h 0==0)=(h==[48]):=by
 unfold eP at hw;rw[abK]at hw
 match h,hw with
 | [],hw=>cases hw.1
 | [c],hw =>
  have hd:fC c=true:=by simpa using hw.2
  have:=xZ.1 hd;by_cases h48:c=48
  ·subst h48;rfl
  ·have e1:([c]==[(48:UInt8)])=false:=by simpa using h48
   have:c.toNat≠48:=fun e=>h48 (UInt8.toNat_inj.1 e)
   rw[e1];show((0*10+(c.toNat-48))==0)=false;simp;omega
 | c::d::t,hw =>
  have e1:((c::d::t)==[(48:UInt8)])=false:=by simp
  have h48:(c==48)=false:=by simpa[G7]using hw.1
  have hd:fC c=true:=by have:=hw.2;rw[afo,abK]at this;exact this.1
  have:=xZ.1 hd;have hne:c.toNat≠48:=fun e=>by rw[UInt8.toNat_inj.1 (show c.toNat=(48:UInt8).toNat from e)]at h48;cases h48
  have hb:=XC (d::t) (0*10+(c.toNat-48));have:bD (c::d::t) 0=bD (d::t) (0*10+(c.toNat-48)):=rfl;rw[e1,this];simp only[afB];omega
theorem ab4(u:Nat):1<=bS u/\bS u<=3600000:=by unfold bS;split<;>omega
def duP(s:anY):Int:=bif(gU s).2==0 then 0 else((gU s).1:Int)+1
def duL(s:anY):Int:=bif(gU s).2==0 then 0 else(bS (gU s).1:Int)
def duS(s:anY):Int:=((gU s).2:Int)
theorem div_lt{T v:Nat}(u:Nat)(hu:u<=3)(hT:T<=1099511627776):decide (Int.tdiv (1099511627776-(T:Int)) (bS u:Int)<(v:Int))=decide (1099511627776<T+v*bS u):=by
 rw[afQ (by omega)];have:u=0\/u=1\/u=2\/u=3:=by omega
 rcases this with rfl | rfl | rfl | rfl<;>exact decide_eq_decide.2 (by simp only[bS];omega)
theorem agD(s:anY)(hs:s.length<=1000000):(oD s).isSome=true->gv (oD s)=(fJ s:Int):=by
 refine part rfl (fun r=>r=(fJ s:Int)) (fun | .e y=>y=s | .h0 v0 v1=>v0=s/\0<=v1/\v1<=(s.length:Int)/\(fJ s:Int)=v1+fJ (s.drop v1.toNat)) rfl ?_;rintro(y | ⟨v0,v1⟩) hs'
 ·cases hs';simp only[dR,uQ]
  (repeat' (first|intro _|apply And.intro))<;>grind[acC]
 ·obtain⟨rfl,h1,h2,h3⟩:=hs';simp only[dR,uQ];have e1:=@bX (v1+1);by_cases hi:v1<(v0.length:Int)
  ·rw[fB v0 0 h1 hi,fJ]at h3;generalize v0.getD v1.toNat 0=c at h3 ⊢
   (repeat' (first|intro _|apply And.intro))<;>grind[fC]
  ·rw[iE v0 (by omega),fJ]at h3
   (repeat' (first|intro _|apply And.intro))<;>grind
theorem aqA(s:anY):(pX s).isSome=true->gv (pX s)=(duP s,duL s,duS s):=by
 refine gZ rfl ?_;simp only[dR,K5]
 match s with
 | []=>((repeat' (first|intro _|apply And.intro))<;>grind[duP,duL,duS,gU])
 | [c] =>
  have g0:List.getD [c] (Int.toNat 0) 0=c:=rfl;rw[g0]
  (repeat' (first|intro _|apply And.intro))<;>grind[duP,duL,duS,gU,bS]
 | c::d::t =>
  have g0:List.getD (c::d::t) (Int.toNat 0) 0=c:=rfl;have g1:List.getD (c::d::t) (Int.toNat 1) 0=d:=rfl;rw[g0,g1]
  (repeat' (first|intro _|apply And.intro))<;>grind[duP,duL,duS,gU,bS]
theorem EK{α:Type}(l:List α)(i:Int):cut l i (l.length:Int)=l.drop i.toNat:=by unfold cut;rw[aaY];exact aeV (by rw[ach];exact ab8 _)
theorem aj0{α:Type}(l:List α){i:Int}(h:0<=i)(k:Nat):cut l i (i+k)=(l.drop i.toNat).take k:=by unfold cut;rw[show(i+(k:Int)).toNat-i.toNat=k by omega]
theorem as7(h:anY):((gB h 1099511627776).2==3) = !(eP h)/\(eP h=true->gB h 1099511627776=Cj 1099511627776 (bD h 0)):=by
 unfold gB;cases eP h with
 | false=>exact⟨rfl,fun h=>by cases h⟩
 | true =>
  simp only[ab7,cond_false];refine⟨?_,fun _=>trivial⟩;by_cases h1:(1099511627776:Int)<(bD h 0:Int)
  ·rw[EI h1];rfl
  ·rw[EJ h1];rfl
set_option maxHeartbeats 1000000 in
theorem aml(s:anY)(hs:s.length<=1000000):(Jj s).isSome=true->gv (Jj s)=yZ s:=by
 refine part rfl (fun r=>r=yZ s) (fun | .e y=>y=s | .h0 v0 v1 v2 v3 v4=>v0=s/\0<=v4/\v4<=(s.length:Int)/\0<=v2/\v2<=4/\(v2=0->v4=0)/\∃(T f:Nat),s.length-v4.toNat<f/\G9 ((qG f (v2-1) (s.drop v4.toNat)).map (T + ·))=yZ s/\(v3=false->v1=(T:Int)/\T<=1099511627776)/\(v3=true->1099511627776<T)) rfl ?_;rintro(y | ⟨v0,v1,v2,v3,v4⟩) hs'
 ·cases hs';refine⟨rfl,by decide,by show(0:Int)<=_;omega,by decide,by decide,fun _=>rfl,0,s.length+1,by show s.length-0<_;omega,?_,fun _=>⟨rfl,by decide⟩,fun h=>by cases h⟩;show G9 ((qG (s.length+1) (-1) s).map (0 + ·))=G9 (qG (s.length+1) (-1) s);cases qG (s.length+1) (-1) s with
  | none=>rfl
  | some t=>simp
 ·obtain⟨rfl,h1,h2,h3,h4,h5,T,f,h6,h7,h8,h9⟩:=hs';obtain⟨i,rfl⟩:∃i:Nat,v4=(i:Int):=⟨v4.toNat,by omega⟩
  obtain⟨g,rfl⟩:∃g,f=g+1:=⟨f-1,by omega⟩
  rw[aaY]at h6 h7;simp only[aK,aW,Di];by_cases hend:(bif(decide ((i:Int)<(v0.length:Int)))then true else(v2==(0:Int)))=true
  ·
   rw[hend,cond_true,EK];rw[aaY];generalize ht:v0.drop i=t at h7 ⊢;have htl:t.length=v0.length-i:=by rw[<- ht,ach]
   simp only[dR];intro _ i1;rw[agD t (by omega) i1];have hp:=ajZ t;obtain⟨x1,x2,x3⟩:=axl t;have e1:au ((i:Int)+(fJ t:Int))=((i+fJ t:Nat):Int):=by rw[bX (by omega)];omega
   rw[e1];have e2:cut v0 (i:Int) ((i+fJ t:Nat):Int)=gH t:=by rw[show((i+fJ t:Nat):Int)=(i:Int)+(fJ t:Nat) by omega,aj0 v0 (by omega),aaY,ht];rfl
   have e3:cut v0 ((i+fJ t:Nat):Int) (v0.length:Int)=t.drop (fJ t):=by rw[EK,aaY,<- ht,akA]
   rw[e2,e3];have hgl:=as3 t;rw[uW (gH t) 1099511627776 (yX.2 ⟨⟨by omega,by decide⟩,by decide⟩),count_eq _ (by decide),dO];intro _ _ _ i2;rw[aqA _ i2];dsimp only;obtain⟨f1,f2⟩:=as7 (gH t);have hdu:duP (t.drop (fJ t))=(bif(gX t).2==0 then(0:Int)else((gX t).1:Int)+1):=rfl;have hdl:duL (t.drop (fJ t))=(bif(gX t).2==0 then(0:Int)else(bS (gX t).1:Int)):=rfl;have hds:duS (t.drop (fJ t))=((gX t).2:Int):=rfl;have hgr:=ab2 t;have e4:au (((i+fJ t:Nat):Int)+((gX t).2:Int))=((i+fJ t+(gX t).2:Nat):Int):=by rw[bX (by omega)];omega
   rw[hdu,hdl,hds,e4];have hR:((0:Int)<((gR t).length:Int))↔((i+fJ t+(gX t).2:Nat):Int)<(v0.length:Int):=by rw[hgr,htl];omega
   have hdrop:v0.drop (i+fJ t+(gX t).2)=gR t:=by unfold gR;rw[<- ht,akA,show i+(fJ (v0.drop i)+(gX (v0.drop i)).2)=i+fJ (v0.drop i)+(gX (v0.drop i)).2 by omega]
   by_cases ht0:t=[]
   ·have hv:v2=0:=by
     have:t.length=0:=by rw[ht0];rfl
     rw[decide_eq_false (show ¬ ((i:Int)<(v0.length:Int)) by omega)]at hend;simpa using hend
    have q:G9 ((qG (g+1) (v2-1) t).map (T + ·))=(0,3):=by rw[ht0,hv];rfl
    rw[q]at h7;have z:(gX t).2=0:=by rw[ht0];rfl
    rw[z]at *
    (repeat' (first|intro _|apply And.intro))<;>grind
   ·have hw0:=@ab3 (gH t);have ho:Cj 1099511627776 (bD (gH t) 0)=bif decide ((1099511627776:Int)<(bD (gH t) 0:Int))then(0,9)else((bD (gH t) 0:Int),0):=rfl
    cases hbad:G8 (v2-1) t with
    | true =>
     have q:G9 ((qG (g+1) (v2-1) t).map (T + ·))=(0,3):=by rw[afI ht0 hbad];rfl
     rw[q]at h7;unfold G8 at hbad;generalize eP (gH t)=w at *;generalize bD (gH t) 0=N at *;generalize gB (gH t) 1099511627776=cp at *;generalize (gH t==[48])=b48 at *
     (repeat' (first|intro _|apply And.intro))<;>grind
    | false =>
     rw[afH ht0 hbad]at h7;obtain⟨g1,g2,g3⟩:=anU hbad;obtain⟨l1,l2⟩:=ab4 (gX t).1;have hz:((gX t).2==0)=false:=by simpa using g1
     have hcp:=f2 g2;have hnz:=hw0 g2;rw[hz,cond_false,cond_false,f1,g2];have k1:decide (((gX t).1:Int)+1<=v2)=false:=decide_eq_false (by omega);have k2:(((gX t).2:Int)==0)=false:=by simpa using g1
     have k3:((bS (gX t).1:Int)==0)=false:=by simp only[afB];omega
     rw[k1,k2];have hB:(bif(bif((gB (gH t) 1099511627776).2==(0:Int))then((gB (gH t) 1099511627776).1==(0:Int))else false)then(bif(decide ((0:Int)<v2))then true else(decide (((i+fJ t+(gX t).2:Nat):Int)<(v0.length:Int))))else false)=false:=by
      unfold G8 at hbad;rw[hz,cond_false,g2,ab7,cond_false,decide_eq_false (show ¬ ((gX t).1:Int)<=v2-1 by omega),cond_false]at hbad;rw[hcp,ho];rw[<- hnz]at hbad;have hd1:decide (0<=v2-1)=decide (0<v2):=decide_eq_decide.2 (by omega);have hd2:decide ((0:Int)<((gR t).length:Int))=decide (((i+fJ t+(gX t).2:Nat):Int)<(v0.length:Int)):=decide_eq_decide.2 hR;rw[hd1,hd2]at hbad;by_cases hM:(1099511627776:Int)<(bD (gH t) 0:Int)
      ·rw[decide_eq_true hM];rfl
      ·rw[decide_eq_false hM];have:((bD (gH t) 0:Int)==0)=(bD (gH t) 0==0):=by
        by_cases h:bD (gH t) 0=0
        ·rw[h];rfl
        ·rw[show(bD (gH t) 0==0)=false by simpa using h];simp only[afB];omega
       show(bif(bif((0:Int)==0)then((bD (gH t) 0:Int)==0)else false)then _ else false)=false;rw[this];exact hbad
     rw[hB];have hinv:∀(b:Bool) (v1':Int),(b=false->v1'=((T+bD (gH t) 0*bS (gX t).1:Nat):Int)/\T+bD (gH t) 0*bS (gX t).1<=1099511627776)->(b=true->1099511627776<T+bD (gH t) 0*bS (gX t).1)->True/\0<=((i+fJ t+(gX t).2:Nat):Int)/\((i+fJ t+(gX t).2:Nat):Int)<=(v0.length:Int)/\0<=((gX t).1:Int)+1/\((gX t).1:Int)+1<=4/\(((gX t).1:Int)+1=0->((i+fJ t+(gX t).2:Nat):Int)=0)/\∃(T' f':Nat),v0.length-(((i+fJ t+(gX t).2:Nat):Int)).toNat<f'/\G9 ((qG f' (((gX t).1:Int)+1-1) (v0.drop (((i+fJ t+(gX t).2:Nat):Int)).toNat)).map (T' + ·))=yZ v0/\(b=false->v1'=(T':Int)/\T'<=1099511627776)/\(b=true->1099511627776<T'):=fun b v1' q1 q2=>by refine⟨trivial,by omega,by omega,by omega,by omega,fun h=>by omega,T+bD (gH t) 0*bS (gX t).1,g,by rw[aaY];omega,?_,q1,q2⟩;rw[aaY,hdrop,show((gX t).1:Int)+1-1=((gX t).1:Int) by omega];exact h7
     rw[k3];refine⟨fun h=>(by cases h),fun _=>⟨fun h=>(by cases h),fun _ _=>⟨fun hC=>?_,fun hC=>?_⟩⟩⟩
     ·refine hinv _ _ (fun _=>?_) (fun hb=>absurd (hC.symm.trans hb) (by decide));cases v3 with
      | true=>cases hC
      | false =>
       obtain⟨rfl,hT⟩:=h8 rfl;rw[hcp,ho]at hC ⊢;by_cases hM:(1099511627776:Int)<(bD (gH t) 0:Int)
       ·rw[decide_eq_true hM]at hC;cases hC
       ·rw[decide_eq_false hM]at hC ⊢;have hC:decide (au ((au (1099511627776-(T:Int))).tdiv (bS (gX t).1:Int))<(bD (gH t) 0:Int))=false:=hC;rw[bX (n:=1099511627776-(T:Int)) (by omega),bX (by
         have:((1099511627776-(T:Int)).tdiv (bS (gX t).1:Int)).natAbs=(1099511627776-(T:Int)).natAbs / (bS (gX t).1:Int).natAbs:=Int.natAbs_tdiv _ _;have h2:=Nat.div_le_self (1099511627776-(T:Int)).natAbs (bS (gX t).1:Int).natAbs;omega),div_lt (gX t).1 x2 hT,decide_eq_false_iff_not]at hC
        refine⟨?_,by omega⟩;show au ((T:Int)+au ((bD (gH t) 0:Int)*(bS (gX t).1:Int)))=_;rw[<- Int.natCast_mul,bX (n:=((bD (gH t) 0*bS (gX t).1:Nat):Int)) (by omega),bX (by omega)];omega
     ·rw[Bool.not_eq_false']at hC;refine hinv _ _ (fun hb=>absurd (hC.symm.trans hb) (by decide)) (fun _=>?_);cases v3 with
      | true=>have:=h9 rfl;omega
      | false =>
       obtain⟨rfl,hT⟩:=h8 rfl;rw[hcp,ho]at hC;by_cases hM:(1099511627776:Int)<(bD (gH t) 0:Int)
       ·have:=aj8 (bD (gH t) 0) (show 0<bS (gX t).1 by omega);omega
       ·rw[decide_eq_false hM]at hC;have hC:decide (au ((au (1099511627776-(T:Int))).tdiv (bS (gX t).1:Int))<(bD (gH t) 0:Int))=true:=hC;rw[bX (n:=1099511627776-(T:Int)) (by omega),bX (by
         have:((1099511627776-(T:Int)).tdiv (bS (gX t).1:Int)).natAbs=(1099511627776-(T:Int)).natAbs / (bS (gX t).1:Int).natAbs:=Int.natAbs_tdiv _ _;have h2:=Nat.div_le_self (1099511627776-(T:Int)).natAbs (bS (gX t).1:Int).natAbs;omega),div_lt (gX t).1 x2 hT,ab6]at hC
        exact hC
  ·have hc:(bif(decide ((i:Int)<(v0.length:Int)))then true else(v2==(0:Int)))=false:=by simpa using hend
   rw[hc,cond_false];have hi:v0.length<=i/\v2≠0:=by
    by_cases h:(i:Int)<(v0.length:Int)
    ·rw[decide_eq_true h]at hc;cases hc
    ·rw[decide_eq_false h]at hc;exact⟨by omega,by simpa using hc⟩
   rw[abb hi.1,qG,show(([]:anY)==[])=true from rfl,cond_true,decide_eq_false (show ¬ v2-1<0 by omega),cond_false,ahT,afS,G9]at h7;simp only[dR]
   (repeat' (first|intro _|apply And.intro))<;>grind
def Bq:Nat->anY
 | 0=>[104]
 | 1=>[109]
 | 2=>[115]
 | _=>[109,115]
def Qm(n:Int)(i:Nat):anY:=bif decide (0<n / (bS i:Int))then bA (n / (bS i:Int))++Bq i else[]
def JW:Nat->Nat->Int->anY
 | 0,_,_=>[]
 | k+1,i,n=>Qm n i++JW k (i+1) (n%(bS i:Int))
def zF(n:Int):anY:=bif(bif decide (n<0)then true else decide ((1099511627776:Int)<n))then[]else bif n==0 then[48,115]else JW 4 0 n
theorem aEN(v2:U0)(h:v2=⟨(⟨3600000,[104]⟩:yH),⟨60000,[109]⟩,⟨1000,[115]⟩,⟨1,[109,115]⟩⟩)(i:Nat)(hi:i<4):List.getD ([v2.e0,v2.e1,v2.e2,v2.e3]:List yH) i (dflt Ty.BQ)=⟨(bS i:Int),Bq i⟩:=by
 subst h;have:i=0\/i=1\/i=2\/i=3:=by omega
 rcases this with rfl | rfl | rfl | rfl<;>rfl
theorem aqB(x:Int):(K6 x).isSome=true->gv (K6 x)=zF x:=by
 refine part rfl (fun r=>r=zF x) (fun | .e y=>y=x | .h0 v0 v1 v2 v3=>(0<=v0/\v0<=1099511627776)/\v2=⟨(⟨3600000,[104]⟩:yH),⟨60000,[109]⟩,⟨1000,[115]⟩,⟨1,[109,115]⟩⟩/\∃i:Nat,v3=(i:Int)/\i<=4/\v1++JW (4-i) i v0=zF x) rfl ?_;rintro(y | ⟨v0,v1,v2,v3⟩) hs
 ·cases hs;simp only[dR,Ca];refine⟨fun h=>?_,fun h=>⟨fun h2=>?_,fun h2=>?_⟩⟩
  ·unfold zF;rw[h];rfl
  ·unfold zF;rw[h,h2];rfl
  ·have hx:0<=x/\x<=1099511627776:=by
    by_cases h3:x<0
    ·rw[decide_eq_true h3]at h;cases h
    ·rw[decide_eq_false h3,cond_false]at h;have:=of_decide_eq_false h;omega
   refine⟨hx,trivial,0,rfl,by decide,?_⟩;unfold zF;rw[h,show(x==0)=false by simpa using h2];rfl
 ·obtain⟨h1,h2,i,rfl,h4,h5⟩:=hs;simp only[dR,Ca];by_cases hi:i<4
  ·have e:=aEN v2 h2 i hi;rw[aaY,e];dsimp only;obtain⟨l1,l2⟩:=ab4 i;have e1:au ((i:Int)+1)=((i+1:Nat):Int):=by rw[bX (by omega)];omega
   have e2:Int.tdiv v0 (bS i:Int)=v0 / (bS i:Int):=afQ h1.1;have b0:0<=v0 / (bS i:Int):=Int.ediv_nonneg h1.1 (by omega);have b1:v0 / (bS i:Int)*(bS i:Int)<=v0:=Int.ediv_mul_le v0 (by omega);have b2:v0 / (bS i:Int)<=v0 / (bS i:Int)*(bS i:Int):=by have:=Int.mul_le_mul_of_nonneg_left (show(1:Int)<=(bS i:Int) by omega) b0;omega
   have b3:v0%(bS i:Int)=v0-v0 / (bS i:Int)*(bS i:Int):=by have:=Int.emod_add_mul_ediv v0 (bS i:Int);rw[Int.mul_comm];omega
   rw[e1,e2,bX (n:=v0 / (bS i:Int)) (by omega),bX (n:=v0 / (bS i:Int)*(bS i:Int)) (by omega),bX (n:=v0-v0 / (bS i:Int)*(bS i:Int)) (by omega),<- b3];have hT:=Bp (v0 / (bS i:Int)) (by omega);rw[show 4-i=(4-(i+1))+1 by omega,JW]at h5;unfold Qm at h5;have hm:=Int.emod_nonneg v0 (show(bS i:Int)≠0 by omega);refine⟨fun _ _ _=>⟨fun hk iT _ _=>?_,fun hk=>?_⟩,fun h=>absurd (by omega) h⟩
   ·rw[hT iT];rw[decide_eq_true hk,cond_true]at h5;refine⟨⟨by omega,by omega⟩,h2,i+1,rfl,by omega,?_⟩;rw[<- h5];simp only[ab9]
   ·rw[decide_eq_false hk,cond_false,afn]at h5;have hz:v0 / (bS i:Int)=0:=by omega
    rw[hz]at b3;rw[show v0%(bS i:Int)=v0 by omega]at h5;exact⟨h1,h2,i+1,rfl,by omega,h5⟩
  ·have:i=4:=by omega
   subst this;refine⟨fun h=>absurd h (by decide),fun _=>?_⟩;have h5:v1++[]=zF x:=h5;rw[<- h5,acg]
theorem yA{p:Nat->Bool}(h:(List.range 256).all p=true)(c:UInt8):p c.toNat=true:=afE.1 h _ (List.mem_range.2 c.toNat_lt)
def Lb:anY:=[46,95,45,47,58,61,44,43,64,37]
def ldB(n:Int):Bool:=bif(bif(bif decide ((97:Int)<=n)then decide (n<=122)else false)then true else(bif decide ((65:Int)<=n)then decide (n<=90)else false))then true else(bif decide ((48:Int)<=n)then decide (n<=57)else false)
def okC(n:Int):Bool:=ldB n||Lb.any fun m=>((m.toNat:Nat):Int)==n
def pb0(n:Int):Bool:=bif(bif(bif decide (n<(97:Int))then true else decide ((122:Int)<n))then(bif decide (n<(65:Int))then true else decide ((90:Int)<n))else false)then(bif decide (n<(48:Int))then true else decide ((57:Int)<n))else false
def pb2(n:Int):Bool:=bif pb0 n then decide (Io Lb n<0)else false
theorem aAQ(c:UInt8):pb2 (Int.ofNat c.toNat) = !(okC (Int.ofNat c.toNat)):=beq_iff_eq.1 (yA (p:=fun n=>pb2 (Int.ofNat n) == !(okC (Int.ofNat n))) (by decide +kernel) c)
def Ar(s:anY):Bool:=(s.all fun c=>okC ((c.toNat:Nat):Int))&&!(s==[])
def JX(s:anY):anY:=bif Ar s then s else[39]++rC 39 [39,92,39,39] s++[39]
def Mx(l:List (anY)):anY:=Lib.join (l.map JX) [32]
theorem amm(s:anY)(hs:s.length<=1000000):(Jf s).isSome=true->gv (Jf s)=Ar s:=by
 refine part rfl (fun r=>r=Ar s) (fun | .e y=>y=s | .h0 v0 v1 v2=>v0=s/\v1=(s.length:Int)/\0<=v2/\v2<=v1/\Ar s=(((s.drop v2.toNat).all fun c=>okC ((c.toNat:Nat):Int))&&!(s==[]))) rfl ?_;rintro(y | ⟨v0,v1,v2⟩) hs'
 ·cases hs';simp only[dR,zS];exact⟨trivial,trivial,by decide,by omega,rfl⟩
 ·obtain⟨rfl,rfl,h1,h2,h3⟩:=hs';simp only[aK,aW,zS];have e1:=@bX (v2+1);by_cases hi:v2<(v0.length:Int)
  ·rw[fB v0 0 h1 hi,afo]at h3;rw[decide_eq_true hi,cond_true,pS];intro _ _;generalize v0.getD v2.toNat 0=c at h3 ⊢;have hb:(bif(bif(bif(bif(decide (((c.toNat:Nat):Int)<(97:Int)))then true else(decide ((122:Int)<((c.toNat:Nat):Int))))then(bif(decide (((c.toNat:Nat):Int)<(65:Int)))then true else(decide ((90:Int)<((c.toNat:Nat):Int))))else false)then(bif(decide (((c.toNat:Nat):Int)<(48:Int)))then true else(decide ((57:Int)<((c.toNat:Nat):Int))))else false)then(decide ((Io ([46,95,45,47,58,61,44,43,64,37]:anY) ((c.toNat:Nat):Int))<(0:Int)))else false) = !(okC ((c.toNat:Nat):Int)):=aAQ c;rw[hb];simp only[dR]
   (repeat' (first|intro _|apply And.intro))<;>grind
  ·rw[iE v0 (by omega),List.all_nil]at h3;simp only[dR]
   (repeat' (first|intro _|apply And.intro))<;>grind
theorem amn(l:List (anY))(hl:l.length<=1000000)(hs:∀s∈l,s.length<=1000000):(Jg l).isSome=true->gv (Jg l)=Mx l:=by
 refine part rfl (fun r=>r=Mx l) (fun | .e y=>y=l | .h0 v0 v1 v2 v3=>v1=l/\v2=(l.length:Int)/\0<=v3/\v3<=v2/\v0++(l.drop v3.toNat).map JX=l.map JX) rfl ?_;rintro(y | ⟨v0,v1,v2,v3⟩) hs'
 ·cases hs';simp only[dR,zT];exact⟨trivial,trivial,by decide,by omega,rfl⟩
 ·obtain⟨rfl,rfl,h1,h2,h3⟩:=hs';simp only[dR,zT];have e1:=@bX (v3+1);by_cases hi:v3<(v1.length:Int)
  ·rw[fB v1 Df.d h1 hi,afu]at h3;have h5:=rG hs v3.toNat;generalize v1.getD v3.toNat Df.d=s at h3 h5 ⊢;have h6:=amm s h5;have h7:JX s=bif Ar s then s else[39]++rC 39 [39,92,39,39] s++[39]:=rfl
   have h8:Yt s [39] [39,92,39,39] (-1)=rC 39 [39,92,39,39] s:=rfl;rw[h8]
   (repeat' (first|intro _|apply And.intro))<;>grind[ab9,afL]
  ·rw[iE v1 (by omega),afM,acg]at h3
   (repeat' (first|intro _|apply And.intro))<;>grind[Mx]
def iZ:anY:=[100,105,115,97,98,108,101]
def bR:anY:=[116,101,115,116]
def dW:anY:=[105,110,116,101,114,118,97,108]
def fF:anY:=[115,116,97,114,116,95,112,101,114,105,111,100]
def bU:anY:=[114,101,116,114,105,101,115]
def Iz:anY:=[49,115]
def VN:anY:=[48]
def VO:anY:=[78,79,78,69]
def VP:anY:=[67,77,68,45,83,72,69,76,76]
def VQ:anY:=[67,77,68]
def tsX(n:An):Bool:=bif !(qF n)then true else((bJ n).length:Int)==0
def JY(n:An):Int:=bif n.kind==1 then 1 else bif tsX n then 0 else bif(bJ n).getD 0 []==VO then(bif((bJ n).length:Int)==1 then 2 else 0)
 else bif(bJ n).getD 0 []==VP then(bif((bJ n).length:Int)==2 then 1 else 0)else bif(bJ n).getD 0 []==VQ then(bif decide ((1:Int)<((bJ n).length:Int))then 1 else 0)else 0
def JZ(n:An):anY:=bif n.kind==1 then n.text else bif tsX n then[]else bif(bJ n).getD 0 []==VO then[]
 else bif(bJ n).getD 0 []==VP then(bif((bJ n).length:Int)==2 then(bJ n).getD 1 []else[])else bif(bJ n).getD 0 []==VQ then Mx ((bJ n).drop 1)else[]
def tsN(n:An):Bool:=bif n.kind==1 then false else bif tsX n then false else(bJ n).getD 0 []==VO
def tsR(n:An):Bool:=!(JY n==0)
theorem amo(n:An)(hl:n.kids.length<=1000000)(hk:(bJ n).length<=1000000)(hs:∀s∈bJ n,s.length<=1000000):(Ji n).isSome=true->gv (Ji n)=(JZ n,tsN n,tsR n):=by
 refine gZ rfl ?_;simp only[dR,Jh];have h1:=Bj n hl;have h2:∀i:Nat,(bJ n).getD i (Df.d:anY)=(bJ n).getD i []:=fun _=>rfl
 have h3:cut (bJ n) 1 ((bJ n).length:Int)=(bJ n).drop 1:=EK _ 1;have h4:=amn ((bJ n).drop 1) (by rw[ach];omega) (fun s h=>hs s (List.mem_of_mem_drop h));have h5:VO=[78,79,78,69]:=rfl;have h6:VP=[67,77,68,45,83,72,69,76,76]:=rfl;have h7:VQ=[67,77,68]:=rfl
 (repeat' (first|intro _|apply And.intro))<;>grind[JZ,tsN,tsR,JY,tsX]
def O4(n o:An):An:=bif aB n bR then aY o bR (dz (JZ (aG n bR)))else o
def O5(n:An)(k:anY)(o:An):An:=bif aB n k then aY o k (dz (zF (wm (aN n k Iz))))else o
def He(n:An):Int:=CY (aN n bU VN) 65536
def aqC(n o:An):An:=bif decide (0<He n)then aY o bU (dz (bA (He n)))else o
def hO(n:An):An:=aqC n (O5 n fF (O5 n dW (O4 n zn)))
def Z6(n:An):Bool:=bif aN n iZ o7==kg then true else(bif aB n bR then tsN (aG n bR)else false)
def KI(n:An):Bool:=bif(bif n.kind != 3 then true else !(bV n iZ []))then true else Qj (aN n iZ o7)
def MB(n:An)(b:Bool):Bool:=bif b then true else(bif aB n bR then !(tsR (aG n bR))else false)
def VR(n:An)(k:anY)(b:Bool):Bool:=bif(bif b then true else !(bV n k []))then true else adR (aN n k Iz)!=0
def VT(n:An)(b:Bool):Bool:=bif VR n dW b then true else wm (aN n dW Iz)==0
def bdR(n:An)(b:Bool):Bool:=bif(bif(bif(bif b then true else !(bV n bU []))then true else O1 (aN n bU VN) 65536 != 0)then true else(bif aB n bU then He n==0 else false))then true else decide ((10:Int)<He n)
def aj3(n:An):Bool:=bdR n (VR n fF (VT n (MB n (KI n))))
def hLf(n:An):Int:=((((n.keys.length:Int)-b2 (aB n iZ))-b2 (aB n bR))-b2 (aB n dW))-b2 (aB n fF)-b2 (aB n bU)
def aqD(off:Bool)(o:An)(bad:Bool):An×Int:=bif bad then(zn,10)else(FD (bif off then aY zn iZ (fK true)else o) false,FE (bif off then aY zn iZ (fK true)else o) false)
def hP(n:An):An×Int:=aqD (Z6 n) (hO n) (aj3 n||!(hLf n==0))
def hFo(n:An):Nat->An
 | 0=>O4 n zn
 | 1=>O5 n dW (O4 n zn)
 | _=>O5 n fF (O5 n dW (O4 n zn))
def KJ(n:An):Nat->Int
 | 0=>(n.keys.length:Int)-b2 (aB n iZ)-b2 (aB n bR)
 | 1=>(n.keys.length:Int)-b2 (aB n iZ)-b2 (aB n bR)-b2 (aB n dW)
 | _=>(n.keys.length:Int)-b2 (aB n iZ)-b2 (aB n bR)-b2 (aB n dW)-b2 (aB n fF)
def hBd(n:An):Nat->Bool
 | 0=>MB n (KI n)
 | 1=>VT n (MB n (KI n))
 | _=>VR n fF (VT n (MB n (KI n)))
theorem VU(x:Bool):0<=b2 x/\b2 x<=1:=by cases x<;>decide
theorem hor(x y:Bool):(bif x then true else y)=(x||y):=by cases x<;>rfl
theorem hand(x y:Bool):(bif x then y else false)=(x&&y):=by cases x<;>rfl
set_option maxHeartbeats 1000000 in
theorem agE(n:An)(hl:n.keys.length<=100000)(hf:∀k o,o.length<=1000000->(aN n k o).length<=1000000)(ht:(aG n bR).kids.length<=1000000)(ht2:(bJ (aG n bR)).length<=1000000)(ht3:∀s∈bJ (aG n bR),s.length<=1000000):(uS n).isSome=true->gv (uS n)=hP n:=by
 refine part rfl (fun r=>r=hP n) (fun | .e y=>y=n | .h0 v0 v1 v2 v3 v4 _ _ v7 v8=>v0=Z6 n/\v1=[dW,fF]/\v2=2/\v4=n/\∃i:Nat,v3=(i:Int)/\i<=2/\v7=⟨hFo n i,false⟩/\v8=⟨n,KJ n i,hBd n i⟩) rfl ?_;have c1:=VU (aB n iZ);have c2:=VU (aB n bR);have c3:=VU (aB n dW);have c4:=VU (aB n fF);have c5:=VU (aB n bU);rintro(y | ⟨v0,v1,v2,v3,v4,v5,v6,v7,v8⟩) hs
 ·cases hs;simp only[aK,aW,uR,aQ];simp only[dR];intro i1;have q:=vw ⟨n,(n.keys.length:Int),n.kind != 3⟩ iZ false ⟨by dsimp only;omega,by dsimp only;omega⟩ i1;have e0:([100,105,115,97,98,108,101]:anY)=iZ:=rfl;have e1:([116,101,115,116]:anY)=bR:=rfl;rw[e0,e1,q];dsimp only;have hbd:((n.kind != 3||!bV n iZ [])||Qj (aN n iZ (CO false)))=KI n:=by
   unfold KI;rw[hor,hor];rfl
  intro _;refine⟨fun hg i2 i3=>?_,fun hg=>?_⟩
  ·rw[amo _ ht ht2 ht3 i2]at i3 ⊢;rw[iH _ _ _ i3];refine⟨?_,rfl,rfl,trivial,0,rfl,by decide,?_,?_⟩
   ·unfold Z6;rw[hg];rfl
   ·show(⟨_,_⟩:form)=⟨O4 n zn,false⟩
    unfold O4;rw[hg];rfl
   ·show(⟨_,_,_⟩:field)=⟨n,KJ n 0,hBd n 0⟩
    unfold KJ hBd MB;rw[<- hbd,hg,bX (by omega)];rfl
  ·refine⟨?_,rfl,rfl,trivial,0,rfl,by decide,?_,?_⟩
   ·unfold Z6;rw[hg,hor];simp;rfl
   ·show(⟨_,_⟩:form)=⟨O4 n zn,false⟩
    unfold O4;rw[hg];rfl
   ·show(⟨_,_,_⟩:field)=⟨n,KJ n 0,hBd n 0⟩
    unfold KJ hBd MB;rw[<- hbd,hg];simp[b2]
 ·obtain⟨rfl,rfl,rfl,rfl,i,rfl,hi,rfl,rfl⟩:=hs;have hlt:∀j, -1000000<=KJ v4 j/\KJ v4 j<=1000000:=fun j=>by
   unfold KJ;split<;>omega
  simp only[aK,aW,uR,aQ];by_cases h2:i<2
  ·simp only[dR];refine⟨fun _ _ _=>?_,fun h=>absurd (by omega) h⟩;have hk:∃k,List.getD [dW,fF] ((i:Int)).toNat (Df.d:anY)=k/\((i=0/\k=dW)\/(i=1/\k=fF)):=by
    have:i=0\/i=1:=by omega
    rcases this with rfl | rfl
    ·exact⟨dW,rfl,.inl ⟨rfl,rfl⟩⟩
    ·exact⟨fF,rfl,.inr ⟨rfl,rfl⟩⟩
   obtain⟨k,hk,hik⟩:=hk;rw[hk];intro i1 i2;rw[iq ⟨v4,KJ v4 i,hBd v4 i⟩ k [49,115] (hlt i) i1]at i2 ⊢;dsimp only [mF]at i2 ⊢;rw[aml _ (hf k [49,115] (by decide)) i2];have e1:au ((i:Int)+1)=((i+1:Nat):Int):=by rw[bX (by omega)];omega
   rw[e1];have hlv:KJ v4 (i+1)=KJ v4 i-b2 (aB v4 k):=by rcases hik with⟨rfl,rfl⟩ | ⟨rfl,rfl⟩<;>rfl
   have hbv:hBd v4 (i+1)=(bif(bif(hBd v4 i||!bV v4 k [])then true else((yZ (aN v4 k [49,115])).2 != (0:Int)))then true else(bif(k==([105,110,116,101,114,118,97,108]:anY))then((yZ (aN v4 k [49,115])).1==(0:Int))else false)):=by
    rcases hik with⟨rfl,rfl⟩ | ⟨rfl,rfl⟩
    ·show VT v4 (MB v4 (KI v4))=_;unfold VT VR;rw[hor (MB v4 (KI v4))];rfl
    ·show VR v4 fF (VT v4 (MB v4 (KI v4)))=_;unfold VR;rw[hor (VT v4 (MB v4 (KI v4))),hor (bif _ then _ else _),show(fF==([105,110,116,101,114,118,97,108]:anY))=false from rfl,cond_false,Bool.or_false];rfl
   have hfv:hFo v4 (i+1)=O5 v4 k (hFo v4 i):=by rcases hik with⟨rfl,rfl⟩ | ⟨rfl,rfl⟩<;>rfl
   intro _;refine⟨fun hg i3 i4=>?_,fun hg=>?_⟩
   ·rw[aqB _ i3]at i4 ⊢;rw[iH _ _ _ i4];refine⟨trivial,trivial,trivial,trivial,i+1,rfl,by omega,?_,?_⟩
    ·rw[hfv];unfold O5;rw[hg];rfl
    ·rw[hlv,hbv]
   ·refine⟨trivial,trivial,trivial,trivial,i+1,rfl,by omega,?_,?_⟩
    ·rw[hfv];unfold O5;rw[hg];rfl
    ·rw[hlv,hbv]
  ·have:i=2:=by omega
   subst this;simp only[dR];refine⟨fun h=>absurd h (by decide),fun _ i1=>?_⟩;have er:([114,101,116,114,105,101,115]:anY)=bU:=rfl;have q:=Bn ⟨v4,KJ v4 2,hBd v4 2⟩ bU (hlt 2) (hf bU [48] (by decide)) i1;rw[er,q];dsimp only;have hc:(iR (aN v4 bU [48]) 65536).1=He v4:=afF (aN v4 bU VN) (most:=65536) (by decide);have hcb:=JV (aN v4 bU VN) 65536 (by decide);have hb:bdR v4 (hBd v4 2)=bif zD ⟨v4,KJ v4 2,hBd v4 2⟩ bU then true else decide ((10:Int)<He v4):=by unfold bdR zD;rw[hc,show(iR (aN v4 bU [48]) 65536).2=O1 (aN v4 bU VN) 65536 from VK (aN v4 bU VN) (most:=65536) (by decide),hor (hBd v4 2)]
   have hPd:hP v4=aqD (Z6 v4) (aqC v4 (hFo v4 2)) (bdR v4 (hBd v4 2)||!(KJ v4 2-b2 (aB v4 bU)==0)):=rfl;rw[hc,hPd,hb];generalize zD ⟨v4,KJ v4 2,hBd v4 2⟩ bU=cb;have hT:=Bp (He v4) (by unfold He;omega);generalize (KJ v4 2-b2 (aB v4 bU)==0)=lz;generalize hFo v4 2=o;have hs:=YK true;have p1:=iH ⟨⟨0,[],[],[]⟩,false⟩ iZ (fK true);have p2:=iH ⟨o,false⟩ bU (dz (bA (He v4)));have d1:=iL ⟨aY zn iZ (fK true),false⟩;have d2:=iL ⟨aY o bU (dz (bA (He v4))),false⟩;have d3:=iL ⟨o,false⟩;have ed:([100,105,115,97,98,108,101]:anY)=iZ:=rfl;have hn:=jO;rw[ed];unfold aqD aqC
   (repeat' (first|intro _|apply And.intro))<;>grind[rX,dO]
def Kr:anY:=[111,110,45,102,97,105,108,117,114,101,58]
def aAR(s:anY):Bool:=bif(bif(bif s==[110,111]then true else s==[97,108,119,97,121,115])then true else s==[117,110,108,101,115,115,45,115,116,111,112,112,101,100])then true else s==[111,110,45,102,97,105,108,117,114,101]
def wN(s:anY):Bool:=bif(bif decide ((11:Int)<=(s.length:Int))then s.take 11==Kr else false)then(bif XB (s.drop 11) 10==0 then decide ((0:Int)<anR (s.drop 11) 10)else false)else aAR s
def Ck(s:anY):Bool:=XB s 8==0
def uq(s:anY):Bool:=bif !(s==[])then decide ((s.length:Int)<=64)else false
def KL(f:anY->Bool)(n:An):Bool:=bif n.kind != 1 then true else !(f n.text)
def yB(f:anY->Bool)(n:An):An:=bif KL f n then zn else n
def yC(f:anY->Bool)(n:An):Int:=bif KL f n then 10 else 0
def bI(s:anY):An:=⟨1,s,[],[]⟩
def uN(l:List (anY)):An:=⟨2,[],[],l.map bI⟩
theorem aEO(s p:anY):iJ s p=some (p.isPrefixOf s):=by
 obtain⟨h1,h2⟩:=mK s p;cases h:iJ s p with
 | none=>rw[h]at h1;cases h1
 | some r=>rw[h]at h2;exact congrArg some h2
theorem ay2(s:anY):Kr.isPrefixOf s=bif decide ((11:Int)<=(s.length:Int))then s.take 11==Kr else false:=by
 rw[Bool.eq_iff_iff,List.isPrefixOf_iff_prefix];by_cases h:(11:Int)<=(s.length:Int)
 ·rw[decide_eq_true h,cond_true,beq_iff_eq];exact⟨fun e=>(List.prefix_iff_eq_take.1 e).symm,fun e=>List.prefix_iff_eq_take.2 e.symm⟩
 ·rw[decide_eq_false h,cond_false];refine⟨fun e=>?_,fun e=>(by cases e)⟩;have:=e.length_le;have h2:Kr.length=11:=rfl;omega
theorem Ua(s p:anY):(uG s p).isSome=true->gv (uG s p)=(bif p.isPrefixOf s then s.drop p.length else s,p.isPrefixOf s):=by
 have h:(jH s p).isSome=true->gv (jH s p)=(bif p.isPrefixOf s then s.drop p.length else s,p.isPrefixOf s):=by
  refine gZ rfl ?_;simp only[aK,aW,jG,aEO,aD,EK,aaY];simp only[dR]
  (repeat' (first|intro _|apply And.intro))<;>grind
 refine gZ rfl ?_;simp only[dR,uF];intro i;rw[h i]
theorem Z7(s:anY)(hs:s.length<=1000000):(yN s).isSome=true->gv (yN s)=wN s:=by
 refine gZ rfl ?_;simp only[aK,aW,yM];rw[pZ];intro i;have e:([111,110,45,102,97,105,108,117,114,101,58]:anY)=Kr:=rfl;rw[e]at i ⊢;rw[Ua s Kr i,ay2];dsimp only;unfold wN;cases(bif decide ((11:Int)<=(s.length:Int))then s.take 11==Kr else false)with
 | false=>rfl
 | true =>simp only[cond_true];have e2:Kr.length=11:=rfl;rw[e2,uW _ 10 (yX.2 ⟨⟨by rw[ach];omega,by decide⟩,by decide⟩)];rfl
theorem adS(s:anY)(hs:s.length<=1000000):(Ce s).isSome=true->gv (Ce s)=Ck s:=by refine gZ rfl ?_;simp only[aK,Cc];rw[uW s 8 (yX.2 ⟨⟨hs,by decide⟩,by decide⟩)];rfl
theorem agF(s:anY):Kk s=some (uq s):=dh rfl rfl
theorem adT(n:An)(hs:n.text.length<=1000000):(sQ n).isSome=true->gv (sQ n)=(yB wN n,yC wN n):=by
 have h:(lM n).isSome=true->gv (lM n)=(yB wN n,yC wN n):=by
  refine gZ rfl ?_;have h1:=Z7 n.text hs;have h2:=jO;simp only[dR,lK]
  (repeat' (first|intro _|apply And.intro))<;>grind[yB,yC,KL,rX]
 refine gZ rfl ?_;simp only[dR,Cb];intro i;rw[h i]
theorem aj4(n:An)(hs:n.text.length<=1000000):(xw n).isSome=true->gv (xw n)=(yB Ck n,yC Ck n):=by
 have h:(mX n).isSome=true->gv (mX n)=(yB Ck n,yC Ck n):=by
  refine gZ rfl ?_;have h1:=adS n.text hs;have h2:=jO;simp only[dR,mW]
  (repeat' (first|intro _|apply And.intro))<;>grind[yB,yC,KL,rX]
 refine gZ rfl ?_;simp only[dR,Gw];intro i;rw[h i]
theorem amq(n:An):(zO n).isSome=true->gv (zO n)=(yB uq n,yC uq n):=by
 have h:(nO n).isSome=true->gv (nO n)=(yB uq n,yC uq n):=by
  refine gZ rfl ?_;have h2:=jO;simp only[aK,aW,nN,agF,dO];simp only[dR]
  (repeat' (first|intro _|apply And.intro))<;>grind[yB,yC,KL,rX]
 refine gZ rfl ?_;simp only[dR,I9];intro i;rw[h i]
theorem ab5(l:List (anY))(hl:l.length<=1000000):(Gq l).isSome=true->gv (Gq l)=uN l:=by
 refine part rfl (fun r=>r=uN l) (fun | .e y=>y=l | .h0 v0 v1 v2 _ _ v5 v6 v7=>v0=l/\v1=(l.length:Int)/\0<=v2/\v2<=v1/\v5=2/\v6=[]/\v7++(l.drop v2.toNat).map bI=l.map bI) rfl ?_;rintro(y | ⟨v0,v1,v2,v3,v4,v5,v6,v7⟩) hs
 ·cases hs;simp only[dR,BS];exact⟨trivial,trivial,by decide,by omega,trivial,trivial,rfl⟩
 ·obtain⟨rfl,rfl,h1,h2,rfl,rfl,h3⟩:=hs;simp only[dR,BS];have e1:=@bX (v2+1);have e2:∀s,bI s=dz s:=fun _=>rfl
  by_cases hi:v2<(v0.length:Int)
  ·rw[fB v0 Df.d h1 hi,afu]at h3
   (repeat' (first|intro _|apply And.intro))<;>grind[ab9,afL]
  ·rw[iE v0 (by omega),afM,acg]at h3
   (repeat' (first|intro _|apply And.intro))<;>grind[uN]
def jf(b:Int):anY->Nat
 | []=>0
 | c::t=>bif(((c.toNat:Nat):Int)==b)then 0 else jf b t+1
theorem ata(b:Int):∀t,jf b t<=t.length
 | []=>ab8 _
 | c::t=>by
  unfold jf;have:=ata b t;cases(((c.toNat:Nat):Int)==b)with
  | true=>rw[cond_true];exact aa4 _
  | false=>rw[cond_false,List.length_cons];omega
def zG(s:anY):anY:=s.take (jf 46 s)
def vB(s:anY):anY:=s.drop (jf 46 s+1)
def Tz(s:anY):Bool:=decide (jf 46 s<s.length)
def aAS(t:anY):UInt8:=t.getD (t.length-1) 0
def VW(t:anY):Bool:=bif(bif decide ((t.length:Int)<1)then true else decide ((3:Int)<(t.length:Int)))then true else(((aAS t).toNat:Nat):Int)==48
def Z8(t:anY):anY:=t++List.replicate (3-t.length) 48
def MC(h t:anY):Int×Int:=bif !(t.all fC)then(0,3)else bif !(eP h)then(0,3)else
 bif(bif decide ((9007199254740:Int)<(bD h 0:Int))then true else decide ((9007199254740992:Int)<(bD h 0:Int)*1000+(bD (Z8 t) 0:Int)))then(0,9)else((bD h 0:Int)*1000+(bD (Z8 t) 0:Int),0)
def Hf(s:anY):Int×Int:=bif(bif Tz s then VW (vB s)else false)then(0,3)else MC (zG s) (vB s)
def av9(s:anY):Int:=(Hf s).1
def awc(s:anY):Int:=(Hf s).2
theorem aj5{s:anY}(h:Tz s=false):vB s=[]:=by unfold Tz at h;unfold vB;exact abb (by have:=of_decide_eq_false h;omega)
theorem anV{t:anY}(h:VW t=false):t.length<=3:=by
 unfold VW at h;by_cases h1:(3:Int)<(t.length:Int)
 ·rw[dT h1]at h;cases hq:decide ((t.length:Int)<1)<;>rw[hq]at h<;>cases h
 ·omega
theorem ay3(s:anY):(zG s).length<=s.length:=by unfold zG;rw[acu];omega
theorem axp{t:anY}(h:t.length<=1000000):(decide ((0:Int)<=au ((t.length:Int)-1))&&decide (au ((t.length:Int)-1)<(t.length:Int))||!(!(bif decide ((t.length:Int)<1)then true else decide ((3:Int)<(t.length:Int)))))=true /\
  (bif(bif decide ((t.length:Int)<1)then true else decide ((3:Int)<(t.length:Int)))then true else((List.getD t (Int.toNat (au ((t.length:Int)-1))) 0).toNat:Int)==48)=VW t:=by
 unfold VW aAS;by_cases h1:(t.length:Int)<1
 ·rw[dT h1];exact⟨by simp,rfl⟩
 ·rw[dF h1,aT (by omega) (by omega),dT (show(0:Int)<=(t.length:Int)-1 by omega),dT (show(t.length:Int)-1<(t.length:Int) by omega),show((t.length:Int)-1).toNat=t.length-1 by omega];exact⟨rfl,rfl⟩
theorem aCs{c:UInt8}(h:fC c=true):au (IntKind.wrap .u8 (((c.toNat:Nat):Int)-48))=((c.toNat-48:Nat):Int):=by have:=xZ.1 h;rw[axk (by omega) (by omega),aT (by omega) (by omega)];omega
def ME:anY->Nat->Int->Option Int
 | _,0,p=>some p
 | [],k+1,p=>ME [] k (p*10)
 | c::t,k+1,p=>bif fC c then ME t k (p*10+((c.toNat-48:Nat):Int))else none
theorem aj6:∀(k:Nat) (p:Nat),ME [] k p=some (bD (List.replicate k 48) p:Int)
 | 0,p=>rfl
 | k+1,p=>by rw[ME,show(p:Int)*10=((p*10:Nat):Int) by omega,aj6 k,List.replicate_succ];rfl
theorem anW:∀(t:anY) (k p:Nat),t.length<=k->ME t k p=bif t.all fC then some (bD (t++List.replicate (k-t.length) 48) p:Int)else none
 | [],k,p,_=>aj6 k p
 | c::t,0,p,h=>by simp at h
 | c::t,k+1,p,h=>by
  rw[ME,afo];cases fC c with
  | false=>rfl
  | true =>
   simp only[cond_true,afq];have hl:t.length<=k:=by simp only[List.length_cons]at h;omega
   rw[show(p:Int)*10+((c.toNat-48:Nat):Int)=((p*10+(c.toNat-48):Nat):Int) by omega,anW t k _ hl,List.length_cons,show k+1-(t.length+1)=k-t.length by omega];rfl
def Cm(s:anY):Bool:=bif awc s==0 then decide ((0:Int)<av9 s)else false
theorem agG(s:anY)(hs:s.length<=1000000):(Ee s).isSome=true->gv (Ee s)=(zG s,vB s,Tz s):=by
 refine part rfl (fun r=>r=(zG s,vB s,Tz s)) (fun | .e y=>y=s | .h0 v0 v1 v2=>v0=s/\v1=(s.length:Int)/\0<=v2/\v2<=v1/\(jf 46 s:Int)=v2+jf 46 (s.drop v2.toNat)) rfl ?_;rintro(y | ⟨v0,v1,v2⟩) hs'
 ·cases hs';simp only[dR,uT];exact⟨trivial,trivial,by decide,by omega,by show _=(0:Int)+_;rw[Int.zero_add];rfl⟩
 ·obtain⟨rfl,rfl,h1,h2,h3⟩:=hs';simp only[dR,uT];have e1:=@bX (v2+1);by_cases hi:v2<(v0.length:Int)
  ·rw[fB v0 0 h1 hi,jf]at h3;refine⟨fun _ _ _=>?_,fun h=>absurd hi h⟩;generalize v0.getD v2.toNat 0=c at h3 ⊢;rw[e1 (by omega),EK];refine⟨fun hc _ _=>?_,fun hc=>?_⟩
   ·rw[show((c.toNat:Int)==46)=true by simpa using hc,cond_true]at h3;have hf:jf 46 v0=v2.toNat:=by omega
    unfold zG vB Tz cut;rw[hf,show(v2+1).toNat=v2.toNat+1 by omega,decide_eq_true (by omega)];rfl
   ·rw[show((c.toNat:Int)==46)=false from hc,cond_false]at h3;exact⟨trivial,trivial,by omega,by omega,by omega⟩
  ·rw[iE v0 (by omega),jf]at h3;refine⟨fun h=>absurd h hi,fun _=>?_⟩;have hf:jf 46 v0=v0.length:=by omega
   unfold zG vB Tz;rw[hf,List.take_length,abb (by omega),decide_eq_false (by omega)]
def Z9(h:anY):Option Int->Int×Int
 | none=>(0,3)
 | some p=>bif !(eP h)then(0,3)else bif(bif decide ((9007199254740:Int)<(bD h 0:Int))then true else decide ((9007199254740992:Int)<(bD h 0:Int)*1000+p))then(0,9)else((bD h 0:Int)*1000+p,0)
theorem atb(h t:anY)(ht:t.length<=3):MC h t=Z9 h (ME t 3 0):=by have:=anW t 3 0 ht;rw[show((0:Nat):Int)=0 from rfl]at this;rw[this];unfold MC;cases t.all fC<;>rfl
set_option maxHeartbeats 1000000 in
theorem agH(s:anY)(hs:s.length<=1000000):(Ef s).isSome=true->gv (Ef s)=Hf s:=by
 refine part rfl (fun r=>r=Hf s) (fun | .e y=>y=s | .h0 v0 v1 v2 v3=>v0=zG s/\v1=vB s/\∃i:Nat,v3=(i:Int)/\i<=3/\0<=v2/\v2<10 ^ i/\Z9 (zG s) (ME ((vB s).drop i) (3-i) v2)=Hf s) rfl ?_;have hA:=ay3 s;have hB:(vB s).length<=s.length:=by unfold vB;rw[ach];omega
 rintro(y | ⟨v0,v1,v2,v3⟩) hs'
 ·cases hs';simp only[aK,aW,fU,uU];rw[pZ];intro i;rw[agG s hs i];dsimp only;obtain⟨l1,l2⟩:=@axp (vB s) (by omega);rw[l1,l2,ak];unfold Hf;cases hc:Tz s with
  | false =>rw[cond_false,cond_false,cond_false];refine⟨rfl,rfl,0,rfl,by decide,by decide,by decide,?_⟩;rw[atb _ _ (by rw[aj5 hc];exact aa4 _)];rfl
  | true =>
   rw[cond_true,cond_true];cases hb:VW (vB s)with
   | true=>rfl
   | false =>rw[cond_false,cond_false];refine⟨rfl,rfl,0,rfl,by decide,by decide,by decide,?_⟩;rw[atb _ _ (anV hb)];rfl
 ·obtain⟨rfl,rfl,i,rfl,h1,h2,h3,h4⟩:=hs';have hp:(10:Int) ^ i<=1000:=by
   have:i=0\/i=1\/i=2\/i=3:=by omega
   rcases this with rfl | rfl | rfl | rfl<;>decide
  simp only[aK,aW,fU,uU];by_cases hi:i<3
  ·have e1:au ((i:Int)+1)=((i+1:Nat):Int):=by rw[bX (by omega)];omega
   have e2:au (v2*10)=v2*10:=bX (by omega);have e3:(10:Int) ^ (i+1)=10 ^ i*10:=Int.pow_succ ..;rw[decide_eq_true (show(i:Int)<3 by omega),cond_true,e1,e2];rw[show 3-i=(3-(i+1))+1 by omega]at h4;by_cases hl:((vB s).length:Int)<=(i:Int)
   ·rw[decide_eq_true hl,cond_true];rw[abb (by omega),ME]at h4;refine⟨trivial,trivial,i+1,rfl,by omega,by omega,by omega,?_⟩;rw[abb (by omega)];exact h4
   ·rw[decide_eq_false hl,cond_false,pS];intro _ _;have hc:=fB (vB s) 0 (i:=(i:Int)) (by omega) (by omega);rw[aaY,show((i:Int)+1).toNat=i+1 by omega]at hc;rw[hc,ME]at h4;rw[aaY];generalize (vB s).getD i 0=c at h4 ⊢;simp only[dR];intro _;rw[Qk];cases hd:fC c with
    | false =>rw[hd]at h4;exact⟨fun _=>h4,fun h=>by cases h⟩
    | true =>rw[hd,cond_true]at h4;refine⟨fun h=>(by cases h),fun _ _=>?_⟩;have hdd:=xZ.1 hd;rw[aCs hd,bX (by omega)];exact⟨trivial,trivial,i+1,rfl,by omega,by omega,by omega,h4⟩
  ·have:i=3:=by omega
   subst this;have h3:v2<1000:=h3;rw[show decide (((3:Nat):Int)<3)=false from rfl,cond_false,Tv _ _ (yX.2 ⟨⟨by omega,by decide⟩,by decide⟩),count_eq _ (by decide),aD];rw[<- h4];show(bif _ then _ else _);unfold gB;cases hw:eP (zG s)with
   | false =>show _=Z9 (zG s) (some v2);unfold Z9;rw[hw];rfl
   | true =>
    have hq:Z9 (zG s) (ME (List.drop 3 (vB s)) (3-3) v2)=bif(bif decide ((9007199254740:Int)<(bD (zG s) 0:Int))then true else decide ((9007199254740992:Int)<(bD (zG s) 0:Int)*1000+v2))then(0,9)else((bD (zG s) 0:Int)*1000+v2,0):=by show Z9 (zG s) (some v2)=_;unfold Z9;rw[hw];rfl
    rw[hq,ab7,cond_false];by_cases hM:(9007199254740:Int)<(bD (zG s) 0:Int)
    ·rw[EI hM,decide_eq_true hM];rfl
    ·rw[EJ hM,decide_eq_false hM];have w1:au ((bD (zG s) 0:Int)*1000)=(bD (zG s) 0:Int)*1000:=bX (by omega);have w2:au (9007199254740992-v2)=9007199254740992-v2:=bX (by omega);have w3:au ((bD (zG s) 0:Int)*1000+v2)=(bD (zG s) 0:Int)*1000+v2:=bX (by omega);rw[w1,w2,w3];simp only[dR]
     (repeat' (first|intro _|apply And.intro))<;>grind
def uKb(s:anY):Bool:=bif s==[107]then true else s==[107,98]
def uMb(s:anY):Bool:=bif s==[109]then true else s==[109,98]
def uGb(s:anY):Bool:=bif s==[103]then true else s==[103,98]
def uBb(s:anY):Bool:=bif s==[]then true else s==[98]
def zH(s:anY):Int:=bif uBb s then 0 else bif uKb s then 1 else bif uMb s then 2 else bif uGb s then 3 else 0
def H7(s:anY):Bool:=bif uBb s then true else bif uKb s then true else bif uMb s then true else uGb s
theorem aho(s:anY):0<=zH s/\zH s<=3:=by unfold zH;grind
def Cn(s:anY):Nat->Nat
 | 0=>0
 | n+1=>bif fC (s.getD n 0)then n+1 else Cn s n
def kD(s:anY):Nat:=Cn s s.length
theorem aac(s:anY):∀n,Cn s n<=n
 | 0=>ab8 _
 | n+1=>by unfold Cn;have:=aac s n;grind
theorem atc(s:anY):kD s<=s.length:=aac s _
def J2(s:anY):Int×Int:=bif !(H7 (s.drop (kD s)))then(0,3)else
 ((gB (s.take (kD s)) (1125899906842624 / 2 ^ (Int.toNat (10*zH (s.drop (kD s)))))).1*2 ^ (Int.toNat (10*zH (s.drop (kD s)))),(gB (s.take (kD s)) (1125899906842624 / 2 ^ (Int.toNat (10*zH (s.drop (kD s)))))).2)
def lq(s:anY):Int:=(J2 s).1
def YO(s:anY):Int:=(J2 s).2
theorem NZ{u:Int}(h0:0<=u)(h1:u<=3):(u=0/\(2:Int) ^ (Int.toNat (10*u))=1)\/(u=1/\(2:Int) ^ (Int.toNat (10*u))=1024)\/(u=2/\(2:Int) ^ (Int.toNat (10*u))=1048576)\/(u=3/\(2:Int) ^ (Int.toNat (10*u))=1073741824):=by
 have:u=0\/u=1\/u=2\/u=3:=by omega
 grind
theorem ay4(n:Int):bits .and .i64 n 1023=n%1024:=by
 have h3:(BitVec.ofInt 64 1023).toNat=2 ^ 10-1:=by decide
 have key:(BitVec.ofInt 64 n &&& BitVec.ofInt 64 1023).toNat=(n%((2 ^ 64:Nat):Int)).toNat%2 ^ 10:=by rw[BitVec.toNat_and,BitVec.toNat_ofInt,h3,Nat.and_two_pow_sub_one_eq_mod]
 show IntKind.i64.wrap ((BitVec.ofInt 64 n &&& BitVec.ofInt 64 1023).toNat:Nat)=n%1024;rw[key,IntKind.wrap_i64];omega
def kP(n:Int):Int:=bif(bif n==0 then true else n%1024 != 0)then 0 else bif n%1048576 != 0 then 1 else bif n%1073741824 != 0 then 2 else 3
theorem acd(n:Int):0<=kP n/\kP n<=3:=by unfold kP;grind
def sfx(u:Int):anY:=bif u==0 then[]else bif u==1 then[107]else bif u==2 then[109]else[103]
def Br(n:Int):anY:=bif(bif decide (n<0)then true else decide ((1125899906842624:Int)<n))then[]else bA (n / 2 ^ (Int.toNat (10*kP n)))++sfx (kP n)
def KM(n:An):Bool:=bif(bif n.kind != 1 then true else YO n.text != 0)then true else lq n.text==0
def byV(n:An):An:=bif KM n then zn else bI (Br (lq n.text))
def byE(n:An):Int:=bif KM n then 10 else 0
theorem u8e(c k:UInt8):((c.toNat:Int)=(k.toNat:Int))↔c=k:=by rw[<- UInt8.toNat_inj];omega
theorem amr(s:anY):(Dj s).isSome=true->gv (Dj s)=(zH s,H7 s):=by
 refine gZ rfl ?_;simp only[dR,Jl]
 match s with
 | []=>((repeat' (first|intro _|apply And.intro))<;>grind[zH,H7,uBb,uKb,uMb,uGb])
 | [a] =>
  have h:([a].length:Int)=1:=rfl;rw[h]
  (repeat' (first|intro _|apply And.intro))<;>grind[zH,H7,uBb,uKb,uMb,uGb]
 | [a,b] =>
  have h:([a,b].length:Int)=2:=rfl;have g0:List.getD [a,b] (Int.toNat 0) 0=a:=rfl;have g1:List.getD [a,b] (Int.toNat 1) 0=b:=rfl;have c1:cut [a,b] 0 1=[a]:=rfl;have h1:((a.toNat:Int)=98)↔a=98:=u8e a 98;have h2:((b.toNat:Int)=98)↔b=98:=u8e b 98;rw[h,g0,g1,c1]
  (repeat' (first|intro _|apply And.intro))<;>grind[zH,H7,uBb,uKb,uMb,uGb]
 | a::b::c::t =>
  have h:((a::b::c::t).length:Int)≠2:=by simp only[List.length_cons];omega
  (repeat' (first|intro _|apply And.intro))<;>grind[zH,H7,uBb,uKb,uMb,uGb]
theorem aj9(s:anY)(hs:s.length<=1000000):(Gy s).isSome=true->gv (Gy s)=J2 s:=by
 refine part rfl (fun r=>r=J2 s) (fun | .e y=>y=s | .h0 v0 v1=>v0=s/\0<=v1/\v1<=(s.length:Int)/\kD s=Cn s v1.toNat) rfl ?_;rintro(y | ⟨v0,v1⟩) hs'
 ·cases hs';simp only[aK,xA];exact⟨trivial,by omega,by omega,by rw[aaY];rfl⟩
 ·obtain⟨rfl,h1,h2,h3⟩:=hs';obtain⟨n,rfl⟩:∃n:Nat,v1=(n:Int):=⟨v1.toNat,by omega⟩
  rw[aaY]at h3;simp only[aK,aW,xA];rw[pK,pK];intro _ _;have hcond:(bif(decide ((0:Int)<(n:Int)))then(bif(decide ((((List.getD v0 (Int.toNat (au ((n:Int)-(1:Int)))) 0).toNat:Nat):Int)<(48:Int)))then true else(decide ((57:Int)<(((List.getD v0 (Int.toNat (au ((n:Int)-(1:Int)))) 0).toNat:Nat):Int))))else false)=(decide (0<n)&&!(fC (v0.getD (n-1) 0))):=by
   by_cases hn:0<n
   ·rw[decide_eq_true (show(0:Int)<(n:Int) by omega),cond_true,bX (by omega),show((n:Int)-1).toNat=n-1 by omega,Qk,decide_eq_true hn,afq]
   ·rw[decide_eq_false (show ¬ (0:Int)<(n:Int) by omega),cond_false,decide_eq_false hn,aju]
  rw[hcond];cases hc:(decide (0<n)&&!(fC (v0.getD (n-1) 0)))with
  | true =>
   rw[cond_true];rw[abK,ab6,ah3]at hc;obtain⟨m,rfl⟩:∃m,n=m+1:=⟨n-1,by omega⟩
   have e:au (((m+1:Nat):Int)-1)=(m:Int):=by rw[bX (by omega)];omega
   rw[e];refine⟨trivial,by omega,by omega,?_⟩;rw[aaY,h3,Cn,show v0.getD m 0=v0.getD (m+1-1) 0 from rfl,hc.2];rfl
  | false =>
   rw[cond_false,EK,aaY];have hls:kD v0=n:=by
    rw[h3]
    match n,hc with
    | 0,_=>rfl
    | m+1,hc =>
     rw[decide_eq_true (by omega),afq]at hc;have:fC (v0.getD m 0)=true:=by simpa using hc
     rw[Cn,this];rfl
   have hct:cut v0 0 (n:Int)=v0.take n:=by unfold cut;rfl
   obtain⟨u0,u3⟩:=aho (v0.drop n);have hw:au (10*zH (v0.drop n))=10*zH (v0.drop n):=bX (by omega);rw[pK,pZ];intro _ i;rw[amr _ i];dsimp only;rw[hw,hct];unfold J2;rw[hls];cases H7 (v0.drop n)with
   | false=>rfl
   | true =>
    rw[ab7,cond_false,cond_false];have hm:(0:Int)<=1125899906842624 / 2 ^ (Int.toNat (10*zH (v0.drop n)))/\(1125899906842624:Int) / 2 ^ (Int.toNat (10*zH (v0.drop n)))<=9007199254740992:=by rcases NZ u0 u3 with⟨_,h⟩ | ⟨_,h⟩ | ⟨_,h⟩ | ⟨_,h⟩<;>rw[h]<;>decide
    rw[uW _ _ (yX.2 ⟨⟨by rw[acu];omega,hm.1⟩,hm.2⟩),count_eq _ hm.1];simp only[dR];intro _ _ _ _;have hb:=JV (v0.take n) _ hm.1;rw[dO];have hx:au ((gB (v0.take n) (1125899906842624 / 2 ^ (Int.toNat (10*zH (v0.drop n))))).1*2 ^ (Int.toNat (10*zH (v0.drop n))))=(gB (v0.take n) (1125899906842624 / 2 ^ (Int.toNat (10*zH (v0.drop n))))).1*2 ^ (Int.toNat (10*zH (v0.drop n))):=by have hb':0<=(gB (v0.take n) (1125899906842624 / 2 ^ (Int.toNat (10*zH (v0.drop n))))).1/\(gB (v0.take n) (1125899906842624 / 2 ^ (Int.toNat (10*zH (v0.drop n))))).1<=1125899906842624 / 2 ^ (Int.toNat (10*zH (v0.drop n))):=hb;apply bX;rcases NZ u0 u3 with⟨_,h⟩ | ⟨_,h⟩ | ⟨_,h⟩ | ⟨_,h⟩<;>rw[h]at hb' ⊢ <;> omega
    rw[hx]
theorem akb(x:Int)(h:0<=x/\x<=1125899906842624):(nV x).isSome=true->gv (nV x)=kP x:=by
 refine part rfl (fun r=>r=kP x) (fun | .e y=>y=x | .h0 v0 v1=>(v1=0/\v0=x)\/(v1=1/\v0=x / 1024/\x≠0/\x%1024=0)\/(v1=2/\v0=x / 1048576/\x≠0/\x%1048576=0)\/(v1=3/\v0=x / 1073741824/\x≠0/\x%1073741824=0)) rfl ?_;rintro(y | ⟨v0,v1⟩) hs'
 ·cases hs';exact .inl ⟨rfl,rfl⟩
 ·simp only[aK,aW,A8,ay4];have e2:(2:Int) ^ (Int.toNat 10)=1024:=by decide
  rw[e2];simp only[dR];unfold kP;rcases hs' with⟨rfl,rfl⟩ | ⟨rfl,rfl,h1,h2⟩ | ⟨rfl,rfl,h1,h2⟩ | ⟨rfl,rfl,h1,h2⟩
  ·have w:au (0+1)=1:=rfl;rw[w]
   (repeat' (first|intro _|apply And.intro))<;>grind
  ·have w:au (1+1)=2:=rfl;grind
  ·have w:au (2+1)=3:=rfl;grind
  grind
theorem ams(x:Int):(Jo x).isSome=true->gv (Jo x)=Br x:=by
 refine gZ rfl ?_;simp only[aK,aW,Jm];unfold Br;cases hb:(bif decide (x<0)then true else decide ((1125899906842624:Int)<x))with
 | true=>rfl
 | false =>
  have h0:0<=x/\x<=1125899906842624:=by grind
  rw[cond_false,cond_false,pZ];intro i;rw[akb x h0 i];obtain⟨u0,u3⟩:=acd x;rw[bX (n:=10*kP x) (by omega)];have hd:0<=x / 2 ^ (Int.toNat (10*kP x))/\x / 2 ^ (Int.toNat (10*kP x))<=x:=by rcases NZ u0 u3 with⟨_,h⟩ | ⟨_,h⟩ | ⟨_,h⟩ | ⟨_,h⟩<;>rw[h]<;>omega
  have hs:List.getD ([([]:anY),([107]:anY),([109]:anY),([103]:anY)]:List (anY)) (Int.toNat (kP x)) (dflt Ty.str)=sfx (kP x):=by
   have:kP x=0\/kP x=1\/kP x=2\/kP x=3:=by omega
   rcases this with h | h | h | h<;>rw[h]<;>rfl
  rw[hs];simp only[dR];intro _ i2 _ _;rw[Bp _ (by omega) i2]
theorem akc(n:An)(hs:n.text.length<=1000000):(xB n).isSome=true->gv (xB n)=(byV n,byE n):=by
 refine gZ rfl ?_;have h1:=aj9 n.text hs;have h2:=ams (lq n.text);have h3:=jO;have h4:lq n.text=(J2 n.text).1:=rfl;have h5:YO n.text=(J2 n.text).2:=rfl;have h6:∀s,bI s=dz s:=fun _=>rfl
 simp only[dR,Gz]
 (repeat' (first|intro _|apply And.intro))<;>grind[byV,byE,KM,rX]
theorem amt(n:An)(hs:n.text.length<=1000000):(zU n).isSome=true->gv (zU n)=(yB Cm n,yC Cm n):=by
 have h0:(Ei n.text).isSome=true->gv (Ei n.text)=Cm n.text:=by refine gZ rfl ?_;simp only[dR,Eh];intro i;rw[agH _ hs i];rfl
 have h:(nT n).isSome=true->gv (nT n)=(yB Cm n,yC Cm n):=by
  refine gZ rfl ?_;have h2:=jO;simp only[dR,nS]
  (repeat' (first|intro _|apply And.intro))<;>grind[yB,yC,KL,rX]
 refine gZ rfl ?_;simp only[dR,Jk];intro i;rw[h i]
def uw(c:Int):Bool:=bif c==32 then true else c==9
theorem drop_at{s:anY}{a:Nat}(h:a<s.length):s.drop a=s.getD a 0::s.drop (a+1):=by rw[List.drop_eq_getElem_cons h,List.getD,aaO h];rfl
def oI:anY->Option (anY×Nat)
 | []=>none
 | [c]=>bif(((c.toNat:Nat):Int)==34)then some ([],1)else none
 | c::d::t=>bif(((c.toNat:Nat):Int)==34)then some ([],1)else bif(((c.toNat:Nat):Int)==92)then
   (oI t).map fun q=>((bif(bif(((d.toNat:Nat):Int)!=34)then(((d.toNat:Nat):Int)!=92)else false)then[c]else[])++d::q.1,q.2+2)
   else(oI (d::t)).map fun q=>(c::q.1,q.2+1)
theorem adU:∀(t:anY) (q:anY×Nat),oI t=some q->q.2<=t.length/\q.1.length+1<=q.2
 | [],q,h=>by cases h
 | [c],q,h=>by unfold oI at h;grind
 | c::d::t,q,h=>by
  unfold oI at h;cases hc:(((c.toNat:Nat):Int)==34)with
  | true=>grind
  | false =>
   rw[hc,cond_false]at h;cases h2:(((c.toNat:Nat):Int)==92)with
   | true =>
    rw[h2,cond_true]at h;cases ht:oI t with
    | none=>rw[ht]at h;cases h
    | some p =>rw[ht]at h;cases h;have:=adU t p ht;grind
   | false =>
    rw[h2,cond_false]at h;cases ht:oI (d::t)with
    | none=>rw[ht]at h;cases h
    | some p =>rw[ht]at h;cases h;have:=adU (d::t) p ht;grind
def MF:anY->Option (anY×Nat)
 | []=>none
 | c::t=>bif(((c.toNat:Nat):Int)==92)then(match t with
   | []=>none
   | d::_=>some ([d],2))
  else bif(((c.toNat:Nat):Int)==39)then(bif decide (jf 39 t<t.length)then some (t.take (jf 39 t),jf 39 t+2)else none)
  else bif(((c.toNat:Nat):Int)!=34)then some ([c],1)
  else(oI t).map fun q=>(q.1,q.2+1)
theorem atd{t:anY}{q:anY×Nat}(h:MF t=some q):q.2<=t.length/\1<=q.2/\q.1.length<=q.2:=by
 cases t with
 | nil=>cases h
 | cons c t =>
  simp only[MF]at h;cases h1:(((c.toNat:Nat):Int)==92)with
  | true =>grind
  | false =>
   rw[h1,cond_false]at h;cases h2:(((c.toNat:Nat):Int)==39)with
   | true =>grind
   | false =>
    rw[h2,cond_false]at h;cases h3:(((c.toNat:Nat):Int)!=34)with
    | true=>rw[h3]at h;cases h;simp
    | false =>
     rw[h3,cond_false]at h;cases ht:oI t with
     | none=>rw[ht]at h;cases h
     | some p =>rw[ht]at h;cases h;have:=adU t p ht;simp only[List.length_cons];omega
def kF:Nat->anY->anY->Bool->List (anY)->Option (List (anY))
 | 0,_,_,_,_=>none
 | _+1,[],w,b,out=>some (bif b then out++[w]else out)
 | n+1,c::t,w,b,out=>bif uw ((c.toNat:Nat):Int)then kF n t (bif b then[]else w) false (bif b then out++[w]else out)
   else(match MF (c::t)with
    | none=>none
    | some q=>kF n ((c::t).drop q.2) (w++q.1) true out)
def qH(s:anY):Option (List (anY)):=kF (s.length+1) s [] false []
def VX:Option (List (anY))->List (anY)
 | none=>[]
 | some l=>bif decide ((32:Int)<(l.length:Int))then[]else l
def adV:Option (List (anY))->Int
 | none=>3
 | some l=>bif decide ((32:Int)<(l.length:Int))then 9 else 0
def Sw(s:anY):List (anY):=VX (qH s)
def akd(s:anY):Int:=adV (qH s)
theorem Sy(o:Option (List (anY))):(VX o).length<=32:=by
 cases o with
 | none=>exact aa4 _
 | some l =>simp only[VX];grind
theorem N7{n:Nat}{s:anY}{i:Nat}(hi:s.length<=i)(w:anY)(b:Bool)(out:List (anY)):kF (n+1) (s.drop i) w b out=some (bif b then out++[w]else out):=by rw[abb hi];rfl
theorem JD{n:Nat}{s:anY}{i:Nat}(hi:i<s.length)(hb:uw (((s.getD i 0).toNat:Nat):Int)=true)(w:anY)(b:Bool)(out:List (anY)) :
  kF (n+1) (s.drop i) w b out=kF n (s.drop (i+1)) (bif b then[]else w) false (bif b then out++[w]else out):=by
 rw[drop_at hi,kF,hb,cond_true]
theorem YP{n:Nat}{s:anY}{i:Nat}(hi:i<s.length)(hb:uw (((s.getD i 0).toNat:Nat):Int)=false)(w:anY)(b:Bool)(out:List (anY)) :
  kF (n+1) (s.drop i) w b out=(match MF (s.drop i)with
   | none=>none
   | some q=>kF n (s.drop (i+q.2)) (w++q.1) true out):=by
 rw[drop_at hi,kF,hb,cond_false,<- drop_at hi];cases MF (s.drop i)with
 | none=>rfl
 | some q=>simp only[akA]
theorem ate(b:UInt8):∀t:anY,Lib.indexByte t b=if jf ((b.toNat:Nat):Int) t<t.length then(jf ((b.toNat:Nat):Int) t:Int)else -1
 | []=>rfl
 | c::t=>by
  have ih:=ate b t;have hl:=ata ((b.toNat:Nat):Int) t;unfold Lib.indexByte jf;by_cases h:c=b
  ·grind
  ·have h1:(c==b)=false:=by simpa using h
   rw[eT (show((c.toNat:Nat):Int)≠((b.toNat:Nat):Int)from fun e=>h (UInt8.toNat_inj.1 (by omega))),cond_false,if_neg (by rw[h1];decide),ih];grind
theorem aEP(t:anY):Io t 39=if jf 39 t<t.length then(jf 39 t:Int)else -1:=ate 39 t
def nm(w:anY):List Int:=w.map fun b=>((b.toNat:Nat):Int)
theorem anX(w:anY):List.map (fun y:Int=>UInt8.ofNat (Int.toNat y)) (nm w)=w:=by
 unfold nm;rw[List.map_map]
 conv=>rhs;rw[<- List.map_id w]
 refine ahY fun b _=>?_
 show UInt8.ofNat (Int.toNat ((b.toNat:Nat):Int))=b;rw[aaY];exact UInt8.ofNat_toNat
theorem J3(w v:anY):nm w++nm v=nm (w++v):=by simp[nm]
theorem ake(c:Int):Gl c=some (uw c):=dh rfl rfl
theorem ay5(P:List (anY)×Int->Prop)(g:Gm->Prop)(s:anY):(ig (.w9 s [] [] 0 false)).run Prop P g True=(ig (.e s)).run Prop P g True:=rfl
def sqV(t:anY):Option (anY×Nat):=bif decide (jf 39 t<t.length)then some (t.take (jf 39 t),jf 39 t+1)else none
def adW(n a:Nat)(s w:anY)(out:List (anY)):Option (anY×Nat)->Option (List (anY))
 | none=>none
 | some q=>kF n (s.drop (a+q.2)) (w++q.1) true out
def spI(s:anY):Gm->Prop
 | .e y=>y=s
 | .ZB v0 v1 v2=>∃w,v1=nm w/\some (bif v2 then v0++[w]else v0)=qH s
 | .w9 v0 v1 v2 v3 v4=>v0=s/\∃(i n:Nat) (w:anY),v3=(i:Int)/\i<=s.length/\s.length-i<n/\v2=nm w/\kF n (s.drop i) w v4 v1=qH s
 | .RH v0 v1 v2 v3 v4=>v0=s/\v4=true/\∃(i n:Nat) (w:anY),v3=(i:Int)/\i<=s.length/\s.length-i<=n/\v2=nm w/\adW n i s w v1 (sqV (s.drop i))=qH s
 | .Kl v0 v1 v2 v3 v4=>v0=s/\v4=true/\∃(i n:Nat) (w:anY),v3=(i:Int)/\i<=s.length/\s.length-i<=n/\v2=nm w/\adW n i s w v1 (oI (s.drop i))=qH s
theorem akf(i:Nat)(h:i<=1000010):au ((i:Int)+1)=((i+1:Nat):Int):=by rw[bX (by omega)];omega
theorem Qn(c:UInt8):[((c.toNat:Nat):Int)]=nm [c]:=rfl
abbrev spQ(s:anY)(r:List (anY)×Int):Prop:=r=(VX (qH s),adV (qH s))
theorem axq(s:anY)(hs:s.length<=1000000){v0:anY}{v1:List (anY)}{v2:List Int}{v3:Int}{v4:Bool}(h:spI s (.w9 v0 v1 v2 v3 v4)):(ig (.w9 v0 v1 v2 v3 v4)).run Prop (spQ s) (spI s) True:=by
 obtain⟨rfl,i,n,w,rfl,hi,hn,rfl,hR⟩:=h;obtain⟨m,rfl⟩:∃m,n=m+1:=⟨n-1,by omega⟩
 simp only[aK,aW,ig,ake,aD,anX];by_cases he:i=v0.length
 ·rw[show((i:Int)==(v0.length:Int))=true by rw[he];simp,cond_true];rw[N7 (by omega)]at hR;exact⟨w,rfl,hR⟩
 ·rw[show((i:Int)==(v0.length:Int))=false by simp only[afB];omega,cond_false,pS];intro _ _;have hl:i<v0.length:=by omega
  rw[aaY,akf i (by omega)];cases hb:uw (((v0.getD i 0).toNat:Nat):Int)with
  | true =>
   rw[JD hl hb]at hR;rw[cond_true];cases v4 with
   | true =>rw[cond_true,pK];intro _;exact⟨rfl,i+1,m,[],rfl,by omega,by omega,rfl,hR⟩
   | false=>exact⟨rfl,i+1,m,w,rfl,by omega,by omega,rfl,hR⟩
  | false =>
   rw[YP hl hb,drop_at hl]at hR;simp only[MF]at hR;rw[cond_false,pK];intro _;cases h39:(((v0.getD i 0).toNat:Nat):Int)==39 with
   | true =>
    have Hg:((((v0.getD i 0).toNat:Nat):Int)==92)=false:=by have:=eq_of_beq h39;rw[this];rfl
    rw[Hg,h39,cond_false,cond_true]at hR;rw[cond_true];refine⟨rfl,rfl,i+1,m,w,rfl,by omega,by omega,rfl,?_⟩;unfold sqV;cases hf:decide (jf 39 (v0.drop (i+1))<(v0.drop (i+1)).length)with
    | true =>rw[hf]at hR;show kF m (v0.drop (i+1+(jf 39 (v0.drop (i+1))+1))) _ true v1=_;grind
    | false=>rw[hf]at hR;exact hR
   | false =>
    rw[cond_false,pK];intro _;rw[h39,cond_false]at hR;cases J4:(((v0.getD i 0).toNat:Nat):Int)==34 with
    | true =>
     have Hg:((((v0.getD i 0).toNat:Nat):Int)==92)=false:=by have:=eq_of_beq J4;rw[this];rfl
     have awd:((((v0.getD i 0).toNat:Nat):Int)!=34)=false:=by have:=eq_of_beq J4;rw[this];rfl
     rw[Hg,awd,cond_false,cond_false]at hR;rw[cond_true];refine⟨rfl,rfl,i+1,m,w,rfl,by omega,by omega,rfl,?_⟩;cases hd:oI (v0.drop (i+1))with
     | none=>rw[hd]at hR;exact hR
     | some q =>rw[hd]at hR;show kF m (v0.drop (i+1+q.2)) _ true v1=_;grind
    | false =>
     have awd:((((v0.getD i 0).toNat:Nat):Int)!=34)=true:=by grind
     rw[cond_false,pK];intro _;rw[awd,cond_true]at hR;cases Hg:(((v0.getD i 0).toNat:Nat):Int)==92 with
     | true =>
      rw[Hg,cond_true]at hR;rw[cond_true];by_cases he2:i+1=v0.length
      ·rw[show(((i+1:Nat):Int)==(v0.length:Int))=true by rw[he2];simp,cond_true];rw[abb (by omega)]at hR;have hR:(none:Option (List (anY)))=qH v0:=hR;show _=_;rw[<- hR];rfl
      ·rw[show(((i+1:Nat):Int)==(v0.length:Int))=false by simp only[afB];omega,cond_false,pS];intro _ _;rw[pK];intro _;have hl2:i+1<v0.length:=by omega
       rw[drop_at hl2]at hR;rw[aaY,akf (i+1) (by omega),Qn,J3];exact⟨rfl,i+2,m,w++[v0.getD (i+1) 0],rfl,by omega,by omega,rfl,hR⟩
     | false =>rw[Hg,cond_false]at hR;rw[cond_false,pK];intro _;rw[pK];intro _;rw[Qn,J3];exact⟨rfl,i+1,m,w++[v0.getD i 0],rfl,by omega,by omega,rfl,hR⟩
def H8(n:An):Bool:=bif n.kind==1 then akd n.text==0 else qF n
def ko(n:An):List (anY):=bif n.kind==1 then Sw n.text else bJ n
def DV(n:An):An:=bif H8 n then uN (ko n)else zn
def wdE(n:An):Int:=bif H8 n then 0 else 10
theorem aCt(s:anY)(hs:s.length<=1000000){v0:anY}{v1:List (anY)}{v2:List Int}{v3:Int}{v4:Bool}(h:spI s (.RH v0 v1 v2 v3 v4)):(ig (.RH v0 v1 v2 v3 v4)).run Prop (spQ s) (spI s) True:=by
 obtain⟨rfl,rfl,i,n,w,rfl,hi,hn,rfl,hR⟩:=h;simp only[aK,aW,ig,EK,aaY,aEP];rw[pK];intro _;unfold sqV at hR;have hl:(v0.drop i).length=v0.length-i:=ach;by_cases hf:jf 39 (v0.drop i)<(v0.drop i).length
 ·rw[decide_eq_true hf,cond_true]at hR;rw[if_pos hf,decide_eq_true (show(0:Int)<=(jf 39 (v0.drop i):Int) by omega),cond_true,pK];intro _;rw[pK];intro _;have e1:au ((i:Int)+(jf 39 (v0.drop i):Int))=(i:Int)+(jf 39 (v0.drop i):Nat):=bX (by omega);have e2:au ((jf 39 (v0.drop i):Int)+1)=((jf 39 (v0.drop i)+1:Nat):Int):=akf _ (by omega);have e3:au ((i:Int)+((jf 39 (v0.drop i)+1:Nat):Int))=((i+(jf 39 (v0.drop i)+1):Nat):Int):=by rw[bX (by omega)];omega
  rw[e1,e2,e3,aj0 v0 (by omega),aaY];refine⟨rfl,i+(jf 39 (v0.drop i)+1),n,w++(v0.drop i).take (jf 39 (v0.drop i)),rfl,by omega,by omega,?_,hR⟩;rw[<- J3];rfl
 ·rw[decide_eq_false hf,cond_false]at hR;have hR:(none:Option (List (anY)))=qH v0:=hR;rw[if_neg hf];show _=_;rw[<- hR];rfl
theorem aAU(c d:UInt8)(t:anY):oI (c::d::t)=bif(((c.toNat:Nat):Int)==34)then some ([],1)else bif(((c.toNat:Nat):Int)==92)then(oI t).map fun q=>((bif(bif(((d.toNat:Nat):Int)!=34)then(((d.toNat:Nat):Int)!=92)else false)then[c]else[])++d::q.1,q.2+2)else(oI (d::t)).map fun q=>(c::q.1,q.2+1):=by rw[oI]
theorem akh(n i j:Nat)(s w x:anY)(out:List (anY))(o:Option (anY×Nat)):adW n i s w out (o.map fun q=>(x++q.1,q.2+j))=adW n (i+j) s (w++x) out o:=by
 cases o with
 | none=>rfl
 | some q =>show kF n (s.drop (i+(q.2+j))) (w++(x++q.1)) true out=kF n (s.drop (i+j+q.2)) (w++x++q.1) true out;grind
theorem aCu(s:anY)(hs:s.length<=1000000){v0:anY}{v1:List (anY)}{v2:List Int}{v3:Int}{v4:Bool}(h:spI s (.Kl v0 v1 v2 v3 v4)):(ig (.Kl v0 v1 v2 v3 v4)).run Prop (spQ s) (spI s) True:=by
 obtain⟨rfl,rfl,i,n,w,rfl,hi,hn,rfl,hR⟩:=h;simp only[aK,aW,ig,aaY,akf i (by omega)];rw[pK];intro _;have hno:adW n i v0 w v1 none=qH v0->spQ v0 (([]:List (anY)),(3:Int)):=fun h=>by have h:(none:Option (List (anY)))=qH v0:=h;show _=_;rw[<- h];rfl
 by_cases he:i=v0.length
 ·rw[show((i:Int)==(v0.length:Int))=true by rw[he];simp,cond_true,cond_true];rw[abb (by omega)]at hR;exact hno hR
 ·have hl:i<v0.length:=by omega
  rw[show((i:Int)==(v0.length:Int))=false by simp only[afB];omega,cond_false];by_cases he2:i+1=v0.length
  ·rw[show(((i+1:Nat):Int)==(v0.length:Int))=true by rw[he2];simp,cond_true];have hn1:v0.drop (i+1)=[]:=abb (by omega);rw[drop_at hl,hn1]at hR;have hR:adW n i v0 w v1 (bif((((v0.getD i 0).toNat:Nat):Int)==34)then some ([],1)else none)=qH v0:=hR;cases Hg:(((v0.getD i 0).toNat:Nat):Int)==92 with
   | true =>grind
   | false =>
    rw[cond_false,pS];intro _ _;rw[aaY];cases J4:(((v0.getD i 0).toNat:Nat):Int)==34 with
    | true =>rw[J4,cond_true]at hR;rw[cond_true];have hR:kF n (v0.drop (i+1)) (w++[]) true v1=qH v0:=hR;rw[acg]at hR;exact⟨rfl,i+1,n,w,rfl,by omega,by omega,rfl,hR⟩
    | false =>rw[J4,cond_false]at hR;rw[cond_false,pK];intro _;rw[Hg,cond_false,pK];intro _;rw[pK];intro _;rw[Qn,J3];refine⟨rfl,rfl,i+1,n,w++[v0.getD i 0],rfl,by omega,by omega,rfl,?_⟩;rw[hn1];exact hR
  ·have hl2:i+1<v0.length:=by omega
   rw[show(((i+1:Nat):Int)==(v0.length:Int))=false by simp only[afB];omega,cond_false,cond_false,pS];intro _ _;rw[aaY];rw[drop_at hl,drop_at hl2,aAU]at hR;cases J4:(((v0.getD i 0).toNat:Nat):Int)==34 with
   | true =>rw[J4,cond_true]at hR;rw[cond_true];have hR:kF n (v0.drop (i+1)) (w++[]) true v1=qH v0:=hR;rw[acg]at hR;exact⟨rfl,i+1,n,w,rfl,by omega,by omega,rfl,hR⟩
   | false =>
    rw[J4,cond_false]at hR;rw[cond_false,pK];intro _;cases Hg:(((v0.getD i 0).toNat:Nat):Int)==92 with
    | true =>
     have hc:v0.getD i 0=92:=UInt8.toNat_inj.1 (by show(v0.getD i 0).toNat=92;have:=eq_of_beq Hg;omega);rw[Hg,cond_true,hc]at hR;rw[cond_true,pS];intro _ _;rw[pK];intro _;rw[aaY,akf (i+1) (by omega)];have e92:([(92:Int)]:List Int)=nm [92]:=rfl;cases hb:(bif((((v0.getD (i+1) 0).toNat:Nat):Int)!=34)then((((v0.getD (i+1) 0).toNat:Nat):Int)!=92)else false)with
     | true =>rw[hb]at hR;rw[cond_true,pK];intro _;rw[pK];intro _;rw[pK];intro _;rw[Qn,e92,J3,J3];refine⟨rfl,rfl,i+2,n,w++[92]++[v0.getD (i+1) 0],rfl,by omega,by omega,rfl,?_⟩;have:=akh n i 2 v0 w ([92]++[v0.getD (i+1) 0]) v1 (oI (v0.drop (i+2)));rw[<- ab9]at this;exact this.symm.trans hR
     | false =>rw[hb]at hR;rw[cond_false,pK];intro _;rw[pK];intro _;rw[Qn,J3];refine⟨rfl,rfl,i+2,n,w++[v0.getD (i+1) 0],rfl,by omega,by omega,rfl,?_⟩;exact(akh n i 2 v0 w [v0.getD (i+1) 0] v1 (oI (v0.drop (i+2)))).symm.trans hR
    | false =>rw[Hg,cond_false,<- drop_at hl2]at hR;rw[cond_false,pK];intro _;rw[pK];intro _;rw[Qn,J3];refine⟨rfl,rfl,i+1,n,w++[v0.getD i 0],rfl,by omega,by omega,rfl,?_⟩;exact(akh n i 1 v0 w [v0.getD i 0] v1 (oI (v0.drop (i+1)))).symm.trans hR
theorem aki(s:anY)(hs:s.length<=1000000):(Gp s).isSome=true->gv (Gp s)=(Sw s,akd s):=by
 refine part rfl (spQ s) (spI s) rfl ?_;have w9:spI s (.w9 s [] [] 0 false):=⟨rfl,0,s.length+1,[],rfl,by omega,by omega,rfl,rfl⟩
 rintro(y | ⟨v0,v1,v2⟩ | ⟨v0,v1,v2,v3,v4⟩ | ⟨v0,v1,v2,v3,v4⟩ | ⟨v0,v1,v2,v3,v4⟩) h
 ·have h:y=s:=h;subst h;rw[<- ay5];exact axq y hs w9
 ·obtain⟨w,rfl,hR⟩:=h;simp only[aK,aW,ig,anX];cases v2 with
  | true =>
   rw[cond_true]at hR ⊢;rw[pK];intro _;unfold spQ;rw[<- hR];simp only[dR,VX,adV]
   (repeat' (first|intro _|apply And.intro))<;>grind
  | false =>
   rw[cond_false]at hR ⊢;unfold spQ;rw[<- hR];simp only[dR,VX,adV]
   (repeat' (first|intro _|apply And.intro))<;>grind
 ·exact axq s hs h
 ·exact aCt s hs h
 ·exact aCu s hs h
theorem akj(n:An)(hs:n.text.length<=1000000)(hl:n.kids.length<=1000000)(hk:(bJ n).length<=1000000):(xg n).isSome=true->gv (xg n)=(DV n,wdE n):=by
 refine gZ rfl ?_;have h1:=Bj n hl;have h2:=aki n.text hs;have h3:=jO;have h4:=ab5 (Sw n.text) (by have:=Sy (qH n.text);unfold Sw;omega);have h5:=ab5 (bJ n) hk;simp only[dR,Gs]
 (repeat' (first|intro _|apply And.intro))<;>grind[DV,wdE,H8,ko,rX]
theorem gV(x0:anY):Z (iQ x0) fun _=>True:=by
 refine cB rfl ?_;simp only[bC,BR]
 all_goals grind[yt]
theorem KN(x0:Int):Z (CU x0) fun _=>True:=by
 refine cB rfl ?_;simp only[bC,wJ]
 all_goals grind[zB]
theorem wG(x0:anY):Z (jk x0) fun _=>True:=by
 refine jy rfl (fun | .e y0=>y0=x0 | .h0 v0 v1=>0<=v1/\v1<=(v0.length:Int)/\v0.length<=1000000/\v0=x0) (fun | .e _=>10000000000 | .h0 v0 v1=>((v0.length:Int)-v1).toNat) rfl (by show 10000000000<_;omega) ?_;rintro(y0 | ⟨v0,v1⟩) hs
 ·cases hs;simp only[bC,dw]
  all_goals grind[KN,zB,rE]
 ·dsimp only at hs;simp only[bC,dw];have:=@dx (v1+1)
  all_goals grind[KN,zB,rE]
theorem vC(x0:anY):Z (Ak x0) fun _=>True:=by
 refine cB rfl ?_;simp only[bC,Aj]
 all_goals grind[wG]
theorem MG(x0:Int):Z (EF x0) fun _=>True:=by
 refine cB rfl ?_;simp only[bC,yO]
 all_goals grind[rE,GZ]
theorem yu(x0:anY):Z (jB x0) fun _=>True:=by
 refine jy rfl (fun | .e y0=>y0=x0 | .h0 v0 v1=>0<=v1/\v1<=(v0.length:Int)/\v0.length<=1000000/\v0=x0) (fun | .e _=>10000000000 | .h0 v0 v1=>((v0.length:Int)-v1).toNat) rfl (by show 10000000000<_;omega) ?_;rintro(y0 | ⟨v0,v1⟩) hs
 ·cases hs;simp only[bC,dK]
  all_goals grind[MG,rE,GZ]
 ·dsimp only at hs;simp only[bC,dK];have:=@dx (v1+1)
  all_goals grind[MG,rE,GZ]
theorem adX(x0:anY):Z (Ch x0) fun _=>True:=by
 refine cB rfl ?_;simp only[bC,Cg]
 all_goals grind[yu]
theorem zW:Z (eO ) fun _=>True:=by
 refine cB rfl ?_;simp only[bC,I8]
 all_goals grind
theorem agI(x0:anY):Z (Kk x0) fun _=>True:=by
 refine cB rfl ?_;simp only[bC,Kj]
 all_goals grind
theorem d9(x0:An)(x1:Int):Z (jU x0 x1) fun r=>r=true->x0.kind=x1/\x0.kids.length<=32:=by
 refine cB rfl ?_;simp only[bC,Iq]
 all_goals grind
theorem VY(x0:Int):Z (Gl x0) fun _=>True:=by
 refine cB rfl ?_;simp only[bC,L6]
 all_goals grind
theorem TA(x0:anY)(x1:Int)(hp:x0.length<=1000000):Z (zu x0 x1) fun _=>True:=by
 refine jy rfl (fun | .e y0 y1=>y0=x0/\y1=x1 | .h0 v0 v1 v2 v3 v4 v5=>0<=v5/\v5<=v4/\v4=(v0.length:Int)/\v0.length<=1000000/\v0=x0/\v1=x1/\v4=(x0.length:Int)) (fun | .e _ _=>10000000000 | .h0 v0 v1 v2 v3 v4 v5=>(v4-v5).toNat) ⟨rfl,rfl⟩ (by show 10000000000<_;omega) ?_;rintro(⟨y0,y1⟩ | ⟨v0,v1,v2,v3,v4,v5⟩) hs
 ·obtain⟨rfl,rfl⟩:=hs;simp only[bC,oC]
  all_goals grind
 ·dsimp only at hs;simp only[bC,oC];have:=@dx (v5+1)
  all_goals grind
theorem oH(x0:anY)(x1:Int)(hp:x0.length<=1000000):Z (gW x0 x1) fun _=>True:=by
 refine cB rfl ?_;simp only[bC,zw]
 all_goals grind[TA]
theorem MH(x0:anY)(hp:x0.length<=1000000):Z (iX x0) fun r=>r=true->0<x0.length:=by
 refine jy rfl (fun | .e y0=>y0=x0 | .h0 v0 v1 v2=>0<=v2/\v2<=v1/\v1=(v0.length:Int)/\v0.length<=1000000/\v0=x0/\v1=(x0.length:Int)) (fun | .e _=>10000000000 | .h0 v0 v1 v2=>(v1-v2).toNat) rfl (by show 10000000000<_;omega) ?_;rintro(y0 | ⟨v0,v1,v2⟩) hs
 ·cases hs;simp only[bC,xu]
  all_goals grind
 ·dsimp only at hs;simp only[bC,xu];have:=@dx (v2+1)
  all_goals grind
theorem adY(x0:anY):Z (Ir x0) fun _=>True:=by
 refine cB rfl ?_;simp only[bC,BX]
 all_goals grind[gV]
theorem uy(x0:List (anY))(hp:x0.length<=1000000/\∀s∈x0,s.length<=1000000):Z (fQ x0) fun _=>True:=by
 refine jy rfl (fun | .e y0=>y0=x0 | .h0 v0 v1 v2=>0<=v2/\v2<=v1/\v1=(v0.length:Int)/\v0.length<=1000000/\v0=x0/\v1=(x0.length:Int)) (fun | .e _=>10000000000 | .h0 v0 v1 v2=>(v1-v2).toNat) rfl (by show 10000000000<_;omega) ?_;rintro(y0 | ⟨v0,v1,v2⟩) hs
 ·cases hs;simp only[bC,dG]
  all_goals grind[gM,oH]
 ·dsimp only at hs;simp only[bC,dG];have:=@dx (v2+1)
  all_goals grind[gM,oH]
theorem rT(x0:List (anY))(hp:x0.length<=1000000/\∀s∈x0,s.length<=1000000):Z (cZ x0) fun _=>True:=by
 refine cB rfl ?_;simp only[bC,eZ]
 all_goals grind[uy]
theorem gM0{α:Type}(l:List α)(d:α)(h:0<l.length):l.getD 0 d∈l:=by rw[List.getD,aaO h];exact acw _
theorem gM1{α:Type}(l:List α)(d:α)(h:1<l.length):l.getD 1 d∈l:=by rw[List.getD,aaO h];exact acw _
theorem ace(sep:anY):∀(k:Nat) (s p:anY),p∈Lib.splitK sep 0 k s->p.length<=s.length
 | 0,s,p,h=>by simp only[Lib.splitK,List.mem_singleton]at h;rw[h];exact ab8 _
 | k+1,s,p,h=>by
  unfold Lib.splitK at h;split at h
  ·rw[List.mem_singleton]at h;rw[h];exact ab8 _
  ·rcases am8.1 h with h | h
   ·rw[h,acu];omega
   ·have:=ace sep k _ p h;rw[ach]at this;omega
theorem Sz(sep:anY):∀(k:Nat) (s:anY),0<(Lib.splitK sep 0 k s).length/\(Lib.splitK sep 0 k s).length<=k+1
 | 0,s=>by simp[Lib.splitK]
 | k+1,s=>by
  unfold Lib.splitK;split
  ·simp
  ·have:=Sz sep k (s.drop ((Lib.index s sep).toNat+sep.length));simp only[List.length_cons];omega
theorem aCv(s p:anY)(a b:Int)(h:p.length=1):0<(eY s p a b).length/\(eY s p a b).length<=s.length+1/\∀x∈eY s p a b,x.length<=s.length:=by
 match p,h with
 | [c],_ =>
 refine⟨(Sz [c] _ s).1,?_,fun x hx=>ace [c] _ s x hx⟩;have h1:=(Sz [c] (Lib.count s [c]) s).2;rw[Lib.count_one]at h1;have h2:=List.count_le_length (a:=c) (l:=s);have h3:(eY s [c] a b).length<=s.count c+1:=by unfold eY Lib.split;rw[Lib.count_one];exact h1
 omega
theorem Eo(s:anY)(c:UInt8)(a b:Int):0<(eY s [c] a b).length/\(eY s [c] a b).length<=s.length+1/\∀x∈eY s [c] a b,x.length<=s.length:=aCv s [c] a b rfl
theorem SA(s:anY)(c:UInt8)(a b:Int)(i:Nat):((eY s [c] a b).getD i (Df.d:anY)).length<=s.length:=by
 rw[List.getD];cases h:(eY s [c] a b)[i]? with
 | none=>exact aa4 _
 | some x=>exact(Eo s c a b).2.2 x (afD h)
theorem XD(s:anY)(c:UInt8)(a b:Int)(i:Nat):((eY s [c] a b).getD i (dflt Ty.str:anY)).length<=s.length:=SA s c a b i
theorem iN(s p:anY):(mI s p).length<=s.length:=by
 unfold mI;cases decide (0<=qA s p)with
 | true=>simp only[cond_true,acu];omega
 | false=>exact ab8 _
theorem iO(s p:anY):(qB s p).length<=s.length:=by
 unfold qB;cases decide (0<=qA s p)with
 | true=>simp only[cond_true,ach];omega
 | false=>exact aa4 _
theorem adZ(x0:anY)(hp:x0.length<=1000000):Z (sO x0) fun _=>True:=by
 refine cB rfl ?_;simp only[bC,BU]
 all_goals grind[dx,gM0,gM1,gM,Eo,SA,XD,iN,iO,rT]
theorem MI(x0:Port)(hp:x0.host.length<=1000000):Z (dH x0) fun r=>r=true->(1<=x0.jZ/\x0.jZ<=65535)/\0<=x0.out/\x0.out<=65535:=by
 refine cB rfl ?_;simp only[bC,Gt]
 all_goals grind[dx,gM0,gM1,gM,Eo,SA,XD,iN,iO,adZ]
theorem agJ(x0:anY)(hp:x0.length<=1000000):Z (jN x0) fun _=>True:=by
 refine cB rfl ?_;simp only[bC,Ed]
 all_goals grind[dx,gM0,gM1,gM,Eo,SA,XD,iN,iO,oH]
theorem Bt(x0:anY)(hp:x0.length<=1000000):Z (AX x0) fun r=>r.1.host.length<=x0.length:=by
 refine cB rfl ?_;simp only[bC,Gu]
 (repeat' (first | (intro _) | (apply And.intro)))<;>grind[dx,gM0,gM1,gM,Eo,SA,XD,iN,iO,MI,agJ]
def Co(x:anY):Bool:=(iR x 255).2 != 0
def Kt(s:anY):Bool:=bif((eY s [46] 0 (-1)).length:Int)==4 then !((eY s [46] 0 (-1)).any Co)else false
theorem aAV(s:anY)(hs:s.length<=1000000)(k:Int)(h:0<=k/\k<=65536):gW s k=some (iR s k):=uW s k (yX.2 ⟨⟨hs,h.1⟩,by omega⟩)
theorem aqE(l:List (anY))(hl:l.length<=1000000)(hs:∀s∈l,s.length<=1000000):(fQ l).isSome=true->decide (0<=gv (fQ l))=l.any Co:=by
 refine part rfl (fun r=>decide (0<=r)=l.any Co) (fun | .e y=>y=l | .h0 v0 v1 v2=>v0=l/\v1=(l.length:Int)/\0<=v2/\v2<=v1/\l.any Co=(l.drop v2.toNat).any Co) rfl ?_;rintro(y | ⟨v0,v1,v2⟩) hs'
 ·cases hs';exact⟨rfl,rfl,by decide,by omega,rfl⟩
 ·obtain⟨rfl,rfl,h1,h2,h3⟩:=hs';simp only[dR,dG];have e1:=@bX (v2+1);by_cases hi:v2<(v0.length:Int)
  ·rw[fB v0 Df.d h1 hi,aj1]at h3;have h5:=rG hs v2.toNat;generalize v0.getD v2.toNat Df.d=x at h3 h5 ⊢;rw[aAV x h5 255 (by decide),dO];have hx:Co x=((iR x 255).2 != 0):=rfl;rw[h3,hx];cases hb:((iR x 255).2 != 0)with
   | true=>((repeat' (first|intro _|apply And.intro))<;>grind)
   | false=>((repeat' (first|intro _|apply And.intro))<;>grind)
  ·rw[iE v0 (by omega),List.any_nil]at h3;rw[h3]
   (repeat' (first|intro _|apply And.intro))<;>grind
theorem ad2(s:anY)(hs:s.length<=999999):(sO s).isSome=true->gv (sO s)=Kt s:=by
 refine gZ rfl ?_;obtain⟨a1,a2,a3⟩:=Eo s 46 0 (-1);have hc:(cZ (eY s [46] 0 (-1))).isSome=true->gv (cZ (eY s [46] 0 (-1)))=(eY s [46] 0 (-1)).any Co:=by refine gZ rfl ?_;simp only[dR,eZ];intro i;exact aqE _ (by omega) (fun x hx=>by have:=a3 x hx;omega) i
 simp only[aK,aW,BU];rw[pK,pK];intro _ h;unfold Kt;cases hb:((eY s [46] 0 (-1)).length:Int)==4 with
 | false=>rfl
 | true =>
  rw[hb]at h;have hi:(cZ (eY s [46] 0 (-1))).isSome=true:=by simpa using h
  rw[hc hi]
def kX(p:Port):Bool:=bif(bif(bif(bif(bif(decide ((1:Int)<=p.jZ))then(decide (p.jZ<=(65535:Int)))else false)then(decide (0<=p.out))else false)then(decide (p.out<=(65535:Int)))else false)then(bif(p.proto==([116,99,112]:anY))then true else(p.proto==([117,100,112]:anY)))else false)then(bif(p.host==([]:anY))then true else Kt p.host)else false
theorem ay6{p:Port}(h:kX p=true):(1<=p.jZ/\p.jZ<=65535)/\0<=p.out/\p.out<=65535:=by unfold kX at h;simp only[hand,abK,ab6]at h;omega
theorem Hl(p:Port)(hs:p.host.length<=999999):(dH p).isSome=true->gv (dH p)=kX p:=by
 refine gZ rfl ?_;have h1:=ad2 p.host hs;simp only[aK,aW,Gt];rw[pK];intro h;unfold kX;by_cases hi:(sO p.host).isSome=true
 ·rw[h1 hi]
 ·have hn:(sO p.host).isSome=false:=by simpa using hi
  rw[hn,akg,ah3]at h;cases hA:(bif(bif(bif(bif(decide ((1:Int)<=p.jZ))then(decide (p.jZ<=(65535:Int)))else false)then(decide (0<=p.out))else false)then(decide (p.out<=(65535:Int)))else false)then(bif(p.proto==([116,99,112]:anY))then true else(p.proto==([117,100,112]:anY)))else false)with
  | false=>rfl
  | true =>rw[hA,afq,Bool.not_eq_false']at h;rw[h];rfl
def qI(s:anY):Int:=bif(bif(iR s 65535).2 != 0 then true else(iR s 65535).1==0)then -1 else(iR s 65535).1
theorem agK(s:anY)(hs:s.length<=1000000):jN s=some (qI s):=dh rfl (by simp only[aK,aW,Ed,aAV s hs 65535 (by decide),aD];unfold qI;cases(bif(iR s 65535).2 != 0 then true else(iR s 65535).1==0)<;>rfl)
def KO(p:Port):anY:=bif decide (0<p.out)then bA p.out else[]
def YQ(p:Port):anY:=bif !(p.host==[])then(p.host++[58])++KO p else KO p
def FI(p:Port):anY:=bif !(YQ p==[])then YQ p++[58]else YQ p
def Au(p:Port):anY:=bif !(kX p)then[]else bif p.proto==[117,100,112]then(FI p++bA p.jZ)++[47,117,100,112]else FI p++bA p.jZ
theorem O6(p:Port)(hs:p.host.length<=999999):(zP p).isSome=true->gv (zP p)=Au p:=by
 refine gZ rfl ?_;have h1:=Hl p hs;have h2:=@ay6 p;have h3:=Bp p.jZ;have h4:=Bp p.out;simp only[dR,Jc];intro i;rw[h1 i];cases hr:kX p with
 | false=>((repeat' (first|intro _|apply And.intro))<;>grind[Au])
 | true =>
  have h2:=h2 hr;have h3:=h3 (by omega);have h4:=h4 (by omega)
  (repeat' (first|intro _|apply And.intro))<;>grind[Au,FI,YQ,KO]
def DW:Port:=⟨[],0,0,[]⟩
def qJ(p:Port):Port×Int:=bif !(kX p)then(DW,3)else(p,0)
def vD(h pr:anY):Port×Int :=
 bif((eY h [58] 0 (-1)).length:Int)==1 then qJ ⟨[],0,qI ((eY h [58] 0 (-1)).getD ((eY h [58] 0 (-1)).length-1) []),pr⟩
 else bif((eY h [58] 0 (-1)).length:Int)==2 then qJ ⟨[],qI ((eY h [58] 0 (-1)).getD 0 []),qI ((eY h [58] 0 (-1)).getD ((eY h [58] 0 (-1)).length-1) []),pr⟩
 else bif((eY h [58] 0 (-1)).length:Int)==3 then(bif(eY h [58] 0 (-1)).getD 0 []==[]then(DW,3)else bif !((eY h [58] 0 (-1)).getD 1 []==[])then qJ ⟨(eY h [58] 0 (-1)).getD 0 [],qI ((eY h [58] 0 (-1)).getD 1 []),qI ((eY h [58] 0 (-1)).getD ((eY h [58] 0 (-1)).length-1) []),pr⟩
  else qJ ⟨(eY h [58] 0 (-1)).getD 0 [],0,qI ((eY h [58] 0 (-1)).getD ((eY h [58] 0 (-1)).length-1) []),pr⟩)
 else(DW,3)
def jo(s:anY):Port×Int:=bif AU s [47]then vD (mI s [47]) (qB s [47])else vD s [116,99,112]
theorem axu(h pr:anY)(hh:h.length<=999990)(Q:Port×Int->Prop)(hQ:Q (vD h pr)):ck (RG h ([58]:anY) (0:Int) (-1:Int)) True (ck (decide (0<=(au ((((eY h ([58]:anY) (0:Int) (-1:Int)).length:Nat):Int)-(1:Int))))&&decide ((au ((((eY h ([58]:anY) (0:Int) (-1:Int)).length:Nat):Int)-(1:Int)))<((eY h ([58]:anY) (0:Int) (-1:Int)).length:Nat))) True (cl (jN (List.getD (eY h ([58]:anY) (0:Int) (-1:Int)) (Int.toNat (au ((((eY h ([58]:anY) (0:Int) (-1:Int)).length:Nat):Int)-(1:Int)))) (dflt .str))) True fun y8=>bif((((eY h ([58]:anY) (0:Int) (-1:Int)).length:Nat):Int)==(1:Int))then(cl (dH (⟨([]:anY),(0:Int),y8,pr⟩:Port)) True fun y9=>bif(!y9)then Q ((⟨([]:anY),(0:Int),(0:Int),([]:anY)⟩:Port),(3:Int))else Q ((⟨([]:anY),(0:Int),y8,pr⟩:Port),(0:Int)))else(bif((((eY h ([58]:anY) (0:Int) (-1:Int)).length:Nat):Int)==(2:Int))then(ck (decide (0<=(0:Int))&&decide ((0:Int)<((eY h ([58]:anY) (0:Int) (-1:Int)).length:Nat))) True (cl (jN (List.getD (eY h ([58]:anY) (0:Int) (-1:Int)) (Int.toNat (0:Int)) (dflt .str))) True fun iC=>cl (dH (⟨([]:anY),iC,y8,pr⟩:Port)) True fun yw=>bif(!yw)then Q ((⟨([]:anY),(0:Int),(0:Int),([]:anY)⟩:Port),(3:Int))else Q ((⟨([]:anY),iC,y8,pr⟩:Port),(0:Int))))else(bif((((eY h ([58]:anY) (0:Int) (-1:Int)).length:Nat):Int)==(3:Int))then(ck (decide (0<=(0:Int))&&decide ((0:Int)<((eY h ([58]:anY) (0:Int) (-1:Int)).length:Nat))) True (bif((List.getD (eY h ([58]:anY) (0:Int) (-1:Int)) (Int.toNat (0:Int)) (dflt .str))==([]:anY))then Q ((⟨([]:anY),(0:Int),(0:Int),([]:anY)⟩:Port),(3:Int))else(ck (decide (0<=(1:Int))&&decide ((1:Int)<((eY h ([58]:anY) (0:Int) (-1:Int)).length:Nat))) True (bif(!((List.getD (eY h ([58]:anY) (0:Int) (-1:Int)) (Int.toNat (1:Int)) (dflt .str))==([]:anY)))then(ck (decide (0<=(1:Int))&&decide ((1:Int)<((eY h ([58]:anY) (0:Int) (-1:Int)).length:Nat))) True (cl (jN (List.getD (eY h ([58]:anY) (0:Int) (-1:Int)) (Int.toNat (1:Int)) (dflt .str))) True fun nQ=>cl (dH (⟨(List.getD (eY h ([58]:anY) (0:Int) (-1:Int)) (Int.toNat (0:Int)) (dflt .str)),nQ,y8,pr⟩:Port)) True fun y13=>bif(!y13)then Q ((⟨([]:anY),(0:Int),(0:Int),([]:anY)⟩:Port),(3:Int))else Q ((⟨(List.getD (eY h ([58]:anY) (0:Int) (-1:Int)) (Int.toNat (0:Int)) (dflt .str)),nQ,y8,pr⟩:Port),(0:Int))))else(cl (dH (⟨(List.getD (eY h ([58]:anY) (0:Int) (-1:Int)) (Int.toNat (0:Int)) (dflt .str)),(0:Int),y8,pr⟩:Port)) True fun Am=>bif(!Am)then Q ((⟨([]:anY),(0:Int),(0:Int),([]:anY)⟩:Port),(3:Int))else Q ((⟨(List.getD (eY h ([58]:anY) (0:Int) (-1:Int)) (Int.toNat (0:Int)) (dflt .str)),(0:Int),y8,pr⟩:Port),(0:Int)))))))else Q ((⟨([]:anY),(0:Int),(0:Int),([]:anY)⟩:Port),(3:Int)))))):=by
 obtain⟨a1,a2,a3⟩:=Eo h 58 0 (-1);have hd:∀i,((eY h [58] 0 (-1)).getD i (dflt Ty.str:anY)).length<=999990:=fun i=>Nat.le_trans (XD h 58 0 (-1) i) hh
 have hdf:∀i,(eY h [58] 0 (-1)).getD i (dflt Ty.str:anY)=(eY h [58] 0 (-1)).getD i []:=fun _=>rfl
 have hn:=fun i=>agK ((eY h [58] 0 (-1)).getD i (dflt Ty.str:anY)) (by have:=hd i;omega)
 have w:au ((((eY h [58] 0 (-1)).length:Nat):Int)-1)=(((eY h [58] 0 (-1)).length-1:Nat):Int):=by rw[bX (by omega)];omega
 have hR:∀(o i:Int) (q:anY),(dH ⟨[],o,i,q⟩).isSome=true->gv (dH ⟨[],o,i,q⟩)=kX ⟨[],o,i,q⟩:=fun o i q=>Hl ⟨[],o,i,q⟩ (aa4 _)
 have hR2:∀(k:Nat) (o i:Int) (q:anY),(dH ⟨(eY h [58] 0 (-1)).getD k (dflt Ty.str:anY),o,i,q⟩).isSome=true->gv (dH ⟨(eY h [58] 0 (-1)).getD k (dflt Ty.str:anY),o,i,q⟩)=kX ⟨(eY h [58] 0 (-1)).getD k (dflt Ty.str:anY),o,i,q⟩:=fun k o i q=>Hl _ (Nat.le_trans (hd k) (by decide))
 rw[w];simp only[hn,aD];simp only[dR];have e0:(0:Int).toNat=0:=rfl;have e1:(1:Int).toNat=1:=rfl;rw[e0,e1,aaY];unfold vD qJ at hQ;simp only[<- hdf]at hQ;have ez:DW=⟨[],0,0,[]⟩:=rfl
 (repeat' (first|intro _|apply And.intro))<;>grind
theorem Ho(s:anY)(hs:s.length<=999990):(AX s).isSome=true->gv (AX s)=jo s:=by
 refine gZ rfl ?_;simp only[aK,aW,Gu];rw[pK];intro _;unfold jo;cases AU s [47]with
 | true =>rw[cond_true,cond_true];exact axu (mI s [47]) (qB s [47]) (by have:=ajR s [47];omega) (fun r=>r=vD (mI s [47]) (qB s [47])) rfl
 | false =>rw[cond_false,cond_false];exact axu s [116,99,112] hs (fun r=>r=vD s [116,99,112]) rfl
def dA:anY:=[116,97,114,103,101,116]
def og:anY:=[112,117,98,108,105,115,104,101,100]
def qK:anY:=[104,111,115,116,95,105,112]
def Ac:anY:=[112,114,111,116,111,99,111,108]
def VZ:anY:=[116,99,112]
def KP(f:field)(k:anY):field:=⟨f.n,f.left-b2 (aB f.n k),zD f k⟩
def f0(n:An):field:=⟨n,(n.keys.length:Int),n.kind != 3⟩
def lgF(n:An):field:=mF (mF (KP (KP (f0 n) dA) og) qK) Ac
def TB(n:An):Port:=⟨aN n qK [],(iR (aN n og [48]) 65536).1,(iR (aN n dA [48]) 65536).1,aN n Ac VZ⟩
def lgB(n:An):Bool:=bif(bif(!(lgF n).bad)then((lgF n).left==(0:Int))else false)then kX (TB n)else false
theorem afN(f:field):(⟨f.n,f.left,f.bad⟩:field)=f:=rfl
theorem aAW(n:An):(⟨n,(n.keys.length:Int),n.kind != 3⟩:field)=f0 n:=rfl
theorem amu(n:An)(hl:n.keys.length<=100000)(hf:∀k o,o.length<=100000->(aN n k o).length<=100000):(Jb n).isSome=true->gv (Jb n)=(TB n,lgB n):=by
 refine gZ rfl ?_;have c1:=VU (aB n dA);have c2:=VU (aB n og);have c3:=VU (aB n qK);have hz:∀k,(aN n k [48]).length<=1000000:=fun k=>Nat.le_trans (hf k [48] (by decide)) (by decide)
 simp only[aK,aW,Ja,aQ];have t1:([116,97,114,103,101,116]:anY)=dA:=rfl;have t2:([112,117,98,108,105,115,104,101,100]:anY)=og:=rfl;have t3:([104,111,115,116,95,105,112]:anY)=qK:=rfl;have t4:([112,114,111,116,111,99,111,108]:anY)=Ac:=rfl;have t5:([116,99,112]:anY)=VZ:=rfl;rw[t1,t2,t3,t4,t5];simp only[dR,afN,aAW];intro i1;rw[Bn (f0 n) dA ⟨by show -1000000<=(n.keys.length:Int);omega,by show(n.keys.length:Int)<=1000000;omega⟩ (hz dA) i1];dsimp only;rw[show(⟨(f0 n).n,(f0 n).left-b2 (aB (f0 n).n dA),zD (f0 n) dA⟩:field)=KP (f0 n) dA from rfl];intro i2;rw[Bn (KP (f0 n) dA) og ⟨by show -1000000<=(n.keys.length:Int)-b2 (aB n dA);omega,by show(n.keys.length:Int)-b2 (aB n dA)<=1000000;omega⟩ (hz og) i2];dsimp only;rw[show(⟨(KP (f0 n) dA).n,(KP (f0 n) dA).left-b2 (aB (KP (f0 n) dA).n og),zD (KP (f0 n) dA) og⟩:field)=KP (KP (f0 n) dA) og from rfl];intro i3;rw[iq (KP (KP (f0 n) dA) og) qK [] ⟨by show -1000000<=(n.keys.length:Int)-b2 (aB n dA)-b2 (aB n og);omega,by show(n.keys.length:Int)-b2 (aB n dA)-b2 (aB n og)<=1000000;omega⟩ i3];dsimp only;intro i4;rw[iq (mF (KP (KP (f0 n) dA) og) qK) Ac VZ ⟨by show -1000000<=(n.keys.length:Int)-b2 (aB n dA)-b2 (aB n og)-b2 (aB n qK);omega,by show(n.keys.length:Int)-b2 (aB n dA)-b2 (aB n og)-b2 (aB n qK)<=1000000;omega⟩ i4];intro h;have hR:=Hl (TB n) (Nat.le_trans (hf qK [] (by decide)) (by decide));show(TB n,bif(bif(!(lgF n).bad)then((lgF n).left==(0:Int))else false)then gv (dH (TB n))else false)=(TB n,lgB n)
 have h:(dH (TB n)).isSome=true\/(bif(!(lgF n).bad)then((lgF n).left==(0:Int))else false)=false:=h;unfold lgB;rcases h with h | h
 ·rw[hR h]
 ·rw[h];rfl
def poX(y:An):anY:=bif y.kind==1 then Au (jo y.text).1 else Au (TB y)
def poB(y:An):Bool:=bif y.kind==1 then(jo y.text).2==0 else lgB y
def poS:List An->An->Bool->An×Bool
 | [],o,b=>(o,b)
 | y::t,o,b=>poS t (aY o (poX y) zn) (bif b then true else !(poB y))
def V3:List (anY)->List An->An->Bool->An×Bool
 | s::t,y::r,o,b=>V3 t r (aY o s zn) (bif b then true else(bif(bif(!(Au (jo s).1==s))then true else(s==[]))then true else(y.kind != 0)))
 | _,_,o,b=>(o,b)
def poP(n:An):An×Bool:=bif rF n 2 then poS n.kids zn false else bif rF n 3 then V3 n.keys n.kids zn false else(zn,true)
def TD(n:An):An:=FD (poP n).1 (poP n).2
def TF(n:An):Int:=FE (poP n).1 (poP n).2
theorem V4(s:anY)(hs:s.length<=100000):(jo s).1.host.length<=999999:=by obtain⟨h1,h2⟩:=Bt s (by omega);rw[Ho s (by omega) h1]at h2;have h2:(jo s).1.host.length<=s.length:=h2;omega
set_option maxHeartbeats 1000000 in
theorem akk(n:An)(hk:n.keys.length<=100000)(hl:n.kids.length<=100000)(h3:n.kind=3->n.keys.length=n.kids.length)(hs:∀s∈n.keys,s.length<=100000)(hy:∀y∈n.kids,y.keys.length<=100000/\y.text.length<=100000/\∀k o,o.length<=100000->(aN y k o).length<=100000):(tV n).isSome=true->gv (tV n)=(TD n,TF n):=by
 refine part rfl (fun r=>r=(TD n,TF n)) (fun | .e y=>y=n | .h0 v0 v1 v2 _ _ v5=>v0=n.kids/\v1=(n.kids.length:Int)/\0<=v2/\v2<=v1/\poS (n.kids.drop v2.toNat) v5.n v5.bad=poP n | .h1 v0 v1 v2 v3 _ _ v6=>v3=n/\n.kind=3/\v0=n.keys/\v1=(n.keys.length:Int)/\0<=v2/\v2<=v1/\V3 (n.keys.drop v2.toNat) (n.kids.drop v2.toNat) v6.n v6.bad=poP n) rfl ?_;rintro(y | ⟨v0,v1,v2,v3,v4,⟨o,bad⟩⟩ | ⟨v0,v1,v2,v3,v4,v5,⟨o,bad⟩⟩) hs'
 ·cases hs';simp only[aK,aW,qE,sU,aQ,aD];simp only[dR];have h2:=jO;have h4:=ajS
  (repeat' (first|intro _|apply And.intro))<;>grind[poP,TD,TF,acC,rX,rF]
 ·obtain⟨rfl,rfl,h1,h2,h4⟩:=hs';simp only[aK,aW,qE,iK,aQ,aD];simp only[dR];have e1:=@bX (v2+1);by_cases hi:v2<(n.kids.length:Int)
  ·rw[fB n.kids Df.d h1 hi,poS]at h4;have h5:=Mv hy h1 hi;have ed:n.kids.getD v2.toNat (dflt Ty.ah)=n.kids.getD v2.toNat (Df.d:An):=rfl;rw[ed];generalize n.kids.getD v2.toNat Df.d=y at h4 h5 ⊢;have h6:=amu y h5.1 h5.2.2;have h7:=Ho y.text (by omega);have h8:=O6 (jo y.text).1 (V4 y.text h5.2.1);have h9:=O6 (TB y) (Nat.le_trans (h5.2.2 qK [] (by decide)) (by decide));have h10:=fun b k=>iH ⟨o,b⟩ k ⟨0,[],[],[]⟩
   (repeat' (first|intro _|apply And.intro))<;>grind[poX,poB,rX]
  ·rw[iE n.kids (by omega),poS]at h4;have h5:=iL ⟨o,bad⟩
   (repeat' (first|intro _|apply And.intro))<;>grind[TD,TF]
 ·obtain⟨rfl,h0,rfl,rfl,h1,h2,h4⟩:=hs';have hkk:=h3 h0;simp only[aK,aW,qE,iK,aQ,aD];simp only[dR];have e1:=@bX (v2+1);by_cases hi:v2<(v3.keys.length:Int)
  ·rw[fB v3.keys Df.d h1 hi,fB v3.kids Df.d h1 (by omega),V3]at h4;have h5:=rG hs v2.toNat;have ed:v3.kids.getD v2.toNat (dflt Ty.ah)=v3.kids.getD v2.toNat (Df.d:An):=rfl;rw[ed];generalize v3.keys.getD v2.toNat Df.d=s at h4 h5 ⊢;generalize v3.kids.getD v2.toNat Df.d=y at h4 ⊢;have h7:=Ho s (by omega);have h8:=O6 (jo s).1 (V4 s h5);have h10:=fun b=>iH ⟨o,b⟩ s ⟨0,[],[],[]⟩
   (repeat' (first|intro _|apply And.intro))<;>grind[rX]
  ·rw[iE v3.keys (by omega),V3]at h4
   ·have h5:=iL ⟨o,bad⟩
    (repeat' (first|intro _|apply And.intro))<;>grind[TD,TF]
   ·intro a b c d e;cases e
theorem ad3{α:Type}[Df α]{o:Option α}{v:α}(h1:o.isSome=true)(h2:o.isSome=true->gv o=v):o=some v:=by obtain⟨r,rfl⟩:=Option.isSome_iff_exists.1 h1;rw[<- h2 rfl,dO]
def SB(n:Int):Bool:=bif pb0 n then decide (Io [46,95,45,47] n<0)else false
def Ep(s:anY):Bool:=(s.all fun c=>!(SB ((c.toNat:Nat):Int)))&&(bif !(s==[])then decide ((s.length:Int)<=64)else false)
theorem V5(s:anY)(hs:s.length<=1000000):iX s=some (Ep s):=ad3 (MH s hs).1 (by
 refine part rfl (fun r=>r=Ep s) (fun | .e y=>y=s | .h0 v0 v1 v2=>v0=s/\v1=(s.length:Int)/\0<=v2/\v2<=v1/\Ep s=(((s.drop v2.toNat).all fun c=>!(SB ((c.toNat:Nat):Int)))&&(bif !(s==[])then decide ((s.length:Int)<=64)else false))) rfl ?_;rintro(y | ⟨v0,v1,v2⟩) hs'
 ·cases hs';simp only[dR,xu];exact⟨trivial,trivial,by decide,by omega,rfl⟩
 ·obtain⟨rfl,rfl,h1,h2,h3⟩:=hs';simp only[aK,aW,xu];have e1:=@bX (v2+1);by_cases hi:v2<(v0.length:Int)
  ·rw[fB v0 0 h1 hi,afo]at h3;rw[decide_eq_true hi,cond_true,pS];intro _ _;generalize v0.getD v2.toNat 0=c at h3 ⊢;have hb:(bif(bif(bif(bif(decide (((c.toNat:Nat):Int)<(97:Int)))then true else(decide ((122:Int)<((c.toNat:Nat):Int))))then(bif(decide (((c.toNat:Nat):Int)<(65:Int)))then true else(decide ((90:Int)<((c.toNat:Nat):Int))))else false)then(bif(decide (((c.toNat:Nat):Int)<(48:Int)))then true else(decide ((57:Int)<((c.toNat:Nat):Int))))else false)then(decide ((Io ([46,95,45,47]:anY) ((c.toNat:Nat):Int))<(0:Int)))else false)=SB ((c.toNat:Nat):Int):=rfl;rw[hb];simp only[dR]
   (repeat' (first|intro _|apply And.intro))<;>grind
  ·rw[iE v0 (by omega),List.all_nil]at h3;simp only[dR]
   (repeat' (first|intro _|apply And.intro))<;>grind)
theorem ad4(s:anY)(hs:s.length<=1000000):Ir s=some (oG Bh yx s):=dh rfl (by simp only[aK,BX,pJ s hs,aD])
def vE(m:gD):Bool:=bif(rD m.target)then(bif(bif(m.source==([]:anY))then true else(oG Bh yx m.source))then true else(bif(Ep m.source)then(bif((((List.getD m.source (Int.toNat (0:Int)) 0).toNat:Nat):Int)==(47:Int))then true else((((List.getD m.source (Int.toNat (0:Int)) 0).toNat:Nat):Int)==(46:Int)))else false))else false
theorem Ku(m:gD)(hs:m.source.length<=1000000):(gI m).isSome=true->gv (gI m)=vE m:=by refine gZ rfl ?_;simp only[aK,aW,Ej,ad4 _ hs,V5 _ hs,dO,aff,aci];rw[pK,pK,pK,pK,pK];intro _ _ _ _ _;rfl
def MJ(m:gD):anY:=bif !(m.source==[])then(m.source++[58])++m.target else m.target
def o8(m:gD):anY:=bif !(vE m)then[]else bif m.readOnly then MJ m++[58,114,111]else MJ m
theorem MK(m:gD)(hs:m.source.length<=1000000):(xC m).isSome=true->gv (xC m)=o8 m:=by
 refine gZ rfl ?_;have h1:=Ku m hs;simp only[dR,GH];intro i;rw[h1 i]
 (repeat' (first|intro _|apply And.intro))<;>grind[o8,MJ]
def mz:gD:=⟨[],[],false⟩
def wo(m:gD):gD×Int:=bif !(vE m)then(mz,3)else(m,0)
def J5(l:List (anY))(ro:Bool):gD×Int:=bif(l.length:Int)==1 then wo ⟨[],l.getD 0 [],ro⟩else bif(l.length:Int)==2 then(bif l.getD 0 []==[]then(mz,3)else wo ⟨l.getD 0 [],l.getD 1 [],ro⟩)else wo ⟨[],[],ro⟩
def V6(s:anY):anY:=(eY s [58] 0 (-1)).getD ((eY s [58] 0 (-1)).length-1) []
def mEn(s:anY):Bool:=bif decide ((1:Int)<((eY s [58] 0 (-1)).length:Int))then(bif V6 s==[114,111]then true else V6 s==[114,119])else false
def oh(s:anY):gD×Int:=bif mEn s then J5 ((eY s [58] 0 (-1)).take ((eY s [58] 0 (-1)).length-1)) (V6 s==[114,111])else J5 (eY s [58] 0 (-1)) false
theorem TG(s:anY)(hs:s.length<=999990):(zy s).isSome=true->gv (zy s)=oh s:=by
 refine gZ rfl ?_;obtain⟨a1,a2,a3⟩:=Eo s 58 0 (-1);have w:au ((((eY s [58] 0 (-1)).length:Nat):Int)-1)=(((eY s [58] 0 (-1)).length-1:Nat):Int):=by rw[bX (by omega)];omega
 have hd:∀x∈eY s [58] 0 (-1),x.length<=1000000:=fun x hx=>by have:=a3 x hx;omega
 simp only[aK,aW,El,w];generalize hl:eY s [58] 0 (-1)=l at *;have e1:List.getD l (Int.toNat ((l.length-1:Nat):Int)) (dflt Ty.str)=V6 s:=by unfold V6;rw[hl];rfl
 have e2:l.getD (Int.toNat ((l.length-1:Nat):Int)) (Df.d:anY)=V6 s:=e1;have e3:cut l 0 ((l.length-1:Nat):Int)=l.take (l.length-1):=by unfold cut;rfl
 have hR:∀(a b:anY) (r:Bool),a.length<=1000000->(gI ⟨a,b,r⟩).isSome=true->gv (gI ⟨a,b,r⟩)=vE ⟨a,b,r⟩:=fun a b r h=>Ku ⟨a,b,r⟩ h
 have hg:∀i,(l.getD i (Df.d:anY)).length<=1000000:=fun i=>rG hd i
 have hg2:∀i,((l.take (l.length-1)).getD i (Df.d:anY)).length<=1000000:=fun i=>rG (fun x hx=>hd x (aj2 hx)) i
 rw[e1,e3];simp only[dR];rw[e2];unfold oh mEn;rw[hl];unfold J5 wo;have ez:mz=⟨[],[],false⟩:=rfl;have ed:∀(l:List (anY)) (i:Nat),l.getD i (Df.d:anY)=l.getD i []:=fun _ _=>rfl
 have z0:(0:Int).toNat=0:=rfl;have z1:(1:Int).toNat=1:=rfl;rw[z0,z1];simp only[<- ed];have hz:([]:anY).length<=1000000:=aa4 _;intro _ _ _;cases hb:(bif decide ((1:Int)<(l.length:Int))then(bif V6 s==[114,111]then true else V6 s==[114,119])else false)with
 | true =>
  refine⟨fun _=>?_,fun h=>(by cases h)⟩;simp only[cond_true];generalize (V6 s==[114,111])=ro;generalize l.take (l.length-1)=l2 at hg2 ⊢
  (repeat' (first|intro _|apply And.intro))<;>grind
 | false =>
  refine⟨fun h=>(by cases h),fun _=>?_⟩;simp only[cond_false]
  (repeat' (first|intro _|apply And.intro))<;>grind
def jC:anY:=[115,111,117,114,99,101]
def l9:anY:=[114,101,97,100,95,111,110,108,121]
def mg:anY:=[116,121,112,101]
def Ad:anY:=[98,105,110,100]
def tNx(f:field)(k:anY)(d:Bool):field:=⟨f.n,f.left-b2 (aB f.n k),(f.bad||!(bV f.n k []))||Qj (aN f.n k (CO d))⟩
def plF(n:An):field:=mF (tNx (mF (mF (f0 n) jC) dA) l9 false) mg
def V7(n:An):gD:=⟨aN n jC [],aN n dA [],aN n l9 (CO false)==kg⟩
def plK(s:anY):Bool:=bif(bif(s==([98,105,110,100]:anY))then true else(s==([118,111,108,117,109,101]:anY)))then true else(s==([116,109,112,102,115]:anY))
def plB(n:An):Bool:=bif(bif(bif(!(plF n).bad)then((plF n).left==(0:Int))else false)then vE (V7 n)else false)then plK (aN n mg Ad)else false
theorem akl(n:An)(hl:n.keys.length<=100000)(hf:∀k o,o.length<=100000->(aN n k o).length<=100000):(GD n).isSome=true->gv (GD n)=(V7 n,plB n):=by
 refine gZ rfl ?_;have c1:=VU (aB n jC);have c2:=VU (aB n dA);have c3:=VU (aB n l9);simp only[aK,aW,GA,aQ];have t1:([115,111,117,114,99,101]:anY)=jC:=rfl;have t2:([116,97,114,103,101,116]:anY)=dA:=rfl;have t3:([114,101,97,100,95,111,110,108,121]:anY)=l9:=rfl;have t4:([116,121,112,101]:anY)=mg:=rfl;rw[t1,t2,t3,t4];simp only[dR,afN,aAW];intro i1;rw[iq (f0 n) jC [] ⟨by show -1000000<=(n.keys.length:Int);omega,by show(n.keys.length:Int)<=1000000;omega⟩ i1];dsimp only;intro i2;rw[iq (mF (f0 n) jC) dA [] ⟨by show -1000000<=(n.keys.length:Int)-b2 (aB n jC);omega,by show(n.keys.length:Int)-b2 (aB n jC)<=1000000;omega⟩ i2];dsimp only;intro i3;rw[vw (mF (mF (f0 n) jC) dA) l9 false ⟨by show -1000000<=(n.keys.length:Int)-b2 (aB n jC)-b2 (aB n dA);omega,by show(n.keys.length:Int)-b2 (aB n jC)-b2 (aB n dA)<=1000000;omega⟩ i3];dsimp only;rw[show(⟨(mF (mF (f0 n) jC) dA).n,(mF (mF (f0 n) jC) dA).left-b2 (aB (mF (mF (f0 n) jC) dA).n l9),((mF (mF (f0 n) jC) dA).bad||!(bV (mF (mF (f0 n) jC) dA).n l9 []))||Qj (aN (mF (mF (f0 n) jC) dA).n l9 (CO false))⟩:field)=tNx (mF (mF (f0 n) jC) dA) l9 false from rfl];intro i4;rw[iq (tNx (mF (mF (f0 n) jC) dA) l9 false) mg _ ⟨by show -1000000<=(n.keys.length:Int)-b2 (aB n jC)-b2 (aB n dA)-b2 (aB n l9);omega,by show(n.keys.length:Int)-b2 (aB n jC)-b2 (aB n dA)-b2 (aB n l9)<=1000000;omega⟩ i4];intro h;have hR:=Ku (V7 n) (Nat.le_trans (hf jC [] (by decide)) (by decide));show(V7 n,bif(bif(bif(!(plF n).bad)then((plF n).left==(0:Int))else false)then gv (gI (V7 n))else false)then plK (aN n mg Ad)else false)=(V7 n,plB n)
 have h:(gI (V7 n)).isSome=true\/(bif(!(plF n).bad)then((plF n).left==(0:Int))else false)=false:=h;unfold plB;rcases h with h | h
 ·rw[hR h]
 ·rw[h];rfl
theorem akm(m:gD):(wo m).1.source=m.source\/(wo m).1.source=[]:=by
 unfold wo;cases vE m with
 | true=>exact .inl rfl
 | false=>exact .inr rfl
theorem axx{l:List (anY)}{B:Nat}(h:∀x∈l,x.length<=B)(ro:Bool):(J5 l ro).1.source.length<=B:=by
 have hg:=rG h 0;have hz:([]:anY).length<=B:=aa4 _;unfold J5;cases(l.length:Int)==1 with
 | true =>rcases akm ⟨[],l.getD 0 [],ro⟩with e | e<;>(rw[cond_true,e];exact hz)
 | false =>
  cases(l.length:Int)==2 with
  | false=>rcases akm ⟨[],[],ro⟩with e | e<;>(rw[cond_false,cond_false,e];exact hz)
  | true =>
   cases l.getD 0 []==[]with
   | true=>exact hz
   | false =>
    rcases akm ⟨l.getD 0 [],l.getD 1 [],ro⟩with e | e<;>rw[cond_false,cond_true,cond_false,e]
    ·exact hg
    ·exact hz
theorem ad5(s:anY):(oh s).1.source.length<=s.length:=by
 obtain⟨_,_,a3⟩:=Eo s 58 0 (-1);unfold oh;cases mEn s with
 | true=>exact axx (fun x hx=>a3 x (aj2 hx)) _
 | false=>exact axx a3 _
def moX(y:An):gD:=bif y.kind==1 then(oh y.text).1 else V7 y
def moB(y:An):Bool:=bif y.kind==1 then(oh y.text).2==0 else plB y
def moS:List An->An->Bool->An×Bool
 | [],o,b=>(o,b)
 | y::t,o,b=>moS t (aY o (moX y).target (dz (o8 (moX y)))) (bif b then true else !(moB y))
def V8:List (anY)->List An->An->Bool->An×Bool
 | s::t,y::r,o,b=>V8 t r (aY o s y) (bif b then true else(bif(bif(bif(y.kind != 1)then true else((oh y.text).2 != 0))then true else(!((oh y.text).1.target==s)))then true else(!(o8 (oh y.text).1==y.text))))
 | _,_,o,b=>(o,b)
def moP(n:An):An×Bool:=bif rF n 2 then moS n.kids zn false else bif rF n 3 then V8 n.keys n.kids zn false else(zn,true)
def TH(n:An):An:=FD (moP n).1 (moP n).2
def TI(n:An):Int:=FE (moP n).1 (moP n).2
set_option maxHeartbeats 1000000 in
theorem agL(n:An)(hk:n.keys.length<=100000)(hl:n.kids.length<=100000)(h3:n.kind=3->n.keys.length=n.kids.length)(hy:∀y∈n.kids,y.keys.length<=100000/\y.text.length<=100000/\∀k o,o.length<=100000->(aN y k o).length<=100000):(uV n).isSome=true->gv (uV n)=(TH n,TI n):=by
 refine part rfl (fun r=>r=(TH n,TI n)) (fun | .e y=>y=n | .h0 v0 v1 v2 _ _ v5=>v0=n.kids/\v1=(n.kids.length:Int)/\0<=v2/\v2<=v1/\moS (n.kids.drop v2.toNat) v5.n v5.bad=moP n | .h1 v0 v1 v2 v3 _ _ v6=>v3=n/\n.kind=3/\v0=n.keys/\v1=(n.keys.length:Int)/\0<=v2/\v2<=v1/\V8 (n.keys.drop v2.toNat) (n.kids.drop v2.toNat) v6.n v6.bad=moP n) rfl ?_;rintro(y | ⟨v0,v1,v2,v3,v4,⟨o,bad⟩⟩ | ⟨v0,v1,v2,v3,v4,v5,⟨o,bad⟩⟩) hs'
 ·cases hs';simp only[aK,aW,oF,sU,aQ,aD];simp only[dR];have h2:=jO;have h4:=ajS
  (repeat' (first|intro _|apply And.intro))<;>grind[moP,TH,TI,acC,rX,rF]
 ·obtain⟨rfl,rfl,h1,h2,h4⟩:=hs';simp only[aK,aW,oF,iK,aQ,aD];simp only[dR];have e1:=@bX (v2+1);by_cases hi:v2<(n.kids.length:Int)
  ·rw[fB n.kids Df.d h1 hi,moS]at h4;have h5:=Mv hy h1 hi;have ed:n.kids.getD v2.toNat (dflt Ty.ah)=n.kids.getD v2.toNat (Df.d:An):=rfl;rw[ed];generalize n.kids.getD v2.toNat Df.d=y at h4 h5 ⊢;have h6:=akl y h5.1 h5.2.2;have h7:=TG y.text (by omega);have h8:=MK (oh y.text).1 (by have:=ad5 y.text;omega);have h9:=MK (V7 y) (Nat.le_trans (h5.2.2 jC [] (by decide)) (by decide));have h10:=fun b k v=>iH ⟨o,b⟩ k v
   (repeat' (first|intro _|apply And.intro))<;>grind[moX,moB]
  ·rw[iE n.kids (by omega),moS]at h4;have h5:=iL ⟨o,bad⟩
   (repeat' (first|intro _|apply And.intro))<;>grind[TH,TI]
 ·obtain⟨rfl,h0,rfl,rfl,h1,h2,h4⟩:=hs';have hkk:=h3 h0;simp only[aK,aW,oF,iK,aQ,aD];simp only[dR];have e1:=@bX (v2+1);by_cases hi:v2<(v3.keys.length:Int)
  ·rw[fB v3.keys Df.d h1 hi,fB v3.kids Df.d h1 (by omega),V8]at h4;have h5:=Mv hy (i:=v2) h1 (by omega);generalize v3.keys.getD v2.toNat Df.d=s at h4 ⊢;generalize v3.kids.getD v2.toNat Df.d=y at h4 h5 ⊢;have h7:=TG y.text (by omega);have h8:=MK (oh y.text).1 (by have:=ad5 y.text;omega);have h10:=fun b=>iH ⟨o,b⟩ s y
   (repeat' (first|intro _|apply And.intro))<;>grind
  ·rw[iE v3.keys (by omega),V8]at h4
   ·have h5:=iL ⟨o,bad⟩
    (repeat' (first|intro _|apply And.intro))<;>grind[TH,TI]
   ·intro a b c d e;cases e
def ad6:anY:=[105,109,97,103,101]
def ad7:anY:=[99,111,109,109,97,110,100]
def aad:anY:=[101,110,118,105,114,111,110,109,101,110,116]
def aae:anY:=[108,97,98,101,108,115]
def aaf:anY:=[112,111,114,116,115]
def O7:anY:=[118,111,108,117,109,101,115]
def O8:anY:=[110,101,116,119,111,114,107,115]
def SC:anY:=[112,114,111,102,105,108,101,115]
def aag:anY:=[100,101,112,101,110,100,115,95,111,110]
def aah:anY:=[101,120,116,101,110,100,115]
def aai:anY:=[104,101,97,108,116,104,99,104,101,99,107]
def ad8:anY:=[114,101,115,116,97,114,116]
def ad9:anY:=[115,99,97,108,101]
def aea:anY:=[99,112,117,115]
def aeb:anY:=[109,101,109,95,108,105,109,105,116]
def fdF(k:anY)(v:An):Option (An×Int) :=
 if k=ad6 then some (yB uq v,yC uq v)else if k=ad7 then some (DV v,wdE v)else if k=aad then some (Kn v true,Ko v true)else if k=aae then some (Kn v false,Ko v false)
 else if k=aaf then some (TD v,TF v)else if k=O7 then some (TH v,TI v)else if k=O8 then some (G5 v,G6 v)else if k=SC then some (G5 v,G6 v)else if k=aag then some (dpV v,dpE v)
 else if k=aah then some (exV v,YN v)else if k=aai then some (hP v)else if k=ad8 then some (yB wN v,yC wN v)else if k=ad9 then some (yB Ck v,yC Ck v)else if k=aea then some (yB Cm v,yC Cm v)
 else if k=aeb then some (byV v,byE v)else none
def ML(k:anY):Bool:=[120,45].isPrefixOf k
def Hq:List (anY)->List An->An->An×anY×Int
 | k::ks,v::vs,o=>bif ML k then Hq ks vs o else match fdF k v with
  | none=>(zn,k,10)
  | some r=>bif v.kind==0 then Hq ks vs o else bif r.2 != 0 then(zn,k,r.2)else bif r.1.kind != 0 then Hq ks vs (aY o k r.1)else Hq ks vs o
 | _,_,o=>(dS 1000 o,[],0)
def CZ(n:An):An×anY×Int:=bif n.kind==0 then(⟨3,[],[],[]⟩,[],0)else bif n.kind != 3 then(zn,[],10)else Hq n.keys n.kids ⟨3,[],[],[]⟩
structure Fz (v:An):Prop where
 line:(zO v).isSome=true->gv (zO v)=(yB uq v,yC uq v)
 words:(xg v).isSome=true->gv (xg v)=(DV v,wdE v)
 pairs:∀b,(xk v b).isSome=true->gv (xk v b)=(Kn v b,Ko v b)
 aCw:(tV v).isSome=true->gv (tV v)=(TD v,TF v)
 aAY:(uV v).isSome=true->gv (uV v)=(TH v,TI v)
 set:(nR v).isSome=true->gv (nR v)=(G5 v,G6 v)
 deps:(zR v).isSome=true->gv (zR v)=(dpV v,dpE v)
 ext:(sP v).isSome=true->gv (sP v)=(exV v,YN v)
 health:(uS v).isSome=true->gv (uS v)=hP v
 restart:(sQ v).isSome=true->gv (sQ v)=(yB wN v,yC wN v)
 count:(xw v).isSome=true->gv (xw v)=(yB Ck v,yC Ck v)
 aEQ:(zU v).isSome=true->gv (zU v)=(yB Cm v,yC Cm v)
 bytes:(xB v).isSome=true->gv (xB v)=(byV v,byE v)
theorem axz(k:anY):tO k=some (ML k):=by obtain⟨h1,h2⟩:=EH k;exact ad3 h1 fun _=>h2
theorem pO{v o:An}{k:anY}{ks:List (anY)}{vs:List An}{m:Option (An×Int)}{r0:An×Int}{S:An×anY×Int}{I:An->Prop}(hm:m.isSome=true->gv m=r0)(hS:(bif v.kind==0 then Hq ks vs o else bif r0.2 != 0 then(zn,k,r0.2)else bif r0.1.kind != 0 then Hq ks vs (aY o k r0.1)else Hq ks vs o)=S)(hI:∀o',Hq ks vs o'=S->I o'):bif(v.kind==(0:Int))then(bif(v.kind != (0:Int))then(ck (fM o k v) True (I (aY o k v)))else I o)else(cl m True fun y=>bif(y.2 != (0:Int))then((⟨0,[],[],[]⟩:An),k,y.2)=S else(bif(y.1.kind != (0:Int))then(ck (fM o k y.1) True (I (aY o k y.1)))else I o)):=by
 cases hk:v.kind==0 with
 | true =>grind
 | false =>
  rw[hk,cond_false]at hS;rw[cond_false,pZ];intro i;rw[hm i];cases h2:r0.2 != 0 with
  | true=>rw[h2,cond_true]at hS;exact hS
  | false =>
   rw[h2,cond_false]at hS;rw[cond_false];cases h3:r0.1.kind != 0 with
   | true =>rw[h3,cond_true]at hS;rw[cond_true,pK];intro _;exact hI _ hS
   | false=>rw[h3,cond_false]at hS;exact hI _ hS
def za(n:An):gL->Prop
 | .e y=>y=n
 | .h0 v0 v1 v2 v3 _ _ v6=>v3=n/\n.kind=3/\v0=n.keys/\v1=(n.keys.length:Int)/\0<=v2/\v2<=v1/\Hq (n.keys.drop v2.toNat) (n.kids.drop v2.toNat) v6=CZ n
set_option maxHeartbeats 4000000 in
set_option maxHeartbeats 4000000 in
theorem ath(n:An)(hk:n.keys.length<=100000)(h3:n.kind=3->n.keys.length=n.kids.length)(hy:∀y∈n.kids,Fz y)(v0:List (anY))(v1 v2:Int)(v3:An)(v4:Int)(v5:anY)(o:An)(h:za n (.h0 v0 v1 v2 v3 v4 v5 o)):(fE (.h0 v0 v1 v2 v3 v4 v5 o)).run Prop (fun r=>r=CZ n) (za n) True:=by
 obtain⟨rfl,h0,rfl,rfl,h1,h2,h4⟩:=h;have hkk:=h3 h0;simp only[aK,aW,fE,aQ,axz,aD];by_cases hi:v2<(v3.keys.length:Int)
 ·rw[decide_eq_true hi,cond_true,pI,pI];intro _ _ _ hj;rw[fB v3.keys Df.d h1 hi,fB v3.kids Df.d h1 hj,Hq]at h4;have hf:=Mv hy h1 hj;generalize v3.keys.getD v2.toNat Df.d=k at h4 ⊢;generalize v3.kids.getD v2.toNat Df.d=v at h4 hf ⊢;have e1:au (v2+1)=v2+1:=bX (by omega);rw[e1];have hI:∀o',Hq (v3.keys.drop (v2+1).toNat) (v3.kids.drop (v2+1).toNat) o'=CZ v3->za v3 (.h0 v3.keys (v3.keys.length:Int) (v2+1) v3 v4 v5 o'):=fun o' h=>⟨rfl,h0,rfl,rfl,by omega,by omega,h⟩
  cases hfr:ML k with
  | true =>grind
  | false =>
   rw[hfr,cond_false]at h4;rw[cond_false];unfold fdF at h4;by_cases ahp:k=ad6
   ·rw[if_pos ahp]at h4;rw[show(k==([105,109,97,103,101]:anY))=true by rw[ahp];rfl];exact pO (I:=fun o'=>za v3 (.h0 v3.keys (v3.keys.length:Int) (v2+1) v3 v4 v5 o')) (hf.line) h4 hI
   rw[if_neg ahp]at h4;rw[show(k==([105,109,97,103,101]:anY))=false from afB.2 ahp]
   try rw[cond_false]
   by_cases ahq:k=ad7
   ·rw[if_pos ahq]at h4;rw[show(k==([99,111,109,109,97,110,100]:anY))=true by rw[ahq];rfl];exact pO (I:=fun o'=>za v3 (.h0 v3.keys (v3.keys.length:Int) (v2+1) v3 v4 v5 o')) (hf.words) h4 hI
   rw[if_neg ahq]at h4;rw[show(k==([99,111,109,109,97,110,100]:anY))=false from afB.2 ahq]
   try rw[cond_false]
   by_cases ahr:k=aad
   ·rw[if_pos ahr]at h4;rw[show(k==([101,110,118,105,114,111,110,109,101,110,116]:anY))=true by rw[ahr];rfl];exact pO (I:=fun o'=>za v3 (.h0 v3.keys (v3.keys.length:Int) (v2+1) v3 v4 v5 o')) (hf.pairs true) h4 hI
   rw[if_neg ahr]at h4;rw[show(k==([101,110,118,105,114,111,110,109,101,110,116]:anY))=false from afB.2 ahr]
   try rw[cond_false]
   by_cases ahs:k=aae
   ·rw[if_pos ahs]at h4;rw[show(k==([108,97,98,101,108,115]:anY))=true by rw[ahs];rfl];exact pO (I:=fun o'=>za v3 (.h0 v3.keys (v3.keys.length:Int) (v2+1) v3 v4 v5 o')) (hf.pairs false) h4 hI
   rw[if_neg ahs]at h4;rw[show(k==([108,97,98,101,108,115]:anY))=false from afB.2 ahs]
   try rw[cond_false]
   by_cases aht:k=aaf
   ·rw[if_pos aht]at h4;rw[show(k==([112,111,114,116,115]:anY))=true by rw[aht];rfl];exact pO (I:=fun o'=>za v3 (.h0 v3.keys (v3.keys.length:Int) (v2+1) v3 v4 v5 o')) (hf.aCw) h4 hI
   rw[if_neg aht]at h4;rw[show(k==([112,111,114,116,115]:anY))=false from afB.2 aht]
   try rw[cond_false]
   by_cases ahu:k=O7
   ·rw[if_pos ahu]at h4;rw[show(k==([118,111,108,117,109,101,115]:anY))=true by rw[ahu];rfl];exact pO (I:=fun o'=>za v3 (.h0 v3.keys (v3.keys.length:Int) (v2+1) v3 v4 v5 o')) (hf.aAY) h4 hI
   rw[if_neg ahu]at h4;rw[show(k==([118,111,108,117,109,101,115]:anY))=false from afB.2 ahu]
   try rw[cond_false]
   by_cases ahv:k=O8
   ·rw[if_pos ahv]at h4;rw[show(k==([110,101,116,119,111,114,107,115]:anY))=true by rw[ahv];rfl];exact pO (I:=fun o'=>za v3 (.h0 v3.keys (v3.keys.length:Int) (v2+1) v3 v4 v5 o')) (hf.set) h4 hI
   rw[if_neg ahv]at h4;rw[show(k==([110,101,116,119,111,114,107,115]:anY))=false from afB.2 ahv]
   try rw[cond_false]
   by_cases ahw:k=SC
   ·rw[if_pos ahw]at h4;rw[show(k==([112,114,111,102,105,108,101,115]:anY))=true by rw[ahw];rfl];exact pO (I:=fun o'=>za v3 (.h0 v3.keys (v3.keys.length:Int) (v2+1) v3 v4 v5 o')) (hf.set) h4 hI
   rw[if_neg ahw]at h4;rw[show(k==([112,114,111,102,105,108,101,115]:anY))=false from afB.2 ahw]
   try rw[cond_false]
   by_cases ahx:k=aag
   ·rw[if_pos ahx]at h4;rw[show(k==([100,101,112,101,110,100,115,95,111,110]:anY))=true by rw[ahx];rfl];exact pO (I:=fun o'=>za v3 (.h0 v3.keys (v3.keys.length:Int) (v2+1) v3 v4 v5 o')) (hf.deps) h4 hI
   rw[if_neg ahx]at h4;rw[show(k==([100,101,112,101,110,100,115,95,111,110]:anY))=false from afB.2 ahx]
   try rw[cond_false]
   by_cases ahy:k=aah
   ·rw[if_pos ahy]at h4;rw[show(k==([101,120,116,101,110,100,115]:anY))=true by rw[ahy];rfl];exact pO (I:=fun o'=>za v3 (.h0 v3.keys (v3.keys.length:Int) (v2+1) v3 v4 v5 o')) (hf.ext) h4 hI
   rw[if_neg ahy]at h4;rw[show(k==([101,120,116,101,110,100,115]:anY))=false from afB.2 ahy]
   try rw[cond_false]
   by_cases ahz:k=aai
   ·rw[if_pos ahz]at h4;rw[show(k==([104,101,97,108,116,104,99,104,101,99,107]:anY))=true by rw[ahz];rfl];exact pO (I:=fun o'=>za v3 (.h0 v3.keys (v3.keys.length:Int) (v2+1) v3 v4 v5 o')) (hf.health) h4 hI
   rw[if_neg ahz]at h4;rw[show(k==([104,101,97,108,116,104,99,104,101,99,107]:anY))=false from afB.2 ahz]
   try rw[cond_false]
   by_cases ahA:k=ad8
   ·rw[if_pos ahA]at h4;rw[show(k==([114,101,115,116,97,114,116]:anY))=true by rw[ahA];rfl];exact pO (I:=fun o'=>za v3 (.h0 v3.keys (v3.keys.length:Int) (v2+1) v3 v4 v5 o')) (hf.restart) h4 hI
   rw[if_neg ahA]at h4;rw[show(k==([114,101,115,116,97,114,116]:anY))=false from afB.2 ahA]
   try rw[cond_false]
   by_cases ahB:k=ad9
   ·rw[if_pos ahB]at h4;rw[show(k==([115,99,97,108,101]:anY))=true by rw[ahB];rfl];exact pO (I:=fun o'=>za v3 (.h0 v3.keys (v3.keys.length:Int) (v2+1) v3 v4 v5 o')) (hf.count) h4 hI
   rw[if_neg ahB]at h4;rw[show(k==([115,99,97,108,101]:anY))=false from afB.2 ahB]
   try rw[cond_false]
   by_cases ahC:k=aea
   ·rw[if_pos ahC]at h4;rw[show(k==([99,112,117,115]:anY))=true by rw[ahC];rfl];exact pO (I:=fun o'=>za v3 (.h0 v3.keys (v3.keys.length:Int) (v2+1) v3 v4 v5 o')) (hf.aEQ) h4 hI
   rw[if_neg ahC]at h4;rw[show(k==([99,112,117,115]:anY))=false from afB.2 ahC]
   try rw[cond_false]
   by_cases ahD:k=aeb
   ·rw[if_pos ahD]at h4;rw[show(k==([109,101,109,95,108,105,109,105,116]:anY))=true by rw[ahD];rfl];exact pO (I:=fun o'=>za v3 (.h0 v3.keys (v3.keys.length:Int) (v2+1) v3 v4 v5 o')) (hf.bytes) h4 hI
   rw[if_neg ahD]at h4;rw[show(k==([109,101,109,95,108,105,109,105,116]:anY))=false from afB.2 ahD]
   try rw[cond_false]
   exact h4
 ·rw[decide_eq_false hi,cond_false,pK];intro _;rw[iE v3.keys (by omega),Hq]at h4
  ·exact h4
  ·intro a b c d e;cases e
theorem aaj(n:An)(hk:n.keys.length<=100000)(h3:n.kind=3->n.keys.length=n.kids.length)(hy:∀y∈n.kids,Fz y):(tY n).isSome=true->gv (tY n)=CZ n:=by
 have h:(jR n).isSome=true->gv (jR n)=CZ n:=by
  refine part rfl (fun r=>r=CZ n) (za n) rfl ?_;rintro(y | ⟨v0,v1,v2,v3,v4,v5,o⟩) hs
  ·have hs:y=n:=hs;subst hs;simp only[aK,aW,fE];have hp:CZ y=(bif y.kind==0 then((⟨3,[],[],[]⟩:An),([]:anY),(0:Int))else bif y.kind != 3 then(zn,[],10)else Hq y.keys y.kids ⟨3,[],[],[]⟩):=rfl;cases h0:y.kind==0 with
   | true=>rw[h0]at hp;exact hp.symm
   | false =>
    rw[h0,cond_false]at hp;rw[cond_false];cases h1:y.kind != 3 with
    | true=>rw[h1]at hp;exact hp.symm
    | false =>rw[h1]at hp;exact⟨rfl,by simpa using h1,rfl,rfl,by decide,by omega,hp.symm⟩
  ·exact ath n hk h3 hy v0 v1 v2 v3 v4 v5 o hs
 refine gZ rfl ?_;simp only[dR,yQ];intro i;rw[h i]
end Go.Proofs.YtibpdjmikfmmaaaGreatDoor.Rf
