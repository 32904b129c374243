/- Part 7 of a proof: the texts Y1 X10 X11 X12 X13 X14 X15 X16 X17 X18 X19 X20 X21 X22 X23 X24 X25 X26 X27 X28 X29 X30 X31 Y2 Y3 Y4, one behind the other. -/
import Derived.Test.YtclnniijooeajaaGreatDoorTw1
import Derived.Test.YtclnniijooeajaaGreatDoorTw6
import Derived.Test.YtclnniijooeajaaGreatDoorTw5
noncomputable section
namespace Go.Proofs.YtclnniijooeajaaGreatDoor.Rf
open Go Go.RowKit Go.Sort Go.Proofs.YtclnniijooeajaaGreatDoor.bA
section
theorem avW{k:Nat}(h:k<=19):10 ^ k<=10000000000000000000:=by
 have:=Nat.pow_le_pow_right (show 0<10 by omega) h;have e:(10:Nat) ^ 19=10000000000000000000:=by decide
 omega
theorem ajs:∀(s:anP) (n:Nat),n*10 ^ s.length<=bC s n
 | [],n=>by simp[bC]
 | c::t,n=>by have:=ajs t (n*10+(c.toNat-48));unfold bC;refine Nat.le_trans ?_ this;rw[List.length_cons,Nat.pow_succ,amE (10 ^ t.length) 10,<- Nat.mul_assoc];exact aeR _ (by omega)
theorem asR{s:anP}(h:eF s=true)(hl:19<s.length):10000000000000000000<=bC s 0:=by
 match s,h,hl with
 | [],_,hl=>simp at hl
 | [_],_,hl=>simp at hl
 | c::d::t,h,hl =>
  simp only[eF,Gw,abG,aeQ,ajv]at h;have hc:=wP.1 h.2.1;have h48:c.toNat≠48:=fun e=>by have:c=48:=UInt8.toNat_inj.1 e;subst this;exact absurd h.1 (by decide)
  have h1:=ajs (d::t) (0*10+(c.toNat-48));have h2:10 ^ 19<=10 ^ (d::t).length:=Nat.pow_le_pow_right (by omega) (by simp only[List.length_cons]at hl ⊢;omega);have e:(10:Nat) ^ 19=10000000000000000000:=by decide
  have h3:1*10 ^ (d::t).length<=(0*10+(c.toNat-48))*10 ^ (d::t).length:=aeR _ (by omega);show 10000000000000000000<=bC (d::t) (0*10+(c.toNat-48));omega
theorem azy(s:anP):Gw s=(bif((s.length:Int)==0)then true else(bif(decide ((1:Int)<(s.length:Int)))then((((s.getD (Int.toNat 0) 0).toNat:Nat):Int)==48)else false)):=by
 match s with
 | []=>rfl
 | [c]=>rfl
 | c::d::t =>
  have h1:(((c::d::t).length:Int)==0)=false:=by rw[afb,List.length_cons];omega
  have h2:decide ((1:Int)<((c::d::t).length:Int))=true:=decide_eq_true (by simp only[List.length_cons];omega);rw[h1,h2];show(c==48)=(((c.toNat:Nat):Int)==48)
  rw[c48]
theorem Je(s:anP)(hs:s.length<=1000000):lM s=some (eF s):=by
 refine iY rfl (fun | .e y=>y=s | .h0 v0 v1=>v0=s/\0<=v1/\v1<=(s.length:Int)/\(s.drop v1.toNat).all eP=eF s) (fun | .e _=>10000000000 | .h0 _ v1=>((s.length:Int)-v1).toNat) rfl (by show 10000000000<_;omega) ?_;rintro(y | ⟨v0,v1⟩) hs'
 ·cases hs';have e:eF s=(!(Gw s)&&s.all eP):=rfl;have hl:=azy s;simp only[aM,bg,lK];rw[<- hl];cases hb:Gw s with
  | true =>
   rw[hb]at e hl;simp only[bB]
   (repeat' (first|intro _|apply And.intro))<;>grind
  | false =>
   rw[hb]at e hl;simp only[bB]
   (repeat' (first|intro _|apply And.intro))<;>grind[aeh]
 ·obtain⟨rfl,h1,h2,h3⟩:=hs';have e1:=@cO (v1+1);by_cases hi:v1<(v0.length:Int)
  ·rw[fJ v0 0 h1 hi,aeQ]at h3;simp only[aM,bg,lK];rw[decide_eq_true hi,cond_true,wS];refine⟨h1,hi,?_⟩;generalize v0.getD v1.toNat 0=c at h3 ⊢;rw[Pq];cases hc:eP c with
   | false =>
    rw[hc]at h3;simp only[bB]
    (repeat' (first|intro _|apply And.intro))<;>grind
   | true =>
    rw[hc]at h3;simp only[bB]
    (repeat' (first|intro _|apply And.intro))<;>grind
  ·rw[iN v0 (by omega),List.all_nil]at h3;simp only[bB,lK]
   (repeat' (first|intro _|apply And.intro))<;>grind
theorem Jf(s:anP)(hs:s.length<=1000000)(hd:s.all eP=true):lN s=some (iZ s):=by
 refine iY rfl (fun | .e y=>y=s | .h0 v0 v1 v2=>v0=s/\0<=v2/\v2<=(s.length:Int)/\∃n:Nat,v1=(n:Int)/\n<72057594037927936/\LY (bC (s.drop v2.toNat) n)=iZ s) (fun | .e _=>10000000000 | .h0 _ _ v2=>((s.length:Int)-v2).toNat) rfl (by show 10000000000<_;omega) ?_;rintro(y | ⟨v0,v1,v2⟩) hs'
 ·cases hs';refine⟨⟨rfl,by decide,by omega,0,rfl,by decide,rfl⟩,?_⟩;show((s.length:Int)-0).toNat<10000000000;omega
 ·obtain⟨rfl,h1,h2,n,rfl,h3,h4⟩:=hs';simp only[aM,bg,uZ];by_cases hi:v2<(v0.length:Int)
  ·have hc:=wP.1 (afe.1 hd _ (gM v0 0 h1 hi));rw[fJ v0 0 h1 hi,bC]at h4;rw[decide_eq_true hi,cond_true,wS];refine⟨h1,hi,?_⟩;generalize v0.getD v2.toNat 0=c at hc h4 ⊢;have e4:au (au (au ((n:Int)*10)+au ((c.toNat:Int)))-48)=((n*10+(c.toNat-48):Nat):Int):=by
    rw[aU (n:=(n:Int)*10) (by omega) (by omega),aU (n:=(c.toNat:Int)) (by omega) (by omega),aU (n:=(n:Int)*10+_) (by omega) (by omega),aU (by omega) (by omega)];omega
   rw[e4];by_cases hn:72057594037927936<=n*10+(c.toNat-48)
   ·have:=WY (v0.drop (v2+1).toNat) (n*10+(c.toNat-48));rw[dT (by omega),cond_true,<- h4,Pt (by omega)]
   ·rw[dF (by omega),cond_false,cO (by omega)];refine⟨⟨trivial,by omega,by omega,_,rfl,by omega,h4⟩,?_⟩;show((v0.length:Int)-(v2+1)).toNat<((v0.length:Int)-v2).toNat;omega
  ·rw[iN v0 (by omega),bC,BP h3]at h4;rw[decide_eq_false hi,cond_false];exact h4
theorem p9(s:anP)(most:Int)(hs:s.length<=1000000)(hm:0<=most/\most<=9223372036854775807):dL s most=some (fM s most):=by
 refine iY rfl (fun | .e y0 y1=>y0=s/\y1=most | .h0 v0 v1 v2 v3=>v0=s/\v1=most/\0<=v3/\v3<=(s.length:Int)/\s.length<=19/\s.all eP=true/\∃n:Nat,v2=(n:Int)/\(n+1)*10 ^ (s.length-v3.toNat)<=10000000000000000000/\BQ most (bC (s.drop v3.toNat) n)=fM s most) (fun | .e _ _=>10000000000 | .h0 _ _ _ v3=>((s.length:Int)-v3).toNat) ⟨rfl,rfl⟩ (by show 10000000000<_;omega) ?_;rintro(⟨y0,y1⟩ | ⟨v0,v1,v2,v3⟩) hs'
 ·obtain⟨rfl,rfl⟩:=hs';simp only[aM,bg,pJ,Je y0 hs,aG,dF (show ¬ y1<0 by omega),cond_false];have e:fM y0 y1=bif !(eF y0)then(0,3)else BQ y1 (bC y0 0):=rfl
  cases hw:eF y0 with
  | false=>rw[hw]at e;exact e.symm
  | true =>
   rw[hw]at e;have e:fM y0 y1=BQ y1 (bC y0 0):=e;rw[abI,cond_false];by_cases hl:(19:Int)<(y0.length:Int)
   ·have:=asR hw (by omega);rw[dT hl,cond_true,e,Ez (by omega)]
   ·rw[dF hl,cond_false];have hall:y0.all eP=true:=by
     unfold eF at hw;rw[abG]at hw;exact hw.2
    refine⟨⟨trivial,trivial,by decide,by omega,by omega,hall,0,rfl,?_,e.symm⟩,?_⟩
    ·show(0+1)*10 ^ (y0.length-0)<=_;rw[amB];have:=avW (k:=y0.length) (by omega);omega
    ·show((y0.length:Int)-0).toNat<10000000000;omega
 ·obtain⟨rfl,rfl,h1,h2,h3,h4,n,rfl,h5,h6⟩:=hs';simp only[aM,bg,pJ];by_cases hi:v3<(v0.length:Int)
  ·have hc:=wP.1 (afe.1 h4 _ (gM v0 0 h1 hi));rw[fJ v0 0 h1 hi,bC]at h6;rw[decide_eq_true hi,cond_true,wS];refine⟨h1,hi,?_⟩;generalize v0.getD v3.toNat 0=c at hc h6 ⊢;have ep:v0.length-v3.toNat=(v0.length-(v3+1).toNat)+1:=by omega
   have aFV:1<=10 ^ (v0.length-(v3+1).toNat):=Nat.one_le_pow _ _ (by omega);rw[ep,Nat.pow_succ,amE (10 ^ _) 10,<- Nat.mul_assoc]at h5;have h7:(n*10+(c.toNat-48)+1)*10 ^ (v0.length-(v3+1).toNat)<=(n+1)*10*10 ^ (v0.length-(v3+1).toNat):=aeR _ (by omega);have h8:(n+1)*10<=10000000000000000000:=Nat.le_trans (akd _ aFV) h5;have e4:IntKind.wrap .u64 (IntKind.wrap .u64 (IntKind.wrap .u64 ((n:Int)*10)+IntKind.wrap .u64 ((c.toNat:Int)))-48)=((n*10+(c.toNat-48):Nat):Int):=by rw[AB (n:=(n:Int)*10) (by omega) (by omega),AB (n:=(c.toNat:Int)) (by omega) (by omega),AB (n:=(n:Int)*10+_) (by omega) (by omega),AB (by omega) (by omega)];omega
   rw[e4,cO (by omega)];refine⟨⟨trivial,trivial,by omega,by omega,h3,h4,_,rfl,by omega,h6⟩,?_⟩;show((v0.length:Int)-(v3+1)).toNat<((v0.length:Int)-v3).toNat;omega
  ·rw[iN v0 (by omega),bC]at h6;rw[show v0.length-v3.toNat=0 by omega]at h5;rw[decide_eq_false hi,cond_false,AB (by omega) (by omega),<- h6];by_cases h:v1<(n:Int)
   ·rw[dT h,Ez h];rfl
   ·rw[dF h,EA h,aU (by omega) (by omega)];rfl
end
section
def fu:anP->Nat
 | []=>0
 | c::t=>bif eP c then fu t+1 else 0
theorem ajt:∀s:anP,fu s<=s.length
 | []=>abH _
 | c::t=>by
  unfold fu;have:=ajt t;cases eP c with
  | true=>rw[cond_true,List.length_cons];omega
  | false=>exact aas _
def bQ:Nat->Nat
 | 0=>3600000
 | 1=>60000
 | 2=>1000
 | _=>1
def gU:anP->Nat×Nat
 | []=>(0,0)
 | c::t=>bif(((c.toNat:Nat):Int)==104)then(0,1)
  else bif(((c.toNat:Nat):Int)==109)then(match t with
   | []=>(1,1)
   | d::_=>bif(((d.toNat:Nat):Int)==115)then(3,2)else(1,1))
  else bif(((c.toNat:Nat):Int)==115)then(2,1)else(0,0)
theorem aDA(s:anP):(gU s).2<=s.length/\(gU s).1<=3/\(gU s).2<=2:=by
 match s with
 | []=>simp[gU]
 | [c] =>simp only[gU];cases(((c.toNat:Nat):Int)==104)<;>cases(((c.toNat:Nat):Int)==109)<;>cases(((c.toNat:Nat):Int)==115)<;>simp
 | c::d::t =>simp only[gU];cases(((c.toNat:Nat):Int)==104)<;>cases(((c.toNat:Nat):Int)==109)<;>cases(((d.toNat:Nat):Int)==115)<;>cases(((c.toNat:Nat):Int)==115)<;>simp
def gH(s:anP):anP:=s.take (fu s)
def gX(s:anP):Nat×Nat:=gU (s.drop (fu s))
def gR(s:anP):anP:=s.drop (fu s+(gX s).2)
theorem axb(s:anP):fu s+(gX s).2<=s.length/\(gX s).1<=3/\(gX s).2<=2:=by have h:=aDA (s.drop (fu s));have:=ajt s;rw[abP]at h;unfold gX;omega
theorem asS(s:anP):(gH s).length<=s.length:=by unfold gH;rw[aeb];omega
theorem abB(s:anP):(gR s).length=s.length-(fu s+(gX s).2):=by unfold gR;rw[abP]
def GH(last:Int)(s:anP):Bool:=bif(bif(bif(gX s).2==0 then true else !(eF (gH s)))then true else decide (((gX s).1:Int)<=last))then true else bif gH s==[48]then(bif decide (0<=last)then true else decide ((0:Int)<((gR s).length:Int)))else false
def qy:Nat->Int->anP->Option Nat
 | 0,_,_=>none
 | f+1,last,s=>bif s==[]then(bif decide (last<0)then none else some 0)else
  bif GH last s then none else(qy f (gX s).1 (gR s)).map (bC (gH s) 0*bQ (gX s).1 + ·)
def GI:Option Nat->Int×Int
 | none=>(0,3)
 | some t=>bif decide ((1099511627776:Int)<(t:Int))then(0,9)else((t:Int),0)
def yF(s:anP):Int×Int:=GI (qy (s.length+1) (-1) s)
def vJ(s:anP):Int:=(yF s).1
def adq(s:anP):Int:=(yF s).2
theorem avX{f:Nat}{last:Int}{s:anP}(hs:s≠[])(h:GH last s=true):qy (f+1) last s=none:=by
 have:(s==[])=false:=by simpa using hs
 rw[qy,this,h];rfl
theorem ae3{f:Nat}{last:Int}{s:anP}(hs:s≠[])(h:GH last s=false)(T:Nat):(qy (f+1) last s).map (T + ·)=(qy f (gX s).1 (gR s)).map ((T+bC (gH s) 0*bQ (gX s).1) + ·):=by
 have:(s==[])=false:=by simpa using hs
 rw[qy,this,h];cases qy f (gX s).1 (gR s)with
 | none=>rfl
 | some t=>simp[ajS]
theorem ae4{f:Nat}{last:Int}{s:anP}(hs:s≠[])(h:GH last s=true)(T:Nat):(qy (f+1) last s).map (T + ·)=none:=by rw[avX hs h];rfl
theorem ano{last:Int}{s:anP}(h:GH last s=false):(gX s).2≠0/\eF (gH s)=true/\last<((gX s).1:Int):=by
 unfold GH at h;by_cases h1:(gX s).2=0
 ·rw[show((gX s).2==0)=true from by rw[h1];rfl]at h;cases h
 ·have e1:((gX s).2==0)=false:=by simpa using h1
  rw[e1,cond_false]at h;cases h2:eF (gH s)with
  | false=>rw[h2]at h;cases h
  | true =>
   rw[h2]at h;by_cases h3:((gX s).1:Int)<=last
   ·rw[dT h3]at h;cases h
   ·exact⟨h1,rfl,by omega⟩
theorem abC{h:anP}(hw:eF h=true):(bC h 0==0)=(h==[48]):=by
 unfold eF at hw;rw[abG]at hw
 match h,hw with
 | [],hw=>cases hw.1
 | [c],hw =>
  have hd:eP c=true:=by simpa using hw.2
  have:=wP.1 hd;by_cases h48:c=48
  ·subst h48;rfl
  ·have e1:([c]==[(48:UInt8)])=false:=by simpa using h48
   have:c.toNat≠48:=fun e=>h48 (UInt8.toNat_inj.1 e)
   rw[e1];show((0*10+(c.toNat-48))==0)=false;simp;omega
 | c::d::t,hw =>
  have e1:((c::d::t)==[(48:UInt8)])=false:=by simp
  have h48:(c==48)=false:=by simpa[Gw]using hw.1
  have hd:eP c=true:=by have:=hw.2;rw[aeQ,abG]at this;exact this.1
  have:=wP.1 hd;have hne:c.toNat≠48:=fun e=>by rw[UInt8.toNat_inj.1 (show c.toNat=(48:UInt8).toNat from e)]at h48;cases h48
  have hb:=WY (d::t) (0*10+(c.toNat-48));have:bC (c::d::t) 0=bC (d::t) (0*10+(c.toNat-48)):=rfl;rw[e1,this];simp only[afb];omega
theorem abD(u:Nat):1<=bQ u/\bQ u<=3600000:=by unfold bQ;split<;>omega
def duP(s:anP):Int:=bif(gU s).2==0 then 0 else((gU s).1:Int)+1
def duL(s:anP):Int:=bif(gU s).2==0 then 0 else(bQ (gU s).1:Int)
def duS(s:anP):Int:=((gU s).2:Int)
theorem div_lt{T v:Nat}(u:Nat)(hu:u<=3)(hT:T<=1099511627776):decide (Int.tdiv (1099511627776-(T:Int)) (bQ u:Int)<(v:Int))=decide (1099511627776<T+v*bQ u):=by
 rw[ae8 (by omega)];have:u=0\/u=1\/u=2\/u=3:=by omega
 rcases this with rfl | rfl | rfl | rfl<;>exact decide_eq_decide.2 (by simp only[bQ];omega)
theorem af3(s:anP)(hs:s.length<=1000000):(nY s).isSome=true->gv (nY s)=(fu s:Int):=by
 refine part rfl (fun r=>r=(fu s:Int)) (fun | .e y=>y=s | .h0 v0 v1=>v0=s/\0<=v1/\v1<=(s.length:Int)/\(fu s:Int)=v1+fu (s.drop v1.toNat)) rfl ?_;rintro(y | ⟨v0,v1⟩) hs'
 ·cases hs';simp only[dQ,ug]
  (repeat' (first|intro _|apply And.intro))<;>grind[aeh]
 ·obtain⟨rfl,h1,h2,h3⟩:=hs';simp only[dQ,ug];have e1:=@cO (v1+1);by_cases hi:v1<(v0.length:Int)
  ·rw[fJ v0 0 h1 hi,fu]at h3;generalize v0.getD v1.toNat 0=c at h3 ⊢
   (repeat' (first|intro _|apply And.intro))<;>grind[eP]
  ·rw[iN v0 (by omega),fu]at h3
   (repeat' (first|intro _|apply And.intro))<;>grind
theorem aqi(s:anP):(pG s).isSome=true->gv (pG s)=(duP s,duL s,duS s):=by
 refine gQ rfl ?_;simp only[dQ,KG]
 match s with
 | []=>((repeat' (first|intro _|apply And.intro))<;>grind[duP,duL,duS,gU])
 | [c] =>
  have g0:List.getD [c] (Int.toNat 0) 0=c:=rfl;rw[g0]
  (repeat' (first|intro _|apply And.intro))<;>grind[duP,duL,duS,gU,bQ]
 | c::d::t =>
  have g0:List.getD (c::d::t) (Int.toNat 0) 0=c:=rfl;have g1:List.getD (c::d::t) (Int.toNat 1) 0=d:=rfl;rw[g0,g1]
  (repeat' (first|intro _|apply And.intro))<;>grind[duP,duL,duS,gU,bQ]
end
section
theorem EB{α:Type}(l:List α)(i:Int):cut l i (l.length:Int)=l.drop i.toNat:=by unfold cut;rw[aam];exact aeM (by rw[abP];exact abH _)
theorem aju{α:Type}(l:List α){i:Int}(h:0<=i)(k:Nat):cut l i (i+k)=(l.drop i.toNat).take k:=by unfold cut;rw[show(i+(k:Int)).toNat-i.toNat=k by omega]
theorem asW(h:anP):((fM h 1099511627776).2==3) = !(eF h)/\(eF h=true->fM h 1099511627776=BQ 1099511627776 (bC h 0)):=by
 unfold fM;cases eF h with
 | false=>exact⟨rfl,fun h=>by cases h⟩
 | true =>
  simp only[abI,cond_false];refine⟨?_,fun _=>trivial⟩;by_cases h1:(1099511627776:Int)<(bC h 0:Int)
  ·rw[Ez h1];rfl
  ·rw[EA h1];rfl
set_option maxHeartbeats 1000000 in
theorem alU(s:anP)(hs:s.length<=1000000):(I4 s).isSome=true->gv (I4 s)=yF s:=by
 refine part rfl (fun r=>r=yF s) (fun | .e y=>y=s | .h0 v0 v1 v2 v3 v4=>v0=s/\0<=v4/\v4<=(s.length:Int)/\0<=v2/\v2<=4/\(v2=0->v4=0)/\∃(T f:Nat),s.length-v4.toNat<f/\GI ((qy f (v2-1) (s.drop v4.toNat)).map (T + ·))=yF s/\(v3=false->v1=(T:Int)/\T<=1099511627776)/\(v3=true->1099511627776<T)) rfl ?_;rintro(y | ⟨v0,v1,v2,v3,v4⟩) hs'
 ·cases hs';refine⟨rfl,by decide,by show(0:Int)<=_;omega,by decide,by decide,fun _=>rfl,0,s.length+1,by show s.length-0<_;omega,?_,fun _=>⟨rfl,by decide⟩,fun h=>by cases h⟩;show GI ((qy (s.length+1) (-1) s).map (0 + ·))=GI (qy (s.length+1) (-1) s);cases qy (s.length+1) (-1) s with
  | none=>rfl
  | some t=>simp
 ·obtain⟨rfl,h1,h2,h3,h4,h5,T,f,h6,h7,h8,h9⟩:=hs';obtain⟨i,rfl⟩:∃i:Nat,v4=(i:Int):=⟨v4.toNat,by omega⟩
  obtain⟨g,rfl⟩:∃g,f=g+1:=⟨f-1,by omega⟩
  rw[aam]at h6 h7;simp only[aM,bg,CS];by_cases hend:(bif(decide ((i:Int)<(v0.length:Int)))then true else(v2==(0:Int)))=true
  ·
   rw[hend,cond_true,EB];rw[aam];generalize ht:v0.drop i=t at h7 ⊢;have htl:t.length=v0.length-i:=by rw[<- ht,abP]
   simp only[dQ];intro _ i1;rw[af3 t (by omega) i1];have hp:=ajt t;obtain⟨x1,x2,x3⟩:=axb t;have e1:au ((i:Int)+(fu t:Int))=((i+fu t:Nat):Int):=by rw[cO (by omega)];omega
   rw[e1];have e2:cut v0 (i:Int) ((i+fu t:Nat):Int)=gH t:=by rw[show((i+fu t:Nat):Int)=(i:Int)+(fu t:Nat) by omega,aju v0 (by omega),aam,ht];rfl
   have e3:cut v0 ((i+fu t:Nat):Int) (v0.length:Int)=t.drop (fu t):=by rw[EB,aam,<- ht,akr]
   rw[e2,e3];have hgl:=asS t;rw[uw (gH t) 1099511627776 (yx.2 ⟨⟨by omega,by decide⟩,by decide⟩),count_eq _ (by decide),dS];intro _ _ _ i2;rw[aqi _ i2];dsimp only;obtain⟨f1,f2⟩:=asW (gH t);have hdu:duP (t.drop (fu t))=(bif(gX t).2==0 then(0:Int)else((gX t).1:Int)+1):=rfl;have hdl:duL (t.drop (fu t))=(bif(gX t).2==0 then(0:Int)else(bQ (gX t).1:Int)):=rfl;have hds:duS (t.drop (fu t))=((gX t).2:Int):=rfl;have hgr:=abB t;have e4:au (((i+fu t:Nat):Int)+((gX t).2:Int))=((i+fu t+(gX t).2:Nat):Int):=by rw[cO (by omega)];omega
   rw[hdu,hdl,hds,e4];have hR:((0:Int)<((gR t).length:Int))↔((i+fu t+(gX t).2:Nat):Int)<(v0.length:Int):=by rw[hgr,htl];omega
   have hdrop:v0.drop (i+fu t+(gX t).2)=gR t:=by unfold gR;rw[<- ht,akr,show i+(fu (v0.drop i)+(gX (v0.drop i)).2)=i+fu (v0.drop i)+(gX (v0.drop i)).2 by omega]
   by_cases ht0:t=[]
   ·have hv:v2=0:=by
     have:t.length=0:=by rw[ht0];rfl
     rw[decide_eq_false (show ¬ ((i:Int)<(v0.length:Int)) by omega)]at hend;simpa using hend
    have q:GI ((qy (g+1) (v2-1) t).map (T + ·))=(0,3):=by rw[ht0,hv];rfl
    rw[q]at h7;have z:(gX t).2=0:=by rw[ht0];rfl
    rw[z]at *
    (repeat' (first|intro _|apply And.intro))<;>grind
   ·have hw0:=@abC (gH t);have ho:BQ 1099511627776 (bC (gH t) 0)=bif decide ((1099511627776:Int)<(bC (gH t) 0:Int))then(0,9)else((bC (gH t) 0:Int),0):=rfl
    cases hbad:GH (v2-1) t with
    | true =>
     have q:GI ((qy (g+1) (v2-1) t).map (T + ·))=(0,3):=by rw[ae4 ht0 hbad];rfl
     rw[q]at h7;unfold GH at hbad;generalize eF (gH t)=w at *;generalize bC (gH t) 0=N at *;generalize fM (gH t) 1099511627776=cp at *;generalize (gH t==[48])=b48 at *
     (repeat' (first|intro _|apply And.intro))<;>grind
    | false =>
     rw[ae3 ht0 hbad]at h7;obtain⟨g1,g2,g3⟩:=ano hbad;obtain⟨l1,l2⟩:=abD (gX t).1;have hz:((gX t).2==0)=false:=by simpa using g1
     have hcp:=f2 g2;have hnz:=hw0 g2;rw[hz,cond_false,cond_false,f1,g2];have k1:decide (((gX t).1:Int)+1<=v2)=false:=decide_eq_false (by omega);have k2:(((gX t).2:Int)==0)=false:=by simpa using g1
     have k3:((bQ (gX t).1:Int)==0)=false:=by simp only[afb];omega
     rw[k1,k2];have hB:(bif(bif((fM (gH t) 1099511627776).2==(0:Int))then((fM (gH t) 1099511627776).1==(0:Int))else false)then(bif(decide ((0:Int)<v2))then true else(decide (((i+fu t+(gX t).2:Nat):Int)<(v0.length:Int))))else false)=false:=by
      unfold GH at hbad;rw[hz,cond_false,g2,abI,cond_false,decide_eq_false (show ¬ ((gX t).1:Int)<=v2-1 by omega),cond_false]at hbad;rw[hcp,ho];rw[<- hnz]at hbad;have hd1:decide (0<=v2-1)=decide (0<v2):=decide_eq_decide.2 (by omega);have hd2:decide ((0:Int)<((gR t).length:Int))=decide (((i+fu t+(gX t).2:Nat):Int)<(v0.length:Int)):=decide_eq_decide.2 hR;rw[hd1,hd2]at hbad;by_cases hM:(1099511627776:Int)<(bC (gH t) 0:Int)
      ·rw[decide_eq_true hM];rfl
      ·rw[decide_eq_false hM];have:((bC (gH t) 0:Int)==0)=(bC (gH t) 0==0):=by
        by_cases h:bC (gH t) 0=0
        ·rw[h];rfl
        ·rw[show(bC (gH t) 0==0)=false by simpa using h];simp only[afb];omega
       show(bif(bif((0:Int)==0)then((bC (gH t) 0:Int)==0)else false)then _ else false)=false;rw[this];exact hbad
     rw[hB];have hinv:∀(b:Bool) (v1':Int),(b=false->v1'=((T+bC (gH t) 0*bQ (gX t).1:Nat):Int)/\T+bC (gH t) 0*bQ (gX t).1<=1099511627776)->(b=true->1099511627776<T+bC (gH t) 0*bQ (gX t).1)->True/\0<=((i+fu t+(gX t).2:Nat):Int)/\((i+fu t+(gX t).2:Nat):Int)<=(v0.length:Int)/\0<=((gX t).1:Int)+1/\((gX t).1:Int)+1<=4/\(((gX t).1:Int)+1=0->((i+fu t+(gX t).2:Nat):Int)=0)/\∃(T' f':Nat),v0.length-(((i+fu t+(gX t).2:Nat):Int)).toNat<f'/\GI ((qy f' (((gX t).1:Int)+1-1) (v0.drop (((i+fu t+(gX t).2:Nat):Int)).toNat)).map (T' + ·))=yF v0/\(b=false->v1'=(T':Int)/\T'<=1099511627776)/\(b=true->1099511627776<T'):=fun b v1' q1 q2=>by refine⟨trivial,by omega,by omega,by omega,by omega,fun h=>by omega,T+bC (gH t) 0*bQ (gX t).1,g,by rw[aam];omega,?_,q1,q2⟩;rw[aam,hdrop,show((gX t).1:Int)+1-1=((gX t).1:Int) by omega];exact h7
     rw[k3];refine⟨fun h=>(by cases h),fun _=>⟨fun h=>(by cases h),fun _ _=>⟨fun hC=>?_,fun hC=>?_⟩⟩⟩
     ·refine hinv _ _ (fun _=>?_) (fun hb=>absurd (hC.symm.trans hb) (by decide));cases v3 with
      | true=>cases hC
      | false =>
       obtain⟨rfl,hT⟩:=h8 rfl;rw[hcp,ho]at hC ⊢;by_cases hM:(1099511627776:Int)<(bC (gH t) 0:Int)
       ·rw[decide_eq_true hM]at hC;cases hC
       ·rw[decide_eq_false hM]at hC ⊢;have hC:decide (au ((au (1099511627776-(T:Int))).tdiv (bQ (gX t).1:Int))<(bC (gH t) 0:Int))=false:=hC;rw[cO (n:=1099511627776-(T:Int)) (by omega),cO (by
         have:((1099511627776-(T:Int)).tdiv (bQ (gX t).1:Int)).natAbs=(1099511627776-(T:Int)).natAbs / (bQ (gX t).1:Int).natAbs:=Int.natAbs_tdiv _ _;have h2:=Nat.div_le_self (1099511627776-(T:Int)).natAbs (bQ (gX t).1:Int).natAbs;omega),div_lt (gX t).1 x2 hT,decide_eq_false_iff_not]at hC
        refine⟨?_,by omega⟩;show au ((T:Int)+au ((bC (gH t) 0:Int)*(bQ (gX t).1:Int)))=_;rw[<- Int.natCast_mul,cO (n:=((bC (gH t) 0*bQ (gX t).1:Nat):Int)) (by omega),cO (by omega)];omega
     ·rw[Bool.not_eq_false']at hC;refine hinv _ _ (fun hb=>absurd (hC.symm.trans hb) (by decide)) (fun _=>?_);cases v3 with
      | true=>have:=h9 rfl;omega
      | false =>
       obtain⟨rfl,hT⟩:=h8 rfl;rw[hcp,ho]at hC;by_cases hM:(1099511627776:Int)<(bC (gH t) 0:Int)
       ·have:=akd (bC (gH t) 0) (show 0<bQ (gX t).1 by omega);omega
       ·rw[decide_eq_false hM]at hC;have hC:decide (au ((au (1099511627776-(T:Int))).tdiv (bQ (gX t).1:Int))<(bC (gH t) 0:Int))=true:=hC;rw[cO (n:=1099511627776-(T:Int)) (by omega),cO (by
         have:((1099511627776-(T:Int)).tdiv (bQ (gX t).1:Int)).natAbs=(1099511627776-(T:Int)).natAbs / (bQ (gX t).1:Int).natAbs:=Int.natAbs_tdiv _ _;have h2:=Nat.div_le_self (1099511627776-(T:Int)).natAbs (bQ (gX t).1:Int).natAbs;omega),div_lt (gX t).1 x2 hT,abK]at hC
        exact hC
  ·have hc:(bif(decide ((i:Int)<(v0.length:Int)))then true else(v2==(0:Int)))=false:=by simpa using hend
   rw[hc,cond_false];have hi:v0.length<=i/\v2≠0:=by
    by_cases h:(i:Int)<(v0.length:Int)
    ·rw[decide_eq_true h]at hc;cases hc
    ·rw[decide_eq_false h]at hc;exact⟨by omega,by simpa using hc⟩
   rw[aa7 hi.1,qy,show(([]:anP)==[])=true from rfl,cond_true,decide_eq_false (show ¬ v2-1<0 by omega),cond_false,aiM,ahO,GI]at h7;simp only[dQ]
   (repeat' (first|intro _|apply And.intro))<;>grind
end
section
def Bc:Nat->anP
 | 0=>[104]
 | 1=>[109]
 | 2=>[115]
 | _=>[109,115]
def PY(n:Int)(i:Nat):anP:=bif decide (0<n / (bQ i:Int))then bq (n / (bQ i:Int))++Bc i else[]
def JC:Nat->Nat->Int->anP
 | 0,_,_=>[]
 | k+1,i,n=>PY n i++JC k (i+1) (n%(bQ i:Int))
def yV(n:Int):anP:=bif(bif decide (n<0)then true else decide ((1099511627776:Int)<n))then[]else bif n==0 then[48,115]else JC 4 0 n
theorem aFW(v2:Ut)(h:v2=⟨(⟨3600000,[104]⟩:xY),⟨60000,[109]⟩,⟨1000,[115]⟩,⟨1,[109,115]⟩⟩)(i:Nat)(hi:i<4):List.getD ([v2.e0,v2.e1,v2.e2,v2.e3]:List xY) i (dflt Ty.Bv)=⟨(bQ i:Int),Bc i⟩:=by
 subst h;have:i=0\/i=1\/i=2\/i=3:=by omega
 rcases this with rfl | rfl | rfl | rfl<;>rfl
theorem aqj(x:Int):(KH x).isSome=true->gv (KH x)=yV x:=by
 refine part rfl (fun r=>r=yV x) (fun | .e y=>y=x | .h0 v0 v1 v2 v3=>(0<=v0/\v0<=1099511627776)/\v2=⟨(⟨3600000,[104]⟩:xY),⟨60000,[109]⟩,⟨1000,[115]⟩,⟨1,[109,115]⟩⟩/\∃i:Nat,v3=(i:Int)/\i<=4/\v1++JC (4-i) i v0=yV x) rfl ?_;rintro(y | ⟨v0,v1,v2,v3⟩) hs
 ·cases hs;simp only[dQ,BH];refine⟨fun h=>?_,fun h=>⟨fun h2=>?_,fun h2=>?_⟩⟩
  ·unfold yV;rw[h];rfl
  ·unfold yV;rw[h,h2];rfl
  ·have hx:0<=x/\x<=1099511627776:=by
    by_cases h3:x<0
    ·rw[decide_eq_true h3]at h;cases h
    ·rw[decide_eq_false h3,cond_false]at h;have:=of_decide_eq_false h;omega
   refine⟨hx,trivial,0,rfl,by decide,?_⟩;unfold yV;rw[h,show(x==0)=false by simpa using h2];rfl
 ·obtain⟨h1,h2,i,rfl,h4,h5⟩:=hs;simp only[dQ,BH];by_cases hi:i<4
  ·have e:=aFW v2 h2 i hi;rw[aam,e];dsimp only;obtain⟨l1,l2⟩:=abD i;have e1:au ((i:Int)+1)=((i+1:Nat):Int):=by rw[cO (by omega)];omega
   have e2:Int.tdiv v0 (bQ i:Int)=v0 / (bQ i:Int):=ae8 h1.1;have b0:0<=v0 / (bQ i:Int):=Int.ediv_nonneg h1.1 (by omega);have b1:v0 / (bQ i:Int)*(bQ i:Int)<=v0:=Int.ediv_mul_le v0 (by omega);have b2:v0 / (bQ i:Int)<=v0 / (bQ i:Int)*(bQ i:Int):=by have:=Int.mul_le_mul_of_nonneg_left (show(1:Int)<=(bQ i:Int) by omega) b0;omega
   have b3:v0%(bQ i:Int)=v0-v0 / (bQ i:Int)*(bQ i:Int):=by have:=Int.emod_add_mul_ediv v0 (bQ i:Int);rw[Int.mul_comm];omega
   rw[e1,e2,cO (n:=v0 / (bQ i:Int)) (by omega),cO (n:=v0 / (bQ i:Int)*(bQ i:Int)) (by omega),cO (n:=v0-v0 / (bQ i:Int)*(bQ i:Int)) (by omega),<- b3];have hT:=AZ (v0 / (bQ i:Int)) (by omega);rw[show 4-i=(4-(i+1))+1 by omega,JC]at h5;unfold PY at h5;have hm:=Int.emod_nonneg v0 (show(bQ i:Int)≠0 by omega);refine⟨fun _ _ _=>⟨fun hk iT _ _=>?_,fun hk=>?_⟩,fun h=>absurd (by omega) h⟩
   ·rw[hT iT];rw[decide_eq_true hk,cond_true]at h5;refine⟨⟨by omega,by omega⟩,h2,i+1,rfl,by omega,?_⟩;rw[<- h5];simp only[abJ]
   ·rw[decide_eq_false hk,cond_false,aeK]at h5;have hz:v0 / (bQ i:Int)=0:=by omega
    rw[hz]at b3;rw[show v0%(bQ i:Int)=v0 by omega]at h5;exact⟨h1,h2,i+1,rfl,by omega,h5⟩
  ·have:i=4:=by omega
   subst this;refine⟨fun h=>absurd h (by decide),fun _=>?_⟩;have h5:v1++[]=yV x:=h5;rw[<- h5,abR]
end
section
theorem xM{p:Nat->Bool}(h:(List.range 256).all p=true)(c:UInt8):p c.toNat=true:=afe.1 h _ (List.mem_range.2 c.toNat_lt)
def KP:anP:=[46,95,45,47,58,61,44,43,64,37]
def ldB(n:Int):Bool:=bif(bif(bif decide ((97:Int)<=n)then decide (n<=122)else false)then true else(bif decide ((65:Int)<=n)then decide (n<=90)else false))then true else(bif decide ((48:Int)<=n)then decide (n<=57)else false)
def okC(n:Int):Bool:=ldB n||KP.any fun m=>((m.toNat:Nat):Int)==n
def pb0(n:Int):Bool:=bif(bif(bif decide (n<(97:Int))then true else decide ((122:Int)<n))then(bif decide (n<(65:Int))then true else decide ((90:Int)<n))else false)then(bif decide (n<(48:Int))then true else decide ((57:Int)<n))else false
def pb2(n:Int):Bool:=bif pb0 n then decide (HY KP n<0)else false
theorem aBP(c:UInt8):pb2 (Int.ofNat c.toNat) = !(okC (Int.ofNat c.toNat)):=beq_iff_eq.1 (xM (p:=fun n=>pb2 (Int.ofNat n) == !(okC (Int.ofNat n))) (by decide +kernel) c)
def Ac(s:anP):Bool:=(s.all fun c=>okC ((c.toNat:Nat):Int)) && !(s==[])
def JD(s:anP):anP:=bif Ac s then s else[39]++qV 39 [39,92,39,39] s++[39]
def Mc(l:List (anP)):anP:=Lib.join (l.map JD) [32]
theorem alV(s:anP)(hs:s.length<=1000000):(IW s).isSome=true->gv (IW s)=Ac s:=by
 refine part rfl (fun r=>r=Ac s) (fun | .e y=>y=s | .h0 v0 v1 v2=>v0=s/\v1=(s.length:Int)/\0<=v2/\v2<=v1/\Ac s=(((s.drop v2.toNat).all fun c=>okC ((c.toNat:Nat):Int)) && !(s==[]))) rfl ?_;rintro(y | ⟨v0,v1,v2⟩) hs'
 ·cases hs';simp only[dQ,zo];exact⟨trivial,trivial,by decide,by omega,rfl⟩
 ·obtain⟨rfl,rfl,h1,h2,h3⟩:=hs';simp only[aM,bg,zo];have e1:=@cO (v2+1);by_cases hi:v2<(v0.length:Int)
  ·rw[fJ v0 0 h1 hi,aeQ]at h3;rw[decide_eq_true hi,cond_true,pS];intro _ _;generalize v0.getD v2.toNat 0=c at h3 ⊢;have hb:(bif(bif(bif(bif(decide (((c.toNat:Nat):Int)<(97:Int)))then true else(decide ((122:Int)<((c.toNat:Nat):Int))))then(bif(decide (((c.toNat:Nat):Int)<(65:Int)))then true else(decide ((90:Int)<((c.toNat:Nat):Int))))else false)then(bif(decide (((c.toNat:Nat):Int)<(48:Int)))then true else(decide ((57:Int)<((c.toNat:Nat):Int))))else false)then(decide ((HY ([46,95,45,47,58,61,44,43,64,37]:anP) ((c.toNat:Nat):Int))<(0:Int)))else false) = !(okC ((c.toNat:Nat):Int)):=aBP c;rw[hb];simp only[dQ]
   (repeat' (first|intro _|apply And.intro))<;>grind
  ·rw[iN v0 (by omega),List.all_nil]at h3;simp only[dQ]
   (repeat' (first|intro _|apply And.intro))<;>grind
theorem alW(l:List (anP))(hl:l.length<=1000000)(hs:∀s∈l,s.length<=1000000):(IX l).isSome=true->gv (IX l)=Mc l:=by
 refine part rfl (fun r=>r=Mc l) (fun | .e y=>y=l | .h0 v0 v1 v2 v3=>v1=l/\v2=(l.length:Int)/\0<=v3/\v3<=v2/\v0++(l.drop v3.toNat).map JD=l.map JD) rfl ?_;rintro(y | ⟨v0,v1,v2,v3⟩) hs'
 ·cases hs';simp only[dQ,zq];exact⟨trivial,trivial,by decide,by omega,rfl⟩
 ·obtain⟨rfl,rfl,h1,h2,h3⟩:=hs';simp only[dQ,zq];have e1:=@cO (v3+1);by_cases hi:v3<(v1.length:Int)
  ·rw[fJ v1 Df.d h1 hi,ae6]at h3;have h5:=qZ hs v3.toNat;generalize v1.getD v3.toNat Df.d=s at h3 h5 ⊢;have h6:=alV s h5;have h7:JD s=bif Ac s then s else[39]++qV 39 [39,92,39,39] s++[39]:=rfl
   have h8:XT s [39] [39,92,39,39] (-1)=qV 39 [39,92,39,39] s:=rfl;rw[h8]
   (repeat' (first|intro _|apply And.intro))<;>grind[abJ,afa]
  ·rw[iN v1 (by omega),aha,abR]at h3
   (repeat' (first|intro _|apply And.intro))<;>grind[Mc]
def iV:anP:=[100,105,115,97,98,108,101]
def bR:anP:=[116,101,115,116]
def dX:anP:=[105,110,116,101,114,118,97,108]
def fD:anP:=[115,116,97,114,116,95,112,101,114,105,111,100]
def bT:anP:=[114,101,116,114,105,101,115]
def Ic:anP:=[49,115]
def Vn:anP:=[48]
def Vo:anP:=[78,79,78,69]
def Vp:anP:=[67,77,68,45,83,72,69,76,76]
def Vq:anP:=[67,77,68]
def tsX(n:Node):Bool:=bif !(qx n)then true else((bH n).length:Int)==0
def JE(n:Node):Int:=bif n.kind==1 then 1 else bif tsX n then 0 else bif(bH n).getD 0 []==Vo then(bif((bH n).length:Int)==1 then 2 else 0)
 else bif(bH n).getD 0 []==Vp then(bif((bH n).length:Int)==2 then 1 else 0)else bif(bH n).getD 0 []==Vq then(bif decide ((1:Int)<((bH n).length:Int))then 1 else 0)else 0
def JF(n:Node):anP:=bif n.kind==1 then n.text else bif tsX n then[]else bif(bH n).getD 0 []==Vo then[]
 else bif(bH n).getD 0 []==Vp then(bif((bH n).length:Int)==2 then(bH n).getD 1 []else[])else bif(bH n).getD 0 []==Vq then Mc ((bH n).drop 1)else[]
def tsN(n:Node):Bool:=bif n.kind==1 then false else bif tsX n then false else(bH n).getD 0 []==Vo
def tsR(n:Node):Bool:=!(JE n==0)
theorem alX(n:Node)(hl:n.kids.length<=1000000)(hk:(bH n).length<=1000000)(hs:∀s∈bH n,s.length<=1000000):(IZ n).isSome=true->gv (IZ n)=(JF n,tsN n,tsR n):=by
 refine gQ rfl ?_;simp only[dQ,IY];have h1:=AP n hl;have h2:∀i:Nat,(bH n).getD i (Df.d:anP)=(bH n).getD i []:=fun _=>rfl
 have h3:cut (bH n) 1 ((bH n).length:Int)=(bH n).drop 1:=EB _ 1;have h4:=alW ((bH n).drop 1) (by rw[abP];omega) (fun s h=>hs s (List.mem_of_mem_drop h));have h5:Vo=[78,79,78,69]:=rfl;have h6:Vp=[67,77,68,45,83,72,69,76,76]:=rfl;have h7:Vq=[67,77,68]:=rfl
 (repeat' (first|intro _|apply And.intro))<;>grind[JF,tsN,tsR,JE,tsX]
end
section
def OC(n o:Node):Node:=bif aD n bR then bf o bR (dz (JF (aJ n bR)))else o
def OD(n:Node)(k:anP)(o:Node):Node:=bif aD n k then bf o k (dz (yV (vJ (aO n k Ic))))else o
def GJ(n:Node):Int:=Cz (aO n bT Vn) 65536
def aqk(n o:Node):Node:=bif decide (0<GJ n)then bf o bT (dz (bq (GJ n)))else o
def hO(n:Node):Node:=aqk n (OD n fD (OD n dX (OC n zn)))
def Zt(n:Node):Bool:=bif aO n iV oM==jZ then true else(bif aD n bR then tsN (aJ n bR)else false)
def Kg(n:Node):Bool:=bif(bif n.kind != 3 then true else !(bU n iV []))then true else Pp (aO n iV oM)
def Me(n:Node)(b:Bool):Bool:=bif b then true else(bif aD n bR then !(tsR (aJ n bR))else false)
def Vr(n:Node)(k:anP)(b:Bool):Bool:=bif(bif b then true else !(bU n k []))then true else adq (aO n k Ic)!=0
def Vs(n:Node)(b:Bool):Bool:=bif Vr n dX b then true else vJ (aO n dX Ic)==0
def bdR(n:Node)(b:Bool):Bool:=bif(bif(bif(bif b then true else !(bU n bT []))then true else N7 (aO n bT Vn) 65536 != 0)then true else(bif aD n bT then GJ n==0 else false))then true else decide ((10:Int)<GJ n)
def ajx(n:Node):Bool:=bdR n (Vr n fD (Vs n (Me n (Kg n))))
def hLf(n:Node):Int:=((((n.keys.length:Int)-b2 (aD n iV))-b2 (aD n bR))-b2 (aD n dX))-b2 (aD n fD)-b2 (aD n bT)
def aql(off:Bool)(o:Node)(bad:Bool):Node×Int:=bif bad then(zn,10)else(EN (bif off then bf zn iV (fH true)else o) false,EO (bif off then bf zn iV (fH true)else o) false)
def hP(n:Node):Node×Int:=aql (Zt n) (hO n) (ajx n || !(hLf n==0))
def hFo(n:Node):Nat->Node
 | 0=>OC n zn
 | 1=>OD n dX (OC n zn)
 | _=>OD n fD (OD n dX (OC n zn))
def Kh(n:Node):Nat->Int
 | 0=>(n.keys.length:Int)-b2 (aD n iV)-b2 (aD n bR)
 | 1=>(n.keys.length:Int)-b2 (aD n iV)-b2 (aD n bR)-b2 (aD n dX)
 | _=>(n.keys.length:Int)-b2 (aD n iV)-b2 (aD n bR)-b2 (aD n dX)-b2 (aD n fD)
def hBd(n:Node):Nat->Bool
 | 0=>Me n (Kg n)
 | 1=>Vs n (Me n (Kg n))
 | _=>Vr n fD (Vs n (Me n (Kg n)))
theorem Vt(x:Bool):0<=b2 x/\b2 x<=1:=by cases x<;>decide
theorem hor(x y:Bool):(bif x then true else y)=(x||y):=by cases x<;>rfl
theorem hand(x y:Bool):(bif x then y else false)=(x&&y):=by cases x<;>rfl
set_option maxHeartbeats 1000000 in
theorem af4(n:Node)(hl:n.keys.length<=100000)(hf:∀k o,o.length<=1000000->(aO n k o).length<=1000000)(ht:(aJ n bR).kids.length<=1000000)(ht2:(bH (aJ n bR)).length<=1000000)(ht3:∀s∈bH (aJ n bR),s.length<=1000000):(uj n).isSome=true->gv (uj n)=hP n:=by
 refine part rfl (fun r=>r=hP n) (fun | .e y=>y=n | .h0 v0 v1 v2 v3 v4 _ _ v7 v8=>v0=Zt n/\v1=[dX,fD]/\v2=2/\v4=n/\∃i:Nat,v3=(i:Int)/\i<=2/\v7=⟨hFo n i,false⟩/\v8=⟨n,Kh n i,hBd n i⟩) rfl ?_;have c1:=Vt (aD n iV);have c2:=Vt (aD n bR);have c3:=Vt (aD n dX);have c4:=Vt (aD n fD);have c5:=Vt (aD n bT);rintro(y | ⟨v0,v1,v2,v3,v4,v5,v6,v7,v8⟩) hs
 ·cases hs;simp only[aM,bg,uh,aV];simp only[dQ];intro i1;have q:=uP ⟨n,(n.keys.length:Int),n.kind != 3⟩ iV false ⟨by dsimp only;omega,by dsimp only;omega⟩ i1;have e0:([100,105,115,97,98,108,101]:anP)=iV:=rfl;have e1:([116,101,115,116]:anP)=bR:=rfl;rw[e0,e1,q];dsimp only;have hbd:((n.kind != 3 || !bU n iV [])||Pp (aO n iV (Cc false)))=Kg n:=by
   unfold Kg;rw[hor,hor];rfl
  intro _;refine⟨fun hg i2 i3=>?_,fun hg=>?_⟩
  ·rw[alX _ ht ht2 ht3 i2]at i3 ⊢;rw[iC _ _ _ i3];refine⟨?_,rfl,rfl,trivial,0,rfl,by decide,?_,?_⟩
   ·unfold Zt;rw[hg];rfl
   ·show(⟨_,_⟩:form)=⟨OC n zn,false⟩
    unfold OC;rw[hg];rfl
   ·show(⟨_,_,_⟩:field)=⟨n,Kh n 0,hBd n 0⟩
    unfold Kh hBd Me;rw[<- hbd,hg,cO (by omega)];rfl
  ·refine⟨?_,rfl,rfl,trivial,0,rfl,by decide,?_,?_⟩
   ·unfold Zt;rw[hg,hor];simp;rfl
   ·show(⟨_,_⟩:form)=⟨OC n zn,false⟩
    unfold OC;rw[hg];rfl
   ·show(⟨_,_,_⟩:field)=⟨n,Kh n 0,hBd n 0⟩
    unfold Kh hBd Me;rw[<- hbd,hg];simp[b2]
 ·obtain⟨rfl,rfl,rfl,rfl,i,rfl,hi,rfl,rfl⟩:=hs;have hlt:∀j, -1000000<=Kh v4 j/\Kh v4 j<=1000000:=fun j=>by
   unfold Kh;split<;>omega
  simp only[aM,bg,uh,aV];by_cases h2:i<2
  ·simp only[dQ];refine⟨fun _ _ _=>?_,fun h=>absurd (by omega) h⟩;have hk:∃k,List.getD [dX,fD] ((i:Int)).toNat (Df.d:anP)=k/\((i=0/\k=dX)\/(i=1/\k=fD)):=by
    have:i=0\/i=1:=by omega
    rcases this with rfl | rfl
    ·exact⟨dX,rfl,.inl ⟨rfl,rfl⟩⟩
    ·exact⟨fD,rfl,.inr ⟨rfl,rfl⟩⟩
   obtain⟨k,hk,hik⟩:=hk;rw[hk];intro i1 i2;rw[gW ⟨v4,Kh v4 i,hBd v4 i⟩ k [49,115] (hlt i) i1]at i2 ⊢;dsimp only [l6]at i2 ⊢;rw[alU _ (hf k [49,115] (by decide)) i2];have e1:au ((i:Int)+1)=((i+1:Nat):Int):=by rw[cO (by omega)];omega
   rw[e1];have hlv:Kh v4 (i+1)=Kh v4 i-b2 (aD v4 k):=by rcases hik with⟨rfl,rfl⟩ | ⟨rfl,rfl⟩<;>rfl
   have hbv:hBd v4 (i+1)=(bif(bif(hBd v4 i || !bU v4 k [])then true else((yF (aO v4 k [49,115])).2 != (0:Int)))then true else(bif(k==([105,110,116,101,114,118,97,108]:anP))then((yF (aO v4 k [49,115])).1==(0:Int))else false)):=by
    rcases hik with⟨rfl,rfl⟩ | ⟨rfl,rfl⟩
    ·show Vs v4 (Me v4 (Kg v4))=_;unfold Vs Vr;rw[hor (Me v4 (Kg v4))];rfl
    ·show Vr v4 fD (Vs v4 (Me v4 (Kg v4)))=_;unfold Vr;rw[hor (Vs v4 (Me v4 (Kg v4))),hor (bif _ then _ else _),show(fD==([105,110,116,101,114,118,97,108]:anP))=false from rfl,cond_false,Bool.or_false];rfl
   have hfv:hFo v4 (i+1)=OD v4 k (hFo v4 i):=by rcases hik with⟨rfl,rfl⟩ | ⟨rfl,rfl⟩<;>rfl
   intro _;refine⟨fun hg i3 i4=>?_,fun hg=>?_⟩
   ·rw[aqj _ i3]at i4 ⊢;rw[iC _ _ _ i4];refine⟨trivial,trivial,trivial,trivial,i+1,rfl,by omega,?_,?_⟩
    ·rw[hfv];unfold OD;rw[hg];rfl
    ·rw[hlv,hbv]
   ·refine⟨trivial,trivial,trivial,trivial,i+1,rfl,by omega,?_,?_⟩
    ·rw[hfv];unfold OD;rw[hg];rfl
    ·rw[hlv,hbv]
  ·have:i=2:=by omega
   subst this;simp only[dQ];refine⟨fun h=>absurd h (by decide),fun _ i1=>?_⟩;have er:([114,101,116,114,105,101,115]:anP)=bT:=rfl;have q:=AY ⟨v4,Kh v4 2,hBd v4 2⟩ bT (hlt 2) (hf bT [48] (by decide)) i1;rw[er,q];dsimp only;have hc:(iQ (aO v4 bT [48]) 65536).1=GJ v4:=ae1 (aO v4 bT Vn) (most:=65536) (by decide);have hcb:=JB (aO v4 bT Vn) 65536 (by decide);have hb:bdR v4 (hBd v4 2)=bif yU ⟨v4,Kh v4 2,hBd v4 2⟩ bT then true else decide ((10:Int)<GJ v4):=by unfold bdR yU;rw[hc,show(iQ (aO v4 bT [48]) 65536).2=N7 (aO v4 bT Vn) 65536 from Vl (aO v4 bT Vn) (most:=65536) (by decide),hor (hBd v4 2)]
   have hPd:hP v4=aql (Zt v4) (aqk v4 (hFo v4 2)) (bdR v4 (hBd v4 2) || !(Kh v4 2-b2 (aD v4 bT)==0)):=rfl;rw[hc,hPd,hb];generalize yU ⟨v4,Kh v4 2,hBd v4 2⟩ bT=cb;have hT:=AZ (GJ v4) (by unfold GJ;omega);generalize (Kh v4 2-b2 (aD v4 bT)==0)=lz;generalize hFo v4 2=o;have hs:=Yg true;have p1:=iC ⟨⟨0,[],[],[]⟩,false⟩ iV (fH true);have p2:=iC ⟨o,false⟩ bT (dz (bq (GJ v4)));have d1:=iH ⟨bf zn iV (fH true),false⟩;have d2:=iH ⟨bf o bT (dz (bq (GJ v4))),false⟩;have d3:=iH ⟨o,false⟩;have ed:([100,105,115,97,98,108,101]:anP)=iV:=rfl;have hn:=jN;rw[ed];unfold aql aqk
   (repeat' (first|intro _|apply And.intro))<;>grind[rF,dS]
end
section
def J2:anP:=[111,110,45,102,97,105,108,117,114,101,58]
def aBQ(s:anP):Bool:=bif(bif(bif s==[110,111]then true else s==[97,108,119,97,121,115])then true else s==[117,110,108,101,115,115,45,115,116,111,112,112,101,100])then true else s==[111,110,45,102,97,105,108,117,114,101]
def vU(s:anP):Bool:=bif(bif decide ((11:Int)<=(s.length:Int))then s.take 11==J2 else false)then(bif WT (s.drop 11) 10==0 then decide ((0:Int)<am3 (s.drop 11) 10)else false)else aBQ s
def BR(s:anP):Bool:=WT s 8==0
def sZ(s:anP):Bool:=bif !(s==[])then decide ((s.length:Int)<=64)else false
def Ki(f:anP->Bool)(n:Node):Bool:=bif n.kind != 1 then true else !(f n.text)
def xO(f:anP->Bool)(n:Node):Node:=bif Ki f n then zn else n
def xP(f:anP->Bool)(n:Node):Int:=bif Ki f n then 10 else 0
def bI(s:anP):Node:=⟨1,s,[],[]⟩
def tX(l:List (anP)):Node:=⟨2,[],[],l.map bI⟩
theorem aFX(s p:anP):iF s p=some (p.isPrefixOf s):=by
 obtain⟨h1,h2⟩:=mo s p;cases h:iF s p with
 | none=>rw[h]at h1;cases h1
 | some r=>rw[h]at h2;exact congrArg some h2
theorem azz(s:anP):J2.isPrefixOf s=bif decide ((11:Int)<=(s.length:Int))then s.take 11==J2 else false:=by
 rw[Bool.eq_iff_iff,List.isPrefixOf_iff_prefix];by_cases h:(11:Int)<=(s.length:Int)
 ·rw[decide_eq_true h,cond_true,beq_iff_eq];exact⟨fun e=>(List.prefix_iff_eq_take.1 e).symm,fun e=>List.prefix_iff_eq_take.2 e.symm⟩
 ·rw[decide_eq_false h,cond_false];refine⟨fun e=>?_,fun e=>(by cases e)⟩;have:=e.length_le;have h2:J2.length=11:=rfl;omega
theorem Tx(s p:anP):(tF s p).isSome=true->gv (tF s p)=(bif p.isPrefixOf s then s.drop p.length else s,p.isPrefixOf s):=by
 have h:(jG s p).isSome=true->gv (jG s p)=(bif p.isPrefixOf s then s.drop p.length else s,p.isPrefixOf s):=by
  refine gQ rfl ?_;simp only[aM,bg,jF,aFX,aG,EB,aam];simp only[dQ]
  (repeat' (first|intro _|apply And.intro))<;>grind
 refine gQ rfl ?_;simp only[dQ,tC];intro i;rw[h i]
theorem Zu(s:anP)(hs:s.length<=1000000):(yj s).isSome=true->gv (yj s)=vU s:=by
 refine gQ rfl ?_;simp only[aM,bg,yh];rw[pZ];intro i;have e:([111,110,45,102,97,105,108,117,114,101,58]:anP)=J2:=rfl;rw[e]at i ⊢;rw[Tx s J2 i,azz];dsimp only;unfold vU;cases(bif decide ((11:Int)<=(s.length:Int))then s.take 11==J2 else false)with
 | false=>rfl
 | true =>simp only[cond_true];have e2:J2.length=11:=rfl;rw[e2,uw _ 10 (yx.2 ⟨⟨by rw[abP];omega,by decide⟩,by decide⟩)];rfl
theorem adr(s:anP)(hs:s.length<=1000000):(BK s).isSome=true->gv (BK s)=BR s:=by refine gQ rfl ?_;simp only[aM,BJ];rw[uw s 8 (yx.2 ⟨⟨hs,by decide⟩,by decide⟩)];rfl
theorem af5(s:anP):JU s=some (sZ s):=dB rfl rfl
theorem ads(n:Node)(hs:n.text.length<=1000000):(rY n).isSome=true->gv (rY n)=(xO vU n,xP vU n):=by
 have h:(lD n).isSome=true->gv (lD n)=(xO vU n,xP vU n):=by
  refine gQ rfl ?_;have h1:=Zu n.text hs;have h2:=jN;simp only[dQ,lC]
  (repeat' (first|intro _|apply And.intro))<;>grind[xO,xP,Ki,rF]
 refine gQ rfl ?_;simp only[dQ,BI];intro i;rw[h i]
theorem ajy(n:Node)(hs:n.text.length<=1000000):(wJ n).isSome=true->gv (wJ n)=(xO BR n,xP BR n):=by
 have h:(mJ n).isSome=true->gv (mJ n)=(xO BR n,xP BR n):=by
  refine gQ rfl ?_;have h1:=adr n.text hs;have h2:=jN;simp only[dQ,mI]
  (repeat' (first|intro _|apply And.intro))<;>grind[xO,xP,Ki,rF]
 refine gQ rfl ?_;simp only[dQ,Gf];intro i;rw[h i]
theorem alY(n:Node):(zi n).isSome=true->gv (zi n)=(xO sZ n,xP sZ n):=by
 have h:(nD n).isSome=true->gv (nD n)=(xO sZ n,xP sZ n):=by
  refine gQ rfl ?_;have h2:=jN;simp only[aM,bg,nC,af5,dS];simp only[dQ]
  (repeat' (first|intro _|apply And.intro))<;>grind[xO,xP,Ki,rF]
 refine gQ rfl ?_;simp only[dQ,IJ];intro i;rw[h i]
theorem abE(l:List (anP))(hl:l.length<=1000000):(F9 l).isSome=true->gv (F9 l)=tX l:=by
 refine part rfl (fun r=>r=tX l) (fun | .e y=>y=l | .h0 v0 v1 v2 _ _ v5 v6 v7=>v0=l/\v1=(l.length:Int)/\0<=v2/\v2<=v1/\v5=2/\v6=[]/\v7++(l.drop v2.toNat).map bI=l.map bI) rfl ?_;rintro(y | ⟨v0,v1,v2,v3,v4,v5,v6,v7⟩) hs
 ·cases hs;simp only[dQ,Bz];exact⟨trivial,trivial,by decide,by omega,trivial,trivial,rfl⟩
 ·obtain⟨rfl,rfl,h1,h2,rfl,rfl,h3⟩:=hs;simp only[dQ,Bz];have e1:=@cO (v2+1);have e2:∀s,bI s=dz s:=fun _=>rfl
  by_cases hi:v2<(v0.length:Int)
  ·rw[fJ v0 Df.d h1 hi,ae6]at h3
   (repeat' (first|intro _|apply And.intro))<;>grind[abJ,afa]
  ·rw[iN v0 (by omega),aha,abR]at h3
   (repeat' (first|intro _|apply And.intro))<;>grind[tX]
end
section
def iO(b:Int):anP->Nat
 | []=>0
 | c::t=>bif(((c.toNat:Nat):Int)==b)then 0 else iO b t+1
theorem asZ(b:Int):∀t,iO b t<=t.length
 | []=>abH _
 | c::t=>by
  unfold iO;have:=asZ b t;cases(((c.toNat:Nat):Int)==b)with
  | true=>rw[cond_true];exact aas _
  | false=>rw[cond_false,List.length_cons];omega
def yX(s:anP):anP:=s.take (iO 46 s)
def uQ(s:anP):anP:=s.drop (iO 46 s+1)
def SI(s:anP):Bool:=decide (iO 46 s<s.length)
def aBR(t:anP):UInt8:=t.getD (t.length-1) 0
def Vu(t:anP):Bool:=bif(bif decide ((t.length:Int)<1)then true else decide ((3:Int)<(t.length:Int)))then true else(((aBR t).toNat:Nat):Int)==48
def Zv(t:anP):anP:=t++List.replicate (3-t.length) 48
def Mf(h t:anP):Int×Int:=bif !(t.all eP)then(0,3)else bif !(eF h)then(0,3)else
 bif(bif decide ((9007199254740:Int)<(bC h 0:Int))then true else decide ((9007199254740992:Int)<(bC h 0:Int)*1000+(bC (Zv t) 0:Int)))then(0,9)else((bC h 0:Int)*1000+(bC (Zv t) 0:Int),0)
def GK(s:anP):Int×Int:=bif(bif SI s then Vu (uQ s)else false)then(0,3)else Mf (yX s) (uQ s)
def avY(s:anP):Int:=(GK s).1
def avZ(s:anP):Int:=(GK s).2
theorem ajz{s:anP}(h:SI s=false):uQ s=[]:=by unfold SI at h;unfold uQ;exact aa7 (by have:=of_decide_eq_false h;omega)
theorem anp{t:anP}(h:Vu t=false):t.length<=3:=by
 unfold Vu at h;by_cases h1:(3:Int)<(t.length:Int)
 ·rw[dT h1]at h;cases hq:decide ((t.length:Int)<1)<;>rw[hq]at h<;>cases h
 ·omega
theorem azA(s:anP):(yX s).length<=s.length:=by unfold yX;rw[aeb];omega
theorem axe{t:anP}(h:t.length<=1000000):(decide ((0:Int)<=au ((t.length:Int)-1))&&decide (au ((t.length:Int)-1)<(t.length:Int)) || !(!(bif decide ((t.length:Int)<1)then true else decide ((3:Int)<(t.length:Int)))))=true /\
  (bif(bif decide ((t.length:Int)<1)then true else decide ((3:Int)<(t.length:Int)))then true else((List.getD t (Int.toNat (au ((t.length:Int)-1))) 0).toNat:Int)==48)=Vu t:=by
 unfold Vu aBR;by_cases h1:(t.length:Int)<1
 ·rw[dT h1];exact⟨by simp,rfl⟩
 ·rw[dF h1,aU (by omega) (by omega),dT (show(0:Int)<=(t.length:Int)-1 by omega),dT (show(t.length:Int)-1<(t.length:Int) by omega),show((t.length:Int)-1).toNat=t.length-1 by omega];exact⟨rfl,rfl⟩
theorem aDB{c:UInt8}(h:eP c=true):au (IntKind.wrap .u8 (((c.toNat:Nat):Int)-48))=((c.toNat-48:Nat):Int):=by have:=wP.1 h;rw[aw8 (by omega) (by omega),aU (by omega) (by omega)];omega
def Mg:anP->Nat->Int->Option Int
 | _,0,p=>some p
 | [],k+1,p=>Mg [] k (p*10)
 | c::t,k+1,p=>bif eP c then Mg t k (p*10+((c.toNat-48:Nat):Int))else none
theorem ajA:∀(k:Nat) (p:Nat),Mg [] k p=some (bC (List.replicate k 48) p:Int)
 | 0,p=>rfl
 | k+1,p=>by rw[Mg,show(p:Int)*10=((p*10:Nat):Int) by omega,ajA k,List.replicate_succ];rfl
theorem anq:∀(t:anP) (k p:Nat),t.length<=k->Mg t k p=bif t.all eP then some (bC (t++List.replicate (k-t.length) 48) p:Int)else none
 | [],k,p,_=>ajA k p
 | c::t,0,p,h=>by simp at h
 | c::t,k+1,p,h=>by
  rw[Mg,aeQ];cases eP c with
  | false=>rfl
  | true =>
   simp only[cond_true,aeP];have hl:t.length<=k:=by simp only[List.length_cons]at h;omega
   rw[show(p:Int)*10+((c.toNat-48:Nat):Int)=((p*10+(c.toNat-48):Nat):Int) by omega,anq t k _ hl,List.length_cons,show k+1-(t.length+1)=k-t.length by omega];rfl
def BS(s:anP):Bool:=bif avZ s==0 then decide ((0:Int)<avY s)else false
theorem af6(s:anP)(hs:s.length<=1000000):(DX s).isSome=true->gv (DX s)=(yX s,uQ s,SI s):=by
 refine part rfl (fun r=>r=(yX s,uQ s,SI s)) (fun | .e y=>y=s | .h0 v0 v1 v2=>v0=s/\v1=(s.length:Int)/\0<=v2/\v2<=v1/\(iO 46 s:Int)=v2+iO 46 (s.drop v2.toNat)) rfl ?_;rintro(y | ⟨v0,v1,v2⟩) hs'
 ·cases hs';simp only[dQ,um];exact⟨trivial,trivial,by decide,by omega,by show _=(0:Int)+_;rw[Int.zero_add];rfl⟩
 ·obtain⟨rfl,rfl,h1,h2,h3⟩:=hs';simp only[dQ,um];have e1:=@cO (v2+1);by_cases hi:v2<(v0.length:Int)
  ·rw[fJ v0 0 h1 hi,iO]at h3;refine⟨fun _ _ _=>?_,fun h=>absurd hi h⟩;generalize v0.getD v2.toNat 0=c at h3 ⊢;rw[e1 (by omega),EB];refine⟨fun hc _ _=>?_,fun hc=>?_⟩
   ·rw[show((c.toNat:Int)==46)=true by simpa using hc,cond_true]at h3;have hf:iO 46 v0=v2.toNat:=by omega
    unfold yX uQ SI cut;rw[hf,show(v2+1).toNat=v2.toNat+1 by omega,decide_eq_true (by omega)];rfl
   ·rw[show((c.toNat:Int)==46)=false from hc,cond_false]at h3;exact⟨trivial,trivial,by omega,by omega,by omega⟩
  ·rw[iN v0 (by omega),iO]at h3;refine⟨fun h=>absurd h hi,fun _=>?_⟩;have hf:iO 46 v0=v0.length:=by omega
   unfold yX uQ SI;rw[hf,List.take_length,aa7 (by omega),decide_eq_false (by omega)]
def Zw(h:anP):Option Int->Int×Int
 | none=>(0,3)
 | some p=>bif !(eF h)then(0,3)else bif(bif decide ((9007199254740:Int)<(bC h 0:Int))then true else decide ((9007199254740992:Int)<(bC h 0:Int)*1000+p))then(0,9)else((bC h 0:Int)*1000+p,0)
theorem as0(h t:anP)(ht:t.length<=3):Mf h t=Zw h (Mg t 3 0):=by have:=anq t 3 0 ht;rw[show((0:Nat):Int)=0 from rfl]at this;rw[this];unfold Mf;cases t.all eP<;>rfl
set_option maxHeartbeats 1000000 in
theorem af7(s:anP)(hs:s.length<=1000000):(DY s).isSome=true->gv (DY s)=GK s:=by
 refine part rfl (fun r=>r=GK s) (fun | .e y=>y=s | .h0 v0 v1 v2 v3=>v0=yX s/\v1=uQ s/\∃i:Nat,v3=(i:Int)/\i<=3/\0<=v2/\v2<10 ^ i/\Zw (yX s) (Mg ((uQ s).drop i) (3-i) v2)=GK s) rfl ?_;have hA:=azA s;have hB:(uQ s).length<=s.length:=by unfold uQ;rw[abP];omega
 rintro(y | ⟨v0,v1,v2,v3⟩) hs'
 ·cases hs';simp only[aM,bg,fV,uo];rw[pZ];intro i;rw[af6 s hs i];dsimp only;obtain⟨l1,l2⟩:=@axe (uQ s) (by omega);rw[l1,l2,ak];unfold GK;cases hc:SI s with
  | false =>rw[cond_false,cond_false,cond_false];refine⟨rfl,rfl,0,rfl,by decide,by decide,by decide,?_⟩;rw[as0 _ _ (by rw[ajz hc];exact aas _)];rfl
  | true =>
   rw[cond_true,cond_true];cases hb:Vu (uQ s)with
   | true=>rfl
   | false =>rw[cond_false,cond_false];refine⟨rfl,rfl,0,rfl,by decide,by decide,by decide,?_⟩;rw[as0 _ _ (anp hb)];rfl
 ·obtain⟨rfl,rfl,i,rfl,h1,h2,h3,h4⟩:=hs';have hp:(10:Int) ^ i<=1000:=by
   have:i=0\/i=1\/i=2\/i=3:=by omega
   rcases this with rfl | rfl | rfl | rfl<;>decide
  simp only[aM,bg,fV,uo];by_cases hi:i<3
  ·have e1:au ((i:Int)+1)=((i+1:Nat):Int):=by rw[cO (by omega)];omega
   have e2:au (v2*10)=v2*10:=cO (by omega);have e3:(10:Int) ^ (i+1)=10 ^ i*10:=Int.pow_succ ..;rw[decide_eq_true (show(i:Int)<3 by omega),cond_true,e1,e2];rw[show 3-i=(3-(i+1))+1 by omega]at h4;by_cases hl:((uQ s).length:Int)<=(i:Int)
   ·rw[decide_eq_true hl,cond_true];rw[aa7 (by omega),Mg]at h4;refine⟨trivial,trivial,i+1,rfl,by omega,by omega,by omega,?_⟩;rw[aa7 (by omega)];exact h4
   ·rw[decide_eq_false hl,cond_false,pS];intro _ _;have hc:=fJ (uQ s) 0 (i:=(i:Int)) (by omega) (by omega);rw[aam,show((i:Int)+1).toNat=i+1 by omega]at hc;rw[hc,Mg]at h4;rw[aam];generalize (uQ s).getD i 0=c at h4 ⊢;simp only[dQ];intro _;rw[Pq];cases hd:eP c with
    | false =>rw[hd]at h4;exact⟨fun _=>h4,fun h=>by cases h⟩
    | true =>rw[hd,cond_true]at h4;refine⟨fun h=>(by cases h),fun _ _=>?_⟩;have hdd:=wP.1 hd;rw[aDB hd,cO (by omega)];exact⟨trivial,trivial,i+1,rfl,by omega,by omega,by omega,h4⟩
  ·have:i=3:=by omega
   subst this;have h3:v2<1000:=h3;rw[show decide (((3:Nat):Int)<3)=false from rfl,cond_false,SF _ _ (yx.2 ⟨⟨by omega,by decide⟩,by decide⟩),count_eq _ (by decide),aG];rw[<- h4];show(bif _ then _ else _);unfold fM;cases hw:eF (yX s)with
   | false =>show _=Zw (yX s) (some v2);unfold Zw;rw[hw];rfl
   | true =>
    have hq:Zw (yX s) (Mg (List.drop 3 (uQ s)) (3-3) v2)=bif(bif decide ((9007199254740:Int)<(bC (yX s) 0:Int))then true else decide ((9007199254740992:Int)<(bC (yX s) 0:Int)*1000+v2))then(0,9)else((bC (yX s) 0:Int)*1000+v2,0):=by show Zw (yX s) (some v2)=_;unfold Zw;rw[hw];rfl
    rw[hq,abI,cond_false];by_cases hM:(9007199254740:Int)<(bC (yX s) 0:Int)
    ·rw[Ez hM,decide_eq_true hM];rfl
    ·rw[EA hM,decide_eq_false hM];have w1:au ((bC (yX s) 0:Int)*1000)=(bC (yX s) 0:Int)*1000:=cO (by omega);have w2:au (9007199254740992-v2)=9007199254740992-v2:=cO (by omega);have w3:au ((bC (yX s) 0:Int)*1000+v2)=(bC (yX s) 0:Int)*1000+v2:=cO (by omega);rw[w1,w2,w3];simp only[dQ]
     (repeat' (first|intro _|apply And.intro))<;>grind
end
section
def SK(s:anP):Bool:=bif s==[107]then true else s==[107,98]
def SL(s:anP):Bool:=bif s==[109]then true else s==[109,98]
def SN(s:anP):Bool:=bif s==[103]then true else s==[103,98]
def SQ(s:anP):Bool:=bif s==[]then true else s==[98]
def yY(s:anP):Int:=bif SQ s then 0 else bif SK s then 1 else bif SL s then 2 else bif SN s then 3 else 0
def GL(s:anP):Bool:=bif SQ s then true else bif SK s then true else bif SL s then true else SN s
theorem agH(s:anP):0<=yY s/\yY s<=3:=by unfold yY;cases SQ s<;>cases SK s<;>cases SL s<;>cases SN s<;>decide
def BU(s:anP):Nat->Nat
 | 0=>0
 | n+1=>bif eP (s.getD n 0)then n+1 else BU s n
def j5(s:anP):Nat:=BU s s.length
theorem Zx(s:anP):∀n,BU s n<=n
 | 0=>abH _
 | n+1=>by
  unfold BU;have:=Zx s n;cases eP (s.getD n 0)with
  | true=>exact abH _
  | false=>rw[cond_false];omega
theorem as1(s:anP):j5 s<=s.length:=Zx s _
def JG(s:anP):Int×Int:=bif !(GL (s.drop (j5 s)))then(0,3)else
 ((fM (s.take (j5 s)) (1125899906842624 / 2 ^ (Int.toNat (10*yY (s.drop (j5 s)))))).1*2 ^ (Int.toNat (10*yY (s.drop (j5 s)))),(fM (s.take (j5 s)) (1125899906842624 / 2 ^ (Int.toNat (10*yY (s.drop (j5 s)))))).2)
def kJ(s:anP):Int:=(JG s).1
def Yj(s:anP):Int:=(JG s).2
theorem Nu{u:Int}(h0:0<=u)(h1:u<=3):(u=0/\(2:Int) ^ (Int.toNat (10*u))=1)\/(u=1/\(2:Int) ^ (Int.toNat (10*u))=1024)\/(u=2/\(2:Int) ^ (Int.toNat (10*u))=1048576)\/(u=3/\(2:Int) ^ (Int.toNat (10*u))=1073741824):=by
 have:u=0\/u=1\/u=2\/u=3:=by omega
 rcases this with rfl | rfl | rfl | rfl<;>simp<;>decide
theorem azB(n:Int):bits .and .i64 n 1023=n%1024:=by
 have h3:(BitVec.ofInt 64 1023).toNat=2 ^ 10-1:=by decide
 have key:(BitVec.ofInt 64 n &&& BitVec.ofInt 64 1023).toNat=(n%((2 ^ 64:Nat):Int)).toNat%2 ^ 10:=by rw[BitVec.toNat_and,BitVec.toNat_ofInt,h3,Nat.and_two_pow_sub_one_eq_mod]
 show IntKind.i64.wrap ((BitVec.ofInt 64 n &&& BitVec.ofInt 64 1023).toNat:Nat)=n%1024;rw[key,IntKind.wrap_i64];omega
def kM(n:Int):Int:=bif(bif n==0 then true else n%1024 != 0)then 0 else bif n%1048576 != 0 then 1 else bif n%1073741824 != 0 then 2 else 3
theorem abF(n:Int):0<=kM n/\kM n<=3:=by unfold kM;cases(bif n==0 then true else n%1024 != 0)<;>cases n%1048576 != 0<;>cases n%1073741824 != 0<;>decide
def sfx(u:Int):anP:=bif u==0 then[]else bif u==1 then[107]else bif u==2 then[109]else[103]
def Bd(n:Int):anP:=bif(bif decide (n<0)then true else decide ((1125899906842624:Int)<n))then[]else bq (n / 2 ^ (Int.toNat (10*kM n)))++sfx (kM n)
def Kj(n:Node):Bool:=bif(bif n.kind != 1 then true else Yj n.text != 0)then true else kJ n.text==0
def byV(n:Node):Node:=bif Kj n then zn else bI (Bd (kJ n.text))
def byE(n:Node):Int:=bif Kj n then 10 else 0
theorem u8e(c k:UInt8):((c.toNat:Int)=(k.toNat:Int))↔c=k:=by rw[<- UInt8.toNat_inj];omega
theorem alZ(s:anP):(CU s).isSome=true->gv (CU s)=(yY s,GL s):=by
 refine gQ rfl ?_;simp only[dQ,I6]
 match s with
 | []=>((repeat' (first|intro _|apply And.intro))<;>grind[yY,GL,SQ,SK,SL,SN])
 | [a] =>
  have h:([a].length:Int)=1:=rfl;rw[h]
  (repeat' (first|intro _|apply And.intro))<;>grind[yY,GL,SQ,SK,SL,SN]
 | [a,b] =>
  have h:([a,b].length:Int)=2:=rfl;have g0:List.getD [a,b] (Int.toNat 0) 0=a:=rfl;have g1:List.getD [a,b] (Int.toNat 1) 0=b:=rfl;have c1:cut [a,b] 0 1=[a]:=rfl;have h1:((a.toNat:Int)=98)↔a=98:=u8e a 98;have h2:((b.toNat:Int)=98)↔b=98:=u8e b 98;rw[h,g0,g1,c1]
  (repeat' (first|intro _|apply And.intro))<;>grind[yY,GL,SQ,SK,SL,SN]
 | a::b::c::t =>
  have h:((a::b::c::t).length:Int)≠2:=by simp only[List.length_cons];omega
  (repeat' (first|intro _|apply And.intro))<;>grind[yY,GL,SQ,SK,SL,SN]
theorem ajD(s:anP)(hs:s.length<=1000000):(Gg s).isSome=true->gv (Gg s)=JG s:=by
 refine part rfl (fun r=>r=JG s) (fun | .e y=>y=s | .h0 v0 v1=>v0=s/\0<=v1/\v1<=(s.length:Int)/\j5 s=BU s v1.toNat) rfl ?_;rintro(y | ⟨v0,v1⟩) hs'
 ·cases hs';simp only[aM,wL];exact⟨trivial,by omega,by omega,by rw[aam];rfl⟩
 ·obtain⟨rfl,h1,h2,h3⟩:=hs';obtain⟨n,rfl⟩:∃n:Nat,v1=(n:Int):=⟨v1.toNat,by omega⟩
  rw[aam]at h3;simp only[aM,bg,wL];rw[pK,pK];intro _ _;have hcond:(bif(decide ((0:Int)<(n:Int)))then(bif(decide ((((List.getD v0 (Int.toNat (au ((n:Int)-(1:Int)))) 0).toNat:Nat):Int)<(48:Int)))then true else(decide ((57:Int)<(((List.getD v0 (Int.toNat (au ((n:Int)-(1:Int)))) 0).toNat:Nat):Int))))else false)=(decide (0<n) && !(eP (v0.getD (n-1) 0))):=by
   by_cases hn:0<n
   ·rw[decide_eq_true (show(0:Int)<(n:Int) by omega),cond_true,cO (by omega),show((n:Int)-1).toNat=n-1 by omega,Pq,decide_eq_true hn,aeP]
   ·rw[decide_eq_false (show ¬ (0:Int)<(n:Int) by omega),cond_false,decide_eq_false hn,ajJ]
  rw[hcond];cases hc:(decide (0<n) && !(eP (v0.getD (n-1) 0)))with
  | true =>
   rw[cond_true];rw[abG,abK,ajv]at hc;obtain⟨m,rfl⟩:∃m,n=m+1:=⟨n-1,by omega⟩
   have e:au (((m+1:Nat):Int)-1)=(m:Int):=by rw[cO (by omega)];omega
   rw[e];refine⟨trivial,by omega,by omega,?_⟩;rw[aam,h3,BU,show v0.getD m 0=v0.getD (m+1-1) 0 from rfl,hc.2];rfl
  | false =>
   rw[cond_false,EB,aam];have hls:j5 v0=n:=by
    rw[h3]
    match n,hc with
    | 0,_=>rfl
    | m+1,hc =>
     rw[decide_eq_true (by omega),aeP]at hc;have:eP (v0.getD m 0)=true:=by simpa using hc
     rw[BU,this];rfl
   have hct:cut v0 0 (n:Int)=v0.take n:=by unfold cut;rfl
   obtain⟨u0,u3⟩:=agH (v0.drop n);have hw:au (10*yY (v0.drop n))=10*yY (v0.drop n):=cO (by omega);rw[pK,pZ];intro _ i;rw[alZ _ i];dsimp only;rw[hw,hct];unfold JG;rw[hls];cases GL (v0.drop n)with
   | false=>rfl
   | true =>
    rw[abI,cond_false,cond_false];have hm:(0:Int)<=1125899906842624 / 2 ^ (Int.toNat (10*yY (v0.drop n)))/\(1125899906842624:Int) / 2 ^ (Int.toNat (10*yY (v0.drop n)))<=9007199254740992:=by rcases Nu u0 u3 with⟨_,h⟩ | ⟨_,h⟩ | ⟨_,h⟩ | ⟨_,h⟩<;>rw[h]<;>decide
    rw[uw _ _ (yx.2 ⟨⟨by rw[aeb];omega,hm.1⟩,hm.2⟩),count_eq _ hm.1];simp only[dQ];intro _ _ _ _;have hb:=JB (v0.take n) _ hm.1;rw[dS];have hx:au ((fM (v0.take n) (1125899906842624 / 2 ^ (Int.toNat (10*yY (v0.drop n))))).1*2 ^ (Int.toNat (10*yY (v0.drop n))))=(fM (v0.take n) (1125899906842624 / 2 ^ (Int.toNat (10*yY (v0.drop n))))).1*2 ^ (Int.toNat (10*yY (v0.drop n))):=by have hb':0<=(fM (v0.take n) (1125899906842624 / 2 ^ (Int.toNat (10*yY (v0.drop n))))).1/\(fM (v0.take n) (1125899906842624 / 2 ^ (Int.toNat (10*yY (v0.drop n))))).1<=1125899906842624 / 2 ^ (Int.toNat (10*yY (v0.drop n))):=hb;apply cO;rcases Nu u0 u3 with⟨_,h⟩ | ⟨_,h⟩ | ⟨_,h⟩ | ⟨_,h⟩<;>rw[h]at hb' ⊢ <;> omega
    rw[hx]
theorem ajE(x:Int)(h:0<=x/\x<=1125899906842624):(nK x).isSome=true->gv (nK x)=kM x:=by
 refine part rfl (fun r=>r=kM x) (fun | .e y=>y=x | .h0 v0 v1=>(v1=0/\v0=x)\/(v1=1/\v0=x / 1024/\x≠0/\x%1024=0)\/(v1=2/\v0=x / 1048576/\x≠0/\x%1048576=0)\/(v1=3/\v0=x / 1073741824/\x≠0/\x%1073741824=0)) rfl ?_;rintro(y | ⟨v0,v1⟩) hs'
 ·cases hs';exact .inl ⟨rfl,rfl⟩
 ·simp only[aM,bg,Ay,azB];have e2:(2:Int) ^ (Int.toNat 10)=1024:=by decide
  rw[e2];simp only[dQ];unfold kM;rcases hs' with⟨rfl,rfl⟩ | ⟨rfl,rfl,h1,h2⟩ | ⟨rfl,rfl,h1,h2⟩ | ⟨rfl,rfl,h1,h2⟩
  ·have w:au (0+1)=1:=rfl;rw[w]
   (repeat' (first|intro _|apply And.intro))<;>grind
  ·have w:au (1+1)=2:=rfl;have a1:x / 1024 / 1024=x / 1048576:=by omega
   rw[w]
   (repeat' (first|intro _|apply And.intro))<;>grind
  ·have w:au (2+1)=3:=rfl;have a1:x / 1048576 / 1024=x / 1073741824:=by omega
   have a2:x%1024=0:=by omega
   rw[w]
   (repeat' (first|intro _|apply And.intro))<;>grind
  ·have a2:x%1024=0:=by omega
   have a3:x%1048576=0:=by omega
   (repeat' (first|intro _|apply And.intro))<;>grind
theorem al0(x:Int):(I8 x).isSome=true->gv (I8 x)=Bd x:=by
 refine gQ rfl ?_;simp only[aM,bg,I7];unfold Bd;cases hb:(bif decide (x<0)then true else decide ((1125899906842624:Int)<x))with
 | true=>rfl
 | false =>
  have h0:0<=x/\x<=1125899906842624:=by
   by_cases h:x<0
   ·rw[decide_eq_true h]at hb;cases hb
   ·rw[decide_eq_false h,cond_false]at hb;have:=of_decide_eq_false hb;omega
  rw[cond_false,cond_false,pZ];intro i;rw[ajE x h0 i];obtain⟨u0,u3⟩:=abF x;rw[cO (n:=10*kM x) (by omega)];have hd:0<=x / 2 ^ (Int.toNat (10*kM x))/\x / 2 ^ (Int.toNat (10*kM x))<=x:=by rcases Nu u0 u3 with⟨_,h⟩ | ⟨_,h⟩ | ⟨_,h⟩ | ⟨_,h⟩<;>rw[h]<;>omega
  have hs:List.getD ([([]:anP),([107]:anP),([109]:anP),([103]:anP)]:List (anP)) (Int.toNat (kM x)) (dflt Ty.str)=sfx (kM x):=by
   have:kM x=0\/kM x=1\/kM x=2\/kM x=3:=by omega
   rcases this with h | h | h | h<;>rw[h]<;>rfl
  rw[hs];simp only[dQ];intro _ i2 _ _;rw[AZ _ (by omega) i2]
theorem ajF(n:Node)(hs:n.text.length<=1000000):(wM n).isSome=true->gv (wM n)=(byV n,byE n):=by
 refine gQ rfl ?_;have h1:=ajD n.text hs;have h2:=al0 (kJ n.text);have h3:=jN;have h4:kJ n.text=(JG n.text).1:=rfl;have h5:Yj n.text=(JG n.text).2:=rfl;have h6:∀s,bI s=dz s:=fun _=>rfl
 simp only[dQ,Gi]
 (repeat' (first|intro _|apply And.intro))<;>grind[byV,byE,Kj,rF]
theorem al1(n:Node)(hs:n.text.length<=1000000):(zu n).isSome=true->gv (zu n)=(xO BS n,xP BS n):=by
 have h0:(D5 n.text).isSome=true->gv (D5 n.text)=BS n.text:=by refine gQ rfl ?_;simp only[dQ,DZ];intro i;rw[af7 _ hs i];rfl
 have h:(nJ n).isSome=true->gv (nJ n)=(xO BS n,xP BS n):=by
  refine gQ rfl ?_;have h2:=jN;simp only[dQ,nI]
  (repeat' (first|intro _|apply And.intro))<;>grind[xO,xP,Ki,rF]
 refine gQ rfl ?_;simp only[dQ,I5];intro i;rw[h i]
end
section
def tq(c:Int):Bool:=bif c==32 then true else c==9
theorem drop_at{s:anP}{a:Nat}(h:a<s.length):s.drop a=s.getD a 0::s.drop (a+1):=by rw[List.drop_eq_getElem_cons h,List.getD,aac h];rfl
def ow:anP->Option (anP×Nat)
 | []=>none
 | [c]=>bif(((c.toNat:Nat):Int)==34)then some ([],1)else none
 | c::d::t=>bif(((c.toNat:Nat):Int)==34)then some ([],1)else bif(((c.toNat:Nat):Int)==92)then
   (ow t).map fun q=>((bif(bif(((d.toNat:Nat):Int)!=34)then(((d.toNat:Nat):Int)!=92)else false)then[c]else[])++d::q.1,q.2+2)
   else(ow (d::t)).map fun q=>(c::q.1,q.2+1)
theorem adt:∀(t:anP) (q:anP×Nat),ow t=some q->q.2<=t.length/\q.1.length+1<=q.2
 | [],q,h=>by cases h
 | [c],q,h=>by
  unfold ow at h;cases hc:(((c.toNat:Nat):Int)==34)with
  | true=>rw[hc]at h;cases h;exact⟨abH _,abH _⟩
  | false=>rw[hc]at h;cases h
 | c::d::t,q,h=>by
  unfold ow at h;cases hc:(((c.toNat:Nat):Int)==34)with
  | true=>rw[hc]at h;cases h;exact⟨by simp only[List.length_cons];omega,abH _⟩
  | false =>
   rw[hc,cond_false]at h;cases h2:(((c.toNat:Nat):Int)==92)with
   | true =>
    rw[h2,cond_true]at h;cases ht:ow t with
    | none=>rw[ht]at h;cases h
    | some p =>rw[ht]at h;cases h;have:=adt t p ht;refine⟨by simp only[List.length_cons];omega,?_⟩;simp only[List.length_append,List.length_cons];cases(bif(((d.toNat:Nat):Int)!=34)then(((d.toNat:Nat):Int)!=92)else false)<;>simp only[cond_true,cond_false,List.length_cons,List.length_nil]<;>omega
   | false =>
    rw[h2,cond_false]at h;cases ht:ow (d::t)with
    | none=>rw[ht]at h;cases h
    | some p =>rw[ht]at h;cases h;have:=adt (d::t) p ht;simp only[List.length_cons]at this ⊢;omega
def Mh:anP->Option (anP×Nat)
 | []=>none
 | c::t=>bif(((c.toNat:Nat):Int)==92)then(match t with
   | []=>none
   | d::_=>some ([d],2))
  else bif(((c.toNat:Nat):Int)==39)then(bif decide (iO 39 t<t.length)then some (t.take (iO 39 t),iO 39 t+2)else none)
  else bif(((c.toNat:Nat):Int)!=34)then some ([c],1)
  else(ow t).map fun q=>(q.1,q.2+1)
theorem as2{t:anP}{q:anP×Nat}(h:Mh t=some q):q.2<=t.length/\1<=q.2/\q.1.length<=q.2:=by
 cases t with
 | nil=>cases h
 | cons c t =>
  simp only[Mh]at h;cases h1:(((c.toNat:Nat):Int)==92)with
  | true =>
   rw[h1,cond_true]at h;cases t with
   | nil=>cases h
   | cons d t=>cases h;simp
  | false =>
   rw[h1,cond_false]at h;cases h2:(((c.toNat:Nat):Int)==39)with
   | true =>
    rw[h2,cond_true]at h;by_cases hf:iO 39 t<t.length
    ·rw[dT hf]at h;cases h;simp only[List.length_cons,aeb];omega
    ·rw[dF hf]at h;cases h
   | false =>
    rw[h2,cond_false]at h;cases h3:(((c.toNat:Nat):Int)!=34)with
    | true=>rw[h3]at h;cases h;simp
    | false =>
     rw[h3,cond_false]at h;cases ht:ow t with
     | none=>rw[ht]at h;cases h
     | some p =>rw[ht]at h;cases h;have:=adt t p ht;simp only[List.length_cons];omega
def ku:Nat->anP->anP->Bool->List (anP)->Option (List (anP))
 | 0,_,_,_,_=>none
 | _+1,[],w,b,out=>some (bif b then out++[w]else out)
 | n+1,c::t,w,b,out=>bif tq ((c.toNat:Nat):Int)then ku n t (bif b then[]else w) false (bif b then out++[w]else out)
   else(match Mh (c::t)with
    | none=>none
    | some q=>ku n ((c::t).drop q.2) (w++q.1) true out)
def qz(s:anP):Option (List (anP)):=ku (s.length+1) s [] false []
def Vv:Option (List (anP))->List (anP)
 | none=>[]
 | some l=>bif decide ((32:Int)<(l.length:Int))then[]else l
def adu:Option (List (anP))->Int
 | none=>3
 | some l=>bif decide ((32:Int)<(l.length:Int))then 9 else 0
def RU(s:anP):List (anP):=Vv (qz s)
def ajG(s:anP):Int:=adu (qz s)
theorem RV(o:Option (List (anP))):(Vv o).length<=32:=by
 cases o with
 | none=>exact aas _
 | some l =>
  simp only[Vv];by_cases h:(32:Int)<(l.length:Int)
  ·rw[dT h];exact aas _
  ·rw[dF h,cond_false];omega
theorem Nv{n:Nat}{s:anP}{i:Nat}(hi:s.length<=i)(w:anP)(b:Bool)(out:List (anP)):ku (n+1) (s.drop i) w b out=some (bif b then out++[w]else out):=by rw[aa7 hi];rfl
theorem Jg{n:Nat}{s:anP}{i:Nat}(hi:i<s.length)(hb:tq (((s.getD i 0).toNat:Nat):Int)=true)(w:anP)(b:Bool)(out:List (anP)) :
  ku (n+1) (s.drop i) w b out=ku n (s.drop (i+1)) (bif b then[]else w) false (bif b then out++[w]else out):=by
 rw[drop_at hi,ku,hb,cond_true]
theorem Yk{n:Nat}{s:anP}{i:Nat}(hi:i<s.length)(hb:tq (((s.getD i 0).toNat:Nat):Int)=false)(w:anP)(b:Bool)(out:List (anP)) :
  ku (n+1) (s.drop i) w b out=(match Mh (s.drop i)with
   | none=>none
   | some q=>ku n (s.drop (i+q.2)) (w++q.1) true out):=by
 rw[drop_at hi,ku,hb,cond_false,<- drop_at hi];cases Mh (s.drop i)with
 | none=>rfl
 | some q=>simp only[akr]
theorem as3(b:UInt8):∀t:anP,Lib.indexByte t b=if iO ((b.toNat:Nat):Int) t<t.length then(iO ((b.toNat:Nat):Int) t:Int)else -1
 | []=>rfl
 | c::t=>by
  have ih:=as3 b t;have hl:=asZ ((b.toNat:Nat):Int) t;unfold Lib.indexByte iO;by_cases h:c=b
  ·subst h;rw[iX rfl,cond_true,if_pos (beq_self_eq_true _),if_pos (by simp)];rfl
  ·have h1:(c==b)=false:=by simpa using h
   rw[dP (show((c.toNat:Nat):Int)≠((b.toNat:Nat):Int)from fun e=>h (UInt8.toNat_inj.1 (by omega))),cond_false,if_neg (by rw[h1];decide),ih];by_cases h2:iO ((b.toNat:Nat):Int) t<t.length
   ·rw[if_pos h2,if_neg (by simp),if_pos (by simp only[List.length_cons];omega)]
    try rfl
   ·rw[if_neg h2,if_pos (by decide),if_neg (by simp only[List.length_cons];omega)]
theorem aFY(t:anP):HY t 39=if iO 39 t<t.length then(iO 39 t:Int)else -1:=as3 39 t
def nm(w:anP):List Int:=w.map fun b=>((b.toNat:Nat):Int)
theorem anr(w:anP):List.map (fun y:Int=>UInt8.ofNat (Int.toNat y)) (nm w)=w:=by
 unfold nm;rw[List.map_map]
 conv=>rhs;rw[<- List.map_id w]
 refine ajo fun b _=>?_
 show UInt8.ofNat (Int.toNat ((b.toNat:Nat):Int))=b;rw[aam];exact UInt8.ofNat_toNat
theorem JH(w v:anP):nm w++nm v=nm (w++v):=by simp[nm]
theorem ajH(c:Int):F6 c=some (tq c):=dB rfl rfl
theorem azC(P:List (anP)×Int->Prop)(g:F7->Prop)(s:anP):(gV (.wD s [] [] 0 false)).run Prop P g True=(gV (.e s)).run Prop P g True:=rfl
def sqV(t:anP):Option (anP×Nat):=bif decide (iO 39 t<t.length)then some (t.take (iO 39 t),iO 39 t+1)else none
def adv(n a:Nat)(s w:anP)(out:List (anP)):Option (anP×Nat)->Option (List (anP))
 | none=>none
 | some q=>ku n (s.drop (a+q.2)) (w++q.1) true out
def spI(s:anP):F7->Prop
 | .e y=>y=s
 | .Y0 v0 v1 v2=>∃w,v1=nm w/\some (bif v2 then v0++[w]else v0)=qz s
 | .wD v0 v1 v2 v3 v4=>v0=s/\∃(i n:Nat) (w:anP),v3=(i:Int)/\i<=s.length/\s.length-i<n/\v2=nm w/\ku n (s.drop i) w v4 v1=qz s
 | .Rh v0 v1 v2 v3 v4=>v0=s/\v4=true/\∃(i n:Nat) (w:anP),v3=(i:Int)/\i<=s.length/\s.length-i<=n/\v2=nm w/\adv n i s w v1 (sqV (s.drop i))=qz s
 | .JV v0 v1 v2 v3 v4=>v0=s/\v4=true/\∃(i n:Nat) (w:anP),v3=(i:Int)/\i<=s.length/\s.length-i<=n/\v2=nm w/\adv n i s w v1 (ow (s.drop i))=qz s
theorem ajI(i:Nat)(h:i<=1000010):au ((i:Int)+1)=((i+1:Nat):Int):=by rw[cO (by omega)];omega
theorem PZ(c:UInt8):[((c.toNat:Nat):Int)]=nm [c]:=rfl
abbrev spQ(s:anP)(r:List (anP)×Int):Prop:=r=(Vv (qz s),adu (qz s))
theorem axf(s:anP)(hs:s.length<=1000000){v0:anP}{v1:List (anP)}{v2:List Int}{v3:Int}{v4:Bool}(h:spI s (.wD v0 v1 v2 v3 v4)):(gV (.wD v0 v1 v2 v3 v4)).run Prop (spQ s) (spI s) True:=by
 obtain⟨rfl,i,n,w,rfl,hi,hn,rfl,hR⟩:=h;obtain⟨m,rfl⟩:∃m,n=m+1:=⟨n-1,by omega⟩
 simp only[aM,bg,gV,ajH,aG,anr];by_cases he:i=v0.length
 ·rw[show((i:Int)==(v0.length:Int))=true by rw[he];simp,cond_true];rw[Nv (by omega)]at hR;exact⟨w,rfl,hR⟩
 ·rw[show((i:Int)==(v0.length:Int))=false by simp only[afb];omega,cond_false,pS];intro _ _;have hl:i<v0.length:=by omega
  rw[aam,ajI i (by omega)];cases hb:tq (((v0.getD i 0).toNat:Nat):Int)with
  | true =>
   rw[Jg hl hb]at hR;rw[cond_true];cases v4 with
   | true =>rw[cond_true,pK];intro _;exact⟨rfl,i+1,m,[],rfl,by omega,by omega,rfl,hR⟩
   | false=>exact⟨rfl,i+1,m,w,rfl,by omega,by omega,rfl,hR⟩
  | false =>
   rw[Yk hl hb,drop_at hl]at hR;simp only[Mh]at hR;rw[cond_false,pK];intro _;cases h39:(((v0.getD i 0).toNat:Nat):Int)==39 with
   | true =>
    have Fj:((((v0.getD i 0).toNat:Nat):Int)==92)=false:=by have:=eq_of_beq h39;rw[this];rfl
    rw[Fj,h39,cond_false,cond_true]at hR;rw[cond_true];refine⟨rfl,rfl,i+1,m,w,rfl,by omega,by omega,rfl,?_⟩;unfold sqV;cases hf:decide (iO 39 (v0.drop (i+1))<(v0.drop (i+1)).length)with
    | true =>rw[hf]at hR;show ku m (v0.drop (i+1+(iO 39 (v0.drop (i+1))+1))) _ true v1=_;rw[show i+1+(iO 39 (v0.drop (i+1))+1)=i+(iO 39 (v0.drop (i+1))+2) by omega];exact hR
    | false=>rw[hf]at hR;exact hR
   | false =>
    rw[cond_false,pK];intro _;rw[h39,cond_false]at hR;cases Dz:(((v0.getD i 0).toNat:Nat):Int)==34 with
    | true =>
     have Fj:((((v0.getD i 0).toNat:Nat):Int)==92)=false:=by have:=eq_of_beq Dz;rw[this];rfl
     have av0:((((v0.getD i 0).toNat:Nat):Int)!=34)=false:=by have:=eq_of_beq Dz;rw[this];rfl
     rw[Fj,av0,cond_false,cond_false]at hR;rw[cond_true];refine⟨rfl,rfl,i+1,m,w,rfl,by omega,by omega,rfl,?_⟩;cases hd:ow (v0.drop (i+1))with
     | none=>rw[hd]at hR;exact hR
     | some q =>rw[hd]at hR;show ku m (v0.drop (i+1+q.2)) _ true v1=_;rw[show i+1+q.2=i+(q.2+1) by omega];exact hR
    | false =>
     have av0:((((v0.getD i 0).toNat:Nat):Int)!=34)=true:=by simp only[bne_iff_ne];exact fun e=>by rw[e]at Dz;cases Dz
     rw[cond_false,pK];intro _;rw[av0,cond_true]at hR;cases Fj:(((v0.getD i 0).toNat:Nat):Int)==92 with
     | true =>
      rw[Fj,cond_true]at hR;rw[cond_true];by_cases he2:i+1=v0.length
      ·rw[show(((i+1:Nat):Int)==(v0.length:Int))=true by rw[he2];simp,cond_true];rw[aa7 (by omega)]at hR;have hR:(none:Option (List (anP)))=qz v0:=hR;show _=_;rw[<- hR];rfl
      ·rw[show(((i+1:Nat):Int)==(v0.length:Int))=false by simp only[afb];omega,cond_false,pS];intro _ _;rw[pK];intro _;have hl2:i+1<v0.length:=by omega
       rw[drop_at hl2]at hR;rw[aam,ajI (i+1) (by omega),PZ,JH];exact⟨rfl,i+2,m,w++[v0.getD (i+1) 0],rfl,by omega,by omega,rfl,hR⟩
     | false =>rw[Fj,cond_false]at hR;rw[cond_false,pK];intro _;rw[pK];intro _;rw[PZ,JH];exact⟨rfl,i+1,m,w++[v0.getD i 0],rfl,by omega,by omega,rfl,hR⟩
end
section
def He(n:Node):Bool:=bif n.kind==1 then ajG n.text==0 else qx n
def jV(n:Node):List (anP):=bif n.kind==1 then RU n.text else bH n
def DC(n:Node):Node:=bif He n then tX (jV n)else zn
def wdE(n:Node):Int:=bif He n then 0 else 10
theorem aDC(s:anP)(hs:s.length<=1000000){v0:anP}{v1:List (anP)}{v2:List Int}{v3:Int}{v4:Bool}(h:spI s (.Rh v0 v1 v2 v3 v4)):(gV (.Rh v0 v1 v2 v3 v4)).run Prop (spQ s) (spI s) True:=by
 obtain⟨rfl,rfl,i,n,w,rfl,hi,hn,rfl,hR⟩:=h;simp only[aM,bg,gV,EB,aam,aFY];rw[pK];intro _;unfold sqV at hR;have hl:(v0.drop i).length=v0.length-i:=abP;by_cases hf:iO 39 (v0.drop i)<(v0.drop i).length
 ·rw[decide_eq_true hf,cond_true]at hR;rw[if_pos hf,decide_eq_true (show(0:Int)<=(iO 39 (v0.drop i):Int) by omega),cond_true,pK];intro _;rw[pK];intro _;have e1:au ((i:Int)+(iO 39 (v0.drop i):Int))=(i:Int)+(iO 39 (v0.drop i):Nat):=cO (by omega);have e2:au ((iO 39 (v0.drop i):Int)+1)=((iO 39 (v0.drop i)+1:Nat):Int):=ajI _ (by omega);have e3:au ((i:Int)+((iO 39 (v0.drop i)+1:Nat):Int))=((i+(iO 39 (v0.drop i)+1):Nat):Int):=by rw[cO (by omega)];omega
  rw[e1,e2,e3,aju v0 (by omega),aam];refine⟨rfl,i+(iO 39 (v0.drop i)+1),n,w++(v0.drop i).take (iO 39 (v0.drop i)),rfl,by omega,by omega,?_,hR⟩;rw[<- JH];rfl
 ·rw[decide_eq_false hf,cond_false]at hR;have hR:(none:Option (List (anP)))=qz v0:=hR;rw[if_neg hf];show _=_;rw[<- hR];rfl
theorem aBT(c d:UInt8)(t:anP):ow (c::d::t)=bif(((c.toNat:Nat):Int)==34)then some ([],1)else bif(((c.toNat:Nat):Int)==92)then(ow t).map fun q=>((bif(bif(((d.toNat:Nat):Int)!=34)then(((d.toNat:Nat):Int)!=92)else false)then[c]else[])++d::q.1,q.2+2)else(ow (d::t)).map fun q=>(c::q.1,q.2+1):=by rw[ow]
theorem ajK(n i j:Nat)(s w x:anP)(out:List (anP))(o:Option (anP×Nat)):adv n i s w out (o.map fun q=>(x++q.1,q.2+j))=adv n (i+j) s (w++x) out o:=by
 cases o with
 | none=>rfl
 | some q =>show ku n (s.drop (i+(q.2+j))) (w++(x++q.1)) true out=ku n (s.drop (i+j+q.2)) (w++x++q.1) true out;rw[show i+(q.2+j)=i+j+q.2 by omega,abJ]
theorem aDD(s:anP)(hs:s.length<=1000000){v0:anP}{v1:List (anP)}{v2:List Int}{v3:Int}{v4:Bool}(h:spI s (.JV v0 v1 v2 v3 v4)):(gV (.JV v0 v1 v2 v3 v4)).run Prop (spQ s) (spI s) True:=by
 obtain⟨rfl,rfl,i,n,w,rfl,hi,hn,rfl,hR⟩:=h;simp only[aM,bg,gV,aam,ajI i (by omega)];rw[pK];intro _;have hno:adv n i v0 w v1 none=qz v0->spQ v0 (([]:List (anP)),(3:Int)):=fun h=>by have h:(none:Option (List (anP)))=qz v0:=h;show _=_;rw[<- h];rfl
 by_cases he:i=v0.length
 ·rw[show((i:Int)==(v0.length:Int))=true by rw[he];simp,cond_true,cond_true];rw[aa7 (by omega)]at hR;exact hno hR
 ·have hl:i<v0.length:=by omega
  rw[show((i:Int)==(v0.length:Int))=false by simp only[afb];omega,cond_false];by_cases he2:i+1=v0.length
  ·rw[show(((i+1:Nat):Int)==(v0.length:Int))=true by rw[he2];simp,cond_true];have hn1:v0.drop (i+1)=[]:=aa7 (by omega);rw[drop_at hl,hn1]at hR;have hR:adv n i v0 w v1 (bif((((v0.getD i 0).toNat:Nat):Int)==34)then some ([],1)else none)=qz v0:=hR;cases Fj:(((v0.getD i 0).toNat:Nat):Int)==92 with
   | true =>
    have Dz:((((v0.getD i 0).toNat:Nat):Int)==34)=false:=by have:=eq_of_beq Fj;rw[this];rfl
    rw[Dz]at hR;exact hno hR
   | false =>
    rw[cond_false,pS];intro _ _;rw[aam];cases Dz:(((v0.getD i 0).toNat:Nat):Int)==34 with
    | true =>rw[Dz,cond_true]at hR;rw[cond_true];have hR:ku n (v0.drop (i+1)) (w++[]) true v1=qz v0:=hR;rw[abR]at hR;exact⟨rfl,i+1,n,w,rfl,by omega,by omega,rfl,hR⟩
    | false =>rw[Dz,cond_false]at hR;rw[cond_false,pK];intro _;rw[Fj,cond_false,pK];intro _;rw[pK];intro _;rw[PZ,JH];refine⟨rfl,rfl,i+1,n,w++[v0.getD i 0],rfl,by omega,by omega,rfl,?_⟩;rw[hn1];exact hR
  ·have hl2:i+1<v0.length:=by omega
   rw[show(((i+1:Nat):Int)==(v0.length:Int))=false by simp only[afb];omega,cond_false,cond_false,pS];intro _ _;rw[aam];rw[drop_at hl,drop_at hl2,aBT]at hR;cases Dz:(((v0.getD i 0).toNat:Nat):Int)==34 with
   | true =>rw[Dz,cond_true]at hR;rw[cond_true];have hR:ku n (v0.drop (i+1)) (w++[]) true v1=qz v0:=hR;rw[abR]at hR;exact⟨rfl,i+1,n,w,rfl,by omega,by omega,rfl,hR⟩
   | false =>
    rw[Dz,cond_false]at hR;rw[cond_false,pK];intro _;cases Fj:(((v0.getD i 0).toNat:Nat):Int)==92 with
    | true =>
     have hc:v0.getD i 0=92:=UInt8.toNat_inj.1 (by show(v0.getD i 0).toNat=92;have:=eq_of_beq Fj;omega);rw[Fj,cond_true,hc]at hR;rw[cond_true,pS];intro _ _;rw[pK];intro _;rw[aam,ajI (i+1) (by omega)];have e92:([(92:Int)]:List Int)=nm [92]:=rfl;cases hb:(bif((((v0.getD (i+1) 0).toNat:Nat):Int)!=34)then((((v0.getD (i+1) 0).toNat:Nat):Int)!=92)else false)with
     | true =>rw[hb]at hR;rw[cond_true,pK];intro _;rw[pK];intro _;rw[pK];intro _;rw[PZ,e92,JH,JH];refine⟨rfl,rfl,i+2,n,w++[92]++[v0.getD (i+1) 0],rfl,by omega,by omega,rfl,?_⟩;have:=ajK n i 2 v0 w ([92]++[v0.getD (i+1) 0]) v1 (ow (v0.drop (i+2)));rw[<- abJ]at this;exact this.symm.trans hR
     | false =>rw[hb]at hR;rw[cond_false,pK];intro _;rw[pK];intro _;rw[PZ,JH];refine⟨rfl,rfl,i+2,n,w++[v0.getD (i+1) 0],rfl,by omega,by omega,rfl,?_⟩;exact(ajK n i 2 v0 w [v0.getD (i+1) 0] v1 (ow (v0.drop (i+2)))).symm.trans hR
    | false =>rw[Fj,cond_false,<- drop_at hl2]at hR;rw[cond_false,pK];intro _;rw[pK];intro _;rw[PZ,JH];refine⟨rfl,rfl,i+1,n,w++[v0.getD i 0],rfl,by omega,by omega,rfl,?_⟩;exact(ajK n i 1 v0 w [v0.getD i 0] v1 (ow (v0.drop (i+1)))).symm.trans hR
theorem ajL(s:anP)(hs:s.length<=1000000):(F8 s).isSome=true->gv (F8 s)=(RU s,ajG s):=by
 refine part rfl (spQ s) (spI s) rfl ?_;have wD:spI s (.wD s [] [] 0 false):=⟨rfl,0,s.length+1,[],rfl,by omega,by omega,rfl,rfl⟩
 rintro(y | ⟨v0,v1,v2⟩ | ⟨v0,v1,v2,v3,v4⟩ | ⟨v0,v1,v2,v3,v4⟩ | ⟨v0,v1,v2,v3,v4⟩) h
 ·have h:y=s:=h;subst h;rw[<- azC];exact axf y hs wD
 ·obtain⟨w,rfl,hR⟩:=h;simp only[aM,bg,gV,anr];cases v2 with
  | true =>
   rw[cond_true]at hR ⊢;rw[pK];intro _;unfold spQ;rw[<- hR];simp only[dQ,Vv,adu]
   (repeat' (first|intro _|apply And.intro))<;>grind
  | false =>
   rw[cond_false]at hR ⊢;unfold spQ;rw[<- hR];simp only[dQ,Vv,adu]
   (repeat' (first|intro _|apply And.intro))<;>grind
 ·exact axf s hs h
 ·exact aDC s hs h
 ·exact aDD s hs h
theorem ajM(n:Node)(hs:n.text.length<=1000000)(hl:n.kids.length<=1000000)(hk:(bH n).length<=1000000):(wE n).isSome=true->gv (wE n)=(DC n,wdE n):=by
 refine gQ rfl ?_;have h1:=AP n hl;have h2:=ajL n.text hs;have h3:=jN;have h4:=abE (RU n.text) (by have:=RV (qz n.text);unfold RU;omega);have h5:=abE (bH n) hk;simp only[dQ,Ga]
 (repeat' (first|intro _|apply And.intro))<;>grind[DC,wdE,He,jV,rF]
end
section
def BX(x:anP):Bool:=(iQ x 255).2 != 0
def Ie(s:anP):Bool:=bif((eT s [46] 0 (-1)).length:Int)==4 then !((eT s [46] 0 (-1)).any BX)else false
theorem aBU(s:anP)(hs:s.length<=1000000)(k:Int)(h:0<=k/\k<=65536):gN s k=some (iQ s k):=uw s k (yx.2 ⟨⟨hs,h.1⟩,by omega⟩)
theorem aqm(l:List (anP))(hl:l.length<=1000000)(hs:∀s∈l,s.length<=1000000):(fI l).isSome=true->decide (0<=gv (fI l))=l.any BX:=by
 refine part rfl (fun r=>decide (0<=r)=l.any BX) (fun | .e y=>y=l | .h0 v0 v1 v2=>v0=l/\v1=(l.length:Int)/\0<=v2/\v2<=v1/\l.any BX=(l.drop v2.toNat).any BX) rfl ?_;rintro(y | ⟨v0,v1,v2⟩) hs'
 ·cases hs';exact⟨rfl,rfl,by decide,by omega,rfl⟩
 ·obtain⟨rfl,rfl,h1,h2,h3⟩:=hs';simp only[dQ,dG];have e1:=@cO (v2+1);by_cases hi:v2<(v0.length:Int)
  ·rw[fJ v0 Df.d h1 hi,aj3]at h3;have h5:=qZ hs v2.toNat;generalize v0.getD v2.toNat Df.d=x at h3 h5 ⊢;rw[aBU x h5 255 (by decide),dS];have hx:BX x=((iQ x 255).2 != 0):=rfl;rw[h3,hx];cases hb:((iQ x 255).2 != 0)with
   | true=>((repeat' (first|intro _|apply And.intro))<;>grind)
   | false=>((repeat' (first|intro _|apply And.intro))<;>grind)
  ·rw[iN v0 (by omega),List.any_nil]at h3;rw[h3]
   (repeat' (first|intro _|apply And.intro))<;>grind
theorem adw(s:anP)(hs:s.length<=999999):(rW s).isSome=true->gv (rW s)=Ie s:=by
 refine gQ rfl ?_;obtain⟨a1,a2,a3⟩:=D9 s 46 0 (-1);have hc:(cZ (eT s [46] 0 (-1))).isSome=true->gv (cZ (eT s [46] 0 (-1)))=(eT s [46] 0 (-1)).any BX:=by refine gQ rfl ?_;simp only[dQ,eU];intro i;exact aqm _ (by omega) (fun x hx=>by have:=a3 x hx;omega) i
 simp only[aM,bg,BA];rw[pK,pK];intro _ h;unfold Ie;cases hb:((eT s [46] 0 (-1)).length:Int)==4 with
 | false=>rfl
 | true =>
  rw[hb]at h;have hi:(cZ (eT s [46] 0 (-1))).isSome=true:=by simpa using h
  rw[hc hi]
def kK(p:Port):Bool:=bif(bif(bif(bif(bif(decide ((1:Int)<=p.iW))then(decide (p.iW<=(65535:Int)))else false)then(decide (0<=p.out))else false)then(decide (p.out<=(65535:Int)))else false)then(bif(p.proto==([116,99,112]:anP))then true else(p.proto==([117,100,112]:anP)))else false)then(bif(p.host==([]:anP))then true else Ie p.host)else false
theorem azD{p:Port}(h:kK p=true):(1<=p.iW/\p.iW<=65535)/\0<=p.out/\p.out<=65535:=by unfold kK at h;simp only[hand,abG,abK]at h;omega
theorem GN(p:Port)(hs:p.host.length<=999999):(dH p).isSome=true->gv (dH p)=kK p:=by
 refine gQ rfl ?_;have h1:=adw p.host hs;simp only[aM,bg,Gb];rw[pK];intro h;unfold kK;by_cases hi:(rW p.host).isSome=true
 ·rw[h1 hi]
 ·have hn:(rW p.host).isSome=false:=by simpa using hi
  rw[hn,ajB,ajv]at h;cases hA:(bif(bif(bif(bif(decide ((1:Int)<=p.iW))then(decide (p.iW<=(65535:Int)))else false)then(decide (0<=p.out))else false)then(decide (p.out<=(65535:Int)))else false)then(bif(p.proto==([116,99,112]:anP))then true else(p.proto==([117,100,112]:anP)))else false)with
  | false=>rfl
  | true =>rw[hA,aeP,Bool.not_eq_false']at h;rw[h];rfl
def qA(s:anP):Int:=bif(bif(iQ s 65535).2 != 0 then true else(iQ s 65535).1==0)then -1 else(iQ s 65535).1
theorem af8(s:anP)(hs:s.length<=1000000):jL s=some (qA s):=dB rfl (by simp only[aM,bg,DW,aBU s hs 65535 (by decide),aG];unfold qA;cases(bif(iQ s 65535).2 != 0 then true else(iQ s 65535).1==0)<;>rfl)
def Kk(p:Port):anP:=bif decide (0<p.out)then bq p.out else[]
def Yl(p:Port):anP:=bif !(p.host==[])then(p.host++[58])++Kk p else Kk p
def Fu(p:Port):anP:=bif !(Yl p==[])then Yl p++[58]else Yl p
def Ad(p:Port):anP:=bif !(kK p)then[]else bif p.proto==[117,100,112]then(Fu p++bq p.iW)++[47,117,100,112]else Fu p++bq p.iW
theorem OE(p:Port)(hs:p.host.length<=999999):(zk p).isSome=true->gv (zk p)=Ad p:=by
 refine gQ rfl ?_;have h1:=GN p hs;have h2:=@azD p;have h3:=AZ p.iW;have h4:=AZ p.out;simp only[dQ,IQ];intro i;rw[h1 i];cases hr:kK p with
 | false=>((repeat' (first|intro _|apply And.intro))<;>grind[Ad])
 | true =>
  have h2:=h2 hr;have h3:=h3 (by omega);have h4:=h4 (by omega)
  (repeat' (first|intro _|apply And.intro))<;>grind[Ad,Fu,Yl,Kk]
end
section
def DF:Port:=⟨[],0,0,[]⟩
def qB(p:Port):Port×Int:=bif !(kK p)then(DF,3)else(p,0)
def uR(h pr:anP):Port×Int :=
 bif((eT h [58] 0 (-1)).length:Int)==1 then qB ⟨[],0,qA ((eT h [58] 0 (-1)).getD ((eT h [58] 0 (-1)).length-1) []),pr⟩
 else bif((eT h [58] 0 (-1)).length:Int)==2 then qB ⟨[],qA ((eT h [58] 0 (-1)).getD 0 []),qA ((eT h [58] 0 (-1)).getD ((eT h [58] 0 (-1)).length-1) []),pr⟩
 else bif((eT h [58] 0 (-1)).length:Int)==3 then(bif(eT h [58] 0 (-1)).getD 0 []==[]then(DF,3)else bif !((eT h [58] 0 (-1)).getD 1 []==[])then qB ⟨(eT h [58] 0 (-1)).getD 0 [],qA ((eT h [58] 0 (-1)).getD 1 []),qA ((eT h [58] 0 (-1)).getD ((eT h [58] 0 (-1)).length-1) []),pr⟩
  else qB ⟨(eT h [58] 0 (-1)).getD 0 [],0,qA ((eT h [58] 0 (-1)).getD ((eT h [58] 0 (-1)).length-1) []),pr⟩)
 else(DF,3)
def jm(s:anP):Port×Int:=bif Ar s [47]then uR (mg s [47]) (qm s [47])else uR s [116,99,112]
theorem axg(h pr:anP)(hh:h.length<=999990)(Q:Port×Int->Prop)(hQ:Q (uR h pr)):ck (Rc h ([58]:anP) (0:Int) (-1:Int)) True (ck (decide (0<=(au ((((eT h ([58]:anP) (0:Int) (-1:Int)).length:Nat):Int)-(1:Int))))&&decide ((au ((((eT h ([58]:anP) (0:Int) (-1:Int)).length:Nat):Int)-(1:Int)))<((eT h ([58]:anP) (0:Int) (-1:Int)).length:Nat))) True (cl (jL (List.getD (eT h ([58]:anP) (0:Int) (-1:Int)) (Int.toNat (au ((((eT h ([58]:anP) (0:Int) (-1:Int)).length:Nat):Int)-(1:Int)))) (dflt .str))) True fun y8=>bif((((eT h ([58]:anP) (0:Int) (-1:Int)).length:Nat):Int)==(1:Int))then(cl (dH (⟨([]:anP),(0:Int),y8,pr⟩:Port)) True fun y9=>bif(!y9)then Q ((⟨([]:anP),(0:Int),(0:Int),([]:anP)⟩:Port),(3:Int))else Q ((⟨([]:anP),(0:Int),y8,pr⟩:Port),(0:Int)))else(bif((((eT h ([58]:anP) (0:Int) (-1:Int)).length:Nat):Int)==(2:Int))then(ck (decide (0<=(0:Int))&&decide ((0:Int)<((eT h ([58]:anP) (0:Int) (-1:Int)).length:Nat))) True (cl (jL (List.getD (eT h ([58]:anP) (0:Int) (-1:Int)) (Int.toNat (0:Int)) (dflt .str))) True fun iq=>cl (dH (⟨([]:anP),iq,y8,pr⟩:Port)) True fun xK=>bif(!xK)then Q ((⟨([]:anP),(0:Int),(0:Int),([]:anP)⟩:Port),(3:Int))else Q ((⟨([]:anP),iq,y8,pr⟩:Port),(0:Int))))else(bif((((eT h ([58]:anP) (0:Int) (-1:Int)).length:Nat):Int)==(3:Int))then(ck (decide (0<=(0:Int))&&decide ((0:Int)<((eT h ([58]:anP) (0:Int) (-1:Int)).length:Nat))) True (bif((List.getD (eT h ([58]:anP) (0:Int) (-1:Int)) (Int.toNat (0:Int)) (dflt .str))==([]:anP))then Q ((⟨([]:anP),(0:Int),(0:Int),([]:anP)⟩:Port),(3:Int))else(ck (decide (0<=(1:Int))&&decide ((1:Int)<((eT h ([58]:anP) (0:Int) (-1:Int)).length:Nat))) True (bif(!((List.getD (eT h ([58]:anP) (0:Int) (-1:Int)) (Int.toNat (1:Int)) (dflt .str))==([]:anP)))then(ck (decide (0<=(1:Int))&&decide ((1:Int)<((eT h ([58]:anP) (0:Int) (-1:Int)).length:Nat))) True (cl (jL (List.getD (eT h ([58]:anP) (0:Int) (-1:Int)) (Int.toNat (1:Int)) (dflt .str))) True fun nG=>cl (dH (⟨(List.getD (eT h ([58]:anP) (0:Int) (-1:Int)) (Int.toNat (0:Int)) (dflt .str)),nG,y8,pr⟩:Port)) True fun y13=>bif(!y13)then Q ((⟨([]:anP),(0:Int),(0:Int),([]:anP)⟩:Port),(3:Int))else Q ((⟨(List.getD (eT h ([58]:anP) (0:Int) (-1:Int)) (Int.toNat (0:Int)) (dflt .str)),nG,y8,pr⟩:Port),(0:Int))))else(cl (dH (⟨(List.getD (eT h ([58]:anP) (0:Int) (-1:Int)) (Int.toNat (0:Int)) (dflt .str)),(0:Int),y8,pr⟩:Port)) True fun zY=>bif(!zY)then Q ((⟨([]:anP),(0:Int),(0:Int),([]:anP)⟩:Port),(3:Int))else Q ((⟨(List.getD (eT h ([58]:anP) (0:Int) (-1:Int)) (Int.toNat (0:Int)) (dflt .str)),(0:Int),y8,pr⟩:Port),(0:Int)))))))else Q ((⟨([]:anP),(0:Int),(0:Int),([]:anP)⟩:Port),(3:Int)))))):=by
 obtain⟨a1,a2,a3⟩:=D9 h 58 0 (-1);have hd:∀i,((eT h [58] 0 (-1)).getD i (dflt Ty.str:anP)).length<=999990:=fun i=>Nat.le_trans (WS h 58 0 (-1) i) hh
 have hdf:∀i,(eT h [58] 0 (-1)).getD i (dflt Ty.str:anP)=(eT h [58] 0 (-1)).getD i []:=fun _=>rfl
 have hn:=fun i=>af8 ((eT h [58] 0 (-1)).getD i (dflt Ty.str:anP)) (by have:=hd i;omega)
 have w:au ((((eT h [58] 0 (-1)).length:Nat):Int)-1)=(((eT h [58] 0 (-1)).length-1:Nat):Int):=by rw[cO (by omega)];omega
 have hR:∀(o i:Int) (q:anP),(dH ⟨[],o,i,q⟩).isSome=true->gv (dH ⟨[],o,i,q⟩)=kK ⟨[],o,i,q⟩:=fun o i q=>GN ⟨[],o,i,q⟩ (aas _)
 have hR2:∀(k:Nat) (o i:Int) (q:anP),(dH ⟨(eT h [58] 0 (-1)).getD k (dflt Ty.str:anP),o,i,q⟩).isSome=true->gv (dH ⟨(eT h [58] 0 (-1)).getD k (dflt Ty.str:anP),o,i,q⟩)=kK ⟨(eT h [58] 0 (-1)).getD k (dflt Ty.str:anP),o,i,q⟩:=fun k o i q=>GN _ (Nat.le_trans (hd k) (by decide))
 rw[w];simp only[hn,aG];simp only[dQ];have e0:(0:Int).toNat=0:=rfl;have e1:(1:Int).toNat=1:=rfl;rw[e0,e1,aam];unfold uR qB at hQ;simp only[<- hdf]at hQ;have ez:DF=⟨[],0,0,[]⟩:=rfl
 (repeat' (first|intro _|apply And.intro))<;>grind
theorem GQ(s:anP)(hs:s.length<=999990):(Au s).isSome=true->gv (Au s)=jm s:=by
 refine gQ rfl ?_;simp only[aM,bg,Gc];rw[pK];intro _;unfold jm;cases Ar s [47]with
 | true =>rw[cond_true,cond_true];exact axg (mg s [47]) (qm s [47]) (by have:=aiX s [47];omega) (fun r=>r=uR (mg s [47]) (qm s [47])) rfl
 | false =>rw[cond_false,cond_false];exact axg s [116,99,112] hs (fun r=>r=uR s [116,99,112]) rfl
end
section
def dA:anP:=[116,97,114,103,101,116]
def nR:anP:=[112,117,98,108,105,115,104,101,100]
def qC:anP:=[104,111,115,116,95,105,112]
def zH:anP:=[112,114,111,116,111,99,111,108]
def Vw:anP:=[116,99,112]
def Kl(f:field)(k:anP):field:=⟨f.n,f.left-b2 (aD f.n k),yU f k⟩
def f0(n:Node):field:=⟨n,(n.keys.length:Int),n.kind != 3⟩
def lgF(n:Node):field:=l6 (l6 (Kl (Kl (f0 n) dA) nR) qC) zH
def SV(n:Node):Port:=⟨aO n qC [],(iQ (aO n nR [48]) 65536).1,(iQ (aO n dA [48]) 65536).1,aO n zH Vw⟩
def lgB(n:Node):Bool:=bif(bif(!(lgF n).bad)then((lgF n).left==(0:Int))else false)then kK (SV n)else false
theorem ae9(f:field):(⟨f.n,f.left,f.bad⟩:field)=f:=rfl
theorem aBV(n:Node):(⟨n,(n.keys.length:Int),n.kind != 3⟩:field)=f0 n:=rfl
theorem al2(n:Node)(hl:n.keys.length<=100000)(hf:∀k o,o.length<=100000->(aO n k o).length<=100000):(IL n).isSome=true->gv (IL n)=(SV n,lgB n):=by
 refine gQ rfl ?_;have c1:=Vt (aD n dA);have c2:=Vt (aD n nR);have c3:=Vt (aD n qC);have hz:∀k,(aO n k [48]).length<=1000000:=fun k=>Nat.le_trans (hf k [48] (by decide)) (by decide)
 simp only[aM,bg,IK,aV];have t1:([116,97,114,103,101,116]:anP)=dA:=rfl;have t2:([112,117,98,108,105,115,104,101,100]:anP)=nR:=rfl;have t3:([104,111,115,116,95,105,112]:anP)=qC:=rfl;have t4:([112,114,111,116,111,99,111,108]:anP)=zH:=rfl;have t5:([116,99,112]:anP)=Vw:=rfl;rw[t1,t2,t3,t4,t5];simp only[dQ,ae9,aBV];intro i1;rw[AY (f0 n) dA ⟨by show -1000000<=(n.keys.length:Int);omega,by show(n.keys.length:Int)<=1000000;omega⟩ (hz dA) i1];dsimp only;rw[show(⟨(f0 n).n,(f0 n).left-b2 (aD (f0 n).n dA),yU (f0 n) dA⟩:field)=Kl (f0 n) dA from rfl];intro i2;rw[AY (Kl (f0 n) dA) nR ⟨by show -1000000<=(n.keys.length:Int)-b2 (aD n dA);omega,by show(n.keys.length:Int)-b2 (aD n dA)<=1000000;omega⟩ (hz nR) i2];dsimp only;rw[show(⟨(Kl (f0 n) dA).n,(Kl (f0 n) dA).left-b2 (aD (Kl (f0 n) dA).n nR),yU (Kl (f0 n) dA) nR⟩:field)=Kl (Kl (f0 n) dA) nR from rfl];intro i3;rw[gW (Kl (Kl (f0 n) dA) nR) qC [] ⟨by show -1000000<=(n.keys.length:Int)-b2 (aD n dA)-b2 (aD n nR);omega,by show(n.keys.length:Int)-b2 (aD n dA)-b2 (aD n nR)<=1000000;omega⟩ i3];dsimp only;intro i4;rw[gW (l6 (Kl (Kl (f0 n) dA) nR) qC) zH Vw ⟨by show -1000000<=(n.keys.length:Int)-b2 (aD n dA)-b2 (aD n nR)-b2 (aD n qC);omega,by show(n.keys.length:Int)-b2 (aD n dA)-b2 (aD n nR)-b2 (aD n qC)<=1000000;omega⟩ i4];intro h;have hR:=GN (SV n) (Nat.le_trans (hf qC [] (by decide)) (by decide));show(SV n,bif(bif(!(lgF n).bad)then((lgF n).left==(0:Int))else false)then gv (dH (SV n))else false)=(SV n,lgB n)
 have h:(dH (SV n)).isSome=true\/(bif(!(lgF n).bad)then((lgF n).left==(0:Int))else false)=false:=h;unfold lgB;rcases h with h | h
 ·rw[hR h]
 ·rw[h];rfl
end
section
def poX(y:Node):anP:=bif y.kind==1 then Ad (jm y.text).1 else Ad (SV y)
def poB(y:Node):Bool:=bif y.kind==1 then(jm y.text).2==0 else lgB y
def poS:List Node->Node->Bool->Node×Bool
 | [],o,b=>(o,b)
 | y::t,o,b=>poS t (bf o (poX y) zn) (bif b then true else !(poB y))
def Vx:List (anP)->List Node->Node->Bool->Node×Bool
 | s::t,y::r,o,b=>Vx t r (bf o s zn) (bif b then true else(bif(bif(!(Ad (jm s).1==s))then true else(s==[]))then true else(y.kind != 0)))
 | _,_,o,b=>(o,b)
def poP(n:Node):Node×Bool:=bif qY n 2 then poS n.kids zn false else bif qY n 3 then Vx n.keys n.kids zn false else(zn,true)
def SX(n:Node):Node:=EN (poP n).1 (poP n).2
def SY(n:Node):Int:=EO (poP n).1 (poP n).2
theorem Vy(s:anP)(hs:s.length<=100000):(jm s).1.host.length<=999999:=by obtain⟨h1,h2⟩:=AA s (by omega);rw[GQ s (by omega) h1]at h2;have h2:(jm s).1.host.length<=s.length:=h2;omega
set_option maxHeartbeats 1000000 in
theorem ajN(n:Node)(hk:n.keys.length<=100000)(hl:n.kids.length<=100000)(h3:n.kind=3->n.keys.length=n.kids.length)(hs:∀s∈n.keys,s.length<=100000)(hy:∀y∈n.kids,y.keys.length<=100000/\y.text.length<=100000/\∀k o,o.length<=100000->(aO y k o).length<=100000):(sJ n).isSome=true->gv (sJ n)=(SX n,SY n):=by
 refine part rfl (fun r=>r=(SX n,SY n)) (fun | .e y=>y=n | .h0 v0 v1 v2 _ _ v5=>v0=n.kids/\v1=(n.kids.length:Int)/\0<=v2/\v2<=v1/\poS (n.kids.drop v2.toNat) v5.n v5.bad=poP n | .h1 v0 v1 v2 v3 _ _ v6=>v3=n/\n.kind=3/\v0=n.keys/\v1=(n.keys.length:Int)/\0<=v2/\v2<=v1/\Vx (n.keys.drop v2.toNat) (n.kids.drop v2.toNat) v6.n v6.bad=poP n) rfl ?_;rintro(y | ⟨v0,v1,v2,v3,v4,⟨o,bad⟩⟩ | ⟨v0,v1,v2,v3,v4,v5,⟨o,bad⟩⟩) hs'
 ·cases hs';simp only[aM,bg,qw,rZ,aV,aG];simp only[dQ];have h2:=jN;have h4:=aiY
  (repeat' (first|intro _|apply And.intro))<;>grind[poP,SX,SY,aeh,rF,qY]
 ·obtain⟨rfl,rfl,h1,h2,h4⟩:=hs';simp only[aM,bg,qw,iG,aV,aG];simp only[dQ];have e1:=@cO (v2+1);by_cases hi:v2<(n.kids.length:Int)
  ·rw[fJ n.kids Df.d h1 hi,poS]at h4;have h5:=LX hy h1 hi;have ed:n.kids.getD v2.toNat (dflt Ty.ah)=n.kids.getD v2.toNat (Df.d:Node):=rfl;rw[ed];generalize n.kids.getD v2.toNat Df.d=y at h4 h5 ⊢;have h6:=al2 y h5.1 h5.2.2;have h7:=GQ y.text (by omega);have h8:=OE (jm y.text).1 (Vy y.text h5.2.1);have h9:=OE (SV y) (Nat.le_trans (h5.2.2 qC [] (by decide)) (by decide));have h10:=fun b k=>iC ⟨o,b⟩ k ⟨0,[],[],[]⟩
   (repeat' (first|intro _|apply And.intro))<;>grind[poX,poB,rF]
  ·rw[iN n.kids (by omega),poS]at h4;have h5:=iH ⟨o,bad⟩
   (repeat' (first|intro _|apply And.intro))<;>grind[SX,SY]
 ·obtain⟨rfl,h0,rfl,rfl,h1,h2,h4⟩:=hs';have hkk:=h3 h0;simp only[aM,bg,qw,iG,aV,aG];simp only[dQ];have e1:=@cO (v2+1);by_cases hi:v2<(v3.keys.length:Int)
  ·rw[fJ v3.keys Df.d h1 hi,fJ v3.kids Df.d h1 (by omega),Vx]at h4;have h5:=qZ hs v2.toNat;have ed:v3.kids.getD v2.toNat (dflt Ty.ah)=v3.kids.getD v2.toNat (Df.d:Node):=rfl;rw[ed];generalize v3.keys.getD v2.toNat Df.d=s at h4 h5 ⊢;generalize v3.kids.getD v2.toNat Df.d=y at h4 ⊢;have h7:=GQ s (by omega);have h8:=OE (jm s).1 (Vy s h5);have h10:=fun b=>iC ⟨o,b⟩ s ⟨0,[],[],[]⟩
   (repeat' (first|intro _|apply And.intro))<;>grind[rF]
  ·rw[iN v3.keys (by omega),Vx]at h4
   ·have h5:=iH ⟨o,bad⟩
    (repeat' (first|intro _|apply And.intro))<;>grind[SX,SY]
   ·intro a b c d e;cases e
end
section
theorem WZ{α:Type}[Df α]{o:Option α}{v:α}(h1:o.isSome=true)(h2:o.isSome=true->gv o=v):o=some v:=by obtain⟨r,rfl⟩:=Option.isSome_iff_exists.1 h1;rw[<- h2 rfl,dS]
def RX(n:Int):Bool:=bif pb0 n then decide (HY [46,95,45,47] n<0)else false
def Ec(s:anP):Bool:=(s.all fun c=>!(RX ((c.toNat:Nat):Int)))&&(bif !(s==[])then decide ((s.length:Int)<=64)else false)
theorem Vz(s:anP)(hs:s.length<=1000000):iR s=some (Ec s):=WZ (LA s hs).1 (by
 refine part rfl (fun r=>r=Ec s) (fun | .e y=>y=s | .h0 v0 v1 v2=>v0=s/\v1=(s.length:Int)/\0<=v2/\v2<=v1/\Ec s=(((s.drop v2.toNat).all fun c=>!(RX ((c.toNat:Nat):Int)))&&(bif !(s==[])then decide ((s.length:Int)<=64)else false))) rfl ?_;rintro(y | ⟨v0,v1,v2⟩) hs'
 ·cases hs';simp only[dQ,wH];exact⟨trivial,trivial,by decide,by omega,rfl⟩
 ·obtain⟨rfl,rfl,h1,h2,h3⟩:=hs';simp only[aM,bg,wH];have e1:=@cO (v2+1);by_cases hi:v2<(v0.length:Int)
  ·rw[fJ v0 0 h1 hi,aeQ]at h3;rw[decide_eq_true hi,cond_true,pS];intro _ _;generalize v0.getD v2.toNat 0=c at h3 ⊢;have hb:(bif(bif(bif(bif(decide (((c.toNat:Nat):Int)<(97:Int)))then true else(decide ((122:Int)<((c.toNat:Nat):Int))))then(bif(decide (((c.toNat:Nat):Int)<(65:Int)))then true else(decide ((90:Int)<((c.toNat:Nat):Int))))else false)then(bif(decide (((c.toNat:Nat):Int)<(48:Int)))then true else(decide ((57:Int)<((c.toNat:Nat):Int))))else false)then(decide ((HY ([46,95,45,47]:anP) ((c.toNat:Nat):Int))<(0:Int)))else false)=RX ((c.toNat:Nat):Int):=rfl;rw[hb];simp only[dQ]
   (repeat' (first|intro _|apply And.intro))<;>grind
  ·rw[iN v0 (by omega),List.all_nil]at h3;simp only[dQ]
   (repeat' (first|intro _|apply And.intro))<;>grind)
theorem adx(s:anP)(hs:s.length<=1000000):H6 s=some (oh AO xL s):=dB rfl (by simp only[aM,BF,oW s hs,aG])
def tJ(m:fZ):Bool:=bif(qW m.target)then(bif(bif(m.source==([]:anP))then true else(oh AO xL m.source))then true else(bif(Ec m.source)then(bif((((List.getD m.source (Int.toNat (0:Int)) 0).toNat:Nat):Int)==(47:Int))then true else((((List.getD m.source (Int.toNat (0:Int)) 0).toNat:Nat):Int)==(46:Int)))else false))else false
theorem J3(m:fZ)(hs:m.source.length<=1000000):(gB m).isSome=true->gv (gB m)=tJ m:=by refine gQ rfl ?_;simp only[aM,bg,D6,adx _ hs,Vz _ hs,dS,aeL,abZ];rw[pK,pK,pK,pK,pK];intro _ _ _ _ _;rfl
def Mi(m:fZ):anP:=bif !(m.source==[])then(m.source++[58])++m.target else m.target
def oN(m:fZ):anP:=bif !(tJ m)then[]else bif m.readOnly then Mi m++[58,114,111]else Mi m
theorem Mj(m:fZ)(hs:m.source.length<=1000000):(wN m).isSome=true->gv (wN m)=oN m:=by
 refine gQ rfl ?_;have h1:=J3 m hs;simp only[dQ,Gm];intro i;rw[h1 i]
 (repeat' (first|intro _|apply And.intro))<;>grind[oN,Mi]
def mz:fZ:=⟨[],[],false⟩
def vK(m:fZ):fZ×Int:=bif !(tJ m)then(mz,3)else(m,0)
def JI(l:List (anP))(ro:Bool):fZ×Int:=bif(l.length:Int)==1 then vK ⟨[],l.getD 0 [],ro⟩else bif(l.length:Int)==2 then(bif l.getD 0 []==[]then(mz,3)else vK ⟨l.getD 0 [],l.getD 1 [],ro⟩)else vK ⟨[],[],ro⟩
def VA(s:anP):anP:=(eT s [58] 0 (-1)).getD ((eT s [58] 0 (-1)).length-1) []
def mEn(s:anP):Bool:=bif decide ((1:Int)<((eT s [58] 0 (-1)).length:Int))then(bif VA s==[114,111]then true else VA s==[114,119])else false
def nS(s:anP):fZ×Int:=bif mEn s then JI ((eT s [58] 0 (-1)).take ((eT s [58] 0 (-1)).length-1)) (VA s==[114,111])else JI (eT s [58] 0 (-1)) false
theorem S9(s:anP)(hs:s.length<=999990):(yQ s).isSome=true->gv (yQ s)=nS s:=by
 refine gQ rfl ?_;obtain⟨a1,a2,a3⟩:=D9 s 58 0 (-1);have w:au ((((eT s [58] 0 (-1)).length:Nat):Int)-1)=(((eT s [58] 0 (-1)).length-1:Nat):Int):=by rw[cO (by omega)];omega
 have hd:∀x∈eT s [58] 0 (-1),x.length<=1000000:=fun x hx=>by have:=a3 x hx;omega
 simp only[aM,bg,D7,w];generalize hl:eT s [58] 0 (-1)=l at *;have e1:List.getD l (Int.toNat ((l.length-1:Nat):Int)) (dflt Ty.str)=VA s:=by unfold VA;rw[hl];rfl
 have e2:l.getD (Int.toNat ((l.length-1:Nat):Int)) (Df.d:anP)=VA s:=e1;have e3:cut l 0 ((l.length-1:Nat):Int)=l.take (l.length-1):=by unfold cut;rfl
 have hR:∀(a b:anP) (r:Bool),a.length<=1000000->(gB ⟨a,b,r⟩).isSome=true->gv (gB ⟨a,b,r⟩)=tJ ⟨a,b,r⟩:=fun a b r h=>J3 ⟨a,b,r⟩ h
 have hg:∀i,(l.getD i (Df.d:anP)).length<=1000000:=fun i=>qZ hd i
 have hg2:∀i,((l.take (l.length-1)).getD i (Df.d:anP)).length<=1000000:=fun i=>qZ (fun x hx=>hd x (amF hx)) i
 rw[e1,e3];simp only[dQ];rw[e2];unfold nS mEn;rw[hl];unfold JI vK;have ez:mz=⟨[],[],false⟩:=rfl;have ed:∀(l:List (anP)) (i:Nat),l.getD i (Df.d:anP)=l.getD i []:=fun _ _=>rfl
 have z0:(0:Int).toNat=0:=rfl;have z1:(1:Int).toNat=1:=rfl;rw[z0,z1];simp only[<- ed];have hz:([]:anP).length<=1000000:=aas _;intro _ _ _;cases hb:(bif decide ((1:Int)<(l.length:Int))then(bif VA s==[114,111]then true else VA s==[114,119])else false)with
 | true =>
  refine⟨fun _=>?_,fun h=>(by cases h)⟩;simp only[cond_true];generalize (VA s==[114,111])=ro;generalize l.take (l.length-1)=l2 at hg2 ⊢
  (repeat' (first|intro _|apply And.intro))<;>grind
 | false =>
  refine⟨fun h=>(by cases h),fun _=>?_⟩;simp only[cond_false]
  (repeat' (first|intro _|apply And.intro))<;>grind
end
section
def jC:anP:=[115,111,117,114,99,101]
def lU:anP:=[114,101,97,100,95,111,110,108,121]
def lV:anP:=[116,121,112,101]
def zI:anP:=[98,105,110,100]
def tNx(f:field)(k:anP)(d:Bool):field:=⟨f.n,f.left-b2 (aD f.n k),(f.bad || !(bU f.n k []))||Pp (aO f.n k (Cc d))⟩
def plF(n:Node):field:=l6 (tNx (l6 (l6 (f0 n) jC) dA) lU false) lV
def VB(n:Node):fZ:=⟨aO n jC [],aO n dA [],aO n lU (Cc false)==jZ⟩
def plK(s:anP):Bool:=bif(bif(s==([98,105,110,100]:anP))then true else(s==([118,111,108,117,109,101]:anP)))then true else(s==([116,109,112,102,115]:anP))
def plB(n:Node):Bool:=bif(bif(bif(!(plF n).bad)then((plF n).left==(0:Int))else false)then tJ (VB n)else false)then plK (aO n lV zI)else false
theorem ajO(n:Node)(hl:n.keys.length<=100000)(hf:∀k o,o.length<=100000->(aO n k o).length<=100000):(Gl n).isSome=true->gv (Gl n)=(VB n,plB n):=by
 refine gQ rfl ?_;have c1:=Vt (aD n jC);have c2:=Vt (aD n dA);have c3:=Vt (aD n lU);simp only[aM,bg,Gj,aV];have t1:([115,111,117,114,99,101]:anP)=jC:=rfl;have t2:([116,97,114,103,101,116]:anP)=dA:=rfl;have t3:([114,101,97,100,95,111,110,108,121]:anP)=lU:=rfl;have t4:([116,121,112,101]:anP)=lV:=rfl;rw[t1,t2,t3,t4];simp only[dQ,ae9,aBV];intro i1;rw[gW (f0 n) jC [] ⟨by show -1000000<=(n.keys.length:Int);omega,by show(n.keys.length:Int)<=1000000;omega⟩ i1];dsimp only;intro i2;rw[gW (l6 (f0 n) jC) dA [] ⟨by show -1000000<=(n.keys.length:Int)-b2 (aD n jC);omega,by show(n.keys.length:Int)-b2 (aD n jC)<=1000000;omega⟩ i2];dsimp only;intro i3;rw[uP (l6 (l6 (f0 n) jC) dA) lU false ⟨by show -1000000<=(n.keys.length:Int)-b2 (aD n jC)-b2 (aD n dA);omega,by show(n.keys.length:Int)-b2 (aD n jC)-b2 (aD n dA)<=1000000;omega⟩ i3];dsimp only;rw[show(⟨(l6 (l6 (f0 n) jC) dA).n,(l6 (l6 (f0 n) jC) dA).left-b2 (aD (l6 (l6 (f0 n) jC) dA).n lU),((l6 (l6 (f0 n) jC) dA).bad || !(bU (l6 (l6 (f0 n) jC) dA).n lU []))||Pp (aO (l6 (l6 (f0 n) jC) dA).n lU (Cc false))⟩:field)=tNx (l6 (l6 (f0 n) jC) dA) lU false from rfl];intro i4;rw[gW (tNx (l6 (l6 (f0 n) jC) dA) lU false) lV _ ⟨by show -1000000<=(n.keys.length:Int)-b2 (aD n jC)-b2 (aD n dA)-b2 (aD n lU);omega,by show(n.keys.length:Int)-b2 (aD n jC)-b2 (aD n dA)-b2 (aD n lU)<=1000000;omega⟩ i4];intro h;have hR:=J3 (VB n) (Nat.le_trans (hf jC [] (by decide)) (by decide));show(VB n,bif(bif(bif(!(plF n).bad)then((plF n).left==(0:Int))else false)then gv (gB (VB n))else false)then plK (aO n lV zI)else false)=(VB n,plB n)
 have h:(gB (VB n)).isSome=true\/(bif(!(plF n).bad)then((plF n).left==(0:Int))else false)=false:=h;unfold plB;rcases h with h | h
 ·rw[hR h]
 ·rw[h];rfl
theorem ajP(m:fZ):(vK m).1.source=m.source\/(vK m).1.source=[]:=by
 unfold vK;cases tJ m with
 | true=>exact .inl rfl
 | false=>exact .inr rfl
theorem axj{l:List (anP)}{B:Nat}(h:∀x∈l,x.length<=B)(ro:Bool):(JI l ro).1.source.length<=B:=by
 have hg:=qZ h 0;have hz:([]:anP).length<=B:=aas _;unfold JI;cases(l.length:Int)==1 with
 | true =>rcases ajP ⟨[],l.getD 0 [],ro⟩with e | e<;>(rw[cond_true,e];exact hz)
 | false =>
  cases(l.length:Int)==2 with
  | false=>rcases ajP ⟨[],[],ro⟩with e | e<;>(rw[cond_false,cond_false,e];exact hz)
  | true =>
   cases l.getD 0 []==[]with
   | true=>exact hz
   | false =>
    rcases ajP ⟨l.getD 0 [],l.getD 1 [],ro⟩with e | e<;>rw[cond_false,cond_true,cond_false,e]
    ·exact hg
    ·exact hz
theorem ady(s:anP):(nS s).1.source.length<=s.length:=by
 obtain⟨_,_,a3⟩:=D9 s 58 0 (-1);unfold nS;cases mEn s with
 | true=>exact axj (fun x hx=>a3 x (amF hx)) _
 | false=>exact axj a3 _
def moX(y:Node):fZ:=bif y.kind==1 then(nS y.text).1 else VB y
def moB(y:Node):Bool:=bif y.kind==1 then(nS y.text).2==0 else plB y
def moS:List Node->Node->Bool->Node×Bool
 | [],o,b=>(o,b)
 | y::t,o,b=>moS t (bf o (moX y).target (dz (oN (moX y)))) (bif b then true else !(moB y))
def VD:List (anP)->List Node->Node->Bool->Node×Bool
 | s::t,y::r,o,b=>VD t r (bf o s y) (bif b then true else(bif(bif(bif(y.kind != 1)then true else((nS y.text).2 != 0))then true else(!((nS y.text).1.target==s)))then true else(!(oN (nS y.text).1==y.text))))
 | _,_,o,b=>(o,b)
def moP(n:Node):Node×Bool:=bif qY n 2 then moS n.kids zn false else bif qY n 3 then VD n.keys n.kids zn false else(zn,true)
def Ta(n:Node):Node:=EN (moP n).1 (moP n).2
def Tc(n:Node):Int:=EO (moP n).1 (moP n).2
set_option maxHeartbeats 1000000 in
theorem af9(n:Node)(hk:n.keys.length<=100000)(hl:n.kids.length<=100000)(h3:n.kind=3->n.keys.length=n.kids.length)(hy:∀y∈n.kids,y.keys.length<=100000/\y.text.length<=100000/\∀k o,o.length<=100000->(aO y k o).length<=100000):(uq n).isSome=true->gv (uq n)=(Ta n,Tc n):=by
 refine part rfl (fun r=>r=(Ta n,Tc n)) (fun | .e y=>y=n | .h0 v0 v1 v2 _ _ v5=>v0=n.kids/\v1=(n.kids.length:Int)/\0<=v2/\v2<=v1/\moS (n.kids.drop v2.toNat) v5.n v5.bad=moP n | .h1 v0 v1 v2 v3 _ _ v6=>v3=n/\n.kind=3/\v0=n.keys/\v1=(n.keys.length:Int)/\0<=v2/\v2<=v1/\VD (n.keys.drop v2.toNat) (n.kids.drop v2.toNat) v6.n v6.bad=moP n) rfl ?_;rintro(y | ⟨v0,v1,v2,v3,v4,⟨o,bad⟩⟩ | ⟨v0,v1,v2,v3,v4,v5,⟨o,bad⟩⟩) hs'
 ·cases hs';simp only[aM,bg,nZ,rZ,aV,aG];simp only[dQ];have h2:=jN;have h4:=aiY
  (repeat' (first|intro _|apply And.intro))<;>grind[moP,Ta,Tc,aeh,rF,qY]
 ·obtain⟨rfl,rfl,h1,h2,h4⟩:=hs';simp only[aM,bg,nZ,iG,aV,aG];simp only[dQ];have e1:=@cO (v2+1);by_cases hi:v2<(n.kids.length:Int)
  ·rw[fJ n.kids Df.d h1 hi,moS]at h4;have h5:=LX hy h1 hi;have ed:n.kids.getD v2.toNat (dflt Ty.ah)=n.kids.getD v2.toNat (Df.d:Node):=rfl;rw[ed];generalize n.kids.getD v2.toNat Df.d=y at h4 h5 ⊢;have h6:=ajO y h5.1 h5.2.2;have h7:=S9 y.text (by omega);have h8:=Mj (nS y.text).1 (by have:=ady y.text;omega);have h9:=Mj (VB y) (Nat.le_trans (h5.2.2 jC [] (by decide)) (by decide));have h10:=fun b k v=>iC ⟨o,b⟩ k v
   (repeat' (first|intro _|apply And.intro))<;>grind[moX,moB]
  ·rw[iN n.kids (by omega),moS]at h4;have h5:=iH ⟨o,bad⟩
   (repeat' (first|intro _|apply And.intro))<;>grind[Ta,Tc]
 ·obtain⟨rfl,h0,rfl,rfl,h1,h2,h4⟩:=hs';have hkk:=h3 h0;simp only[aM,bg,nZ,iG,aV,aG];simp only[dQ];have e1:=@cO (v2+1);by_cases hi:v2<(v3.keys.length:Int)
  ·rw[fJ v3.keys Df.d h1 hi,fJ v3.kids Df.d h1 (by omega),VD]at h4;have h5:=LX hy (i:=v2) h1 (by omega);generalize v3.keys.getD v2.toNat Df.d=s at h4 ⊢;generalize v3.kids.getD v2.toNat Df.d=y at h4 h5 ⊢;have h7:=S9 y.text (by omega);have h8:=Mj (nS y.text).1 (by have:=ady y.text;omega);have h10:=fun b=>iC ⟨o,b⟩ s y
   (repeat' (first|intro _|apply And.intro))<;>grind
  ·rw[iN v3.keys (by omega),VD]at h4
   ·have h5:=iH ⟨o,bad⟩
    (repeat' (first|intro _|apply And.intro))<;>grind[Ta,Tc]
   ·intro a b c d e;cases e
end
section
def adz:anP:=[105,109,97,103,101]
def adA:anP:=[99,111,109,109,97,110,100]
def Zy:anP:=[101,110,118,105,114,111,110,109,101,110,116]
def Zz:anP:=[108,97,98,101,108,115]
def ZA:anP:=[112,111,114,116,115]
def OG:anP:=[118,111,108,117,109,101,115]
def OH:anP:=[110,101,116,119,111,114,107,115]
def OI:anP:=[112,114,111,102,105,108,101,115]
def ZB:anP:=[100,101,112,101,110,100,115,95,111,110]
def ZC:anP:=[101,120,116,101,110,100,115]
def ZE:anP:=[104,101,97,108,116,104,99,104,101,99,107]
def adB:anP:=[114,101,115,116,97,114,116]
def adC:anP:=[115,99,97,108,101]
def adD:anP:=[99,112,117,115]
def adE:anP:=[109,101,109,95,108,105,109,105,116]
def fdF(k:anP)(v:Node):Option (Node×Int) :=
 if k=adz then some (xO sZ v,xP sZ v)else if k=adA then some (DC v,wdE v)else if k=Zy then some (JX v true,JY v true)else if k=Zz then some (JX v false,JY v false)
 else if k=ZA then some (SX v,SY v)else if k=OG then some (Ta v,Tc v)else if k=OH then some (Gq v,Gs v)else if k=OI then some (Gq v,Gs v)else if k=ZB then some (dpV v,dpE v)
 else if k=ZC then some (exV v,Yi v)else if k=ZE then some (hP v)else if k=adB then some (xO vU v,xP vU v)else if k=adC then some (xO BR v,xP BR v)else if k=adD then some (xO BS v,xP BS v)
 else if k=adE then some (byV v,byE v)else none
def Km(k:anP):Bool:=[120,45].isPrefixOf k
def GR:List (anP)->List Node->Node->Node×anP×Int
 | k::ks,v::vs,o=>bif Km k then GR ks vs o else match fdF k v with
  | none=>(zn,k,10)
  | some r=>bif v.kind==0 then GR ks vs o else bif r.2 != 0 then(zn,k,r.2)else bif r.1.kind != 0 then GR ks vs (bf o k r.1)else GR ks vs o
 | _,_,o=>(dR 1000 o,[],0)
def CB(n:Node):Node×anP×Int:=bif n.kind==0 then(⟨3,[],[],[]⟩,[],0)else bif n.kind != 3 then(zn,[],10)else GR n.keys n.kids ⟨3,[],[],[]⟩
structure Fz (v:Node):Prop where
 line:(zi v).isSome=true->gv (zi v)=(xO sZ v,xP sZ v)
 words:(wE v).isSome=true->gv (wE v)=(DC v,wdE v)
 pairs:∀b,(wF v b).isSome=true->gv (wF v b)=(JX v b,JY v b)
 aDE:(sJ v).isSome=true->gv (sJ v)=(SX v,SY v)
 aBX:(uq v).isSome=true->gv (uq v)=(Ta v,Tc v)
 set:(nH v).isSome=true->gv (nH v)=(Gq v,Gs v)
 deps:(zm v).isSome=true->gv (zm v)=(dpV v,dpE v)
 ext:(rX v).isSome=true->gv (rX v)=(exV v,Yi v)
 health:(uj v).isSome=true->gv (uj v)=hP v
 restart:(rY v).isSome=true->gv (rY v)=(xO vU v,xP vU v)
 count:(wJ v).isSome=true->gv (wJ v)=(xO BR v,xP BR v)
 aFZ:(zu v).isSome=true->gv (zu v)=(xO BS v,xP BS v)
 bytes:(wM v).isSome=true->gv (wM v)=(byV v,byE v)
theorem axl(k:anP):sG k=some (Km k):=by obtain⟨h1,h2⟩:=Et k;exact WZ h1 fun _=>h2
end
section
theorem oZ{v o:Node}{k:anP}{ks:List (anP)}{vs:List Node}{m:Option (Node×Int)}{r0:Node×Int}{S:Node×anP×Int}{I:Node->Prop}(hm:m.isSome=true->gv m=r0)(hS:(bif v.kind==0 then GR ks vs o else bif r0.2 != 0 then(zn,k,r0.2)else bif r0.1.kind != 0 then GR ks vs (bf o k r0.1)else GR ks vs o)=S)(hI:∀o',GR ks vs o'=S->I o'):bif(v.kind==(0:Int))then(bif(v.kind != (0:Int))then(ck (fU o k v) True (I (bf o k v)))else I o)else(cl m True fun y=>bif(y.2 != (0:Int))then((⟨0,[],[],[]⟩:Node),k,y.2)=S else(bif(y.1.kind != (0:Int))then(ck (fU o k y.1) True (I (bf o k y.1)))else I o)):=by
 cases hk:v.kind==0 with
 | true =>rw[hk,cond_true]at hS;rw[cond_true,show(v.kind != 0)=false by rw[bne,hk];rfl,cond_false];exact hI o hS
 | false =>
  rw[hk,cond_false]at hS;rw[cond_false,pZ];intro i;rw[hm i];cases h2:r0.2 != 0 with
  | true=>rw[h2,cond_true]at hS;exact hS
  | false =>
   rw[h2,cond_false]at hS;rw[cond_false];cases h3:r0.1.kind != 0 with
   | true =>rw[h3,cond_true]at hS;rw[cond_true,pK];intro _;exact hI _ hS
   | false=>rw[h3,cond_false]at hS;exact hI _ hS
def yG(n:Node):jO->Prop
 | .e y=>y=n
 | .h0 v0 v1 v2 v3 _ _ v6=>v3=n/\n.kind=3/\v0=n.keys/\v1=(n.keys.length:Int)/\0<=v2/\v2<=v1/\GR (n.keys.drop v2.toNat) (n.kids.drop v2.toNat) v6=CB n
set_option maxHeartbeats 4000000 in
theorem as6(n:Node)(hk:n.keys.length<=100000)(h3:n.kind=3->n.keys.length=n.kids.length)(hy:∀y∈n.kids,Fz y)(v0:List (anP))(v1 v2:Int)(v3:Node)(v4:Int)(v5:anP)(o:Node)(h:yG n (.h0 v0 v1 v2 v3 v4 v5 o)):(fC (.h0 v0 v1 v2 v3 v4 v5 o)).run Prop (fun r=>r=CB n) (yG n) True:=by
 obtain⟨rfl,h0,rfl,rfl,h1,h2,h4⟩:=h;have hkk:=h3 h0;simp only[aM,bg,fC,aV,axl,aG];by_cases hi:v2<(v3.keys.length:Int)
 ·rw[decide_eq_true hi,cond_true,pI,pI];intro _ _ _ hj;rw[fJ v3.keys Df.d h1 hi,fJ v3.kids Df.d h1 hj,GR]at h4;have hf:=LX hy h1 hj;generalize v3.keys.getD v2.toNat Df.d=k at h4 ⊢;generalize v3.kids.getD v2.toNat Df.d=v at h4 hf ⊢;have e1:au (v2+1)=v2+1:=cO (by omega);rw[e1];have hI:∀o',GR (v3.keys.drop (v2+1).toNat) (v3.kids.drop (v2+1).toNat) o'=CB v3->yG v3 (.h0 v3.keys (v3.keys.length:Int) (v2+1) v3 v4 v5 o'):=fun o' h=>⟨rfl,h0,rfl,rfl,by omega,by omega,h⟩
  cases hfr:Km k with
  | true =>rw[hfr,cond_true]at h4;rw[cond_true];exact hI o h4
  | false =>
   rw[hfr,cond_false]at h4;rw[cond_false];unfold fdF at h4;by_cases agI:k=adz
   ·rw[if_pos agI]at h4;rw[show(k==([105,109,97,103,101]:anP))=true by rw[agI];rfl];exact oZ (I:=fun o'=>yG v3 (.h0 v3.keys (v3.keys.length:Int) (v2+1) v3 v4 v5 o')) (hf.line) h4 hI
   rw[if_neg agI]at h4;rw[show(k==([105,109,97,103,101]:anP))=false from afb.2 agI]
   try rw[cond_false]
   by_cases agJ:k=adA
   ·rw[if_pos agJ]at h4;rw[show(k==([99,111,109,109,97,110,100]:anP))=true by rw[agJ];rfl];exact oZ (I:=fun o'=>yG v3 (.h0 v3.keys (v3.keys.length:Int) (v2+1) v3 v4 v5 o')) (hf.words) h4 hI
   rw[if_neg agJ]at h4;rw[show(k==([99,111,109,109,97,110,100]:anP))=false from afb.2 agJ]
   try rw[cond_false]
   by_cases agK:k=Zy
   ·rw[if_pos agK]at h4;rw[show(k==([101,110,118,105,114,111,110,109,101,110,116]:anP))=true by rw[agK];rfl];exact oZ (I:=fun o'=>yG v3 (.h0 v3.keys (v3.keys.length:Int) (v2+1) v3 v4 v5 o')) (hf.pairs true) h4 hI
   rw[if_neg agK]at h4;rw[show(k==([101,110,118,105,114,111,110,109,101,110,116]:anP))=false from afb.2 agK]
   try rw[cond_false]
   by_cases agL:k=Zz
   ·rw[if_pos agL]at h4;rw[show(k==([108,97,98,101,108,115]:anP))=true by rw[agL];rfl];exact oZ (I:=fun o'=>yG v3 (.h0 v3.keys (v3.keys.length:Int) (v2+1) v3 v4 v5 o')) (hf.pairs false) h4 hI
   rw[if_neg agL]at h4;rw[show(k==([108,97,98,101,108,115]:anP))=false from afb.2 agL]
   try rw[cond_false]
   by_cases agM:k=ZA
   ·rw[if_pos agM]at h4;rw[show(k==([112,111,114,116,115]:anP))=true by rw[agM];rfl];exact oZ (I:=fun o'=>yG v3 (.h0 v3.keys (v3.keys.length:Int) (v2+1) v3 v4 v5 o')) (hf.aDE) h4 hI
   rw[if_neg agM]at h4;rw[show(k==([112,111,114,116,115]:anP))=false from afb.2 agM]
   try rw[cond_false]
   by_cases agN:k=OG
   ·rw[if_pos agN]at h4;rw[show(k==([118,111,108,117,109,101,115]:anP))=true by rw[agN];rfl];exact oZ (I:=fun o'=>yG v3 (.h0 v3.keys (v3.keys.length:Int) (v2+1) v3 v4 v5 o')) (hf.aBX) h4 hI
   rw[if_neg agN]at h4;rw[show(k==([118,111,108,117,109,101,115]:anP))=false from afb.2 agN]
   try rw[cond_false]
   by_cases agO:k=OH
   ·rw[if_pos agO]at h4;rw[show(k==([110,101,116,119,111,114,107,115]:anP))=true by rw[agO];rfl];exact oZ (I:=fun o'=>yG v3 (.h0 v3.keys (v3.keys.length:Int) (v2+1) v3 v4 v5 o')) (hf.set) h4 hI
   rw[if_neg agO]at h4;rw[show(k==([110,101,116,119,111,114,107,115]:anP))=false from afb.2 agO]
   try rw[cond_false]
   by_cases agP:k=OI
   ·rw[if_pos agP]at h4;rw[show(k==([112,114,111,102,105,108,101,115]:anP))=true by rw[agP];rfl];exact oZ (I:=fun o'=>yG v3 (.h0 v3.keys (v3.keys.length:Int) (v2+1) v3 v4 v5 o')) (hf.set) h4 hI
   rw[if_neg agP]at h4;rw[show(k==([112,114,111,102,105,108,101,115]:anP))=false from afb.2 agP]
   try rw[cond_false]
   by_cases agQ:k=ZB
   ·rw[if_pos agQ]at h4;rw[show(k==([100,101,112,101,110,100,115,95,111,110]:anP))=true by rw[agQ];rfl];exact oZ (I:=fun o'=>yG v3 (.h0 v3.keys (v3.keys.length:Int) (v2+1) v3 v4 v5 o')) (hf.deps) h4 hI
   rw[if_neg agQ]at h4;rw[show(k==([100,101,112,101,110,100,115,95,111,110]:anP))=false from afb.2 agQ]
   try rw[cond_false]
   by_cases agR:k=ZC
   ·rw[if_pos agR]at h4;rw[show(k==([101,120,116,101,110,100,115]:anP))=true by rw[agR];rfl];exact oZ (I:=fun o'=>yG v3 (.h0 v3.keys (v3.keys.length:Int) (v2+1) v3 v4 v5 o')) (hf.ext) h4 hI
   rw[if_neg agR]at h4;rw[show(k==([101,120,116,101,110,100,115]:anP))=false from afb.2 agR]
   try rw[cond_false]
   by_cases agS:k=ZE
   ·rw[if_pos agS]at h4;rw[show(k==([104,101,97,108,116,104,99,104,101,99,107]:anP))=true by rw[agS];rfl];exact oZ (I:=fun o'=>yG v3 (.h0 v3.keys (v3.keys.length:Int) (v2+1) v3 v4 v5 o')) (hf.health) h4 hI
   rw[if_neg agS]at h4;rw[show(k==([104,101,97,108,116,104,99,104,101,99,107]:anP))=false from afb.2 agS]
   try rw[cond_false]
   by_cases agT:k=adB
   ·rw[if_pos agT]at h4;rw[show(k==([114,101,115,116,97,114,116]:anP))=true by rw[agT];rfl];exact oZ (I:=fun o'=>yG v3 (.h0 v3.keys (v3.keys.length:Int) (v2+1) v3 v4 v5 o')) (hf.restart) h4 hI
   rw[if_neg agT]at h4;rw[show(k==([114,101,115,116,97,114,116]:anP))=false from afb.2 agT]
   try rw[cond_false]
   by_cases agU:k=adC
   ·rw[if_pos agU]at h4;rw[show(k==([115,99,97,108,101]:anP))=true by rw[agU];rfl];exact oZ (I:=fun o'=>yG v3 (.h0 v3.keys (v3.keys.length:Int) (v2+1) v3 v4 v5 o')) (hf.count) h4 hI
   rw[if_neg agU]at h4;rw[show(k==([115,99,97,108,101]:anP))=false from afb.2 agU]
   try rw[cond_false]
   by_cases agV:k=adD
   ·rw[if_pos agV]at h4;rw[show(k==([99,112,117,115]:anP))=true by rw[agV];rfl];exact oZ (I:=fun o'=>yG v3 (.h0 v3.keys (v3.keys.length:Int) (v2+1) v3 v4 v5 o')) (hf.aFZ) h4 hI
   rw[if_neg agV]at h4;rw[show(k==([99,112,117,115]:anP))=false from afb.2 agV]
   try rw[cond_false]
   by_cases agW:k=adE
   ·rw[if_pos agW]at h4;rw[show(k==([109,101,109,95,108,105,109,105,116]:anP))=true by rw[agW];rfl];exact oZ (I:=fun o'=>yG v3 (.h0 v3.keys (v3.keys.length:Int) (v2+1) v3 v4 v5 o')) (hf.bytes) h4 hI
   rw[if_neg agW]at h4;rw[show(k==([109,101,109,95,108,105,109,105,116]:anP))=false from afb.2 agW]
   try rw[cond_false]
   exact h4
 ·rw[decide_eq_false hi,cond_false,pK];intro _;rw[iN v3.keys (by omega),GR]at h4
  ·exact h4
  ·intro a b c d e;cases e
theorem ZF(n:Node)(hk:n.keys.length<=100000)(h3:n.kind=3->n.keys.length=n.kids.length)(hy:∀y∈n.kids,Fz y):(oQ n).isSome=true->gv (oQ n)=CB n:=by
 have h:(jP n).isSome=true->gv (jP n)=CB n:=by
  refine part rfl (fun r=>r=CB n) (yG n) rfl ?_;rintro(y | ⟨v0,v1,v2,v3,v4,v5,o⟩) hs
  ·have hs:y=n:=hs;subst hs;simp only[aM,bg,fC];have hp:CB y=(bif y.kind==0 then((⟨3,[],[],[]⟩:Node),([]:anP),(0:Int))else bif y.kind != 3 then(zn,[],10)else GR y.keys y.kids ⟨3,[],[],[]⟩):=rfl;cases h0:y.kind==0 with
   | true=>rw[h0]at hp;exact hp.symm
   | false =>
    rw[h0,cond_false]at hp;rw[cond_false];cases h1:y.kind != 3 with
    | true=>rw[h1]at hp;exact hp.symm
    | false =>rw[h1]at hp;exact⟨rfl,by simpa using h1,rfl,rfl,by decide,by omega,hp.symm⟩
  ·exact as6 n hk h3 hy v0 v1 v2 v3 v4 v5 o hs
 refine gQ rfl ?_;simp only[dQ,yw];intro i;rw[h i]
end
section
def Mk(l:List (anP)):anP:=Lib.join (l.filter fun s=>!(s==[])) [46]
theorem Td(l:List (anP))(hl:l.length<=1000000):(yM l).isSome=true->gv (yM l)=Mk l:=by
 refine part rfl (fun r=>r=Mk l) (fun | .e y=>y=l | .h0 v0 v1 v2 v3=>v1=l/\v2=(l.length:Int)/\0<=v3/\v3<=v2/\v0++((l.drop v3.toNat).filter fun s=>!(s==[]))=l.filter fun s=>!(s==[])) rfl ?_;rintro(y | ⟨v0,v1,v2,v3⟩) hs'
 ·cases hs';simp only[dQ,uf];exact⟨trivial,trivial,by decide,by omega,rfl⟩
 ·obtain⟨rfl,rfl,h1,h2,h3⟩:=hs';simp only[dQ,uf];have e1:=@cO (v3+1);by_cases hi:v3<(v1.length:Int)
  ·rw[fJ v1 Df.d h1 hi,List.filter_cons]at h3;generalize v1.getD v3.toNat Df.d=s at h3 ⊢
   (repeat' (first|intro _|apply And.intro))<;>grind[abJ,afa]
  ·rw[iN v1 (by omega),List.filter_nil,abR]at h3
   (repeat' (first|intro _|apply And.intro))<;>grind[Mk]
def jw:anP:=[115,101,114,118,105,99,101,115]
def Kn:List (anP)->List Node->Node->Node×anP×Int
 | k::ks,v::vs,o=>bif !(oh AO xL k)then(zn,Mk [jw,k],10)else bif(CB v).2.2 != 0 then(zn,Mk [jw,k,(CB v).2.1],(CB v).2.2)else bif(CB v).1.kind != 0 then Kn ks vs (bf o k (CB v).1)else Kn ks vs o
 | _,_,o=>(dR 1000 o,[],0)
def Ml(n:Node):Node×anP×Int:=bif n.kind==0 then(⟨3,[],[],[]⟩,[],0)else bif n.kind != 3 then(zn,[],10)else Kn n.keys n.kids ⟨3,[],[],[]⟩
def RY(n:Node):Node×anP×Int:=bif n.kind != 3 then(zn,jw,10)else bif(bif(Ml n).2.2==0 then decide ((16:Int)<((Ml n).1.keys.length:Int))else false)then(zn,jw,9)else Ml n
structure Fs (v:Node):Prop where
 keys:v.keys.length<=100000
 kids:v.kind=3->v.keys.length=v.kids.length
 fz:∀y∈v.kids,Fz y
set_option maxHeartbeats 1000000 in
theorem Xu(n:Node)(hk:n.keys.length<=100000)(h3:n.kind=3->n.keys.length=n.kids.length)(hs:∀s∈n.keys,s.length<=100000)(hy:∀y∈n.kids,Fs y):(kY n).isSome=true->gv (kY n)=RY n:=by
 have h:(jH n).isSome=true->gv (jH n)=Ml n:=by
  refine part rfl (fun r=>r=Ml n) (fun | .e y=>y=n | .h0 v0 v1 v2 v3 _ _ v6=>v3=n/\n.kind=3/\v0=n.keys/\v1=(n.keys.length:Int)/\0<=v2/\v2<=v1/\Kn (n.keys.drop v2.toNat) (n.kids.drop v2.toNat) v6=Ml n) rfl ?_;rintro(y | ⟨v0,v1,v2,v3,v4,v5,o⟩) hs'
  ·cases hs';simp only[dQ,gy]
   (repeat' (first|intro _|apply And.intro))<;>grind[Ml,aeh,rF]
  ·obtain⟨rfl,h0,rfl,rfl,h1,h2,h4⟩:=hs';have hkk:=h3 h0;simp only[aM,bg,gy,aV];simp only[dQ];have e1:=@cO (v2+1);by_cases hi:v2<(v3.keys.length:Int)
   ·rw[fJ v3.keys Df.d h1 hi,fJ v3.kids Df.d h1 (by omega),Kn]at h4;have h5:=qZ hs v2.toNat;have h6:=LX hy (i:=v2) h1 (by omega);generalize v3.keys.getD v2.toNat Df.d=k at h4 h5 ⊢;generalize v3.kids.getD v2.toNat Df.d=v at h4 h6 ⊢;have h7:=ZF v h6.keys h6.kids h6.fz;have h8:=oW k (by omega);have h9:=Td [[115,101,114,118,105,99,101,115],k] (by simp);have h10:=fun p=>Td [[115,101,114,118,105,99,101,115],k,p] (by simp)
    have ek:jw=[115,101,114,118,105,99,101,115]:=rfl;rw[h8]
    (repeat' (first|intro _|apply And.intro))<;>grind[dS,rF]
   ·rw[iN v3.keys (by omega),Kn]at h4
    ·(repeat' (first|intro _|apply And.intro))<;>grind
    ·intro a b c d e;cases e
 refine gQ rfl ?_;have ek:jw=[115,101,114,118,105,99,101,115]:=rfl;simp only[dQ,vT]
 (repeat' (first|intro _|apply And.intro))<;>grind[RY,rF]
end
section
def J4:anP:=[110,97,109,101]
def DI(k:anP)(v:Node):Node×anP×Int :=
 bif k==jw then RY v else bif k==J4 then(bif(bif v.kind != 1 then true else !(oh p1B U5 v.text))then(zn,k,10)else(v,[],0))else(Gq v,k,Gs v)
def Ym(k:anP):Bool:=(bif(bif(bif(!(k==J4))then(!(k==jw))else false)then(!(k==OH))else false)then(!(k==OG))else false)
def DJ:List (anP)->List Node->Node->Node×anP×Int
 | k::ks,v::vs,o=>bif Km k then DJ ks vs o else bif Ym k then(zn,k,10)else bif v.kind==0 then DJ ks vs o else bif(DI k v).2.2 != 0 then(zn,(DI k v).2.1,(DI k v).2.2)else bif(DI k v).1.kind != 0 then DJ ks vs (bf o k (DI k v).1)else DJ ks vs o
 | _,_,o=>(dR 1000 o,[],0)
def Ae(n:Node):Node×anP×Int:=bif n.kind==0 then(⟨3,[],[],[]⟩,[],0)else bif n.kind != 3 then(zn,[],10)else DJ n.keys n.kids ⟨3,[],[],[]⟩
def flP(n:Node):Node×anP×Int:=bif(bif(Ae n).2.2==0 then !(kW (Ae n).1)else false)then(zn,[],9)else Ae n
structure Fp (v:Node):Prop where
 ser:(kY v).isSome=true->gv (kY v)=RY v
 set:(nH v).isSome=true->gv (nH v)=(Gq v,Gs v)
 text:v.text.length<=100000
set_option maxHeartbeats 2000000 in
theorem aga(n:Node)(hk:n.keys.length<=100000)(h3:n.kind=3->n.keys.length=n.kids.length)(hy:∀y∈n.kids,Fp y)(hd:dp 13 (Ae n).1=true):(iB n).isSome=true->gv (iB n)=flP n:=by
 have h:(jv n).isSome=true->gv (jv n)=Ae n:=by
  refine part rfl (fun r=>r=Ae n) (fun | .e y=>y=n | .h0 v0 v1 v2 v3 _ _ v6=>v3=n/\n.kind=3/\v0=n.keys/\v1=(n.keys.length:Int)/\0<=v2/\v2<=v1/\DJ (n.keys.drop v2.toNat) (n.kids.drop v2.toNat) v6=Ae n) rfl ?_;rintro(y | ⟨v0,v1,v2,v3,v4,v5,o⟩) hs'
  ·cases hs';simp only[dQ,iA]
   (repeat' (first|intro _|apply And.intro))<;>grind[Ae,aeh,rF]
  ·obtain⟨rfl,h0,rfl,rfl,h1,h2,h4⟩:=hs';have hkk:=h3 h0;simp only[aM,bg,iA,aV,axl,aG];have e1:=@cO (v2+1);by_cases hi:v2<(v3.keys.length:Int)
   ·rw[decide_eq_true hi,cond_true,pI,pI];intro _ _ _ hj;rw[fJ v3.keys Df.d h1 hi,fJ v3.kids Df.d h1 hj,DJ]at h4;have h6:=LX hy (i:=v2) h1 (by omega);generalize v3.keys.getD v2.toNat Df.d=k at h4 ⊢;generalize v3.kids.getD v2.toNat Df.d=v at h4 h6 ⊢;rw[e1 (by omega)];have eK:(bif(bif(bif(!(k==([110,97,109,101]:anP)))then(!(k==([115,101,114,118,105,99,101,115]:anP)))else false)then(!(k==([110,101,116,119,111,114,107,115]:anP)))else false)then(!(k==([118,111,108,117,109,101,115]:anP)))else false)=Ym k:=rfl;rw[eK,ac7 v.text (by have:=h6.text;omega),dS];have eS:([115,101,114,118,105,99,101,115]:anP)=jw:=rfl;have eN:([110,97,109,101]:anP)=J4:=rfl;rw[eS,eN];have h7:=h6.ser;have h8:=h6.set;have hI:∀o',DJ (v3.keys.drop (v2+1).toNat) (v3.kids.drop (v2+1).toNat) o'=Ae v3->0<=v2+1/\v2+1<=(v3.keys.length:Int)/\DJ (v3.keys.drop (v2+1).toNat) (v3.kids.drop (v2+1).toNat) o'=Ae v3:=fun o' h=>⟨by omega,by omega,h⟩
    simp only[dQ];unfold DI at h4
    (repeat' (first|intro _|apply And.intro))<;>grind[rF]
   ·rw[decide_eq_false hi,cond_false,pK];intro _;rw[iN v3.keys (by omega),DJ]at h4
    ·exact h4
    ·intro a b c d e;cases e
 refine gQ rfl ?_;have h5:=Vi (Ae n).1 hd;simp only[dQ,D8]
 (repeat' (first|intro _|apply And.intro))<;>grind[flP,rF]
end
section
def sn:Nat->Node->Prop
 | 0,_=>False
 | d+1,x=>((x.keys.length<=300/\x.kids.length<=300)/\(x.kind=3->x.keys.length=x.kids.length)/\x.text.length<=30000/\∀k∈x.keys,k.length<=30000)/\((0<=x.kind/\x.kind<=3)/\(x.kind≠1->x.text=[])/\(x.kind≠3->x.keys=[])/\(x.kind<2->x.kids=[]))/\∀y∈x.kids,sn d y
theorem axo{d:Nat}{x:Node}(h:sn (d+1) x)(h0:x.kind=0):x=zn:=by obtain⟨_,⟨_,h1,h2,h3⟩,_⟩:=h;obtain⟨k,t,ks,vs⟩:=x;have h0:k=0:=h0;subst h0;have e1:t=[]:=h1 (show(0:Int)≠1 by decide);have e2:ks=[]:=h2 (show(0:Int)≠3 by decide);have e3:vs=[]:=h3 (show(0:Int)<2 by decide);rw[e1,e2,e3];rfl
theorem as7{d:Nat}{x:Node}(h:sn (d+1) x)(h0:x.kind=1):x=dz x.text:=by obtain⟨_,⟨_,h1,h2,h3⟩,_⟩:=h;obtain⟨k,t,ks,vs⟩:=x;have h0:k=1:=h0;subst h0;have e2:ks=[]:=h2 (show(1:Int)≠3 by decide);have e3:vs=[]:=h3 (show(1:Int)<2 by decide);rw[e2,e3];rfl
theorem ajQ:∀{l:List Node} {t:List (anP)},lJ l=some t->t=l.map Node.text
 | [],t,h=>by cases h;rfl
 | x::l,t,h=>by
  rw[lJ]at h;cases hk:x.kind != 1 with
  | true=>rw[hk]at h;cases h
  | false =>
   rw[hk,cond_false]at h;cases ht:lJ l with
   | none=>rw[ht]at h;cases h
   | some u=>rw[ht]at h;cases h;rw[ajQ ht];rfl
theorem azE(n:Node):bH n=[]\/bH n=n.kids.map Node.text:=by
 unfold bH;cases h:lJ n.kids with
 | none=>exact .inl rfl
 | some t=>exact .inr (ajQ h)
theorem P5{d:Nat}{n:Node}(h:sn (d+2) n):(bH n).length<=300/\∀s∈bH n,s.length<=30000:=by
 rcases azE n with e | e<;>rw[e]
 ·exact⟨aas _,fun s hs=>by cases hs⟩
 ·refine⟨by rw[List.length_map];exact h.1.1.2,fun s hs=>?_⟩;obtain⟨y,hy,rfl⟩:=List.mem_map.1 hs;exact(h.2.2 y hy).1.2.2.1
theorem P6(n:Node)(k:anP):aJ n k=zn\/aJ n k∈n.kids:=by
 cases hg:aD n k with
 | true=>exact .inr (xZ hg)
 | false =>
  left;unfold aD at hg;unfold aJ;cases hq:get n k with
  | none=>rfl
  | some x=>rw[hq]at hg;cases hg
theorem adF{d:Nat}{n:Node}(h:sn (d+2) n)(k o:anP)(B:Nat)(hB:30000<=B)(ho:o.length<=B):(aO n k o).length<=B:=by
 unfold aO;cases !(aD n k)with
 | true=>exact ho
 | false =>
  rw[cond_false];rcases P6 n k with e | e
  ·rw[e];exact aas _
  ·exact Nat.le_trans (h.2.2 _ e).1.2.2.1 hB
theorem aBY{d:Nat}{v:Node}(h:sn (d+2) v):(∀s∈rG v,s.length<=1000000)/\(rG v).length<=1000000:=by
 obtain⟨t1,t2⟩:=P5 h;unfold rG;cases qY v 3 with
 | true=>exact⟨fun s hs=>Nat.le_trans (h.1.2.2.2 s hs) (by decide),Nat.le_trans h.1.1.1 (by decide)⟩
 | false=>exact⟨fun s hs=>Nat.le_trans (t2 s hs) (by decide),Nat.le_trans t1 (by decide)⟩
theorem axp{d:Nat}{v:Node}(h:sn (d+4) v):Fz v:=by
 obtain⟨t1,t2⟩:=P5 h;obtain⟨s1,s2⟩:=aBY h;have h':sn (d+4) v:=h;obtain⟨⟨⟨a1,a2⟩,a3,a4,a5⟩,_,a6⟩:=h;have big:∀{n m:Nat},n<=m->m<=100000->n<=1000000:=fun h1 h2=>by omega
 have hyk:∀y∈v.kids,y.keys.length<=100000/\y.text.length<=100000/\∀k o,o.length<=100000->(aO y k o).length<=100000:=fun y hy=>by have hs:=a6 y hy;exact⟨Nat.le_trans hs.1.1.1 (by decide),Nat.le_trans hs.1.2.2.1 (by decide),fun k o ho=>adF hs k o 100000 (by decide) ho⟩
 have hvt:=P6 v bR;have hkt:(aJ v bR).kids.length<=300/\(bH (aJ v bR)).length<=300/\∀s∈bH (aJ v bR),s.length<=30000:=by
  rcases hvt with e | e
  ·rw[e];exact⟨by decide,by decide,fun s hs=>by cases hs⟩
  ·have hs:=a6 _ e;exact⟨hs.1.1.2,(P5 hs).1,(P5 hs).2⟩
 refine⟨alY v,ajM v (by omega) (by omega) (by omega),fun b=>aiZ v b (by omega) (by omega) a3 (fun s hs=>by have:=t2 s hs;omega) (by omega) (fun s hs=>by have:=a5 s hs;omega),ajN v (by omega) (by omega) a3 (fun s hs=>by have:=a5 s hs;omega) hyk,af9 v (by omega) (by omega) a3 hyk,apU v (by omega) (by omega) s1 s2,?_,?_,af4 v (by omega) (fun k o ho=>adF h' k o 1000000 (by decide) ho) (by omega) (by omega) (fun s hs=>by have:=hkt.2.2 s hs;omega),ads v (by omega),ajy v (by omega),al1 v (by omega),ajF v (by omega)⟩
 ·refine alT v (by omega) ?_ ?_ (fun y hy=>⟨(hyk y hy).1,axo (a6 y hy)⟩)
  ·unfold ES;cases qY v 3 with
   | true=>exact fun s hs=>by have:=a5 s hs;omega
   | false=>exact fun s hs=>by have:=t2 s hs;omega
  ·unfold ES;cases qY v 3 with
   | true=>show v.keys.length<=_;omega
   | false=>show(bH v).length<=_;omega
 ·refine adp v ?_ (as7 h') ?_
  ·unfold jg;cases v.kind==1 with
   | true=>show 1<=_;omega
   | false=>show v.keys.length<=_;omega
  ·unfold jg;cases hk:v.kind==1 with
   | false=>exact adF h' jf [] 1000000 (by decide) (by decide)
   | true =>
    rw[cond_true];unfold aO;cases !(aD ⟨3,[],[jf],[v]⟩ jf)with
    | true=>exact aas _
    | false =>
     rw[cond_false];rcases P6 ⟨3,[],[jf],[v]⟩ jf with e | e
     ·rw[e];exact aas _
     ·rw[List.mem_singleton.1 e];omega
theorem aDF{d:Nat}{v:Node}(h:sn (d+5) v):Fs v:=⟨Nat.le_trans h.1.1.1 (by decide),h.1.2.1,fun y hy=>axp (h.2.2 y hy)⟩
theorem aDG{d:Nat}{v:Node}(h:sn (d+6) v):Fp v:=⟨Xu v (Nat.le_trans h.1.1.1 (by decide)) h.1.2.1 (fun s hs=>Nat.le_trans (h.1.2.2.2 s hs) (by decide)) (fun y hy=>aDF (h.2.2 y hy)),(axp h).set,Nat.le_trans h.1.2.2.1 (by decide)⟩
theorem anw{d:Nat}{n:Node}(h:sn (d+7) n)(hd:dp 13 (Ae n).1=true):(iB n).isSome=true->gv (iB n)=flP n:=aga n (Nat.le_trans h.1.1.1 (by decide)) h.1.2.1 (fun y hy=>aDG (h.2.2 y hy)) hd
end
section
theorem sort_k{B:Nat}:∀(n k:Nat) (x:Node),wg B n x=true->dR (n+k) x=dR n x
 | 0,_,_,h=>by cases h
 | n+1,k,x,h=>by
  have hx:=eZ.1 h;rw[show n+1+k=(n+k)+1 by omega];unfold dR;cases(x.kids.length:Int)==0 with
  | true=>rfl
  | false =>
   rw[cond_false,cond_false];cases hk:x.kind != 3 with
   | true =>rw[cond_true,cond_true];congr 1;exact ajo fun y hy=>sort_k n k y (hx.2.2.2 y hy)
   | false =>
    rw[cond_false,cond_false];congr 1;refine ajo fun s _=>?_
    rcases P6 x s with e | e
    ·rw[e];cases n with
     | zero=>cases k<;>rfl
     | succ n=>rw[show n+1+k=(n+k)+1 by omega];rfl
    ·exact sort_k n k _ (hx.2.2.2 _ e)
end
section
theorem VE(x:Nat)(hx:x<18446744073709551616):tQ (x:Int)=some (JZ x):=by
 refine iY rfl (fun | .e y=>y=(x:Int) | .h0 v0 v1=>∃f u:Nat,v0=(u:Int)/\u<10 ^ (f+1)/\u<18446744073709551616/\v1.length+f<=1000/\oF (f+1) u++v1=JZ x) (fun | .e _=>100000000000000000000000000000 | .h0 v0 v1=>v0.toNat) rfl (by show 100000000000000000000000000000<_;omega) ?_;rintro(y | ⟨v0,v1⟩) hs'
 ·cases hs';refine⟨⟨19,x,rfl,?_,hx,by decide,by rw[abR];rfl⟩,?_⟩
  ·have:(10:Nat) ^ (19+1)=100000000000000000000:=by decide
   omega
  ·show((x:Int)).toNat<100000000000000000000000000000;omega
 ·obtain⟨f,u,rfl,h2,h3,h4,h5⟩:=hs';simp only[aM,bg,tO,ae6,aha,aay];rw[dT (show 1+v1.length<=aA by rw[ms];omega)];rw[oF]at h5;by_cases hu:u<10
  ·rw[if_pos hu]at h5;rw[dF (by omega),cond_false,ak,aqh (by omega) (by omega),aam];exact h5
  ·rw[if_neg hu]at h5;rw[dT (by omega),cond_true,show(!((10:Int)==0))=true from rfl,ak,ak,ak];have e1:Int.tmod (u:Int) 10=((u%10:Nat):Int):=rfl;have e2:Int.tdiv (u:Int) 10=((u / 10:Nat):Int):=rfl;rw[e1,e2,aqh (by omega) (by omega),AB (by omega) (by omega),aam];have h10:10 ^ (f+1)=10*10 ^ f:=by rw[Nat.pow_succ,amE]
   obtain⟨f,rfl⟩:∃k,f=k+1:=by
    rcases Nat.eq_zero_or_pos f with rfl | h
    ·exfalso;rw[h10]at h2;simp at h2;omega
    ·exact⟨f-1,by omega⟩
   refine⟨⟨f,u / 10,rfl,by omega,by omega,by rw[List.length_append,aay];omega,by rw[<- h5,abJ]⟩,?_⟩;show((u / 10:Nat):Int).toNat<(u:Int).toNat;omega
theorem GU(n:Int)(h : -9223372036854775808<=n/\n<=9223372036854775807):fQ n=some (bq n):=by
 refine dB rfl ?_;simp only[aM,bg,wT,bq];by_cases hn:n<0
 ·have e:IntKind.wrap .u64 ((0:Int)-IntKind.wrap .u64 n)=(((-n).toNat:Nat):Int):=by rw[wu64,wu64];omega
  have hl:(JZ (-n).toNat).length<=20:=Nt 20 _;rw[dT hn,e,VE _ (by omega)];simp only[cond_true,aG];rw[dT (show[(45:UInt8)].length+(JZ (-n).toNat).length<=aA by rw[ms,aay];omega),ak];rfl
 ·have e:IntKind.wrap .u64 n=((n.toNat:Nat):Int):=by rw[wu64];omega
  rw[dF hn,e,VE _ (by omega)];simp only[cond_false,aG]
def av1(h v:anP):Int×Int:=bif(bif decide ((9007199254740:Int)<(bC h 0:Int))then true else decide ((9007199254740992:Int)<(bC h 0:Int)*1000+(bC (Zv v) 0:Int)))then(0,9)else((bC h 0:Int)*1000+(bC (Zv v) 0:Int),0)
def mlI(s:anP):pO->Prop
 | .e y=>y=s
 | .h0 v0 v1=>v0=s/\∃i:Nat,v1=(i:Int)/\i<=s.length/\iO 46 s=i+iO 46 (s.drop i)
 | .h1 v0 v1 v2 v3=>v0=s/\∃a i:Nat,v1=(a:Int)/\a<=s.length/\eF (s.take a)=true/\v3=(i:Int)/\i<=v2.length/\v2.length<=3/\(v2.take i).all eP=true/\Mf (s.take a) v2=GK s
 | .h2 v0 v1 v2=>v0=s/\∃a:Nat,v1=(a:Int)/\a<=s.length/\eF (s.take a)=true/\v2.length<=3/\v2.all eP=true/\av1 (s.take a) v2=GK s
def mlM(s:anP):pO->Nat
 | .e _=>10000000000
 | .h0 _ v1=>3000000000+((s.length:Int)-v1).toNat
 | .h1 _ _ v2 v3=>2000000000+((v2.length:Int)-v3).toNat
 | .h2 _ _ v2=>3-v2.length
theorem al3(s:anP)(hs:s.length<=1000000):u6 s=some (GK s):=by
 refine iY rfl (mlI s) (mlM s) rfl (by show 10000000000<_;omega) ?_;rintro(y | ⟨v0,v1⟩ | ⟨v0,v1,v2,v3⟩ | ⟨v0,v1,v2⟩) hs'
 ·have hs':y=s:=hs';subst hs';refine⟨⟨rfl,0,rfl,aas _,by rw[aeh,aeY]⟩,?_⟩;show 3000000000+((y.length:Int)-0).toNat<10000000000;omega
 ·obtain⟨rfl,i,rfl,h1,h2⟩:=hs';have nw:eF (v0.take i)=false->Mf (v0.take i) (uQ v0)=(0,3):=fun g=>by
   unfold Mf;rw[g];cases(uQ v0).all eP<;>rfl
  have ct0:cut v0 0 (i:Int)=v0.take i:=by simp[cut]
  have ck0:bM v0 0 (i:Int)=true:=by simp[bM];omega
  have hw:=Je (v0.take i) (by rw[aeb];omega);simp only[aM,bg,lQ,aam];by_cases hi:i<v0.length
  ·have hx:(decide ((0:Int)<=(i:Int))&&decide ((i:Int)<(v0.length:Int)))=true:=by simp;omega
   rw[dT (show(i:Int)<(v0.length:Int) by omega)]at *;rw[show decide ((0:Int)<=(i:Int))=true from dT (by omega)];simp only[abW,abZ,ak,cond_true];cases hc:((((v0.getD i 0).toNat:Nat):Int)!=46)with
   | true =>
    rw[cond_true,cO (by omega)];refine⟨⟨rfl,i+1,rfl,by omega,?_⟩,?_⟩
    ·rw[h2,drop_at hi,iO,show((((v0.getD i 0).toNat:Nat):Int)==46)=false by simpa using hc,cond_false];omega
    ·show 3000000000+((v0.length:Int)-((i:Int)+1)).toNat<3000000000+((v0.length:Int)-(i:Int)).toNat;omega
   | false =>
    have hq:((((v0.getD i 0).toNat:Nat):Int)==46)=true:=by simpa using hc
    have hf:iO 46 v0=i:=by rw[h2,drop_at hi,iO,hq,cond_true];omega
    have hA:yX v0=v0.take i:=by unfold yX;rw[hf]
    have hB:uQ v0=v0.drop (i+1):=by unfold uQ;rw[hf]
    have hC:SI v0=true:=by unfold SI;rw[hf];exact dT hi
    have hB2:cut v0 ((i:Int)+1) (v0.length:Int)=uQ v0:=by rw[hB];unfold cut;rw[show((i:Int)+1).toNat=i+1 by omega,aam];exact aeM (by rw[abP];exact abH _)
    have ck1:bM v0 ((i:Int)+1) (v0.length:Int)=true:=by simp[bM];omega
    have ht:(uQ v0).length<=1000000:=by rw[hB,abP];omega
    obtain⟨l1,l2⟩:=axe ht;have hP:GK v0=bif Vu (uQ v0)then(0,3)else Mf (v0.take i) (uQ v0):=by unfold GK;rw[hC,hA];rfl
    rw[cond_false,cO (by omega),ck1,ak,hB2,l1,ak,l2,ck0,ak,ct0,hw];simp only[aG];cases hb:Vu (uQ v0)with
    | true=>rw[hb]at hP;exact hP.symm
    | false =>
     rw[hb]at hP;have hP:GK v0=Mf (v0.take i) (uQ v0):=hP;rw[cond_false];cases hw2:eF (v0.take i)with
     | false=>rw[hP,nw hw2];rfl
     | true =>have h3:=anp hb;refine⟨⟨rfl,i,0,rfl,h1,hw2,rfl,aas _,h3,rfl,hP.symm⟩,?_⟩;show 2000000000+(((uQ v0).length:Int)-0).toNat<3000000000+((v0.length:Int)-(i:Int)).toNat;omega
  ·have hf:iO 46 v0=i:=by rw[h2,aa7 (by omega)];rfl
   have hC:SI v0=false:=by unfold SI;exact dF (by omega)
   have hA:yX v0=v0.take i:=by unfold yX;rw[hf]
   have hP:GK v0=Mf (v0.take i) []:=by unfold GK;rw[hC,hA,ajz hC];rfl
   rw[ajz hC]at nw;rw[dF (show ¬ (i:Int)<(v0.length:Int) by omega)];simp only[ajC,aem,ahV,ak,cond_false,ck0,ct0,hw,aG];cases hw2:eF (v0.take i)with
   | false=>rw[hP,nw hw2];rfl
   | true =>refine⟨⟨rfl,i,0,rfl,h1,hw2,rfl,aas _,aas _,rfl,hP.symm⟩,?_⟩;show 2000000000+((([]:anP).length:Int)-0).toNat<3000000000+((v0.length:Int)-(i:Int)).toNat;show 2000000000+0<_;omega
 ·obtain⟨rfl,a,i,rfl,h1,hw,rfl,h2,h3,h4,h5⟩:=hs';simp only[aM,bg,lQ];by_cases hi:i<v2.length
  ·rw[dT (show(i:Int)<(v2.length:Int) by omega),cond_true,wS];refine⟨by omega,by omega,?_⟩;simp only[aam,dT (show(0:Int)<=(i:Int) by omega),abW,abZ,ak,Pq];cases hc:eP (v2.getD i 0)with
   | false =>
    have:v2.all eP=false:=by rw[<- ahb i v2,List.all_append,drop_at hi,aeQ,hc,ajJ,ajC]
    unfold Mf at h5;rw[this]at h5;exact h5
   | true =>
    rw[abI,cond_false,cO (by omega)];refine⟨⟨rfl,a,i+1,rfl,h1,hw,rfl,by omega,h3,?_,h5⟩,?_⟩
    ·rw[ag8 hi,List.all_append,h4];have:v2.getD i 0=v2[i]:=by rw[List.getD,aac hi];rfl
     rw[this]at hc;simp[hc]
    ·show 2000000000+((v2.length:Int)-((i:Int)+1)).toNat<2000000000+((v2.length:Int)-(i:Int)).toNat;omega
  ·have hall:v2.all eP=true:=by rwa[aeM (by omega)]at h4
   rw[dF (show ¬ (i:Int)<(v2.length:Int) by omega),cond_false];refine⟨⟨rfl,a,rfl,h1,hw,h3,hall,?_⟩,?_⟩
   ·rw[<- h5];unfold Mf;rw[hall,hw];rfl
   ·show 3-v2.length<2000000000+_;omega
 ·obtain⟨rfl,a,rfl,h1,hw,h3,hall,h5⟩:=hs';have ct0:cut v0 0 (a:Int)=v0.take a:=by simp[cut]
  have ck0:bM v0 0 (a:Int)=true:=by simp[bM];omega
  simp only[aM,bg,lQ];by_cases hl:v2.length<3
  ·rw[dT (show(v2.length:Int)<3 by omega),cond_true,dT (show v2.length+([48]:anP).length<=aA by rw[ms,aay];omega),ak];refine⟨⟨rfl,a,rfl,h1,hw,by rw[List.length_append,aay];omega,by rw[List.all_append,hall];rfl,?_⟩,?_⟩
   ·rw[<- h5];unfold av1 Zv;rw[List.length_append,aay,abJ,show 3-v2.length=(3-(v2.length+1))+1 by omega,List.replicate_succ];rfl
   ·show 3-(v2++[48]).length<3-v2.length;rw[List.length_append,aay];omega
  ·have hp:Zv v2=v2:=by unfold Zv;rw[show 3-v2.length=0 by omega];simp
   have hv:bC v2 0<1000:=by have:=anl v2 0 hall;rw[show v2.length=3 by omega]at this;simpa using this
   have hd:(v0.take a).all eP=true:=by unfold eF at hw;rw[abG]at hw;exact hw.2
   have v1:=Jf (v0.take a) (by rw[aeb];omega) hd;have v2':=Jf v2 (by omega) hall;rw[dF (show ¬ (v2.length:Int)<3 by omega),cond_false,ck0,ak,ct0,v1,v2'];simp only[aG,aeL,abZ,ak,dS];unfold iZ;rw[BP (show bC v2 0<72057594037927936 by omega),<- h5];unfold av1;rw[hp];by_cases hx:(9007199254740:Int)<(bC (v0.take a) 0:Int)
   ·have:(9007199254740:Int)<LY (bC (v0.take a) 0):=by
     by_cases h7:bC (v0.take a) 0<72057594037927936
     ·rw[BP h7];exact hx
     ·rw[Pt h7];decide
    rw[dT this,dT hx];rfl
   ·rw[BP (show bC (v0.take a) 0<72057594037927936 by omega),dF hx];have e2:au ((bC (v0.take a) 0:Int)*1000)=(bC (v0.take a) 0:Int)*1000:=aU (by omega) (by omega);have e3:au ((bC (v0.take a) 0:Int)*1000+(bC v2 0:Int))=(bC (v0.take a) 0:Int)*1000+(bC v2 0:Int):=aU (by omega) (by omega);simp only[e2,e3,cond_false];cases decide ((9007199254740992:Int)<(bC (v0.take a) 0:Int)*1000+(bC v2 0:Int))<;>rfl
end
section
def yZ(s:anP):Int:=bif SQ s then 1 else bif SK s then 1024 else bif SL s then 1048576 else bif SN s then 1073741824 else 0
def rzP(s:anP):Int×Int:=bif(bif yZ (s.drop (fu s))==0 then true else !(eF (s.take (fu s))))then(0,3)else
 bif decide (Int.tdiv 1125899906842624 (yZ (s.drop (fu s)))<iZ (s.take (fu s)))then(0,9)else(iZ (s.take (fu s))*yZ (s.drop (fu s)),0)
def rzV(s:anP):Int:=(rzP s).1
def rzE(s:anP):Int:=(rzP s).2
theorem axv(s:anP):yZ s=0\/yZ s=1\/yZ s=1024\/yZ s=1048576\/yZ s=1073741824:=by unfold yZ;cases SQ s<;>cases SK s<;>cases SL s<;>cases SN s<;>simp
theorem aBZ(c:UInt8):(bif decide ((48:Int)<=((c.toNat:Nat):Int))then decide (((c.toNat:Nat):Int)<=57)else false)=eP c:=by
 unfold eP;by_cases h:48<=c.toNat
 ·rw[dT (by omega),dT (show 48<=c.toNat from h),cond_true,aeP];exact decide_eq_decide.2 (by omega)
 ·rw[dF (by omega),dF (show ¬ 48<=c.toNat from h)];rfl
def av2(n:Int):Int:=bif(bif decide (n<0)then true else decide ((1125899906842624:Int)<n))then 0 else bif kM n==0 then 1 else bif kM n==1 then 1024 else bif kM n==2 then 1048576 else 1073741824
theorem aqn(s:anP):ET s=some (yZ s):=by refine dB rfl ?_;unfold yZ SQ SK SL SN;simp only[aM,bg,wQ];cases(bif s==[]then true else s==[98])<;>cases(bif s==[107]then true else s==[107,98])<;>cases(bif s==[109]then true else s==[109,98])<;>cases(bif s==[103]then true else s==[103,98])<;>rfl
theorem Fw(s:anP)(i:Nat):cut s 0 (i:Int)=s.take i:=by simp[cut]
theorem zy(s:anP)(i:Nat):cut s (i:Int) (s.length:Int)=s.drop i:=by unfold cut;rw[aam,aam];exact aeM (by rw[abP];exact abH _)
theorem Ig{s:anP}{i:Nat}(h:i<=s.length):bM s 0 (i:Int)=true:=by simp[bM];omega
theorem Ih{s:anP}{i:Nat}(h:i<=s.length):bM s (i:Int) (s.length:Int)=true:=by simp[bM];omega
theorem ajR{s:anP}{i:Nat}(hi:i<=s.length)(h:fu s=i+fu (s.drop i)) :
  ((bif(bif decide ((i:Int)<(s.length:Int))then decide ((48:Int)<=(((List.getD s i 0).toNat:Nat):Int))else false)then decide ((((List.getD s i 0).toNat:Nat):Int)<=57)else false)=true/\i<s.length/\eP (s.getD i 0)=true/\fu s=(i+1)+fu (s.drop (i+1))) \/
  ((bif(bif decide ((i:Int)<(s.length:Int))then decide ((48:Int)<=(((List.getD s i 0).toNat:Nat):Int))else false)then decide ((((List.getD s i 0).toNat:Nat):Int)<=57)else false)=false/\fu s=i):=by
 by_cases hl:i<s.length
 ·rw[drop_at hl,fu]at h;rw[dT (show(i:Int)<(s.length:Int) by omega),cond_true,aBZ];cases hd:eP (s.getD i 0)with
  | true=>rw[hd,cond_true]at h;exact .inl ⟨rfl,hl,rfl,by omega⟩
  | false=>rw[hd,cond_false]at h;exact .inr ⟨rfl,by omega⟩
 ·rw[aa7 (by omega)]at h;rw[dF (show ¬ (i:Int)<(s.length:Int) by omega)];exact .inr ⟨rfl,h⟩
theorem ckD(i:Nat)(s:anP)(b:Bool):((decide ((0:Int)<=(i:Int))&&decide ((i:Int)<(s.length:Int))) || !(bif decide ((i:Int)<(s.length:Int))then b else false))=true/\((decide ((0:Int)<=(i:Int))&&decide ((i:Int)<(s.length:Int))) || !(decide ((i:Int)<(s.length:Int))))=true:=by rw[dT (show(0:Int)<=(i:Int) by omega)];cases decide ((i:Int)<(s.length:Int))<;>cases b<;>exact⟨rfl,rfl⟩
theorem anx:∀s:anP,(s.take (fu s)).all eP=true
 | []=>rfl
 | c::t=>by
  unfold fu;cases hc:eP c with
  | true=>rw[cond_true,List.take_succ_cons,aeQ,hc,anx t];rfl
  | false=>rfl
theorem al4(s:anP)(hs:s.length<=1000000):vg s=some (rzP s):=by
 refine iY rfl (fun | .e y=>y=s | .h0 v0 v1=>v0=s/\∃i:Nat,v1=(i:Int)/\i<=s.length/\fu s=i+fu (s.drop i)) (fun | .e _=>10000000000 | .h0 _ v1=>((s.length:Int)-v1).toNat) rfl (by show 10000000000<_;omega) ?_;rintro(y | ⟨v0,v1⟩) hs'
 ·cases hs';refine⟨⟨rfl,0,rfl,aas _,by rw[aeh,aeY]⟩,?_⟩;show((s.length:Int)-0).toNat<10000000000;omega
 ·obtain⟨rfl,i,rfl,h1,h2⟩:=hs';simp only[aM,bg,u7,aam,ckD,(ckD i v0 false).2,ak];rcases ajR h1 h2 with⟨e,hl,_,h3⟩ | ⟨e,h3⟩
  ·rw[e,cond_true,cO (by omega)];refine⟨⟨trivial,i+1,rfl,by omega,h3⟩,?_⟩;show((v0.length:Int)-((i:Int)+1)).toNat<((v0.length:Int)-(i:Int)).toNat;omega
  ·rw[e,cond_false];have hr:rzP v0=bif(bif yZ (v0.drop i)==0 then true else !(eF (v0.take i)))then(0,3)else bif decide (Int.tdiv 1125899906842624 (yZ (v0.drop i))<iZ (v0.take i))then(0,9)else(iZ (v0.take i)*yZ (v0.drop i),0):=by unfold rzP;rw[h3]
   have hi:decide ((i:Int)<=(v0.length:Int))=true:=dT (by omega);have hw:=Je (v0.take i) (by rw[aeb];omega);have hv:=Jf (v0.take i) (by rw[aeb];omega) (by have:=anx v0;rwa[h3]at this);simp only[zy,Fw,Ig h1,Ih h1,aqn,aG,ak,hi,dT (show(0:Int)<=(i:Int) by omega),show decide ((0:Int)<=0)=true from rfl,abW,abZ,hw,aeL,dS];have hb:=aqg (v0.take i);cases hc:(bif yZ (v0.drop i)==0 then true else !(eF (v0.take i)))with
   | true=>rw[hr,hc];rfl
   | false =>
    rw[hr,hc,cond_false,cond_false,hv];have hz:(yZ (v0.drop i)==0)=false:=by
     cases h:yZ (v0.drop i)==0 with
     | true=>rw[h]at hc;cases hc
     | false=>rfl
    rw[hz];simp only[aG,aem,ak];have e1:au (Int.tdiv 1125899906842624 (yZ (v0.drop i)))=Int.tdiv 1125899906842624 (yZ (v0.drop i)):=by refine aU ?_ ?_<;>rcases axv (v0.drop i)with h | h | h | h | h<;>rw[h]<;>decide
    rw[e1];by_cases hlt:Int.tdiv 1125899906842624 (yZ (v0.drop i))<iZ (v0.take i)
    ·rw[dT hlt];rfl
    ·rw[dF hlt,cond_false,cond_false];have e2:au (iZ (v0.take i)*yZ (v0.drop i))=iZ (v0.take i)*yZ (v0.drop i):=by
      have q1:Int.tdiv (1125899906842624:Int) 0=0:=by decide
      have q2:Int.tdiv (1125899906842624:Int) 1=1125899906842624:=by decide
      have q3:Int.tdiv (1125899906842624:Int) 1024=1099511627776:=by decide
      have q4:Int.tdiv (1125899906842624:Int) 1048576=1073741824:=by decide
      have q5:Int.tdiv (1125899906842624:Int) 1073741824=1048576:=by decide
      refine cO ?_;rcases axv (v0.drop i)with h | h | h | h | h<;>rw[h]at hlt ⊢ <;> omega
     rw[e2]
theorem aqo(n:Int):EU n=some (av2 n):=by
 refine dB rfl ?_;unfold av2 kM;simp only[aM,bg,wR];cases hb:(bif decide (n<0)then true else decide ((1125899906842624:Int)<n))with
 | true=>rfl
 | false =>
  have h0:0<=n:=by
   by_cases h:n<0
   ·rw[dT h]at hb;cases hb
   ·omega
  rw[Int.tmod_eq_emod_of_nonneg h0,Int.tmod_eq_emod_of_nonneg h0,Int.tmod_eq_emod_of_nonneg h0];have k1:(!((1024:Int)==0))=true:=rfl;have k2:(!((1048576:Int)==0))=true:=rfl;have k3:(!((1073741824:Int)==0))=true:=rfl;simp only[k1,k2,k3,abZ,ak];cases(bif n==0 then true else n%1024 != 0)<;>cases n%1048576 != 0<;>cases n%1073741824 != 0<;>rfl
theorem aqp(n:Int):EW n=some (Bd n):=by
 refine dB rfl ?_;unfold Bd;simp only[aM,wU,aqo,aG];unfold av2;cases hb:(bif decide (n<0)then true else decide ((1125899906842624:Int)<n))with
 | true=>rfl
 | false =>
  have h0:0<=n/\n<=1125899906842624:=by
   by_cases h:n<0
   ·rw[dT h]at hb;cases hb
   ·rw[dF h,cond_false]at hb;have:=of_decide_eq_false hb;omega
  have hI:∀x:Int,0<=x->x<=1125899906842624->fQ (au x)=some (bq x):=fun x h1 h2=>by rw[cO (by omega)];exact GU x (by omega)
  have hd:∀y:Int,Int.tdiv n y=n / y:=fun y=>ae8 h0.1
  have hm:∀(x:Int) (c:UInt8),decide ((bq x).length+[c].length<=aA)=true:=fun x c=>dT (by have:=rU x;rw[ms,aay];omega)
  obtain⟨u0,u3⟩:=abF n;simp only[cond_false,hd];rcases Nu u0 u3 with⟨h,h2⟩ | ⟨h,h2⟩ | ⟨h,h2⟩ | ⟨h,h2⟩
  ·rw[h2,h];have q:=hI (n / 1) (by omega) (by omega);simp only[show((0:Int)==0)=true from rfl,cond_true,show((1:Int)==0)=false from rfl,show((1:Int)==1024)=false from rfl,show((1:Int)==1048576)=false from rfl,show((1:Int)==1073741824)=false from rfl,cond_false,aem,q,ak,aG];rw[show sfx 0=[]from rfl,abR]
  ·rw[h2,h];have q:=hI (n / 1024) (by omega) (by omega);simp only[show((1:Int)==0)=false from rfl,show((1:Int)==1)=true from rfl,cond_true,show((1024:Int)==0)=false from rfl,show((1024:Int)==1024)=true from rfl,cond_false,aem,q,ak,aG,hm];rfl
  ·rw[h2,h];have q:=hI (n / 1048576) (by omega) (by omega);simp only[show((2:Int)==0)=false from rfl,show((2:Int)==1)=false from rfl,show((2:Int)==2)=true from rfl,cond_true,show((1048576:Int)==0)=false from rfl,show((1048576:Int)==1024)=false from rfl,show((1048576:Int)==1048576)=true from rfl,cond_false,aem,q,ak,aG,hm];rfl
  ·rw[h2,h];have q:=hI (n / 1073741824) (by omega) (by omega);simp only[show((3:Int)==0)=false from rfl,show((3:Int)==1)=false from rfl,show((3:Int)==2)=false from rfl,cond_true,show((1073741824:Int)==0)=false from rfl,show((1073741824:Int)==1024)=false from rfl,show((1073741824:Int)==1048576)=false from rfl,show((1073741824:Int)==1073741824)=true from rfl,cond_false,aem,q,ak,aG,hm];rfl
theorem axw(s:anP):(yZ s==0) = !(GL s)/\(GL s=true->yZ s=2 ^ (Int.toNat (10*yY s))):=by unfold yZ GL yY;cases SQ s<;>cases SK s<;>cases SL s<;>cases SN s<;>refine⟨rfl,fun h=>?_⟩<;>first | (cases h;done) | rfl
theorem as8{s:anP}(h:GL s=true):∀c∈s,eP c=false:=by
 have:s=[]\/s=[98]\/s=[107]\/s=[107,98]\/s=[109]\/s=[109,98]\/s=[103]\/s=[103,98]:=by
  unfold GL SQ SK SL SN at h;simp only[Bool.cond_eq_ite]at h;by_cases a1:s=[]
  ·exact .inl a1
  by_cases a2:s=[98]
  ·exact .inr (.inl a2)
  by_cases a3:s=[107]
  ·exact .inr (.inr (.inl a3))
  by_cases a4:s=[107,98]
  ·exact .inr (.inr (.inr (.inl a4)))
  by_cases a5:s=[109]
  ·exact .inr (.inr (.inr (.inr (.inl a5))))
  by_cases a6:s=[109,98]
  ·exact .inr (.inr (.inr (.inr (.inr (.inl a6)))))
  by_cases a7:s=[103]
  ·exact .inr (.inr (.inr (.inr (.inr (.inr (.inl a7))))))
  by_cases a8:s=[103,98]
  ·exact .inr (.inr (.inr (.inr (.inr (.inr (.inr a8))))))
  simp[a1,a2,a3,a4,a5,a6,a7,a8]at h
 rcases this with rfl | rfl | rfl | rfl | rfl | rfl | rfl | rfl<;>decide
theorem anz:∀s:anP,(s.take (fu s)).all eP=true
 | []=>rfl
 | c::t=>by
  unfold fu;cases h:eP c with
  | false=>rfl
  | true=>rw[cond_true,List.take_succ_cons,aeQ,h,anz t];rfl
theorem anA:∀(s t:anP),s.all eP=true->(∀c∈t,eP c=false)->fu (s++t)=s.length
 | [],[],_,_=>rfl
 | [],c::t,_,h=>by show fu (c::t)=0;rw[fu,h c aa1];rfl
 | c::s,t,h,h2=>by rw[aeQ,abG]at h;show fu (c::(s++t))=_;rw[fu,h.1,cond_true,anA s t h.2 h2,List.length_cons]
theorem ZG(s:anP):∀n,BU s n=0\/∃k,BU s n=k+1/\k<n/\eP (s.getD k 0)=true
 | 0=>.inl rfl
 | n+1=>by
  unfold BU;cases h:eP (s.getD n 0)with
  | true=>exact .inr ⟨n,rfl,Nat.lt_succ_self _,h⟩
  | false =>
   rcases ZG s n with h1 | ⟨k,h1,h2,h3⟩
   ·exact .inl h1
   ·exact .inr ⟨k,h1,by omega,h3⟩
theorem ajT(s:anP):∀n,n<=s.length->∀c∈(s.take n).drop (BU s n),eP c=false
 | 0,_,c,h=>by simp[BU]at h
 | n+1,hn,c,h=>by
  unfold BU at h;cases hd:eP (s.getD n 0)with
  | true =>rw[hd,cond_true,aa7 (by rw[aeb];omega)]at h;cases h
  | false =>
   rw[hd,cond_false,ag8 (by omega),List.drop_append_of_le_length (by rw[aeb];have:=Zx s n;omega)]at h;rcases List.mem_append.1 h with h | h
   ·exact ajT s n (by omega) c h
   ·have:c=s[n]:=List.mem_singleton.1 h;rw[this,<- hd,List.getD,aac (show n<s.length by omega)];rfl
theorem as9(s:anP):∀c∈s.drop (j5 s),eP c=false:=fun c h=>ajT s s.length (abH _) c (by rw[aeM (abH _)];exact h)
theorem azF{s t:anP}(h:s.all eP=true)(h2:∀c∈t,eP c=false):j5 (s++t)=s.length:=by
 have h3:=as9 (s++t);have h4:=as1 (s++t);rw[List.length_append]at h4;rcases Nat.lt_trichotomy (j5 (s++t)) s.length with hl | hl | hl
 ·exfalso;have hm:s[j5 (s++t)]∈(s++t).drop (j5 (s++t)):=by
   rw[List.drop_append_of_le_length (by omega),List.drop_eq_getElem_cons hl,ae0];exact aa1
  have q1:=h3 _ hm;have q2:=afe.1 h _ (aeC hl);rw[q1]at q2;cases q2
 ·exact hl
 ·exfalso;rcases ZG (s++t) (s++t).length with h5 | ⟨k,h5,h6,h7⟩
  ·have:j5 (s++t)=0:=h5;omega
  ·have h5:j5 (s++t)=k+1:=h5;have hk:k-s.length<t.length:=by rw[List.length_append]at h6;omega
   have hm:(s++t).getD k 0=t[k-s.length]:=by rw[List.getD,aeD (by omega),aac hk];rfl
   rw[hm,h2 _ (aeC hk)]at h7;cases h7
theorem axx(s:anP):JG s=rzP s:=by
 have hno:=as9 s;cases ha:(s.take (j5 s)).all eP with
 | true =>
  have hp:fu s=j5 s:=by have:=anA (s.take (j5 s)) (s.drop (j5 s)) ha hno;rw[ahb]at this;rw[this,aeb];exact Nat.min_eq_left (as1 s)
  unfold JG rzP;rw[hp];obtain⟨q1,q2⟩:=axw (s.drop (j5 s));rw[q1];cases hz:GL (s.drop (j5 s))with
  | false=>rfl
  | true =>
   simp only[abI,cond_false];rw[q2 hz];obtain⟨u0,u3⟩:=agH (s.drop (j5 s));have hv:iZ (s.take (j5 s))=LY (bC (s.take (j5 s)) 0):=rfl;unfold fM;cases hw:eF (s.take (j5 s))with
   | false=>simp
   | true =>
    simp only[abI,cond_false];rw[hv];have key:∀P:Int,(P=1\/P=1024\/P=1048576\/P=1073741824)->((BQ (1125899906842624 / P) (bC (s.take (j5 s)) 0)).1*P,(BQ (1125899906842624 / P) (bC (s.take (j5 s)) 0)).2)=bif decide (Int.tdiv 1125899906842624 P<LY (bC (s.take (j5 s)) 0))then((0,9):Int×Int)else(LY (bC (s.take (j5 s)) 0)*P,0):=by
     intro P hP;rw[ae8 (by decide)];have hb:1125899906842624 / P<=1125899906842624:=by rcases hP with h | h | h | h<;>rw[h]<;>decide
     by_cases hx:1125899906842624 / P<(bC (s.take (j5 s)) 0:Int)
     ·rw[Ez hx];have:1125899906842624 / P<LY (bC (s.take (j5 s)) 0):=by
       by_cases h7:bC (s.take (j5 s)) 0<72057594037927936
       ·rw[BP h7];exact hx
       ·rw[Pt h7];omega
      rw[dT this];simp
     ·rw[EA hx,BP (by omega),dF hx];rfl
    exact key _ (by rcases Nu u0 u3 with⟨_,h⟩ | ⟨_,h⟩ | ⟨_,h⟩ | ⟨_,h⟩<;>rw[h]<;>simp)
 | false =>
  have hw:eF (s.take (j5 s))=false:=by unfold eF;rw[ha,ajC]
  have hz:JG s=(0,3):=by unfold JG fM;rw[hw];cases GL (s.drop (j5 s))<;>simp
  rw[hz];have hl:fu s<j5 s:=by
   rcases ahg (fu s) (j5 s)with h | h
   ·exact h
   ·exfalso;have:=anz s;rw[<- ahb (j5 s) s,ahb]at this;have h2:(s.take (j5 s)).all eP=true:=afe.2 fun c hc=>afe.1 this c (by
     have:s.take (j5 s)=(s.take (fu s)).take (j5 s):=by rw[List.take_take,Nat.min_eq_left h]
     rw[this]at hc;exact amF hc)
    rw[h2]at ha;cases ha
  have hb:GL (s.drop (fu s))=false:=by
   cases hb:GL (s.drop (fu s))with
   | false=>rfl
   | true =>
    exfalso;have h1:=as8 hb;rcases ZG s s.length with h5 | ⟨k,h5,h6,h7⟩
    ·have:j5 s=0:=h5;omega
    ·have h5:j5 s=k+1:=h5;have hm:s.getD k 0∈s.drop (fu s):=by
      have hk:k-fu s<(s.drop (fu s)).length:=by rw[abP];omega
      have:s.getD k 0=(s.drop (fu s))[k-fu s]:=by rw[List.getElem_drop,List.getD];rw[aac h6];simp[show fu s+(k-fu s)=k by omega]
      rw[this];exact aeC hk
     rw[h1 _ hm]at h7;cases h7
  unfold rzP;rw[(axw (s.drop (fu s))).1,hb];rfl
theorem ajU(s:anP):kJ s=rzV s:=congrArg Prod.fst (axx s)
theorem aB0(s:anP):Yj s=rzE s:=congrArg Prod.snd (axx s)
theorem aB1{n:Int}(_:0<=n):n / 2 ^ (Int.toNat (10*kM n))*2 ^ (Int.toNat (10*kM n))=n:=by
 have hc:(kM n=0\/(kM n=1/\n%1024=0)\/(kM n=2/\n%1048576=0)\/(kM n=3/\n%1073741824=0)):=by
  unfold kM;by_cases c0:n=0
  ·rw[iX c0];exact .inl rfl
  rw[dP c0,cond_false];by_cases c1:n%1024=0
  ·rw[kg c1,cond_false];by_cases c2:n%1048576=0
   ·rw[kg c2,cond_false];by_cases c3:n%1073741824=0
    ·rw[kg c3,cond_false];exact .inr (.inr (.inr ⟨rfl,c3⟩))
    ·rw[iI c3,cond_true];exact .inr (.inr (.inl ⟨rfl,c2⟩))
   ·rw[iI c2,cond_true];exact .inr (.inl ⟨rfl,c1⟩)
  ·rw[iI c1];exact .inl rfl
 rcases hc with h | ⟨h,h2⟩ | ⟨h,h2⟩ | ⟨h,h2⟩<;>rw[h]
 ·rw[show(2:Int) ^ (Int.toNat (10*0))=1 from rfl];omega
 ·rw[show(2:Int) ^ (Int.toNat (10*1))=1024 from rfl];omega
 ·rw[show(2:Int) ^ (Int.toNat (10*2))=1048576 from rfl];omega
 ·rw[show(2:Int) ^ (Int.toNat (10*3))=1073741824 from rfl];omega
theorem aB2{u:Int}(h0:0<=u)(h1:u<=3):GL (sfx u)=true/\yY (sfx u)=u:=by
 have:u=0\/u=1\/u=2\/u=3:=by omega
 rcases this with rfl | rfl | rfl | rfl<;>decide
theorem azG{n:Int}(h0:0<=n)(h1:n<=1125899906842624):JG (Bd n)=(n,0):=by
 obtain⟨u0,u3⟩:=abF n;obtain⟨s1,s2⟩:=aB2 u0 u3;have hd:0<=n / 2 ^ (Int.toNat (10*kM n))/\n / 2 ^ (Int.toNat (10*kM n))<=1125899906842624 / 2 ^ (Int.toNat (10*kM n))/\n / 2 ^ (Int.toNat (10*kM n))<9223372036854775808:=by rcases Nu u0 u3 with⟨_,h⟩ | ⟨_,h⟩ | ⟨_,h⟩ | ⟨_,h⟩<;>rw[h]<;>omega
 obtain⟨q1,q2,q3⟩:=yA hd.1 hd.2.2;have e:Bd n=bq (n / 2 ^ (Int.toNat (10*kM n)))++sfx (kM n):=by unfold Bd;rw[dF (by omega),dF (by omega)];rfl
 unfold JG;rw[e,azF q3 (as8 s1),List.drop_left,List.take_left,s1,s2,abI,cond_false,Zr hd.1 hd.2.1 hd.2.2,aB1 h0]
end
section
def grH(s:anP):anP:=bif(gX s).2==0 then[]else gH s
def grU(s:anP):Int:=((gX s).1:Int)
def grR(s:anP):anP:=bif(gX s).2==0 then[]else gR s
def grB(s:anP):Bool:=bif(gX s).2==0 then false else eF (gH s)
theorem al5(s:anP)(hs:s.length<=1000000):Dt s=some (grH s,grU s,grR s,grB s):=by
 refine iY rfl (fun | .e y=>y=s | .h0 v0 v1=>v0=s/\∃i:Nat,v1=(i:Int)/\i<=s.length/\fu s=i+fu (s.drop i)) (fun | .e _=>10000000000 | .h0 _ v1=>((s.length:Int)-v1).toNat) rfl (by show 10000000000<_;omega) ?_;rintro(y | ⟨v0,v1⟩) hs'
 ·cases hs';refine⟨⟨rfl,0,rfl,aas _,by rw[aeh,aeY]⟩,?_⟩;show((s.length:Int)-0).toNat<10000000000;omega
 ·obtain⟨rfl,i,rfl,h1,h2⟩:=hs';simp only[aM,bg,vG,aam,ckD,(ckD i v0 false).2,ak];rcases ajR h1 h2 with⟨e,hl,_,h3⟩ | ⟨e,h3⟩
  ·rw[e,cond_true,cO (by omega)];refine⟨⟨trivial,i+1,rfl,by omega,h3⟩,?_⟩;grind
  ·rw[e,cond_false];have hw:=Je (v0.take i) (by rw[aeb];omega);have hdl:(v0.drop i).length=v0.length-i:=abP;have c1:∀k:Nat,cut (v0.drop i) (k:Int) ((v0.drop i).length:Int)=v0.drop (i+k):=fun k=>by rw[zy,akr]
   have c1':cut (v0.drop i) 1 ((v0.drop i).length:Int)=v0.drop (i+1):=c1 1;have c2':cut (v0.drop i) 2 ((v0.drop i).length:Int)=v0.drop (i+2):=c1 2;simp only[zy,Fw,Ig h1,Ih h1,ak,c1',c2',hw,aG];unfold grH grU grR grB gR gH gX;rw[h3];generalize eF (v0.take i)=bw;generalize hr:v0.drop i=r;have i0:Int.toNat 0=0:=rfl;have i1:Int.toNat 1=1:=rfl
   match r with
   | []=>rfl
   | [c] =>have k2:decide ((2:Int)<=(([c]:anP).length:Int))=false:=rfl;have k1:decide ((1:Int)<=(([c]:anP).length:Int))=true:=rfl;have k3:decide ((0:Int)<(([c]:anP).length:Int))=true:=rfl;have k4:bM [c] (1:Int) (([c]:anP).length:Int)=true:=rfl;simp only[k1,k2,k3,k4,i0,i1,show List.getD [c] 0 0=c from rfl,aem,ahV,abZ,cond_true,cond_false,ak,gU,show decide ((0:Int)<=0)=true from rfl,abW];cases((c.toNat:Int)==104)<;>cases((c.toNat:Int)==109)<;>cases((c.toNat:Int)==115)<;>rfl
   | c::d::t =>
    have l0:decide ((0:Int)<((c::d::t).length:Int))=true:=dT (by simp only[List.length_cons];omega);have l1:decide ((1:Int)<((c::d::t).length:Int))=true:=dT (by simp only[List.length_cons];omega);have l2:decide ((2:Int)<=((c::d::t).length:Int))=true:=dT (by simp only[List.length_cons];omega);have l3:decide ((1:Int)<=((c::d::t).length:Int))=true:=dT (by simp only[List.length_cons];omega);have k4:bM (c::d::t) (1:Int) ((c::d::t).length:Int)=true:=by simp[bM];omega
    have k5:bM (c::d::t) (2:Int) ((c::d::t).length:Int)=true:=by simp[bM];omega
    simp only[l0,l1,l2,l3,k4,k5,i0,i1,show List.getD (c::d::t) 0 0=c from rfl,show List.getD (c::d::t) 1 0=d from rfl,abZ,cond_true,ak,gU,show decide ((0:Int)<=0)=true from rfl,show decide ((0:Int)<=1)=true from rfl,abW];cases aF0:((c.toNat:Int)==104)with
    | true =>have aF1:((c.toNat:Int)==109)=false:=dP (by have:=eq_of_beq aF0;omega);rw[aF1];rfl
    | false=>cases((c.toNat:Int)==109)<;>cases((d.toNat:Int)==115)<;>cases((c.toNat:Int)==115)<;>rfl
theorem Yn:vH=some ⟨3600000,60000,1000,1⟩:=dB rfl rfl
theorem al6:Dx=some ⟨[104],[109],[115],[109,115]⟩:=dB rfl rfl
theorem aqr(k:Nat):ny (k:Int)=k:=by simp[ny]
def Mq(a0 a1 a2 a3:Int):Nat->Int
 | 0=>a0*3600000+a1*60000+a2*1000+a3
 | 1=>a1*60000+a2*1000+a3
 | 2=>a2*1000+a3
 | 3=>a3
 | _=>0
def p3I(s:anP):p8->Prop
 | .e y=>y=s
 | .h0 v0 v1 v2 v3=>∃(f:Nat) (a0 a1 a2 a3:Int) (T:Nat),v3=[a0,a1,a2,a3]/\v0.length<f/\v0.length<=1000000/\(-1<=v2/\v2<=3)/\(0<=v2\/v0≠[])/\(0<=a0/\a0<=1099511627776)/\(0<=a1/\a1<=1099511627776)/\(0<=a2/\a2<=1099511627776)/\(0<=a3/\a3<=1099511627776)/\((v2<0->a0=0)/\(v2<1->a1=0)/\(v2<2->a2=0)/\(v2<3->a3=0))/\(v1=true->1099511627776<T)/\(v1=false->a0*3600000+a1*60000+a2*1000+a3=(T:Int))/\GI ((qy f v2 v0).map (T + ·))=yF s
 | .h1 v0 v1 v2 v3 v4=>∃(k:Nat) (a0 a1 a2 a3:Int) (T:Nat),v2=(k:Int)/\k<=4/\v3=[a0,a1,a2,a3]/\v4=[3600000,60000,1000,1]/\(0<=a0/\a0<=1099511627776)/\(0<=a1/\a1<=1099511627776)/\(0<=a2/\a2<=1099511627776)/\(0<=a3/\a3<=1099511627776)/\(v0=true->1099511627776<T)/\(v0=false->v1+Mq a0 a1 a2 a3 k=(T:Int)/\0<=v1/\v1<=k*1099511627776)/\GI (some T)=yF s
def Mr:p8->Nat
 | .e _=>10000000000
 | .h0 v0 _ _ _=>100+v0.length
 | .h1 _ _ v2 _ _=>(4-v2).toNat
theorem ajV(s:anP)(v0:Bool)(v1 v2:Int)(v3 v4:List Int)(h:p3I s (.h1 v0 v1 v2 v3 v4)):(jU (.h1 v0 v1 v2 v3 v4)).run Prop (fun r'=>r'=yF s) (fun s'=>p3I s s'/\Mr s'<Mr (.h1 v0 v1 v2 v3 v4)) False:=by
 obtain⟨k,a0,a1,a2,a3,T,rfl,hk,rfl,rfl,h0,h1,h2,h3,hb,hT,hR⟩:=h;have k1:decide ((0:Int)<=(k:Int))=true:=dT (by omega);have hM:∀(o:Bool) (t:Int) (l1 l2:List Int),k<4->Mr (.h1 o t ((k:Int)+1) l1 l2)<Mr (.h1 v0 v1 (k:Int) [a0,a1,a2,a3] [3600000,60000,1000,1]):=fun o t l1 l2 h=>by show(4-((k:Int)+1)).toNat<(4-(k:Int)).toNat;omega
 simp only[aM,bg,jU,aqr];by_cases h4:k<4
 ·have hM:=fun o t l1 l2=>hM o t l1 l2 h4
  have n1:Nat.blt k ([a0,a1,a2,a3]:List Int).length=true:=by simp[Nat.blt];omega
  have n2:Nat.blt k ([3600000,60000,1000,1]:List Int).length=true:=by simp[Nat.blt];omega
  rw[dT (show(k:Int)<4 by omega)];simp only[k1,n1,n2,ak,cond_true,abW,abI,cond_false,cO (show -9223372036854775808<=(k:Int)+1/\(k:Int)+1<=9223372036854775807 by omega)];have next:∀(a L:Int),[a0,a1,a2,a3].getD k (dflt .int)=a->[3600000,60000,1000,1].getD k (dflt .int)=L->(L=3600000\/L=60000\/L=1000\/L=1)->0<=a->a<=1099511627776->Mq a0 a1 a2 a3 k=a*L+Mq a0 a1 a2 a3 (k+1)->0<=Mq a0 a1 a2 a3 (k+1) ->
    ck (!(([3600000,60000,1000,1]:List Int).getD k (dflt .int)==(0:Int))) False (bif(decide ((au (Int.tdiv (1099511627776:Int) (([3600000,60000,1000,1]:List Int).getD k (dflt .int))))<(([a0,a1,a2,a3]:List Int).getD k (dflt .int))))then(p3I s (.h1 true v1 ((k:Int)+1) [a0,a1,a2,a3] [3600000,60000,1000,1])/\Mr (.h1 true v1 ((k:Int)+1) [a0,a1,a2,a3] [3600000,60000,1000,1])<Mr (.h1 v0 v1 (k:Int) [a0,a1,a2,a3] [3600000,60000,1000,1]))else(bif(!v0)then(p3I s (.h1 v0 (au (v1+(au ((([a0,a1,a2,a3]:List Int).getD k (dflt .int))*(([3600000,60000,1000,1]:List Int).getD k (dflt .int)))))) ((k:Int)+1) [a0,a1,a2,a3] [3600000,60000,1000,1])/\Mr (.h1 v0 (au (v1+(au ((([a0,a1,a2,a3]:List Int).getD k (dflt .int))*(([3600000,60000,1000,1]:List Int).getD k (dflt .int)))))) ((k:Int)+1) [a0,a1,a2,a3] [3600000,60000,1000,1])<Mr (.h1 v0 v1 (k:Int) [a0,a1,a2,a3] [3600000,60000,1000,1]))else(p3I s (.h1 v0 v1 ((k:Int)+1) [a0,a1,a2,a3] [3600000,60000,1000,1])/\Mr (.h1 v0 v1 ((k:Int)+1) [a0,a1,a2,a3] [3600000,60000,1000,1])<Mr (.h1 v0 v1 (k:Int) [a0,a1,a2,a3] [3600000,60000,1000,1])))):=by
   intro a L ea eL hL g0 g1 hs hz;rw[ea,eL];have hLz:(L==0)=false:=dP (by omega);rw[hLz,aem,ak];have mk:∀(o:Bool) (t:Int),(o=true->1099511627776<T)->(o=false->t+Mq a0 a1 a2 a3 (k+1)=(T:Int)/\0<=t/\t<=((k+1:Nat):Int)*1099511627776)->p3I s (.h1 o t ((k:Int)+1) [a0,a1,a2,a3] [3600000,60000,1000,1])/\Mr (.h1 o t ((k:Int)+1) [a0,a1,a2,a3] [3600000,60000,1000,1])<Mr (.h1 v0 v1 (k:Int) [a0,a1,a2,a3] [3600000,60000,1000,1]):=fun o t q1 q2 =>⟨⟨k+1,a0,a1,a2,a3,T,by omega,by omega,rfl,rfl,h0,h1,h2,h3,q1,q2,hR⟩,hM o t _ _⟩
   have hq:au (Int.tdiv 1099511627776 L)=Int.tdiv 1099511627776 L:=by rcases hL with rfl | rfl | rfl | rfl<;>rfl
   have hq2:Int.tdiv 1099511627776 L<a->1099511627776<a*L:=by have e1:Int.tdiv (1099511627776:Int) 3600000=305419:=rfl;have e2:Int.tdiv (1099511627776:Int) 60000=18325193:=rfl;have e3:Int.tdiv (1099511627776:Int) 1000=1099511627:=rfl;have e4:Int.tdiv (1099511627776:Int) 1=1099511627776:=rfl;rcases hL with rfl | rfl | rfl | rfl<;>omega
   have hq3:¬ Int.tdiv 1099511627776 L<a->0<=a*L/\a*L<=1099511627776:=by have e1:Int.tdiv (1099511627776:Int) 3600000=305419:=rfl;have e2:Int.tdiv (1099511627776:Int) 60000=18325193:=rfl;have e3:Int.tdiv (1099511627776:Int) 1000=1099511627:=rfl;have e4:Int.tdiv (1099511627776:Int) 1=1099511627776:=rfl;rcases hL with rfl | rfl | rfl | rfl<;>omega
   rw[hq];by_cases hlt:Int.tdiv 1099511627776 L<a
   ·rw[dT hlt,cond_true];have:=hq2 hlt;refine mk true v1 (fun _=>?_) (fun h=>by cases h);cases v0 with
    | true=>exact hb rfl
    | false=>have:=hT rfl;omega
   ·rw[dF hlt,cond_false];obtain⟨g2,g3⟩:=hq3 hlt;cases v0 with
    | true=>exact mk true v1 hb (fun h=>by cases h)
    | false =>obtain⟨t1,t2,t3⟩:=hT rfl;rw[aem,cond_true,cO (show -9223372036854775808<=a*L/\a*L<=9223372036854775807 by omega),cO (by omega)];exact mk false _ (fun h=>by cases h) (fun _=>⟨by omega,by omega,by omega⟩)
  have hc:k=0\/k=1\/k=2\/k=3:=by omega
  rcases hc with rfl | rfl | rfl | rfl
  ·exact next a0 3600000 rfl rfl (by decide) h0.1 h0.2 (by simp only[Mq];omega) (by simp only[Mq];omega)
  ·exact next a1 60000 rfl rfl (by decide) h1.1 h1.2 (by simp only[Mq];omega) (by simp only[Mq];omega)
  ·exact next a2 1000 rfl rfl (by decide) h2.1 h2.2 (by simp only[Mq]) (by simp only[Mq];omega)
  ·exact next a3 1 rfl rfl (by decide) h3.1 h3.2 (by simp only[Mq];omega) (by simp only[Mq];omega)
 ·have:k=4:=by omega
  subst this;rw[dF (show ¬ (((4:Nat):Int)<4) by omega),cond_false];rw[<- hR];cases v0 with
  | true =>have:=hb rfl;simp only[GI];rw[dT (show(1099511627776:Int)<(T:Int) by omega)];rfl
  | false =>
   obtain⟨t1,t2,t3⟩:=hT rfl;simp only[Mq]at t1;have:v1=(T:Int):=by omega
   subst this;simp only[GI,cond_false];cases decide ((1099511627776:Int)<(T:Int))<;>rfl
theorem al7(s:anP)(hs:s.length<=1000000):Dv s=some (yF s):=by
 refine iY rfl (p3I s) Mr rfl (by show 10000000000<_;omega) ?_;rintro(y | ⟨v0,v1,v2,v3⟩ | ⟨v0,v1,v2,v3,v4⟩) hs'
 ·have hs':y=s:=hs';subst hs';simp only[aM,bg,jU];by_cases he:y=[]
  ·subst he;rfl
  ·have:0<y.length:=List.length_pos_iff.2 he;rw[dP (show(y.length:Int)≠0 by omega),cond_false];refine⟨⟨y.length+1,0,0,0,0,0,rfl,by omega,hs,by omega,.inr he,by decide,by decide,by decide,by decide,⟨fun _=>rfl,fun _=>rfl,fun _=>rfl,fun _=>rfl⟩,(fun h=>by cases h),(fun _=>rfl),?_⟩,?_⟩
   ·unfold yF;cases qy (y.length+1) (-1) y with
    | none=>rfl
    | some t=>simp
   ·show 100+y.length<10000000000;omega
 ·obtain⟨f,a0,a1,a2,a3,T,rfl,hf,hl,⟨g1,g2⟩,g3,h0,h1,h2,h3,hz,hb,hT,hR⟩:=hs';obtain⟨f,rfl⟩:∃m,f=m+1:=⟨f-1,by omega⟩
  simp only[aM,bg,jU];by_cases he:v0=[]
  ·subst he;have hl:0<=v2:=g3.resolve_right (fun h=>h rfl);have e:(qy (f+1) v2 []).map (T + ·)=some T:=by
    rw[qy,show(([]:anP)==[])=true from rfl,cond_true,dF (by omega)];rfl
   rw[e]at hR;rw[show decide ((0:Int)<(([]:anP).length:Int))=false from rfl,cond_false,Yn];refine⟨⟨0,a0,a1,a2,a3,T,rfl,by decide,rfl,rfl,h0,h1,h2,h3,hb,fun h=>⟨by have:=hT h;simp only[Mq];omega,by decide,by decide⟩,hR⟩,?_⟩;show(4-0:Int).toNat<100+0;decide
  ·have hpos:0<v0.length:=List.length_pos_iff.2 he;rw[dT (show(0:Int)<(v0.length:Int) by omega),cond_true,al5 v0 hl];simp only[aG];have hbad:(bif(bif(!(grB v0))then true else decide (grU v0<=v2))then true else(bif grH v0==[48]then(bif decide (0<=v2)then true else decide ((0:Int)<((grR v0).length:Int)))else false))=GH v2 v0:=by
    unfold GH grB grU grH grR;cases(gX v0).2==0<;>rfl
   rw[hbad];cases hq:GH v2 v0 with
   | true=>rw[ae4 he hq]at hR;exact hR
   | false =>
    obtain⟨q1,q2,q3⟩:=ano hq;have q1':((gX v0).2==0)=false:=by simpa using q1
    obtain⟨x1,x2,x3⟩:=axb v0;have eH:grH v0=gH v0:=by unfold grH;rw[q1'];rfl
    have eR:grR v0=gR v0:=by unfold grR;rw[q1'];rfl
    have hD:(gH v0).all eP=true:=by unfold eF at q2;rw[abG]at q2;exact q2.2
    have hRl:(gR v0).length<f:=by rw[abB];omega
    have hRs:(gR v0).length<=1000000:=by rw[abB];omega
    have hRm:(gR v0).length<v0.length:=by rw[abB];omega
    rw[ae3 he hq]at hR;rw[eH,eR,Jf (gH v0) (Nat.le_trans (asS v0) hl) hD];simp only[aG,cond_false];have hU:(gX v0).1=0\/(gX v0).1=1\/(gX v0).1=2\/(gX v0).1=3:=by omega
    have hv:decide ((1099511627776:Int)<iZ (gH v0))=decide ((1099511627776:Int)<(bC (gH v0) 0:Int)):=by
     unfold iZ;by_cases h7:bC (gH v0) 0<72057594037927936
     ·rw[BP h7]
     ·rw[Pt h7];exact decide_eq_decide.2 (by omega)
    have next:∀(b':Bool) (c0 c1 c2 c3:Int),(0<=c0/\c0<=1099511627776)->(0<=c1/\c1<=1099511627776)->(0<=c2/\c2<=1099511627776)->(0<=c3/\c3<=1099511627776)->(((gX v0).1:Int)<0->c0=0)/\(((gX v0).1:Int)<1->c1=0)/\(((gX v0).1:Int)<2->c2=0)/\(((gX v0).1:Int)<3->c3=0)->(b'=true->1099511627776<T+bC (gH v0) 0*bQ (gX v0).1)->(b'=false->c0*3600000+c1*60000+c2*1000+c3=((T+bC (gH v0) 0*bQ (gX v0).1:Nat):Int)) ->
      p3I s (.h0 (gR v0) b' ((gX v0).1:Int) [c0,c1,c2,c3])/\Mr (.h0 (gR v0) b' ((gX v0).1:Int) [c0,c1,c2,c3])<Mr (.h0 v0 v1 v2 [a0,a1,a2,a3]):=fun b' c0 c1 c2 c3 p0 p1 p2 p3 pz pb pT =>
     ⟨⟨f,c0,c1,c2,c3,_,rfl,hRl,hRs,by omega,.inl (by omega),p0,p1,p2,p3,pz,pb,pT,hR⟩,by show 100+(gR v0).length<100+v0.length;omega⟩
    rw[hv];unfold grU;have kU:(decide ((0:Int)<=((gX v0).1:Int))&&decide (((gX v0).1:Int)<4))=true:=by rw[dT (by omega),dT (by omega)];rfl
    have nU:Nat.blt (gX v0).1 ([a0,a1,a2,a3]:List Int).length=true:=by simp[Nat.blt];omega
    simp only[aqr,kU,nU,ak];by_cases hbig:(1099511627776:Int)<(bC (gH v0) 0:Int)
    ·rw[dT hbig,cond_true];have hL:=abD (gX v0).1;have hm:bC (gH v0) 0<=bC (gH v0) 0*bQ (gX v0).1:=akd _ hL.1;rcases hU with hu | hu | hu | hu<;>rw[hu]at next q3 hm ⊢
     ·exact next true 0 a1 a2 a3 ⟨by decide,by decide⟩ h1 h2 h3 ⟨fun _=>rfl,fun _=>hz.2.1 (by omega),fun _=>hz.2.2.1 (by omega),fun _=>hz.2.2.2 (by omega)⟩ (fun _=>by omega) (fun h=>by cases h)
     ·exact next true a0 0 a2 a3 h0 ⟨by decide,by decide⟩ h2 h3 ⟨fun h=>by omega,fun _=>rfl,fun _=>hz.2.2.1 (by omega),fun _=>hz.2.2.2 (by omega)⟩ (fun _=>by omega) (fun h=>by cases h)
     ·exact next true a0 a1 0 a3 h0 h1 ⟨by decide,by decide⟩ h3 ⟨fun h=>by omega,fun h=>by omega,fun _=>rfl,fun _=>hz.2.2.2 (by omega)⟩ (fun _=>by omega) (fun h=>by cases h)
     ·exact next true a0 a1 a2 0 h0 h1 h2 ⟨by decide,by decide⟩ ⟨fun h=>by omega,fun h=>by omega,fun h=>by omega,fun _=>rfl⟩ (fun _=>by omega) (fun h=>by cases h)
    ·rw[dF hbig,cond_false];have hr:iZ (gH v0)=(bC (gH v0) 0:Int):=by unfold iZ;rw[BP (by omega)]
     have hv0:0<=iZ (gH v0)/\iZ (gH v0)<=1099511627776:=by rw[hr];omega
     have hbt:v1=true->1099511627776<T+bC (gH v0) 0*bQ (gX v0).1:=fun h=>by have:=hb h;omega
     rcases hU with hu | hu | hu | hu<;>rw[hu]at next q3 hbt ⊢
     ·refine next v1 (iZ (gH v0)) a1 a2 a3 hv0 h1 h2 h3 ⟨fun h=>by omega,fun _=>hz.2.1 (by omega),fun _=>hz.2.2.1 (by omega),fun _=>hz.2.2.2 (by omega)⟩ hbt (fun h=>?_);have:=hT h;have z0:=hz.1 (by omega);simp only[bQ];omega
     ·refine next v1 a0 (iZ (gH v0)) a2 a3 h0 hv0 h2 h3 ⟨fun h=>by omega,fun h=>by omega,fun _=>hz.2.2.1 (by omega),fun _=>hz.2.2.2 (by omega)⟩ hbt (fun h=>?_);have:=hT h;have z0:=hz.2.1 (by omega);simp only[bQ];omega
     ·refine next v1 a0 a1 (iZ (gH v0)) a3 h0 h1 hv0 h3 ⟨fun h=>by omega,fun h=>by omega,fun h=>by omega,fun _=>hz.2.2.2 (by omega)⟩ hbt (fun h=>?_);have:=hT h;have z0:=hz.2.2.1 (by omega);simp only[bQ];omega
     ·refine next v1 a0 a1 a2 (iZ (gH v0)) h0 h1 h2 hv0 ⟨fun h=>by omega,fun h=>by omega,fun h=>by omega,fun h=>by omega⟩ hbt (fun h=>?_);have:=hT h;have z0:=hz.2.2.2 (by omega);simp only[bQ];omega
 ·exact ajV s v0 v1 v2 v3 v4 hs'
end
end Go.Proofs.YtclnniijooeajaaGreatDoor.Rf
