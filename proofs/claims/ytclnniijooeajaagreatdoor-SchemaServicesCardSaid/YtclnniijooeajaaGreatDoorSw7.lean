/- Part 7 of a proof: the texts Y1 X10 X11 X12 X13 X14 X15 X16 X17 X18 X19 X20 X21 X22 X23 X24 X25 X26 X27 X28 X29 X30 X31 Y2 Y3 Y4 Y5, one behind the other. -/
import Derived.Test.YtclnniijooeajaaGreatDoorSw1
import Derived.Test.YtclnniijooeajaaGreatDoorSw6
import Derived.Test.YtclnniijooeajaaGreatDoorSw5
noncomputable section
namespace Go.Proofs.YtclnniijooeajaaGreatDoor.Rf
open Go Go.RowKit Go.Sort Go.Proofs.YtclnniijooeajaaGreatDoor.bg
section
theorem avE{k:Nat}(h:k<=19):10 ^ k<=10000000000000000000:=by
 have:=Nat.pow_le_pow_right (show 0<10 by omega) h;have e:(10:Nat) ^ 19=10000000000000000000:=by decide
 omega
theorem ai1:∀(s:aqO) (n:Nat),n*10 ^ s.length<=bn s n
 | [],n=>by simp[bn]
 | c::t,n=>by have:=ai1 t (n*10+(c.toNat-48));unfold bn;refine Nat.le_trans ?_ this;rw[List.length_cons,Nat.pow_succ,amG (10 ^ t.length) 10,<- Nat.mul_assoc];exact aeA _ (by omega)
theorem asC{s:aqO}(h:dX s=true)(hl:19<s.length):10000000000000000000<=bn s 0:=by
 match s,h,hl with
 | [],_,hl=>simp at hl
 | [_],_,hl=>simp at hl
 | c::d::t,h,hl =>
  simp only[dX,Fv,abj,aeB,ajC]at h;have hc:=vY.1 h.2.1;have h48:c.toNat≠48:=fun e=>by have:c=48:=UInt8.toNat_inj.1 e;subst this;exact absurd h.1 (by decide)
  have h1:=ai1 (d::t) (0*10+(c.toNat-48));have h2:10 ^ 19<=10 ^ (d::t).length:=Nat.pow_le_pow_right (by omega) (by simp only[List.length_cons]at hl ⊢;omega);have e:(10:Nat) ^ 19=10000000000000000000:=by decide
  have h3:1*10 ^ (d::t).length<=(0*10+(c.toNat-48))*10 ^ (d::t).length:=aeA _ (by omega);show 10000000000000000000<=bn (d::t) (0*10+(c.toNat-48));omega
theorem ayY(s:aqO):Fv s=(bif((s.length:Int)==0)then true else(bif(decide ((1:Int)<(s.length:Int)))then((((s.getD (Int.toNat 0) 0).toNat:Nat):Int)==48)else false)):=by
 match s with
 | []=>rfl
 | [c]=>rfl
 | c::d::t =>
  have h1:(((c::d::t).length:Int)==0)=false:=by rw[agA,List.length_cons];omega
  have h2:decide ((1:Int)<((c::d::t).length:Int))=true:=decide_eq_true (by simp only[List.length_cons];omega);rw[h1,h2];show(c==48)=(((c.toNat:Nat):Int)==48)
  rw[c48]
theorem H9(s:aqO)(hs:s.length<=1000000):lC s=some (dX s):=by
 refine jo rfl (fun | .e y=>y=s | .h0 v0 v1=>v0=s/\0<=v1/\v1<=(s.length:Int)/\(s.drop v1.toNat).all dZ=dX s) (fun | .e _=>10000000000 | .h0 _ v1=>((s.length:Int)-v1).toNat) rfl (by show 10000000000<_;omega) ?_;rintro(y | ⟨v0,v1⟩) hs'
 ·cases hs';have e:dX s=(!(Fv s)&&s.all dZ):=rfl;have hl:=ayY s;simp only[aN,bB,lu];rw[<- hl];cases hb:Fv s with
  | true =>
   rw[hb]at e hl;simp only[bK]
   (repeat' (first|intro _|apply And.intro))<;>grind
  | false =>
   rw[hb]at e hl;simp only[bK]
   (repeat' (first|intro _|apply And.intro))<;>grind[aed]
 ·obtain⟨rfl,h1,h2,h3⟩:=hs';have e1:=@cZ (v1+1);by_cases hi:v1<(v0.length:Int)
  ·rw[gQ v0 0 h1 hi,aeB]at h3;simp only[aN,bB,lu];rw[decide_eq_true hi,cond_true,wS];refine⟨h1,hi,?_⟩;generalize v0.getD v1.toNat 0=c at h3 ⊢;rw[OD];cases hc:dZ c with
   | false =>
    rw[hc]at h3;simp only[bK]
    (repeat' (first|intro _|apply And.intro))<;>grind
   | true =>
    rw[hc]at h3;simp only[bK]
    (repeat' (first|intro _|apply And.intro))<;>grind
  ·rw[jw v0 (by omega),List.all_nil]at h3;simp only[bK,lu]
   (repeat' (first|intro _|apply And.intro))<;>grind
theorem Ia(s:aqO)(hs:s.length<=1000000)(hd:s.all dZ=true):lD s=some (iR s):=by
 refine jo rfl (fun | .e y=>y=s | .h0 v0 v1 v2=>v0=s/\0<=v2/\v2<=(s.length:Int)/\∃n:Nat,v1=(n:Int)/\n<72057594037927936/\K9 (bn (s.drop v2.toNat) n)=iR s) (fun | .e _=>10000000000 | .h0 _ _ v2=>((s.length:Int)-v2).toNat) rfl (by show 10000000000<_;omega) ?_;rintro(y | ⟨v0,v1,v2⟩) hs'
 ·cases hs';refine⟨⟨rfl,by decide,by omega,0,rfl,by decide,rfl⟩,?_⟩;show((s.length:Int)-0).toNat<10000000000;omega
 ·obtain⟨rfl,h1,h2,n,rfl,h3,h4⟩:=hs';simp only[aN,bB,uK];by_cases hi:v2<(v0.length:Int)
  ·have hc:=vY.1 (ahn.1 hd _ (gM v0 0 h1 hi));rw[gQ v0 0 h1 hi,bn]at h4;rw[decide_eq_true hi,cond_true,wS];refine⟨h1,hi,?_⟩;generalize v0.getD v2.toNat 0=c at hc h4 ⊢;have e4:ak (ak (ak ((n:Int)*10)+ak ((c.toNat:Int)))-48)=((n*10+(c.toNat-48):Nat):Int):=by
    rw[aV (n:=(n:Int)*10) (by omega) (by omega),aV (n:=(c.toNat:Int)) (by omega) (by omega),aV (n:=(n:Int)*10+_) (by omega) (by omega),aV (by omega) (by omega)];omega
   rw[e4];by_cases hn:72057594037927936<=n*10+(c.toNat-48)
   ·have:=V8 (v0.drop (v2+1).toNat) (n*10+(c.toNat-48));rw[dT (by omega),cond_true,<- h4,OE (by omega)]
   ·rw[dF (by omega),cond_false,cZ (by omega)];refine⟨⟨trivial,by omega,by omega,_,rfl,by omega,h4⟩,?_⟩;show((v0.length:Int)-(v2+1)).toNat<((v0.length:Int)-v2).toNat;omega
  ·rw[jw v0 (by omega),bn,AZ h3]at h4;rw[decide_eq_false hi,cond_false];exact h4
theorem pF(s:aqO)(most:Int)(hs:s.length<=1000000)(hm:0<=most/\most<=9223372036854775807):dI s most=some (fH s most):=by
 refine jo rfl (fun | .e y0 y1=>y0=s/\y1=most | .h0 v0 v1 v2 v3=>v0=s/\v1=most/\0<=v3/\v3<=(s.length:Int)/\s.length<=19/\s.all dZ=true/\∃n:Nat,v2=(n:Int)/\(n+1)*10 ^ (s.length-v3.toNat)<=10000000000000000000/\A8 most (bn (s.drop v3.toNat) n)=fH s most) (fun | .e _ _=>10000000000 | .h0 _ _ _ v3=>((s.length:Int)-v3).toNat) ⟨rfl,rfl⟩ (by show 10000000000<_;omega) ?_;rintro(⟨y0,y1⟩ | ⟨v0,v1,v2,v3⟩) hs'
 ·obtain⟨rfl,rfl⟩:=hs';simp only[aN,bB,oP,H9 y0 hs,aH,dF (show ¬ y1<0 by omega),cond_false];have e:fH y0 y1=bif !(dX y0)then(0,3)else A8 y1 (bn y0 0):=rfl
  cases hw:dX y0 with
  | false=>rw[hw]at e;exact e.symm
  | true =>
   rw[hw]at e;have e:fH y0 y1=A8 y1 (bn y0 0):=e;rw[adr,cond_false];by_cases hl:(19:Int)<(y0.length:Int)
   ·have:=asC hw (by omega);rw[dT hl,cond_true,e,DF (by omega)]
   ·rw[dF hl,cond_false];have hall:y0.all dZ=true:=by
     unfold dX at hw;rw[abj]at hw;exact hw.2
    refine⟨⟨trivial,trivial,by decide,by omega,by omega,hall,0,rfl,?_,e.symm⟩,?_⟩
    ·show(0+1)*10 ^ (y0.length-0)<=_;rw[amg];have:=avE (k:=y0.length) (by omega);omega
    ·show((y0.length:Int)-0).toNat<10000000000;omega
 ·obtain⟨rfl,rfl,h1,h2,h3,h4,n,rfl,h5,h6⟩:=hs';simp only[aN,bB,oP];by_cases hi:v3<(v0.length:Int)
  ·have hc:=vY.1 (ahn.1 h4 _ (gM v0 0 h1 hi));rw[gQ v0 0 h1 hi,bn]at h6;rw[decide_eq_true hi,cond_true,wS];refine⟨h1,hi,?_⟩;generalize v0.getD v3.toNat 0=c at hc h6 ⊢;have ep:v0.length-v3.toNat=(v0.length-(v3+1).toNat)+1:=by omega
   have aEJ:1<=10 ^ (v0.length-(v3+1).toNat):=Nat.one_le_pow _ _ (by omega);rw[ep,Nat.pow_succ,amG (10 ^ _) 10,<- Nat.mul_assoc]at h5;have h7:(n*10+(c.toNat-48)+1)*10 ^ (v0.length-(v3+1).toNat)<=(n+1)*10*10 ^ (v0.length-(v3+1).toNat):=aeA _ (by omega);have h8:(n+1)*10<=10000000000000000000:=Nat.le_trans (al8 _ aEJ) h5;have e4:IntKind.wrap .u64 (IntKind.wrap .u64 (IntKind.wrap .u64 ((n:Int)*10)+IntKind.wrap .u64 ((c.toNat:Int)))-48)=((n*10+(c.toNat-48):Nat):Int):=by rw[zU (n:=(n:Int)*10) (by omega) (by omega),zU (n:=(c.toNat:Int)) (by omega) (by omega),zU (n:=(n:Int)*10+_) (by omega) (by omega),zU (by omega) (by omega)];omega
   rw[e4,cZ (by omega)];refine⟨⟨trivial,trivial,by omega,by omega,h3,h4,_,rfl,by omega,h6⟩,?_⟩;show((v0.length:Int)-(v3+1)).toNat<((v0.length:Int)-v3).toNat;omega
  ·rw[jw v0 (by omega),bn]at h6;rw[show v0.length-v3.toNat=0 by omega]at h5;rw[decide_eq_false hi,cond_false,zU (by omega) (by omega),<- h6];by_cases h:v1<(n:Int)
   ·rw[dT h,DF h];rfl
   ·rw[dF h,DI h,aV (by omega) (by omega)];rfl
end
section
def eY:aqO->Nat
 | []=>0
 | c::t=>bif dZ c then eY t+1 else 0
theorem ai2:∀s:aqO,eY s<=s.length
 | []=>abn _
 | c::t=>by
  unfold eY;have:=ai2 t;cases dZ c with
  | true=>rw[cond_true,List.length_cons];omega
  | false=>exact aaG _
def bP:Nat->Nat
 | 0=>3600000
 | 1=>60000
 | 2=>1000
 | _=>1
def gU:aqO->Nat×Nat
 | []=>(0,0)
 | c::t=>bif(((c.toNat:Nat):Int)==104)then(0,1)
  else bif(((c.toNat:Nat):Int)==109)then(match t with
   | []=>(1,1)
   | d::_=>bif(((d.toNat:Nat):Int)==115)then(3,2)else(1,1))
  else bif(((c.toNat:Nat):Int)==115)then(2,1)else(0,0)
theorem aCD(s:aqO):(gU s).2<=s.length/\(gU s).1<=3/\(gU s).2<=2:=by
 match s with
 | []=>simp[gU]
 | [c] =>simp only[gU];cases(((c.toNat:Nat):Int)==104)<;>cases(((c.toNat:Nat):Int)==109)<;>cases(((c.toNat:Nat):Int)==115)<;>simp
 | c::d::t =>simp only[gU];cases(((c.toNat:Nat):Int)==104)<;>cases(((c.toNat:Nat):Int)==109)<;>cases(((d.toNat:Nat):Int)==115)<;>cases(((c.toNat:Nat):Int)==115)<;>simp
def gH(s:aqO):aqO:=s.take (eY s)
def gX(s:aqO):Nat×Nat:=gU (s.drop (eY s))
def gR(s:aqO):aqO:=s.drop (eY s+(gX s).2)
theorem awL(s:aqO):eY s+(gX s).2<=s.length/\(gX s).1<=3/\(gX s).2<=2:=by have h:=aCD (s.drop (eY s));have:=ai2 s;rw[adH]at h;unfold gX;omega
theorem asD(s:aqO):(gH s).length<=s.length:=by unfold gH;rw[ad6];omega
theorem aa3(s:aqO):(gR s).length=s.length-(eY s+(gX s).2):=by unfold gR;rw[adH]
def FC(last:Int)(s:aqO):Bool:=bif(bif(bif(gX s).2==0 then true else !(dX (gH s)))then true else decide (((gX s).1:Int)<=last))then true else bif gH s==[48]then(bif decide (0<=last)then true else decide ((0:Int)<((gR s).length:Int)))else false
def p8:Nat->Int->aqO->Option Nat
 | 0,_,_=>none
 | f+1,last,s=>bif s==[]then(bif decide (last<0)then none else some 0)else
  bif FC last s then none else(p8 f (gX s).1 (gR s)).map (bn (gH s) 0*bP (gX s).1 + ·)
def FD:Option Nat->Int×Int
 | none=>(0,3)
 | some t=>bif decide ((1099511627776:Int)<(t:Int))then(0,9)else((t:Int),0)
def xR(s:aqO):Int×Int:=FD (p8 (s.length+1) (-1) s)
def u6(s:aqO):Int:=(xR s).1
def acS(s:aqO):Int:=(xR s).2
theorem avF{f:Nat}{last:Int}{s:aqO}(hs:s≠[])(h:FC last s=true):p8 (f+1) last s=none:=by
 have:(s==[])=false:=by simpa using hs
 rw[p8,this,h];rfl
theorem aex{f:Nat}{last:Int}{s:aqO}(hs:s≠[])(h:FC last s=false)(T:Nat):(p8 (f+1) last s).map (T + ·)=(p8 f (gX s).1 (gR s)).map ((T+bn (gH s) 0*bP (gX s).1) + ·):=by
 have:(s==[])=false:=by simpa using hs
 rw[p8,this,h];cases p8 f (gX s).1 (gR s)with
 | none=>rfl
 | some t=>simp[al3]
theorem aey{f:Nat}{last:Int}{s:aqO}(hs:s≠[])(h:FC last s=true)(T:Nat):(p8 (f+1) last s).map (T + ·)=none:=by rw[avF hs h];rfl
theorem am0{last:Int}{s:aqO}(h:FC last s=false):(gX s).2≠0/\dX (gH s)=true/\last<((gX s).1:Int):=by
 unfold FC at h;by_cases h1:(gX s).2=0
 ·rw[show((gX s).2==0)=true from by rw[h1];rfl]at h;cases h
 ·have e1:((gX s).2==0)=false:=by simpa using h1
  rw[e1,cond_false]at h;cases h2:dX (gH s)with
  | false=>rw[h2]at h;cases h
  | true =>
   rw[h2]at h;by_cases h3:((gX s).1:Int)<=last
   ·rw[dT h3]at h;cases h
   ·exact⟨h1,rfl,by omega⟩
theorem aa4{h:aqO}(hw:dX h=true):(bn h 0==0)=(h==[48]):=by
 unfold dX at hw;rw[abj]at hw
 match h,hw with
 | [],hw=>cases hw.1
 | [c],hw =>
  have hd:dZ c=true:=by simpa using hw.2
  have:=vY.1 hd;by_cases h48:c=48
  ·subst h48;rfl
  ·have e1:([c]==[(48:UInt8)])=false:=by simpa using h48
   have:c.toNat≠48:=fun e=>h48 (UInt8.toNat_inj.1 e)
   rw[e1];show((0*10+(c.toNat-48))==0)=false;simp;omega
 | c::d::t,hw =>
  have e1:((c::d::t)==[(48:UInt8)])=false:=by simp
  have h48:(c==48)=false:=by simpa[Fv]using hw.1
  have hd:dZ c=true:=by have:=hw.2;rw[aeB,abj]at this;exact this.1
  have:=vY.1 hd;have hne:c.toNat≠48:=fun e=>by rw[UInt8.toNat_inj.1 (show c.toNat=(48:UInt8).toNat from e)]at h48;cases h48
  have hb:=V8 (d::t) (0*10+(c.toNat-48));have:bn (c::d::t) 0=bn (d::t) (0*10+(c.toNat-48)):=rfl;rw[e1,this];simp only[agA];omega
theorem aa5(u:Nat):1<=bP u/\bP u<=3600000:=by unfold bP;split<;>omega
def duP(s:aqO):Int:=bif(gU s).2==0 then 0 else((gU s).1:Int)+1
def duL(s:aqO):Int:=bif(gU s).2==0 then 0 else(bP (gU s).1:Int)
def duS(s:aqO):Int:=((gU s).2:Int)
theorem div_lt{T v:Nat}(u:Nat)(hu:u<=3)(hT:T<=1099511627776):decide (Int.tdiv (1099511627776-(T:Int)) (bP u:Int)<(v:Int))=decide (1099511627776<T+v*bP u):=by
 rw[aeI (by omega)];have:u=0\/u=1\/u=2\/u=3:=by omega
 rcases this with rfl | rfl | rfl | rfl<;>exact decide_eq_decide.2 (by simp only[bP];omega)
theorem afv(s:aqO)(hs:s.length<=1000000):(nO s).isSome=true->gv (nO s)=(eY s:Int):=by
 refine part rfl (fun r=>r=(eY s:Int)) (fun | .e y=>y=s | .h0 v0 v1=>v0=s/\0<=v1/\v1<=(s.length:Int)/\(eY s:Int)=v1+eY (s.drop v1.toNat)) rfl ?_;rintro(y | ⟨v0,v1⟩) hs'
 ·cases hs';simp only[eX,sZ]
  (repeat' (first|intro _|apply And.intro))<;>grind[aed]
 ·obtain⟨rfl,h1,h2,h3⟩:=hs';simp only[eX,sZ];have e1:=@cZ (v1+1);by_cases hi:v1<(v0.length:Int)
  ·rw[gQ v0 0 h1 hi,eY]at h3;generalize v0.getD v1.toNat 0=c at h3 ⊢
   (repeat' (first|intro _|apply And.intro))<;>grind[dZ]
  ·rw[jw v0 (by omega),eY]at h3
   (repeat' (first|intro _|apply And.intro))<;>grind
theorem ap1(s:aqO):(oO s).isSome=true->gv (oO s)=(duP s,duL s,duS s):=by
 refine iA rfl ?_;simp only[eX,JW]
 match s with
 | []=>((repeat' (first|intro _|apply And.intro))<;>grind[duP,duL,duS,gU])
 | [c] =>
  have g0:List.getD [c] (Int.toNat 0) 0=c:=rfl;rw[g0]
  (repeat' (first|intro _|apply And.intro))<;>grind[duP,duL,duS,gU,bP]
 | c::d::t =>
  have g0:List.getD (c::d::t) (Int.toNat 0) 0=c:=rfl;have g1:List.getD (c::d::t) (Int.toNat 1) 0=d:=rfl;rw[g0,g1]
  (repeat' (first|intro _|apply And.intro))<;>grind[duP,duL,duS,gU,bP]
end
section
theorem DJ{α:Type}(l:List α)(i:Int):cut l i (l.length:Int)=l.drop i.toNat:=by unfold cut;rw[aaE];exact aej (by rw[adH];exact abn _)
theorem ai3{α:Type}(l:List α){i:Int}(h:0<=i)(k:Nat):cut l i (i+k)=(l.drop i.toNat).take k:=by unfold cut;rw[show(i+(k:Int)).toNat-i.toNat=k by omega]
theorem asH(h:aqO):((fH h 1099511627776).2==3) = !(dX h)/\(dX h=true->fH h 1099511627776=A8 1099511627776 (bn h 0)):=by
 unfold fH;cases dX h with
 | false=>exact⟨rfl,fun h=>by cases h⟩
 | true =>
  simp only[adr,cond_false];refine⟨?_,fun _=>trivial⟩;by_cases h1:(1099511627776:Int)<(bn h 0:Int)
  ·rw[DF h1];rfl
  ·rw[DI h1];rfl
set_option maxHeartbeats 1000000 in
theorem alu(s:aqO)(hs:s.length<=1000000):(Ht s).isSome=true->gv (Ht s)=xR s:=by
 refine part rfl (fun r=>r=xR s) (fun | .e y=>y=s | .h0 v0 v1 v2 v3 v4=>v0=s/\0<=v4/\v4<=(s.length:Int)/\0<=v2/\v2<=4/\(v2=0->v4=0)/\∃(T f:Nat),s.length-v4.toNat<f/\FD ((p8 f (v2-1) (s.drop v4.toNat)).map (T + ·))=xR s/\(v3=false->v1=(T:Int)/\T<=1099511627776)/\(v3=true->1099511627776<T)) rfl ?_;rintro(y | ⟨v0,v1,v2,v3,v4⟩) hs'
 ·cases hs';refine⟨rfl,by decide,by show(0:Int)<=_;omega,by decide,by decide,fun _=>rfl,0,s.length+1,by show s.length-0<_;omega,?_,fun _=>⟨rfl,by decide⟩,fun h=>by cases h⟩;show FD ((p8 (s.length+1) (-1) s).map (0 + ·))=FD (p8 (s.length+1) (-1) s);cases p8 (s.length+1) (-1) s with
  | none=>rfl
  | some t=>simp
 ·obtain⟨rfl,h1,h2,h3,h4,h5,T,f,h6,h7,h8,h9⟩:=hs';obtain⟨i,rfl⟩:∃i:Nat,v4=(i:Int):=⟨v4.toNat,by omega⟩
  obtain⟨g,rfl⟩:∃g,f=g+1:=⟨f-1,by omega⟩
  rw[aaE]at h6 h7;simp only[aN,bB,BU];by_cases hend:(bif(decide ((i:Int)<(v0.length:Int)))then true else(v2==(0:Int)))=true
  ·
   rw[hend,cond_true,DJ];rw[aaE];generalize ht:v0.drop i=t at h7 ⊢;have htl:t.length=v0.length-i:=by rw[<- ht,adH]
   simp only[eX];intro _ i1;rw[afv t (by omega) i1];have hp:=ai2 t;obtain⟨x1,x2,x3⟩:=awL t;have e1:ak ((i:Int)+(eY t:Int))=((i+eY t:Nat):Int):=by rw[cZ (by omega)];omega
   rw[e1];have e2:cut v0 (i:Int) ((i+eY t:Nat):Int)=gH t:=by rw[show((i+eY t:Nat):Int)=(i:Int)+(eY t:Nat) by omega,ai3 v0 (by omega),aaE,ht];rfl
   have e3:cut v0 ((i+eY t:Nat):Int) (v0.length:Int)=t.drop (eY t):=by rw[DJ,aaE,<- ht,ama]
   rw[e2,e3];have hgl:=asD t;rw[tJ (gH t) 1099511627776 (xK.2 ⟨⟨by omega,by decide⟩,by decide⟩),count_eq _ (by decide),fI];intro _ _ _ i2;rw[ap1 _ i2];dsimp only;obtain⟨f1,f2⟩:=asH (gH t);have hdu:duP (t.drop (eY t))=(bif(gX t).2==0 then(0:Int)else((gX t).1:Int)+1):=rfl;have hdl:duL (t.drop (eY t))=(bif(gX t).2==0 then(0:Int)else(bP (gX t).1:Int)):=rfl;have hds:duS (t.drop (eY t))=((gX t).2:Int):=rfl;have hgr:=aa3 t;have e4:ak (((i+eY t:Nat):Int)+((gX t).2:Int))=((i+eY t+(gX t).2:Nat):Int):=by rw[cZ (by omega)];omega
   rw[hdu,hdl,hds,e4];have hR:((0:Int)<((gR t).length:Int))↔((i+eY t+(gX t).2:Nat):Int)<(v0.length:Int):=by rw[hgr,htl];omega
   have hdrop:v0.drop (i+eY t+(gX t).2)=gR t:=by unfold gR;rw[<- ht,ama,show i+(eY (v0.drop i)+(gX (v0.drop i)).2)=i+eY (v0.drop i)+(gX (v0.drop i)).2 by omega]
   by_cases ht0:t=[]
   ·have hv:v2=0:=by
     have:t.length=0:=by rw[ht0];rfl
     rw[decide_eq_false (show ¬ ((i:Int)<(v0.length:Int)) by omega)]at hend;simpa using hend
    have q:FD ((p8 (g+1) (v2-1) t).map (T + ·))=(0,3):=by rw[ht0,hv];rfl
    rw[q]at h7;have z:(gX t).2=0:=by rw[ht0];rfl
    rw[z]at *
    (repeat' (first|intro _|apply And.intro))<;>grind
   ·have hw0:=@aa4 (gH t);have ho:A8 1099511627776 (bn (gH t) 0)=bif decide ((1099511627776:Int)<(bn (gH t) 0:Int))then(0,9)else((bn (gH t) 0:Int),0):=rfl
    cases hbad:FC (v2-1) t with
    | true =>
     have q:FD ((p8 (g+1) (v2-1) t).map (T + ·))=(0,3):=by rw[aey ht0 hbad];rfl
     rw[q]at h7;unfold FC at hbad;generalize dX (gH t)=w at *;generalize bn (gH t) 0=N at *;generalize fH (gH t) 1099511627776=cp at *;generalize (gH t==[48])=b48 at *
     (repeat' (first|intro _|apply And.intro))<;>grind
    | false =>
     rw[aex ht0 hbad]at h7;obtain⟨g1,g2,g3⟩:=am0 hbad;obtain⟨l1,l2⟩:=aa5 (gX t).1;have hz:((gX t).2==0)=false:=by simpa using g1
     have hcp:=f2 g2;have hnz:=hw0 g2;rw[hz,cond_false,cond_false,f1,g2];have k1:decide (((gX t).1:Int)+1<=v2)=false:=decide_eq_false (by omega);have k2:(((gX t).2:Int)==0)=false:=by simpa using g1
     have k3:((bP (gX t).1:Int)==0)=false:=by simp only[agA];omega
     rw[k1,k2];have hB:(bif(bif((fH (gH t) 1099511627776).2==(0:Int))then((fH (gH t) 1099511627776).1==(0:Int))else false)then(bif(decide ((0:Int)<v2))then true else(decide (((i+eY t+(gX t).2:Nat):Int)<(v0.length:Int))))else false)=false:=by
      unfold FC at hbad;rw[hz,cond_false,g2,adr,cond_false,decide_eq_false (show ¬ ((gX t).1:Int)<=v2-1 by omega),cond_false]at hbad;rw[hcp,ho];rw[<- hnz]at hbad;have hd1:decide (0<=v2-1)=decide (0<v2):=decide_eq_decide.2 (by omega);have hd2:decide ((0:Int)<((gR t).length:Int))=decide (((i+eY t+(gX t).2:Nat):Int)<(v0.length:Int)):=decide_eq_decide.2 hR;rw[hd1,hd2]at hbad;by_cases hM:(1099511627776:Int)<(bn (gH t) 0:Int)
      ·rw[decide_eq_true hM];rfl
      ·rw[decide_eq_false hM];have:((bn (gH t) 0:Int)==0)=(bn (gH t) 0==0):=by
        by_cases h:bn (gH t) 0=0
        ·rw[h];rfl
        ·rw[show(bn (gH t) 0==0)=false by simpa using h];simp only[agA];omega
       show(bif(bif((0:Int)==0)then((bn (gH t) 0:Int)==0)else false)then _ else false)=false;rw[this];exact hbad
     rw[hB];have hinv:∀(b:Bool) (v1':Int),(b=false->v1'=((T+bn (gH t) 0*bP (gX t).1:Nat):Int)/\T+bn (gH t) 0*bP (gX t).1<=1099511627776)->(b=true->1099511627776<T+bn (gH t) 0*bP (gX t).1)->True/\0<=((i+eY t+(gX t).2:Nat):Int)/\((i+eY t+(gX t).2:Nat):Int)<=(v0.length:Int)/\0<=((gX t).1:Int)+1/\((gX t).1:Int)+1<=4/\(((gX t).1:Int)+1=0->((i+eY t+(gX t).2:Nat):Int)=0)/\∃(T' f':Nat),v0.length-(((i+eY t+(gX t).2:Nat):Int)).toNat<f'/\FD ((p8 f' (((gX t).1:Int)+1-1) (v0.drop (((i+eY t+(gX t).2:Nat):Int)).toNat)).map (T' + ·))=xR v0/\(b=false->v1'=(T':Int)/\T'<=1099511627776)/\(b=true->1099511627776<T'):=fun b v1' q1 q2=>by refine⟨trivial,by omega,by omega,by omega,by omega,fun h=>by omega,T+bn (gH t) 0*bP (gX t).1,g,by rw[aaE];omega,?_,q1,q2⟩;rw[aaE,hdrop,show((gX t).1:Int)+1-1=((gX t).1:Int) by omega];exact h7
     rw[k3];refine⟨fun h=>(by cases h),fun _=>⟨fun h=>(by cases h),fun _ _=>⟨fun hC=>?_,fun hC=>?_⟩⟩⟩
     ·refine hinv _ _ (fun _=>?_) (fun hb=>absurd (hC.symm.trans hb) (by decide));cases v3 with
      | true=>cases hC
      | false =>
       obtain⟨rfl,hT⟩:=h8 rfl;rw[hcp,ho]at hC ⊢;by_cases hM:(1099511627776:Int)<(bn (gH t) 0:Int)
       ·rw[decide_eq_true hM]at hC;cases hC
       ·rw[decide_eq_false hM]at hC ⊢;have hC:decide (ak ((ak (1099511627776-(T:Int))).tdiv (bP (gX t).1:Int))<(bn (gH t) 0:Int))=false:=hC;rw[cZ (n:=1099511627776-(T:Int)) (by omega),cZ (by
         have:((1099511627776-(T:Int)).tdiv (bP (gX t).1:Int)).natAbs=(1099511627776-(T:Int)).natAbs / (bP (gX t).1:Int).natAbs:=Int.natAbs_tdiv _ _;have h2:=Nat.div_le_self (1099511627776-(T:Int)).natAbs (bP (gX t).1:Int).natAbs;omega),div_lt (gX t).1 x2 hT,decide_eq_false_iff_not]at hC
        refine⟨?_,by omega⟩;show ak ((T:Int)+ak ((bn (gH t) 0:Int)*(bP (gX t).1:Int)))=_;rw[<- Int.natCast_mul,cZ (n:=((bn (gH t) 0*bP (gX t).1:Nat):Int)) (by omega),cZ (by omega)];omega
     ·rw[Bool.not_eq_false']at hC;refine hinv _ _ (fun hb=>absurd (hC.symm.trans hb) (by decide)) (fun _=>?_);cases v3 with
      | true=>have:=h9 rfl;omega
      | false =>
       obtain⟨rfl,hT⟩:=h8 rfl;rw[hcp,ho]at hC;by_cases hM:(1099511627776:Int)<(bn (gH t) 0:Int)
       ·have:=al8 (bn (gH t) 0) (show 0<bP (gX t).1 by omega);omega
       ·rw[decide_eq_false hM]at hC;have hC:decide (ak ((ak (1099511627776-(T:Int))).tdiv (bP (gX t).1:Int))<(bn (gH t) 0:Int))=true:=hC;rw[cZ (n:=1099511627776-(T:Int)) (by omega),cZ (by
         have:((1099511627776-(T:Int)).tdiv (bP (gX t).1:Int)).natAbs=(1099511627776-(T:Int)).natAbs / (bP (gX t).1:Int).natAbs:=Int.natAbs_tdiv _ _;have h2:=Nat.div_le_self (1099511627776-(T:Int)).natAbs (bP (gX t).1:Int).natAbs;omega),div_lt (gX t).1 x2 hT,adB]at hC
        exact hC
  ·have hc:(bif(decide ((i:Int)<(v0.length:Int)))then true else(v2==(0:Int)))=false:=by simpa using hend
   rw[hc,cond_false];have hi:v0.length<=i/\v2≠0:=by
    by_cases h:(i:Int)<(v0.length:Int)
    ·rw[decide_eq_true h]at hc;cases hc
    ·rw[decide_eq_false h]at hc;exact⟨by omega,by simpa using hc⟩
   rw[aa9 hi.1,p8,show(([]:aqO)==[])=true from rfl,cond_true,decide_eq_false (show ¬ v2-1<0 by omega),cond_false,aji,ai4,FD]at h7;simp only[eX]
   (repeat' (first|intro _|apply And.intro))<;>grind
end
section
def Ah:Nat->aqO
 | 0=>[104]
 | 1=>[109]
 | 2=>[115]
 | _=>[109,115]
def O6(n:Int)(i:Nat):aqO:=bif decide (0<n / (bP i:Int))then aZ (n / (bP i:Int))++Ah i else[]
def IL:Nat->Nat->Int->aqO
 | 0,_,_=>[]
 | k+1,i,n=>O6 n i++IL k (i+1) (n%(bP i:Int))
def yC(n:Int):aqO:=bif(bif decide (n<0)then true else decide ((1099511627776:Int)<n))then[]else bif n==0 then[48,115]else IL 4 0 n
theorem aEK(v2:Tz)(h:v2=⟨(⟨3600000,[104]⟩:xA),⟨60000,[109]⟩,⟨1000,[115]⟩,⟨1,[109,115]⟩⟩)(i:Nat)(hi:i<4):List.getD ([v2.e0,v2.e1,v2.e2,v2.e3]:List xA) i (dflt Ty.vB)=⟨(bP i:Int),Ah i⟩:=by
 subst h;have:i=0\/i=1\/i=2\/i=3:=by omega
 rcases this with rfl | rfl | rfl | rfl<;>rfl
theorem ap2(x:Int):(JX x).isSome=true->gv (JX x)=yC x:=by
 refine part rfl (fun r=>r=yC x) (fun | .e y=>y=x | .h0 v0 v1 v2 v3=>(0<=v0/\v0<=1099511627776)/\v2=⟨(⟨3600000,[104]⟩:xA),⟨60000,[109]⟩,⟨1000,[115]⟩,⟨1,[109,115]⟩⟩/\∃i:Nat,v3=(i:Int)/\i<=4/\v1++IL (4-i) i v0=yC x) rfl ?_;rintro(y | ⟨v0,v1,v2,v3⟩) hs
 ·cases hs;simp only[eX,AO];refine⟨fun h=>?_,fun h=>⟨fun h2=>?_,fun h2=>?_⟩⟩
  ·unfold yC;rw[h];rfl
  ·unfold yC;rw[h,h2];rfl
  ·have hx:0<=x/\x<=1099511627776:=by
    by_cases h3:x<0
    ·rw[decide_eq_true h3]at h;cases h
    ·rw[decide_eq_false h3,cond_false]at h;have:=of_decide_eq_false h;omega
   refine⟨hx,trivial,0,rfl,by decide,?_⟩;unfold yC;rw[h,show(x==0)=false by simpa using h2];rfl
 ·obtain⟨h1,h2,i,rfl,h4,h5⟩:=hs;simp only[eX,AO];by_cases hi:i<4
  ·have e:=aEK v2 h2 i hi;rw[aaE,e];dsimp only;obtain⟨l1,l2⟩:=aa5 i;have e1:ak ((i:Int)+1)=((i+1:Nat):Int):=by rw[cZ (by omega)];omega
   have e2:Int.tdiv v0 (bP i:Int)=v0 / (bP i:Int):=aeI h1.1;have b0:0<=v0 / (bP i:Int):=Int.ediv_nonneg h1.1 (by omega);have b1:v0 / (bP i:Int)*(bP i:Int)<=v0:=Int.ediv_mul_le v0 (by omega);have b2:v0 / (bP i:Int)<=v0 / (bP i:Int)*(bP i:Int):=by have:=Int.mul_le_mul_of_nonneg_left (show(1:Int)<=(bP i:Int) by omega) b0;omega
   have b3:v0%(bP i:Int)=v0-v0 / (bP i:Int)*(bP i:Int):=by have:=Int.emod_add_mul_ediv v0 (bP i:Int);rw[Int.mul_comm];omega
   rw[e1,e2,cZ (n:=v0 / (bP i:Int)) (by omega),cZ (n:=v0 / (bP i:Int)*(bP i:Int)) (by omega),cZ (n:=v0-v0 / (bP i:Int)*(bP i:Int)) (by omega),<- b3];have hT:=Ad (v0 / (bP i:Int)) (by omega);rw[show 4-i=(4-(i+1))+1 by omega,IL]at h5;unfold O6 at h5;have hm:=Int.emod_nonneg v0 (show(bP i:Int)≠0 by omega);refine⟨fun _ _ _=>⟨fun hk iT _ _=>?_,fun hk=>?_⟩,fun h=>absurd (by omega) h⟩
   ·rw[hT iT];rw[decide_eq_true hk,cond_true]at h5;refine⟨⟨by omega,by omega⟩,h2,i+1,rfl,by omega,?_⟩;rw[<- h5];simp only[abt]
   ·rw[decide_eq_false hk,cond_false,aei]at h5;have hz:v0 / (bP i:Int)=0:=by omega
    rw[hz]at b3;rw[show v0%(bP i:Int)=v0 by omega]at h5;exact⟨h1,h2,i+1,rfl,by omega,h5⟩
  ·have:i=4:=by omega
   subst this;refine⟨fun h=>absurd h (by decide),fun _=>?_⟩;have h5:v1++[]=yC x:=h5;rw[<- h5,aeb]
end
section
theorem El{p:Nat->Bool}(h:(List.range 256).all p=true)(c:UInt8):p c.toNat=true:=ahn.1 h _ (List.mem_range.2 c.toNat_lt)
def J7:aqO:=[46,95,45,47,58,61,44,43,64,37]
def ldB(n:Int):Bool:=bif(bif(bif decide ((97:Int)<=n)then decide (n<=122)else false)then true else(bif decide ((65:Int)<=n)then decide (n<=90)else false))then true else(bif decide ((48:Int)<=n)then decide (n<=57)else false)
def okC(n:Int):Bool:=ldB n||J7.any fun m=>((m.toNat:Nat):Int)==n
def pb0(n:Int):Bool:=bif(bif(bif decide (n<(97:Int))then true else decide ((122:Int)<n))then(bif decide (n<(65:Int))then true else decide ((90:Int)<n))else false)then(bif decide (n<(48:Int))then true else decide ((57:Int)<n))else false
def pb2(n:Int):Bool:=bif pb0 n then decide (Gl J7 n<0)else false
theorem aA6(c:UInt8):pb2 (Int.ofNat c.toNat) = !(okC (Int.ofNat c.toNat)):=beq_iff_eq.1 (El (p:=fun n=>pb2 (Int.ofNat n) == !(okC (Int.ofNat n))) (by decide +kernel) c)
def zA(s:aqO):Bool:=(s.all fun c=>okC ((c.toNat:Nat):Int)) && !(s==[])
def IQ(s:aqO):aqO:=bif zA s then s else[39]++qF 39 [39,92,39,39] s++[39]
def Lf(l:List (aqO)):aqO:=Lib.join (l.map IQ) [32]
theorem alv(s:aqO)(hs:s.length<=1000000):(Hl s).isSome=true->gv (Hl s)=zA s:=by
 refine part rfl (fun r=>r=zA s) (fun | .e y=>y=s | .h0 v0 v1 v2=>v0=s/\v1=(s.length:Int)/\0<=v2/\v2<=v1/\zA s=(((s.drop v2.toNat).all fun c=>okC ((c.toNat:Nat):Int)) && !(s==[]))) rfl ?_;rintro(y | ⟨v0,v1,v2⟩) hs'
 ·cases hs';simp only[eX,yO];exact⟨trivial,trivial,by decide,by omega,rfl⟩
 ·obtain⟨rfl,rfl,h1,h2,h3⟩:=hs';simp only[aN,bB,yO];have e1:=@cZ (v2+1);by_cases hi:v2<(v0.length:Int)
  ·rw[gQ v0 0 h1 hi,aeB]at h3;rw[decide_eq_true hi,cond_true,pS];intro _ _;generalize v0.getD v2.toNat 0=c at h3 ⊢;have hb:(bif(bif(bif(bif(decide (((c.toNat:Nat):Int)<(97:Int)))then true else(decide ((122:Int)<((c.toNat:Nat):Int))))then(bif(decide (((c.toNat:Nat):Int)<(65:Int)))then true else(decide ((90:Int)<((c.toNat:Nat):Int))))else false)then(bif(decide (((c.toNat:Nat):Int)<(48:Int)))then true else(decide ((57:Int)<((c.toNat:Nat):Int))))else false)then(decide ((Gl ([46,95,45,47,58,61,44,43,64,37]:aqO) ((c.toNat:Nat):Int))<(0:Int)))else false) = !(okC ((c.toNat:Nat):Int)):=aA6 c;rw[hb];simp only[eX]
   (repeat' (first|intro _|apply And.intro))<;>grind
  ·rw[jw v0 (by omega),List.all_nil]at h3;simp only[eX]
   (repeat' (first|intro _|apply And.intro))<;>grind
theorem alx(l:List (aqO))(hl:l.length<=1000000)(hs:∀s∈l,s.length<=1000000):(Ho l).isSome=true->gv (Ho l)=Lf l:=by
 refine part rfl (fun r=>r=Lf l) (fun | .e y=>y=l | .h0 v0 v1 v2 v3=>v1=l/\v2=(l.length:Int)/\0<=v3/\v3<=v2/\v0++(l.drop v3.toNat).map IQ=l.map IQ) rfl ?_;rintro(y | ⟨v0,v1,v2,v3⟩) hs'
 ·cases hs';simp only[eX,yP];exact⟨trivial,trivial,by decide,by omega,rfl⟩
 ·obtain⟨rfl,rfl,h1,h2,h3⟩:=hs';simp only[eX,yP];have e1:=@cZ (v3+1);by_cases hi:v3<(v1.length:Int)
  ·rw[gQ v1 Df.d h1 hi,aeH]at h3;have h5:=rV hs v3.toNat;generalize v1.getD v3.toNat Df.d=s at h3 h5 ⊢;have h6:=alv s h5;have h7:IQ s=bif zA s then s else[39]++qF 39 [39,92,39,39] s++[39]:=rfl
   have h8:Xd s [39] [39,92,39,39] (-1)=qF 39 [39,92,39,39] s:=rfl;rw[h8]
   (repeat' (first|intro _|apply And.intro))<;>grind[abt,agI]
  ·rw[jw v1 (by omega),aib,aeb]at h3
   (repeat' (first|intro _|apply And.intro))<;>grind[Lf]
def iO:aqO:=[100,105,115,97,98,108,101]
def bQ:aqO:=[116,101,115,116]
def dQ:aqO:=[105,110,116,101,114,118,97,108]
def fu:aqO:=[115,116,97,114,116,95,112,101,114,105,111,100]
def bS:aqO:=[114,101,116,114,105,101,115]
def Gw:aqO:=[49,115]
def UE:aqO:=[48]
def UF:aqO:=[78,79,78,69]
def UG:aqO:=[67,77,68,45,83,72,69,76,76]
def UH:aqO:=[67,77,68]
def tsX(n:Node):Bool:=bif !(pY n)then true else((bH n).length:Int)==0
def IU(n:Node):Int:=bif n.kind==1 then 1 else bif tsX n then 0 else bif(bH n).getD 0 []==UF then(bif((bH n).length:Int)==1 then 2 else 0)
 else bif(bH n).getD 0 []==UG then(bif((bH n).length:Int)==2 then 1 else 0)else bif(bH n).getD 0 []==UH then(bif decide ((1:Int)<((bH n).length:Int))then 1 else 0)else 0
def IV(n:Node):aqO:=bif n.kind==1 then n.text else bif tsX n then[]else bif(bH n).getD 0 []==UF then[]
 else bif(bH n).getD 0 []==UG then(bif((bH n).length:Int)==2 then(bH n).getD 1 []else[])else bif(bH n).getD 0 []==UH then Lf ((bH n).drop 1)else[]
def tsN(n:Node):Bool:=bif n.kind==1 then false else bif tsX n then false else(bH n).getD 0 []==UF
def tsR(n:Node):Bool:=!(IU n==0)
theorem aly(n:Node)(hl:n.kids.length<=1000000)(hk:(bH n).length<=1000000)(hs:∀s∈bH n,s.length<=1000000):(Hr n).isSome=true->gv (Hr n)=(IV n,tsN n,tsR n):=by
 refine iA rfl ?_;simp only[eX,Hq];have h1:=zX n hl;have h2:∀i:Nat,(bH n).getD i (Df.d:aqO)=(bH n).getD i []:=fun _=>rfl
 have h3:cut (bH n) 1 ((bH n).length:Int)=(bH n).drop 1:=DJ _ 1;have h4:=alx ((bH n).drop 1) (by rw[adH];omega) (fun s h=>hs s (List.mem_of_mem_drop h));have h5:UF=[78,79,78,69]:=rfl;have h6:UG=[67,77,68,45,83,72,69,76,76]:=rfl;have h7:UH=[67,77,68]:=rfl
 (repeat' (first|intro _|apply And.intro))<;>grind[IV,tsN,tsR,IU,tsX]
end
section
def NP(n o:Node):Node:=bif aD n bQ then bD o bQ (dx (IV (aJ n bQ)))else o
def NQ(n:Node)(k:aqO)(o:Node):Node:=bif aD n k then bD o k (dx (yC (u6 (aM n k Gw))))else o
def FE(n:Node):Int:=BL (aM n bS UE) 65536
def ap3(n o:Node):Node:=bif decide (0<FE n)then bD o bS (dx (aZ (FE n)))else o
def hO(n:Node):Node:=ap3 n (NQ n fu (NQ n dQ (NP n zn)))
def YS(n:Node):Bool:=bif aM n iO ow==jU then true else(bif aD n bQ then tsN (aJ n bQ)else false)
def JB(n:Node):Bool:=bif(bif n.kind != 3 then true else !(bT n iO []))then true else OC (aM n iO ow)
def Lg(n:Node)(b:Bool):Bool:=bif b then true else(bif aD n bQ then !(tsR (aJ n bQ))else false)
def UJ(n:Node)(k:aqO)(b:Bool):Bool:=bif(bif b then true else !(bT n k []))then true else acS (aM n k Gw)!=0
def UK(n:Node)(b:Bool):Bool:=bif UJ n dQ b then true else u6 (aM n dQ Gw)==0
def bdR(n:Node)(b:Bool):Bool:=bif(bif(bif(bif b then true else !(bT n bS []))then true else Nh (aM n bS UE) 65536 != 0)then true else(bif aD n bS then FE n==0 else false))then true else decide ((10:Int)<FE n)
def ai6(n:Node):Bool:=bdR n (UJ n fu (UK n (Lg n (JB n))))
def hLf(n:Node):Int:=((((n.keys.length:Int)-b2 (aD n iO))-b2 (aD n bQ))-b2 (aD n dQ))-b2 (aD n fu)-b2 (aD n bS)
def ap4(off:Bool)(o:Node)(bad:Bool):Node×Int:=bif bad then(zn,10)else(DY (bif off then bD zn iO (fD true)else o) false,DZ (bif off then bD zn iO (fD true)else o) false)
def hP(n:Node):Node×Int:=ap4 (YS n) (hO n) (ai6 n || !(hLf n==0))
def hFo(n:Node):Nat->Node
 | 0=>NP n zn
 | 1=>NQ n dQ (NP n zn)
 | _=>NQ n fu (NQ n dQ (NP n zn))
def JC(n:Node):Nat->Int
 | 0=>(n.keys.length:Int)-b2 (aD n iO)-b2 (aD n bQ)
 | 1=>(n.keys.length:Int)-b2 (aD n iO)-b2 (aD n bQ)-b2 (aD n dQ)
 | _=>(n.keys.length:Int)-b2 (aD n iO)-b2 (aD n bQ)-b2 (aD n dQ)-b2 (aD n fu)
def hBd(n:Node):Nat->Bool
 | 0=>Lg n (JB n)
 | 1=>UK n (Lg n (JB n))
 | _=>UJ n fu (UK n (Lg n (JB n)))
theorem UL(x:Bool):0<=b2 x/\b2 x<=1:=by cases x<;>decide
theorem hor(x y:Bool):(bif x then true else y)=(x||y):=by cases x<;>rfl
theorem hand(x y:Bool):(bif x then y else false)=(x&&y):=by cases x<;>rfl
set_option maxHeartbeats 1000000 in
theorem afw(n:Node)(hl:n.keys.length<=100000)(hf:∀k o,o.length<=1000000->(aM n k o).length<=1000000)(ht:(aJ n bQ).kids.length<=1000000)(ht2:(bH (aJ n bQ)).length<=1000000)(ht3:∀s∈bH (aJ n bQ),s.length<=1000000):(tu n).isSome=true->gv (tu n)=hP n:=by
 refine part rfl (fun r=>r=hP n) (fun | .e y=>y=n | .h0 v0 v1 v2 v3 v4 _ _ v7 v8=>v0=YS n/\v1=[dQ,fu]/\v2=2/\v4=n/\∃i:Nat,v3=(i:Int)/\i<=2/\v7=⟨hFo n i,false⟩/\v8=⟨n,JC n i,hBd n i⟩) rfl ?_;have c1:=UL (aD n iO);have c2:=UL (aD n bQ);have c3:=UL (aD n dQ);have c4:=UL (aD n fu);have c5:=UL (aD n bS);rintro(y | ⟨v0,v1,v2,v3,v4,v5,v6,v7,v8⟩) hs
 ·cases hs;simp only[aN,bB,tq,bf];simp only[eX];intro i1;have q:=uw ⟨n,(n.keys.length:Int),n.kind != 3⟩ iO false ⟨by dsimp only;omega,by dsimp only;omega⟩ i1;have e0:([100,105,115,97,98,108,101]:aqO)=iO:=rfl;have e1:([116,101,115,116]:aqO)=bQ:=rfl;rw[e0,e1,q];dsimp only;have hbd:((n.kind != 3 || !bT n iO [])||OC (aM n iO (Bl false)))=JB n:=by
   unfold JB;rw[hor,hor];rfl
  intro _;refine⟨fun hg i2 i3=>?_,fun hg=>?_⟩
  ·rw[aly _ ht ht2 ht3 i2]at i3 ⊢;rw[iB _ _ _ i3];refine⟨?_,rfl,rfl,trivial,0,rfl,by decide,?_,?_⟩
   ·unfold YS;rw[hg];rfl
   ·show(⟨_,_⟩:form)=⟨NP n zn,false⟩
    unfold NP;rw[hg];rfl
   ·show(⟨_,_,_⟩:field)=⟨n,JC n 0,hBd n 0⟩
    unfold JC hBd Lg;rw[<- hbd,hg,cZ (by omega)];rfl
  ·refine⟨?_,rfl,rfl,trivial,0,rfl,by decide,?_,?_⟩
   ·unfold YS;rw[hg,hor];simp;rfl
   ·show(⟨_,_⟩:form)=⟨NP n zn,false⟩
    unfold NP;rw[hg];rfl
   ·show(⟨_,_,_⟩:field)=⟨n,JC n 0,hBd n 0⟩
    unfold JC hBd Lg;rw[<- hbd,hg];simp[b2]
 ·obtain⟨rfl,rfl,rfl,rfl,i,rfl,hi,rfl,rfl⟩:=hs;have hlt:∀j, -1000000<=JC v4 j/\JC v4 j<=1000000:=fun j=>by
   unfold JC;split<;>omega
  simp only[aN,bB,tq,bf];by_cases h2:i<2
  ·simp only[eX];refine⟨fun _ _ _=>?_,fun h=>absurd (by omega) h⟩;have hk:∃k,List.getD [dQ,fu] ((i:Int)).toNat (Df.d:aqO)=k/\((i=0/\k=dQ)\/(i=1/\k=fu)):=by
    have:i=0\/i=1:=by omega
    rcases this with rfl | rfl
    ·exact⟨dQ,rfl,.inl ⟨rfl,rfl⟩⟩
    ·exact⟨fu,rfl,.inr ⟨rfl,rfl⟩⟩
   obtain⟨k,hk,hik⟩:=hk;rw[hk];intro i1 i2;rw[gT ⟨v4,JC v4 i,hBd v4 i⟩ k [49,115] (hlt i) i1]at i2 ⊢;dsimp only [lQ]at i2 ⊢;rw[alu _ (hf k [49,115] (by decide)) i2];have e1:ak ((i:Int)+1)=((i+1:Nat):Int):=by rw[cZ (by omega)];omega
   rw[e1];have hlv:JC v4 (i+1)=JC v4 i-b2 (aD v4 k):=by rcases hik with⟨rfl,rfl⟩ | ⟨rfl,rfl⟩<;>rfl
   have hbv:hBd v4 (i+1)=(bif(bif(hBd v4 i || !bT v4 k [])then true else((xR (aM v4 k [49,115])).2 != (0:Int)))then true else(bif(k==([105,110,116,101,114,118,97,108]:aqO))then((xR (aM v4 k [49,115])).1==(0:Int))else false)):=by
    rcases hik with⟨rfl,rfl⟩ | ⟨rfl,rfl⟩
    ·show UK v4 (Lg v4 (JB v4))=_;unfold UK UJ;rw[hor (Lg v4 (JB v4))];rfl
    ·show UJ v4 fu (UK v4 (Lg v4 (JB v4)))=_;unfold UJ;rw[hor (UK v4 (Lg v4 (JB v4))),hor (bif _ then _ else _),show(fu==([105,110,116,101,114,118,97,108]:aqO))=false from rfl,cond_false,Bool.or_false];rfl
   have hfv:hFo v4 (i+1)=NQ v4 k (hFo v4 i):=by rcases hik with⟨rfl,rfl⟩ | ⟨rfl,rfl⟩<;>rfl
   intro _;refine⟨fun hg i3 i4=>?_,fun hg=>?_⟩
   ·rw[ap2 _ i3]at i4 ⊢;rw[iB _ _ _ i4];refine⟨trivial,trivial,trivial,trivial,i+1,rfl,by omega,?_,?_⟩
    ·rw[hfv];unfold NQ;rw[hg];rfl
    ·rw[hlv,hbv]
   ·refine⟨trivial,trivial,trivial,trivial,i+1,rfl,by omega,?_,?_⟩
    ·rw[hfv];unfold NQ;rw[hg];rfl
    ·rw[hlv,hbv]
  ·have:i=2:=by omega
   subst this;simp only[eX];refine⟨fun h=>absurd h (by decide),fun _ i1=>?_⟩;have er:([114,101,116,114,105,101,115]:aqO)=bS:=rfl;have q:=Ac ⟨v4,JC v4 2,hBd v4 2⟩ bS (hlt 2) (hf bS [48] (by decide)) i1;rw[er,q];dsimp only;have hc:(iM (aM v4 bS [48]) 65536).1=FE v4:=aev (aM v4 bS UE) (most:=65536) (by decide);have hcb:=IK (aM v4 bS UE) 65536 (by decide);have hb:bdR v4 (hBd v4 2)=bif yB ⟨v4,JC v4 2,hBd v4 2⟩ bS then true else decide ((10:Int)<FE v4):=by unfold bdR yB;rw[hc,show(iM (aM v4 bS [48]) 65536).2=Nh (aM v4 bS UE) 65536 from UC (aM v4 bS UE) (most:=65536) (by decide),hor (hBd v4 2)]
   have hPd:hP v4=ap4 (YS v4) (ap3 v4 (hFo v4 2)) (bdR v4 (hBd v4 2) || !(JC v4 2-b2 (aD v4 bS)==0)):=rfl;rw[hc,hPd,hb];generalize yB ⟨v4,JC v4 2,hBd v4 2⟩ bS=cb;have hT:=Ad (FE v4) (by unfold FE;omega);generalize (JC v4 2-b2 (aD v4 bS)==0)=lz;generalize hFo v4 2=o;have hs:=Xx true;have p1:=iB ⟨⟨0,[],[],[]⟩,false⟩ iO (fD true);have p2:=iB ⟨o,false⟩ bS (dx (aZ (FE v4)));have d1:=iF ⟨bD zn iO (fD true),false⟩;have d2:=iF ⟨bD o bS (dx (aZ (FE v4))),false⟩;have d3:=iF ⟨o,false⟩;have ed:([100,105,115,97,98,108,101]:aqO)=iO:=rfl;have hn:=jG;rw[ed];unfold ap4 ap3
   (repeat' (first|intro _|apply And.intro))<;>grind[yZ,fI]
end
section
def Jm:aqO:=[111,110,45,102,97,105,108,117,114,101,58]
def aA7(s:aqO):Bool:=bif(bif(bif s==[110,111]then true else s==[97,108,119,97,121,115])then true else s==[117,110,108,101,115,115,45,115,116,111,112,112,101,100])then true else s==[111,110,45,102,97,105,108,117,114,101]
def vE(s:aqO):Bool:=bif(bif decide ((11:Int)<=(s.length:Int))then s.take 11==Jm else false)then(bif VZ (s.drop 11) 10==0 then decide ((0:Int)<amI (s.drop 11) 10)else false)else aA7 s
def A9(s:aqO):Bool:=VZ s 8==0
def su(s:aqO):Bool:=bif !(s==[])then decide ((s.length:Int)<=64)else false
def JD(f:aqO->Bool)(n:Node):Bool:=bif n.kind != 1 then true else !(f n.text)
def wX(f:aqO->Bool)(n:Node):Node:=bif JD f n then zn else n
def wY(f:aqO->Bool)(n:Node):Int:=bif JD f n then 10 else 0
def bI(s:aqO):Node:=⟨1,s,[],[]⟩
def sS(l:List (aqO)):Node:=⟨2,[],[],l.map bI⟩
theorem aEL(s p:aqO):iD s p=some (p.isPrefixOf s):=by
 obtain⟨h1,h2⟩:=lW s p;cases h:iD s p with
 | none=>rw[h]at h1;cases h1
 | some r=>rw[h]at h2;exact congrArg some h2
theorem ayZ(s:aqO):Jm.isPrefixOf s=bif decide ((11:Int)<=(s.length:Int))then s.take 11==Jm else false:=by
 rw[Bool.eq_iff_iff,List.isPrefixOf_iff_prefix];by_cases h:(11:Int)<=(s.length:Int)
 ·rw[decide_eq_true h,cond_true,beq_iff_eq];exact⟨fun e=>(List.prefix_iff_eq_take.1 e).symm,fun e=>List.prefix_iff_eq_take.2 e.symm⟩
 ·rw[decide_eq_false h,cond_false];refine⟨fun e=>?_,fun e=>(by cases e)⟩;have:=e.length_le;have h2:Jm.length=11:=rfl;omega
theorem Sm(s p:aqO):(sG s p).isSome=true->gv (sG s p)=(bif p.isPrefixOf s then s.drop p.length else s,p.isPrefixOf s):=by
 have h:(jA s p).isSome=true->gv (jA s p)=(bif p.isPrefixOf s then s.drop p.length else s,p.isPrefixOf s):=by
  refine iA rfl ?_;simp only[aN,bB,jy,aEL,aH,DJ,aaE];simp only[eX]
  (repeat' (first|intro _|apply And.intro))<;>grind
 refine iA rfl ?_;simp only[eX,sF];intro i;rw[h i]
theorem YT(s:aqO)(hs:s.length<=1000000):(xH s).isSome=true->gv (xH s)=vE s:=by
 refine iA rfl ?_;simp only[aN,bB,xG];rw[pZ];intro i;have e:([111,110,45,102,97,105,108,117,114,101,58]:aqO)=Jm:=rfl;rw[e]at i ⊢;rw[Sm s Jm i,ayZ];dsimp only;unfold vE;cases(bif decide ((11:Int)<=(s.length:Int))then s.take 11==Jm else false)with
 | false=>rfl
 | true =>simp only[cond_true];have e2:Jm.length=11:=rfl;rw[e2,tJ _ 10 (xK.2 ⟨⟨by rw[adH];omega,by decide⟩,by decide⟩)];rfl
theorem acT(s:aqO)(hs:s.length<=1000000):(AU s).isSome=true->gv (AU s)=A9 s:=by refine iA rfl ?_;simp only[aN,AQ];rw[tJ s 8 (xK.2 ⟨⟨hs,by decide⟩,by decide⟩)];rfl
theorem afx(s:aqO):Jf s=some (su s):=dL rfl rfl
theorem acU(n:Node)(hs:n.text.length<=1000000):(q9 n).isSome=true->gv (q9 n)=(wX vE n,wY vE n):=by
 have h:(kW n).isSome=true->gv (kW n)=(wX vE n,wY vE n):=by
  refine iA rfl ?_;have h1:=YT n.text hs;have h2:=jG;simp only[eX,kT]
  (repeat' (first|intro _|apply And.intro))<;>grind[wX,wY,JD,yZ]
 refine iA rfl ?_;simp only[eX,AP];intro i;rw[h i]
theorem ai7(n:Node)(hs:n.text.length<=1000000):(vS n).isSome=true->gv (vS n)=(wX A9 n,wY A9 n):=by
 have h:(mg n).isSome=true->gv (mg n)=(wX A9 n,wY A9 n):=by
  refine iA rfl ?_;have h1:=acT n.text hs;have h2:=jG;simp only[eX,l9]
  (repeat' (first|intro _|apply And.intro))<;>grind[wX,wY,JD,yZ]
 refine iA rfl ?_;simp only[eX,E8];intro i;rw[h i]
theorem alz(n:Node):(yK n).isSome=true->gv (yK n)=(wX su n,wY su n):=by
 have h:(mV n).isSome=true->gv (mV n)=(wX su n,wY su n):=by
  refine iA rfl ?_;have h2:=jG;simp only[aN,bB,mU,afx,fI];simp only[eX]
  (repeat' (first|intro _|apply And.intro))<;>grind[wX,wY,JD,yZ]
 refine iA rfl ?_;simp only[eX,G7];intro i;rw[h i]
theorem aa6(l:List (aqO))(hl:l.length<=1000000):(EW l).isSome=true->gv (EW l)=sS l:=by
 refine part rfl (fun r=>r=sS l) (fun | .e y=>y=l | .h0 v0 v1 v2 _ _ v5 v6 v7=>v0=l/\v1=(l.length:Int)/\0<=v2/\v2<=v1/\v5=2/\v6=[]/\v7++(l.drop v2.toNat).map bI=l.map bI) rfl ?_;rintro(y | ⟨v0,v1,v2,v3,v4,v5,v6,v7⟩) hs
 ·cases hs;simp only[eX,AA];exact⟨trivial,trivial,by decide,by omega,trivial,trivial,rfl⟩
 ·obtain⟨rfl,rfl,h1,h2,rfl,rfl,h3⟩:=hs;simp only[eX,AA];have e1:=@cZ (v2+1);have e2:∀s,bI s=dx s:=fun _=>rfl
  by_cases hi:v2<(v0.length:Int)
  ·rw[gQ v0 Df.d h1 hi,aeH]at h3
   (repeat' (first|intro _|apply And.intro))<;>grind[abt,agI]
  ·rw[jw v0 (by omega),aib,aeb]at h3
   (repeat' (first|intro _|apply And.intro))<;>grind[sS]
end
section
def iK(b:Int):aqO->Nat
 | []=>0
 | c::t=>bif(((c.toNat:Nat):Int)==b)then 0 else iK b t+1
theorem asK(b:Int):∀t,iK b t<=t.length
 | []=>abn _
 | c::t=>by
  unfold iK;have:=asK b t;cases(((c.toNat:Nat):Int)==b)with
  | true=>rw[cond_true];exact aaG _
  | false=>rw[cond_false,List.length_cons];omega
def yD(s:aqO):aqO:=s.take (iK 46 s)
def uy(s:aqO):aqO:=s.drop (iK 46 s+1)
def RO(s:aqO):Bool:=decide (iK 46 s<s.length)
def aA8(t:aqO):UInt8:=t.getD (t.length-1) 0
def UM(t:aqO):Bool:=bif(bif decide ((t.length:Int)<1)then true else decide ((3:Int)<(t.length:Int)))then true else(((aA8 t).toNat:Nat):Int)==48
def YU(t:aqO):aqO:=t++List.replicate (3-t.length) 48
def Lh(h t:aqO):Int×Int:=bif !(t.all dZ)then(0,3)else bif !(dX h)then(0,3)else
 bif(bif decide ((9007199254740:Int)<(bn h 0:Int))then true else decide ((9007199254740992:Int)<(bn h 0:Int)*1000+(bn (YU t) 0:Int)))then(0,9)else((bn h 0:Int)*1000+(bn (YU t) 0:Int),0)
def FH(s:aqO):Int×Int:=bif(bif RO s then UM (uy s)else false)then(0,3)else Lh (yD s) (uy s)
def avG(s:aqO):Int:=(FH s).1
def avH(s:aqO):Int:=(FH s).2
theorem ai8{s:aqO}(h:RO s=false):uy s=[]:=by unfold RO at h;unfold uy;exact aa9 (by have:=of_decide_eq_false h;omega)
theorem am1{t:aqO}(h:UM t=false):t.length<=3:=by
 unfold UM at h;by_cases h1:(3:Int)<(t.length:Int)
 ·rw[dT h1]at h;cases hq:decide ((t.length:Int)<1)<;>rw[hq]at h<;>cases h
 ·omega
theorem ay0(s:aqO):(yD s).length<=s.length:=by unfold yD;rw[ad6];omega
theorem awO{t:aqO}(h:t.length<=1000000):(decide ((0:Int)<=ak ((t.length:Int)-1))&&decide (ak ((t.length:Int)-1)<(t.length:Int)) || !(!(bif decide ((t.length:Int)<1)then true else decide ((3:Int)<(t.length:Int)))))=true /\
  (bif(bif decide ((t.length:Int)<1)then true else decide ((3:Int)<(t.length:Int)))then true else((List.getD t (Int.toNat (ak ((t.length:Int)-1))) 0).toNat:Int)==48)=UM t:=by
 unfold UM aA8;by_cases h1:(t.length:Int)<1
 ·rw[dT h1];exact⟨by simp,rfl⟩
 ·rw[dF h1,aV (by omega) (by omega),dT (show(0:Int)<=(t.length:Int)-1 by omega),dT (show(t.length:Int)-1<(t.length:Int) by omega),show((t.length:Int)-1).toNat=t.length-1 by omega];exact⟨rfl,rfl⟩
theorem aCE{c:UInt8}(h:dZ c=true):ak (IntKind.wrap .u8 (((c.toNat:Nat):Int)-48))=((c.toNat-48:Nat):Int):=by have:=vY.1 h;rw[awI (by omega) (by omega),aV (by omega) (by omega)];omega
def Li:aqO->Nat->Int->Option Int
 | _,0,p=>some p
 | [],k+1,p=>Li [] k (p*10)
 | c::t,k+1,p=>bif dZ c then Li t k (p*10+((c.toNat-48:Nat):Int))else none
theorem ai9:∀(k:Nat) (p:Nat),Li [] k p=some (bn (List.replicate k 48) p:Int)
 | 0,p=>rfl
 | k+1,p=>by rw[Li,show(p:Int)*10=((p*10:Nat):Int) by omega,ai9 k,List.replicate_succ];rfl
theorem am2:∀(t:aqO) (k p:Nat),t.length<=k->Li t k p=bif t.all dZ then some (bn (t++List.replicate (k-t.length) 48) p:Int)else none
 | [],k,p,_=>ai9 k p
 | c::t,0,p,h=>by simp at h
 | c::t,k+1,p,h=>by
  rw[Li,aeB];cases dZ c with
  | false=>rfl
  | true =>
   simp only[cond_true,aeu];have hl:t.length<=k:=by simp only[List.length_cons]at h;omega
   rw[show(p:Int)*10+((c.toNat-48:Nat):Int)=((p*10+(c.toNat-48):Nat):Int) by omega,am2 t k _ hl,List.length_cons,show k+1-(t.length+1)=k-t.length by omega];rfl
def Ba(s:aqO):Bool:=bif avH s==0 then decide ((0:Int)<avG s)else false
theorem afy(s:aqO)(hs:s.length<=1000000):(C8 s).isSome=true->gv (C8 s)=(yD s,uy s,RO s):=by
 refine part rfl (fun r=>r=(yD s,uy s,RO s)) (fun | .e y=>y=s | .h0 v0 v1 v2=>v0=s/\v1=(s.length:Int)/\0<=v2/\v2<=v1/\(iK 46 s:Int)=v2+iK 46 (s.drop v2.toNat)) rfl ?_;rintro(y | ⟨v0,v1,v2⟩) hs'
 ·cases hs';simp only[eX,tC];exact⟨trivial,trivial,by decide,by omega,by show _=(0:Int)+_;rw[Int.zero_add];rfl⟩
 ·obtain⟨rfl,rfl,h1,h2,h3⟩:=hs';simp only[eX,tC];have e1:=@cZ (v2+1);by_cases hi:v2<(v0.length:Int)
  ·rw[gQ v0 0 h1 hi,iK]at h3;refine⟨fun _ _ _=>?_,fun h=>absurd hi h⟩;generalize v0.getD v2.toNat 0=c at h3 ⊢;rw[e1 (by omega),DJ];refine⟨fun hc _ _=>?_,fun hc=>?_⟩
   ·rw[show((c.toNat:Int)==46)=true by simpa using hc,cond_true]at h3;have hf:iK 46 v0=v2.toNat:=by omega
    unfold yD uy RO cut;rw[hf,show(v2+1).toNat=v2.toNat+1 by omega,decide_eq_true (by omega)];rfl
   ·rw[show((c.toNat:Int)==46)=false from hc,cond_false]at h3;exact⟨trivial,trivial,by omega,by omega,by omega⟩
  ·rw[jw v0 (by omega),iK]at h3;refine⟨fun h=>absurd h hi,fun _=>?_⟩;have hf:iK 46 v0=v0.length:=by omega
   unfold yD uy RO;rw[hf,List.take_length,aa9 (by omega),decide_eq_false (by omega)]
def YV(h:aqO):Option Int->Int×Int
 | none=>(0,3)
 | some p=>bif !(dX h)then(0,3)else bif(bif decide ((9007199254740:Int)<(bn h 0:Int))then true else decide ((9007199254740992:Int)<(bn h 0:Int)*1000+p))then(0,9)else((bn h 0:Int)*1000+p,0)
theorem asL(h t:aqO)(ht:t.length<=3):Lh h t=YV h (Li t 3 0):=by have:=am2 t 3 0 ht;rw[show((0:Nat):Int)=0 from rfl]at this;rw[this];unfold Lh;cases t.all dZ<;>rfl
set_option maxHeartbeats 1000000 in
theorem afz(s:aqO)(hs:s.length<=1000000):(C9 s).isSome=true->gv (C9 s)=FH s:=by
 refine part rfl (fun r=>r=FH s) (fun | .e y=>y=s | .h0 v0 v1 v2 v3=>v0=yD s/\v1=uy s/\∃i:Nat,v3=(i:Int)/\i<=3/\0<=v2/\v2<10 ^ i/\YV (yD s) (Li ((uy s).drop i) (3-i) v2)=FH s) rfl ?_;have hA:=ay0 s;have hB:(uy s).length<=s.length:=by unfold uy;rw[adH];omega
 rintro(y | ⟨v0,v1,v2,v3⟩) hs'
 ·cases hs';simp only[aN,bB,fZ,tF];rw[pZ];intro i;rw[afy s hs i];dsimp only;obtain⟨l1,l2⟩:=@awO (uy s) (by omega);rw[l1,l2,av];unfold FH;cases hc:RO s with
  | false =>rw[cond_false,cond_false,cond_false];refine⟨rfl,rfl,0,rfl,by decide,by decide,by decide,?_⟩;rw[asL _ _ (by rw[ai8 hc];exact aaG _)];rfl
  | true =>
   rw[cond_true,cond_true];cases hb:UM (uy s)with
   | true=>rfl
   | false =>rw[cond_false,cond_false];refine⟨rfl,rfl,0,rfl,by decide,by decide,by decide,?_⟩;rw[asL _ _ (am1 hb)];rfl
 ·obtain⟨rfl,rfl,i,rfl,h1,h2,h3,h4⟩:=hs';have hp:(10:Int) ^ i<=1000:=by
   have:i=0\/i=1\/i=2\/i=3:=by omega
   rcases this with rfl | rfl | rfl | rfl<;>decide
  simp only[aN,bB,fZ,tF];by_cases hi:i<3
  ·have e1:ak ((i:Int)+1)=((i+1:Nat):Int):=by rw[cZ (by omega)];omega
   have e2:ak (v2*10)=v2*10:=cZ (by omega);have e3:(10:Int) ^ (i+1)=10 ^ i*10:=Int.pow_succ ..;rw[decide_eq_true (show(i:Int)<3 by omega),cond_true,e1,e2];rw[show 3-i=(3-(i+1))+1 by omega]at h4;by_cases hl:((uy s).length:Int)<=(i:Int)
   ·rw[decide_eq_true hl,cond_true];rw[aa9 (by omega),Li]at h4;refine⟨trivial,trivial,i+1,rfl,by omega,by omega,by omega,?_⟩;rw[aa9 (by omega)];exact h4
   ·rw[decide_eq_false hl,cond_false,pS];intro _ _;have hc:=gQ (uy s) 0 (i:=(i:Int)) (by omega) (by omega);rw[aaE,show((i:Int)+1).toNat=i+1 by omega]at hc;rw[hc,Li]at h4;rw[aaE];generalize (uy s).getD i 0=c at h4 ⊢;simp only[eX];intro _;rw[OD];cases hd:dZ c with
    | false =>rw[hd]at h4;exact⟨fun _=>h4,fun h=>by cases h⟩
    | true =>rw[hd,cond_true]at h4;refine⟨fun h=>(by cases h),fun _ _=>?_⟩;have hdd:=vY.1 hd;rw[aCE hd,cZ (by omega)];exact⟨trivial,trivial,i+1,rfl,by omega,by omega,by omega,h4⟩
  ·have:i=3:=by omega
   subst this;have h3:v2<1000:=h3;rw[show decide (((3:Nat):Int)<3)=false from rfl,cond_false,RJ _ _ (xK.2 ⟨⟨by omega,by decide⟩,by decide⟩),count_eq _ (by decide),aH];rw[<- h4];show(bif _ then _ else _);unfold fH;cases hw:dX (yD s)with
   | false =>show _=YV (yD s) (some v2);unfold YV;rw[hw];rfl
   | true =>
    have hq:YV (yD s) (Li (List.drop 3 (uy s)) (3-3) v2)=bif(bif decide ((9007199254740:Int)<(bn (yD s) 0:Int))then true else decide ((9007199254740992:Int)<(bn (yD s) 0:Int)*1000+v2))then(0,9)else((bn (yD s) 0:Int)*1000+v2,0):=by show YV (yD s) (some v2)=_;unfold YV;rw[hw];rfl
    rw[hq,adr,cond_false];by_cases hM:(9007199254740:Int)<(bn (yD s) 0:Int)
    ·rw[DF hM,decide_eq_true hM];rfl
    ·rw[DI hM,decide_eq_false hM];have w1:ak ((bn (yD s) 0:Int)*1000)=(bn (yD s) 0:Int)*1000:=cZ (by omega);have w2:ak (9007199254740992-v2)=9007199254740992-v2:=cZ (by omega);have w3:ak ((bn (yD s) 0:Int)*1000+v2)=(bn (yD s) 0:Int)*1000+v2:=cZ (by omega);rw[w1,w2,w3];simp only[eX]
     (repeat' (first|intro _|apply And.intro))<;>grind
end
section
def RQ(s:aqO):Bool:=bif s==[107]then true else s==[107,98]
def RS(s:aqO):Bool:=bif s==[109]then true else s==[109,98]
def RU(s:aqO):Bool:=bif s==[103]then true else s==[103,98]
def RV(s:aqO):Bool:=bif s==[]then true else s==[98]
def yE(s:aqO):Int:=bif RV s then 0 else bif RQ s then 1 else bif RS s then 2 else bif RU s then 3 else 0
def FI(s:aqO):Bool:=bif RV s then true else bif RQ s then true else bif RS s then true else RU s
theorem af5(s:aqO):0<=yE s/\yE s<=3:=by unfold yE;cases RV s<;>cases RQ s<;>cases RS s<;>cases RU s<;>decide
def Bb(s:aqO):Nat->Nat
 | 0=>0
 | n+1=>bif dZ (s.getD n 0)then n+1 else Bb s n
def jV(s:aqO):Nat:=Bb s s.length
theorem YW(s:aqO):∀n,Bb s n<=n
 | 0=>abn _
 | n+1=>by
  unfold Bb;have:=YW s n;cases dZ (s.getD n 0)with
  | true=>exact abn _
  | false=>rw[cond_false];omega
theorem asM(s:aqO):jV s<=s.length:=YW s _
def IW(s:aqO):Int×Int:=bif !(FI (s.drop (jV s)))then(0,3)else
 ((fH (s.take (jV s)) (1125899906842624 / 2 ^ (Int.toNat (10*yE (s.drop (jV s)))))).1*2 ^ (Int.toNat (10*yE (s.drop (jV s)))),(fH (s.take (jV s)) (1125899906842624 / 2 ^ (Int.toNat (10*yE (s.drop (jV s)))))).2)
def kD(s:aqO):Int:=(IW s).1
def XA(s:aqO):Int:=(IW s).2
theorem MI{u:Int}(h0:0<=u)(h1:u<=3):(u=0/\(2:Int) ^ (Int.toNat (10*u))=1)\/(u=1/\(2:Int) ^ (Int.toNat (10*u))=1024)\/(u=2/\(2:Int) ^ (Int.toNat (10*u))=1048576)\/(u=3/\(2:Int) ^ (Int.toNat (10*u))=1073741824):=by
 have:u=0\/u=1\/u=2\/u=3:=by omega
 rcases this with rfl | rfl | rfl | rfl<;>simp<;>decide
theorem ay1(n:Int):bits .and .i64 n 1023=n%1024:=by
 have h3:(BitVec.ofInt 64 1023).toNat=2 ^ 10-1:=by decide
 have key:(BitVec.ofInt 64 n &&& BitVec.ofInt 64 1023).toNat=(n%((2 ^ 64:Nat):Int)).toNat%2 ^ 10:=by rw[BitVec.toNat_and,BitVec.toNat_ofInt,h3,Nat.and_two_pow_sub_one_eq_mod]
 show IntKind.i64.wrap ((BitVec.ofInt 64 n &&& BitVec.ofInt 64 1023).toNat:Nat)=n%1024;rw[key,IntKind.wrap_i64];omega
def kF(n:Int):Int:=bif(bif n==0 then true else n%1024 != 0)then 0 else bif n%1048576 != 0 then 1 else bif n%1073741824 != 0 then 2 else 3
theorem aa7(n:Int):0<=kF n/\kF n<=3:=by unfold kF;cases(bif n==0 then true else n%1024 != 0)<;>cases n%1048576 != 0<;>cases n%1073741824 != 0<;>decide
def sfx(u:Int):aqO:=bif u==0 then[]else bif u==1 then[107]else bif u==2 then[109]else[103]
def Ai(n:Int):aqO:=bif(bif decide (n<0)then true else decide ((1125899906842624:Int)<n))then[]else aZ (n / 2 ^ (Int.toNat (10*kF n)))++sfx (kF n)
def JE(n:Node):Bool:=bif(bif n.kind != 1 then true else XA n.text != 0)then true else kD n.text==0
def byV(n:Node):Node:=bif JE n then zn else bI (Ai (kD n.text))
def byE(n:Node):Int:=bif JE n then 10 else 0
theorem u8e(c k:UInt8):((c.toNat:Int)=(k.toNat:Int))↔c=k:=by rw[<- UInt8.toNat_inj];omega
theorem alA(s:aqO):(BX s).isSome=true->gv (BX s)=(yE s,FI s):=by
 refine iA rfl ?_;simp only[eX,Hw]
 match s with
 | []=>((repeat' (first|intro _|apply And.intro))<;>grind[yE,FI,RV,RQ,RS,RU])
 | [a] =>
  have h:([a].length:Int)=1:=rfl;rw[h]
  (repeat' (first|intro _|apply And.intro))<;>grind[yE,FI,RV,RQ,RS,RU]
 | [a,b] =>
  have h:([a,b].length:Int)=2:=rfl;have g0:List.getD [a,b] (Int.toNat 0) 0=a:=rfl;have g1:List.getD [a,b] (Int.toNat 1) 0=b:=rfl;have c1:cut [a,b] 0 1=[a]:=rfl;have h1:((a.toNat:Int)=98)↔a=98:=u8e a 98;have h2:((b.toNat:Int)=98)↔b=98:=u8e b 98;rw[h,g0,g1,c1]
  (repeat' (first|intro _|apply And.intro))<;>grind[yE,FI,RV,RQ,RS,RU]
 | a::b::c::t =>
  have h:((a::b::c::t).length:Int)≠2:=by simp only[List.length_cons];omega
  (repeat' (first|intro _|apply And.intro))<;>grind[yE,FI,RV,RQ,RS,RU]
theorem ajc(s:aqO)(hs:s.length<=1000000):(E9 s).isSome=true->gv (E9 s)=IW s:=by
 refine part rfl (fun r=>r=IW s) (fun | .e y=>y=s | .h0 v0 v1=>v0=s/\0<=v1/\v1<=(s.length:Int)/\jV s=Bb s v1.toNat) rfl ?_;rintro(y | ⟨v0,v1⟩) hs'
 ·cases hs';simp only[aN,vT];exact⟨trivial,by omega,by omega,by rw[aaE];rfl⟩
 ·obtain⟨rfl,h1,h2,h3⟩:=hs';obtain⟨n,rfl⟩:∃n:Nat,v1=(n:Int):=⟨v1.toNat,by omega⟩
  rw[aaE]at h3;simp only[aN,bB,vT];rw[pK,pK];intro _ _;have hcond:(bif(decide ((0:Int)<(n:Int)))then(bif(decide ((((List.getD v0 (Int.toNat (ak ((n:Int)-(1:Int)))) 0).toNat:Nat):Int)<(48:Int)))then true else(decide ((57:Int)<(((List.getD v0 (Int.toNat (ak ((n:Int)-(1:Int)))) 0).toNat:Nat):Int))))else false)=(decide (0<n) && !(dZ (v0.getD (n-1) 0))):=by
   by_cases hn:0<n
   ·rw[decide_eq_true (show(0:Int)<(n:Int) by omega),cond_true,cZ (by omega),show((n:Int)-1).toNat=n-1 by omega,OD,decide_eq_true hn,aeu]
   ·rw[decide_eq_false (show ¬ (0:Int)<(n:Int) by omega),cond_false,decide_eq_false hn,ajZ]
  rw[hcond];cases hc:(decide (0<n) && !(dZ (v0.getD (n-1) 0)))with
  | true =>
   rw[cond_true];rw[abj,adB,ajC]at hc;obtain⟨m,rfl⟩:∃m,n=m+1:=⟨n-1,by omega⟩
   have e:ak (((m+1:Nat):Int)-1)=(m:Int):=by rw[cZ (by omega)];omega
   rw[e];refine⟨trivial,by omega,by omega,?_⟩;rw[aaE,h3,Bb,show v0.getD m 0=v0.getD (m+1-1) 0 from rfl,hc.2];rfl
  | false =>
   rw[cond_false,DJ,aaE];have hls:jV v0=n:=by
    rw[h3]
    match n,hc with
    | 0,_=>rfl
    | m+1,hc =>
     rw[decide_eq_true (by omega),aeu]at hc;have:dZ (v0.getD m 0)=true:=by simpa using hc
     rw[Bb,this];rfl
   have hct:cut v0 0 (n:Int)=v0.take n:=by unfold cut;rfl
   obtain⟨u0,u3⟩:=af5 (v0.drop n);have hw:ak (10*yE (v0.drop n))=10*yE (v0.drop n):=cZ (by omega);rw[pK,pZ];intro _ i;rw[alA _ i];dsimp only;rw[hw,hct];unfold IW;rw[hls];cases FI (v0.drop n)with
   | false=>rfl
   | true =>
    rw[adr,cond_false,cond_false];have hm:(0:Int)<=1125899906842624 / 2 ^ (Int.toNat (10*yE (v0.drop n)))/\(1125899906842624:Int) / 2 ^ (Int.toNat (10*yE (v0.drop n)))<=9007199254740992:=by rcases MI u0 u3 with⟨_,h⟩ | ⟨_,h⟩ | ⟨_,h⟩ | ⟨_,h⟩<;>rw[h]<;>decide
    rw[tJ _ _ (xK.2 ⟨⟨by rw[ad6];omega,hm.1⟩,hm.2⟩),count_eq _ hm.1];simp only[eX];intro _ _ _ _;have hb:=IK (v0.take n) _ hm.1;rw[fI];have hx:ak ((fH (v0.take n) (1125899906842624 / 2 ^ (Int.toNat (10*yE (v0.drop n))))).1*2 ^ (Int.toNat (10*yE (v0.drop n))))=(fH (v0.take n) (1125899906842624 / 2 ^ (Int.toNat (10*yE (v0.drop n))))).1*2 ^ (Int.toNat (10*yE (v0.drop n))):=by have hb':0<=(fH (v0.take n) (1125899906842624 / 2 ^ (Int.toNat (10*yE (v0.drop n))))).1/\(fH (v0.take n) (1125899906842624 / 2 ^ (Int.toNat (10*yE (v0.drop n))))).1<=1125899906842624 / 2 ^ (Int.toNat (10*yE (v0.drop n))):=hb;apply cZ;rcases MI u0 u3 with⟨_,h⟩ | ⟨_,h⟩ | ⟨_,h⟩ | ⟨_,h⟩<;>rw[h]at hb' ⊢ <;> omega
    rw[hx]
theorem ajd(x:Int)(h:0<=x/\x<=1125899906842624):(ng x).isSome=true->gv (ng x)=kF x:=by
 refine part rfl (fun r=>r=kF x) (fun | .e y=>y=x | .h0 v0 v1=>(v1=0/\v0=x)\/(v1=1/\v0=x / 1024/\x≠0/\x%1024=0)\/(v1=2/\v0=x / 1048576/\x≠0/\x%1048576=0)\/(v1=3/\v0=x / 1073741824/\x≠0/\x%1073741824=0)) rfl ?_;rintro(y | ⟨v0,v1⟩) hs'
 ·cases hs';exact .inl ⟨rfl,rfl⟩
 ·simp only[aN,bB,zR,ay1];have e2:(2:Int) ^ (Int.toNat 10)=1024:=by decide
  rw[e2];simp only[eX];unfold kF;rcases hs' with⟨rfl,rfl⟩ | ⟨rfl,rfl,h1,h2⟩ | ⟨rfl,rfl,h1,h2⟩ | ⟨rfl,rfl,h1,h2⟩
  ·have w:ak (0+1)=1:=rfl;rw[w]
   (repeat' (first|intro _|apply And.intro))<;>grind
  ·have w:ak (1+1)=2:=rfl;have a1:x / 1024 / 1024=x / 1048576:=by omega
   rw[w]
   (repeat' (first|intro _|apply And.intro))<;>grind
  ·have w:ak (2+1)=3:=rfl;have a1:x / 1048576 / 1024=x / 1073741824:=by omega
   have a2:x%1024=0:=by omega
   rw[w]
   (repeat' (first|intro _|apply And.intro))<;>grind
  ·have a2:x%1024=0:=by omega
   have a3:x%1048576=0:=by omega
   (repeat' (first|intro _|apply And.intro))<;>grind
theorem alB(x:Int):(Hz x).isSome=true->gv (Hz x)=Ai x:=by
 refine iA rfl ?_;simp only[aN,bB,Hy];unfold Ai;cases hb:(bif decide (x<0)then true else decide ((1125899906842624:Int)<x))with
 | true=>rfl
 | false =>
  have h0:0<=x/\x<=1125899906842624:=by
   by_cases h:x<0
   ·rw[decide_eq_true h]at hb;cases hb
   ·rw[decide_eq_false h,cond_false]at hb;have:=of_decide_eq_false hb;omega
  rw[cond_false,cond_false,pZ];intro i;rw[ajd x h0 i];obtain⟨u0,u3⟩:=aa7 x;rw[cZ (n:=10*kF x) (by omega)];have hd:0<=x / 2 ^ (Int.toNat (10*kF x))/\x / 2 ^ (Int.toNat (10*kF x))<=x:=by rcases MI u0 u3 with⟨_,h⟩ | ⟨_,h⟩ | ⟨_,h⟩ | ⟨_,h⟩<;>rw[h]<;>omega
  have hs:List.getD ([([]:aqO),([107]:aqO),([109]:aqO),([103]:aqO)]:List (aqO)) (Int.toNat (kF x)) (dflt Ty.str)=sfx (kF x):=by
   have:kF x=0\/kF x=1\/kF x=2\/kF x=3:=by omega
   rcases this with h | h | h | h<;>rw[h]<;>rfl
  rw[hs];simp only[eX];intro _ i2 _ _;rw[Ad _ (by omega) i2]
theorem aje(n:Node)(hs:n.text.length<=1000000):(vU n).isSome=true->gv (vU n)=(byV n,byE n):=by
 refine iA rfl ?_;have h1:=ajc n.text hs;have h2:=alB (kD n.text);have h3:=jG;have h4:kD n.text=(IW n.text).1:=rfl;have h5:XA n.text=(IW n.text).2:=rfl;have h6:∀s,bI s=dx s:=fun _=>rfl
 simp only[eX,Fb]
 (repeat' (first|intro _|apply And.intro))<;>grind[byV,byE,JE,yZ]
theorem alC(n:Node)(hs:n.text.length<=1000000):(yQ n).isSome=true->gv (yQ n)=(wX Ba n,wY Ba n):=by
 have h0:(Db n.text).isSome=true->gv (Db n.text)=Ba n.text:=by refine iA rfl ?_;simp only[eX,Da];intro i;rw[afz _ hs i];rfl
 have h:(mZ n).isSome=true->gv (mZ n)=(wX Ba n,wY Ba n):=by
  refine iA rfl ?_;have h2:=jG;simp only[eX,mY]
  (repeat' (first|intro _|apply And.intro))<;>grind[wX,wY,JD,yZ]
 refine iA rfl ?_;simp only[eX,Hu];intro i;rw[h i]
end
section
def sw(c:Int):Bool:=bif c==32 then true else c==9
theorem drop_at{s:aqO}{a:Nat}(h:a<s.length):s.drop a=s.getD a 0::s.drop (a+1):=by rw[List.drop_eq_getElem_cons h,List.getD,aaz h];rfl
def nW:aqO->Option (aqO×Nat)
 | []=>none
 | [c]=>bif(((c.toNat:Nat):Int)==34)then some ([],1)else none
 | c::d::t=>bif(((c.toNat:Nat):Int)==34)then some ([],1)else bif(((c.toNat:Nat):Int)==92)then
   (nW t).map fun q=>((bif(bif(((d.toNat:Nat):Int)!=34)then(((d.toNat:Nat):Int)!=92)else false)then[c]else[])++d::q.1,q.2+2)
   else(nW (d::t)).map fun q=>(c::q.1,q.2+1)
theorem acV:∀(t:aqO) (q:aqO×Nat),nW t=some q->q.2<=t.length/\q.1.length+1<=q.2
 | [],q,h=>by cases h
 | [c],q,h=>by
  unfold nW at h;cases hc:(((c.toNat:Nat):Int)==34)with
  | true=>rw[hc]at h;cases h;exact⟨abn _,abn _⟩
  | false=>rw[hc]at h;cases h
 | c::d::t,q,h=>by
  unfold nW at h;cases hc:(((c.toNat:Nat):Int)==34)with
  | true=>rw[hc]at h;cases h;exact⟨by simp only[List.length_cons];omega,abn _⟩
  | false =>
   rw[hc,cond_false]at h;cases h2:(((c.toNat:Nat):Int)==92)with
   | true =>
    rw[h2,cond_true]at h;cases ht:nW t with
    | none=>rw[ht]at h;cases h
    | some p =>rw[ht]at h;cases h;have:=acV t p ht;refine⟨by simp only[List.length_cons];omega,?_⟩;simp only[List.length_append,List.length_cons];cases(bif(((d.toNat:Nat):Int)!=34)then(((d.toNat:Nat):Int)!=92)else false)<;>simp only[cond_true,cond_false,List.length_cons,List.length_nil]<;>omega
   | false =>
    rw[h2,cond_false]at h;cases ht:nW (d::t)with
    | none=>rw[ht]at h;cases h
    | some p =>rw[ht]at h;cases h;have:=acV (d::t) p ht;simp only[List.length_cons]at this ⊢;omega
def Lj:aqO->Option (aqO×Nat)
 | []=>none
 | c::t=>bif(((c.toNat:Nat):Int)==92)then(match t with
   | []=>none
   | d::_=>some ([d],2))
  else bif(((c.toNat:Nat):Int)==39)then(bif decide (iK 39 t<t.length)then some (t.take (iK 39 t),iK 39 t+2)else none)
  else bif(((c.toNat:Nat):Int)!=34)then some ([c],1)
  else(nW t).map fun q=>(q.1,q.2+1)
theorem asN{t:aqO}{q:aqO×Nat}(h:Lj t=some q):q.2<=t.length/\1<=q.2/\q.1.length<=q.2:=by
 cases t with
 | nil=>cases h
 | cons c t =>
  simp only[Lj]at h;cases h1:(((c.toNat:Nat):Int)==92)with
  | true =>
   rw[h1,cond_true]at h;cases t with
   | nil=>cases h
   | cons d t=>cases h;simp
  | false =>
   rw[h1,cond_false]at h;cases h2:(((c.toNat:Nat):Int)==39)with
   | true =>
    rw[h2,cond_true]at h;by_cases hf:iK 39 t<t.length
    ·rw[dT hf]at h;cases h;simp only[List.length_cons,ad6];omega
    ·rw[dF hf]at h;cases h
   | false =>
    rw[h2,cond_false]at h;cases h3:(((c.toNat:Nat):Int)!=34)with
    | true=>rw[h3]at h;cases h;simp
    | false =>
     rw[h3,cond_false]at h;cases ht:nW t with
     | none=>rw[ht]at h;cases h
     | some p =>rw[ht]at h;cases h;have:=acV t p ht;simp only[List.length_cons];omega
def kg:Nat->aqO->aqO->Bool->List (aqO)->Option (List (aqO))
 | 0,_,_,_,_=>none
 | _+1,[],w,b,out=>some (bif b then out++[w]else out)
 | n+1,c::t,w,b,out=>bif sw ((c.toNat:Nat):Int)then kg n t (bif b then[]else w) false (bif b then out++[w]else out)
   else(match Lj (c::t)with
    | none=>none
    | some q=>kg n ((c::t).drop q.2) (w++q.1) true out)
def p9(s:aqO):Option (List (aqO)):=kg (s.length+1) s [] false []
def UN:Option (List (aqO))->List (aqO)
 | none=>[]
 | some l=>bif decide ((32:Int)<(l.length:Int))then[]else l
def acW:Option (List (aqO))->Int
 | none=>3
 | some l=>bif decide ((32:Int)<(l.length:Int))then 9 else 0
def QZ(s:aqO):List (aqO):=UN (p9 s)
def ajf(s:aqO):Int:=acW (p9 s)
theorem Q5(o:Option (List (aqO))):(UN o).length<=32:=by
 cases o with
 | none=>exact aaG _
 | some l =>
  simp only[UN];by_cases h:(32:Int)<(l.length:Int)
  ·rw[dT h];exact aaG _
  ·rw[dF h,cond_false];omega
theorem MJ{n:Nat}{s:aqO}{i:Nat}(hi:s.length<=i)(w:aqO)(b:Bool)(out:List (aqO)):kg (n+1) (s.drop i) w b out=some (bif b then out++[w]else out):=by rw[aa9 hi];rfl
theorem Ib{n:Nat}{s:aqO}{i:Nat}(hi:i<s.length)(hb:sw (((s.getD i 0).toNat:Nat):Int)=true)(w:aqO)(b:Bool)(out:List (aqO)) :
  kg (n+1) (s.drop i) w b out=kg n (s.drop (i+1)) (bif b then[]else w) false (bif b then out++[w]else out):=by
 rw[drop_at hi,kg,hb,cond_true]
theorem XB{n:Nat}{s:aqO}{i:Nat}(hi:i<s.length)(hb:sw (((s.getD i 0).toNat:Nat):Int)=false)(w:aqO)(b:Bool)(out:List (aqO)) :
  kg (n+1) (s.drop i) w b out=(match Lj (s.drop i)with
   | none=>none
   | some q=>kg n (s.drop (i+q.2)) (w++q.1) true out):=by
 rw[drop_at hi,kg,hb,cond_false,<- drop_at hi];cases Lj (s.drop i)with
 | none=>rfl
 | some q=>simp only[ama]
theorem asO(b:UInt8):∀t:aqO,Lib.indexByte t b=if iK ((b.toNat:Nat):Int) t<t.length then(iK ((b.toNat:Nat):Int) t:Int)else -1
 | []=>rfl
 | c::t=>by
  have ih:=asO b t;have hl:=asK ((b.toNat:Nat):Int) t;unfold Lib.indexByte iK;by_cases h:c=b
  ·subst h;rw[iU rfl,cond_true,if_pos (beq_self_eq_true _),if_pos (by simp)];rfl
  ·have h1:(c==b)=false:=by simpa using h
   rw[eT (show((c.toNat:Nat):Int)≠((b.toNat:Nat):Int)from fun e=>h (UInt8.toNat_inj.1 (by omega))),cond_false,if_neg (by rw[h1];decide),ih];by_cases h2:iK ((b.toNat:Nat):Int) t<t.length
   ·rw[if_pos h2,if_neg (by simp),if_pos (by simp only[List.length_cons];omega)]
    try rfl
   ·rw[if_neg h2,if_pos (by decide),if_neg (by simp only[List.length_cons];omega)]
theorem aEM(t:aqO):Gl t 39=if iK 39 t<t.length then(iK 39 t:Int)else -1:=asO 39 t
def nm(w:aqO):List Int:=w.map fun b=>((b.toNat:Nat):Int)
theorem am3(w:aqO):List.map (fun y:Int=>UInt8.ofNat (Int.toNat y)) (nm w)=w:=by
 unfold nm;rw[List.map_map]
 conv=>rhs;rw[<- List.map_id w]
 refine ajr fun b _=>?_
 show UInt8.ofNat (Int.toNat ((b.toNat:Nat):Int))=b;rw[aaE];exact UInt8.ofNat_toNat
theorem IX(w v:aqO):nm w++nm v=nm (w++v):=by simp[nm]
theorem ajg(c:Int):ES c=some (sw c):=dL rfl rfl
theorem ay2(P:List (aqO)×Int->Prop)(g:ET->Prop)(s:aqO):(gN (.vN s [] [] 0 false)).run Prop P g True=(gN (.e s)).run Prop P g True:=rfl
def sqV(t:aqO):Option (aqO×Nat):=bif decide (iK 39 t<t.length)then some (t.take (iK 39 t),iK 39 t+1)else none
def acX(n a:Nat)(s w:aqO)(out:List (aqO)):Option (aqO×Nat)->Option (List (aqO))
 | none=>none
 | some q=>kg n (s.drop (a+q.2)) (w++q.1) true out
def spI(s:aqO):ET->Prop
 | .e y=>y=s
 | .Yo v0 v1 v2=>∃w,v1=nm w/\some (bif v2 then v0++[w]else v0)=p9 s
 | .vN v0 v1 v2 v3 v4=>v0=s/\∃(i n:Nat) (w:aqO),v3=(i:Int)/\i<=s.length/\s.length-i<n/\v2=nm w/\kg n (s.drop i) w v4 v1=p9 s
 | .Qu v0 v1 v2 v3 v4=>v0=s/\v4=true/\∃(i n:Nat) (w:aqO),v3=(i:Int)/\i<=s.length/\s.length-i<=n/\v2=nm w/\acX n i s w v1 (sqV (s.drop i))=p9 s
 | .Jg v0 v1 v2 v3 v4=>v0=s/\v4=true/\∃(i n:Nat) (w:aqO),v3=(i:Int)/\i<=s.length/\s.length-i<=n/\v2=nm w/\acX n i s w v1 (nW (s.drop i))=p9 s
theorem ajh(i:Nat)(h:i<=1000010):ak ((i:Int)+1)=((i+1:Nat):Int):=by rw[cZ (by omega)];omega
theorem O7(c:UInt8):[((c.toNat:Nat):Int)]=nm [c]:=rfl
abbrev spQ(s:aqO)(r:List (aqO)×Int):Prop:=r=(UN (p9 s),acW (p9 s))
theorem awP(s:aqO)(hs:s.length<=1000000){v0:aqO}{v1:List (aqO)}{v2:List Int}{v3:Int}{v4:Bool}(h:spI s (.vN v0 v1 v2 v3 v4)):(gN (.vN v0 v1 v2 v3 v4)).run Prop (spQ s) (spI s) True:=by
 obtain⟨rfl,i,n,w,rfl,hi,hn,rfl,hR⟩:=h;obtain⟨m,rfl⟩:∃m,n=m+1:=⟨n-1,by omega⟩
 simp only[aN,bB,gN,ajg,aH,am3];by_cases he:i=v0.length
 ·rw[show((i:Int)==(v0.length:Int))=true by rw[he];simp,cond_true];rw[MJ (by omega)]at hR;exact⟨w,rfl,hR⟩
 ·rw[show((i:Int)==(v0.length:Int))=false by simp only[agA];omega,cond_false,pS];intro _ _;have hl:i<v0.length:=by omega
  rw[aaE,ajh i (by omega)];cases hb:sw (((v0.getD i 0).toNat:Nat):Int)with
  | true =>
   rw[Ib hl hb]at hR;rw[cond_true];cases v4 with
   | true =>rw[cond_true,pK];intro _;exact⟨rfl,i+1,m,[],rfl,by omega,by omega,rfl,hR⟩
   | false=>exact⟨rfl,i+1,m,w,rfl,by omega,by omega,rfl,hR⟩
  | false =>
   rw[XB hl hb,drop_at hl]at hR;simp only[Lj]at hR;rw[cond_false,pK];intro _;cases h39:(((v0.getD i 0).toNat:Nat):Int)==39 with
   | true =>
    have Em:((((v0.getD i 0).toNat:Nat):Int)==92)=false:=by have:=eq_of_beq h39;rw[this];rfl
    rw[Em,h39,cond_false,cond_true]at hR;rw[cond_true];refine⟨rfl,rfl,i+1,m,w,rfl,by omega,by omega,rfl,?_⟩;unfold sqV;cases hf:decide (iK 39 (v0.drop (i+1))<(v0.drop (i+1)).length)with
    | true =>rw[hf]at hR;show kg m (v0.drop (i+1+(iK 39 (v0.drop (i+1))+1))) _ true v1=_;rw[show i+1+(iK 39 (v0.drop (i+1))+1)=i+(iK 39 (v0.drop (i+1))+2) by omega];exact hR
    | false=>rw[hf]at hR;exact hR
   | false =>
    rw[cond_false,pK];intro _;rw[h39,cond_false]at hR;cases CJ:(((v0.getD i 0).toNat:Nat):Int)==34 with
    | true =>
     have Em:((((v0.getD i 0).toNat:Nat):Int)==92)=false:=by have:=eq_of_beq CJ;rw[this];rfl
     have avI:((((v0.getD i 0).toNat:Nat):Int)!=34)=false:=by have:=eq_of_beq CJ;rw[this];rfl
     rw[Em,avI,cond_false,cond_false]at hR;rw[cond_true];refine⟨rfl,rfl,i+1,m,w,rfl,by omega,by omega,rfl,?_⟩;cases hd:nW (v0.drop (i+1))with
     | none=>rw[hd]at hR;exact hR
     | some q =>rw[hd]at hR;show kg m (v0.drop (i+1+q.2)) _ true v1=_;rw[show i+1+q.2=i+(q.2+1) by omega];exact hR
    | false =>
     have avI:((((v0.getD i 0).toNat:Nat):Int)!=34)=true:=by simp only[bne_iff_ne];exact fun e=>by rw[e]at CJ;cases CJ
     rw[cond_false,pK];intro _;rw[avI,cond_true]at hR;cases Em:(((v0.getD i 0).toNat:Nat):Int)==92 with
     | true =>
      rw[Em,cond_true]at hR;rw[cond_true];by_cases he2:i+1=v0.length
      ·rw[show(((i+1:Nat):Int)==(v0.length:Int))=true by rw[he2];simp,cond_true];rw[aa9 (by omega)]at hR;have hR:(none:Option (List (aqO)))=p9 v0:=hR;show _=_;rw[<- hR];rfl
      ·rw[show(((i+1:Nat):Int)==(v0.length:Int))=false by simp only[agA];omega,cond_false,pS];intro _ _;rw[pK];intro _;have hl2:i+1<v0.length:=by omega
       rw[drop_at hl2]at hR;rw[aaE,ajh (i+1) (by omega),O7,IX];exact⟨rfl,i+2,m,w++[v0.getD (i+1) 0],rfl,by omega,by omega,rfl,hR⟩
     | false =>rw[Em,cond_false]at hR;rw[cond_false,pK];intro _;rw[pK];intro _;rw[O7,IX];exact⟨rfl,i+1,m,w++[v0.getD i 0],rfl,by omega,by omega,rfl,hR⟩
end
section
def F4(n:Node):Bool:=bif n.kind==1 then ajf n.text==0 else pY n
def jP(n:Node):List (aqO):=bif n.kind==1 then QZ n.text else bH n
def CK(n:Node):Node:=bif F4 n then sS (jP n)else zn
def wdE(n:Node):Int:=bif F4 n then 0 else 10
theorem aCF(s:aqO)(hs:s.length<=1000000){v0:aqO}{v1:List (aqO)}{v2:List Int}{v3:Int}{v4:Bool}(h:spI s (.Qu v0 v1 v2 v3 v4)):(gN (.Qu v0 v1 v2 v3 v4)).run Prop (spQ s) (spI s) True:=by
 obtain⟨rfl,rfl,i,n,w,rfl,hi,hn,rfl,hR⟩:=h;simp only[aN,bB,gN,DJ,aaE,aEM];rw[pK];intro _;unfold sqV at hR;have hl:(v0.drop i).length=v0.length-i:=adH;by_cases hf:iK 39 (v0.drop i)<(v0.drop i).length
 ·rw[decide_eq_true hf,cond_true]at hR;rw[if_pos hf,decide_eq_true (show(0:Int)<=(iK 39 (v0.drop i):Int) by omega),cond_true,pK];intro _;rw[pK];intro _;have e1:ak ((i:Int)+(iK 39 (v0.drop i):Int))=(i:Int)+(iK 39 (v0.drop i):Nat):=cZ (by omega);have e2:ak ((iK 39 (v0.drop i):Int)+1)=((iK 39 (v0.drop i)+1:Nat):Int):=ajh _ (by omega);have e3:ak ((i:Int)+((iK 39 (v0.drop i)+1:Nat):Int))=((i+(iK 39 (v0.drop i)+1):Nat):Int):=by rw[cZ (by omega)];omega
  rw[e1,e2,e3,ai3 v0 (by omega),aaE];refine⟨rfl,i+(iK 39 (v0.drop i)+1),n,w++(v0.drop i).take (iK 39 (v0.drop i)),rfl,by omega,by omega,?_,hR⟩;rw[<- IX];rfl
 ·rw[decide_eq_false hf,cond_false]at hR;have hR:(none:Option (List (aqO)))=p9 v0:=hR;rw[if_neg hf];show _=_;rw[<- hR];rfl
theorem aBa(c d:UInt8)(t:aqO):nW (c::d::t)=bif(((c.toNat:Nat):Int)==34)then some ([],1)else bif(((c.toNat:Nat):Int)==92)then(nW t).map fun q=>((bif(bif(((d.toNat:Nat):Int)!=34)then(((d.toNat:Nat):Int)!=92)else false)then[c]else[])++d::q.1,q.2+2)else(nW (d::t)).map fun q=>(c::q.1,q.2+1):=by rw[nW]
theorem ajj(n i j:Nat)(s w x:aqO)(out:List (aqO))(o:Option (aqO×Nat)):acX n i s w out (o.map fun q=>(x++q.1,q.2+j))=acX n (i+j) s (w++x) out o:=by
 cases o with
 | none=>rfl
 | some q =>show kg n (s.drop (i+(q.2+j))) (w++(x++q.1)) true out=kg n (s.drop (i+j+q.2)) (w++x++q.1) true out;rw[show i+(q.2+j)=i+j+q.2 by omega,abt]
theorem aCG(s:aqO)(hs:s.length<=1000000){v0:aqO}{v1:List (aqO)}{v2:List Int}{v3:Int}{v4:Bool}(h:spI s (.Jg v0 v1 v2 v3 v4)):(gN (.Jg v0 v1 v2 v3 v4)).run Prop (spQ s) (spI s) True:=by
 obtain⟨rfl,rfl,i,n,w,rfl,hi,hn,rfl,hR⟩:=h;simp only[aN,bB,gN,aaE,ajh i (by omega)];rw[pK];intro _;have hno:acX n i v0 w v1 none=p9 v0->spQ v0 (([]:List (aqO)),(3:Int)):=fun h=>by have h:(none:Option (List (aqO)))=p9 v0:=h;show _=_;rw[<- h];rfl
 by_cases he:i=v0.length
 ·rw[show((i:Int)==(v0.length:Int))=true by rw[he];simp,cond_true,cond_true];rw[aa9 (by omega)]at hR;exact hno hR
 ·have hl:i<v0.length:=by omega
  rw[show((i:Int)==(v0.length:Int))=false by simp only[agA];omega,cond_false];by_cases he2:i+1=v0.length
  ·rw[show(((i+1:Nat):Int)==(v0.length:Int))=true by rw[he2];simp,cond_true];have hn1:v0.drop (i+1)=[]:=aa9 (by omega);rw[drop_at hl,hn1]at hR;have hR:acX n i v0 w v1 (bif((((v0.getD i 0).toNat:Nat):Int)==34)then some ([],1)else none)=p9 v0:=hR;cases Em:(((v0.getD i 0).toNat:Nat):Int)==92 with
   | true =>
    have CJ:((((v0.getD i 0).toNat:Nat):Int)==34)=false:=by have:=eq_of_beq Em;rw[this];rfl
    rw[CJ]at hR;exact hno hR
   | false =>
    rw[cond_false,pS];intro _ _;rw[aaE];cases CJ:(((v0.getD i 0).toNat:Nat):Int)==34 with
    | true =>rw[CJ,cond_true]at hR;rw[cond_true];have hR:kg n (v0.drop (i+1)) (w++[]) true v1=p9 v0:=hR;rw[aeb]at hR;exact⟨rfl,i+1,n,w,rfl,by omega,by omega,rfl,hR⟩
    | false =>rw[CJ,cond_false]at hR;rw[cond_false,pK];intro _;rw[Em,cond_false,pK];intro _;rw[pK];intro _;rw[O7,IX];refine⟨rfl,rfl,i+1,n,w++[v0.getD i 0],rfl,by omega,by omega,rfl,?_⟩;rw[hn1];exact hR
  ·have hl2:i+1<v0.length:=by omega
   rw[show(((i+1:Nat):Int)==(v0.length:Int))=false by simp only[agA];omega,cond_false,cond_false,pS];intro _ _;rw[aaE];rw[drop_at hl,drop_at hl2,aBa]at hR;cases CJ:(((v0.getD i 0).toNat:Nat):Int)==34 with
   | true =>rw[CJ,cond_true]at hR;rw[cond_true];have hR:kg n (v0.drop (i+1)) (w++[]) true v1=p9 v0:=hR;rw[aeb]at hR;exact⟨rfl,i+1,n,w,rfl,by omega,by omega,rfl,hR⟩
   | false =>
    rw[CJ,cond_false]at hR;rw[cond_false,pK];intro _;cases Em:(((v0.getD i 0).toNat:Nat):Int)==92 with
    | true =>
     have hc:v0.getD i 0=92:=UInt8.toNat_inj.1 (by show(v0.getD i 0).toNat=92;have:=eq_of_beq Em;omega);rw[Em,cond_true,hc]at hR;rw[cond_true,pS];intro _ _;rw[pK];intro _;rw[aaE,ajh (i+1) (by omega)];have e92:([(92:Int)]:List Int)=nm [92]:=rfl;cases hb:(bif((((v0.getD (i+1) 0).toNat:Nat):Int)!=34)then((((v0.getD (i+1) 0).toNat:Nat):Int)!=92)else false)with
     | true =>rw[hb]at hR;rw[cond_true,pK];intro _;rw[pK];intro _;rw[pK];intro _;rw[O7,e92,IX,IX];refine⟨rfl,rfl,i+2,n,w++[92]++[v0.getD (i+1) 0],rfl,by omega,by omega,rfl,?_⟩;have:=ajj n i 2 v0 w ([92]++[v0.getD (i+1) 0]) v1 (nW (v0.drop (i+2)));rw[<- abt]at this;exact this.symm.trans hR
     | false =>rw[hb]at hR;rw[cond_false,pK];intro _;rw[pK];intro _;rw[O7,IX];refine⟨rfl,rfl,i+2,n,w++[v0.getD (i+1) 0],rfl,by omega,by omega,rfl,?_⟩;exact(ajj n i 2 v0 w [v0.getD (i+1) 0] v1 (nW (v0.drop (i+2)))).symm.trans hR
    | false =>rw[Em,cond_false,<- drop_at hl2]at hR;rw[cond_false,pK];intro _;rw[pK];intro _;rw[O7,IX];refine⟨rfl,rfl,i+1,n,w++[v0.getD i 0],rfl,by omega,by omega,rfl,?_⟩;exact(ajj n i 1 v0 w [v0.getD i 0] v1 (nW (v0.drop (i+1)))).symm.trans hR
theorem ajk(s:aqO)(hs:s.length<=1000000):(EU s).isSome=true->gv (EU s)=(QZ s,ajf s):=by
 refine part rfl (spQ s) (spI s) rfl ?_;have vN:spI s (.vN s [] [] 0 false):=⟨rfl,0,s.length+1,[],rfl,by omega,by omega,rfl,rfl⟩
 rintro(y | ⟨v0,v1,v2⟩ | ⟨v0,v1,v2,v3,v4⟩ | ⟨v0,v1,v2,v3,v4⟩ | ⟨v0,v1,v2,v3,v4⟩) h
 ·have h:y=s:=h;subst h;rw[<- ay2];exact awP y hs vN
 ·obtain⟨w,rfl,hR⟩:=h;simp only[aN,bB,gN,am3];cases v2 with
  | true =>
   rw[cond_true]at hR ⊢;rw[pK];intro _;unfold spQ;rw[<- hR];simp only[eX,UN,acW]
   (repeat' (first|intro _|apply And.intro))<;>grind
  | false =>
   rw[cond_false]at hR ⊢;unfold spQ;rw[<- hR];simp only[eX,UN,acW]
   (repeat' (first|intro _|apply And.intro))<;>grind
 ·exact awP s hs h
 ·exact aCF s hs h
 ·exact aCG s hs h
theorem ajl(n:Node)(hs:n.text.length<=1000000)(hl:n.kids.length<=1000000)(hk:(bH n).length<=1000000):(vO n).isSome=true->gv (vO n)=(CK n,wdE n):=by
 refine iA rfl ?_;have h1:=zX n hl;have h2:=ajk n.text hs;have h3:=jG;have h4:=aa6 (QZ n.text) (by have:=Q5 (p9 n.text);unfold QZ;omega);have h5:=aa6 (bH n) hk;simp only[eX,EX]
 (repeat' (first|intro _|apply And.intro))<;>grind[CK,wdE,F4,jP,yZ]
end
section
def Bc(x:aqO):Bool:=(iM x 255).2 != 0
def Gy(s:aqO):Bool:=bif((d9 s [46] 0 (-1)).length:Int)==4 then !((d9 s [46] 0 (-1)).any Bc)else false
theorem aBb(s:aqO)(hs:s.length<=1000000)(k:Int)(h:0<=k/\k<=65536):gI s k=some (iM s k):=tJ s k (xK.2 ⟨⟨hs,h.1⟩,by omega⟩)
theorem ap5(l:List (aqO))(hl:l.length<=1000000)(hs:∀s∈l,s.length<=1000000):(fF l).isSome=true->decide (0<=gv (fF l))=l.any Bc:=by
 refine part rfl (fun r=>decide (0<=r)=l.any Bc) (fun | .e y=>y=l | .h0 v0 v1 v2=>v0=l/\v1=(l.length:Int)/\0<=v2/\v2<=v1/\l.any Bc=(l.drop v2.toNat).any Bc) rfl ?_;rintro(y | ⟨v0,v1,v2⟩) hs'
 ·cases hs';exact⟨rfl,rfl,by decide,by omega,rfl⟩
 ·obtain⟨rfl,rfl,h1,h2,h3⟩:=hs';simp only[eX,dB];have e1:=@cZ (v2+1);by_cases hi:v2<(v0.length:Int)
  ·rw[gQ v0 Df.d h1 hi,al6]at h3;have h5:=rV hs v2.toNat;generalize v0.getD v2.toNat Df.d=x at h3 h5 ⊢;rw[aBb x h5 255 (by decide),fI];have hx:Bc x=((iM x 255).2 != 0):=rfl;rw[h3,hx];cases hb:((iM x 255).2 != 0)with
   | true=>((repeat' (first|intro _|apply And.intro))<;>grind)
   | false=>((repeat' (first|intro _|apply And.intro))<;>grind)
  ·rw[jw v0 (by omega),List.any_nil]at h3;rw[h3]
   (repeat' (first|intro _|apply And.intro))<;>grind
theorem acY(s:aqO)(hs:s.length<=999999):(qZ s).isSome=true->gv (qZ s)=Gy s:=by
 refine iA rfl ?_;obtain⟨a1,a2,a3⟩:=Dj s 46 0 (-1);have hc:(dh (d9 s [46] 0 (-1))).isSome=true->gv (dh (d9 s [46] 0 (-1)))=(d9 s [46] 0 (-1)).any Bc:=by refine iA rfl ?_;simp only[eX,eD];intro i;exact ap5 _ (by omega) (fun x hx=>by have:=a3 x hx;omega) i
 simp only[aN,bB,AB];rw[pK,pK];intro _ h;unfold Gy;cases hb:((d9 s [46] 0 (-1)).length:Int)==4 with
 | false=>rfl
 | true =>
  rw[hb]at h;have hi:(dh (d9 s [46] 0 (-1))).isSome=true:=by simpa using h
  rw[hc hi]
def kE(p:Port):Bool:=bif(bif(bif(bif(bif(decide ((1:Int)<=p.iP))then(decide (p.iP<=(65535:Int)))else false)then(decide (0<=p.out))else false)then(decide (p.out<=(65535:Int)))else false)then(bif(p.proto==([116,99,112]:aqO))then true else(p.proto==([117,100,112]:aqO)))else false)then(bif(p.host==([]:aqO))then true else Gy p.host)else false
theorem ay3{p:Port}(h:kE p=true):(1<=p.iP/\p.iP<=65535)/\0<=p.out/\p.out<=65535:=by unfold kE at h;simp only[hand,abj,adB]at h;omega
theorem FJ(p:Port)(hs:p.host.length<=999999):(dD p).isSome=true->gv (dD p)=kE p:=by
 refine iA rfl ?_;have h1:=acY p.host hs;simp only[aN,bB,EY];rw[pK];intro h;unfold kE;by_cases hi:(qZ p.host).isSome=true
 ·rw[h1 hi]
 ·have hn:(qZ p.host).isSome=false:=by simpa using hi
  rw[hn,ajH,ajC]at h;cases hA:(bif(bif(bif(bif(decide ((1:Int)<=p.iP))then(decide (p.iP<=(65535:Int)))else false)then(decide (0<=p.out))else false)then(decide (p.out<=(65535:Int)))else false)then(bif(p.proto==([116,99,112]:aqO))then true else(p.proto==([117,100,112]:aqO)))else false)with
  | false=>rfl
  | true =>rw[hA,aeu,Bool.not_eq_false']at h;rw[h];rfl
def qc(s:aqO):Int:=bif(bif(iM s 65535).2 != 0 then true else(iM s 65535).1==0)then -1 else(iM s 65535).1
theorem afA(s:aqO)(hs:s.length<=1000000):jE s=some (qc s):=dL rfl (by simp only[aN,bB,CZ,aBb s hs 65535 (by decide),aH];unfold qc;cases(bif(iM s 65535).2 != 0 then true else(iM s 65535).1==0)<;>rfl)
def JF(p:Port):aqO:=bif decide (0<p.out)then aZ p.out else[]
def XC(p:Port):aqO:=bif !(p.host==[])then(p.host++[58])++JF p else JF p
def En(p:Port):aqO:=bif !(XC p==[])then XC p++[58]else XC p
def zB(p:Port):aqO:=bif !(kE p)then[]else bif p.proto==[117,100,112]then(En p++aZ p.iP)++[47,117,100,112]else En p++aZ p.iP
theorem NR(p:Port)(hs:p.host.length<=999999):(yL p).isSome=true->gv (yL p)=zB p:=by
 refine iA rfl ?_;have h1:=FJ p hs;have h2:=@ay3 p;have h3:=Ad p.iP;have h4:=Ad p.out;simp only[eX,He];intro i;rw[h1 i];cases hr:kE p with
 | false=>((repeat' (first|intro _|apply And.intro))<;>grind[zB])
 | true =>
  have h2:=h2 hr;have h3:=h3 (by omega);have h4:=h4 (by omega)
  (repeat' (first|intro _|apply And.intro))<;>grind[zB,En,XC,JF]
end
section
def CO:Port:=⟨[],0,0,[]⟩
def qd(p:Port):Port×Int:=bif !(kE p)then(CO,3)else(p,0)
def uz(h pr:aqO):Port×Int :=
 bif((d9 h [58] 0 (-1)).length:Int)==1 then qd ⟨[],0,qc ((d9 h [58] 0 (-1)).getD ((d9 h [58] 0 (-1)).length-1) []),pr⟩
 else bif((d9 h [58] 0 (-1)).length:Int)==2 then qd ⟨[],qc ((d9 h [58] 0 (-1)).getD 0 []),qc ((d9 h [58] 0 (-1)).getD ((d9 h [58] 0 (-1)).length-1) []),pr⟩
 else bif((d9 h [58] 0 (-1)).length:Int)==3 then(bif(d9 h [58] 0 (-1)).getD 0 []==[]then(CO,3)else bif !((d9 h [58] 0 (-1)).getD 1 []==[])then qd ⟨(d9 h [58] 0 (-1)).getD 0 [],qc ((d9 h [58] 0 (-1)).getD 1 []),qc ((d9 h [58] 0 (-1)).getD ((d9 h [58] 0 (-1)).length-1) []),pr⟩
  else qd ⟨(d9 h [58] 0 (-1)).getD 0 [],0,qc ((d9 h [58] 0 (-1)).getD ((d9 h [58] 0 (-1)).length-1) []),pr⟩)
 else(CO,3)
def jg(s:aqO):Port×Int:=bif zN s [47]then uz (lU s [47]) (pU s [47])else uz s [116,99,112]
theorem awQ(h pr:aqO)(hh:h.length<=999990)(Q:Port×Int->Prop)(hQ:Q (uz h pr)):ck (Qt h ([58]:aqO) (0:Int) (-1:Int)) True (ck (decide (0<=(ak ((((d9 h ([58]:aqO) (0:Int) (-1:Int)).length:Nat):Int)-(1:Int))))&&decide ((ak ((((d9 h ([58]:aqO) (0:Int) (-1:Int)).length:Nat):Int)-(1:Int)))<((d9 h ([58]:aqO) (0:Int) (-1:Int)).length:Nat))) True (cl (jE (List.getD (d9 h ([58]:aqO) (0:Int) (-1:Int)) (Int.toNat (ak ((((d9 h ([58]:aqO) (0:Int) (-1:Int)).length:Nat):Int)-(1:Int)))) (dflt .str))) True fun y8=>bif((((d9 h ([58]:aqO) (0:Int) (-1:Int)).length:Nat):Int)==(1:Int))then(cl (dD (⟨([]:aqO),(0:Int),y8,pr⟩:Port)) True fun y9=>bif(!y9)then Q ((⟨([]:aqO),(0:Int),(0:Int),([]:aqO)⟩:Port),(3:Int))else Q ((⟨([]:aqO),(0:Int),y8,pr⟩:Port),(0:Int)))else(bif((((d9 h ([58]:aqO) (0:Int) (-1:Int)).length:Nat):Int)==(2:Int))then(ck (decide (0<=(0:Int))&&decide ((0:Int)<((d9 h ([58]:aqO) (0:Int) (-1:Int)).length:Nat))) True (cl (jE (List.getD (d9 h ([58]:aqO) (0:Int) (-1:Int)) (Int.toNat (0:Int)) (dflt .str))) True fun ig=>cl (dD (⟨([]:aqO),ig,y8,pr⟩:Port)) True fun wW=>bif(!wW)then Q ((⟨([]:aqO),(0:Int),(0:Int),([]:aqO)⟩:Port),(3:Int))else Q ((⟨([]:aqO),ig,y8,pr⟩:Port),(0:Int))))else(bif((((d9 h ([58]:aqO) (0:Int) (-1:Int)).length:Nat):Int)==(3:Int))then(ck (decide (0<=(0:Int))&&decide ((0:Int)<((d9 h ([58]:aqO) (0:Int) (-1:Int)).length:Nat))) True (bif((List.getD (d9 h ([58]:aqO) (0:Int) (-1:Int)) (Int.toNat (0:Int)) (dflt .str))==([]:aqO))then Q ((⟨([]:aqO),(0:Int),(0:Int),([]:aqO)⟩:Port),(3:Int))else(ck (decide (0<=(1:Int))&&decide ((1:Int)<((d9 h ([58]:aqO) (0:Int) (-1:Int)).length:Nat))) True (bif(!((List.getD (d9 h ([58]:aqO) (0:Int) (-1:Int)) (Int.toNat (1:Int)) (dflt .str))==([]:aqO)))then(ck (decide (0<=(1:Int))&&decide ((1:Int)<((d9 h ([58]:aqO) (0:Int) (-1:Int)).length:Nat))) True (cl (jE (List.getD (d9 h ([58]:aqO) (0:Int) (-1:Int)) (Int.toNat (1:Int)) (dflt .str))) True fun mX=>cl (dD (⟨(List.getD (d9 h ([58]:aqO) (0:Int) (-1:Int)) (Int.toNat (0:Int)) (dflt .str)),mX,y8,pr⟩:Port)) True fun y13=>bif(!y13)then Q ((⟨([]:aqO),(0:Int),(0:Int),([]:aqO)⟩:Port),(3:Int))else Q ((⟨(List.getD (d9 h ([58]:aqO) (0:Int) (-1:Int)) (Int.toNat (0:Int)) (dflt .str)),mX,y8,pr⟩:Port),(0:Int))))else(cl (dD (⟨(List.getD (d9 h ([58]:aqO) (0:Int) (-1:Int)) (Int.toNat (0:Int)) (dflt .str)),(0:Int),y8,pr⟩:Port)) True fun zu=>bif(!zu)then Q ((⟨([]:aqO),(0:Int),(0:Int),([]:aqO)⟩:Port),(3:Int))else Q ((⟨(List.getD (d9 h ([58]:aqO) (0:Int) (-1:Int)) (Int.toNat (0:Int)) (dflt .str)),(0:Int),y8,pr⟩:Port),(0:Int)))))))else Q ((⟨([]:aqO),(0:Int),(0:Int),([]:aqO)⟩:Port),(3:Int)))))):=by
 obtain⟨a1,a2,a3⟩:=Dj h 58 0 (-1);have hd:∀i,((d9 h [58] 0 (-1)).getD i (dflt Ty.str:aqO)).length<=999990:=fun i=>Nat.le_trans (VY h 58 0 (-1) i) hh
 have hdf:∀i,(d9 h [58] 0 (-1)).getD i (dflt Ty.str:aqO)=(d9 h [58] 0 (-1)).getD i []:=fun _=>rfl
 have hn:=fun i=>afA ((d9 h [58] 0 (-1)).getD i (dflt Ty.str:aqO)) (by have:=hd i;omega)
 have w:ak ((((d9 h [58] 0 (-1)).length:Nat):Int)-1)=(((d9 h [58] 0 (-1)).length-1:Nat):Int):=by rw[cZ (by omega)];omega
 have hR:∀(o i:Int) (q:aqO),(dD ⟨[],o,i,q⟩).isSome=true->gv (dD ⟨[],o,i,q⟩)=kE ⟨[],o,i,q⟩:=fun o i q=>FJ ⟨[],o,i,q⟩ (aaG _)
 have hR2:∀(k:Nat) (o i:Int) (q:aqO),(dD ⟨(d9 h [58] 0 (-1)).getD k (dflt Ty.str:aqO),o,i,q⟩).isSome=true->gv (dD ⟨(d9 h [58] 0 (-1)).getD k (dflt Ty.str:aqO),o,i,q⟩)=kE ⟨(d9 h [58] 0 (-1)).getD k (dflt Ty.str:aqO),o,i,q⟩:=fun k o i q=>FJ _ (Nat.le_trans (hd k) (by decide))
 rw[w];simp only[hn,aH];simp only[eX];have e0:(0:Int).toNat=0:=rfl;have e1:(1:Int).toNat=1:=rfl;rw[e0,e1,aaE];unfold uz qd at hQ;simp only[<- hdf]at hQ;have ez:CO=⟨[],0,0,[]⟩:=rfl
 (repeat' (first|intro _|apply And.intro))<;>grind
theorem FK(s:aqO)(hs:s.length<=999990):(zO s).isSome=true->gv (zO s)=jg s:=by
 refine iA rfl ?_;simp only[aN,bB,EZ];rw[pK];intro _;unfold jg;cases zN s [47]with
 | true =>rw[cond_true,cond_true];exact awQ (lU s [47]) (pU s [47]) (by have:=aiu s [47];omega) (fun r=>r=uz (lU s [47]) (pU s [47])) rfl
 | false =>rw[cond_false,cond_false];exact awQ s [116,99,112] hs (fun r=>r=uz s [116,99,112]) rfl
end
section
def dz:aqO:=[116,97,114,103,101,116]
def nG:aqO:=[112,117,98,108,105,115,104,101,100]
def qg:aqO:=[104,111,115,116,95,105,112]
def za:aqO:=[112,114,111,116,111,99,111,108]
def UO:aqO:=[116,99,112]
def JG(f:field)(k:aqO):field:=⟨f.n,f.left-b2 (aD f.n k),yB f k⟩
def f0(n:Node):field:=⟨n,(n.keys.length:Int),n.kind != 3⟩
def lgF(n:Node):field:=lQ (lQ (JG (JG (f0 n) dz) nG) qg) za
def RX(n:Node):Port:=⟨aM n qg [],(iM (aM n nG [48]) 65536).1,(iM (aM n dz [48]) 65536).1,aM n za UO⟩
def lgB(n:Node):Bool:=bif(bif(!(lgF n).bad)then((lgF n).left==(0:Int))else false)then kE (RX n)else false
theorem aeD(f:field):(⟨f.n,f.left,f.bad⟩:field)=f:=rfl
theorem aBd(n:Node):(⟨n,(n.keys.length:Int),n.kind != 3⟩:field)=f0 n:=rfl
theorem alD(n:Node)(hl:n.keys.length<=100000)(hf:∀k o,o.length<=100000->(aM n k o).length<=100000):(G9 n).isSome=true->gv (G9 n)=(RX n,lgB n):=by
 refine iA rfl ?_;have c1:=UL (aD n dz);have c2:=UL (aD n nG);have c3:=UL (aD n qg);have hz:∀k,(aM n k [48]).length<=1000000:=fun k=>Nat.le_trans (hf k [48] (by decide)) (by decide)
 simp only[aN,bB,G8,bf];have t1:([116,97,114,103,101,116]:aqO)=dz:=rfl;have t2:([112,117,98,108,105,115,104,101,100]:aqO)=nG:=rfl;have t3:([104,111,115,116,95,105,112]:aqO)=qg:=rfl;have t4:([112,114,111,116,111,99,111,108]:aqO)=za:=rfl;have t5:([116,99,112]:aqO)=UO:=rfl;rw[t1,t2,t3,t4,t5];simp only[eX,aeD,aBd];intro i1;rw[Ac (f0 n) dz ⟨by show -1000000<=(n.keys.length:Int);omega,by show(n.keys.length:Int)<=1000000;omega⟩ (hz dz) i1];dsimp only;rw[show(⟨(f0 n).n,(f0 n).left-b2 (aD (f0 n).n dz),yB (f0 n) dz⟩:field)=JG (f0 n) dz from rfl];intro i2;rw[Ac (JG (f0 n) dz) nG ⟨by show -1000000<=(n.keys.length:Int)-b2 (aD n dz);omega,by show(n.keys.length:Int)-b2 (aD n dz)<=1000000;omega⟩ (hz nG) i2];dsimp only;rw[show(⟨(JG (f0 n) dz).n,(JG (f0 n) dz).left-b2 (aD (JG (f0 n) dz).n nG),yB (JG (f0 n) dz) nG⟩:field)=JG (JG (f0 n) dz) nG from rfl];intro i3;rw[gT (JG (JG (f0 n) dz) nG) qg [] ⟨by show -1000000<=(n.keys.length:Int)-b2 (aD n dz)-b2 (aD n nG);omega,by show(n.keys.length:Int)-b2 (aD n dz)-b2 (aD n nG)<=1000000;omega⟩ i3];dsimp only;intro i4;rw[gT (lQ (JG (JG (f0 n) dz) nG) qg) za UO ⟨by show -1000000<=(n.keys.length:Int)-b2 (aD n dz)-b2 (aD n nG)-b2 (aD n qg);omega,by show(n.keys.length:Int)-b2 (aD n dz)-b2 (aD n nG)-b2 (aD n qg)<=1000000;omega⟩ i4];intro h;have hR:=FJ (RX n) (Nat.le_trans (hf qg [] (by decide)) (by decide));show(RX n,bif(bif(!(lgF n).bad)then((lgF n).left==(0:Int))else false)then gv (dD (RX n))else false)=(RX n,lgB n)
 have h:(dD (RX n)).isSome=true\/(bif(!(lgF n).bad)then((lgF n).left==(0:Int))else false)=false:=h;unfold lgB;rcases h with h | h
 ·rw[hR h]
 ·rw[h];rfl
end
section
def poX(y:Node):aqO:=bif y.kind==1 then zB (jg y.text).1 else zB (RX y)
def poB(y:Node):Bool:=bif y.kind==1 then(jg y.text).2==0 else lgB y
def poS:List Node->Node->Bool->Node×Bool
 | [],o,b=>(o,b)
 | y::t,o,b=>poS t (bD o (poX y) zn) (bif b then true else !(poB y))
def UQ:List (aqO)->List Node->Node->Bool->Node×Bool
 | s::t,y::r,o,b=>UQ t r (bD o s zn) (bif b then true else(bif(bif(!(zB (jg s).1==s))then true else(s==[]))then true else(y.kind != 0)))
 | _,_,o,b=>(o,b)
def poP(n:Node):Node×Bool:=bif qH n 2 then poS n.kids zn false else bif qH n 3 then UQ n.keys n.kids zn false else(zn,true)
def RY(n:Node):Node:=DY (poP n).1 (poP n).2
def RZ(n:Node):Int:=DZ (poP n).1 (poP n).2
theorem UR(s:aqO)(hs:s.length<=100000):(jg s).1.host.length<=999999:=by obtain⟨h1,h2⟩:=zT s (by omega);rw[FK s (by omega) h1]at h2;have h2:(jg s).1.host.length<=s.length:=h2;omega
set_option maxHeartbeats 1000000 in
theorem ajm(n:Node)(hk:n.keys.length<=100000)(hl:n.kids.length<=100000)(h3:n.kind=3->n.keys.length=n.kids.length)(hs:∀s∈n.keys,s.length<=100000)(hy:∀y∈n.kids,y.keys.length<=100000/\y.text.length<=100000/\∀k o,o.length<=100000->(aM y k o).length<=100000):(rM n).isSome=true->gv (rM n)=(RY n,RZ n):=by
 refine part rfl (fun r=>r=(RY n,RZ n)) (fun | .e y=>y=n | .h0 v0 v1 v2 _ _ v5=>v0=n.kids/\v1=(n.kids.length:Int)/\0<=v2/\v2<=v1/\poS (n.kids.drop v2.toNat) v5.n v5.bad=poP n | .h1 v0 v1 v2 v3 _ _ v6=>v3=n/\n.kind=3/\v0=n.keys/\v1=(n.keys.length:Int)/\0<=v2/\v2<=v1/\UQ (n.keys.drop v2.toNat) (n.kids.drop v2.toNat) v6.n v6.bad=poP n) rfl ?_;rintro(y | ⟨v0,v1,v2,v3,v4,⟨o,bad⟩⟩ | ⟨v0,v1,v2,v3,v4,v5,⟨o,bad⟩⟩) hs'
 ·cases hs';simp only[aN,bB,pX,rz,bf,aH];simp only[eX];have h2:=jG;have h4:=aiv
  (repeat' (first|intro _|apply And.intro))<;>grind[poP,RY,RZ,aed,yZ,qH]
 ·obtain⟨rfl,rfl,h1,h2,h4⟩:=hs';simp only[aN,bB,pX,iE,bf,aH];simp only[eX];have e1:=@cZ (v2+1);by_cases hi:v2<(n.kids.length:Int)
  ·rw[gQ n.kids Df.d h1 hi,poS]at h4;have h5:=UA hy h1 hi;have ed:n.kids.getD v2.toNat (dflt Ty.ah)=n.kids.getD v2.toNat (Df.d:Node):=rfl;rw[ed];generalize n.kids.getD v2.toNat Df.d=y at h4 h5 ⊢;have h6:=alD y h5.1 h5.2.2;have h7:=FK y.text (by omega);have h8:=NR (jg y.text).1 (UR y.text h5.2.1);have h9:=NR (RX y) (Nat.le_trans (h5.2.2 qg [] (by decide)) (by decide));have h10:=fun b k=>iB ⟨o,b⟩ k ⟨0,[],[],[]⟩
   (repeat' (first|intro _|apply And.intro))<;>grind[poX,poB,yZ]
  ·rw[jw n.kids (by omega),poS]at h4;have h5:=iF ⟨o,bad⟩
   (repeat' (first|intro _|apply And.intro))<;>grind[RY,RZ]
 ·obtain⟨rfl,h0,rfl,rfl,h1,h2,h4⟩:=hs';have hkk:=h3 h0;simp only[aN,bB,pX,iE,bf,aH];simp only[eX];have e1:=@cZ (v2+1);by_cases hi:v2<(v3.keys.length:Int)
  ·rw[gQ v3.keys Df.d h1 hi,gQ v3.kids Df.d h1 (by omega),UQ]at h4;have h5:=rV hs v2.toNat;have ed:v3.kids.getD v2.toNat (dflt Ty.ah)=v3.kids.getD v2.toNat (Df.d:Node):=rfl;rw[ed];generalize v3.keys.getD v2.toNat Df.d=s at h4 h5 ⊢;generalize v3.kids.getD v2.toNat Df.d=y at h4 ⊢;have h7:=FK s (by omega);have h8:=NR (jg s).1 (UR s h5);have h10:=fun b=>iB ⟨o,b⟩ s ⟨0,[],[],[]⟩
   (repeat' (first|intro _|apply And.intro))<;>grind[yZ]
  ·rw[jw v3.keys (by omega),UQ]at h4
   ·have h5:=iF ⟨o,bad⟩
    (repeat' (first|intro _|apply And.intro))<;>grind[RY,RZ]
   ·intro a b c d e;cases e
end
section
theorem V9{α:Type}[Df α]{o:Option α}{v:α}(h1:o.isSome=true)(h2:o.isSome=true->gv o=v):o=some v:=by obtain⟨r,rfl⟩:=Option.isSome_iff_exists.1 h1;rw[<- h2 rfl,fI]
def Q6(n:Int):Bool:=bif pb0 n then decide (Gl [46,95,45,47] n<0)else false
def Dm(s:aqO):Bool:=(s.all fun c=>!(Q6 ((c.toNat:Nat):Int)))&&(bif !(s==[])then decide ((s.length:Int)<=64)else false)
theorem UU(s:aqO)(hs:s.length<=1000000):iN s=some (Dm s):=V9 (KT s hs).1 (by
 refine part rfl (fun r=>r=Dm s) (fun | .e y=>y=s | .h0 v0 v1 v2=>v0=s/\v1=(s.length:Int)/\0<=v2/\v2<=v1/\Dm s=(((s.drop v2.toNat).all fun c=>!(Q6 ((c.toNat:Nat):Int)))&&(bif !(s==[])then decide ((s.length:Int)<=64)else false))) rfl ?_;rintro(y | ⟨v0,v1,v2⟩) hs'
 ·cases hs';simp only[eX,vR];exact⟨trivial,trivial,by decide,by omega,rfl⟩
 ·obtain⟨rfl,rfl,h1,h2,h3⟩:=hs';simp only[aN,bB,vR];have e1:=@cZ (v2+1);by_cases hi:v2<(v0.length:Int)
  ·rw[gQ v0 0 h1 hi,aeB]at h3;rw[decide_eq_true hi,cond_true,pS];intro _ _;generalize v0.getD v2.toNat 0=c at h3 ⊢;have hb:(bif(bif(bif(bif(decide (((c.toNat:Nat):Int)<(97:Int)))then true else(decide ((122:Int)<((c.toNat:Nat):Int))))then(bif(decide (((c.toNat:Nat):Int)<(65:Int)))then true else(decide ((90:Int)<((c.toNat:Nat):Int))))else false)then(bif(decide (((c.toNat:Nat):Int)<(48:Int)))then true else(decide ((57:Int)<((c.toNat:Nat):Int))))else false)then(decide ((Gl ([46,95,45,47]:aqO) ((c.toNat:Nat):Int))<(0:Int)))else false)=Q6 ((c.toNat:Nat):Int):=rfl;rw[hb];simp only[eX]
   (repeat' (first|intro _|apply And.intro))<;>grind
  ·rw[jw v0 (by omega),List.all_nil]at h3;simp only[eX]
   (repeat' (first|intro _|apply And.intro))<;>grind)
theorem acZ(s:aqO)(hs:s.length<=1000000):Gp s=some (rU Bj yx s):=dL rfl (by simp only[aN,AJ,ru s hs,aH])
def sI(m:fO):Bool:=bif(qG m.target)then(bif(bif(m.source==([]:aqO))then true else(rU Bj yx m.source))then true else(bif(Dm m.source)then(bif((((List.getD m.source (Int.toNat (0:Int)) 0).toNat:Nat):Int)==(47:Int))then true else((((List.getD m.source (Int.toNat (0:Int)) 0).toNat:Nat):Int)==(46:Int)))else false))else false
theorem Jo(m:fO)(hs:m.source.length<=1000000):(fT m).isSome=true->gv (fT m)=sI m:=by refine iA rfl ?_;simp only[aN,bB,Dc,acZ _ hs,UU _ hs,fI,aez,ad5];rw[pK,pK,pK,pK,pK];intro _ _ _ _ _;rfl
def Ll(m:fO):aqO:=bif !(m.source==[])then(m.source++[58])++m.target else m.target
def oz(m:fO):aqO:=bif !(sI m)then[]else bif m.readOnly then Ll m++[58,114,111]else Ll m
theorem Lm(m:fO)(hs:m.source.length<=1000000):(vV m).isSome=true->gv (vV m)=oz m:=by
 refine iA rfl ?_;have h1:=Jo m hs;simp only[eX,Fj];intro i;rw[h1 i]
 (repeat' (first|intro _|apply And.intro))<;>grind[oz,Ll]
def mz:fO:=⟨[],[],false⟩
def u7(m:fO):fO×Int:=bif !(sI m)then(mz,3)else(m,0)
def IY(l:List (aqO))(ro:Bool):fO×Int:=bif(l.length:Int)==1 then u7 ⟨[],l.getD 0 [],ro⟩else bif(l.length:Int)==2 then(bif l.getD 0 []==[]then(mz,3)else u7 ⟨l.getD 0 [],l.getD 1 [],ro⟩)else u7 ⟨[],[],ro⟩
def UW(s:aqO):aqO:=(d9 s [58] 0 (-1)).getD ((d9 s [58] 0 (-1)).length-1) []
def mEn(s:aqO):Bool:=bif decide ((1:Int)<((d9 s [58] 0 (-1)).length:Int))then(bif UW s==[114,111]then true else UW s==[114,119])else false
def nH(s:aqO):fO×Int:=bif mEn s then IY ((d9 s [58] 0 (-1)).take ((d9 s [58] 0 (-1)).length-1)) (UW s==[114,111])else IY (d9 s [58] 0 (-1)) false
theorem R3(s:aqO)(hs:s.length<=999990):(yt s).isSome=true->gv (yt s)=nH s:=by
 refine iA rfl ?_;obtain⟨a1,a2,a3⟩:=Dj s 58 0 (-1);have w:ak ((((d9 s [58] 0 (-1)).length:Nat):Int)-1)=(((d9 s [58] 0 (-1)).length-1:Nat):Int):=by rw[cZ (by omega)];omega
 have hd:∀x∈d9 s [58] 0 (-1),x.length<=1000000:=fun x hx=>by have:=a3 x hx;omega
 simp only[aN,bB,Dh,w];generalize hl:d9 s [58] 0 (-1)=l at *;have e1:List.getD l (Int.toNat ((l.length-1:Nat):Int)) (dflt Ty.str)=UW s:=by unfold UW;rw[hl];rfl
 have e2:l.getD (Int.toNat ((l.length-1:Nat):Int)) (Df.d:aqO)=UW s:=e1;have e3:cut l 0 ((l.length-1:Nat):Int)=l.take (l.length-1):=by unfold cut;rfl
 have hR:∀(a b:aqO) (r:Bool),a.length<=1000000->(fT ⟨a,b,r⟩).isSome=true->gv (fT ⟨a,b,r⟩)=sI ⟨a,b,r⟩:=fun a b r h=>Jo ⟨a,b,r⟩ h
 have hg:∀i,(l.getD i (Df.d:aqO)).length<=1000000:=fun i=>rV hd i
 have hg2:∀i,((l.take (l.length-1)).getD i (Df.d:aqO)).length<=1000000:=fun i=>rV (fun x hx=>hd x (amH hx)) i
 rw[e1,e3];simp only[eX];rw[e2];unfold nH mEn;rw[hl];unfold IY u7;have ez:mz=⟨[],[],false⟩:=rfl;have ed:∀(l:List (aqO)) (i:Nat),l.getD i (Df.d:aqO)=l.getD i []:=fun _ _=>rfl
 have z0:(0:Int).toNat=0:=rfl;have z1:(1:Int).toNat=1:=rfl;rw[z0,z1];simp only[<- ed];have hz:([]:aqO).length<=1000000:=aaG _;intro _ _ _;cases hb:(bif decide ((1:Int)<(l.length:Int))then(bif UW s==[114,111]then true else UW s==[114,119])else false)with
 | true =>
  refine⟨fun _=>?_,fun h=>(by cases h)⟩;simp only[cond_true];generalize (UW s==[114,111])=ro;generalize l.take (l.length-1)=l2 at hg2 ⊢
  (repeat' (first|intro _|apply And.intro))<;>grind
 | false =>
  refine⟨fun h=>(by cases h),fun _=>?_⟩;simp only[cond_false]
  (repeat' (first|intro _|apply And.intro))<;>grind
end
section
def jr:aqO:=[115,111,117,114,99,101]
def lI:aqO:=[114,101,97,100,95,111,110,108,121]
def lJ:aqO:=[116,121,112,101]
def ze:aqO:=[98,105,110,100]
def tNx(f:field)(k:aqO)(d:Bool):field:=⟨f.n,f.left-b2 (aD f.n k),(f.bad || !(bT f.n k []))||OC (aM f.n k (Bl d))⟩
def plF(n:Node):field:=lQ (tNx (lQ (lQ (f0 n) jr) dz) lI false) lJ
def UY(n:Node):fO:=⟨aM n jr [],aM n dz [],aM n lI (Bl false)==jU⟩
def plK(s:aqO):Bool:=bif(bif(s==([98,105,110,100]:aqO))then true else(s==([118,111,108,117,109,101]:aqO)))then true else(s==([116,109,112,102,115]:aqO))
def plB(n:Node):Bool:=bif(bif(bif(!(plF n).bad)then((plF n).left==(0:Int))else false)then sI (UY n)else false)then plK (aM n lJ ze)else false
theorem ajn(n:Node)(hl:n.keys.length<=100000)(hf:∀k o,o.length<=100000->(aM n k o).length<=100000):(Fg n).isSome=true->gv (Fg n)=(UY n,plB n):=by
 refine iA rfl ?_;have c1:=UL (aD n jr);have c2:=UL (aD n dz);have c3:=UL (aD n lI);simp only[aN,bB,Fe,bf];have t1:([115,111,117,114,99,101]:aqO)=jr:=rfl;have t2:([116,97,114,103,101,116]:aqO)=dz:=rfl;have t3:([114,101,97,100,95,111,110,108,121]:aqO)=lI:=rfl;have t4:([116,121,112,101]:aqO)=lJ:=rfl;rw[t1,t2,t3,t4];simp only[eX,aeD,aBd];intro i1;rw[gT (f0 n) jr [] ⟨by show -1000000<=(n.keys.length:Int);omega,by show(n.keys.length:Int)<=1000000;omega⟩ i1];dsimp only;intro i2;rw[gT (lQ (f0 n) jr) dz [] ⟨by show -1000000<=(n.keys.length:Int)-b2 (aD n jr);omega,by show(n.keys.length:Int)-b2 (aD n jr)<=1000000;omega⟩ i2];dsimp only;intro i3;rw[uw (lQ (lQ (f0 n) jr) dz) lI false ⟨by show -1000000<=(n.keys.length:Int)-b2 (aD n jr)-b2 (aD n dz);omega,by show(n.keys.length:Int)-b2 (aD n jr)-b2 (aD n dz)<=1000000;omega⟩ i3];dsimp only;rw[show(⟨(lQ (lQ (f0 n) jr) dz).n,(lQ (lQ (f0 n) jr) dz).left-b2 (aD (lQ (lQ (f0 n) jr) dz).n lI),((lQ (lQ (f0 n) jr) dz).bad || !(bT (lQ (lQ (f0 n) jr) dz).n lI []))||OC (aM (lQ (lQ (f0 n) jr) dz).n lI (Bl false))⟩:field)=tNx (lQ (lQ (f0 n) jr) dz) lI false from rfl];intro i4;rw[gT (tNx (lQ (lQ (f0 n) jr) dz) lI false) lJ _ ⟨by show -1000000<=(n.keys.length:Int)-b2 (aD n jr)-b2 (aD n dz)-b2 (aD n lI);omega,by show(n.keys.length:Int)-b2 (aD n jr)-b2 (aD n dz)-b2 (aD n lI)<=1000000;omega⟩ i4];intro h;have hR:=Jo (UY n) (Nat.le_trans (hf jr [] (by decide)) (by decide));show(UY n,bif(bif(bif(!(plF n).bad)then((plF n).left==(0:Int))else false)then gv (fT (UY n))else false)then plK (aM n lJ ze)else false)=(UY n,plB n)
 have h:(fT (UY n)).isSome=true\/(bif(!(plF n).bad)then((plF n).left==(0:Int))else false)=false:=h;unfold plB;rcases h with h | h
 ·rw[hR h]
 ·rw[h];rfl
theorem ajo(m:fO):(u7 m).1.source=m.source\/(u7 m).1.source=[]:=by
 unfold u7;cases sI m with
 | true=>exact .inl rfl
 | false=>exact .inr rfl
theorem awT{l:List (aqO)}{B:Nat}(h:∀x∈l,x.length<=B)(ro:Bool):(IY l ro).1.source.length<=B:=by
 have hg:=rV h 0;have hz:([]:aqO).length<=B:=aaG _;unfold IY;cases(l.length:Int)==1 with
 | true =>rcases ajo ⟨[],l.getD 0 [],ro⟩with e | e<;>(rw[cond_true,e];exact hz)
 | false =>
  cases(l.length:Int)==2 with
  | false=>rcases ajo ⟨[],[],ro⟩with e | e<;>(rw[cond_false,cond_false,e];exact hz)
  | true =>
   cases l.getD 0 []==[]with
   | true=>exact hz
   | false =>
    rcases ajo ⟨l.getD 0 [],l.getD 1 [],ro⟩with e | e<;>rw[cond_false,cond_true,cond_false,e]
    ·exact hg
    ·exact hz
theorem ac0(s:aqO):(nH s).1.source.length<=s.length:=by
 obtain⟨_,_,a3⟩:=Dj s 58 0 (-1);unfold nH;cases mEn s with
 | true=>exact awT (fun x hx=>a3 x (amH hx)) _
 | false=>exact awT a3 _
def moX(y:Node):fO:=bif y.kind==1 then(nH y.text).1 else UY y
def moB(y:Node):Bool:=bif y.kind==1 then(nH y.text).2==0 else plB y
def moS:List Node->Node->Bool->Node×Bool
 | [],o,b=>(o,b)
 | y::t,o,b=>moS t (bD o (moX y).target (dx (oz (moX y)))) (bif b then true else !(moB y))
def UZ:List (aqO)->List Node->Node->Bool->Node×Bool
 | s::t,y::r,o,b=>UZ t r (bD o s y) (bif b then true else(bif(bif(bif(y.kind != 1)then true else((nH y.text).2 != 0))then true else(!((nH y.text).1.target==s)))then true else(!(oz (nH y.text).1==y.text))))
 | _,_,o,b=>(o,b)
def moP(n:Node):Node×Bool:=bif qH n 2 then moS n.kids zn false else bif qH n 3 then UZ n.keys n.kids zn false else(zn,true)
def R4(n:Node):Node:=DY (moP n).1 (moP n).2
def R5(n:Node):Int:=DZ (moP n).1 (moP n).2
set_option maxHeartbeats 1000000 in
theorem afB(n:Node)(hk:n.keys.length<=100000)(hl:n.kids.length<=100000)(h3:n.kind=3->n.keys.length=n.kids.length)(hy:∀y∈n.kids,y.keys.length<=100000/\y.text.length<=100000/\∀k o,o.length<=100000->(aM y k o).length<=100000):(tH n).isSome=true->gv (tH n)=(R4 n,R5 n):=by
 refine part rfl (fun r=>r=(R4 n,R5 n)) (fun | .e y=>y=n | .h0 v0 v1 v2 _ _ v5=>v0=n.kids/\v1=(n.kids.length:Int)/\0<=v2/\v2<=v1/\moS (n.kids.drop v2.toNat) v5.n v5.bad=moP n | .h1 v0 v1 v2 v3 _ _ v6=>v3=n/\n.kind=3/\v0=n.keys/\v1=(n.keys.length:Int)/\0<=v2/\v2<=v1/\UZ (n.keys.drop v2.toNat) (n.kids.drop v2.toNat) v6.n v6.bad=moP n) rfl ?_;rintro(y | ⟨v0,v1,v2,v3,v4,⟨o,bad⟩⟩ | ⟨v0,v1,v2,v3,v4,v5,⟨o,bad⟩⟩) hs'
 ·cases hs';simp only[aN,bB,nP,rz,bf,aH];simp only[eX];have h2:=jG;have h4:=aiv
  (repeat' (first|intro _|apply And.intro))<;>grind[moP,R4,R5,aed,yZ,qH]
 ·obtain⟨rfl,rfl,h1,h2,h4⟩:=hs';simp only[aN,bB,nP,iE,bf,aH];simp only[eX];have e1:=@cZ (v2+1);by_cases hi:v2<(n.kids.length:Int)
  ·rw[gQ n.kids Df.d h1 hi,moS]at h4;have h5:=UA hy h1 hi;have ed:n.kids.getD v2.toNat (dflt Ty.ah)=n.kids.getD v2.toNat (Df.d:Node):=rfl;rw[ed];generalize n.kids.getD v2.toNat Df.d=y at h4 h5 ⊢;have h6:=ajn y h5.1 h5.2.2;have h7:=R3 y.text (by omega);have h8:=Lm (nH y.text).1 (by have:=ac0 y.text;omega);have h9:=Lm (UY y) (Nat.le_trans (h5.2.2 jr [] (by decide)) (by decide));have h10:=fun b k v=>iB ⟨o,b⟩ k v
   (repeat' (first|intro _|apply And.intro))<;>grind[moX,moB]
  ·rw[jw n.kids (by omega),moS]at h4;have h5:=iF ⟨o,bad⟩
   (repeat' (first|intro _|apply And.intro))<;>grind[R4,R5]
 ·obtain⟨rfl,h0,rfl,rfl,h1,h2,h4⟩:=hs';have hkk:=h3 h0;simp only[aN,bB,nP,iE,bf,aH];simp only[eX];have e1:=@cZ (v2+1);by_cases hi:v2<(v3.keys.length:Int)
  ·rw[gQ v3.keys Df.d h1 hi,gQ v3.kids Df.d h1 (by omega),UZ]at h4;have h5:=UA hy (i:=v2) h1 (by omega);generalize v3.keys.getD v2.toNat Df.d=s at h4 ⊢;generalize v3.kids.getD v2.toNat Df.d=y at h4 h5 ⊢;have h7:=R3 y.text (by omega);have h8:=Lm (nH y.text).1 (by have:=ac0 y.text;omega);have h10:=fun b=>iB ⟨o,b⟩ s y
   (repeat' (first|intro _|apply And.intro))<;>grind
  ·rw[jw v3.keys (by omega),UZ]at h4
   ·have h5:=iF ⟨o,bad⟩
    (repeat' (first|intro _|apply And.intro))<;>grind[R4,R5]
   ·intro a b c d e;cases e
end
section
def ac1:aqO:=[105,109,97,103,101]
def ac2:aqO:=[99,111,109,109,97,110,100]
def YX:aqO:=[101,110,118,105,114,111,110,109,101,110,116]
def YZ:aqO:=[108,97,98,101,108,115]
def Y0:aqO:=[112,111,114,116,115]
def Y1:aqO:=[118,111,108,117,109,101,115]
def Y2:aqO:=[110,101,116,119,111,114,107,115]
def NS:aqO:=[112,114,111,102,105,108,101,115]
def Y3:aqO:=[100,101,112,101,110,100,115,95,111,110]
def Y4:aqO:=[101,120,116,101,110,100,115]
def Y5:aqO:=[104,101,97,108,116,104,99,104,101,99,107]
def ac3:aqO:=[114,101,115,116,97,114,116]
def ac4:aqO:=[115,99,97,108,101]
def ac5:aqO:=[99,112,117,115]
def ac6:aqO:=[109,101,109,95,108,105,109,105,116]
def fdF(k:aqO)(v:Node):Option (Node×Int) :=
 if k=ac1 then some (wX su v,wY su v)else if k=ac2 then some (CK v,wdE v)else if k=YX then some (Jj v true,Jk v true)else if k=YZ then some (Jj v false,Jk v false)
 else if k=Y0 then some (RY v,RZ v)else if k=Y1 then some (R4 v,R5 v)else if k=Y2 then some (M7 v,M8 v)else if k=NS then some (M7 v,M8 v)else if k=Y3 then some (dpV v,dpE v)
 else if k=Y4 then some (exV v,Xz v)else if k=Y5 then some (hP v)else if k=ac3 then some (wX vE v,wY vE v)else if k=ac4 then some (wX A9 v,wY A9 v)else if k=ac5 then some (wX Ba v,wY Ba v)
 else if k=ac6 then some (byV v,byE v)else none
def XD(k:aqO):Bool:=[120,45].isPrefixOf k
def FL:List (aqO)->List Node->Node->Node×aqO×Int
 | k::ks,v::vs,o=>bif XD k then FL ks vs o else match fdF k v with
  | none=>(zn,k,10)
  | some r=>bif v.kind==0 then FL ks vs o else bif r.2 != 0 then(zn,k,r.2)else bif r.1.kind != 0 then FL ks vs (bD o k r.1)else FL ks vs o
 | _,_,o=>(fP 1000 o,[],0)
def Jp(n:Node):Node×aqO×Int:=bif n.kind==0 then(⟨3,[],[],[]⟩,[],0)else bif n.kind != 3 then(zn,[],10)else FL n.keys n.kids ⟨3,[],[],[]⟩
structure Fz (v:Node):Prop where
 line:(yK v).isSome=true->gv (yK v)=(wX su v,wY su v)
 words:(vO v).isSome=true->gv (vO v)=(CK v,wdE v)
 pairs:∀b,(vP v b).isSome=true->gv (vP v b)=(Jj v b,Jk v b)
 aCH:(rM v).isSome=true->gv (rM v)=(RY v,RZ v)
 aBf:(tH v).isSome=true->gv (tH v)=(R4 v,R5 v)
 set:(um v).isSome=true->gv (um v)=(M7 v,M8 v)
 deps:(yN v).isSome=true->gv (yN v)=(dpV v,dpE v)
 ext:(q8 v).isSome=true->gv (q8 v)=(exV v,Xz v)
 health:(tu v).isSome=true->gv (tu v)=hP v
 restart:(q9 v).isSome=true->gv (q9 v)=(wX vE v,wY vE v)
 count:(vS v).isSome=true->gv (vS v)=(wX A9 v,wY A9 v)
 aEN:(yQ v).isSome=true->gv (yQ v)=(wX Ba v,wY Ba v)
 bytes:(vU v).isSome=true->gv (vU v)=(byV v,byE v)
theorem aCI(k:aqO):rG k=some (XD k):=by obtain⟨h1,h2⟩:=KS k;exact V9 h1 fun _=>h2
end
section
theorem oG{v o:Node}{k:aqO}{ks:List (aqO)}{vs:List Node}{m:Option (Node×Int)}{r0:Node×Int}{S:Node×aqO×Int}{I:Node->Prop}(hm:m.isSome=true->gv m=r0)(hS:(bif v.kind==0 then FL ks vs o else bif r0.2 != 0 then(zn,k,r0.2)else bif r0.1.kind != 0 then FL ks vs (bD o k r0.1)else FL ks vs o)=S)(hI:∀o',FL ks vs o'=S->I o'):bif(v.kind==(0:Int))then(bif(v.kind != (0:Int))then(ck (fU o k v) True (I (bD o k v)))else I o)else(cl m True fun y=>bif(y.2 != (0:Int))then((⟨0,[],[],[]⟩:Node),k,y.2)=S else(bif(y.1.kind != (0:Int))then(ck (fU o k y.1) True (I (bD o k y.1)))else I o)):=by
 cases hk:v.kind==0 with
 | true =>rw[hk,cond_true]at hS;rw[cond_true,show(v.kind != 0)=false by rw[bne,hk];rfl,cond_false];exact hI o hS
 | false =>
  rw[hk,cond_false]at hS;rw[cond_false,pZ];intro i;rw[hm i];cases h2:r0.2 != 0 with
  | true=>rw[h2,cond_true]at hS;exact hS
  | false =>
   rw[h2,cond_false]at hS;rw[cond_false];cases h3:r0.1.kind != 0 with
   | true =>rw[h3,cond_true]at hS;rw[cond_true,pK];intro _;exact hI _ hS
   | false=>rw[h3,cond_false]at hS;exact hI _ hS
def xU(n:Node):jH->Prop
 | .e y=>y=n
 | .h0 v0 v1 v2 v3 _ _ v6=>v3=n/\n.kind=3/\v0=n.keys/\v1=(n.keys.length:Int)/\0<=v2/\v2<=v1/\FL (n.keys.drop v2.toNat) (n.kids.drop v2.toNat) v6=Jp n
set_option maxHeartbeats 4000000 in
theorem asR(n:Node)(hk:n.keys.length<=100000)(h3:n.kind=3->n.keys.length=n.kids.length)(hy:∀y∈n.kids,Fz y)(v0:List (aqO))(v1 v2:Int)(v3:Node)(v4:Int)(v5:aqO)(o:Node)(h:xU n (.h0 v0 v1 v2 v3 v4 v5 o)):(fq (.h0 v0 v1 v2 v3 v4 v5 o)).run Prop (fun r=>r=Jp n) (xU n) True:=by
 obtain⟨rfl,h0,rfl,rfl,h1,h2,h4⟩:=h;have hkk:=h3 h0;simp only[aN,bB,fq,bf,aCI,aH];by_cases hi:v2<(v3.keys.length:Int)
 ·rw[decide_eq_true hi,cond_true,pI,pI];intro _ _ _ hj;rw[gQ v3.keys Df.d h1 hi,gQ v3.kids Df.d h1 hj,FL]at h4;have hf:=UA hy h1 hj;generalize v3.keys.getD v2.toNat Df.d=k at h4 ⊢;generalize v3.kids.getD v2.toNat Df.d=v at h4 hf ⊢;have e1:ak (v2+1)=v2+1:=cZ (by omega);rw[e1];have hI:∀o',FL (v3.keys.drop (v2+1).toNat) (v3.kids.drop (v2+1).toNat) o'=Jp v3->xU v3 (.h0 v3.keys (v3.keys.length:Int) (v2+1) v3 v4 v5 o'):=fun o' h=>⟨rfl,h0,rfl,rfl,by omega,by omega,h⟩
  cases hfr:XD k with
  | true =>rw[hfr,cond_true]at h4;rw[cond_true];exact hI o h4
  | false =>
   rw[hfr,cond_false]at h4;rw[cond_false];unfold fdF at h4;by_cases af6:k=ac1
   ·rw[if_pos af6]at h4;rw[show(k==([105,109,97,103,101]:aqO))=true by rw[af6];rfl];exact oG (I:=fun o'=>xU v3 (.h0 v3.keys (v3.keys.length:Int) (v2+1) v3 v4 v5 o')) (hf.line) h4 hI
   rw[if_neg af6]at h4;rw[show(k==([105,109,97,103,101]:aqO))=false from agA.2 af6]
   try rw[cond_false]
   by_cases af7:k=ac2
   ·rw[if_pos af7]at h4;rw[show(k==([99,111,109,109,97,110,100]:aqO))=true by rw[af7];rfl];exact oG (I:=fun o'=>xU v3 (.h0 v3.keys (v3.keys.length:Int) (v2+1) v3 v4 v5 o')) (hf.words) h4 hI
   rw[if_neg af7]at h4;rw[show(k==([99,111,109,109,97,110,100]:aqO))=false from agA.2 af7]
   try rw[cond_false]
   by_cases af8:k=YX
   ·rw[if_pos af8]at h4;rw[show(k==([101,110,118,105,114,111,110,109,101,110,116]:aqO))=true by rw[af8];rfl];exact oG (I:=fun o'=>xU v3 (.h0 v3.keys (v3.keys.length:Int) (v2+1) v3 v4 v5 o')) (hf.pairs true) h4 hI
   rw[if_neg af8]at h4;rw[show(k==([101,110,118,105,114,111,110,109,101,110,116]:aqO))=false from agA.2 af8]
   try rw[cond_false]
   by_cases af9:k=YZ
   ·rw[if_pos af9]at h4;rw[show(k==([108,97,98,101,108,115]:aqO))=true by rw[af9];rfl];exact oG (I:=fun o'=>xU v3 (.h0 v3.keys (v3.keys.length:Int) (v2+1) v3 v4 v5 o')) (hf.pairs false) h4 hI
   rw[if_neg af9]at h4;rw[show(k==([108,97,98,101,108,115]:aqO))=false from agA.2 af9]
   try rw[cond_false]
   by_cases aga:k=Y0
   ·rw[if_pos aga]at h4;rw[show(k==([112,111,114,116,115]:aqO))=true by rw[aga];rfl];exact oG (I:=fun o'=>xU v3 (.h0 v3.keys (v3.keys.length:Int) (v2+1) v3 v4 v5 o')) (hf.aCH) h4 hI
   rw[if_neg aga]at h4;rw[show(k==([112,111,114,116,115]:aqO))=false from agA.2 aga]
   try rw[cond_false]
   by_cases agb:k=Y1
   ·rw[if_pos agb]at h4;rw[show(k==([118,111,108,117,109,101,115]:aqO))=true by rw[agb];rfl];exact oG (I:=fun o'=>xU v3 (.h0 v3.keys (v3.keys.length:Int) (v2+1) v3 v4 v5 o')) (hf.aBf) h4 hI
   rw[if_neg agb]at h4;rw[show(k==([118,111,108,117,109,101,115]:aqO))=false from agA.2 agb]
   try rw[cond_false]
   by_cases agc:k=Y2
   ·rw[if_pos agc]at h4;rw[show(k==([110,101,116,119,111,114,107,115]:aqO))=true by rw[agc];rfl];exact oG (I:=fun o'=>xU v3 (.h0 v3.keys (v3.keys.length:Int) (v2+1) v3 v4 v5 o')) (hf.set) h4 hI
   rw[if_neg agc]at h4;rw[show(k==([110,101,116,119,111,114,107,115]:aqO))=false from agA.2 agc]
   try rw[cond_false]
   by_cases agd:k=NS
   ·rw[if_pos agd]at h4;rw[show(k==([112,114,111,102,105,108,101,115]:aqO))=true by rw[agd];rfl];exact oG (I:=fun o'=>xU v3 (.h0 v3.keys (v3.keys.length:Int) (v2+1) v3 v4 v5 o')) (hf.set) h4 hI
   rw[if_neg agd]at h4;rw[show(k==([112,114,111,102,105,108,101,115]:aqO))=false from agA.2 agd]
   try rw[cond_false]
   by_cases agf:k=Y3
   ·rw[if_pos agf]at h4;rw[show(k==([100,101,112,101,110,100,115,95,111,110]:aqO))=true by rw[agf];rfl];exact oG (I:=fun o'=>xU v3 (.h0 v3.keys (v3.keys.length:Int) (v2+1) v3 v4 v5 o')) (hf.deps) h4 hI
   rw[if_neg agf]at h4;rw[show(k==([100,101,112,101,110,100,115,95,111,110]:aqO))=false from agA.2 agf]
   try rw[cond_false]
   by_cases agh:k=Y4
   ·rw[if_pos agh]at h4;rw[show(k==([101,120,116,101,110,100,115]:aqO))=true by rw[agh];rfl];exact oG (I:=fun o'=>xU v3 (.h0 v3.keys (v3.keys.length:Int) (v2+1) v3 v4 v5 o')) (hf.ext) h4 hI
   rw[if_neg agh]at h4;rw[show(k==([101,120,116,101,110,100,115]:aqO))=false from agA.2 agh]
   try rw[cond_false]
   by_cases agi:k=Y5
   ·rw[if_pos agi]at h4;rw[show(k==([104,101,97,108,116,104,99,104,101,99,107]:aqO))=true by rw[agi];rfl];exact oG (I:=fun o'=>xU v3 (.h0 v3.keys (v3.keys.length:Int) (v2+1) v3 v4 v5 o')) (hf.health) h4 hI
   rw[if_neg agi]at h4;rw[show(k==([104,101,97,108,116,104,99,104,101,99,107]:aqO))=false from agA.2 agi]
   try rw[cond_false]
   by_cases agj:k=ac3
   ·rw[if_pos agj]at h4;rw[show(k==([114,101,115,116,97,114,116]:aqO))=true by rw[agj];rfl];exact oG (I:=fun o'=>xU v3 (.h0 v3.keys (v3.keys.length:Int) (v2+1) v3 v4 v5 o')) (hf.restart) h4 hI
   rw[if_neg agj]at h4;rw[show(k==([114,101,115,116,97,114,116]:aqO))=false from agA.2 agj]
   try rw[cond_false]
   by_cases agk:k=ac4
   ·rw[if_pos agk]at h4;rw[show(k==([115,99,97,108,101]:aqO))=true by rw[agk];rfl];exact oG (I:=fun o'=>xU v3 (.h0 v3.keys (v3.keys.length:Int) (v2+1) v3 v4 v5 o')) (hf.count) h4 hI
   rw[if_neg agk]at h4;rw[show(k==([115,99,97,108,101]:aqO))=false from agA.2 agk]
   try rw[cond_false]
   by_cases agl:k=ac5
   ·rw[if_pos agl]at h4;rw[show(k==([99,112,117,115]:aqO))=true by rw[agl];rfl];exact oG (I:=fun o'=>xU v3 (.h0 v3.keys (v3.keys.length:Int) (v2+1) v3 v4 v5 o')) (hf.aEN) h4 hI
   rw[if_neg agl]at h4;rw[show(k==([99,112,117,115]:aqO))=false from agA.2 agl]
   try rw[cond_false]
   by_cases agm:k=ac6
   ·rw[if_pos agm]at h4;rw[show(k==([109,101,109,95,108,105,109,105,116]:aqO))=true by rw[agm];rfl];exact oG (I:=fun o'=>xU v3 (.h0 v3.keys (v3.keys.length:Int) (v2+1) v3 v4 v5 o')) (hf.bytes) h4 hI
   rw[if_neg agm]at h4;rw[show(k==([109,101,109,95,108,105,109,105,116]:aqO))=false from agA.2 agm]
   try rw[cond_false]
   exact h4
 ·rw[decide_eq_false hi,cond_false,pK];intro _;rw[jw v3.keys (by omega),FL]at h4
  ·exact h4
  ·intro a b c d e;cases e
theorem Y6(n:Node)(hk:n.keys.length<=100000)(h3:n.kind=3->n.keys.length=n.kids.length)(hy:∀y∈n.kids,Fz y):(fG n).isSome=true->gv (fG n)=Jp n:=by
 have h:(jI n).isSome=true->gv (jI n)=Jp n:=by
  refine part rfl (fun r=>r=Jp n) (xU n) rfl ?_;rintro(y | ⟨v0,v1,v2,v3,v4,v5,o⟩) hs
  ·have hs:y=n:=hs;subst hs;simp only[aN,bB,fq];have hp:Jp y=(bif y.kind==0 then((⟨3,[],[],[]⟩:Node),([]:aqO),(0:Int))else bif y.kind != 3 then(zn,[],10)else FL y.keys y.kids ⟨3,[],[],[]⟩):=rfl;cases h0:y.kind==0 with
   | true=>rw[h0]at hp;exact hp.symm
   | false =>
    rw[h0,cond_false]at hp;rw[cond_false];cases h1:y.kind != 3 with
    | true=>rw[h1]at hp;exact hp.symm
    | false =>rw[h1]at hp;exact⟨rfl,by simpa using h1,rfl,rfl,by decide,by omega,hp.symm⟩
  ·exact asR n hk h3 hy v0 v1 v2 v3 v4 v5 o hs
 refine iA rfl ?_;simp only[eX,xJ];intro i;rw[h i]
end
section
end
section
end
section
def sn:Nat->Node->Prop
 | 0,_=>False
 | d+1,x=>((x.keys.length<=300/\x.kids.length<=300)/\(x.kind=3->x.keys.length=x.kids.length)/\x.text.length<=30000/\∀k∈x.keys,k.length<=30000)/\((0<=x.kind/\x.kind<=3)/\(x.kind≠1->x.text=[])/\(x.kind≠3->x.keys=[])/\(x.kind<2->x.kids=[]))/\∀y∈x.kids,sn d y
theorem awV{d:Nat}{x:Node}(h:sn (d+1) x)(h0:x.kind=0):x=zn:=by obtain⟨_,⟨_,h1,h2,h3⟩,_⟩:=h;obtain⟨k,t,ks,vs⟩:=x;have h0:k=0:=h0;subst h0;have e1:t=[]:=h1 (show(0:Int)≠1 by decide);have e2:ks=[]:=h2 (show(0:Int)≠3 by decide);have e3:vs=[]:=h3 (show(0:Int)<2 by decide);rw[e1,e2,e3];rfl
theorem asS{d:Nat}{x:Node}(h:sn (d+1) x)(h0:x.kind=1):x=dx x.text:=by obtain⟨_,⟨_,h1,h2,h3⟩,_⟩:=h;obtain⟨k,t,ks,vs⟩:=x;have h0:k=1:=h0;subst h0;have e2:ks=[]:=h2 (show(1:Int)≠3 by decide);have e3:vs=[]:=h3 (show(1:Int)<2 by decide);rw[e2,e3];rfl
theorem ajp:∀{l:List Node} {t:List (aqO)},lq l=some t->t=l.map Node.text
 | [],t,h=>by cases h;rfl
 | x::l,t,h=>by
  rw[lq]at h;cases hk:x.kind != 1 with
  | true=>rw[hk]at h;cases h
  | false =>
   rw[hk,cond_false]at h;cases ht:lq l with
   | none=>rw[ht]at h;cases h
   | some u=>rw[ht]at h;cases h;rw[ajp ht];rfl
theorem ay4(n:Node):bH n=[]\/bH n=n.kids.map Node.text:=by
 unfold bH;cases h:lq n.kids with
 | none=>exact .inl rfl
 | some t=>exact .inr (ajp h)
theorem O8{d:Nat}{n:Node}(h:sn (d+2) n):(bH n).length<=300/\∀s∈bH n,s.length<=30000:=by
 rcases ay4 n with e | e<;>rw[e]
 ·exact⟨aaG _,fun s hs=>by cases hs⟩
 ·refine⟨by rw[List.length_map];exact h.1.1.2,fun s hs=>?_⟩;obtain⟨y,hy,rfl⟩:=List.mem_map.1 hs;exact(h.2.2 y hy).1.2.2.1
theorem O9(n:Node)(k:aqO):aJ n k=zn\/aJ n k∈n.kids:=by
 cases hg:aD n k with
 | true=>exact .inr (xB hg)
 | false =>
  left;unfold aD at hg;unfold aJ;cases hq:get n k with
  | none=>rfl
  | some x=>rw[hq]at hg;cases hg
theorem ac7{d:Nat}{n:Node}(h:sn (d+2) n)(k o:aqO)(B:Nat)(hB:30000<=B)(ho:o.length<=B):(aM n k o).length<=B:=by
 unfold aM;cases !(aD n k)with
 | true=>exact ho
 | false =>
  rw[cond_false];rcases O9 n k with e | e
  ·rw[e];exact aaG _
  ·exact Nat.le_trans (h.2.2 _ e).1.2.2.1 hB
theorem aBg{d:Nat}{v:Node}(h:sn (d+2) v):(∀s∈qO v,s.length<=1000000)/\(qO v).length<=1000000:=by
 obtain⟨t1,t2⟩:=O8 h;unfold qO;cases qH v 3 with
 | true=>exact⟨fun s hs=>Nat.le_trans (h.1.2.2.2 s hs) (by decide),Nat.le_trans h.1.1.1 (by decide)⟩
 | false=>exact⟨fun s hs=>Nat.le_trans (t2 s hs) (by decide),Nat.le_trans t1 (by decide)⟩
theorem aCJ{d:Nat}{v:Node}(h:sn (d+4) v):Fz v:=by
 obtain⟨t1,t2⟩:=O8 h;obtain⟨s1,s2⟩:=aBg h;have h':sn (d+4) v:=h;obtain⟨⟨⟨a1,a2⟩,a3,a4,a5⟩,_,a6⟩:=h;have big:∀{n m:Nat},n<=m->m<=100000->n<=1000000:=fun h1 h2=>by omega
 have hyk:∀y∈v.kids,y.keys.length<=100000/\y.text.length<=100000/\∀k o,o.length<=100000->(aM y k o).length<=100000:=fun y hy=>by have hs:=a6 y hy;exact⟨Nat.le_trans hs.1.1.1 (by decide),Nat.le_trans hs.1.2.2.1 (by decide),fun k o ho=>ac7 hs k o 100000 (by decide) ho⟩
 have hvt:=O9 v bQ;have hkt:(aJ v bQ).kids.length<=300/\(bH (aJ v bQ)).length<=300/\∀s∈bH (aJ v bQ),s.length<=30000:=by
  rcases hvt with e | e
  ·rw[e];exact⟨by decide,by decide,fun s hs=>by cases hs⟩
  ·have hs:=a6 _ e;exact⟨hs.1.1.2,(O8 hs).1,(O8 hs).2⟩
 refine⟨alz v,ajl v (by omega) (by omega) (by omega),fun b=>aiw v b (by omega) (by omega) a3 (fun s hs=>by have:=t2 s hs;omega) (by omega) (fun s hs=>by have:=a5 s hs;omega),ajm v (by omega) (by omega) a3 (fun s hs=>by have:=a5 s hs;omega) hyk,afB v (by omega) (by omega) a3 hyk,apD v (by omega) (by omega) s1 s2,?_,?_,afw v (by omega) (fun k o ho=>ac7 h' k o 1000000 (by decide) ho) (by omega) (by omega) (fun s hs=>by have:=hkt.2.2 s hs;omega),acU v (by omega),ai7 v (by omega),alC v (by omega),aje v (by omega)⟩
 ·refine als v (by omega) ?_ ?_ (fun y hy=>⟨(hyk y hy).1,awV (a6 y hy)⟩)
  ·unfold D6;cases qH v 3 with
   | true=>exact fun s hs=>by have:=a5 s hs;omega
   | false=>exact fun s hs=>by have:=t2 s hs;omega
  ·unfold D6;cases qH v 3 with
   | true=>show v.keys.length<=_;omega
   | false=>show(bH v).length<=_;omega
 ·refine acR v ?_ (asS h') ?_
  ·unfold iZ;cases v.kind==1 with
   | true=>show 1<=_;omega
   | false=>show v.keys.length<=_;omega
  ·unfold iZ;cases hk:v.kind==1 with
   | false=>exact ac7 h' iY [] 1000000 (by decide) (by decide)
   | true =>
    rw[cond_true];unfold aM;cases !(aD ⟨3,[],[iY],[v]⟩ iY)with
    | true=>exact aaG _
    | false =>
     rw[cond_false];rcases O9 ⟨3,[],[iY],[v]⟩ iY with e | e
     ·rw[e];exact aaG _
     ·rw[List.mem_singleton.1 e];omega
theorem abe{d:Nat}{n:Node}(h:sn (d+5) n):(fG n).isSome=true->gv (fG n)=Jp n:=Y6 n (Nat.le_trans h.1.1.1 (by decide)) h.1.2.1 fun y hy=>aCJ (h.2.2 y hy)
end
section
theorem sort_k{B:Nat}:∀(n k:Nat) (x:Node),wg B n x=true->fP (n+k) x=fP n x
 | 0,_,_,h=>by cases h
 | n+1,k,x,h=>by
  have hx:=fE.1 h;rw[show n+1+k=(n+k)+1 by omega];unfold fP;cases(x.kids.length:Int)==0 with
  | true=>rfl
  | false =>
   rw[cond_false,cond_false];cases hk:x.kind != 3 with
   | true =>rw[cond_true,cond_true];congr 1;exact ajr fun y hy=>sort_k n k y (hx.2.2.2 y hy)
   | false =>
    rw[cond_false,cond_false];congr 1;refine ajr fun s _=>?_
    rcases O9 x s with e | e
    ·rw[e];cases n with
     | zero=>cases k<;>rfl
     | succ n=>rw[show n+1+k=(n+k)+1 by omega];rfl
    ·exact sort_k n k _ (hx.2.2.2 _ e)
end
section
theorem U0(x:Nat)(hx:x<18446744073709551616):sO (x:Int)=some (Jl x):=by
 refine jo rfl (fun | .e y=>y=(x:Int) | .h0 v0 v1=>∃f u:Nat,v0=(u:Int)/\u<10 ^ (f+1)/\u<18446744073709551616/\v1.length+f<=1000/\og (f+1) u++v1=Jl x) (fun | .e _=>100000000000000000000000000000 | .h0 v0 v1=>v0.toNat) rfl (by show 100000000000000000000000000000<_;omega) ?_;rintro(y | ⟨v0,v1⟩) hs'
 ·cases hs';refine⟨⟨19,x,rfl,?_,hx,by decide,by rw[aeb];rfl⟩,?_⟩
  ·have:(10:Nat) ^ (19+1)=100000000000000000000:=by decide
   omega
  ·show((x:Int)).toNat<100000000000000000000000000000;omega
 ·obtain⟨f,u,rfl,h2,h3,h4,h5⟩:=hs';simp only[aN,bB,sN,aeH,aib,aa8];rw[dT (show 1+v1.length<=aA by rw[ms];omega)];rw[og]at h5;by_cases hu:u<10
  ·rw[if_pos hu]at h5;rw[dF (by omega),cond_false,av,ap0 (by omega) (by omega),aaE];exact h5
  ·rw[if_neg hu]at h5;rw[dT (by omega),cond_true,show(!((10:Int)==0))=true from rfl,av,av,av];have e1:Int.tmod (u:Int) 10=((u%10:Nat):Int):=rfl;have e2:Int.tdiv (u:Int) 10=((u / 10:Nat):Int):=rfl;rw[e1,e2,ap0 (by omega) (by omega),zU (by omega) (by omega),aaE];have h10:10 ^ (f+1)=10*10 ^ f:=by rw[Nat.pow_succ,amG]
   obtain⟨f,rfl⟩:∃k,f=k+1:=by
    rcases Nat.eq_zero_or_pos f with rfl | h
    ·exfalso;rw[h10]at h2;simp at h2;omega
    ·exact⟨f-1,by omega⟩
   refine⟨⟨f,u / 10,rfl,by omega,by omega,by rw[List.length_append,aa8];omega,by rw[<- h5,abt]⟩,?_⟩;show((u / 10:Nat):Int).toNat<(u:Int).toNat;omega
theorem FM(n:Int)(h : -9223372036854775808<=n/\n<=9223372036854775807):fK n=some (aZ n):=by
 refine dL rfl ?_;simp only[aN,bB,wm,aZ];by_cases hn:n<0
 ·have e:IntKind.wrap .u64 ((0:Int)-IntKind.wrap .u64 n)=(((-n).toNat:Nat):Int):=by rw[wu64,wu64];omega
  have hl:(Jl (-n).toNat).length<=20:=MH 20 _;rw[dT hn,e,U0 _ (by omega)];simp only[cond_true,aH];rw[dT (show[(45:UInt8)].length+(Jl (-n).toNat).length<=aA by rw[ms,aa8];omega),av];rfl
 ·have e:IntKind.wrap .u64 n=((n.toNat:Nat):Int):=by rw[wu64];omega
  rw[dF hn,e,U0 _ (by omega)];simp only[cond_false,aH]
def avJ(h v:aqO):Int×Int:=bif(bif decide ((9007199254740:Int)<(bn h 0:Int))then true else decide ((9007199254740992:Int)<(bn h 0:Int)*1000+(bn (YU v) 0:Int)))then(0,9)else((bn h 0:Int)*1000+(bn (YU v) 0:Int),0)
def mlI(s:aqO):oQ->Prop
 | .e y=>y=s
 | .h0 v0 v1=>v0=s/\∃i:Nat,v1=(i:Int)/\i<=s.length/\iK 46 s=i+iK 46 (s.drop i)
 | .h1 v0 v1 v2 v3=>v0=s/\∃a i:Nat,v1=(a:Int)/\a<=s.length/\dX (s.take a)=true/\v3=(i:Int)/\i<=v2.length/\v2.length<=3/\(v2.take i).all dZ=true/\Lh (s.take a) v2=FH s
 | .h2 v0 v1 v2=>v0=s/\∃a:Nat,v1=(a:Int)/\a<=s.length/\dX (s.take a)=true/\v2.length<=3/\v2.all dZ=true/\avJ (s.take a) v2=FH s
def mlM(s:aqO):oQ->Nat
 | .e _=>10000000000
 | .h0 _ v1=>3000000000+((s.length:Int)-v1).toNat
 | .h1 _ _ v2 v3=>2000000000+((v2.length:Int)-v3).toNat
 | .h2 _ _ v2=>3-v2.length
theorem alE(s:aqO)(hs:s.length<=1000000):uL s=some (FH s):=by
 refine jo rfl (mlI s) (mlM s) rfl (by show 10000000000<_;omega) ?_;rintro(y | ⟨v0,v1⟩ | ⟨v0,v1,v2,v3⟩ | ⟨v0,v1,v2⟩) hs'
 ·have hs':y=s:=hs';subst hs';refine⟨⟨rfl,0,rfl,aaG _,by rw[aed,aeC]⟩,?_⟩;show 3000000000+((y.length:Int)-0).toNat<10000000000;omega
 ·obtain⟨rfl,i,rfl,h1,h2⟩:=hs';have nw:dX (v0.take i)=false->Lh (v0.take i) (uy v0)=(0,3):=fun g=>by
   unfold Lh;rw[g];cases(uy v0).all dZ<;>rfl
  have ct0:cut v0 0 (i:Int)=v0.take i:=by simp[cut]
  have ck0:bN v0 0 (i:Int)=true:=by simp[bN];omega
  have hw:=H9 (v0.take i) (by rw[ad6];omega);simp only[aN,bB,lF,aaE];by_cases hi:i<v0.length
  ·have hx:(decide ((0:Int)<=(i:Int))&&decide ((i:Int)<(v0.length:Int)))=true:=by simp;omega
   rw[dT (show(i:Int)<(v0.length:Int) by omega)]at *;rw[show decide ((0:Int)<=(i:Int))=true from dT (by omega)];simp only[adM,ad5,av,cond_true];cases hc:((((v0.getD i 0).toNat:Nat):Int)!=46)with
   | true =>
    rw[cond_true,cZ (by omega)];refine⟨⟨rfl,i+1,rfl,by omega,?_⟩,?_⟩
    ·rw[h2,drop_at hi,iK,show((((v0.getD i 0).toNat:Nat):Int)==46)=false by simpa using hc,cond_false];omega
    ·show 3000000000+((v0.length:Int)-((i:Int)+1)).toNat<3000000000+((v0.length:Int)-(i:Int)).toNat;omega
   | false =>
    have hq:((((v0.getD i 0).toNat:Nat):Int)==46)=true:=by simpa using hc
    have hf:iK 46 v0=i:=by rw[h2,drop_at hi,iK,hq,cond_true];omega
    have hA:yD v0=v0.take i:=by unfold yD;rw[hf]
    have hB:uy v0=v0.drop (i+1):=by unfold uy;rw[hf]
    have hC:RO v0=true:=by unfold RO;rw[hf];exact dT hi
    have hB2:cut v0 ((i:Int)+1) (v0.length:Int)=uy v0:=by rw[hB];unfold cut;rw[show((i:Int)+1).toNat=i+1 by omega,aaE];exact aej (by rw[adH];exact abn _)
    have ck1:bN v0 ((i:Int)+1) (v0.length:Int)=true:=by simp[bN];omega
    have ht:(uy v0).length<=1000000:=by rw[hB,adH];omega
    obtain⟨l1,l2⟩:=awO ht;have hP:FH v0=bif UM (uy v0)then(0,3)else Lh (v0.take i) (uy v0):=by unfold FH;rw[hC,hA];rfl
    rw[cond_false,cZ (by omega),ck1,av,hB2,l1,av,l2,ck0,av,ct0,hw];simp only[aH];cases hb:UM (uy v0)with
    | true=>rw[hb]at hP;exact hP.symm
    | false =>
     rw[hb]at hP;have hP:FH v0=Lh (v0.take i) (uy v0):=hP;rw[cond_false];cases hw2:dX (v0.take i)with
     | false=>rw[hP,nw hw2];rfl
     | true =>have h3:=am1 hb;refine⟨⟨rfl,i,0,rfl,h1,hw2,rfl,aaG _,h3,rfl,hP.symm⟩,?_⟩;show 2000000000+(((uy v0).length:Int)-0).toNat<3000000000+((v0.length:Int)-(i:Int)).toNat;omega
  ·have hf:iK 46 v0=i:=by rw[h2,aa9 (by omega)];rfl
   have hC:RO v0=false:=by unfold RO;exact dF (by omega)
   have hA:yD v0=v0.take i:=by unfold yD;rw[hf]
   have hP:FH v0=Lh (v0.take i) []:=by unfold FH;rw[hC,hA,ai8 hC];rfl
   rw[ai8 hC]at nw;rw[dF (show ¬ (i:Int)<(v0.length:Int) by omega)];simp only[ajK,aec,ai5,av,cond_false,ck0,ct0,hw,aH];cases hw2:dX (v0.take i)with
   | false=>rw[hP,nw hw2];rfl
   | true =>refine⟨⟨rfl,i,0,rfl,h1,hw2,rfl,aaG _,aaG _,rfl,hP.symm⟩,?_⟩;show 2000000000+((([]:aqO).length:Int)-0).toNat<3000000000+((v0.length:Int)-(i:Int)).toNat;show 2000000000+0<_;omega
 ·obtain⟨rfl,a,i,rfl,h1,hw,rfl,h2,h3,h4,h5⟩:=hs';simp only[aN,bB,lF];by_cases hi:i<v2.length
  ·rw[dT (show(i:Int)<(v2.length:Int) by omega),cond_true,wS];refine⟨by omega,by omega,?_⟩;simp only[aaE,dT (show(0:Int)<=(i:Int) by omega),adM,ad5,av,OD];cases hc:dZ (v2.getD i 0)with
   | false =>
    have:v2.all dZ=false:=by rw[<- aif i v2,List.all_append,drop_at hi,aeB,hc,ajZ,ajK]
    unfold Lh at h5;rw[this]at h5;exact h5
   | true =>
    rw[adr,cond_false,cZ (by omega)];refine⟨⟨rfl,a,i+1,rfl,h1,hw,rfl,by omega,h3,?_,h5⟩,?_⟩
    ·rw[aht hi,List.all_append,h4];have:v2.getD i 0=v2[i]:=by rw[List.getD,aaz hi];rfl
     rw[this]at hc;simp[hc]
    ·show 2000000000+((v2.length:Int)-((i:Int)+1)).toNat<2000000000+((v2.length:Int)-(i:Int)).toNat;omega
  ·have hall:v2.all dZ=true:=by rwa[aej (by omega)]at h4
   rw[dF (show ¬ (i:Int)<(v2.length:Int) by omega),cond_false];refine⟨⟨rfl,a,rfl,h1,hw,h3,hall,?_⟩,?_⟩
   ·rw[<- h5];unfold Lh;rw[hall,hw];rfl
   ·show 3-v2.length<2000000000+_;omega
 ·obtain⟨rfl,a,rfl,h1,hw,h3,hall,h5⟩:=hs';have ct0:cut v0 0 (a:Int)=v0.take a:=by simp[cut]
  have ck0:bN v0 0 (a:Int)=true:=by simp[bN];omega
  simp only[aN,bB,lF];by_cases hl:v2.length<3
  ·rw[dT (show(v2.length:Int)<3 by omega),cond_true,dT (show v2.length+([48]:aqO).length<=aA by rw[ms,aa8];omega),av];refine⟨⟨rfl,a,rfl,h1,hw,by rw[List.length_append,aa8];omega,by rw[List.all_append,hall];rfl,?_⟩,?_⟩
   ·rw[<- h5];unfold avJ YU;rw[List.length_append,aa8,abt,show 3-v2.length=(3-(v2.length+1))+1 by omega,List.replicate_succ];rfl
   ·show 3-(v2++[48]).length<3-v2.length;rw[List.length_append,aa8];omega
  ·have hp:YU v2=v2:=by unfold YU;rw[show 3-v2.length=0 by omega];simp
   have hv:bn v2 0<1000:=by have:=amY v2 0 hall;rw[show v2.length=3 by omega]at this;simpa using this
   have hd:(v0.take a).all dZ=true:=by unfold dX at hw;rw[abj]at hw;exact hw.2
   have v1:=Ia (v0.take a) (by rw[ad6];omega) hd;have v2':=Ia v2 (by omega) hall;rw[dF (show ¬ (v2.length:Int)<3 by omega),cond_false,ck0,av,ct0,v1,v2'];simp only[aH,aez,ad5,av,fI];unfold iR;rw[AZ (show bn v2 0<72057594037927936 by omega),<- h5];unfold avJ;rw[hp];by_cases hx:(9007199254740:Int)<(bn (v0.take a) 0:Int)
   ·have:(9007199254740:Int)<K9 (bn (v0.take a) 0):=by
     by_cases h7:bn (v0.take a) 0<72057594037927936
     ·rw[AZ h7];exact hx
     ·rw[OE h7];decide
    rw[dT this,dT hx];rfl
   ·rw[AZ (show bn (v0.take a) 0<72057594037927936 by omega),dF hx];have e2:ak ((bn (v0.take a) 0:Int)*1000)=(bn (v0.take a) 0:Int)*1000:=aV (by omega) (by omega);have e3:ak ((bn (v0.take a) 0:Int)*1000+(bn v2 0:Int))=(bn (v0.take a) 0:Int)*1000+(bn v2 0:Int):=aV (by omega) (by omega);simp only[e2,e3,cond_false];cases decide ((9007199254740992:Int)<(bn (v0.take a) 0:Int)*1000+(bn v2 0:Int))<;>rfl
end
section
def yF(s:aqO):Int:=bif RV s then 1 else bif RQ s then 1024 else bif RS s then 1048576 else bif RU s then 1073741824 else 0
def rzP(s:aqO):Int×Int:=bif(bif yF (s.drop (eY s))==0 then true else !(dX (s.take (eY s))))then(0,3)else
 bif decide (Int.tdiv 1125899906842624 (yF (s.drop (eY s)))<iR (s.take (eY s)))then(0,9)else(iR (s.take (eY s))*yF (s.drop (eY s)),0)
def rzV(s:aqO):Int:=(rzP s).1
def rzE(s:aqO):Int:=(rzP s).2
theorem aw0(s:aqO):yF s=0\/yF s=1\/yF s=1024\/yF s=1048576\/yF s=1073741824:=by unfold yF;cases RV s<;>cases RQ s<;>cases RS s<;>cases RU s<;>simp
theorem aBh(c:UInt8):(bif decide ((48:Int)<=((c.toNat:Nat):Int))then decide (((c.toNat:Nat):Int)<=57)else false)=dZ c:=by
 unfold dZ;by_cases h:48<=c.toNat
 ·rw[dT (by omega),dT (show 48<=c.toNat from h),cond_true,aeu];exact decide_eq_decide.2 (by omega)
 ·rw[dF (by omega),dF (show ¬ 48<=c.toNat from h)];rfl
def avK(n:Int):Int:=bif(bif decide (n<0)then true else decide ((1125899906842624:Int)<n))then 0 else bif kF n==0 then 1 else bif kF n==1 then 1024 else bif kF n==2 then 1048576 else 1073741824
theorem ap6(s:aqO):D7 s=some (yF s):=by refine dL rfl ?_;unfold yF RV RQ RS RU;simp only[aN,bB,vZ];cases(bif s==[]then true else s==[98])<;>cases(bif s==[107]then true else s==[107,98])<;>cases(bif s==[109]then true else s==[109,98])<;>cases(bif s==[103]then true else s==[103,98])<;>rfl
theorem Eo(s:aqO)(i:Nat):cut s 0 (i:Int)=s.take i:=by simp[cut]
theorem yT(s:aqO)(i:Nat):cut s (i:Int) (s.length:Int)=s.drop i:=by unfold cut;rw[aaE,aaE];exact aej (by rw[adH];exact abn _)
theorem Gz{s:aqO}{i:Nat}(h:i<=s.length):bN s 0 (i:Int)=true:=by simp[bN];omega
theorem GA{s:aqO}{i:Nat}(h:i<=s.length):bN s (i:Int) (s.length:Int)=true:=by simp[bN];omega
theorem ajq{s:aqO}{i:Nat}(hi:i<=s.length)(h:eY s=i+eY (s.drop i)) :
  ((bif(bif decide ((i:Int)<(s.length:Int))then decide ((48:Int)<=(((List.getD s i 0).toNat:Nat):Int))else false)then decide ((((List.getD s i 0).toNat:Nat):Int)<=57)else false)=true/\i<s.length/\dZ (s.getD i 0)=true/\eY s=(i+1)+eY (s.drop (i+1))) \/
  ((bif(bif decide ((i:Int)<(s.length:Int))then decide ((48:Int)<=(((List.getD s i 0).toNat:Nat):Int))else false)then decide ((((List.getD s i 0).toNat:Nat):Int)<=57)else false)=false/\eY s=i):=by
 by_cases hl:i<s.length
 ·rw[drop_at hl,eY]at h;rw[dT (show(i:Int)<(s.length:Int) by omega),cond_true,aBh];cases hd:dZ (s.getD i 0)with
  | true=>rw[hd,cond_true]at h;exact .inl ⟨rfl,hl,rfl,by omega⟩
  | false=>rw[hd,cond_false]at h;exact .inr ⟨rfl,by omega⟩
 ·rw[aa9 (by omega)]at h;rw[dF (show ¬ (i:Int)<(s.length:Int) by omega)];exact .inr ⟨rfl,h⟩
theorem ckD(i:Nat)(s:aqO)(b:Bool):((decide ((0:Int)<=(i:Int))&&decide ((i:Int)<(s.length:Int))) || !(bif decide ((i:Int)<(s.length:Int))then b else false))=true/\((decide ((0:Int)<=(i:Int))&&decide ((i:Int)<(s.length:Int))) || !(decide ((i:Int)<(s.length:Int))))=true:=by rw[dT (show(0:Int)<=(i:Int) by omega)];cases decide ((i:Int)<(s.length:Int))<;>cases b<;>exact⟨rfl,rfl⟩
theorem am7:∀s:aqO,(s.take (eY s)).all dZ=true
 | []=>rfl
 | c::t=>by
  unfold eY;cases hc:dZ c with
  | true=>rw[cond_true,List.take_succ_cons,aeB,hc,am7 t];rfl
  | false=>rfl
theorem alF(s:aqO)(hs:s.length<=1000000):uN s=some (rzP s):=by
 refine jo rfl (fun | .e y=>y=s | .h0 v0 v1=>v0=s/\∃i:Nat,v1=(i:Int)/\i<=s.length/\eY s=i+eY (s.drop i)) (fun | .e _=>10000000000 | .h0 _ v1=>((s.length:Int)-v1).toNat) rfl (by show 10000000000<_;omega) ?_;rintro(y | ⟨v0,v1⟩) hs'
 ·cases hs';refine⟨⟨rfl,0,rfl,aaG _,by rw[aed,aeC]⟩,?_⟩;show((s.length:Int)-0).toNat<10000000000;omega
 ·obtain⟨rfl,i,rfl,h1,h2⟩:=hs';simp only[aN,bB,uM,aaE,ckD,(ckD i v0 false).2,av];rcases ajq h1 h2 with⟨e,hl,_,h3⟩ | ⟨e,h3⟩
  ·rw[e,cond_true,cZ (by omega)];refine⟨⟨trivial,i+1,rfl,by omega,h3⟩,?_⟩;show((v0.length:Int)-((i:Int)+1)).toNat<((v0.length:Int)-(i:Int)).toNat;omega
  ·rw[e,cond_false];have hr:rzP v0=bif(bif yF (v0.drop i)==0 then true else !(dX (v0.take i)))then(0,3)else bif decide (Int.tdiv 1125899906842624 (yF (v0.drop i))<iR (v0.take i))then(0,9)else(iR (v0.take i)*yF (v0.drop i),0):=by unfold rzP;rw[h3]
   have hi:decide ((i:Int)<=(v0.length:Int))=true:=dT (by omega);have hw:=H9 (v0.take i) (by rw[ad6];omega);have hv:=Ia (v0.take i) (by rw[ad6];omega) (by have:=am7 v0;rwa[h3]at this);simp only[yT,Eo,Gz h1,GA h1,ap6,aH,av,hi,dT (show(0:Int)<=(i:Int) by omega),show decide ((0:Int)<=0)=true from rfl,adM,ad5,hw,aez,fI];have hb:=apZ (v0.take i);cases hc:(bif yF (v0.drop i)==0 then true else !(dX (v0.take i)))with
   | true=>rw[hr,hc];rfl
   | false =>
    rw[hr,hc,cond_false,cond_false,hv];have hz:(yF (v0.drop i)==0)=false:=by
     cases h:yF (v0.drop i)==0 with
     | true=>rw[h]at hc;cases hc
     | false=>rfl
    rw[hz];simp only[aH,aec,av];have e1:ak (Int.tdiv 1125899906842624 (yF (v0.drop i)))=Int.tdiv 1125899906842624 (yF (v0.drop i)):=by refine aV ?_ ?_<;>rcases aw0 (v0.drop i)with h | h | h | h | h<;>rw[h]<;>decide
    rw[e1];by_cases hlt:Int.tdiv 1125899906842624 (yF (v0.drop i))<iR (v0.take i)
    ·rw[dT hlt];rfl
    ·rw[dF hlt,cond_false,cond_false];have e2:ak (iR (v0.take i)*yF (v0.drop i))=iR (v0.take i)*yF (v0.drop i):=by
      have q1:Int.tdiv (1125899906842624:Int) 0=0:=by decide
      have q2:Int.tdiv (1125899906842624:Int) 1=1125899906842624:=by decide
      have q3:Int.tdiv (1125899906842624:Int) 1024=1099511627776:=by decide
      have q4:Int.tdiv (1125899906842624:Int) 1048576=1073741824:=by decide
      have q5:Int.tdiv (1125899906842624:Int) 1073741824=1048576:=by decide
      refine cZ ?_;rcases aw0 (v0.drop i)with h | h | h | h | h<;>rw[h]at hlt ⊢ <;> omega
     rw[e2]
theorem ap7(n:Int):D8 n=some (avK n):=by
 refine dL rfl ?_;unfold avK kF;simp only[aN,bB,wh];cases hb:(bif decide (n<0)then true else decide ((1125899906842624:Int)<n))with
 | true=>rfl
 | false =>
  have h0:0<=n:=by
   by_cases h:n<0
   ·rw[dT h]at hb;cases hb
   ·omega
  rw[Int.tmod_eq_emod_of_nonneg h0,Int.tmod_eq_emod_of_nonneg h0,Int.tmod_eq_emod_of_nonneg h0];have k1:(!((1024:Int)==0))=true:=rfl;have k2:(!((1048576:Int)==0))=true:=rfl;have k3:(!((1073741824:Int)==0))=true:=rfl;simp only[k1,k2,k3,ad5,av];cases(bif n==0 then true else n%1024 != 0)<;>cases n%1048576 != 0<;>cases n%1073741824 != 0<;>rfl
theorem ap8(n:Int):D9 n=some (Ai n):=by
 refine dL rfl ?_;unfold Ai;simp only[aN,wo,ap7,aH];unfold avK;cases hb:(bif decide (n<0)then true else decide ((1125899906842624:Int)<n))with
 | true=>rfl
 | false =>
  have h0:0<=n/\n<=1125899906842624:=by
   by_cases h:n<0
   ·rw[dT h]at hb;cases hb
   ·rw[dF h,cond_false]at hb;have:=of_decide_eq_false hb;omega
  have hI:∀x:Int,0<=x->x<=1125899906842624->fK (ak x)=some (aZ x):=fun x h1 h2=>by rw[cZ (by omega)];exact FM x (by omega)
  have hd:∀y:Int,Int.tdiv n y=n / y:=fun y=>aeI h0.1
  have hm:∀(x:Int) (c:UInt8),decide ((aZ x).length+[c].length<=aA)=true:=fun x c=>dT (by have:=qX x;rw[ms,aa8];omega)
  obtain⟨u0,u3⟩:=aa7 n;simp only[cond_false,hd];rcases MI u0 u3 with⟨h,h2⟩ | ⟨h,h2⟩ | ⟨h,h2⟩ | ⟨h,h2⟩
  ·rw[h2,h];have q:=hI (n / 1) (by omega) (by omega);simp only[show((0:Int)==0)=true from rfl,cond_true,show((1:Int)==0)=false from rfl,show((1:Int)==1024)=false from rfl,show((1:Int)==1048576)=false from rfl,show((1:Int)==1073741824)=false from rfl,cond_false,aec,q,av,aH];rw[show sfx 0=[]from rfl,aeb]
  ·rw[h2,h];have q:=hI (n / 1024) (by omega) (by omega);simp only[show((1:Int)==0)=false from rfl,show((1:Int)==1)=true from rfl,cond_true,show((1024:Int)==0)=false from rfl,show((1024:Int)==1024)=true from rfl,cond_false,aec,q,av,aH,hm];rfl
  ·rw[h2,h];have q:=hI (n / 1048576) (by omega) (by omega);simp only[show((2:Int)==0)=false from rfl,show((2:Int)==1)=false from rfl,show((2:Int)==2)=true from rfl,cond_true,show((1048576:Int)==0)=false from rfl,show((1048576:Int)==1024)=false from rfl,show((1048576:Int)==1048576)=true from rfl,cond_false,aec,q,av,aH,hm];rfl
  ·rw[h2,h];have q:=hI (n / 1073741824) (by omega) (by omega);simp only[show((3:Int)==0)=false from rfl,show((3:Int)==1)=false from rfl,show((3:Int)==2)=false from rfl,cond_true,show((1073741824:Int)==0)=false from rfl,show((1073741824:Int)==1024)=false from rfl,show((1073741824:Int)==1048576)=false from rfl,show((1073741824:Int)==1073741824)=true from rfl,cond_false,aec,q,av,aH,hm];rfl
theorem aw1(s:aqO):(yF s==0) = !(FI s)/\(FI s=true->yF s=2 ^ (Int.toNat (10*yE s))):=by unfold yF FI yE;cases RV s<;>cases RQ s<;>cases RS s<;>cases RU s<;>refine⟨rfl,fun h=>?_⟩<;>first | (cases h;done) | rfl
theorem asT{s:aqO}(h:FI s=true):∀c∈s,dZ c=false:=by
 have:s=[]\/s=[98]\/s=[107]\/s=[107,98]\/s=[109]\/s=[109,98]\/s=[103]\/s=[103,98]:=by
  unfold FI RV RQ RS RU at h;simp only[Bool.cond_eq_ite]at h;by_cases a1:s=[]
  ·exact .inl a1
  by_cases a2:s=[98]
  ·exact .inr (.inl a2)
  by_cases a3:s=[107]
  ·exact .inr (.inr (.inl a3))
  by_cases a4:s=[107,98]
  ·exact .inr (.inr (.inr (.inl a4)))
  by_cases a5:s=[109]
  ·exact .inr (.inr (.inr (.inr (.inl a5))))
  by_cases a6:s=[109,98]
  ·exact .inr (.inr (.inr (.inr (.inr (.inl a6)))))
  by_cases a7:s=[103]
  ·exact .inr (.inr (.inr (.inr (.inr (.inr (.inl a7))))))
  by_cases a8:s=[103,98]
  ·exact .inr (.inr (.inr (.inr (.inr (.inr (.inr a8))))))
  simp[a1,a2,a3,a4,a5,a6,a7,a8]at h
 rcases this with rfl | rfl | rfl | rfl | rfl | rfl | rfl | rfl<;>decide
theorem am8:∀s:aqO,(s.take (eY s)).all dZ=true
 | []=>rfl
 | c::t=>by
  unfold eY;cases h:dZ c with
  | false=>rfl
  | true=>rw[cond_true,List.take_succ_cons,aeB,h,am8 t];rfl
theorem am9:∀(s t:aqO),s.all dZ=true->(∀c∈t,dZ c=false)->eY (s++t)=s.length
 | [],[],_,_=>rfl
 | [],c::t,_,h=>by show eY (c::t)=0;rw[eY,h c abd];rfl
 | c::s,t,h,h2=>by rw[aeB,abj]at h;show eY (c::(s++t))=_;rw[eY,h.1,cond_true,am9 s t h.2 h2,List.length_cons]
theorem Y7(s:aqO):∀n,Bb s n=0\/∃k,Bb s n=k+1/\k<n/\dZ (s.getD k 0)=true
 | 0=>.inl rfl
 | n+1=>by
  unfold Bb;cases h:dZ (s.getD n 0)with
  | true=>exact .inr ⟨n,rfl,Nat.lt_succ_self _,h⟩
  | false =>
   rcases Y7 s n with h1 | ⟨k,h1,h2,h3⟩
   ·exact .inl h1
   ·exact .inr ⟨k,h1,by omega,h3⟩
theorem ajs(s:aqO):∀n,n<=s.length->∀c∈(s.take n).drop (Bb s n),dZ c=false
 | 0,_,c,h=>by simp[Bb]at h
 | n+1,hn,c,h=>by
  unfold Bb at h;cases hd:dZ (s.getD n 0)with
  | true =>rw[hd,cond_true,aa9 (by rw[ad6];omega)]at h;cases h
  | false =>
   rw[hd,cond_false,aht (by omega),List.drop_append_of_le_length (by rw[ad6];have:=YW s n;omega)]at h;rcases List.mem_append.1 h with h | h
   ·exact ajs s n (by omega) c h
   ·have:c=s[n]:=List.mem_singleton.1 h;rw[this,<- hd,List.getD,aaz (show n<s.length by omega)];rfl
theorem asU(s:aqO):∀c∈s.drop (jV s),dZ c=false:=fun c h=>ajs s s.length (abn _) c (by rw[aej (abn _)];exact h)
theorem ay5{s t:aqO}(h:s.all dZ=true)(h2:∀c∈t,dZ c=false):jV (s++t)=s.length:=by
 have h3:=asU (s++t);have h4:=asM (s++t);rw[List.length_append]at h4;rcases Nat.lt_trichotomy (jV (s++t)) s.length with hl | hl | hl
 ·exfalso;have hm:s[jV (s++t)]∈(s++t).drop (jV (s++t)):=by
   rw[List.drop_append_of_le_length (by omega),List.drop_eq_getElem_cons hl,aeF];exact abd
  have q1:=h3 _ hm;have q2:=ahn.1 h _ (aee hl);rw[q1]at q2;cases q2
 ·exact hl
 ·exfalso;rcases Y7 (s++t) (s++t).length with h5 | ⟨k,h5,h6,h7⟩
  ·have:jV (s++t)=0:=h5;omega
  ·have h5:jV (s++t)=k+1:=h5;have hk:k-s.length<t.length:=by rw[List.length_append]at h6;omega
   have hm:(s++t).getD k 0=t[k-s.length]:=by rw[List.getD,aef (by omega),aaz hk];rfl
   rw[hm,h2 _ (aee hk)]at h7;cases h7
theorem aw2(s:aqO):IW s=rzP s:=by
 have hno:=asU s;cases ha:(s.take (jV s)).all dZ with
 | true =>
  have hp:eY s=jV s:=by have:=am9 (s.take (jV s)) (s.drop (jV s)) ha hno;rw[aif]at this;rw[this,ad6];exact Nat.min_eq_left (asM s)
  unfold IW rzP;rw[hp];obtain⟨q1,q2⟩:=aw1 (s.drop (jV s));rw[q1];cases hz:FI (s.drop (jV s))with
  | false=>rfl
  | true =>
   simp only[adr,cond_false];rw[q2 hz];obtain⟨u0,u3⟩:=af5 (s.drop (jV s));have hv:iR (s.take (jV s))=K9 (bn (s.take (jV s)) 0):=rfl;unfold fH;cases hw:dX (s.take (jV s))with
   | false=>simp
   | true =>
    simp only[adr,cond_false];rw[hv];have key:∀P:Int,(P=1\/P=1024\/P=1048576\/P=1073741824)->((A8 (1125899906842624 / P) (bn (s.take (jV s)) 0)).1*P,(A8 (1125899906842624 / P) (bn (s.take (jV s)) 0)).2)=bif decide (Int.tdiv 1125899906842624 P<K9 (bn (s.take (jV s)) 0))then((0,9):Int×Int)else(K9 (bn (s.take (jV s)) 0)*P,0):=by
     intro P hP;rw[aeI (by decide)];have hb:1125899906842624 / P<=1125899906842624:=by rcases hP with h | h | h | h<;>rw[h]<;>decide
     by_cases hx:1125899906842624 / P<(bn (s.take (jV s)) 0:Int)
     ·rw[DF hx];have:1125899906842624 / P<K9 (bn (s.take (jV s)) 0):=by
       by_cases h7:bn (s.take (jV s)) 0<72057594037927936
       ·rw[AZ h7];exact hx
       ·rw[OE h7];omega
      rw[dT this];simp
     ·rw[DI hx,AZ (by omega),dF hx];rfl
    exact key _ (by rcases MI u0 u3 with⟨_,h⟩ | ⟨_,h⟩ | ⟨_,h⟩ | ⟨_,h⟩<;>rw[h]<;>simp)
 | false =>
  have hw:dX (s.take (jV s))=false:=by unfold dX;rw[ha,ajK]
  have hz:IW s=(0,3):=by unfold IW fH;rw[hw];cases FI (s.drop (jV s))<;>simp
  rw[hz];have hl:eY s<jV s:=by
   rcases aiX (eY s) (jV s)with h | h
   ·exact h
   ·exfalso;have:=am8 s;rw[<- aif (jV s) s,aif]at this;have h2:(s.take (jV s)).all dZ=true:=ahn.2 fun c hc=>ahn.1 this c (by
     have:s.take (jV s)=(s.take (eY s)).take (jV s):=by rw[List.take_take,Nat.min_eq_left h]
     rw[this]at hc;exact amH hc)
    rw[h2]at ha;cases ha
  have hb:FI (s.drop (eY s))=false:=by
   cases hb:FI (s.drop (eY s))with
   | false=>rfl
   | true =>
    exfalso;have h1:=asT hb;rcases Y7 s s.length with h5 | ⟨k,h5,h6,h7⟩
    ·have:jV s=0:=h5;omega
    ·have h5:jV s=k+1:=h5;have hm:s.getD k 0∈s.drop (eY s):=by
      have hk:k-eY s<(s.drop (eY s)).length:=by rw[adH];omega
      have:s.getD k 0=(s.drop (eY s))[k-eY s]:=by rw[List.getElem_drop,List.getD];rw[aaz h6];simp[show eY s+(k-eY s)=k by omega]
      rw[this];exact aee hk
     rw[h1 _ hm]at h7;cases h7
  unfold rzP;rw[(aw1 (s.drop (eY s))).1,hb];rfl
theorem ajt(s:aqO):kD s=rzV s:=congrArg Prod.fst (aw2 s)
theorem aBi(s:aqO):XA s=rzE s:=congrArg Prod.snd (aw2 s)
theorem aBj{n:Int}(_:0<=n):n / 2 ^ (Int.toNat (10*kF n))*2 ^ (Int.toNat (10*kF n))=n:=by
 have hc:(kF n=0\/(kF n=1/\n%1024=0)\/(kF n=2/\n%1048576=0)\/(kF n=3/\n%1073741824=0)):=by
  unfold kF;by_cases c0:n=0
  ·rw[iU c0];exact .inl rfl
  rw[eT c0,cond_false];by_cases c1:n%1024=0
  ·rw[nK c1,cond_false];by_cases c2:n%1048576=0
   ·rw[nK c2,cond_false];by_cases c3:n%1073741824=0
    ·rw[nK c3,cond_false];exact .inr (.inr (.inr ⟨rfl,c3⟩))
    ·rw[kr c3,cond_true];exact .inr (.inr (.inl ⟨rfl,c2⟩))
   ·rw[kr c2,cond_true];exact .inr (.inl ⟨rfl,c1⟩)
  ·rw[kr c1];exact .inl rfl
 rcases hc with h | ⟨h,h2⟩ | ⟨h,h2⟩ | ⟨h,h2⟩<;>rw[h]
 ·rw[show(2:Int) ^ (Int.toNat (10*0))=1 from rfl];omega
 ·rw[show(2:Int) ^ (Int.toNat (10*1))=1024 from rfl];omega
 ·rw[show(2:Int) ^ (Int.toNat (10*2))=1048576 from rfl];omega
 ·rw[show(2:Int) ^ (Int.toNat (10*3))=1073741824 from rfl];omega
theorem aBk{u:Int}(h0:0<=u)(h1:u<=3):FI (sfx u)=true/\yE (sfx u)=u:=by
 have:u=0\/u=1\/u=2\/u=3:=by omega
 rcases this with rfl | rfl | rfl | rfl<;>decide
theorem ay6{n:Int}(h0:0<=n)(h1:n<=1125899906842624):IW (Ai n)=(n,0):=by
 obtain⟨u0,u3⟩:=aa7 n;obtain⟨s1,s2⟩:=aBk u0 u3;have hd:0<=n / 2 ^ (Int.toNat (10*kF n))/\n / 2 ^ (Int.toNat (10*kF n))<=1125899906842624 / 2 ^ (Int.toNat (10*kF n))/\n / 2 ^ (Int.toNat (10*kF n))<9223372036854775808:=by rcases MI u0 u3 with⟨_,h⟩ | ⟨_,h⟩ | ⟨_,h⟩ | ⟨_,h⟩<;>rw[h]<;>omega
 obtain⟨q1,q2,q3⟩:=xL hd.1 hd.2.2;have e:Ai n=aZ (n / 2 ^ (Int.toNat (10*kF n)))++sfx (kF n):=by unfold Ai;rw[dF (by omega),dF (by omega)];rfl
 unfold IW;rw[e,ay5 q3 (asT s1),List.drop_left,List.take_left,s1,s2,adr,cond_false,YR hd.1 hd.2.1 hd.2.2,aBj h0]
end
section
def grH(s:aqO):aqO:=bif(gX s).2==0 then[]else gH s
def grU(s:aqO):Int:=((gX s).1:Int)
def grR(s:aqO):aqO:=bif(gX s).2==0 then[]else gR s
def grB(s:aqO):Bool:=bif(gX s).2==0 then false else dX (gH s)
theorem alG(s:aqO)(hs:s.length<=1000000):Cx s=some (grH s,grU s,grR s,grB s):=by
 refine jo rfl (fun | .e y=>y=s | .h0 v0 v1=>v0=s/\∃i:Nat,v1=(i:Int)/\i<=s.length/\eY s=i+eY (s.drop i)) (fun | .e _=>10000000000 | .h0 _ v1=>((s.length:Int)-v1).toNat) rfl (by show 10000000000<_;omega) ?_;rintro(y | ⟨v0,v1⟩) hs'
 ·cases hs';refine⟨⟨rfl,0,rfl,aaG _,by rw[aed,aeC]⟩,?_⟩;show((s.length:Int)-0).toNat<10000000000;omega
 ·obtain⟨rfl,i,rfl,h1,h2⟩:=hs';simp only[aN,bB,uX,aaE,ckD,(ckD i v0 false).2,av];rcases ajq h1 h2 with⟨e,hl,_,h3⟩ | ⟨e,h3⟩
  ·rw[e,cond_true,cZ (by omega)];refine⟨⟨trivial,i+1,rfl,by omega,h3⟩,?_⟩;grind
  ·rw[e,cond_false];have hw:=H9 (v0.take i) (by rw[ad6];omega);have hdl:(v0.drop i).length=v0.length-i:=adH;have c1:∀k:Nat,cut (v0.drop i) (k:Int) ((v0.drop i).length:Int)=v0.drop (i+k):=fun k=>by rw[yT,ama]
   have c1':cut (v0.drop i) 1 ((v0.drop i).length:Int)=v0.drop (i+1):=c1 1;have c2':cut (v0.drop i) 2 ((v0.drop i).length:Int)=v0.drop (i+2):=c1 2;simp only[yT,Eo,Gz h1,GA h1,av,c1',c2',hw,aH];unfold grH grU grR grB gR gH gX;rw[h3];generalize dX (v0.take i)=bw;generalize hr:v0.drop i=r;have i0:Int.toNat 0=0:=rfl;have i1:Int.toNat 1=1:=rfl
   match r with
   | []=>rfl
   | [c] =>have k2:decide ((2:Int)<=(([c]:aqO).length:Int))=false:=rfl;have k1:decide ((1:Int)<=(([c]:aqO).length:Int))=true:=rfl;have k3:decide ((0:Int)<(([c]:aqO).length:Int))=true:=rfl;have k4:bN [c] (1:Int) (([c]:aqO).length:Int)=true:=rfl;simp only[k1,k2,k3,k4,i0,i1,show List.getD [c] 0 0=c from rfl,aec,ai5,ad5,cond_true,cond_false,av,gU,show decide ((0:Int)<=0)=true from rfl,adM];cases((c.toNat:Int)==104)<;>cases((c.toNat:Int)==109)<;>cases((c.toNat:Int)==115)<;>rfl
   | c::d::t =>
    have l0:decide ((0:Int)<((c::d::t).length:Int))=true:=dT (by simp only[List.length_cons];omega);have l1:decide ((1:Int)<((c::d::t).length:Int))=true:=dT (by simp only[List.length_cons];omega);have l2:decide ((2:Int)<=((c::d::t).length:Int))=true:=dT (by simp only[List.length_cons];omega);have l3:decide ((1:Int)<=((c::d::t).length:Int))=true:=dT (by simp only[List.length_cons];omega);have k4:bN (c::d::t) (1:Int) ((c::d::t).length:Int)=true:=by simp[bN];omega
    have k5:bN (c::d::t) (2:Int) ((c::d::t).length:Int)=true:=by simp[bN];omega
    simp only[l0,l1,l2,l3,k4,k5,i0,i1,show List.getD (c::d::t) 0 0=c from rfl,show List.getD (c::d::t) 1 0=d from rfl,ad5,cond_true,av,gU,show decide ((0:Int)<=0)=true from rfl,show decide ((0:Int)<=1)=true from rfl,adM];cases aEO:((c.toNat:Int)==104)with
    | true =>have aEP:((c.toNat:Int)==109)=false:=eT (by have:=eq_of_beq aEO;omega);rw[aEP];rfl
    | false=>cases((c.toNat:Int)==109)<;>cases((d.toNat:Int)==115)<;>cases((c.toNat:Int)==115)<;>rfl
theorem XE:uY=some ⟨3600000,60000,1000,1⟩:=dL rfl rfl
theorem alH:CF=some ⟨[104],[109],[115],[109,115]⟩:=dL rfl rfl
theorem ap9(k:Nat):mQ (k:Int)=k:=by simp[mQ]
def Lp(a0 a1 a2 a3:Int):Nat->Int
 | 0=>a0*3600000+a1*60000+a2*1000+a3
 | 1=>a1*60000+a2*1000+a3
 | 2=>a2*1000+a3
 | 3=>a3
 | _=>0
def p3I(s:aqO):pE->Prop
 | .e y=>y=s
 | .h0 v0 v1 v2 v3=>∃(f:Nat) (a0 a1 a2 a3:Int) (T:Nat),v3=[a0,a1,a2,a3]/\v0.length<f/\v0.length<=1000000/\(-1<=v2/\v2<=3)/\(0<=v2\/v0≠[])/\(0<=a0/\a0<=1099511627776)/\(0<=a1/\a1<=1099511627776)/\(0<=a2/\a2<=1099511627776)/\(0<=a3/\a3<=1099511627776)/\((v2<0->a0=0)/\(v2<1->a1=0)/\(v2<2->a2=0)/\(v2<3->a3=0))/\(v1=true->1099511627776<T)/\(v1=false->a0*3600000+a1*60000+a2*1000+a3=(T:Int))/\FD ((p8 f v2 v0).map (T + ·))=xR s
 | .h1 v0 v1 v2 v3 v4=>∃(k:Nat) (a0 a1 a2 a3:Int) (T:Nat),v2=(k:Int)/\k<=4/\v3=[a0,a1,a2,a3]/\v4=[3600000,60000,1000,1]/\(0<=a0/\a0<=1099511627776)/\(0<=a1/\a1<=1099511627776)/\(0<=a2/\a2<=1099511627776)/\(0<=a3/\a3<=1099511627776)/\(v0=true->1099511627776<T)/\(v0=false->v1+Lp a0 a1 a2 a3 k=(T:Int)/\0<=v1/\v1<=k*1099511627776)/\FD (some T)=xR s
def Lr:pE->Nat
 | .e _=>10000000000
 | .h0 v0 _ _ _=>100+v0.length
 | .h1 _ _ v2 _ _=>(4-v2).toNat
theorem aju(s:aqO)(v0:Bool)(v1 v2:Int)(v3 v4:List Int)(h:p3I s (.h1 v0 v1 v2 v3 v4)):(jM (.h1 v0 v1 v2 v3 v4)).run Prop (fun r'=>r'=xR s) (fun s'=>p3I s s'/\Lr s'<Lr (.h1 v0 v1 v2 v3 v4)) False:=by
 obtain⟨k,a0,a1,a2,a3,T,rfl,hk,rfl,rfl,h0,h1,h2,h3,hb,hT,hR⟩:=h;have k1:decide ((0:Int)<=(k:Int))=true:=dT (by omega);have hM:∀(o:Bool) (t:Int) (l1 l2:List Int),k<4->Lr (.h1 o t ((k:Int)+1) l1 l2)<Lr (.h1 v0 v1 (k:Int) [a0,a1,a2,a3] [3600000,60000,1000,1]):=fun o t l1 l2 h=>by show(4-((k:Int)+1)).toNat<(4-(k:Int)).toNat;omega
 simp only[aN,bB,jM,ap9];by_cases h4:k<4
 ·have hM:=fun o t l1 l2=>hM o t l1 l2 h4
  have n1:Nat.blt k ([a0,a1,a2,a3]:List Int).length=true:=by simp[Nat.blt];omega
  have n2:Nat.blt k ([3600000,60000,1000,1]:List Int).length=true:=by simp[Nat.blt];omega
  rw[dT (show(k:Int)<4 by omega)];simp only[k1,n1,n2,av,cond_true,adM,adr,cond_false,cZ (show -9223372036854775808<=(k:Int)+1/\(k:Int)+1<=9223372036854775807 by omega)];have next:∀(a L:Int),[a0,a1,a2,a3].getD k (dflt .int)=a->[3600000,60000,1000,1].getD k (dflt .int)=L->(L=3600000\/L=60000\/L=1000\/L=1)->0<=a->a<=1099511627776->Lp a0 a1 a2 a3 k=a*L+Lp a0 a1 a2 a3 (k+1)->0<=Lp a0 a1 a2 a3 (k+1) ->
    ck (!(([3600000,60000,1000,1]:List Int).getD k (dflt .int)==(0:Int))) False (bif(decide ((ak (Int.tdiv (1099511627776:Int) (([3600000,60000,1000,1]:List Int).getD k (dflt .int))))<(([a0,a1,a2,a3]:List Int).getD k (dflt .int))))then(p3I s (.h1 true v1 ((k:Int)+1) [a0,a1,a2,a3] [3600000,60000,1000,1])/\Lr (.h1 true v1 ((k:Int)+1) [a0,a1,a2,a3] [3600000,60000,1000,1])<Lr (.h1 v0 v1 (k:Int) [a0,a1,a2,a3] [3600000,60000,1000,1]))else(bif(!v0)then(p3I s (.h1 v0 (ak (v1+(ak ((([a0,a1,a2,a3]:List Int).getD k (dflt .int))*(([3600000,60000,1000,1]:List Int).getD k (dflt .int)))))) ((k:Int)+1) [a0,a1,a2,a3] [3600000,60000,1000,1])/\Lr (.h1 v0 (ak (v1+(ak ((([a0,a1,a2,a3]:List Int).getD k (dflt .int))*(([3600000,60000,1000,1]:List Int).getD k (dflt .int)))))) ((k:Int)+1) [a0,a1,a2,a3] [3600000,60000,1000,1])<Lr (.h1 v0 v1 (k:Int) [a0,a1,a2,a3] [3600000,60000,1000,1]))else(p3I s (.h1 v0 v1 ((k:Int)+1) [a0,a1,a2,a3] [3600000,60000,1000,1])/\Lr (.h1 v0 v1 ((k:Int)+1) [a0,a1,a2,a3] [3600000,60000,1000,1])<Lr (.h1 v0 v1 (k:Int) [a0,a1,a2,a3] [3600000,60000,1000,1])))):=by
   intro a L ea eL hL g0 g1 hs hz;rw[ea,eL];have hLz:(L==0)=false:=eT (by omega);rw[hLz,aec,av];have mk:∀(o:Bool) (t:Int),(o=true->1099511627776<T)->(o=false->t+Lp a0 a1 a2 a3 (k+1)=(T:Int)/\0<=t/\t<=((k+1:Nat):Int)*1099511627776)->p3I s (.h1 o t ((k:Int)+1) [a0,a1,a2,a3] [3600000,60000,1000,1])/\Lr (.h1 o t ((k:Int)+1) [a0,a1,a2,a3] [3600000,60000,1000,1])<Lr (.h1 v0 v1 (k:Int) [a0,a1,a2,a3] [3600000,60000,1000,1]):=fun o t q1 q2 =>⟨⟨k+1,a0,a1,a2,a3,T,by omega,by omega,rfl,rfl,h0,h1,h2,h3,q1,q2,hR⟩,hM o t _ _⟩
   have hq:ak (Int.tdiv 1099511627776 L)=Int.tdiv 1099511627776 L:=by rcases hL with rfl | rfl | rfl | rfl<;>rfl
   have hq2:Int.tdiv 1099511627776 L<a->1099511627776<a*L:=by have e1:Int.tdiv (1099511627776:Int) 3600000=305419:=rfl;have e2:Int.tdiv (1099511627776:Int) 60000=18325193:=rfl;have e3:Int.tdiv (1099511627776:Int) 1000=1099511627:=rfl;have e4:Int.tdiv (1099511627776:Int) 1=1099511627776:=rfl;rcases hL with rfl | rfl | rfl | rfl<;>omega
   have hq3:¬ Int.tdiv 1099511627776 L<a->0<=a*L/\a*L<=1099511627776:=by have e1:Int.tdiv (1099511627776:Int) 3600000=305419:=rfl;have e2:Int.tdiv (1099511627776:Int) 60000=18325193:=rfl;have e3:Int.tdiv (1099511627776:Int) 1000=1099511627:=rfl;have e4:Int.tdiv (1099511627776:Int) 1=1099511627776:=rfl;rcases hL with rfl | rfl | rfl | rfl<;>omega
   rw[hq];by_cases hlt:Int.tdiv 1099511627776 L<a
   ·rw[dT hlt,cond_true];have:=hq2 hlt;refine mk true v1 (fun _=>?_) (fun h=>by cases h);cases v0 with
    | true=>exact hb rfl
    | false=>have:=hT rfl;omega
   ·rw[dF hlt,cond_false];obtain⟨g2,g3⟩:=hq3 hlt;cases v0 with
    | true=>exact mk true v1 hb (fun h=>by cases h)
    | false =>obtain⟨t1,t2,t3⟩:=hT rfl;rw[aec,cond_true,cZ (show -9223372036854775808<=a*L/\a*L<=9223372036854775807 by omega),cZ (by omega)];exact mk false _ (fun h=>by cases h) (fun _=>⟨by omega,by omega,by omega⟩)
  have hc:k=0\/k=1\/k=2\/k=3:=by omega
  rcases hc with rfl | rfl | rfl | rfl
  ·exact next a0 3600000 rfl rfl (by decide) h0.1 h0.2 (by simp only[Lp];omega) (by simp only[Lp];omega)
  ·exact next a1 60000 rfl rfl (by decide) h1.1 h1.2 (by simp only[Lp];omega) (by simp only[Lp];omega)
  ·exact next a2 1000 rfl rfl (by decide) h2.1 h2.2 (by simp only[Lp]) (by simp only[Lp];omega)
  ·exact next a3 1 rfl rfl (by decide) h3.1 h3.2 (by simp only[Lp];omega) (by simp only[Lp];omega)
 ·have:k=4:=by omega
  subst this;rw[dF (show ¬ (((4:Nat):Int)<4) by omega),cond_false];rw[<- hR];cases v0 with
  | true =>have:=hb rfl;simp only[FD];rw[dT (show(1099511627776:Int)<(T:Int) by omega)];rfl
  | false =>
   obtain⟨t1,t2,t3⟩:=hT rfl;simp only[Lp]at t1;have:v1=(T:Int):=by omega
   subst this;simp only[FD,cond_false];cases decide ((1099511627776:Int)<(T:Int))<;>rfl
theorem alI(s:aqO)(hs:s.length<=1000000):Cz s=some (xR s):=by
 refine jo rfl (p3I s) Lr rfl (by show 10000000000<_;omega) ?_;rintro(y | ⟨v0,v1,v2,v3⟩ | ⟨v0,v1,v2,v3,v4⟩) hs'
 ·have hs':y=s:=hs';subst hs';simp only[aN,bB,jM];by_cases he:y=[]
  ·subst he;rfl
  ·have:0<y.length:=List.length_pos_iff.2 he;rw[eT (show(y.length:Int)≠0 by omega),cond_false];refine⟨⟨y.length+1,0,0,0,0,0,rfl,by omega,hs,by omega,.inr he,by decide,by decide,by decide,by decide,⟨fun _=>rfl,fun _=>rfl,fun _=>rfl,fun _=>rfl⟩,(fun h=>by cases h),(fun _=>rfl),?_⟩,?_⟩
   ·unfold xR;cases p8 (y.length+1) (-1) y with
    | none=>rfl
    | some t=>simp
   ·show 100+y.length<10000000000;omega
 ·obtain⟨f,a0,a1,a2,a3,T,rfl,hf,hl,⟨g1,g2⟩,g3,h0,h1,h2,h3,hz,hb,hT,hR⟩:=hs';obtain⟨f,rfl⟩:∃m,f=m+1:=⟨f-1,by omega⟩
  simp only[aN,bB,jM];by_cases he:v0=[]
  ·subst he;have hl:0<=v2:=g3.resolve_right (fun h=>h rfl);have e:(p8 (f+1) v2 []).map (T + ·)=some T:=by
    rw[p8,show(([]:aqO)==[])=true from rfl,cond_true,dF (by omega)];rfl
   rw[e]at hR;rw[show decide ((0:Int)<(([]:aqO).length:Int))=false from rfl,cond_false,XE];refine⟨⟨0,a0,a1,a2,a3,T,rfl,by decide,rfl,rfl,h0,h1,h2,h3,hb,fun h=>⟨by have:=hT h;simp only[Lp];omega,by decide,by decide⟩,hR⟩,?_⟩;show(4-0:Int).toNat<100+0;decide
  ·have hpos:0<v0.length:=List.length_pos_iff.2 he;rw[dT (show(0:Int)<(v0.length:Int) by omega),cond_true,alG v0 hl];simp only[aH];have hbad:(bif(bif(!(grB v0))then true else decide (grU v0<=v2))then true else(bif grH v0==[48]then(bif decide (0<=v2)then true else decide ((0:Int)<((grR v0).length:Int)))else false))=FC v2 v0:=by
    unfold FC grB grU grH grR;cases(gX v0).2==0<;>rfl
   rw[hbad];cases hq:FC v2 v0 with
   | true=>rw[aey he hq]at hR;exact hR
   | false =>
    obtain⟨q1,q2,q3⟩:=am0 hq;have q1':((gX v0).2==0)=false:=by simpa using q1
    obtain⟨x1,x2,x3⟩:=awL v0;have eH:grH v0=gH v0:=by unfold grH;rw[q1'];rfl
    have eR:grR v0=gR v0:=by unfold grR;rw[q1'];rfl
    have hD:(gH v0).all dZ=true:=by unfold dX at q2;rw[abj]at q2;exact q2.2
    have hRl:(gR v0).length<f:=by rw[aa3];omega
    have hRs:(gR v0).length<=1000000:=by rw[aa3];omega
    have hRm:(gR v0).length<v0.length:=by rw[aa3];omega
    rw[aex he hq]at hR;rw[eH,eR,Ia (gH v0) (Nat.le_trans (asD v0) hl) hD];simp only[aH,cond_false];have hU:(gX v0).1=0\/(gX v0).1=1\/(gX v0).1=2\/(gX v0).1=3:=by omega
    have hv:decide ((1099511627776:Int)<iR (gH v0))=decide ((1099511627776:Int)<(bn (gH v0) 0:Int)):=by
     unfold iR;by_cases h7:bn (gH v0) 0<72057594037927936
     ·rw[AZ h7]
     ·rw[OE h7];exact decide_eq_decide.2 (by omega)
    have next:∀(b':Bool) (c0 c1 c2 c3:Int),(0<=c0/\c0<=1099511627776)->(0<=c1/\c1<=1099511627776)->(0<=c2/\c2<=1099511627776)->(0<=c3/\c3<=1099511627776)->(((gX v0).1:Int)<0->c0=0)/\(((gX v0).1:Int)<1->c1=0)/\(((gX v0).1:Int)<2->c2=0)/\(((gX v0).1:Int)<3->c3=0)->(b'=true->1099511627776<T+bn (gH v0) 0*bP (gX v0).1)->(b'=false->c0*3600000+c1*60000+c2*1000+c3=((T+bn (gH v0) 0*bP (gX v0).1:Nat):Int)) ->
      p3I s (.h0 (gR v0) b' ((gX v0).1:Int) [c0,c1,c2,c3])/\Lr (.h0 (gR v0) b' ((gX v0).1:Int) [c0,c1,c2,c3])<Lr (.h0 v0 v1 v2 [a0,a1,a2,a3]):=fun b' c0 c1 c2 c3 p0 p1 p2 p3 pz pb pT =>
     ⟨⟨f,c0,c1,c2,c3,_,rfl,hRl,hRs,by omega,.inl (by omega),p0,p1,p2,p3,pz,pb,pT,hR⟩,by show 100+(gR v0).length<100+v0.length;omega⟩
    rw[hv];unfold grU;have kU:(decide ((0:Int)<=((gX v0).1:Int))&&decide (((gX v0).1:Int)<4))=true:=by rw[dT (by omega),dT (by omega)];rfl
    have nU:Nat.blt (gX v0).1 ([a0,a1,a2,a3]:List Int).length=true:=by simp[Nat.blt];omega
    simp only[ap9,kU,nU,av];by_cases hbig:(1099511627776:Int)<(bn (gH v0) 0:Int)
    ·rw[dT hbig,cond_true];have hL:=aa5 (gX v0).1;have hm:bn (gH v0) 0<=bn (gH v0) 0*bP (gX v0).1:=al8 _ hL.1;rcases hU with hu | hu | hu | hu<;>rw[hu]at next q3 hm ⊢
     ·exact next true 0 a1 a2 a3 ⟨by decide,by decide⟩ h1 h2 h3 ⟨fun _=>rfl,fun _=>hz.2.1 (by omega),fun _=>hz.2.2.1 (by omega),fun _=>hz.2.2.2 (by omega)⟩ (fun _=>by omega) (fun h=>by cases h)
     ·exact next true a0 0 a2 a3 h0 ⟨by decide,by decide⟩ h2 h3 ⟨fun h=>by omega,fun _=>rfl,fun _=>hz.2.2.1 (by omega),fun _=>hz.2.2.2 (by omega)⟩ (fun _=>by omega) (fun h=>by cases h)
     ·exact next true a0 a1 0 a3 h0 h1 ⟨by decide,by decide⟩ h3 ⟨fun h=>by omega,fun h=>by omega,fun _=>rfl,fun _=>hz.2.2.2 (by omega)⟩ (fun _=>by omega) (fun h=>by cases h)
     ·exact next true a0 a1 a2 0 h0 h1 h2 ⟨by decide,by decide⟩ ⟨fun h=>by omega,fun h=>by omega,fun h=>by omega,fun _=>rfl⟩ (fun _=>by omega) (fun h=>by cases h)
    ·rw[dF hbig,cond_false];have hr:iR (gH v0)=(bn (gH v0) 0:Int):=by unfold iR;rw[AZ (by omega)]
     have hv0:0<=iR (gH v0)/\iR (gH v0)<=1099511627776:=by rw[hr];omega
     have hbt:v1=true->1099511627776<T+bn (gH v0) 0*bP (gX v0).1:=fun h=>by have:=hb h;omega
     rcases hU with hu | hu | hu | hu<;>rw[hu]at next q3 hbt ⊢
     ·refine next v1 (iR (gH v0)) a1 a2 a3 hv0 h1 h2 h3 ⟨fun h=>by omega,fun _=>hz.2.1 (by omega),fun _=>hz.2.2.1 (by omega),fun _=>hz.2.2.2 (by omega)⟩ hbt (fun h=>?_);have:=hT h;have z0:=hz.1 (by omega);simp only[bP];omega
     ·refine next v1 a0 (iR (gH v0)) a2 a3 h0 hv0 h2 h3 ⟨fun h=>by omega,fun h=>by omega,fun _=>hz.2.2.1 (by omega),fun _=>hz.2.2.2 (by omega)⟩ hbt (fun h=>?_);have:=hT h;have z0:=hz.2.1 (by omega);simp only[bP];omega
     ·refine next v1 a0 a1 (iR (gH v0)) a3 h0 h1 hv0 h3 ⟨fun h=>by omega,fun h=>by omega,fun h=>by omega,fun _=>hz.2.2.2 (by omega)⟩ hbt (fun h=>?_);have:=hT h;have z0:=hz.2.2.1 (by omega);simp only[bP];omega
     ·refine next v1 a0 a1 a2 (iR (gH v0)) h0 h1 h2 hv0 ⟨fun h=>by omega,fun h=>by omega,fun h=>by omega,fun h=>by omega⟩ hbt (fun h=>?_);have:=hT h;have z0:=hz.2.2.2 (by omega);simp only[bP];omega
 ·exact aju s v0 v1 v2 v3 v4 hs'
end
section
theorem Y8(i:Nat){n:Int}(h0:0<=n)(h1:n<=1099511627776):ak (Int.tdiv n (bP i:Int))=n / (bP i:Int)/\0<=n / (bP i:Int)/\n / (bP i:Int)<=n/\(n / (bP i:Int))*(bP i:Int)=n-n%(bP i:Int)/\0<=n%(bP i:Int)/\n%(bP i:Int)<=n/\((bP i:Int)==0)=false:=by have hL:=aa5 i;have a1:=Int.ediv_nonneg h0 (show(0:Int)<=(bP i:Int) by omega);have a2:=Int.ediv_le_self (bP i:Int) h0;have a3:=Int.mul_ediv_add_emod n (bP i:Int);have a4:=Int.emod_nonneg n (show(bP i:Int)≠0 by omega);have a5:n / (bP i:Int)*(bP i:Int)=(bP i:Int)*(n / (bP i:Int)):=Int.mul_comm _ _;have a6:0<=(bP i:Int)*(n / (bP i:Int)):=Int.mul_nonneg (by omega) a1;refine⟨by rw[aeI h0,aV (by omega) (by omega)],a1,a2,by omega,a4,by omega,eT (by omega)⟩
theorem aw4(i:Nat):(Ah i).length<=2:=by unfold Ah;split<;>decide
theorem zero_mod(i:Nat){n:Int}(h:n / (bP i:Int)=0):n%(bP i:Int)=n:=by have:=Int.mul_ediv_add_emod n (bP i:Int);rw[h,Int.mul_zero]at this;omega
theorem ay7(n:Int)(i:Nat):(O6 n i).length<=23:=by
 unfold O6;have:=qX (n / (bP i:Int));have:=aw4 i;cases decide (0<n / (bP i:Int))with
 | true=>rw[cond_true,List.length_append];omega
 | false=>exact aaG _
theorem aqa(x:Int):Ej x=some (yC x):=by
 refine jo rfl (fun | .e y=>y=x | .h0 v0 v1 v2 v3 v4=>(0<=v0/\v0<=1099511627776)/\v3=[3600000,60000,1000,1]/\v4=[[104],[109],[115],[109,115]]/\∃i:Nat,v2=(i:Int)/\i<=4/\v1.length<=30*i/\v1++IL (4-i) i v0=yC x) (fun | .e _=>100 | .h0 _ _ v2 _ _=>(4-v2).toNat) rfl (by show 100<_;omega) ?_;rintro(y | ⟨v0,v1,v2,v3,v4⟩) hs
 ·have hs:y=x:=hs;subst hs;simp only[aN,bB,qy];unfold yC;cases hb:(bif decide (y<0)then true else decide ((1099511627776:Int)<y))with
  | true=>rfl
  | false =>
   have hx:0<=y/\y<=1099511627776:=by
    by_cases h3:y<0
    ·rw[dT h3]at hb;cases hb
    ·rw[dF h3,cond_false]at hb;have:=of_decide_eq_false hb;omega
   rw[cond_false,cond_false];cases hz:y==0 with
   | true=>rfl
   | false =>rw[cond_false,XE,alH];exact⟨⟨hx,rfl,rfl,0,rfl,by decide,abn _,rfl⟩,by show(4-0:Int).toNat<100;decide⟩
 ·obtain⟨⟨h0,h1⟩,rfl,rfl,i,rfl,h4,hl,h5⟩:=hs;simp only[aN,bB,qy,ap9];by_cases hi:i<4
  ·have eL:([3600000,60000,1000,1]:List Int).getD i (dflt .int)=(bP i:Int):=by
    have:i=0\/i=1\/i=2\/i=3:=by omega
    rcases this with rfl | rfl | rfl | rfl<;>rfl
   have eN:([[104],[109],[115],[109,115]]:List (aqO)).getD i (dflt .str)=Ah i:=by
    have:i=0\/i=1\/i=2\/i=3:=by omega
    rcases this with rfl | rfl | rfl | rfl<;>rfl
   have k1:decide ((0:Int)<=(i:Int))=true:=dT (by omega);have n1:Nat.blt i ([3600000,60000,1000,1]:List Int).length=true:=by simp[Nat.blt];omega
   have n2:Nat.blt i ([[104],[109],[115],[109,115]]:List (aqO)).length=true:=by simp[Nat.blt];omega
   obtain⟨a1,a2,a3,a4,a5,a6,a7⟩:=Y8 i h0 h1;have hT:=qX (v0 / (bP i:Int));have hn:=aw4 i;rw[show 4-i=(4-(i+1))+1 by omega,IL]at h5;unfold O6 at h5;rw[dT (show(i:Int)<4 by omega)];simp only[k1,n1,n2,av,cond_true,adM,eL,eN,a1,a7,aec,Int.tmod_eq_emod_of_nonneg h0,cZ (show -9223372036854775808<=(i:Int)+1/\(i:Int)+1<=9223372036854775807 by omega),FM (v0 / (bP i:Int)) (by omega),aH];rw[dT (show v1.length+(aZ (v0 / (bP i:Int))).length<=aA by rw[ms];omega),dT (show(v1++aZ (v0 / (bP i:Int))).length+(Ah i).length<=aA by rw[ms,List.length_append];omega),av,av];by_cases hk:0<v0 / (bP i:Int)
   ·rw[dT hk,cond_true]at h5;rw[dT hk,cond_true];refine⟨⟨⟨a5,by omega⟩,trivial,trivial,i+1,rfl,by omega,?_,by rw[<- h5];simp only[abt]⟩,?_⟩
    ·rw[List.length_append,List.length_append];omega
    ·show(4-((i:Int)+1)).toNat<(4-(i:Int)).toNat;omega
   ·rw[dF hk,cond_false,aei]at h5;rw[dF hk,cond_false];refine⟨⟨⟨a5,by omega⟩,trivial,trivial,i+1,rfl,by omega,by omega,h5⟩,?_⟩;show(4-((i:Int)+1)).toNat<(4-(i:Int)).toNat;omega
  ·have:i=4:=by omega
   subst this;rw[dF (show ¬ (((4:Nat):Int)<4) by omega),cond_false];rw[<- h5];show v1=v1++[];rw[aeb]
theorem XF(c:Int):uO c=some (sw c):=dL rfl rfl
def BM(o:Option (aqO×Nat))(out:aqO)(a:Nat):aqO×Int:=match o with
 | none=>([], -1)
 | some q=>(out++q.1,(a:Int)+(q.2:Int))
theorem U1{s:aqO}{a:Nat}(h:a<s.length):cut s (a:Int) ((a+1:Nat):Int)=[s.getD a 0]/\bN s (a:Int) ((a+1:Nat):Int)=true:=by refine⟨?_,by simp[bN];omega⟩;unfold cut;rw[aaE,aaE,drop_at h,show a+1-a=1 by omega];rfl
def pcI(s:aqO)(a:Nat):oW->Prop
 | .e y0 y1=>y0=s/\y1=(a:Int)
 | .h0 v0 v1 v2=>v0=s/\v1=(a:Int)/\∃i:Nat,v2=(i:Int)/\a+1<=i/\i<=s.length/\iK 39 (s.drop (a+1))+(a+1)=i+iK 39 (s.drop i)/\BM (bif decide (iK 39 (s.drop (a+1))<(s.drop (a+1)).length)then some ((s.drop (a+1)).take (iK 39 (s.drop (a+1))),iK 39 (s.drop (a+1))+2)else none) [] a=BM (Lj (s.drop a)) [] a
 | .h1 v0 v1 v2=>v0=s/\∃b:Nat,v1=(b:Int)/\b<=s.length/\v2.length<=b/\BM (nW (s.drop b)) v2 b=BM (Lj (s.drop a)) [] a
def pcM(s:aqO):oW->Nat
 | .e _ _=>10000000000
 | .h0 _ _ v2=>((s.length:Int)-v2).toNat
 | .h1 _ v1 _=>((s.length:Int)-v1).toNat
theorem alJ(s:aqO)(hs:s.length<=1000000)(a:Nat)(ha:a<s.length):Cn s (a:Int)=some (BM (Lj (s.drop a)) [] a):=by
 refine jo rfl (pcI s a) (pcM s) ⟨rfl,rfl⟩ (by show 10000000000<_;omega) ?_;have e1:ak ((a:Int)+1)=((a+1:Nat):Int):=by rw[aV (by omega) (by omega)];omega
 rintro(⟨y0,y1⟩ | ⟨v0,v1,v2⟩ | ⟨v0,v1,v2⟩) hs'
 ·obtain⟨rfl,rfl⟩:=hs';have e2:ak ((a:Int)+2)=((a+2:Nat):Int):=by rw[aV (by omega) (by omega)];omega
  simp only[aN,bB,lG,e1,e2];rw[wS];refine⟨by omega,by omega,?_⟩;rw[aaE];have hp:=drop_at ha;have hpc:Lj (y0.drop a)=bif(((y0.getD a 0).toNat:Int)==92)then(match y0.drop (a+1)with | []=>none | d::_=>some ([d],2))else bif(((y0.getD a 0).toNat:Int)==39)then(bif decide (iK 39 (y0.drop (a+1))<(y0.drop (a+1)).length)then some ((y0.drop (a+1)).take (iK 39 (y0.drop (a+1))),iK 39 (y0.drop (a+1))+2)else none)else bif(((y0.getD a 0).toNat:Int)!=34)then some ([y0.getD a 0],1)else(nW (y0.drop (a+1))).map fun q=>(q.1,q.2+1):=by rw[hp];rfl
  cases Em:(((y0.getD a 0).toNat:Int)==92)with
  | true =>
   rw[Em,cond_true]at hpc;rw[cond_true];by_cases hl:a+1=y0.length
   ·rw[iU (show((a+1:Nat):Int)=(y0.length:Int) by omega),cond_true,hpc,aa9 (show y0.length<=a+1 by omega)];rfl
   ·obtain⟨q1,q2⟩:=U1 (show a+1<y0.length by omega);rw[eT (show((a+1:Nat):Int)≠(y0.length:Int) by omega),cond_false,q2,av,q1,hpc,drop_at (show a+1<y0.length by omega)];rfl
  | false =>
   rw[Em,cond_false]at hpc;rw[cond_false];cases h39:(((y0.getD a 0).toNat:Int)==39)with
   | true =>rw[h39,cond_true]at hpc;rw[cond_true];refine⟨⟨rfl,rfl,a+1,rfl,abn _,by omega,by omega,by rw[hpc]⟩,?_⟩;show((y0.length:Int)-((a+1:Nat):Int)).toNat<10000000000;omega
   | false =>
    rw[h39,cond_false]at hpc;rw[cond_false];cases CJ:(((y0.getD a 0).toNat:Int)!=34)with
    | true =>obtain⟨q1,q2⟩:=U1 ha;rw[CJ,cond_true]at hpc;rw[cond_true,q2,av,q1,hpc];rfl
    | false =>
     rw[CJ,cond_false]at hpc;rw[cond_false];refine⟨⟨rfl,a+1,rfl,by omega,aaG _,?_⟩,?_⟩
     ·rw[hpc];cases nW (y0.drop (a+1))with
      | none=>rfl
      | some q=>simp only[BM,aji,aei];rw[show(a:Int)+((q.2+1:Nat):Int)=((a+1:Nat):Int)+(q.2:Int) by omega]
     ·show((y0.length:Int)-((a+1:Nat):Int)).toNat<10000000000;omega
 ·obtain⟨rfl,rfl,i,rfl,h2,h3,h4,h5⟩:=hs';simp only[aN,bB,lG,e1];by_cases hi:i<v0.length
  ·have e3:ak ((i:Int)+1)=((i+1:Nat):Int):=by rw[aV (by omega) (by omega)];omega
   rw[dT (show(i:Int)<(v0.length:Int) by omega),cond_true,wS];refine⟨by omega,by omega,?_⟩;rw[aaE,e3];rw[drop_at hi,iK]at h4;cases hc:((v0.getD i 0).toNat:Int)==39 with
   | true =>
    rw[hc,cond_true]at h4;have k:bN v0 ((a+1:Nat):Int) (i:Int)=true:=by simp[bN];omega
    rw[cond_true,k,av,<- h5,dT (show iK 39 (v0.drop (a+1))<(v0.drop (a+1)).length by rw[adH];omega)];show(cut v0 ((a+1:Nat):Int) (i:Int),((i+1:Nat):Int))=([]++(v0.drop (a+1)).take (iK 39 (v0.drop (a+1))),(a:Int)+((iK 39 (v0.drop (a+1))+2:Nat):Int))
    unfold cut;rw[aaE,aaE,show i-(a+1)=iK 39 (v0.drop (a+1)) by omega,show((i+1:Nat):Int)=(a:Int)+((iK 39 (v0.drop (a+1))+2:Nat):Int) by omega];rfl
   | false =>rw[hc,cond_false]at h4;rw[cond_false];refine⟨⟨rfl,rfl,i+1,rfl,by omega,by omega,by omega,h5⟩,?_⟩;show((v0.length:Int)-((i+1:Nat):Int)).toNat<((v0.length:Int)-(i:Int)).toNat;omega
  ·rw[aa9 (show v0.length<=i by omega)]at h4;have h4:iK 39 (v0.drop (a+1))+(a+1)=i+0:=h4;rw[dF (show ¬ (i:Int)<(v0.length:Int) by omega),cond_false,<- h5,dF (show ¬ iK 39 (v0.drop (a+1))<(v0.drop (a+1)).length by rw[adH];omega)];rfl
 ·obtain⟨rfl,b,rfl,h3,h4,h5⟩:=hs';simp only[aN,bB,lG];by_cases hi:b<v0.length
  ·have e1:ak ((b:Int)+1)=((b+1:Nat):Int):=by rw[aV (by omega) (by omega)];omega
   have e2:ak (((b+1:Nat):Int)+1)=((b+2:Nat):Int):=by rw[aV (by omega) (by omega)];omega
   obtain⟨t1,k1⟩:=U1 hi;have kb:fZ v0 (b:Int)=true:=by simp[fZ];omega
   rw[dT (show(b:Int)<(v0.length:Int) by omega),cond_true,wS];refine⟨by omega,by omega,?_⟩;rw[aaE];simp only[e1,e2,t1,k1,kb,av];have go:∀(c:Nat) (out:aqO),c<=v0.length->b<c->out.length<=c->BM (nW (v0.drop c)) out c=BM (Lj (v0.drop a)) [] a->pcI v0 a (.h1 v0 (c:Int) out)/\pcM v0 (.h1 v0 (c:Int) out)<pcM v0 (.h1 v0 (b:Int) v2):=fun c out q1 q2 q3 q4=>⟨⟨rfl,c,rfl,q1,q3,q4⟩,by show((v0.length:Int)-(c:Int)).toNat<((v0.length:Int)-(b:Int)).toNat;omega⟩
   by_cases hl:b+1<v0.length
   ·obtain⟨t2,k2⟩:=U1 hl;rw[drop_at hi,drop_at hl,nW,<- drop_at hl]at h5;cases CJ:((v0.getD b 0).toNat:Int)==34 with
    | true =>
     rw[CJ]at h5;rw[cond_true,<- h5];show(v2,((b+1:Nat):Int))=(v2++[],(b:Int)+((1:Nat):Int))
     rw[aeb];rfl
    | false =>
     rw[CJ]at h5;simp only[cond_false]at h5 ⊢;cases Em:((v0.getD b 0).toNat:Int)==92 with
     | false =>
      rw[Em]at h5;rw[cond_false,dT (show v2.length+[v0.getD b 0].length<=aA by rw[ms,aa8];omega),av];refine go (b+1) (v2++[v0.getD b 0]) (by omega) (by omega) (by rw[List.length_append,aa8];omega) ?_;rw[<- h5];cases hd:nW (v0.drop (b+1))with
      | none=>rfl
      | some q =>simp only[cond_false,BM,aji,abt,agI];rw[show(b:Int)+((q.2+1:Nat):Int)=((b+1:Nat):Int)+(q.2:Int) by omega]
     | true =>
      rw[Em]at h5;have h5:BM ((nW (v0.drop (b+1+1))).map fun q=>((bif(bif(((v0.getD (b+1) 0).toNat:Nat):Int)!=34 then(((v0.getD (b+1) 0).toNat:Nat):Int)!=92 else false)then[v0.getD b 0]else[])++v0.getD (b+1) 0::q.1,q.2+2)) v2 b=BM (Lj (v0.drop a)) [] a:=h5;have k3:bN v0 ((b+1:Nat):Int) ((b+2:Nat):Int)=true:=k2;have t3:cut v0 ((b+1:Nat):Int) ((b+2:Nat):Int)=[v0.getD (b+1) 0]:=t2;rw[cond_true,eT (show((b+1:Nat):Int)≠(v0.length:Int) by omega),cond_false,wS];refine⟨by omega,by omega,?_⟩;simp only[aaE,dT (show(0:Int)<=((b+1:Nat):Int) by omega),dT (show((b+1:Nat):Int)<(v0.length:Int) by omega),adM,ad5,av,k3,t3];rw[dT (show v2.length+[v0.getD b 0].length<=aA by rw[ms,aa8];omega),dT (show(v2++[v0.getD b 0]).length+[v0.getD (b+1) 0].length<=aA by rw[ms,List.length_append,aa8,aa8];omega),
       dT (show v2.length+[v0.getD (b+1) 0].length<=aA by rw[ms,aa8];omega)]
      simp only[av];cases hq:(bif((v0.getD (b+1) 0).toNat:Int)!=34 then((v0.getD (b+1) 0).toNat:Int)!=92 else false)with
      | true =>
       rw[hq]at h5;refine go (b+2) ((v2++[v0.getD b 0])++[v0.getD (b+1) 0]) (by omega) (by omega) (by simp only[List.length_append,aa8];omega) ?_;rw[<- h5,show b+1+1=b+2 by omega];cases hd:nW (v0.drop (b+2))with
       | none=>rfl
       | some q =>simp only[cond_true,BM,aji,abt,aeF,aei];rw[show(b:Int)+((q.2+2:Nat):Int)=((b+2:Nat):Int)+(q.2:Int) by omega]
      | false =>
       rw[hq]at h5;refine go (b+2) (v2++[v0.getD (b+1) 0]) (by omega) (by omega) (by simp only[List.length_append,aa8];omega) ?_;rw[<- h5,show b+1+1=b+2 by omega];cases hd:nW (v0.drop (b+2))with
       | none=>rfl
       | some q =>simp only[cond_false,BM,aji,abt,agI,aei];rw[show(b:Int)+((q.2+2:Nat):Int)=((b+2:Nat):Int)+(q.2:Int) by omega]
   ·have hl':b+1=v0.length:=by omega
    rw[drop_at hi,aa9 (show v0.length<=b+1 by omega),nW]at h5;cases CJ:((v0.getD b 0).toNat:Int)==34 with
    | true =>
     rw[CJ]at h5;rw[cond_true,<- h5];show(v2,((b+1:Nat):Int))=(v2++[],(b:Int)+((1:Nat):Int))
     rw[aeb];rfl
    | false =>
     rw[CJ]at h5;have h5:BM none v2 b=BM (Lj (v0.drop a)) [] a:=h5;simp only[cond_false];cases Em:((v0.getD b 0).toNat:Int)==92 with
     | true =>rw[cond_true,iU (show((b+1:Nat):Int)=(v0.length:Int) by omega),cond_true,<- h5];rfl
     | false =>rw[cond_false,dT (show v2.length+[v0.getD b 0].length<=aA by rw[ms,aa8];omega),av];refine go (b+1) (v2++[v0.getD b 0]) (by omega) (by omega) (by rw[List.length_append,aa8];omega) ?_;rw[<- h5,aa9 (show v0.length<=b+1 by omega)];rfl
  ·rw[aa9 (show v0.length<=b by omega)]at h5;rw[dF (show ¬ (b:Int)<(v0.length:Int) by omega),cond_false,<- h5];rfl
end
end Go.Proofs.YtclnniijooeajaaGreatDoor.Rf
