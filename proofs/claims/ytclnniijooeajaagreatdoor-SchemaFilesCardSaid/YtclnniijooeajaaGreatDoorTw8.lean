/- Part 8 of a proof: the texts Y5 Y6 Q1 Q2 Y7 Q3 Y8 Y9 Y10 Y11 Y12, one behind the other. -/
import Derived.Test.YtclnniijooeajaaGreatDoorTw1
import Derived.Test.YtclnniijooeajaaGreatDoorTw7
import Derived.Test.YtclnniijooeajaaGreatDoorTw5
import Derived.Lib.SplitLaws
noncomputable section
namespace Go.Proofs.YtclnniijooeajaaGreatDoor.Rf
open Go Go.RowKit Go.Sort Go.Proofs.YtclnniijooeajaaGreatDoor.bA
section
theorem ZH(i:Nat){n:Int}(h0:0<=n)(h1:n<=1099511627776):au (Int.tdiv n (bQ i:Int))=n / (bQ i:Int)/\0<=n / (bQ i:Int)/\n / (bQ i:Int)<=n/\(n / (bQ i:Int))*(bQ i:Int)=n-n%(bQ i:Int)/\0<=n%(bQ i:Int)/\n%(bQ i:Int)<=n/\((bQ i:Int)==0)=false:=by have hL:=abD i;have a1:=Int.ediv_nonneg h0 (show(0:Int)<=(bQ i:Int) by omega);have a2:=Int.ediv_le_self (bQ i:Int) h0;have a3:=Int.mul_ediv_add_emod n (bQ i:Int);have a4:=Int.emod_nonneg n (show(bQ i:Int)≠0 by omega);have a5:n / (bQ i:Int)*(bQ i:Int)=(bQ i:Int)*(n / (bQ i:Int)):=Int.mul_comm _ _;have a6:0<=(bQ i:Int)*(n / (bQ i:Int)):=Int.mul_nonneg (by omega) a1;refine⟨by rw[ae8 h0,aU (by omega) (by omega)],a1,a2,by omega,a4,by omega,dP (by omega)⟩
theorem axz(i:Nat):(Bc i).length<=2:=by unfold Bc;split<;>decide
theorem zero_mod(i:Nat){n:Int}(h:n / (bQ i:Int)=0):n%(bQ i:Int)=n:=by have:=Int.mul_ediv_add_emod n (bQ i:Int);rw[h,Int.mul_zero]at this;omega
theorem azH(n:Int)(i:Nat):(PY n i).length<=23:=by
 unfold PY;have:=rU (n / (bQ i:Int));have:=axz i;cases decide (0<n / (bQ i:Int))with
 | true=>rw[cond_true,List.length_append];omega
 | false=>exact aas _
theorem aqs(x:Int):Fg x=some (yV x):=by
 refine iY rfl (fun | .e y=>y=x | .h0 v0 v1 v2 v3 v4=>(0<=v0/\v0<=1099511627776)/\v3=[3600000,60000,1000,1]/\v4=[[104],[109],[115],[109,115]]/\∃i:Nat,v2=(i:Int)/\i<=4/\v1.length<=30*i/\v1++JC (4-i) i v0=yV x) (fun | .e _=>100 | .h0 _ _ v2 _ _=>(4-v2).toNat) rfl (by show 100<_;omega) ?_;rintro(y | ⟨v0,v1,v2,v3,v4⟩) hs
 ·have hs:y=x:=hs;subst hs;simp only[aM,bg,qM];unfold yV;cases hb:(bif decide (y<0)then true else decide ((1099511627776:Int)<y))with
  | true=>rfl
  | false =>
   have hx:0<=y/\y<=1099511627776:=by
    by_cases h3:y<0
    ·rw[dT h3]at hb;cases hb
    ·rw[dF h3,cond_false]at hb;have:=of_decide_eq_false hb;omega
   rw[cond_false,cond_false];cases hz:y==0 with
   | true=>rfl
   | false =>rw[cond_false,Yn,al6];exact⟨⟨hx,rfl,rfl,0,rfl,by decide,abH _,rfl⟩,by show(4-0:Int).toNat<100;decide⟩
 ·obtain⟨⟨h0,h1⟩,rfl,rfl,i,rfl,h4,hl,h5⟩:=hs;simp only[aM,bg,qM,aqr];by_cases hi:i<4
  ·have eL:([3600000,60000,1000,1]:List Int).getD i (dflt .int)=(bQ i:Int):=by
    have:i=0\/i=1\/i=2\/i=3:=by omega
    rcases this with rfl | rfl | rfl | rfl<;>rfl
   have eN:([[104],[109],[115],[109,115]]:List (anP)).getD i (dflt .str)=Bc i:=by
    have:i=0\/i=1\/i=2\/i=3:=by omega
    rcases this with rfl | rfl | rfl | rfl<;>rfl
   have k1:decide ((0:Int)<=(i:Int))=true:=dT (by omega);have n1:Nat.blt i ([3600000,60000,1000,1]:List Int).length=true:=by simp[Nat.blt];omega
   have n2:Nat.blt i ([[104],[109],[115],[109,115]]:List (anP)).length=true:=by simp[Nat.blt];omega
   obtain⟨a1,a2,a3,a4,a5,a6,a7⟩:=ZH i h0 h1;have hT:=rU (v0 / (bQ i:Int));have hn:=axz i;rw[show 4-i=(4-(i+1))+1 by omega,JC]at h5;unfold PY at h5;rw[dT (show(i:Int)<4 by omega)];simp only[k1,n1,n2,ak,cond_true,abW,eL,eN,a1,a7,aem,Int.tmod_eq_emod_of_nonneg h0,cO (show -9223372036854775808<=(i:Int)+1/\(i:Int)+1<=9223372036854775807 by omega),GU (v0 / (bQ i:Int)) (by omega),aG];rw[dT (show v1.length+(bq (v0 / (bQ i:Int))).length<=aA by rw[ms];omega),dT (show(v1++bq (v0 / (bQ i:Int))).length+(Bc i).length<=aA by rw[ms,List.length_append];omega),ak,ak];by_cases hk:0<v0 / (bQ i:Int)
   ·rw[dT hk,cond_true]at h5;rw[dT hk,cond_true];refine⟨⟨⟨a5,by omega⟩,trivial,trivial,i+1,rfl,by omega,?_,by rw[<- h5];simp only[abJ]⟩,?_⟩
    ·rw[List.length_append,List.length_append];omega
    ·show(4-((i:Int)+1)).toNat<(4-(i:Int)).toNat;omega
   ·rw[dF hk,cond_false,aeK]at h5;rw[dF hk,cond_false];refine⟨⟨⟨a5,by omega⟩,trivial,trivial,i+1,rfl,by omega,by omega,h5⟩,?_⟩;show(4-((i:Int)+1)).toNat<(4-(i:Int)).toNat;omega
  ·have:i=4:=by omega
   subst this;rw[dF (show ¬ (((4:Nat):Int)<4) by omega),cond_false];rw[<- h5];show v1=v1++[];rw[abR]
theorem Yo(c:Int):vk c=some (tq c):=dB rfl rfl
def CF(o:Option (anP×Nat))(out:anP)(a:Nat):anP×Int:=match o with
 | none=>([], -1)
 | some q=>(out++q.1,(a:Int)+(q.2:Int))
theorem VF{s:anP}{a:Nat}(h:a<s.length):cut s (a:Int) ((a+1:Nat):Int)=[s.getD a 0]/\bM s (a:Int) ((a+1:Nat):Int)=true:=by refine⟨?_,by simp[bM];omega⟩;unfold cut;rw[aam,aam,drop_at h,show a+1-a=1 by omega];rfl
def pcI(s:anP)(a:Nat):pR->Prop
 | .e y0 y1=>y0=s/\y1=(a:Int)
 | .h0 v0 v1 v2=>v0=s/\v1=(a:Int)/\∃i:Nat,v2=(i:Int)/\a+1<=i/\i<=s.length/\iO 39 (s.drop (a+1))+(a+1)=i+iO 39 (s.drop i)/\CF (bif decide (iO 39 (s.drop (a+1))<(s.drop (a+1)).length)then some ((s.drop (a+1)).take (iO 39 (s.drop (a+1))),iO 39 (s.drop (a+1))+2)else none) [] a=CF (Mh (s.drop a)) [] a
 | .h1 v0 v1 v2=>v0=s/\∃b:Nat,v1=(b:Int)/\b<=s.length/\v2.length<=b/\CF (ow (s.drop b)) v2 b=CF (Mh (s.drop a)) [] a
def pcM(s:anP):pR->Nat
 | .e _ _=>10000000000
 | .h0 _ _ v2=>((s.length:Int)-v2).toNat
 | .h1 _ v1 _=>((s.length:Int)-v1).toNat
theorem al8(s:anP)(hs:s.length<=1000000)(a:Nat)(ha:a<s.length):Dj s (a:Int)=some (CF (Mh (s.drop a)) [] a):=by
 refine iY rfl (pcI s a) (pcM s) ⟨rfl,rfl⟩ (by show 10000000000<_;omega) ?_;have e1:au ((a:Int)+1)=((a+1:Nat):Int):=by rw[aU (by omega) (by omega)];omega
 rintro(⟨y0,y1⟩ | ⟨v0,v1,v2⟩ | ⟨v0,v1,v2⟩) hs'
 ·obtain⟨rfl,rfl⟩:=hs';have e2:au ((a:Int)+2)=((a+2:Nat):Int):=by rw[aU (by omega) (by omega)];omega
  simp only[aM,bg,lS,e1,e2];rw[wS];refine⟨by omega,by omega,?_⟩;rw[aam];have hp:=drop_at ha;have hpc:Mh (y0.drop a)=bif(((y0.getD a 0).toNat:Int)==92)then(match y0.drop (a+1)with | []=>none | d::_=>some ([d],2))else bif(((y0.getD a 0).toNat:Int)==39)then(bif decide (iO 39 (y0.drop (a+1))<(y0.drop (a+1)).length)then some ((y0.drop (a+1)).take (iO 39 (y0.drop (a+1))),iO 39 (y0.drop (a+1))+2)else none)else bif(((y0.getD a 0).toNat:Int)!=34)then some ([y0.getD a 0],1)else(ow (y0.drop (a+1))).map fun q=>(q.1,q.2+1):=by rw[hp];rfl
  cases Fj:(((y0.getD a 0).toNat:Int)==92)with
  | true =>
   rw[Fj,cond_true]at hpc;rw[cond_true];by_cases hl:a+1=y0.length
   ·rw[iX (show((a+1:Nat):Int)=(y0.length:Int) by omega),cond_true,hpc,aa7 (show y0.length<=a+1 by omega)];rfl
   ·obtain⟨q1,q2⟩:=VF (show a+1<y0.length by omega);rw[dP (show((a+1:Nat):Int)≠(y0.length:Int) by omega),cond_false,q2,ak,q1,hpc,drop_at (show a+1<y0.length by omega)];rfl
  | false =>
   rw[Fj,cond_false]at hpc;rw[cond_false];cases h39:(((y0.getD a 0).toNat:Int)==39)with
   | true =>rw[h39,cond_true]at hpc;rw[cond_true];refine⟨⟨rfl,rfl,a+1,rfl,abH _,by omega,by omega,by rw[hpc]⟩,?_⟩;show((y0.length:Int)-((a+1:Nat):Int)).toNat<10000000000;omega
   | false =>
    rw[h39,cond_false]at hpc;rw[cond_false];cases Dz:(((y0.getD a 0).toNat:Int)!=34)with
    | true =>obtain⟨q1,q2⟩:=VF ha;rw[Dz,cond_true]at hpc;rw[cond_true,q2,ak,q1,hpc];rfl
    | false =>
     rw[Dz,cond_false]at hpc;rw[cond_false];refine⟨⟨rfl,a+1,rfl,by omega,aas _,?_⟩,?_⟩
     ·rw[hpc];cases ow (y0.drop (a+1))with
      | none=>rfl
      | some q=>simp only[CF,aiM,aeK];rw[show(a:Int)+((q.2+1:Nat):Int)=((a+1:Nat):Int)+(q.2:Int) by omega]
     ·show((y0.length:Int)-((a+1:Nat):Int)).toNat<10000000000;omega
 ·obtain⟨rfl,rfl,i,rfl,h2,h3,h4,h5⟩:=hs';simp only[aM,bg,lS,e1];by_cases hi:i<v0.length
  ·have e3:au ((i:Int)+1)=((i+1:Nat):Int):=by rw[aU (by omega) (by omega)];omega
   rw[dT (show(i:Int)<(v0.length:Int) by omega),cond_true,wS];refine⟨by omega,by omega,?_⟩;rw[aam,e3];rw[drop_at hi,iO]at h4;cases hc:((v0.getD i 0).toNat:Int)==39 with
   | true =>
    rw[hc,cond_true]at h4;have k:bM v0 ((a+1:Nat):Int) (i:Int)=true:=by simp[bM];omega
    rw[cond_true,k,ak,<- h5,dT (show iO 39 (v0.drop (a+1))<(v0.drop (a+1)).length by rw[abP];omega)];show(cut v0 ((a+1:Nat):Int) (i:Int),((i+1:Nat):Int))=([]++(v0.drop (a+1)).take (iO 39 (v0.drop (a+1))),(a:Int)+((iO 39 (v0.drop (a+1))+2:Nat):Int))
    unfold cut;rw[aam,aam,show i-(a+1)=iO 39 (v0.drop (a+1)) by omega,show((i+1:Nat):Int)=(a:Int)+((iO 39 (v0.drop (a+1))+2:Nat):Int) by omega];rfl
   | false =>rw[hc,cond_false]at h4;rw[cond_false];refine⟨⟨rfl,rfl,i+1,rfl,by omega,by omega,by omega,h5⟩,?_⟩;show((v0.length:Int)-((i+1:Nat):Int)).toNat<((v0.length:Int)-(i:Int)).toNat;omega
  ·rw[aa7 (show v0.length<=i by omega)]at h4;have h4:iO 39 (v0.drop (a+1))+(a+1)=i+0:=h4;rw[dF (show ¬ (i:Int)<(v0.length:Int) by omega),cond_false,<- h5,dF (show ¬ iO 39 (v0.drop (a+1))<(v0.drop (a+1)).length by rw[abP];omega)];rfl
 ·obtain⟨rfl,b,rfl,h3,h4,h5⟩:=hs';simp only[aM,bg,lS];by_cases hi:b<v0.length
  ·have e1:au ((b:Int)+1)=((b+1:Nat):Int):=by rw[aU (by omega) (by omega)];omega
   have e2:au (((b+1:Nat):Int)+1)=((b+2:Nat):Int):=by rw[aU (by omega) (by omega)];omega
   obtain⟨t1,k1⟩:=VF hi;have kb:fV v0 (b:Int)=true:=by simp[fV];omega
   rw[dT (show(b:Int)<(v0.length:Int) by omega),cond_true,wS];refine⟨by omega,by omega,?_⟩;rw[aam];simp only[e1,e2,t1,k1,kb,ak];have go:∀(c:Nat) (out:anP),c<=v0.length->b<c->out.length<=c->CF (ow (v0.drop c)) out c=CF (Mh (v0.drop a)) [] a->pcI v0 a (.h1 v0 (c:Int) out)/\pcM v0 (.h1 v0 (c:Int) out)<pcM v0 (.h1 v0 (b:Int) v2):=fun c out q1 q2 q3 q4=>⟨⟨rfl,c,rfl,q1,q3,q4⟩,by show((v0.length:Int)-(c:Int)).toNat<((v0.length:Int)-(b:Int)).toNat;omega⟩
   by_cases hl:b+1<v0.length
   ·obtain⟨t2,k2⟩:=VF hl;rw[drop_at hi,drop_at hl,ow,<- drop_at hl]at h5;cases Dz:((v0.getD b 0).toNat:Int)==34 with
    | true =>
     rw[Dz]at h5;rw[cond_true,<- h5];show(v2,((b+1:Nat):Int))=(v2++[],(b:Int)+((1:Nat):Int))
     rw[abR];rfl
    | false =>
     rw[Dz]at h5;simp only[cond_false]at h5 ⊢;cases Fj:((v0.getD b 0).toNat:Int)==92 with
     | false =>
      rw[Fj]at h5;rw[cond_false,dT (show v2.length+[v0.getD b 0].length<=aA by rw[ms,aay];omega),ak];refine go (b+1) (v2++[v0.getD b 0]) (by omega) (by omega) (by rw[List.length_append,aay];omega) ?_;rw[<- h5];cases hd:ow (v0.drop (b+1))with
      | none=>rfl
      | some q =>simp only[cond_false,CF,aiM,abJ,afa];rw[show(b:Int)+((q.2+1:Nat):Int)=((b+1:Nat):Int)+(q.2:Int) by omega]
     | true =>
      rw[Fj]at h5;have h5:CF ((ow (v0.drop (b+1+1))).map fun q=>((bif(bif(((v0.getD (b+1) 0).toNat:Nat):Int)!=34 then(((v0.getD (b+1) 0).toNat:Nat):Int)!=92 else false)then[v0.getD b 0]else[])++v0.getD (b+1) 0::q.1,q.2+2)) v2 b=CF (Mh (v0.drop a)) [] a:=h5;have k3:bM v0 ((b+1:Nat):Int) ((b+2:Nat):Int)=true:=k2;have t3:cut v0 ((b+1:Nat):Int) ((b+2:Nat):Int)=[v0.getD (b+1) 0]:=t2;rw[cond_true,dP (show((b+1:Nat):Int)≠(v0.length:Int) by omega),cond_false,wS];refine⟨by omega,by omega,?_⟩;simp only[aam,dT (show(0:Int)<=((b+1:Nat):Int) by omega),dT (show((b+1:Nat):Int)<(v0.length:Int) by omega),abW,abZ,ak,k3,t3];rw[dT (show v2.length+[v0.getD b 0].length<=aA by rw[ms,aay];omega),dT (show(v2++[v0.getD b 0]).length+[v0.getD (b+1) 0].length<=aA by rw[ms,List.length_append,aay,aay];omega),
       dT (show v2.length+[v0.getD (b+1) 0].length<=aA by rw[ms,aay];omega)]
      simp only[ak];cases hq:(bif((v0.getD (b+1) 0).toNat:Int)!=34 then((v0.getD (b+1) 0).toNat:Int)!=92 else false)with
      | true =>
       rw[hq]at h5;refine go (b+2) ((v2++[v0.getD b 0])++[v0.getD (b+1) 0]) (by omega) (by omega) (by simp only[List.length_append,aay];omega) ?_;rw[<- h5,show b+1+1=b+2 by omega];cases hd:ow (v0.drop (b+2))with
       | none=>rfl
       | some q =>simp only[cond_true,CF,aiM,abJ,ae0,aeK];rw[show(b:Int)+((q.2+2:Nat):Int)=((b+2:Nat):Int)+(q.2:Int) by omega]
      | false =>
       rw[hq]at h5;refine go (b+2) (v2++[v0.getD (b+1) 0]) (by omega) (by omega) (by simp only[List.length_append,aay];omega) ?_;rw[<- h5,show b+1+1=b+2 by omega];cases hd:ow (v0.drop (b+2))with
       | none=>rfl
       | some q =>simp only[cond_false,CF,aiM,abJ,afa,aeK];rw[show(b:Int)+((q.2+2:Nat):Int)=((b+2:Nat):Int)+(q.2:Int) by omega]
   ·have hl':b+1=v0.length:=by omega
    rw[drop_at hi,aa7 (show v0.length<=b+1 by omega),ow]at h5;cases Dz:((v0.getD b 0).toNat:Int)==34 with
    | true =>
     rw[Dz]at h5;rw[cond_true,<- h5];show(v2,((b+1:Nat):Int))=(v2++[],(b:Int)+((1:Nat):Int))
     rw[abR];rfl
    | false =>
     rw[Dz]at h5;have h5:CF none v2 b=CF (Mh (v0.drop a)) [] a:=h5;simp only[cond_false];cases Fj:((v0.getD b 0).toNat:Int)==92 with
     | true =>rw[cond_true,iX (show((b+1:Nat):Int)=(v0.length:Int) by omega),cond_true,<- h5];rfl
     | false =>rw[cond_false,dT (show v2.length+[v0.getD b 0].length<=aA by rw[ms,aay];omega),ak];refine go (b+1) (v2++[v0.getD b 0]) (by omega) (by omega) (by rw[List.length_append,aay];omega) ?_;rw[<- h5,aa7 (show v0.length<=b+1 by omega)];rfl
  ·rw[aa7 (show v0.length<=b by omega)]at h5;rw[dF (show ¬ (b:Int)<(v0.length:Int) by omega),cond_false,<- h5];rfl
end
section
abbrev spR(s:anP):List (anP)×Int:=(Vv (qz s),adu (qz s))
def swI(s:anP):pU->Prop
 | .e y=>y=s
 | .h0 v0 v1 v2 v3=>v0=s/\v1=v3.length/\∃i n:Nat,v2=(i:Int)/\i<=s.length/\s.length-i<n/\v3.length<=2*i+1/\ku n (s.drop i) [] false v3=qz s
 | .h1 v0 _ v2 v3 v4=>v0=s/\∃(i n:Nat) (b:Bool),v2=(i:Int)/\i<=s.length/\s.length-i<n/\v4.length<=2*i+1/\(b=true->v4.length<=2*i)/\v3.length<=i/\(b=true\/i<s.length/\tq (((s.getD i 0).toNat:Nat):Int)=false)/\ku n (s.drop i) v3 b v4=qz s
def swM(s:anP):pU->Nat
 | .e _=>10000000000
 | .h0 _ _ v2 _=>3*((s.length:Int)-v2).toNat+2
 | .h1 _ _ v2 _ _=>3*((s.length:Int)-v2).toNat+(bif(bif decide (v2<(s.length:Int))then !(tq (((s.getD v2.toNat 0).toNat:Nat):Int))else false)then 1 else 3)
theorem al9(s:anP)(hs:s.length<=1000000):vo s=some (spR s):=by
 refine iY rfl (swI s) (swM s) rfl (by show 10000000000<_;omega) ?_;rintro(y | ⟨v0,v1,v2,v3⟩ | ⟨v0,v1,v2,v3,v4⟩) hs'
 ·have hs':y=s:=hs';subst hs';refine⟨⟨rfl,rfl,0,y.length+1,rfl,aas _,by omega,by decide,rfl⟩,?_⟩;show 3*((y.length:Int)-0).toNat+2<10000000000;omega
 ·obtain⟨rfl,rfl,i,n,rfl,h1,h2,h3,h4⟩:=hs';obtain⟨n,rfl⟩:∃m,n=m+1:=⟨n-1,by omega⟩
  simp only[aM,bg,pV,Yo,aG];by_cases hi:i<v0.length
  ·have e1:au ((i:Int)+1)=((i+1:Nat):Int):=by rw[aU (by omega) (by omega)];omega
   rw[dT (show(i:Int)<(v0.length:Int) by omega),cond_true,wS];refine⟨by omega,by omega,?_⟩;rw[aam,e1];cases hb:tq (((v0.getD i 0).toNat:Nat):Int)with
   | true =>rw[Jg hi hb]at h4;rw[cond_true];refine⟨⟨rfl,rfl,i+1,n,rfl,by omega,by omega,by omega,h4⟩,?_⟩;show 3*((v0.length:Int)-((i+1:Nat):Int)).toNat+2<3*((v0.length:Int)-(i:Int)).toNat+2;omega
   | false =>rw[cond_false];refine⟨⟨rfl,i,n+1,false,rfl,h1,h2,h3,(fun h=>by cases h),aas _,.inr ⟨hi,hb⟩,h4⟩,?_⟩;show 3*((v0.length:Int)-(i:Int)).toNat+(bif(bif decide ((i:Int)<(v0.length:Int))then !(tq (((v0.getD (i:Int).toNat 0).toNat:Nat):Int))else false)then 1 else 3)<3*((v0.length:Int)-(i:Int)).toNat+2;rw[dT (show(i:Int)<(v0.length:Int) by omega),aam,hb];show _+1<_;omega
  ·rw[Nv (by omega)]at h4;rw[dF (show ¬ (i:Int)<(v0.length:Int) by omega),cond_false];unfold spR;rw[<- h4];simp only[Vv,adu,cond_false];cases decide ((32:Int)<(v3.length:Int))<;>rfl
 ·obtain⟨rfl,i,n,b,rfl,h1,h2,h3,h3b,h4,h5,h6⟩:=hs';obtain⟨n,rfl⟩:∃m,n=m+1:=⟨n-1,by omega⟩
  simp only[aM,bg,pV,Yo,aeL,abZ,ak,dS,aam];have kk:((decide ((0:Int)<=(i:Int))&&decide ((i:Int)<(v0.length:Int))) || !(decide ((i:Int)<(v0.length:Int))))=true:=(ckD i v0 false).2;rw[kk,ak];have back:(b=true->ku n (v0.drop (i+1)) [] false (v4++[v3])=qz v0/\i<v0.length/\tq (((v0.getD i 0).toNat:Nat):Int)=true\/¬ i<v0.length)->b=true->(ku (n+1) (v0.drop i) [] false (v4++[v3])=qz v0)->(swI v0 (.h0 v0 (v4.length+([v3]:List (anP)).length) (i:Int) (v4++[v3]))):=fun _ hb hq=>⟨rfl,by rw[List.length_append],i,n+1,rfl,h1,h2,by rw[List.length_append,aay];have:=h3b hb;omega,hq⟩
  have hm:∀b',(bif(bif decide ((i:Int)<(v0.length:Int))then !(tq (((v0.getD (i:Int).toNat 0).toNat:Nat):Int))else false)then 1 else 3)=b'->swM v0 (.h1 v0 v1 (i:Int) v3 v4)=3*((v0.length:Int)-(i:Int)).toNat+b':=fun b' e=>by rw[<- e];rfl
  by_cases hi:i<v0.length
  ·have hd:=dT (show(i:Int)<(v0.length:Int) by omega);cases hb:tq (((v0.getD i 0).toNat:Nat):Int)with
   | true =>
    have hbt:b=true:=by
     rcases h5 with h | ⟨_,h⟩
     ·exact h
     ·rw[hb]at h;cases h
    subst hbt;have hm3:=hm 3 (by rw[hd,aam,hb];rfl);rw[Jg hi hb]at h6;have h6:ku n (v0.drop (i+1)) [] false (v4++[v3])=qz v0:=h6;rw[hd,cond_true,abI,cond_false,dT (show(v4.length+([v3]:List (anP)).length)*16<=aB by rw[mb,aay];have:=h3b rfl;omega),ak];refine⟨back (fun _=>.inl ⟨h6,hi,hb⟩) rfl (by rw[Jg hi hb];exact h6),?_⟩;rw[hm3];show 3*((v0.length:Int)-(i:Int)).toNat+2<_;omega
   | false =>
    have hm1:=hm 1 (by rw[hd,aam,hb];rfl);rw[Yk hi hb]at h6;rw[hd,cond_true,aem,cond_true,al8 v0 hs i hi];simp only[aG];cases hq:Mh (v0.drop i)with
    | none =>rw[hq]at h6;have h6:none=qz v0:=h6;show(([]:List (anP)),(3:Int))=spR v0;unfold spR;rw[<- h6];rfl
    | some q =>
     rw[hq]at h6;have h6:ku n (v0.drop (i+q.2)) (v3++q.1) true v4=qz v0:=h6;obtain⟨q1,q2,q3⟩:=as2 hq;rw[abP]at q1;have ep:CF (some q) [] i=(q.1,((i+q.2:Nat):Int)):=by show(([]:anP)++q.1,(i:Int)+(q.2:Int))=_;rw[aeK,show(i:Int)+(q.2:Int)=((i+q.2:Nat):Int) by omega]
     rw[ep];dsimp only;rw[dF (show ¬ ((i+q.2:Nat):Int)<0 by omega),cond_false,dT (show v3.length+q.1.length<=aA by rw[ms];omega),ak];refine⟨⟨rfl,i+q.2,n,true,rfl,by omega,by omega,by omega,fun _=>by omega,by rw[List.length_append];omega,.inl rfl,h6⟩,?_⟩;rw[hm1];show 3*((v0.length:Int)-((i+q.2:Nat):Int)).toNat+(bif _ then 1 else 3)<_;generalize (bif decide (((i+q.2:Nat):Int)<(v0.length:Int))then !(tq (((v0.getD ((i+q.2:Nat):Int).toNat 0).toNat:Nat):Int))else false)=bb;cases bb<;>simp only[cond_true,cond_false]<;>omega
  ·have hd:=dF (show ¬ (i:Int)<(v0.length:Int) by omega);have hbt:b=true:=by
    rcases h5 with h | ⟨h,_⟩
    ·exact h
    ·exact absurd h hi
   subst hbt;have hm3:=hm 3 (by rw[hd];rfl);rw[Nv (by omega)]at h6;rw[hd,cond_false,cond_false,dT (show(v4.length+([v3]:List (anP)).length)*16<=aB by rw[mb,aay];have:=h3b rfl;omega),ak];refine⟨back (fun _=>.inr hi) rfl (by rw[Nv (by omega)];exact h6),?_⟩;rw[hm3];show 3*((v0.length:Int)-(i:Int)).toNat+2<_;omega
def baI(s:anP):qI->Prop
 | .e y=>y=s
 | .h0 v0 v1 v2=>v0=s/\v1=KP/\∃i:Nat,v2=(i:Int)/\i<=s.length/\(((s.drop i).all fun c=>okC ((c.toNat:Nat):Int)) && !(s==[]))=Ac s
 | .h1 v0 v1 v2 v3 v4 v5=>v0=s/\v1=KP/\∃i k:Nat,v2=(i:Int)/\i<s.length/\v5=(k:Int)/\k<=10/\(v4||((KP.drop k).any fun m=>((m.toNat:Nat):Int)==v3))=okC (((s.getD i 0).toNat:Nat):Int)/\(((s.drop i).all fun c=>okC ((c.toNat:Nat):Int)) && !(s==[]))=Ac s
def baM(s:anP):qI->Nat
 | .e _=>1000000000000
 | .h0 _ _ v2=>100*((s.length:Int)-v2).toNat+50
 | .h1 _ _ v2 _ _ v5=>100*((s.length:Int)-v2).toNat+(10-v5).toNat
theorem aqt(s:anP)(hs:s.length<=1000000):xq s=some (Ac s):=by
 refine iY rfl (baI s) (baM s) rfl (by show 1000000000000<_;omega) ?_;rintro(y | ⟨v0,v1,v2⟩ | ⟨v0,v1,v2,v3,v4,v5⟩) hs'
 ·have hs':y=s:=hs';subst hs';refine⟨⟨rfl,rfl,0,rfl,aas _,rfl⟩,?_⟩;show 100*((y.length:Int)-0).toNat+50<1000000000000;omega
 ·obtain⟨rfl,rfl,i,rfl,h1,h2⟩:=hs';simp only[aM,bg,qJ];by_cases hi:i<v0.length
  ·rw[dT (show(i:Int)<(v0.length:Int) by omega),cond_true,wS];refine⟨by omega,by omega,?_⟩;rw[aam];refine⟨⟨rfl,rfl,i,0,rfl,hi,rfl,by decide,rfl,h2⟩,?_⟩;show 100*((v0.length:Int)-(i:Int)).toNat+(10-0:Int).toNat<100*((v0.length:Int)-(i:Int)).toNat+50;have:(10-0:Int).toNat=10:=rfl;omega
  ·rw[aa7 (show v0.length<=i by omega),List.all_nil,aeP]at h2;rw[dF (show ¬ (i:Int)<(v0.length:Int) by omega),cond_false,<- h2];cases v0 with
   | nil=>rfl
   | cons c t=>rw[dT (by simp only[List.length_cons];omega)];rfl
 ·obtain⟨rfl,rfl,i,k,rfl,hi,rfl,hk,h3,h4⟩:=hs';simp only[aM,bg,qJ];have e1:au ((k:Int)+1)=((k+1:Nat):Int):=by rw[aU (by omega) (by omega)];omega
  have e2:au ((i:Int)+1)=((i+1:Nat):Int):=by rw[aU (by omega) (by omega)];omega
  rw[e1,e2];by_cases hk2:k<10
  ·have hk3:k<KP.length:=hk2;rw[dT (show(k:Int)<(KP.length:Int) by omega),cond_true,dT (show(0:Int)<=(k:Int) by omega),abW,abZ,ak,aam];refine⟨⟨rfl,rfl,i,k+1,rfl,hi,rfl,by omega,?_,h4⟩,?_⟩
   ·rw[<- h3,drop_at hk3,aj3];cases v4<;>rfl
   ·show 100*((v0.length:Int)-(i:Int)).toNat+(10-((k+1:Nat):Int)).toNat<100*((v0.length:Int)-(i:Int)).toNat+(10-(k:Int)).toNat;omega
  ·rw[aa7 (show KP.length<=k by show 10<=k;omega),List.any_nil,Bool.or_false]at h3;rw[dF (show ¬ (k:Int)<(KP.length:Int) by show ¬ (k:Int)<10;omega),cond_false];rw[drop_at hi,aeQ,<- h3]at h4;cases v4 with
   | false=>exact h4
   | true =>rw[aeP]at h4;rw[abI,cond_false];refine⟨⟨rfl,rfl,i+1,rfl,by omega,h4⟩,?_⟩;show 100*((v0.length:Int)-((i+1:Nat):Int)).toNat+50<100*((v0.length:Int)-(i:Int)).toNat+(10-(k:Int)).toNat;omega
theorem aB6{s:anP}:(JD s).length<=5*s.length+2:=by
 unfold JD;cases Ac s with
 | true=>rw[cond_true];omega
 | false =>have h:=aio 39 [39,92,39,39] s;have hc:Lib.countByte s 39<=s.length:=List.count_le_length;rw[cond_false,List.length_append,List.length_append];simp only[List.length_cons,List.length_nil]at h ⊢;omega
def VG(l:List (anP)):anP:=l.flatMap fun x=>32::JD x
theorem W9(x:anP):∀t:List (anP),Mc (x::t)=JD x++VG t
 | []=>by simp[Mc,Lib.join,List.intercalate,VG]
 | y::t=>by
  have ih:=W9 y t;have e:Mc (x::y::t)=JD x++[32]++Mc (y::t):=by simp[Mc,Lib.join,List.intercalate]
  rw[e,ih];simp[VG]
def Hf(c:UInt8):anP:=bif(((c.toNat:Nat):Int)==39)then[39,92,39,39]else[c]
theorem ajW:∀s:anP,qV 39 [39,92,39,39] s=s.flatMap Hf
 | []=>rfl
 | c::t=>by
  rw[Jv,List.flatMap_cons,ajW t];unfold Hf;by_cases h:c=39
  ·subst h;rfl
  ·rw[if_neg (by simpa using h),dP (show((c.toNat:Nat):Int)≠39 from fun e=>h (UInt8.toNat_inj.1 (show c.toNat=39 by omega)))];rfl
theorem ajX:∀t:anP,(t.flatMap Hf).length<=4*t.length
 | []=>abH _
 | c::t=>by
  have ih:=ajX t;have:(Hf c).length<=4:=by unfold Hf;cases(((c.toNat:Nat):Int)==39)<;>simp
  rw[List.flatMap_cons,List.length_append,List.length_cons];omega
def wjI(l:List (anP)):qK->Prop
 | .e y=>y=l
 | .h0 v0 v1 v2=>v0=l/\∃i:Nat,v2=(i:Int)/\i<=l.length/\v1.length<=i*60000/\Mc l=v1++(bif decide (0<i)then VG (l.drop i)else Mc (l.drop i))
 | .h1 v0 v1 v2 v3=>v0=l/\∃(i k:Nat) (o0:anP),v2=(i:Int)/\i<l.length/\v3=(k:Int)/\k<=(l.getD i []).length/\o0.length<=i*60000+2/\v1=o0++((l.getD i []).take k).flatMap Hf/\Mc l=((o0++(l.getD i []).flatMap Hf)++[39])++VG (l.drop (i+1))
def Yp(l:List (anP)):qK->Nat
 | .e _=>1000000000000
 | .h0 _ _ v2=>100000*((l.length:Int)-v2).toNat+99999
 | .h1 _ _ v2 v3=>100000*((l.length:Int)-v2).toNat+((l.getD v2.toNat []).length-v3.toNat)
theorem aqu(l:List (anP))(hl:l.length<=1000)(hx:∀x∈l,x.length<=10000):Fb l=some (Mc l):=by
 refine iY rfl (wjI l) (Yp l) rfl (by show 1000000000000<_;omega) ?_;rintro(y | ⟨v0,v1,v2⟩ | ⟨v0,v1,v2,v3⟩) hs'
 ·have hs':y=l:=hs';subst hs';refine⟨⟨rfl,0,rfl,aas _,aas _,rfl⟩,?_⟩;show 100000*((y.length:Int)-0).toNat+99999<1000000000000;omega
 ·obtain⟨rfl,i,rfl,h1,h2,h3⟩:=hs';simp only[aM,bg,qL];by_cases hi:i<v0.length
  ·have e1:au ((i:Int)+1)=((i+1:Nat):Int):=by rw[aU (by omega) (by omega)];omega
   have hxi:=hx _ (aeC hi);have hg:v0.getD i (Df.d:anP)=v0[i]:=by rw[List.getD,aac hi];rfl
   have hg2:v0.getD i []=v0[i]:=hg;have hdr:v0.drop i=v0[i]::v0.drop (i+1):=(aa8 hi).symm;rw[hdr]at h3;have kb:fV v0 (i:Int)=true:=by simp[fV];omega
   rw[dT (show(i:Int)<(v0.length:Int) by omega),cond_true];have hq:=aB6 (s:=v0[i]);generalize v0[i]=x at *;have hb:=aqt x (by omega);have toNext:∀o:anP,o=(v1++(bif decide (0<i)then[32]else[]))++JD x->wjI v0 (.h0 v0 o ((i+1:Nat):Int))/\Yp v0 (.h0 v0 o ((i+1:Nat):Int))<Yp v0 (.h0 v0 v1 (i:Int)):=fun o ho=>by
    refine⟨⟨rfl,i+1,rfl,by omega,?_,?_⟩,?_⟩
    ·rw[ho,List.length_append,List.length_append];cases decide (0<i)<;>simp only[cond_true,cond_false,List.length_cons,List.length_nil]<;>omega
    ·rw[h3,ho,dT (show 0<i+1 by omega),cond_true];cases decide (0<i)with
     | true =>unfold VG;rw[cond_true,cond_true,List.flatMap_cons];simp only[abJ,ae0,aeK]
     | false=>rw[cond_false,cond_false,abR,W9,abJ]
    ·show 100000*((v0.length:Int)-((i+1:Nat):Int)).toNat+99999<100000*((v0.length:Int)-(i:Int)).toNat+99999;omega
   have toIn:∀o:anP,o=(v1++(bif decide (0<i)then[32]else[]))++[39]->Ac x=false->wjI v0 (.h1 v0 o (i:Int) 0)/\Yp v0 (.h1 v0 o (i:Int) 0)<Yp v0 (.h0 v0 v1 (i:Int)):=fun o ho hbb=>by
    refine⟨⟨rfl,i,0,o,rfl,hi,rfl,aas _,?_,?_,?_⟩,?_⟩
    ·rw[ho,List.length_append,List.length_append];cases decide (0<i)<;>simp only[cond_true,cond_false,List.length_cons,List.length_nil]<;>omega
    ·rw[List.take_zero,List.flatMap_nil,abR]
    ·rw[h3,ho,hg2,<- ajW];have hqt:JD x=[39]++qV 39 [39,92,39,39] x++[39]:=by unfold JD;rw[hbb];rfl
     cases decide (0<i)with
     | true =>unfold VG;rw[cond_true,cond_true,List.flatMap_cons,hqt];simp only[abJ,ae0,aeK]
     | false =>rw[cond_false,cond_false,abR,W9,hqt];simp only[abJ]
    ·simp only[Yp,aam,hg2,Int.toNat_zero];omega
   have hdec:decide ((0:Int)<(i:Int))=decide (0<i):=decide_eq_decide.2 (by omega);have hqb:Ac x=true->JD x=x:=fun h=>by unfold JD;rw[h];rfl
   rw[hdec,dT (show v1.length+([32]:anP).length<=aA by rw[ms,aay];omega),ak];cases hd:decide (0<i)with
   | true =>
    rw[hd]at toNext toIn;rw[cond_true,wI];refine⟨by omega,by omega,?_⟩;rw[aam,hg,hb];simp only[aG,kb,ak,e1];rw[dT (show(v1++([32]:anP)).length+x.length<=aA by rw[ms,List.length_append,aay];omega),dT (show(v1++([32]:anP)).length+([39]:anP).length<=aA by rw[ms,List.length_append,aay,aay];omega),ak,ak];cases hbb:Ac x with
    | true=>rw[cond_true];exact toNext _ (by rw[hqb hbb];rfl)
    | false=>rw[cond_false];exact toIn _ rfl hbb
   | false =>
    rw[hd]at toNext toIn;rw[cond_false,wI];refine⟨by omega,by omega,?_⟩;rw[aam,hg,hb];simp only[aG,kb,ak,e1];rw[dT (show v1.length+x.length<=aA by rw[ms];omega),dT (show v1.length+([39]:anP).length<=aA by rw[ms,aay];omega),ak,ak];cases hbb:Ac x with
    | true=>rw[cond_true];exact toNext _ (by rw[hqb hbb,cond_false,abR])
    | false=>rw[cond_false];exact toIn _ (by rw[cond_false,abR]) hbb
  ·rw[aa7 (show v0.length<=i by omega)]at h3;have h3:Mc v0=v1:=by
    rw[h3];cases decide (0<i)<;>exact abR _
   rw[dF (show ¬ (i:Int)<(v0.length:Int) by omega),cond_false];exact h3.symm
 ·obtain⟨rfl,i,k,o0,rfl,hi,rfl,hk,ho,rfl,h3⟩:=hs';simp only[aM,bg,qL];have hxi:=hx _ (aeC hi);have hg:v0.getD i (Df.d:anP)=v0[i]:=by rw[List.getD,aac hi];rfl
  have hg2:v0.getD i []=v0[i]:=hg;have kb:fV v0 (i:Int)=true:=by simp[fV];omega
  have e1:au ((i:Int)+1)=((i+1:Nat):Int):=by rw[aU (by omega) (by omega)];omega
  rw[wI];refine⟨by omega,by omega,?_⟩;rw[aam,hg];rw[hg2]at hk h3 ⊢;generalize hxx:v0[i]=x at *;have e2:au ((k:Int)+1)=((k+1:Nat):Int):=by rw[aU (by omega) (by omega)];omega
  have hl2:=ajX (x.take k);have ht:(x.take k).length<=x.length:=by rw[aeb];omega
  have hol:(o0++(x.take k).flatMap Hf).length<=1000040000:=by rw[List.length_append];omega
  by_cases hk2:k<x.length
  ·obtain⟨t1,k1⟩:=VF hk2;have next:wjI v0 (.h1 v0 ((o0++(x.take k).flatMap Hf)++Hf (x.getD k 0)) (i:Int) ((k+1:Nat):Int))/\Yp v0 (.h1 v0 ((o0++(x.take k).flatMap Hf)++Hf (x.getD k 0)) (i:Int) ((k+1:Nat):Int))<Yp v0 (.h1 v0 (o0++(x.take k).flatMap Hf) (i:Int) (k:Int)):=by
    refine⟨⟨rfl,i,k+1,o0,rfl,hi,rfl,by rw[hg2];omega,ho,?_,by rw[hg2];exact h3⟩,?_⟩
    ·rw[hg2,ag8 hk2,List.flatMap_append,abJ];have:x.getD k 0=x[k]:=by rw[List.getD,aac hk2];rfl
     rw[this,List.flatMap_cons,List.flatMap_nil,abR]
    ·simp only[Yp,aam,hg2];omega
   rw[dT (show(k:Int)<(x.length:Int) by omega),cond_true,kb,ak,wS];refine⟨by omega,by omega,?_⟩;rw[aam,e2];simp only[t1,k1,ak];rw[dT (show(o0++(x.take k).flatMap Hf).length+([39,92,39]:anP).length<=aA by rw[ms];simp only[List.length_cons,List.length_nil];omega),dT (show((o0++(x.take k).flatMap Hf)++([39,92,39]:anP)).length+[x.getD k 0].length<=aA by rw[ms,List.length_append];simp only[List.length_cons,List.length_nil];omega),
    dT (show(o0++(x.take k).flatMap Hf).length+[x.getD k 0].length<=aA by rw[ms,aay];omega)]
   simp only[ak];unfold Hf at next;cases hc:((x.getD k 0).toNat:Int)==39 with
   | true =>rw[hc]at next;have h39:x.getD k 0=39:=UInt8.toNat_inj.1 (by show(x.getD k 0).toNat=39;have:=eq_of_beq hc;omega);rw[cond_true,h39,abJ _ [39,92,39] [39]];exact next
   | false=>rw[hc]at next;exact next
  ·rw[dF (show ¬ (k:Int)<(x.length:Int) by omega),cond_false,dT (show(o0++(x.take k).flatMap Hf).length+([39]:anP).length<=aA by rw[ms,aay];omega),ak,e1];rw[aeM (show x.length<=k by omega)]at hl2 ⊢;refine⟨⟨rfl,i+1,rfl,by omega,?_,by rw[dT (show 0<i+1 by omega),cond_true];exact h3⟩,?_⟩
   ·rw[List.length_append,List.length_append,aay];omega
   ·simp only[Yp,aam,hg2];omega
end
def GV(w:anP):List (anP)->List (anP)
 | h::t=>(w++h)::t
 | []=>[w]
def bV(c:UInt8):anP->List (anP)
 | []=>[[]]
 | a::r=>bif a==c then[]::bV c r else GV [a] (bV c r)
theorem o7(c:UInt8)(s:anP):bV c s≠[]:=by
 cases s with
 | nil=>simp[bV]
 | cons a r =>
  unfold bV;cases a==c with
  | true=>simp
  | false=>rw[cond_false];unfold GV;split<;>simp
theorem RZ{l:List (anP)}(h:l≠[]):GV [] l=l:=by
 cases l with
 | nil=>exact absurd rfl h
 | cons a t=>rfl
theorem ajY(a b:anP)(l:List (anP)):GV a (GV b l)=GV (a++b) l:=by cases l<;>simp[GV]
theorem av3(a:anP){l:List (anP)}(h:l≠[]):(GV a l).length=l.length:=by
 cases l with
 | nil=>exact absurd rfl h
 | cons b t=>rfl
theorem ajZ(c:UInt8):∀r:anP,Lib.indexByte r c ≠ -1->0<r.count c
 | [],h=>absurd rfl h
 | b::l,h=>by
  unfold Lib.indexByte at h;by_cases e:b=c
  ·subst e;simp
  ·rw[if_neg (by simpa using e)]at h;have:Lib.indexByte l c ≠ -1:=fun e=>by rw[e]at h;exact h rfl
   have:=ajZ c l this;rw[List.count_cons];omega
theorem VH(c:UInt8):∀(s:anP) (k:Nat),s.count c<=k->Lib.splitK [c] 0 k s=bV c s
 | [],k,_=>by cases k<;>rfl
 | a::r,k,h=>by
  unfold bV;by_cases e:a=c
  ·subst e;rw[List.count_cons_self]at h;obtain⟨k,rfl⟩:∃m,k=m+1:=⟨k-1,by omega⟩
   have hi:Lib.index (a::r) [a]=0:=by rw[Lib.index_one];unfold Lib.indexByte;simp
   unfold Lib.splitK;rw[hi,show((0:Int) == -1)=false from rfl,show(a==a)=true by simp,cond_true];have ih:=VH a r k (by omega);simpa using ih
  ·have he:(a==c)=false:=by simpa using e
   rw[he,cond_false];rw[List.count_cons_of_ne e]at h;have ih:=VH c r k h;have hx:Lib.index (a::r) [c]=if Lib.indexByte r c == -1 then -1 else Lib.indexByte r c+1:=by
    rw[Lib.index_one]
    conv=>lhs;unfold Lib.indexByte
    rw[he];rfl
   have hr:Lib.index r [c]=Lib.indexByte r c:=Lib.index_one r c;cases k with
   | zero =>
    have h1:Lib.indexByte r c = -1:=by
     by_cases q:Lib.indexByte r c = -1
     ·exact q
     ·have:=ajZ c r q;omega
    rw[<- ih];rfl
   | succ k =>
    rw[<- ih];have hg:=Lib.indexByte_ge r c;unfold Lib.splitK;rw[hx,hr];by_cases q:Lib.indexByte r c = -1
    ·rw[q];rfl
    ·have q1:(Lib.indexByte r c == -1)=false:=by simpa using q
     have q3:(Lib.indexByte r c+1 == -1)=false:=by simp only[afb];omega
     have q2:(Lib.indexByte r c+1).toNat=(Lib.indexByte r c).toNat+1:=by omega
     simp[q1,q3,q2,GV]
theorem zB(s:anP)(c:UInt8)(a b:Int):eT s [c] a b=bV c s:=by show Lib.splitK [c] 0 (Lib.count s [c]) s=_;rw[Lib.count_one];exact VH c s _ (abH _)
theorem aj0:∀s:anP,sM s=bV 47 s
 | []=>rfl
 | c::r=>by
  have e:bV 47 (c::r)=bif c==47 then[]::bV 47 r else GV [c] (bV 47 r):=rfl
  rw[UW,aj0 r,e];generalize bV 47 r=l;cases l<;>rfl
theorem zC(c:UInt8):∀{s:anP},c∉s->bV c s=[s]
 | [],_=>rfl
 | a::r,h=>by
  unfold bV;have e:(a==c)=false:=by simpa using fun e:a=c=>h (by rw[e];exact aa1)
  rw[e,cond_false,zC c fun hm=>h (aa6 _ hm)];rfl
theorem Ii(c:UInt8):∀{a:anP} (b:anP),c∉a->bV c (a++c::b)=a::bV c b
 | [],b,_=>by
  show bV c (c::b)=_
  conv=>lhs;unfold bV
  rw[show(c==c)=true by simp];rfl
 | x::a,b,h=>by
  show bV c (x::(a++c::b))=_
  conv=>lhs;unfold bV
  have e:(x==c)=false:=by simpa using fun e:x=c=>h (by rw[e];exact aa1)
  rw[e,cond_false,Ii c b fun hm=>h (aa6 _ hm)];rfl
theorem ZI(c:UInt8):∀s:anP,(bV c s).length=s.count c+1
 | []=>rfl
 | a::r=>by
  unfold bV;by_cases e:a=c
  ·subst e;rw[show(a==a)=true by simp,cond_true,List.length_cons,ZI a r,List.count_cons_self]
  ·rw[show(a==c)=false by simpa using e,cond_false,av3 _ (o7 c r),ZI c r,List.count_cons_of_ne e]
section
theorem R3(c:UInt8):∀{s:anP} {y:UInt8},y∈s->y≠c->∃x∈bV c s,y∈x
 | a::r,y,h,hy=>by
  unfold bV;rcases amG.1 h with rfl | h
  ·rw[show(y==c)=false by simpa using hy,cond_false];cases hc:bV c r with
   | nil=>exact absurd hc (o7 c r)
   | cons w t=>exact⟨[y]++w,aa1,by simp⟩
  ·obtain⟨x,h1,h2⟩:=R3 c h hy;cases a==c with
   | true=>exact⟨x,aa6 _ h1,h2⟩
   | false =>
    rw[cond_false];cases hc:bV c r with
    | nil=>exact absurd hc (o7 c r)
    | cons w t =>
     rw[hc]at h1;rcases amG.1 h1 with rfl | h1
     ·exact⟨[a]++x,aa1,anB _ h2⟩
     ·exact⟨x,aa6 _ h1,h2⟩
theorem anD(c:UInt8):∀{a:anP} (b:anP),c∉a->Lib.indexByte (a++c::b) c=(a.length:Int)
 | [],b,_=>by show Lib.indexByte (c::b) c=0;unfold Lib.indexByte;simp
 | x::a,b,h=>by
  show Lib.indexByte (x::(a++c::b)) c=_;unfold Lib.indexByte;have e:(x==c)=false:=by simpa using fun e:x=c=>h (by rw[e];exact aa1)
  rw[e,anD c b fun hm=>h (aa6 _ hm)];grind
theorem atb(c:UInt8):∀{a:anP},c∉a->Lib.indexByte a c = -1
 | [],_=>rfl
 | x::a,h=>by
  unfold Lib.indexByte;have e:(x==c)=false:=by simpa using fun e:x=c=>h (by rw[e];exact aa1)
  rw[e,atb c fun hm=>h (aa6 _ hm)];rfl
theorem anE(c:UInt8){a:anP}(b:anP)(h:c∉a):mg (a++c::b) [c]=a/\qm (a++c::b) [c]=b/\Ar (a++c::b) [c]=true:=by have e:ql (a++c::b) [c]=(a.length:Int):=anD c b h;unfold mg qm Ar;rw[e,dT (show(0:Int)<=(a.length:Int) by omega),aam];refine⟨by rw[cond_true,List.take_left'] ;rfl,?_,rfl⟩;rw[cond_true,List.drop_append];simp
theorem atc(c:UInt8){a:anP}(h:c∉a):mg a [c]=a/\qm a [c]=[]/\Ar a [c]=false:=by have e:ql a [c] = -1:=atb c h;unfold mg qm Ar;rw[e];exact⟨rfl,rfl,rfl⟩
theorem aj1(c:UInt8):∀{s:anP},c∈s->∃a b,s=a++c::b/\c∉a
 | x::r,h=>by
  by_cases e:x=c
  ·subst e;exact⟨[],r,rfl,by simp⟩
  ·obtain⟨a,b,rfl,h2⟩:=aj1 c ((amG.1 h).resolve_left (fun h=>e h.symm));grind
theorem aj2(c:UInt8):∀{a a' b b':anP},a++c::b=a'++c::b'->c∉a->c∉a'->a=a'/\b=b'
 | [],[],b,b',h,_,_=>⟨rfl,by simpa using h⟩
 | [],x::a',b,b',h,_,h2=>by grind
 | x::a,[],b,b',h,h1,_=>by grind
 | x::a,y::a',b,b',h,h1,h2=>by obtain⟨e1,e2⟩:=List.cons.inj h;obtain⟨e3,e4⟩:=aj2 c e2 (fun hm=>h1 (aa6 _ hm)) (fun hm=>h2 (aa6 _ hm));exact⟨by rw[e1,e3],e4⟩
theorem atd{s:anP}(h:eF s=true):∀c∈s,eP c=true:=by unfold eF at h;grind
theorem anF{s:anP}{c:UInt8}(hc:c∈s)(hd:eP c=false)(k:Int):fM s k=(0,3):=by
 unfold fM;cases hw:eF s with
 | false=>rfl
 | true=>have:=atd hw c hc;rw[hd]at this;cases this
theorem Xa(s:anP):qA s=bif(bif(fM s 65535).2 != 0 then true else(fM s 65535).1==0)then -1 else(fM s 65535).1:=by unfold qA;rw[count_eq s (by decide)]
theorem Xb{s:anP}(h:(fM s 65535).2≠0\/(fM s 65535).1=0):qA s = -1:=by rw[Xa];grind
theorem ate{s:anP}(h:(fM s 65535).2=0)(h':(fM s 65535).1≠0):qA s=(fM s 65535).1:=by rw[Xa,kg h,dP h'];rfl
theorem anG{s:anP}{c:UInt8}(hc:c∈s)(hd:eP c=false)(h46:c≠46):Ie s=false:=by
 obtain⟨x,h1,h2⟩:=R3 46 hc h46;unfold Ie;rw[zB];have:(bV 46 s).any BX=true:=List.any_eq_true.2 ⟨x,h1,by unfold BX;rw[count_eq x (by decide),anF h2 hd];rfl⟩
 grind
theorem aB7{s:anP}(h:Ie s=true):∀c∈s,eP c=true\/c=46:=fun c hc=>by
 by_cases h46:c=46
 ·exact .inr h46
 ·cases hd:eP c with
  | true=>exact .inl rfl
  | false=>rw[anG hc hd h46]at h;cases h
theorem R4{p:Port}:kK p=true↔((1<=p.iW/\p.iW<=65535)/\0<=p.out/\p.out<=65535)/\(p.proto=[116,99,112]\/p.proto=[117,100,112])/\(p.host=[]\/Ie p.host=true):=by unfold kK;grind
theorem uy{p:Port}(h:p.iW<1\/p.out<0\/(p.proto≠[116,99,112]/\p.proto≠[117,100,112])\/(p.host≠[]/\Ie p.host=false)):kK p=false:=by
 cases hb:kK p with
 | false=>rfl
 | true =>obtain⟨⟨⟨a,b⟩,c,d⟩,e,f⟩:=R4.1 hb;grind
theorem xD{p:Port}(h:kK p=false):qB p=(DF,3):=by unfold qB;rw[h];rfl
theorem anH{p:Port}(h:kK p=true):qB p=(p,0):=by unfold qB;rw[h];rfl
theorem pP1{h pr a:anP}(e:bV 58 h=[a]):uR h pr=qB ⟨[],0,qA a,pr⟩:=by unfold uR;rw[zB,e];rfl
theorem pP2{h pr a b:anP}(e:bV 58 h=[a,b]):uR h pr=qB ⟨[],qA a,qA b,pr⟩:=by unfold uR;rw[zB,e];rfl
theorem pP3{h pr a b c:anP}(e:bV 58 h=[a,b,c]):uR h pr=bif a==[]then(DF,3)else bif !(b==[])then qB ⟨a,qA b,qA c,pr⟩else qB ⟨a,0,qA c,pr⟩:=by unfold uR;rw[zB,e];rfl
theorem pP4{h pr a b c d:anP}{t:List (anP)}(e:bV 58 h=a::b::c::d::t):uR h pr=(DF,3):=by unfold uR;rw[zB,e];grind
theorem P7{s:anP}{c:UInt8}(hc:c∈s)(hd:eP c=false):qA s = -1:=Xb (.inl (by rw[anF hc hd];decide))
theorem VI{h pr:anP}(hs:(47:UInt8)∈h):uR h pr=(DF,3):=by
 obtain⟨x,h1,h2⟩:=R3 58 hs (by decide);have hd:eP 47=false:=rfl
 match hl:bV 58 h,h1 with
 | [a],h1 =>rw[List.mem_singleton.1 h1]at h2;rw[pP1 hl,P7 h2 hd];exact xD (uy (.inl (show(-1:Int)<1 by decide)))
 | [a,b],h1 =>
  rw[pP2 hl];rcases amG.1 h1 with rfl | h1
  ·rw[P7 h2 hd];exact xD (uy (.inr (.inl (show(-1:Int)<0 by decide))))
  ·rw[List.mem_singleton.1 h1]at h2;rw[P7 h2 hd];exact xD (uy (.inl (show(-1:Int)<1 by decide)))
 | [a,b,c],h1 =>
  rw[pP3 hl];cases ha:a==[]with
  | true=>rfl
  | false =>
   have ha':a≠[]:=by simpa using ha
   rcases amG.1 h1 with rfl | h1
   ·have:=anG h2 hd (by decide);cases !(b==[])<;>exact xD (uy (.inr (.inr (.inr ⟨ha',this⟩))))
   ·rcases amG.1 h1 with rfl | h1
    ·have hb:(x==[])=false:=by cases x with | nil=>cases h2 | cons _ _=>rfl
     rw[hb,P7 h2 hd];exact xD (uy (.inr (.inl (show(-1:Int)<0 by decide))))
    ·rw[List.mem_singleton.1 h1]at h2;rw[P7 h2 hd];have hz:∀o:Int,qB ⟨a,o, -1,pr⟩=(DF,3):=fun o=>xD (uy (.inl (show(-1:Int)<1 by decide)))
     grind
 | a::b::c::d::t,_=>exact pP4 hl
theorem atg{h pr:anP}(h1:pr≠[116,99,112])(h2:pr≠[117,100,112]):uR h pr=(DF,3):=by
 have hno:∀(a:anP) (o i:Int),qB ⟨a,o,i,pr⟩=(DF,3):=fun a o i=>xD (uy (.inr (.inr (.inl ⟨h1,h2⟩))))
 match hl:bV 58 h with
 | []=>exact absurd hl (o7 _ _)
 | [a]=>rw[pP1 hl,hno]
 | [a,b]=>rw[pP2 hl,hno]
 | [a,b,c]=>rw[pP3 hl,hno,hno];cases a==[]<;>cases !(b==[])<;>rfl
 | a::b::c::d::t=>exact pP4 hl
def aqv:anP:=[47,116,99,112]
def aqw:anP:=[47,117,100,112]
def J5(s:anP):Bool:=bif(bif decide ((4:Int)<(s.length:Int))then s.drop (s.length-4)==aqv else false)then true else(bif decide ((4:Int)<(s.length:Int))then s.drop (s.length-4)==aqw else false)
def agX(s:anP):Port×Int:=bif J5 s then uR (s.take (s.length-4)) (s.drop (s.length-3))else uR s [116,99,112]
theorem adG{s:anP}(h:J5 s=true):∃t e,s=t++47::e/\t≠[]/\s.take (s.length-4)=t/\s.drop (s.length-3)=e/\(e=[116,99,112]\/e=[117,100,112]):=by
 unfold J5 at h;by_cases hl:(4:Int)<(s.length:Int)
 ·rw[dT hl]at h;have he:s.drop (s.length-4)=aqv\/s.drop (s.length-4)=aqw:=by
   grind
  have hk:∀c e:anP,e.length=3->s.drop (s.length-4)=47::e->s=s.take (s.length-4)++47::e/\s.take (s.length-4)≠[]/\s.drop (s.length-3)=e:=fun _ e h3 hd=>by
   refine⟨by rw[<- hd,ahb],?_,?_⟩
   ·intro hn;have:=congrArg List.length hn;grind
   ·have:s.drop (s.length-3)=(s.drop (s.length-4)).drop 1:=by rw[akr];congr 1;omega
    rw[this,hd];rfl
  rcases he with he | he
  ·obtain⟨a,b,c⟩:=hk [] [116,99,112] rfl he;exact⟨_,_,a,b,rfl,c,.inl rfl⟩
  ·obtain⟨a,b,c⟩:=hk [] [117,100,112] rfl he;exact⟨_,_,a,b,rfl,c,.inr rfl⟩
 ·rw[dF hl]at h;cases h
theorem aB8{t e:anP}(ht:t≠[])(he:e=[116,99,112]\/e=[117,100,112]):J5 (t++47::e)=true:=by
 have h3:e.length=3:=by rcases he with rfl | rfl<;>rfl
 have hl:(t++47::e).length=t.length+4:=by rw[List.length_append,List.length_cons,h3]
 have h0:0<t.length:=List.length_pos_iff.2 ht;unfold J5;rw[dT (show(4:Int)<((t++47::e).length:Int) by rw[hl];omega)];have hd:(t++47::e).drop ((t++47::e).length-4)=47::e:=by rw[hl,show t.length+4-4=t.length by omega];simp
 rw[hd];rcases he with rfl | rfl<;>rfl
theorem av4(s:anP):agX s=jm s:=by
 unfold agX jm;by_cases h47:(47:UInt8)∈s
 ·obtain⟨a,b,rfl,ha⟩:=aj1 47 h47;obtain⟨c1,c2,c3⟩:=anE 47 b ha;rw[c1,c2,c3,cond_true];by_cases hb:b=[116,99,112]\/b=[117,100,112]
  ·by_cases hn:a=[]
   ·subst hn;have hs:J5 ([]++47::b)=false:=by rcases hb with rfl | rfl<;>rfl
    have hz:uR [] b=(DF,3):=by rw[pP1 (show bV 58 []=[[]]from rfl),show qA [] = -1 from Xb (.inl (by decide))];exact xD (uy (.inl (show(-1:Int)<1 by decide)))
    rw[hs,cond_false,hz];exact VI h47
   ·have hs:=aB8 hn hb;rw[hs,cond_true];obtain⟨t,e,h1,h2,h3,h4,h5⟩:=adG hs;rw[h3,h4];have hl:t.length=a.length:=by
     grind
    obtain⟨q1,q2⟩:=List.append_inj h1 hl.symm;rw[<- q1,(List.cons.inj q2).2]
  ·have hz:uR a b=(DF,3):=atg (fun e=>hb (.inl e)) (fun e=>hb (.inr e));rw[hz];cases hs:J5 (a++47::b)with
   | false=>exact VI h47
   | true =>
    obtain⟨t,e,h1,h2,h3,h4,h5⟩:=adG hs;rw[cond_true,h3,h4];by_cases ht:(47:UInt8)∈t
    ·exact VI ht
    ·obtain⟨_,q⟩:=aj2 47 h1 ha ht;exact absurd (q▸h5) hb
 ·obtain⟨c1,c2,c3⟩:=atc 47 h47;rw[c3,cond_false];cases hs:J5 s with
  | false=>rfl
  | true =>obtain⟨t,e,h1,_⟩:=adG hs;grind
theorem aj4{n:Int}(h0:0<=n)(h1:n<=65535){c:UInt8}(hc:eP c=false):c∉bq n:=fun h=>by have:=afe.1 (yA h0 (by omega)).2.2 c h;rw[hc]at this;cases this
theorem Xc{n:Int}(h0:0<=n)(h1:n<=65535):bq n≠[]:=fun h=>by have:=(yA h0 (by omega)).1;rw[h]at this;cases this
theorem ZJ{n:Int}(h0:1<=n)(h1:n<=65535):qA (bq n)=n:=by have:=Zr (n:=n) (most:=65535) (by omega) h1 (by omega);rw[ate (by rw[this]) (by rw[this];show n≠0;omega),this]
theorem azI{p:Port}(h:kK p=true):(47:UInt8)∉Fu p++bq p.iW/\∀pr,uR (Fu p++bq p.iW) pr=qB ⟨p.host,p.out,p.iW,pr⟩:=by
 obtain⟨⟨⟨a,b⟩,c,d⟩,e,f⟩:=R4.1 h;have hi:∀{q:UInt8},eP q=false->q∉bq p.iW:=fun hq=>aj4 (by omega) b hq
 have ho:∀{q:UInt8},eP q=false->q∉bq p.out:=fun hq=>aj4 c d hq
 have hni:=ZJ a b;have Yq:eP 58=false:=rfl;have h47:eP 47=false:=rfl;have aDH:∀q:UInt8,eP q=false->q≠46->q∉p.host:=fun q h1 h2 hm=>by
  rcases f with f | f
  ·rw[f]at hm;cases hm
  ·rcases aB7 f q hm with h | h
   ·rw[h1]at h;cases h
   ·exact h2 h
 by_cases hh:p.host=[]
 ·by_cases ho0:0<p.out
  ·have e1:Fu p=bq p.out++[58]:=by
    unfold Fu Yl Kk;rw[hh,dT ho0];have:(bq p.out==[])=false:=by simpa using Xc c d
    grind
   have e2:Fu p++bq p.iW=bq p.out++58::bq p.iW:=by rw[e1,abJ];rfl
   rw[e2];refine⟨fun hm=>?_,fun pr=>?_⟩
   ·grind
   ·have hc:bV 58 (bq p.out++58::bq p.iW)=[bq p.out,bq p.iW]:=by rw[Ii 58 _ (ho Yq),zC 58 (hi Yq)]
    rw[pP2 hc,hni,ZJ (by omega) d,hh]
  ·have e1:Fu p=[]:=by
    unfold Fu Yl Kk;rw[hh,dF ho0];rfl
   rw[e1,aeK];refine⟨hi h47,fun pr=>?_⟩;rw[pP1 (zC 58 (hi Yq)),hni,hh,show p.out=0 by omega]
 ·have hh':(p.host==[])=false:=by simpa using hh
  have e1:Fu p=p.host++58::(Kk p++[58]):=by
   unfold Fu Yl;rw[hh'];have:((p.host++[58])++Kk p==[])=false:=by simp
   grind
  have e2:Fu p++bq p.iW=p.host++58::(Kk p++58::bq p.iW):=by rw[e1];simp
  have hO:∀q:UInt8,eP q=false->q∉Kk p:=fun q hq=>by unfold Kk;grind
  rw[e2];refine⟨fun hm=>?_,fun pr=>?_⟩
  ·grind
  ·have hc:bV 58 (p.host++58::(Kk p++58::bq p.iW))=[p.host,Kk p,bq p.iW]:=by
    rw[Ii 58 _ (aDH 58 Yq (by decide)),Ii 58 _ (hO 58 Yq),zC 58 (hi Yq)]
   rw[pP3 hc,hh',cond_false,hni];unfold Kk;by_cases ho0:0<p.out
   ·have:(bq p.out==[])=false:=by simpa using Xc c d
    rw[dT ho0,cond_true,this,ZJ (by omega) d];rfl
   ·rw[dF ho0,show p.out=0 by omega];rfl
theorem adH{p:Port}(h:kK p=true):jm (Ad p)=(p,0)/\Ad p≠[]:=by
 obtain⟨h1,h2⟩:=azI h;obtain⟨⟨⟨a,b⟩,_⟩,e,_⟩:=R4.1 h;have hne:=Xc (n:=p.iW) (by omega) b;unfold jm Ad;rw[h,abI,cond_false];rcases e with e | e
 ·have:(p.proto==[117,100,112])=false:=by rw[e];rfl
  obtain⟨c1,c2,c3⟩:=atc 47 h1;rw[this,cond_false,c3,cond_false,h2,<- e];exact⟨anH h,by simp[hne]⟩
 ·have:(p.proto==[117,100,112])=true:=by rw[e];rfl
  have e3:(Fu p++bq p.iW)++[47,117,100,112]=(Fu p++bq p.iW)++47::[117,100,112]:=rfl;obtain⟨c1,c2,c3⟩:=anE 47 [117,100,112] h1;rw[this,cond_true,e3,c1,c2,c3,cond_true,h2,<- e];exact⟨anH h,by simp⟩
theorem anK(s:anP):(jm s).2=0->kK (jm s).1=true:=by
 have hf:∀p,(qB p).2=0->kK (qB p).1=true:=fun p=>by unfold qB;grind
 have hp:∀h pr,(uR h pr).2=0->kK (uR h pr).1=true:=fun h pr=>by
  match hl:bV 58 h with
  | []=>exact absurd hl (o7 _ _)
  | [a]=>rw[pP1 hl];exact hf _
  | [a,b]=>rw[pP2 hl];exact hf _
  | [a,b,c] =>rw[pP3 hl];grind
  | a::b::c::d::t=>rw[pP4 hl];exact fun h=>by cases h
 unfold jm;cases Ar s [47]<;>exact hp _ _
end
section
theorem aff(w:anP){l:List (anP)}(_:l≠[]):GV w ([]::l)=[w]++l:=by show(w++[])::l=_;rw[abR];rfl
theorem afg(s:anP)(hs:s.length<=1000000)(c:UInt8):jI s (c.toNat:Int)=some (bV c s):=by
 refine iY rfl (fun | .e y0 y1=>y0=s/\y1=(c.toNat:Int) | .h0 v0 v1 v2 v3 v4 v5=>v0=s/\v1=(c.toNat:Int)/\v2=v5.length/\∃f i:Nat,v3=(f:Int)/\v4=(i:Int)/\f<=i/\i<=s.length/\v5.length<=i/\v5++GV (cut s (f:Int) (i:Int)) (bV c (s.drop i))=bV c s) (fun | .e _ _=>10000000000 | .h0 _ _ _ _ v4 _=>((s.length:Int)-v4).toNat) ⟨rfl,rfl⟩ (by show 10000000000<_;omega) ?_;rintro(⟨y0,y1⟩ | ⟨v0,v1,v2,v3,v4,v5⟩) hs'
 ·obtain⟨rfl,rfl⟩:=hs';refine⟨⟨rfl,rfl,rfl,0,0,rfl,rfl,abH _,aas _,aas _,?_⟩,?_⟩
  ·exact RZ (o7 c y0)
  ·show((y0.length:Int)-0).toNat<10000000000;omega
 ·obtain⟨rfl,rfl,rfl,f,i,rfl,rfl,h1,h2,h3,h4⟩:=hs';simp only[aM,bg,yE];have kk:∀j:Nat,f<=j->j<=v0.length->bM v0 (f:Int) (j:Int)=true:=fun j _ _=>by simp[bM];omega
  by_cases hi:i<v0.length
  ·have e1:au ((i:Int)+1)=((i+1:Nat):Int):=by rw[aU (by omega) (by omega)];omega
   rw[dT (show(i:Int)<(v0.length:Int) by omega),cond_true,wS];refine⟨by omega,by omega,?_⟩;rw[aam,e1,kk i h1 h2,ak,dT (show(v5.length+([cut v0 (f:Int) (i:Int)]:List (anP)).length)*16<=aB by rw[mb,aay];omega),ak];rw[drop_at hi,bV]at h4;have hb:((((v0.getD i 0).toNat:Nat):Int)==(c.toNat:Int))=(v0.getD i 0==c):=by
    by_cases h:v0.getD i 0=c
    ·rw[h];simp
    ·rw[dP (fun e=>h (UInt8.toNat_inj.1 (by omega)))];simpa using h
   rw[hb];generalize hg:v0.getD i 0=a at h4 ⊢;cases ha:a==c with
   | true =>
    rw[ha,cond_true,aff _ (o7 c _),<- abJ]at h4;rw[cond_true];refine⟨⟨trivial,trivial,by rw[List.length_append],i+1,i+1,rfl,rfl,abH _,by omega,by rw[List.length_append,aay];omega,?_⟩,?_⟩
    ·have hz:cut v0 ((i+1:Nat):Int) ((i+1:Nat):Int)=[]:=by unfold cut;rw[Nat.sub_self];rfl
     rw[hz,RZ (o7 c _)];exact h4
    ·show((v0.length:Int)-((i+1:Nat):Int)).toNat<((v0.length:Int)-(i:Int)).toNat;omega
   | false =>
    rw[ha,cond_false,ajY]at h4;rw[cond_false];refine⟨⟨trivial,trivial,trivial,f,i+1,rfl,rfl,by omega,by omega,by omega,?_⟩,?_⟩
    ·have hz:cut v0 (f:Int) ((i+1:Nat):Int)=cut v0 (f:Int) (i:Int)++[a]:=by
      unfold cut;rw[aam,aam,aam,show i+1-f=(i-f)+1 by omega];have hl:i-f<(v0.drop f).length:=by rw[abP];omega
      rw[ag8 hl,List.getElem_drop,<- hg];have:v0.getD i 0=v0[i]:=by rw[List.getD,aac hi];rfl
      rw[this];congr 2;congr 1;omega
     rw[hz];exact h4
    ·show((v0.length:Int)-((i+1:Nat):Int)).toNat<((v0.length:Int)-(i:Int)).toNat;omega
  ·have hle:i=v0.length:=by omega
   subst hle;rw[dF (show ¬ (v0.length:Int)<(v0.length:Int) by omega),cond_false,kk _ h1 (abH _),ak,dT (show(v5.length+([cut v0 (f:Int) (v0.length:Int)]:List (anP)).length)*16<=aB by rw[mb,aay];omega),ak,<- h4,List.drop_length];show _=v5++[cut v0 (f:Int) (v0.length:Int)++[]];rw[abR]
theorem ath(c:UInt8)(s:anP):∀x∈bV c s,x.length<=s.length:=fun x hx=>by rw[<- zB s c 0 (-1)]at hx;exact(D9 s c 0 (-1)).2.2 x hx
theorem agb(s:anP)(hs:s.length<=1000000):A9 s=some (Ie s):=by
 refine iY rfl (fun | .e y=>y=s | .h0 v0 v1=>v0=bV 46 s/\v0.length=4/\∃i:Nat,v1=(i:Int)/\i<=4/\(!((v0.drop i).any BX))=Ie s) (fun | .e _=>100 | .h0 _ v1=>(4-v1).toNat) rfl (by show 100<_;omega) ?_;have hA:Ie s=bif((bV 46 s).length:Int)==4 then !((bV 46 s).any BX)else false:=by unfold Ie;rw[zB]
 rintro(y | ⟨v0,v1⟩) hs'
 ·have hs':y=s:=hs';subst hs';have hc:=afg y hs 46;simp only[aM,bg,nP];rw[show jI y 46=some (bV 46 y)from hc];simp only[aG];cases h4:((bV 46 y).length:Int)==4 with
  | false =>rw[h4]at hA;rw[show(((bV 46 y).length:Int)!=4)=true by rw[bne,h4];rfl,cond_true];exact hA.symm
  | true =>rw[h4]at hA;rw[show(((bV 46 y).length:Int)!=4)=false by rw[bne,h4];rfl,cond_false];have:=eq_of_beq h4;exact⟨⟨trivial,by omega,0,rfl,by decide,hA.symm⟩,by show(4-0:Int).toNat<100;decide⟩
 ·obtain⟨rfl,h4,i,rfl,h1,h2⟩:=hs';simp only[aM,bg,nP];by_cases hi:i<4
  ·have e1:au ((i:Int)+1)=((i+1:Nat):Int):=by rw[aU (by omega) (by omega)];omega
   have hl:i<(bV 46 s).length:=by omega
   have hx:=ath 46 s _ (aeC hl);have hdr:(bV 46 s).drop i=(bV 46 s)[i]::(bV 46 s).drop (i+1):=(aa8 hl).symm;have hg:(bV 46 s).getD i (Df.d:anP)=(bV 46 s)[i]:=by rw[List.getD,aac hl];rfl
   rw[dT (show(i:Int)<4 by omega),cond_true,wI];refine⟨by omega,by omega,?_⟩;rw[aam,hg,e1];rw[hdr,aj3]at h2;generalize (bV 46 s)[i]=x at hx h2 ⊢;rw[p9 x 255 (by omega) (by decide)];simp only[aG];have hn:BX x=((fM x 255).2 != 0):=by unfold BX;rw[count_eq x (by decide)]
   rw[hn]at h2;cases hb:(fM x 255).2 != 0 with
   | true=>rw[hb]at h2;exact h2
   | false =>rw[hb,ajB]at h2;rw[cond_false];refine⟨⟨trivial,h4,i+1,rfl,by omega,h2⟩,?_⟩;show(4-((i+1:Nat):Int)).toNat<(4-(i:Int)).toNat;omega
  ·rw[aa7 (by omega)]at h2;rw[dF (show ¬ (i:Int)<4 by omega),cond_false];exact h2
theorem Yr(p:Port)(hs:p.host.length<=1000000):bF p=some (kK p):=by
 refine dB rfl ?_;simp only[aM,bg,vv,agb p.host hs,aeL,abZ,ak,dS];have hh:((p.host.length:Int)==0)=(p.host==[]):=by
  cases p.host with
  | nil=>rfl
  | cons c t=>rw[dP (by simp only[List.length_cons];omega)];rfl
 rw[hh];unfold kK;have d1:decide ((1:Int)<=p.iW) = !(decide (p.iW<1)):=by by_cases h:p.iW<1<;>simp[h]<;>omega
 have d2:decide (p.iW<=65535) = !(decide ((65535:Int)<p.iW)):=by by_cases h:(65535:Int)<p.iW<;>simp[h]<;>omega
 have d3:decide ((0:Int)<=p.out) = !(decide (p.out<0)):=by by_cases h:p.out<0<;>simp[h]<;>omega
 have d4:decide (p.out<=65535) = !(decide ((65535:Int)<p.out)):=by by_cases h:(65535:Int)<p.out<;>simp[h]<;>omega
 rw[d1,d2,d3,d4];cases decide (p.iW<1)<;>cases decide ((65535:Int)<p.iW)<;>cases decide (p.out<0)<;>cases decide ((65535:Int)<p.out)<;>cases p.proto==[116,99,112]<;>cases p.proto==[117,100,112]<;>cases p.host==[]<;>cases Ie p.host<;>rfl
theorem abL(p:Port)(hs:p.host.length<=1000000):wX p=some (Ad p):=by
 refine dB rfl ?_;simp only[aM,bg,wW,Yr p hs,aG];cases hr:kK p with
 | false=>show([]:anP)=Ad p;unfold Ad;rw[hr];rfl
 | true =>
  obtain⟨⟨⟨a,b⟩,c,d⟩,_⟩:=R4.1 hr;have hi:=GU p.iW (by omega);have ho:=GU p.out (by omega);have li:=rU p.iW;have lo:=rU p.out;have no:=Xc c d;have hm:∀x y:anP,x.length<=2000000->y.length<=100->decide (x.length+y.length<=aA)=true:=fun x y h1 h2=>dT (by rw[ms];omega)
  simp only[abI,cond_false,hi,ho,aG];have hT:Ad p=bif p.proto==[117,100,112]then(Fu p++bq p.iW)++[47,117,100,112]else Fu p++bq p.iW:=by unfold Ad;rw[hr];rfl
  rw[hT];unfold Fu Yl Kk;by_cases hh:p.host=[]
  ·rw[dF (show ¬ (0:Int)<(p.host.length:Int) by rw[hh];decide),hh];simp only[cond_false,beq_self_eq_true,abI,aeK,List.length_nil];by_cases ho0:0<p.out
   ·have:(bq p.out==[])=false:=by simpa using no
    simp only[dT ho0,cond_true,this,aem];rw[dT (show 0+(bq p.out).length<=aA by rw[ms];omega),hm (bq p.out) [58] (by omega) (by decide),hm (bq p.out++[58]) (bq p.iW) (by rw[List.length_append,aay];omega) (by omega),hm ((bq p.out++[58])++bq p.iW) [47,117,100,112] (by rw[List.length_append,List.length_append,aay];omega) (by decide)];simp only[ak];cases p.proto==[117,100,112]<;>rfl
   ·simp only[dF ho0,cond_false,beq_self_eq_true,abI,aeK];rw[dT (show 0+(bq p.iW).length<=aA by rw[ms];omega),hm (bq p.iW) [47,117,100,112] (by omega) (by decide)];simp only[ak];cases p.proto==[117,100,112]<;>rfl
  ·have hh':(p.host==[])=false:=by simpa using hh
   have hpos:(0:Int)<(p.host.length:Int):=by have:=List.length_pos_iff.2 hh;omega
   have hne:∀x:anP,((p.host++[58])++x==[])=false:=fun x=>by simp
   simp only[dT hpos,cond_true,hh',aem,hne];rw[hm p.host [58] (by omega) (by decide),ak];by_cases ho0:0<p.out
   ·simp only[dT ho0,cond_true];rw[hm (p.host++[58]) (bq p.out) (by rw[List.length_append,aay];omega) (by omega),hm ((p.host++[58])++bq p.out) [58] (by rw[List.length_append,List.length_append,aay];omega) (by decide),hm (((p.host++[58])++bq p.out)++[58]) (bq p.iW) (by simp only[List.length_append,aay];omega) (by omega),hm ((((p.host++[58])++bq p.out)++[58])++bq p.iW) [47,117,100,112] (by simp only[List.length_append,aay];omega) (by decide)];simp only[ak];cases p.proto==[117,100,112]<;>rfl
   ·simp only[dF ho0,cond_false,abR];rw[hm (p.host++[58]) [58] (by rw[List.length_append,aay];omega) (by decide),hm ((p.host++[58])++[58]) (bq p.iW) (by simp only[List.length_append,aay];omega) (by omega),hm (((p.host++[58])++[58])++bq p.iW) [47,117,100,112] (by simp only[List.length_append,aay];omega) (by decide)];simp only[ak];cases p.proto==[117,100,112]<;>rfl
theorem aDI(host:anP)(out:Int)(x pr:anP):(bif(bif(fM x 65535).2 != 0 then true else !(kK ⟨host,out,(fM x 65535).1,pr⟩))then(DF,3)else((⟨host,out,(fM x 65535).1,pr⟩:Port),(0:Int)))=qB ⟨host,out,qA x,pr⟩:=by
 by_cases h1:(fM x 65535).2=0
 ·rw[kg h1,cond_false];by_cases h2:(fM x 65535).1=0
  ·rw[Xb (.inr h2),h2,uy (p:=⟨host,out,0,pr⟩) (.inl (show(0:Int)<1 by decide)),xD (uy (.inl (show(-1:Int)<1 by decide)))];rfl
  ·rw[ate h1 h2];unfold qB;rfl
 ·rw[iI h1,Xb (.inl h1),xD (uy (.inl (show(-1:Int)<1 by decide)))];rfl
theorem axC{y:anP}(h:(bif(fM y 65535).2 != 0 then true else(fM y 65535).1==0)=true)(host:anP)(i:Int)(pr:anP):qB ⟨host,qA y,i,pr⟩=(DF,3):=by
 have:qA y = -1:=by rw[Xa,h];rfl
 rw[this];exact xD (uy (.inr (.inl (show(-1:Int)<0 by decide))))
theorem ati{y:anP}(h:(bif(fM y 65535).2 != 0 then true else(fM y 65535).1==0)=false):qA y=(fM y 65535).1:=by rw[Xa,h];rfl
set_option maxHeartbeats 2000000 in
theorem aqx(h pr:anP)(hh:h.length<=1000000)(Q:Port×Int->Prop)(hQ:Q (uR h pr)):(cl (jI h (58:Int)) False fun y8=>ck ((decide (0<=(0:Int))&&decide ((0:Int)<(y8.length:Int))) || !((!(decide ((3:Int)<(y8.length:Int))))&&((y8.length:Int)==(3:Int)))) False (bif(bif(decide ((3:Int)<(y8.length:Int)))then true else(bif((y8.length:Int)==(3:Int))then(((List.getD y8 (Int.toNat (0:Int)) (dflt .str)).length:Int)==(0:Int))else false))then Q ((⟨([]:anP),(0:Int),(0:Int),([]:anP)⟩:Port),(3:Int))else(ix y8 (au ((y8.length:Int)-(1:Int))) False fun y9=>cl (dL y9 (65535:Int)) False fun iq=>ck ((decide (0<=(1:Int))&&decide ((1:Int)<(y8.length:Int))) || !((decide ((1:Int)<(y8.length:Int)))&&(!((y8.length:Int)==(2:Int))))) False (bif(bif(decide ((1:Int)<(y8.length:Int)))then(bif((y8.length:Int)==(2:Int))then true else(decide ((0:Int)<((List.getD y8 (Int.toNat (1:Int)) (dflt .str)).length:Int))))else false)then(ix y8 (au ((y8.length:Int)-(2:Int))) False fun xK=>cl (dL xK (65535:Int)) False fun nG=>bif(bif(nG.2 != (0:Int))then true else(nG.1==(0:Int)))then Q ((⟨([]:anP),(0:Int),(0:Int),([]:anP)⟩:Port),(3:Int))else(bif((y8.length:Int)==(3:Int))then(ix y8 (0:Int) False fun y13=>ck (((bF (⟨y13,nG.1,iq.1,pr⟩:Port)).isSome) || !(!(iq.2 != (0:Int)))) False (bif(bif(iq.2 != (0:Int))then true else(!(gv (bF (⟨y13,nG.1,iq.1,pr⟩:Port)))))then Q ((⟨([]:anP),(0:Int),(0:Int),([]:anP)⟩:Port),(3:Int))else Q ((⟨y13,nG.1,iq.1,pr⟩:Port),(0:Int))))else(ck (((bF (⟨([]:anP),nG.1,iq.1,pr⟩:Port)).isSome) || !(!(iq.2 != (0:Int)))) False (bif(bif(iq.2 != (0:Int))then true else(!(gv (bF (⟨([]:anP),nG.1,iq.1,pr⟩:Port)))))then Q ((⟨([]:anP),(0:Int),(0:Int),([]:anP)⟩:Port),(3:Int))else Q ((⟨([]:anP),nG.1,iq.1,pr⟩:Port),(0:Int))))))else(bif((y8.length:Int)==(3:Int))then(ix y8 (0:Int) False fun zY=>ck (((bF (⟨zY,(0:Int),iq.1,pr⟩:Port)).isSome) || !(!(iq.2 != (0:Int)))) False (bif(bif(iq.2 != (0:Int))then true else(!(gv (bF (⟨zY,(0:Int),iq.1,pr⟩:Port)))))then Q ((⟨([]:anP),(0:Int),(0:Int),([]:anP)⟩:Port),(3:Int))else Q ((⟨zY,(0:Int),iq.1,pr⟩:Port),(0:Int))))else(ck (((bF (⟨([]:anP),(0:Int),iq.1,pr⟩:Port)).isSome) || !(!(iq.2 != (0:Int)))) False (bif(bif(iq.2 != (0:Int))then true else(!(gv (bF (⟨([]:anP),(0:Int),iq.1,pr⟩:Port)))))then Q ((⟨([]:anP),(0:Int),(0:Int),([]:anP)⟩:Port),(3:Int))else Q ((⟨([]:anP),(0:Int),iq.1,pr⟩:Port),(0:Int))))))))):=by
 have hc:=afg h hh 58;rw[show jI h 58=some (bV 58 h)from hc];have hb:=ath 58 h;simp only[aG];have ez:(⟨[],0,0,[]⟩:Port)=DF:=rfl;have hQf:∀(host:anP) (out:Int) (x:anP),Q (qB ⟨host,out,qA x,pr⟩)->(bif(bif(fM x 65535).2 != 0 then true else !(kK ⟨host,out,(fM x 65535).1,pr⟩))then Q (DF,3)else Q ((⟨host,out,(fM x 65535).1,pr⟩:Port),(0:Int))):=fun host out x hq=>by
  rw[<- aDI]at hq;cases hcc:(bif(fM x 65535).2 != 0 then true else !(kK ⟨host,out,(fM x 65535).1,pr⟩))with
  | true=>rw[hcc]at hq;exact hq
  | false=>rw[hcc]at hq;exact hq
 have hR:∀(host:anP) (o i:Int),host.length<=1000000->bF ⟨host,o,i,pr⟩=some (kK ⟨host,o,i,pr⟩):=fun host o i hl=>Yr ⟨host,o,i,pr⟩ hl
 have hn:([]:anP).length<=1000000:=aas _
 match hl:bV 58 h,hb with
 | [],_=>exact absurd hl (o7 _ _)
 | [a],hb =>rw[pP1 hl]at hQ;have ha:=p9 a 65535 (Nat.le_trans (hb a (by simp)) hh) (by decide);have e:au ((([a]:List (anP)).length:Int)-1)=0:=rfl;have l1:decide ((3:Int)<(([a]:List (anP)).length:Int))=false:=rfl;have l2:((([a]:List (anP)).length:Int)==3)=false:=rfl;have l3:decide ((1:Int)<(([a]:List (anP)).length:Int))=false:=rfl;have g0:([a]:List (anP)).getD (Int.toNat 0) (Df.d:anP)=a:=rfl;simp only[l1,l2,l3,e,ajC,ajJ,aem,ahV,ak,cond_false];rw[wI];refine⟨by decide,by show(0:Int)<1;decide,?_⟩;rw[g0,ha];simp only[aG,hR _ _ _ hn,aeL,abZ,ak,dS,ez];exact hQf _ _ _ hQ
 | [a,b],hb =>
  rw[pP2 hl]at hQ;have ha:=p9 a 65535 (Nat.le_trans (hb a (by simp)) hh) (by decide);have hb':=p9 b 65535 (Nat.le_trans (hb b (by simp)) hh) (by decide);have e:au ((([a,b]:List (anP)).length:Int)-1)=1:=rfl;have e2:au ((([a,b]:List (anP)).length:Int)-2)=0:=rfl;have l1:decide ((3:Int)<(([a,b]:List (anP)).length:Int))=false:=rfl;have l2:((([a,b]:List (anP)).length:Int)==3)=false:=rfl;have l3:decide ((1:Int)<(([a,b]:List (anP)).length:Int))=true:=rfl;have l4:((([a,b]:List (anP)).length:Int)==2)=true:=rfl;have g0:([a,b]:List (anP)).getD (Int.toNat 0) (Df.d:anP)=a:=rfl;have g1:([a,b]:List (anP)).getD (Int.toNat 1) (Df.d:anP)=b:=rfl;simp only[l1,l2,l3,l4,e,e2,ajC,aem,abI,ahV,ak,cond_false,cond_true];rw[wI];refine⟨by decide,by show(1:Int)<2;decide,?_⟩;rw[g1,hb'];simp only[aG];rw[wI];refine⟨by decide,by show(0:Int)<2;decide,?_⟩;rw[g0,ha];simp only[aG,hR _ _ _ hn,aeL,abZ,ak,dS,ez];cases hq:(bif(fM a 65535).2 != 0 then true else(fM a 65535).1==0)with
  | true=>rw[axC hq]at hQ;exact hQ
  | false=>rw[ati hq]at hQ;exact hQf _ _ _ hQ
 | [a,b,c],hb =>
  rw[pP3 hl]at hQ;have hal:=Nat.le_trans (hb a (by simp)) hh;have hb':=p9 b 65535 (Nat.le_trans (hb b (by simp)) hh) (by decide);have hc':=p9 c 65535 (Nat.le_trans (hb c (by simp)) hh) (by decide);have e:au ((([a,b,c]:List (anP)).length:Int)-1)=2:=rfl;have e2:au ((([a,b,c]:List (anP)).length:Int)-2)=1:=rfl;have l1:decide ((3:Int)<(([a,b,c]:List (anP)).length:Int))=false:=rfl;have l2:((([a,b,c]:List (anP)).length:Int)==3)=true:=rfl;have l3:decide ((1:Int)<(([a,b,c]:List (anP)).length:Int))=true:=rfl;have l4:((([a,b,c]:List (anP)).length:Int)==2)=false:=rfl;have l5:decide ((0:Int)<(([a,b,c]:List (anP)).length:Int))=true:=rfl;have g0:([a,b,c]:List (anP)).getD (Int.toNat 0) (Df.d:anP)=a:=rfl;have g0':([a,b,c]:List (anP)).getD (Int.toNat 0) (dflt Ty.str:anP)=a:=rfl;have g1':([a,b,c]:List (anP)).getD (Int.toNat 1) (dflt Ty.str:anP)=b:=rfl;have g1:([a,b,c]:List (anP)).getD (Int.toNat 1) (Df.d:anP)=b:=rfl;have g2:([a,b,c]:List (anP)).getD (Int.toNat 2) (Df.d:anP)=c:=rfl;have ha0:((a.length:Int)==0)=(a==[]):=by
   cases a with
   | nil=>rfl
   | cons c t=>rw[dP (by simp only[List.length_cons];omega)];rfl
  have hb0:decide ((0:Int)<(b.length:Int)) = !(b==[]):=by
   cases b with
   | nil=>rfl
   | cons c t=>rw[dT (by simp only[List.length_cons];omega)];rfl
  simp only[l1,l2,l3,l4,l5,e,e2,g0',g1',ha0,hb0,aem,abI,Bool.and_true,abZ,ak,cond_false,cond_true,show decide ((0:Int)<=0)=true from rfl,show decide ((0:Int)<=1)=true from rfl];cases haa:a==[]with
  | true=>rw[haa]at hQ;exact hQ
  | false =>
   rw[haa,cond_false]at hQ;rw[cond_false,wI];refine⟨by decide,by show(2:Int)<3;decide,?_⟩;rw[g2,hc'];simp only[aG];cases hbb : !(b==[])with
   | true =>
    rw[hbb,cond_true]at hQ;rw[cond_true,wI];refine⟨by decide,by show(1:Int)<3;decide,?_⟩;rw[g1,hb'];simp only[aG];cases hq:(bif(fM b 65535).2 != 0 then true else(fM b 65535).1==0)with
    | true=>rw[axC hq]at hQ;exact hQ
    | false =>rw[ati hq]at hQ;rw[cond_false,wI];refine⟨by decide,by show(0:Int)<3;decide,?_⟩;rw[g0];simp only[hR _ _ _ hal,aeL,abZ,ak,dS,ez];exact hQf _ _ _ hQ
   | false =>rw[hbb,cond_false]at hQ;rw[cond_false,wI];refine⟨by decide,by show(0:Int)<3;decide,?_⟩;rw[g0];simp only[hR _ _ _ hal,aeL,abZ,ak,dS,ez];exact hQf _ _ _ hQ
 | a::b::c::d::t,_ =>rw[pP4 hl]at hQ;have l1:decide ((3:Int)<((a::b::c::d::t).length:Int))=true:=dT (by simp only[List.length_cons];omega);simp only[l1,abI,ajJ,aem,ahV,ak,cond_true];exact hQ
theorem ama(s:anP)(hs:s.length<=1000000):Dn s=some (jm s):=by
 rw[<- av4];refine dB rfl ?_;simp only[aM,bg,vw];by_cases hl:(4:Int)<(s.length:Int)
 ·have e4:au ((s.length:Int)-4)=((s.length-4:Nat):Int):=by rw[aU (by omega) (by omega)];omega
  have e3:au ((s.length:Int)-3)=((s.length-3:Nat):Int):=by rw[aU (by omega) (by omega)];omega
  have hsf:(bif(bif decide ((4:Int)<(s.length:Int))then s.drop (s.length-4)==aqv else false)then true else(bif decide ((4:Int)<(s.length:Int))then s.drop (s.length-4)==aqw else false))=J5 s:=rfl;rw[dT hl]at hsf ⊢;simp only[cond_true]at hsf;rw[e4,e3,zy,zy,Fw,Ih (by omega),Ig (by omega)];rw[dT (show(0:Int)<=((s.length-4:Nat):Int) by omega),dT (show((s.length-4:Nat):Int)<=(s.length:Int) by omega),dT (amw (s.length:Int))];simp only[abW,abZ,ak,cond_true];unfold agX;rw[show([47,116,99,112]:anP)=aqv from rfl,show([47,117,100,112]:anP)=aqw from rfl,hsf];cases J5 s with
  | true=>rw[cond_true,cond_true];exact aqx (s.take (s.length-4)) (s.drop (s.length-3)) (by rw[aeb];omega) (fun r=>r=uR (s.take (s.length-4)) (s.drop (s.length-3))) rfl
  | false=>rw[cond_false,cond_false];exact aqx s [116,99,112] hs (fun r=>r=uR s [116,99,112]) rfl
 ·have hsf:J5 s=false:=by unfold J5;rw[dF hl];rfl
  unfold agX;rw[hsf,dF hl];simp only[aem,ajC,ahV,ak,cond_false];exact aqx s [116,99,112] hs (fun r=>r=uR s [116,99,112]) rfl
end
section
theorem aB9(c:UInt8):(!(p1B (Int.ofNat c.toNat)))=Cw c true:=beq_iff_eq.1 (xM (p:=fun n=>(!(p1B (Int.ofNat n)))==(bif(bif(bif iU (Int.ofNat n)==0 then true else iU (Int.ofNat n)==2)then true else iU (Int.ofNat n)==6)then true else(bif true then decide (3<iU (Int.ofNat n))else false))) (by decide +kernel) c)
theorem aCa(c:UInt8):(!(U5 (Int.ofNat c.toNat)))=Cw c false:=beq_iff_eq.1 (xM (p:=fun n=>(!(U5 (Int.ofNat n)))==(bif(bif(bif iU (Int.ofNat n)==0 then true else iU (Int.ofNat n)==2)then true else iU (Int.ofNat n)==6)then true else(bif false then decide (3<iU (Int.ofNat n))else false))) (by decide +kernel) c)
theorem aCb(c:UInt8):(!(AO (Int.ofNat c.toNat)))=fK c true:=beq_iff_eq.1 (xM (p:=fun n=>(!(AO (Int.ofNat n)))==(bif iU (Int.ofNat n)==0 then true else(bif true then decide (3<iU (Int.ofNat n))else false))) (by decide +kernel) c)
theorem aCc(c:UInt8):(!(xL (Int.ofNat c.toNat)))=fK c false:=beq_iff_eq.1 (xM (p:=fun n=>(!(xL (Int.ofNat n)))==(bif iU (Int.ofNat n)==0 then true else(bif false then decide (3<iU (Int.ofNat n))else false))) (by decide +kernel) c)
theorem anL{f:UInt8->Bool->Bool}{g:Int->Bool}(h:∀c:UInt8,(!(g (Int.ofNat c.toNat)))=f c false):∀s:anP,Np f s false=s.all fun c=>g (Int.ofNat c.toNat)
 | []=>rfl
 | c::t=>by have hc:=h c;rw[aeQ,<- anL h t];simp only[Np,<- hc];cases g (Int.ofNat c.toNat)<;>rfl
theorem aj5{f:UInt8->Bool->Bool}{g1 g2:Int->Bool}(h1:∀c:UInt8,(!(g1 (Int.ofNat c.toNat)))=f c true)(h2:∀c:UInt8,(!(g2 (Int.ofNat c.toNat)))=f c false)(s:anP):oh g1 g2 s=bO f s:=by
 unfold oh bO;cases s with
 | nil=>rfl
 | cons c t =>
  cases(bif decide ((((c::t).length:Nat):Int)<1)then true else decide ((24:Int)<(((c::t).length:Nat):Int)))with
  | true=>rfl
  | false =>have e:List.getD (c::t) (Int.toNat 0) 0=c:=rfl;have e2:(c::t).drop 1=t:=rfl;simp only[cond_false,Np,e,e2,h1,anL h2]
theorem aqy(s:anP):oh p1B U5 s=bO Cw s:=aj5 aB9 aCa s
theorem uS(s:anP):oh AO xL s=bO fK s:=aj5 aCb aCc s
theorem aqz{s:anP}(hs:s.length<=1000000):qW s=(Ec s&&(s.headD 0==47)&&((s==[47]) || !(bV 47 (s.drop 1)).any jY)):=by unfold qW;rw[Vz s hs,dS,aj0]
theorem VJ(c:UInt8){e:anP}(he:c∉e):∀t:anP,bV c (t++c::e)=bV c t++[e]
 | []=>by
  show bV c (c::e)=_
  conv=>lhs;unfold bV
  rw[show(c==c)=true by simp,cond_true,zC c he];rfl
 | a::t=>by
  show bV c (a::(t++c::e))=_;have ih:=VJ c he t
  conv=>lhs;unfold bV
  conv=>rhs;unfold bV
  rw[ih];cases a==c with
  | true=>rfl
  | false =>
   rw[cond_false,cond_false];cases hc:bV c t with
   | nil=>exact absurd hc (o7 c t)
   | cons w r=>rfl
theorem abM(c:UInt8):∀{s:anP},c∈s->∃t b,s=t++c::b/\c∉b
 | x::r,h=>by
  by_cases hr:c∈r
  ·obtain⟨t,b,rfl,h2⟩:=abM c hr;exact⟨x::t,b,rfl,h2⟩
  ·have:x=c:=by
    rcases amG.1 h with h | h
    ·exact h.symm
    ·exact absurd h hr
   subst this;exact⟨[],r,rfl,hr⟩
def roE:anP:=[58,114,111]
def rwE:anP:=[58,114,119]
def Tf(s:anP):Bool:=bif decide ((3:Int)<=(s.length:Int))then(bif s.drop (s.length-3)==roE then true else s.drop (s.length-3)==rwE)else false
def VK(s:anP):fZ×Int:=bif Tf s then JI (bV 58 (s.take (s.length-3))) ((((s.getD (s.length-1) 0).toNat:Nat):Int)==111)else JI (bV 58 s) false
theorem anM{s:anP}(h:Tf s=true):∃e,s=s.take (s.length-3)++58::e/\(e=[114,111]\/e=[114,119])/\3<=s.length:=by
 unfold Tf at h;by_cases hl:(3:Int)<=(s.length:Int)
 ·rw[dT hl,cond_true]at h;cases h1:s.drop (s.length-3)==roE with
  | true =>have h1:s.drop (s.length-3)=58::[114,111]:=eq_of_beq h1;exact⟨_,by rw[<- h1,ahb],.inl rfl,by omega⟩
  | false =>rw[h1]at h;have h1:s.drop (s.length-3)=58::[114,119]:=eq_of_beq h;exact⟨_,by rw[<- h1,ahb],.inr rfl,by omega⟩
 ·rw[dF hl]at h;cases h
theorem aF2{e:anP}(he:e=[114,111]\/e=[114,119]):(58:UInt8)∉e:=by rcases he with rfl | rfl<;>decide
theorem atj{t e:anP}(he:e=[114,111]\/e=[114,119]):Tf (t++58::e)=true/\(t++58::e).take ((t++58::e).length-3)=t/\((((t++58::e).getD ((t++58::e).length-1) 0).toNat:Nat):Int)=(if e=[114,111]then 111 else 119):=by
 have h2:e.length=2:=by rcases he with rfl | rfl<;>rfl
 have hl:(t++58::e).length=t.length+3:=by rw[List.length_append,List.length_cons,h2]
 have hd:(t++58::e).drop ((t++58::e).length-3)=58::e:=by rw[hl,show t.length+3-3=t.length by omega];simp
 refine⟨?_,by rw[hl,show t.length+3-3=t.length by omega];simp,?_⟩
 ·unfold Tf;rw[dT (show(3:Int)<=((t++58::e).length:Int) by rw[hl];omega),hd];rcases he with rfl | rfl<;>rfl
 ·rw[hl,show t.length+3-1=t.length+2 by omega];have:(t++58::e).getD (t.length+2) 0=e.getD 1 0:=by
   rw[List.getD,List.getD,aeD (by omega),show t.length+2-t.length=2 by omega];rfl
  rw[this];rcases he with rfl | rfl<;>rfl
theorem atl(s:anP):VK s=nS s:=by
 unfold VK nS mEn VA;rw[zB];by_cases Yq:(58:UInt8)∈s
 ·obtain⟨t,b,rfl,hb⟩:=abM 58 Yq;have hc:=VJ 58 hb t;have hne:=o7 58 t;have hpos:=List.length_pos_iff.2 hne;rw[hc];have hlen:(bV 58 t++[b]).length=(bV 58 t).length+1:=by rw[List.length_append,aay]
  have hla:(bV 58 t++[b]).getD ((bV 58 t++[b]).length-1) []=b:=by rw[hlen,Nat.add_sub_cancel,List.getD,aeD (abH _),Nat.sub_self];rfl
  have htk:(bV 58 t++[b]).take ((bV 58 t++[b]).length-1)=bV 58 t:=by rw[hlen,Nat.add_sub_cancel];simp
  rw[hla,htk,dT (show(1:Int)<((bV 58 t++[b]).length:Int) by rw[hlen];omega),cond_true];by_cases he:b=[114,111]\/b=[114,119]
  ·obtain⟨q1,q2,q3⟩:=atj (t:=t) he;have hx:(bif b==[114,111]then true else b==[114,119])=true:=by rcases he with rfl | rfl<;>rfl
   rw[q1,q2,q3,hx,cond_true,cond_true];rcases he with rfl | rfl<;>rfl
  ·have hx:(bif b==[114,111]then true else b==[114,119])=false:=by
    have h1:(b==[114,111])=false:=by simpa using fun e=>he (.inl e)
    have h2:(b==[114,119])=false:=by simpa using fun e=>he (.inr e)
    rw[h1,h2];rfl
   rw[hx];cases hs:Tf (t++58::b)with
   | false=>rfl
   | true =>obtain⟨e,h1,h2,_⟩:=anM hs;have h3:=VJ 58 (aF2 h2) ((t++58::b).take ((t++58::b).length-3));rw[<- h1,hc]at h3;have:=(List.append_inj' h3 rfl).2;exact absurd ((List.cons.inj this).1▸h2) he
 ·have hc:=zC 58 Yq;have hs:Tf s=false:=by
   cases hs:Tf s with
   | false=>rfl
   | true =>obtain⟨e,h1,_⟩:=anM hs;exact absurd (h1▸anB _ aa1) Yq
  rw[hs,hc];rfl
theorem azJ:qW []=false:=by rw[aqz (by decide)];rfl
theorem av5{l:List (anP)}(h:3<=l.length)(ro:Bool):JI l ro=(mz,3):=by unfold JI vK tJ;rw[dP (show(l.length:Int)≠1 by omega),dP (show(l.length:Int)≠2 by omega)];dsimp only;rw[azJ];rfl
theorem Xd{s:anP}(h:Ec s=true):(58:UInt8)∉s/\s≠[]/\s.length<=64:=by
 unfold Ec at h;rw[abG]at h;refine⟨fun hm=>?_,?_⟩
 ·have:=afe.1 h.1 58 hm;exact absurd this (by decide)
 ·have h2:=h.2;cases he:s==[]with
  | true=>rw[he]at h2;cases h2
  | false =>rw[he]at h2;exact⟨by simpa using he,by have:=of_decide_eq_true h2;omega⟩
theorem aj6{s:anP}(hs:s.length<=1000000)(h:qW s=true):(58:UInt8)∉s/\s.length<=64/\∃r,s=47::r:=by
 rw[aqz hs]at h;simp only[abG]at h;obtain⟨a,b,c⟩:=Xd h.1.1;refine⟨a,c,?_⟩;cases s with
 | nil=>exact absurd rfl b
 | cons x r=>exact⟨r,by rw[show x=47 by simpa using h.1.2]⟩
theorem atm:∀(s:anP) (b:Bool),Np fK s b=true->(58:UInt8)∉s
 | [],_,_=>by simp
 | c::t,b,h=>by
  unfold Np at h;have h':fK c b=false/\Np fK t false=true:=by
   cases hb:fK c b with
   | true=>rw[hb]at h;simp at h
   | false=>rw[hb]at h;simpa using h
  intro hm;rcases amG.1 hm with hm | hm
  ·rw[<- hm]at h';have:=h'.1;cases b<;>exact absurd this (by decide)
  ·exact atm t false h'.2 hm
theorem azK{s:anP}(h:bO fK s=true):(58:UInt8)∉s:=by
 unfold bO at h;cases hb:(bif decide ((s.length:Int)<1)then true else decide ((24:Int)<(s.length:Int)))with
 | true=>rw[hb]at h;cases h
 | false=>rw[hb]at h;exact atm s true h
theorem aj7{m:fZ}(_:m.target.length<=1000000)(h:tJ m=true):qW m.target=true/\(58:UInt8)∉m.source/\m.source.length<=64:=by
 unfold tJ at h;cases ht:qW m.target with
 | false=>rw[ht]at h;cases h
 | true =>
  rw[ht,cond_true]at h;refine⟨rfl,?_⟩;cases h0:m.source==[]with
  | true =>
   have:m.source=[]:=by simpa using h0
   rw[this];exact⟨by simp,by decide⟩
  | false =>
   rw[h0,cond_false,uS]at h;cases hn:bO fK m.source with
   | true=>exact⟨azK hn,by have:=Vb hn;omega⟩
   | false =>
    rw[hn,cond_false]at h;cases hp:Ec m.source with
    | false=>rw[hp]at h;cases h
    | true=>exact⟨(Xd hp).1,(Xd hp).2.2⟩
theorem anN{m:fZ}(h:tJ m=true):vK m=(m,0):=by unfold vK;rw[h];rfl
theorem azL{m:fZ}(hs:m.target.length<=1000000)(h:tJ m=true):JI (bV 58 (Mi m)) m.readOnly=(m,0)/\mEn (Mi m)=false:=by
 obtain⟨h1,h2,h3⟩:=aj7 hs h;obtain⟨t1,t2,r,t3⟩:=aj6 hs h1;have hno:(bif m.target==[114,111]then true else m.target==[114,119])=false:=by rw[t3];rfl
 unfold mEn VA;rw[zB];by_cases h0:m.source=[]
 ·have e:Mi m=m.target:=by unfold Mi;rw[h0];rfl
  rw[e,zC 58 t1];refine⟨?_,rfl⟩;show vK ⟨[],m.target,m.readOnly⟩=_;rw[<- h0];exact anN h
 ·have h0':(m.source==[])=false:=by simpa using h0
  have e:Mi m=m.source++58::m.target:=by unfold Mi;rw[h0'];simp
  rw[e,Ii 58 _ h2,zC 58 t1];refine⟨?_,?_⟩
  ·show(bif m.source==[]then(mz,3)else vK ⟨m.source,m.target,m.readOnly⟩)=_;rw[h0',cond_false];exact anN h
  ·exact hno
theorem anO{m:fZ}(hs:m.target.length<=1000000)(h:tJ m=true):nS (oN m)=(m,0)/\(oN m).length<=200:=by
 obtain⟨h1,h2,h3⟩:=aj7 hs h;obtain⟨t1,t2,r,t3⟩:=aj6 hs h1;have hO:(Mi m).length<=130:=by
  unfold Mi;cases !(m.source==[])with
  | true=>rw[cond_true,List.length_append,List.length_append,aay];omega
  | false=>rw[cond_false];omega
 obtain⟨b1,b2⟩:=azL hs h;unfold oN;rw[h,abI,cond_false];cases hr:m.readOnly with
 | false =>rw[hr]at b1;rw[cond_false];refine⟨?_,by omega⟩;unfold nS;rw[b2,zB];exact b1
 | true =>rw[hr]at b1;rw[cond_true];refine⟨?_,by rw[List.length_append];show _+3<=_;omega⟩;have e:Mi m++[58,114,111]=Mi m++58::[114,111]:=rfl;rw[e,<- atl];unfold VK;obtain⟨q1,q2,q3⟩:=atj (t:=Mi m) (e:=[114,111]) (.inl rfl);rw[q1,q2,q3,cond_true];exact b1
theorem aDJ(s:anP):(nS s).2=0->tJ (nS s).1=true:=by
 have hf:∀m,(vK m).2=0->tJ (vK m).1=true:=fun m=>by
  unfold vK;cases hr:tJ m with
  | true=>exact fun _=>hr
  | false=>exact fun h=>by cases h
 have h2:∀l ro,(JI l ro).2=0->tJ (JI l ro).1=true:=fun l ro=>by
  unfold JI;cases(l.length:Int)==1 with
  | true=>exact hf _
  | false =>
   cases(l.length:Int)==2 with
   | false=>exact hf ⟨[],[],ro⟩
   | true =>
    cases l.getD 0 []==[]with
    | true=>exact fun h=>by cases h
    | false=>exact hf _
 unfold nS;cases mEn s<;>exact h2 _ _
end
section
theorem aDK(c:UInt8):(!(RX ((c.toNat:Nat):Int))) = !(bif((c.toNat:Nat):Int)!=47 then iU ((c.toNat:Nat):Int)==0 else false):=beq_iff_eq.1 (xM (p:=fun n=>(!(RX ((n:Nat):Int))) == !(bif((n:Nat):Int)!=47 then iU ((n:Nat):Int)==0 else false)) (by decide +kernel) c)
theorem abN(s:anP)(hs:s.length<=1000000):wY s=some (Ec s):=by
 refine iY rfl (fun | .e y=>y=s | .h0 v0 v1=>v0=s/\∃i:Nat,v1=(i:Int)/\i<=s.length/\((s.drop i).all fun c=>!(RX ((c.toNat:Nat):Int)))=Ec s) (fun | .e _=>10000000000 | .h0 _ v1=>((s.length:Int)-v1).toNat) rfl (by show 10000000000<_;omega) ?_;rintro(y | ⟨v0,v1⟩) hs'
 ·have hs':y=s:=hs';subst hs';simp only[aM,bg,qG];have hp:Ec y=((y.all fun c=>!(RX ((c.toNat:Nat):Int)))&&(bif !(y==[])then decide ((y.length:Int)<=64)else false)):=rfl;by_cases h0:y=[]
  ·subst h0;rfl
  ·have h1:0<y.length:=List.length_pos_iff.2 h0;grind
 ·obtain⟨rfl,i,rfl,h1,h2⟩:=hs';simp only[aM,bg,qG];by_cases hi:i<v0.length
  ·have e1:au ((i:Int)+1)=((i+1:Nat):Int):=by rw[aU (by omega) (by omega)];omega
   rw[drop_at hi,aeQ,aDK]at h2;rw[dT (show(i:Int)<(v0.length:Int) by omega),cond_true,wS];refine⟨by omega,by omega,?_⟩;rw[aam,e1,dT (show(0:Int)<=(i:Int) by omega),abW,abZ,ak];grind
  grind
theorem azM{s:anP}{f i:Nat}(h1:f<=i)(hi:i<s.length):cut s (f:Int) ((i+1:Nat):Int)=cut s (f:Int) (i:Int)++[s.getD i 0]:=by
 unfold cut;rw[aam,aam,aam,show i+1-f=(i-f)+1 by omega];have hl:i-f<(s.drop f).length:=by rw[abP];omega
 rw[ag8 hl,List.getElem_drop];grind
theorem aj8(s:anP)(hs:s.length<=1000000):Ck s=some (qW s):=by
 have hT:=aqz hs;refine iY rfl (fun | .e y=>y=s | .h0 v0 v1 v2=>v0=s/\∃f i:Nat,v1=(f:Int)/\v2=(i:Int)/\((f<=i/\i<=s.length/\(!((GV (cut s (f:Int) (i:Int)) (bV 47 (s.drop i))).any jY))=qW s)\/(i=s.length+1/\qW s=true))) (fun | .e _=>10000000000 | .h0 _ _ v2=>((s.length:Int)+1-v2).toNat) rfl (by show 10000000000<_;omega) ?_;rintro(y | ⟨v0,v1,v2⟩) hs'
 ·have hs':y=s:=hs';subst hs';simp only[aM,bg,oH,abN y hs,aG];cases hp:Ec y with
  | false =>rw[hp]at hT;simp only[aem,abI,ahV,ak,cond_true];rw[hT];rfl
  | true =>
   rw[hp,aeP]at hT;have hne:=(Xd hp).2.1
   match y,hne,hT with
   | c::r,_,hT =>
    have h0:decide ((0:Int)<((c::r).length:Int))=true:=dT (by simp only[List.length_cons];omega);have hb:((((c::r).getD (Int.toNat 0) 0).toNat:Nat):Int)=((c.toNat:Nat):Int):=rfl;rw[h0,hb];simp only[abI,aem,Bool.and_true,Bool.or_false,ak,cond_false,show decide ((0:Int)<=0)=true from rfl];by_cases h47:c=47
    ·subst h47;have e1:((((47:UInt8).toNat:Nat):Int)!=47)=false:=rfl;rw[e1,cond_false];have hT:qW (47::r)=((((47:UInt8)::r)==[47]) || !(bV 47 r).any jY):=hT;cases hz:((47:UInt8)::r)==[47]with
     | true=>rw[hz]at hT;exact hT.symm
     | false =>
      rw[hz,ajB]at hT;rw[cond_false];refine⟨⟨trivial,1,1,rfl,rfl,.inl ⟨abH _,by simp only[List.length_cons];omega,?_⟩⟩,?_⟩
      ·rw[hT];have:GV (cut (47::r) ((1:Nat):Int) ((1:Nat):Int)) (bV 47 (List.drop 1 (47::r)))=bV 47 r:=RZ (o7 47 r);rw[this]
      ·show(((47::r).length:Int)+1-1).toNat<10000000000;omega
    ·have e1:(((c.toNat:Nat):Int)!=47)=true:=by
      rw[bne_iff_ne];exact fun e=>h47 (UInt8.toNat_inj.1 (by show c.toNat=47;omega))
     grind
 ·obtain⟨rfl,f,i,rfl,rfl,h⟩:=hs';simp only[aM,bg,oH,aam];rcases h with⟨h1,h2,h3⟩ | ⟨rfl,h3⟩
  ·have e1:au ((i:Int)+1)=((i+1:Nat):Int):=by rw[aU (by omega) (by omega)];omega
   have kc:bM v0 (f:Int) (i:Int)=true:=by simp[bM];omega
   rw[dT (show(i:Int)<=(v0.length:Int) by omega),cond_true,(ckD i v0 false).2,ak,e1,kc,ak];have hbd:∀w:anP,(bif(bif w==[]then true else w==[46])then true else w==[46,46])=jY w:=fun _=>rfl
   rw[hbd];have hM:((v0.length:Int)+1-((i+1:Nat):Int)).toNat<((v0.length:Int)+1-(i:Int)).toNat:=by omega
   by_cases hi:i<v0.length
   ·rw[drop_at hi,bV]at h3;rw[dT (show(i:Int)<(v0.length:Int) by omega),cond_true];cases hc:(v0.getD i 0==47)with
    | false =>
     have e2:((((v0.getD i 0).toNat:Nat):Int)!=47)=true:=by rw[bne_iff_ne];intro e;have:v0.getD i 0=47:=UInt8.toNat_inj.1 (by show(v0.getD i 0).toNat=47;omega);rw[this]at hc;cases hc
     rw[hc,cond_false,ajY,<- azM h1 hi]at h3;rw[e2,cond_true];exact⟨⟨trivial,f,i+1,rfl,rfl,.inl ⟨by omega,by omega,h3⟩⟩,hM⟩
    | true =>
     have e2:((((v0.getD i 0).toNat:Nat):Int)!=47)=false:=by rw[show v0.getD i 0=47 by simpa using hc];rfl
     rw[hc,cond_true,aff _ (o7 47 _),afa,aj3]at h3;rw[e2,cond_false];cases hw:jY (cut v0 (f:Int) (i:Int))with
     | true=>rw[hw]at h3;exact h3
     | false =>
      rw[hw,ajB]at h3;rw[cond_false];refine⟨⟨trivial,i+1,i+1,rfl,rfl,.inl ⟨abH _,by omega,?_⟩⟩,hM⟩;have hz:cut v0 ((i+1:Nat):Int) ((i+1:Nat):Int)=[]:=by unfold cut;rw[Nat.sub_self];rfl
      rw[hz,RZ (o7 47 _)];exact h3
   ·rw[aa7 (by omega)]at h3;have h3:(!(jY (cut v0 (f:Int) (i:Int)++[])||false))=qW v0:=h3;rw[abR,Bool.or_false]at h3;rw[dF (show ¬ (i:Int)<(v0.length:Int) by omega),cond_false];cases hw:jY (cut v0 (f:Int) (i:Int))with
    | true=>rw[hw]at h3;exact h3
    | false =>rw[hw]at h3;rw[cond_false];exact⟨⟨trivial,i+1,i+1,rfl,rfl,.inr ⟨by omega,h3.symm⟩⟩,hM⟩
  ·rw[dF (show ¬ ((v0.length+1:Nat):Int)<=(v0.length:Int) by omega),cond_false];exact h3.symm
theorem Jh(m:fZ)(hs:m.source.length<=1000000)(ht:m.target.length<=1000000):iw m=some (tJ m):=by
 refine dB rfl ?_;simp only[aM,bg,vD,aj8 m.target ht,abN m.source hs,aG];have hh:((m.source.length:Int)==0)=(m.source==[]):=by
  cases m.source with
  | nil=>rfl
  | cons c t=>grind
 rw[hh,<- uS];unfold tJ;cases qW m.target with
 | false=>rfl
 | true =>
  simp only[abI,cond_false,cond_true];cases hc:(bif m.source==[]then true else oh AO xL m.source)with
  | true=>rfl
  | false =>
   have h0:m.source≠[]:=by intro e;rw[e]at hc;cases hc
   have hl:decide ((0:Int)<(m.source.length:Int))=true:=dT (by have:=List.length_pos_iff.2 h0;omega);rw[hl];rfl
theorem aqA(m:fZ)(hs:m.source.length<=1000000)(ht:m.target.length<=1000000):E5 m=some (oN m):=by
 refine dB rfl ?_;simp only[aM,bg,w9,Jh m hs ht,aG];have hh:decide ((0:Int)<(m.source.length:Int)) = !(m.source==[]):=by
  cases m.source with
  | nil=>rfl
  | cons c t=>grind
 rw[hh,dT (show m.source.length+([58]:anP).length<=aA by rw[ms,aay];omega),dT (show(m.source++([58]:anP)).length+m.target.length<=aA by rw[ms,List.length_append,aay];omega),dT (show((m.source++([58]:anP))++m.target).length+([58,114,111]:anP).length<=aA by rw[ms,List.length_append,List.length_append,aay];show _+3<=_;omega),dT (show m.target.length+([58,114,111]:anP).length<=aA by rw[ms];show _+3<=_;omega)];unfold oN Mi;simp only[ak];grind
theorem av6{a b:anP}(ha:(58:UInt8)∉a)(hb:(58:UInt8)∉b):bV 58 (a++58::b)=[a,b]:=by rw[Ii 58 _ ha,zC 58 hb]
def mkA(t:anP)(at_ c:Int):Prop:=c=(t.count 58:Int)/\(t.count 58=0->at_ = -1)/\(t.count 58=1->∃a b,t=a++58::b/\(58:UInt8)∉a/\(58:UInt8)∉b/\at_=(a.length:Int))
theorem av7{t:anP}{at_ c:Int}(h:mkA t at_ c)(x:UInt8):(x≠58->mkA (t++[x]) at_ c)/\(x=58->mkA (t++[x]) (t.length:Int) (c+1)):=by
 obtain⟨h1,h2,h3⟩:=h;constructor
 ·intro hx;have hc:(t++[x]).count 58=t.count 58:=by rw[List.count_append];simp[hx]
  refine⟨by rw[hc];exact h1,by rw[hc];exact h2,fun h=>?_⟩;grind
 ·rintro rfl;have hc:(t++[58]).count 58=t.count 58+1:=by rw[List.count_append];simp
  refine⟨by rw[hc];omega,fun h=>by omega,fun h=>⟨t,[],rfl,?_,by simp,rfl⟩⟩;exact List.count_eq_zero.1 (by omega)
theorem amb(s t:anP)(ro:Bool)(_:s.length<=1000000)(hR:JI (bV 58 t) ro=VK s)(ht:t.length<=1000000)(v1 v2 v3:Int)(i:Nat)(h3:v3=(i:Int))(hi:i<=t.length)(hA:mkA (t.take i) v1 v2)(I:vE->Prop)(hI:∀(a c:Int) (j:Nat),j<=t.length->i<j->mkA (t.take j) a c->I (.h0 t a c (j:Int) ⟨[],[],false⟩ ⟨[],[],ro⟩)):(lT (.h0 t v1 v2 v3 ⟨[],[],false⟩ ⟨[],[],ro⟩)).run Prop (fun r'=>r'=VK s) I False:=by
 subst h3;simp only[aM,bg,lT];have hcl:(t.take i).count 58<=(t.take i).length:=List.count_le_length;rw[aeb]at hcl;by_cases hlt:i<t.length
 ·have e1:au ((i:Int)+1)=((i+1:Nat):Int):=by rw[aU (by omega) (by omega)];omega
  have e2:au (v2+1)=v2+1:=by have:=hA.1;exact cO (by omega)
  have hg:t.getD i 0=t[i]:=by rw[List.getD,aac hlt];rfl
  obtain⟨m1,m2⟩:=av7 hA (t.getD i 0);have htk:t.take (i+1)=t.take i++[t.getD i 0]:=by rw[ag8 hlt,hg]
  have hlen:((t.take i).length:Int)=(i:Int):=by rw[aeb];omega
  rw[dT (show(i:Int)<(t.length:Int) by omega),cond_true,wS];refine⟨by omega,by omega,?_⟩;rw[aam,e1,e2];by_cases hx:t.getD i 0=58
  ·have hb:((((t.getD i 0).toNat:Nat):Int)==58)=true:=by rw[hx];rfl
   grind
  ·have hb:((((t.getD i 0).toNat:Nat):Int)==58)=false:=dP fun e=>hx (UInt8.toNat_inj.1 (by show(t.getD i 0).toNat=58;omega))
   rw[hb,cond_false];exact hI _ _ (i+1) (by omega) (by omega) (by rw[htk];exact m1 hx)
 ·rw[aeM (by omega)]at hA hcl;obtain⟨h1,h2,h3⟩:=hA;rw[dF (show ¬ (i:Int)<(t.length:Int) by omega),cond_false];have hlen:=ZI 58 t;by_cases hc0:t.count 58=0
  ·have e:=h2 hc0;have hno:(58:UInt8)∉t:=List.count_eq_zero.1 hc0;rw[zC 58 hno]at hR;have hR:vK ⟨[],t,ro⟩=VK s:=hR;have e3:cut t (au (-1+1)) (t.length:Int)=t:=zy t 0;have k3:bM t (au (-1+1)) (t.length:Int)=true:=Ih (aas _);rw[h1,hc0,e];simp only[show decide ((1:Int)<((0:Nat):Int))=false from rfl,show(((-1:Int))==0)=false from rfl,show(((0:Nat):Int)==1)=false from rfl,cond_false,e3,k3,ak,Jh ⟨[],t,ro⟩ (aas _) ht,aG];rw[<- hR];unfold vK;cases tJ ⟨[],t,ro⟩<;>rfl
  ·by_cases hc1:t.count 58=1
   ·obtain⟨a,b,rfl,ha,hb,e⟩:=h3 hc1;rw[av6 ha hb]at hR;have hR:(bif a==[]then(mz,3)else vK ⟨a,b,ro⟩)=VK s:=hR;rw[h1,hc1,e];have hl:(a++58::b).length=a.length+1+b.length:=by rw[List.length_append,List.length_cons];omega
    have e4:au ((a.length:Int)+1)=((a.length+1:Nat):Int):=by rw[aU (by omega) (by omega)];omega
    have e5:cut (a++58::b) 0 (a.length:Int)=a:=by rw[Fw];simp
    have e6:cut (a++58::b) ((a.length+1:Nat):Int) ((a++58::b).length:Int)=b:=by rw[zy];simp
    have k5:bM (a++58::b) 0 (a.length:Int)=true:=Ig (by omega);have k6:bM (a++58::b) ((a.length+1:Nat):Int) ((a++58::b).length:Int)=true:=Ih (by omega);have ha0:((a.length:Int)==0)=(a==[]):=by
     cases a with
     | nil=>rfl
     | cons c t=>rw[dP (by simp only[List.length_cons];omega)];rfl
    simp only[show decide ((1:Int)<((1:Nat):Int))=false from rfl,show(((1:Nat):Int)==1)=true from rfl,cond_false,cond_true,e4,e5,e6,k5,k6,ak,ha0,Jh ⟨a,b,ro⟩ (by show a.length<=_;omega) (by show b.length<=_;omega),aG];rw[<- hR];cases a==[]with
    | true=>rfl
    | false =>rw[cond_false,cond_false];unfold vK;cases tJ ⟨a,b,ro⟩<;>rfl
   ·rw[av5 (by omega)]at hR;rw[h1,dT (show(1:Int)<((t.count 58:Nat):Int) by omega),cond_true,cond_true];exact hR
theorem amc(s:anP)(hs:s.length<=1000000):Dq s=some (nS s):=by
 rw[<- atl];refine iY rfl (fun | .e y=>y=s | .h0 v0 v1 v2 v3 v4 v5=>∃(i:Nat) (ro:Bool),v3=(i:Int)/\i<=v0.length/\v0.length<=1000000/\mkA (v0.take i) v1 v2/\v4=⟨[],[],false⟩/\v5=⟨[],[],ro⟩/\JI (bV 58 v0) ro=VK s) (fun | .e _=>10000000000 | .h0 v0 _ _ v3 _ _=>((v0.length:Int)-v3).toNat) rfl (by show 10000000000<_;omega) ?_;have mk0:∀t:anP,mkA (t.take 0) (-1) 0:=fun t=>⟨rfl,fun _=>rfl,fun h=>by cases h⟩
 rintro(y | ⟨v0,v1,v2,v3,v4,v5⟩) hs'
 ·have hs':y=s:=hs';subst hs';simp only[aM,bg,lT];by_cases hl:(3:Int)<=(y.length:Int)
  ·have e3:au ((y.length:Int)-3)=((y.length-3:Nat):Int):=by rw[aU (by omega) (by omega)];omega
   have e1:au ((y.length:Int)-1)=((y.length-1:Nat):Int):=by rw[aU (by omega) (by omega)];omega
   have hsf:(bif decide ((3:Int)<=(y.length:Int))then(bif y.drop (y.length-3)==roE then true else y.drop (y.length-3)==rwE)else false)=Tf y:=rfl;rw[dT hl]at hsf ⊢;rw[cond_true]at hsf;rw[e3,e1,zy,Fw,Ig (by omega),dT (show(0:Int)<=((y.length-3:Nat):Int) by omega),dT (show((y.length-3:Nat):Int)<=(y.length:Int) by omega),dT (amw (y.length:Int))];simp only[abW,abZ,ak,cond_true];rw[show([58,114,111]:anP)=roE from rfl,show([58,114,119]:anP)=rwE from rfl,hsf];cases hsM:Tf y with
   | true =>
    rw[cond_true,wS];refine⟨by omega,by omega,?_⟩;rw[aam];refine⟨⟨0,_,rfl,aas _,by rw[aeb];omega,mk0 _,trivial,rfl,?_⟩,?_⟩
    ·unfold VK;rw[hsM];rfl
    grind
   | false =>
    rw[cond_false];refine⟨⟨0,false,rfl,aas _,hs,mk0 _,trivial,rfl,?_⟩,?_⟩
    ·unfold VK;rw[hsM];rfl
    grind
  ·have hsM:Tf y=false:=by unfold Tf;rw[dF hl];rfl
   rw[dF hl];simp only[aem,ajJ,ahV,ak,cond_false];refine⟨⟨0,false,rfl,aas _,hs,mk0 _,trivial,rfl,?_⟩,?_⟩
   ·unfold VK;rw[hsM];rfl
   grind
 ·obtain⟨i,ro,h3,hi,hl,hA,rfl,rfl,hR⟩:=hs';refine amb s v0 ro hs hR hl v1 v2 v3 i h3 hi hA _ fun a c j h1 h2 h4=>⟨⟨j,ro,rfl,h1,hl,h4,rfl,rfl,hR⟩,?_⟩
  grind
end
section
def iJ(x:Node):Node:=⟨3,x.text,x.keys,x.kids⟩
def eX(x:Node)(b:Bool):Bool:=!(bif !b then true else decide ((32:Int)<(x.keys.length:Int)))
def eY(x:Node)(b:Bool):Node:=bif eX x b then aK 12 (iJ x)else⟨0,[],[],[]⟩
theorem o8(s:anP)(d:Nat):wg 10000 (d+1) (bI s)=true:=by simp[bI,wg]
theorem agY(d:Nat):wg 10000 (d+1) (⟨0,[],[],[]⟩:Node)=true:=by simp[wg]
def nT(s:anP)(b:Bool):Bool:=bif b then bO LP s else bO fK s
def Ms:List Node->List (anP)
 | []=>[]
 | x::t=>bif x.kind != 1 then[]else x.text::Ms t
def Ij(n:Node):Bool:=bif n.kind != 2 then true else decide ((32:Int)<(n.kids.length:Int))
def gI(n:Node):List (anP):=bif Ij n then[]else Ms n.kids
def EC(n:Node):Bool:=bif Ij n then false else(lJ n.kids).isSome
def fi:anP->Nat
 | []=>0
 | c::t=>bif((c.toNat:Int)!=61)then fi t+1 else 0
def VL(f:anP->Bool):List (anP)->Node->Option Node
 | [],o=>some o
 | s::t,o=>bif(bif !(f (s.take (fi s)))then true else fA o.keys (s.take (fi s)))then none else VL f t (aZ o (s.take (fi s)) (bI (s.drop (fi s+1))))
def GX(f:anP->Bool):List (anP)->List Node->Node->Option Node
 | s::t,y::r,o=>bif(bif !(f s)then true else decide ((1:Int)<y.kind))then none else GX f t r (aZ o s (bI y.text))
 | _,_,o=>some o
def rpP(n:Node)(vars:Bool):Option Node:=bif EC n then VL (fun s=>nT s vars) (gI n) zn else bif n.kind != 3 then none else GX (fun s=>nT s vars) n.keys n.kids zn
def oV(q:Option Node):Node:=q.elim zn fun o=>eY o true
def oB(q:Option Node):Bool:=q.elim false fun o=>eX o true
def q8(n:Node)(vars:Bool):Node:=oV (rpP n vars)
def zJ(n:Node)(vars:Bool):Bool:=oB (rpP n vars)
theorem akb:∀l:List Node,(Ms l).length<=l.length
 | []=>abH _
 | x::t=>by
  unfold Ms;cases x.kind != 1 with
  | true=>exact aas _
  | false=>have:=akb t;simp only[cond_false,List.length_cons];omega
theorem ED(n:Node):(gI n).length<=n.kids.length:=by
 unfold gI;cases Ij n with
 | true=>exact aas _
 | false=>exact akb _
theorem akc{B:Nat}:∀l:List Node,(∀y∈l,y.text.length<=B)->∀x∈Ms l,x.length<=B
 | [],_,x,hx=>by cases hx
 | y::t,h,x,hx=>by
  unfold Ms at hx;cases hb:y.kind != 1 with
  | true=>rw[hb]at hx;cases hx
  | false =>
   rw[hb,cond_false]at hx;rcases amG.1 hx with rfl | hx
   ·exact h y aa1
   ·exact akc t (fun z hz=>h z (aa6 _ hz)) x hx
theorem av8{B:Nat}{n:Node}(h:∀y∈n.kids,y.text.length<=B):∀x∈gI n,x.length<=B:=by
 unfold gI;cases Ij n with
 | true=>intro x hx;cases hx
 | false=>exact akc _ h
def Mt(f:anP->Bool):List (anP)->Bool->Node->Node×Bool
 | [],b,o=>(o,b)
 | s::t,b,o=>bif b then Mt f t (f s) (aZ o s zn)else(o,false)
def Cq(n:Node):Bool:=bif n.kind==3 then decide ((n.keys.length:Int)<=32)else false
def Yt(n:Node):Node×Bool:=bif Cq n then Mt (bO fK) n.keys (!(n.kids.any AQ)) zn else Mt (bO fK) (gI n) (EC n) zn
def jQ(n:Node):Node:=eY (Yt n).1 (Yt n).2
def rJ(n:Node):Bool:=eX (Yt n).1 (Yt n).2
theorem KX(n:Node):EC n=qx n:=by
 unfold EC qx Ij;cases hk:n.kind==2 with
 | false=>rw[show(n.kind != 2)=true from by rw[bne,hk];rfl];simp
 | true =>
  rw[show(n.kind != 2)=false from by rw[bne,hk];rfl];simp only[cond_false,cond_true];by_cases h:(32:Int)<(n.kids.length:Int)
  ·rw[dT h,dF (by omega)];simp
  ·rw[dF h,dT (by omega)];simp
theorem anQ:∀(l:List Node) (t:List (anP)),lJ l=some t->Ms l=t
 | [],t,h=>by cases h;rfl
 | x::r,t,h=>by
  unfold lJ at h;unfold Ms;cases hb:x.kind != 1 with
  | true=>rw[hb]at h;cases h
  | false =>
   rw[hb,cond_false]at h;cases hr:lJ r with
   | none=>rw[hr]at h;cases h
   | some q=>rw[hr]at h;cases h;rw[anQ r q hr];rfl
theorem BZ{n:Node}(h:qx n=true):gI n=bH n:=by
 have h':=KX n▸h;unfold EC at h';unfold gI bH;cases h0:Ij n with
 | true=>rw[h0]at h';cases h'
 | false =>
  rw[h0,cond_false]at h';cases ht:lJ n.kids with
  | none=>rw[ht]at h';cases h'
  | some t=>rw[cond_false,anQ _ _ ht];rfl
def GY(n:Node)(k:Int):Bool:=!(bif k==0 then Ki vU n else bif k==1 then Ki BS n else bif k==2 then Kj n else bif k==3 then Ki BR n else Ki sZ n)
def EF(n:Node)(k:Int):Node:=bif GY n k then(bif k==2 then bI (Bd (kJ n.text))else n)else zn
theorem axG(s:anP):0<=kJ s:=by
 unfold kJ JG;cases GL (s.drop (j5 s))with
 | false=>exact amw _
 | true =>
  obtain⟨u0,u3⟩:=agH (s.drop (j5 s));have hb:∀P:Int,1<=P->0<=(fM (s.take (j5 s)) (1125899906842624 / P)).1*P:=fun P h=>Int.mul_nonneg (JB _ _ (Int.ediv_nonneg (by decide) (by omega))).1 (by omega)
  exact hb _ (by rcases Nu u0 u3 with⟨_,h⟩ | ⟨_,h⟩ | ⟨_,h⟩ | ⟨_,h⟩<;>rw[h]<;>decide)
structure Bo (d L:Nat) (o:Node):Prop where
 kind:o.kind=0\/o.kind=3
 len:o.keys.length=o.kids.length
 le:o.keys.length<=L
 kids:∀y∈o.kids,wg 10000 d y=true
theorem Bo.nil{d L:Nat}{k:Int}(hk:k=0\/k=3):Bo d L ⟨k,[],[],[]⟩:=⟨hk,rfl,aas _,fun y h=>by cases h⟩
theorem Bo.put{d L:Nat}{o:Node}(h:Bo d L o){k:anP}{v:Node}(hv:wg 10000 d v=true):Bo d (L+1) (aZ o k v):=by obtain⟨h1,h2,h3,h4⟩:=ER (k:=k) (v:=v) h.kind h.len;exact⟨.inr h1,h2,by have:=h.le;omega,fun y hy=>(h4 y hy).elim (fun e=>by rw[e];exact hv) (h.kids y)⟩
theorem Bo.ok{d L:Nat}{o:Node}(h:Bo d L o)(hL:L<=100000)(k:anP)(v:Node):ig o k v=true:=aji.2 ⟨by have:=h.le;omega,h.len⟩
theorem Bo.Mv{d L:Nat}{o:Node}(h:Bo d L o)(hL:o.keys.length<=10000)(k:Int)(t:anP):wg 10000 (d+1) ⟨k,t,o.keys,o.kids⟩=true :=
 eZ.2 ⟨hL,by show o.kids.length<=10000;rw[<- h.len];exact hL,fun _=>h.len,h.kids⟩
theorem Bo.up{d L:Nat}{o:Node}(e:Nat)(h:Bo d L o):Bo (d+e) L o:=⟨h.kind,h.len,h.le,fun y hy=>wo e (h.kids y hy)⟩
theorem lY(s:anP):ay s=some (bI s):=dB rfl rfl
theorem afh(s:anP)(b:Bool):yC s b=some (nT s b):=dB rfl (by cases b<;>rfl)
theorem abO(o:Node)(b:Bool)(h:o.keys.length<=32->wg 10000 12 (iJ o)=true):aH o b=some (eY o b,eX o b):=by
 refine dB rfl ?_;simp only[aM,bg,wV,aV];have hd:eX o b = !(bif !b then true else decide ((32:Int)<(o.keys.length:Int))):=rfl;unfold eY;cases hc:(bif !b then true else decide ((32:Int)<(o.keys.length:Int)))with
 | true=>rw[hc]at hd;rw[hd];rfl
 | false =>
  rw[hc]at hd;have hl:o.keys.length<=32:=by
   cases b with
   | false=>cases hc
   | true=>have:=of_decide_eq_false hc;omega
  have hw:=h hl;unfold iJ at hw;rw[hd,cond_false,hw,ak];rfl
theorem Bo.done{d L:Nat}{o:Node}(h:Bo d L o)(hd:d<=11)(b:Bool):aH o b=some (eY o b,eX o b):=abO o b fun hl=>by have:=(h.up (11-d)).Mv (by omega) 3 o.text;rwa[show d+(11-d)+1=12 by omega]at this
theorem DK(n:Node):jS n=some (gI n,EC n):=by
 refine iY rfl (fun | .e y=>y=n | .h0 v0 v1 v2 v3=>v0=v3.length/\v2=n/\Ij n=false/\n.kids.length<=32/\∃i:Nat,v1=(i:Int)/\i<=n.kids.length/\v3.length=i/\v3++Ms (n.kids.drop i)=gI n/\(lJ (n.kids.drop i)).isSome=EC n) (fun | .e _=>10000000000 | .h0 _ v1 _ _=>((n.kids.length:Int)-v1).toNat) rfl (by show 10000000000<_;omega) ?_;rintro(y | ⟨v0,v1,v2,v3⟩) hs
 ·have hs:y=n:=hs;subst hs;have e1:gI y=bif Ij y then[]else Ms y.kids:=rfl
  have e2:EC y=bif Ij y then false else(lJ y.kids).isSome:=rfl
  simp only[aM,bg,pQ];change (bif Ij y then _ else _);cases h0:Ij y with
  | true=>rw[h0]at e1 e2;rw[e1,e2];rfl
  | false =>
   rw[h0]at e1 e2;have h32:y.kids.length<=32:=by
    unfold Ij at h0;cases hk:y.kind != 2 with
    | true=>rw[hk]at h0;cases h0
    | false=>rw[hk,cond_false,decide_eq_false_iff_not]at h0;omega
   rw[cond_false];refine⟨⟨rfl,trivial,rfl,h32,0,rfl,aas _,rfl,e1.symm,e2.symm⟩,?_⟩;show((y.kids.length:Int)-0).toNat<10000000000;omega
 ·obtain⟨rfl,rfl,h0,h32,i,rfl,h1,h2,h3,h4⟩:=hs;simp only[aM,bg,pQ];by_cases hi:i<v2.kids.length
  ·have e1:au ((i:Int)+1)=((i+1:Nat):Int):=by rw[aU (by omega) (by omega)];omega
   have hg:v2.kids.getD i (Df.d:Node)=v2.kids[i]:=by rw[List.getD,aac hi];rfl
   have hdr:v2.kids.drop i=v2.kids[i]::v2.kids.drop (i+1):=(aa8 hi).symm;have kb:fV v2.kids (i:Int)=true:=by simp[fV];omega
   rw[hdr,Ms]at h3;rw[hdr,lJ]at h4;rw[dT (show(i:Int)<(v2.kids.length:Int) by omega),cond_true,wI];refine⟨by omega,by omega,?_⟩;rw[aam,hg,e1,kb,ak];generalize v2.kids[i]=x at h3 h4 ⊢;cases hk:x.kind != 1 with
   | true =>rw[hk,cond_true,abR]at h3;rw[hk]at h4;rw[cond_true,h3,<- h4];rfl
   | false =>
    rw[hk,cond_false]at h3 h4;rw[cond_false,dT (show(v3.length+([x.text]:List (anP)).length)*16<=aB by rw[mb,aay];omega),ak];refine⟨⟨by rw[List.length_append],trivial,h0,h32,i+1,rfl,by omega,by rw[List.length_append,aay];omega,by rw[abJ];exact h3,?_⟩,?_⟩
    ·rw[<- h4];cases lJ (v2.kids.drop (i+1))<;>rfl
    ·show((v2.kids.length:Int)-((i+1:Nat):Int)).toNat<((v2.kids.length:Int)-(i:Int)).toNat;omega
  ·rw[aa7 (by omega)]at h3 h4;have h3:v3++[]=gI v2:=h3;rw[abR]at h3;rw[dF (show ¬ (i:Int)<(v2.kids.length:Int) by omega),cond_false,h3,<- h4];rfl
theorem amd(n:Node)(hs:n.text.length<=1000000)(hk:n.kids.length<=1000000):Dl n=some (DC n,He n):=by
 refine iY rfl (fun | .e y=>y=n | .h0 v0 v1 v2 v3 v4 v5 v6=>He n=true/\v0=jV n/\v4=2/\v5=[]/\(jV n).length<=1000000/\∃i:Nat,v1=(i:Int)/\i<=(jV n).length/\v6.length=i/\v6++((jV n).drop i).map bI=(jV n).map bI) (fun | .e _=>10000000000 | .h0 _ v1 _ _ _ _ _=>(((jV n).length:Int)-v1).toNat) rfl (by show 10000000000<_;omega) ?_;rintro(y | ⟨v0,v1,v2,v3,v4,v5,v6⟩) hs'
 ·have hs':y=n:=hs';subst hs';have e1:DC y=bif He y then tX (jV y)else zn:=rfl
  have e2:He y=bif y.kind==1 then ajG y.text==0 else qx y:=rfl
  have e3:jV y=bif y.kind==1 then RU y.text else bH y:=rfl
  have hsp:vo y.text=some (RU y.text,ajG y.text):=al9 y.text hs;simp only[aM,pW,aV,DK,hsp,aG];have start:∀l,l=jV y->He y=true->(jV y).length<=1000000->(((He y=true/\l=jV y/\True/\True/\(jV y).length<=1000000/\∃i:Nat,(0:Int)=(i:Int)/\i<=(jV y).length/\([]:List Node).length=i/\[]++((jV y).drop i).map bI=(jV y).map bI))/\(((jV y).length:Int)-0).toNat<10000000000):=fun l h1 h2 h3=>⟨⟨h2,h1,trivial,trivial,h3,0,rfl,aas _,rfl,rfl⟩,by omega⟩
  cases h1:y.kind==1 with
  | true =>
   rw[h1,cond_true]at e2 e3;rw[cond_true];cases h0:ajG y.text==0 with
   | false=>rw[h0]at e2;rw[e2]at e1;rw[e1,e2];rfl
   | true =>rw[h0]at e2;have:=start (RU y.text) e3.symm e2 (by rw[e3];exact Nat.le_trans (RV _) (by decide));rw[abI,cond_false];exact this
  | false =>
   rw[h1,cond_false]at e2 e3;rw[cond_false,KX];cases h0:qx y with
   | false=>rw[h0]at e2;rw[e2]at e1;rw[e1,e2];rfl
   | true =>rw[h0]at e2;rw[abI,cond_false,BZ h0];exact start (bH y) e3.symm e2 (by rw[e3,<- BZ h0];exact Nat.le_trans (ED y) hk)
 ·obtain⟨h0,rfl,rfl,rfl,hl,i,rfl,h1,h2,h3⟩:=hs';have e1:DC n=tX (jV n):=by unfold DC;rw[h0];rfl
  simp only[aM,bg,pW];by_cases hi:i<(jV n).length
  ·have e2:au ((i:Int)+1)=((i+1:Nat):Int):=by rw[aU (by omega) (by omega)];omega
   have hg:(jV n).getD i (Df.d:anP)=(jV n)[i]:=by rw[List.getD,aac hi];rfl
   have hdr:(jV n).drop i=(jV n)[i]::(jV n).drop (i+1):=(aa8 hi).symm;rw[hdr,ae6]at h3;rw[dT (show(i:Int)<((jV n).length:Int) by omega),cond_true,wI];refine⟨by omega,by omega,?_⟩;rw[aam,hg,e2,lY];simp only[aG];rw[dT (show(v6.length+([bI (jV n)[i]]:List Node).length)*72<=aB by rw[mb,aay];omega),ak];refine⟨⟨h0,trivial,trivial,trivial,hl,i+1,rfl,by omega,by rw[List.length_append,aay];omega,by rw[abJ];exact h3⟩,?_⟩;show(((jV n).length:Int)-((i+1:Nat):Int)).toNat<(((jV n).length:Int)-(i:Int)).toNat;omega
  ·rw[aa7 (by omega),aha,abR]at h3;rw[dF (show ¬ (i:Int)<((jV n).length:Int) by omega),cond_false,h3,e1,h0];rfl
def prI(n:Node)(vars:Bool):pX->Prop
 | .e y0 y1=>y0=n/\y1=vars
 | .h0 v0 v1 v2 _ _ v5=>v0=vars/\v1=gI n/\∃i:Nat,v2=(i:Int)/\i<=(gI n).length/\Bo 1 i v5/\(oV (VL (fun s=>nT s vars) ((gI n).drop i) v5),oB (VL (fun s=>nT s vars) ((gI n).drop i) v5))=(q8 n vars,zJ n vars)
 | .h1 v0 v1 v2 v3 _ _ v6=>v0=vars/\v1=gI n/\∃i a:Nat,v2=(i:Int)/\i<(gI n).length/\v3=(a:Int)/\a<=((gI n).getD i []).length/\a+fi (((gI n).getD i []).drop a)=fi ((gI n).getD i [])/\Bo 1 i v6/\(oV (VL (fun s=>nT s vars) ((gI n).drop i) v6),oB (VL (fun s=>nT s vars) ((gI n).drop i) v6))=(q8 n vars,zJ n vars)
 | .h2 v0 v1 v2 _ _ v5=>v0=vars/\v2=n/\n.keys.length=n.kids.length/\∃i:Nat,v1=(i:Int)/\i<=n.keys.length/\Bo 1 i v5/\(oV (GX (fun s=>nT s vars) (n.keys.drop i) (n.kids.drop i) v5),oB (GX (fun s=>nT s vars) (n.keys.drop i) (n.kids.drop i) v5))=(q8 n vars,zJ n vars)
def prM(n:Node):pX->Nat
 | .e _ _=>10000000000000
 | .h0 _ _ v2 _ _ _=>10000*(((gI n).length:Int)-v2).toNat+9000
 | .h1 _ _ v2 v3 _ _ _=>10000*(((gI n).length:Int)-v2).toNat+(((gI n).getD v2.toNat []).length-v3.toNat)
 | .h2 _ v1 _ _ _ _=>((n.keys.length:Int)-v1).toNat
set_option maxHeartbeats 1000000 in
theorem ame(n:Node)(vars:Bool)(h3:n.kind=3->n.keys.length=n.kids.length)(hk:n.keys.length<=1000)(hl:n.kids.length<=1000)(hy:∀y∈n.kids,y.text.length<=1000):Dm n vars=some (q8 n vars,zJ n vars):=by
 have hll:=ED n;have hx:=av8 hy;refine iY rfl (prI n vars) (prM n) ⟨rfl,rfl⟩ (by show 10000000000000<_;omega) ?_;rintro(⟨y0,y1⟩ | ⟨v0,v1,v2,v3,v4,o⟩ | ⟨v0,v1,v2,v3,v4,v5,o⟩ | ⟨v0,v1,v2,v3,v4,o⟩) hs'
 ·obtain⟨rfl,rfl⟩:=hs';simp only[aM,jT,aV,DK,aG];have e:rpP y0 y1=bif EC y0 then VL (fun s=>nT s y1) (gI y0) zn else bif y0.kind != 3 then none else GX (fun s=>nT s y1) y0.keys y0.kids zn:=rfl
  cases hb:EC y0 with
  | true =>
   rw[hb,cond_true]at e;rw[cond_true];refine⟨⟨rfl,rfl,0,rfl,aas _,Bo.nil (.inl rfl),?_⟩,?_⟩
   ·unfold q8 zJ;rw[e];rfl
   ·show 10000*(((gI y0).length:Int)-0).toNat+9000<10000000000000;omega
  | false =>
   rw[hb,cond_false]at e;rw[cond_false];by_cases h:y0.kind=3
   ·rw[kg h,cond_false]at e;rw[kg h,cond_false];refine⟨⟨rfl,rfl,h3 h,0,rfl,aas _,Bo.nil (.inl rfl),?_⟩,?_⟩
    ·unfold q8 zJ;rw[e];rfl
    ·show((y0.keys.length:Int)-0).toNat<10000000000000;omega
   ·rw[iI h,cond_true]at e;rw[iI h,cond_true];unfold q8 zJ;rw[e];rfl
 ·obtain⟨rfl,rfl,i,rfl,h1,hB,hR⟩:=hs';simp only[aM,bg,jT,aV];by_cases hi:i<(gI n).length
  ·rw[dT (show(i:Int)<((gI n).length:Int) by omega),cond_true];refine⟨⟨rfl,rfl,i,0,rfl,hi,rfl,aas _,by rw[aeh,aeY],hB,hR⟩,?_⟩;have:=qZ hx i;have hg:((gI n).getD i (Df.d:anP))=(gI n).getD i []:=rfl;rw[hg]at this;simp only[prM,aam,Int.toNat_zero];omega
  ·rw[aa7 (by omega)]at hR;rw[dF (show ¬ (i:Int)<((gI n).length:Int) by omega),cond_false,hB.done (by decide)];exact hR
 ·obtain⟨rfl,rfl,i,a,rfl,hi,rfl,h1,h2,hB,hR⟩:=hs';simp only[aM,bg,jT,aV];have hg:(gI n).getD i (Df.d:anP)=(gI n)[i]:=by rw[List.getD,aac hi];rfl
  have hg2:(gI n).getD i []=(gI n)[i]:=hg;have hxi:=hx _ (aeC hi);have hdr:(gI n).drop i=(gI n)[i]::(gI n).drop (i+1):=(aa8 hi).symm;have kb:fV (gI n) (i:Int)=true:=by simp[fV];omega
  rw[wI];refine⟨by omega,by omega,?_⟩;rw[aam,hg];rw[hg2]at h1 h2;rw[hdr]at hR;have hM:∀a':Nat,((gI n).getD i []).length-a'=((gI n)[i]).length-a':=fun a'=>by rw[hg2]
  generalize (gI n)[i]=s at *;have e1:au ((i:Int)+1)=((i+1:Nat):Int):=by rw[aU (by omega) (by omega)];omega
  have e2:au ((a:Int)+1)=((a+1:Nat):Int):=by rw[aU (by omega) (by omega)];omega
  rw[dT (show(0:Int)<=(i:Int) by omega),dT (show(i:Int)<((gI n).length:Int) by omega),e1,e2,kb];simp only[abW,abZ,ak,(ckD a s false).2,aam,afh,aG,lY];have fin:fi s=a->∀val:anP,val=s.drop (fi s+1)->ck (pE o.keys || !(!(!(nT (s.take a) v0)))) False (bif(bif !(nT (s.take a) v0)then true else fA o.keys (s.take a))then((⟨(0:Int),[],[],[]⟩:Node),false)=(q8 n v0,zJ n v0)else ck (ig o (s.take a) (bI val)) False (prI n v0 (.h0 v0 (gI n) ((i+1:Nat):Int) v4 v5 (aZ o (s.take a) (bI val)))/\prM n (.h0 v0 (gI n) ((i+1:Nat):Int) v4 v5 (aZ o (s.take a) (bI val)))<prM n (.h1 v0 (gI n) (i:Int) (a:Int) v4 v5 o))):=by
   intro hf val hv;subst hv;have oL:pE o.keys=true:=wm.2 (by have:=hB.le;omega);rw[oL,abZ,ak,hB.ok (by omega),ak];rw[VL,hf]at hR;cases hb:(bif !(nT (s.take a) v0)then true else fA o.keys (s.take a))with
   | true=>rw[hb]at hR;exact hR
   | false =>rw[hb,cond_false]at hR;rw[cond_false,hf];refine⟨⟨rfl,rfl,i+1,rfl,by omega,hB.put (o8 _ 0),hR⟩,?_⟩;simp only[prM];omega
  by_cases ha:a<s.length
  ·rw[drop_at ha,fi]at h2;rw[dT (show(a:Int)<(s.length:Int) by omega),cond_true];cases hc:((((s.getD a 0).toNat:Nat):Int)!=61)with
   | true =>rw[hc,cond_true]at h2;rw[cond_true];refine⟨⟨rfl,rfl,i,a+1,rfl,hi,rfl,by rw[hg2];omega,by rw[hg2];omega,hB,by rw[hdr];exact hR⟩,?_⟩;simp only[prM,aam,hg2];omega
   | false =>rw[hc,cond_false,ahO]at h2;have k1:bM s ((a+1:Nat):Int) (s.length:Int)=true:=Ih (by omega);rw[cond_false,cond_true,k1,ak,Ig (by omega),ak,Fw,zy];exact fin h2.symm (s.drop (a+1)) (by rw[<- h2])
  ·rw[aa7 (by omega)]at h2;have h2:a+0=fi s:=h2;rw[dF (show ¬ (a:Int)<(s.length:Int) by omega),cond_false,cond_false,cond_false,Ig (by omega),ak,Fw];exact fin (by omega) [] (by rw[aa7 (by omega)])
 ·obtain⟨rfl,rfl,hkl,i,rfl,h1,hB,hR⟩:=hs';simp only[aM,bg,jT,aV];by_cases hi:i<v2.keys.length
  ·have hj:i<v2.kids.length:=by omega
   have e1:au ((i:Int)+1)=((i+1:Nat):Int):=by rw[aU (by omega) (by omega)];omega
   have hg:v2.keys.getD i (Df.d:anP)=v2.keys[i]:=by rw[List.getD,aac hi];rfl
   have hg2:v2.kids.getD i (Df.d:Node)=v2.kids[i]:=by rw[List.getD,aac hj];rfl
   have hg3:v2.kids.getD i (dflt Ty.ah:Node)=v2.kids[i]:=hg2;have kb:fV v2.keys (i:Int)=true:=by simp[fV];omega
   rw[<- aa8 hi,<- aa8 hj,GX]at hR;rw[dT (show(i:Int)<(v2.keys.length:Int) by omega),cond_true,wI];refine⟨by omega,by omega,?_⟩;rw[aam,hg,hg3,e1,kb,afh,dT (show(0:Int)<=(i:Int) by omega),dT (show(i:Int)<(v2.kids.length:Int) by omega)];simp only[aG,abW,abZ,ak];generalize v2.keys[i]=k at hR ⊢;generalize v2.kids[i]=y at hR hg2 ⊢;cases hb:(bif !(nT k v0)then true else decide ((1:Int)<y.kind))with
   | true=>rw[hb]at hR;exact hR
   | false =>rw[hb,cond_false]at hR;rw[cond_false,wI];refine⟨by omega,by omega,?_⟩;rw[aam,hg2,lY];simp only[aG];rw[hB.ok (by omega),ak];refine⟨⟨rfl,rfl,hkl,i+1,rfl,by omega,hB.put (o8 _ 0),hR⟩,?_⟩;simp only[prM];omega
  ·rw[aa7 (show v2.keys.length<=i by omega),GX]at hR
   ·rw[dF (show ¬ (i:Int)<(v2.keys.length:Int) by omega),cond_false,hB.done (by decide)];exact hR
   ·intro _ _ _ _ h;cases h
theorem afi(n:Node)(hk:n.keys.length<=1000)(hl:n.kids.length<=1000):yD n=some (jQ n,rJ n):=by
 have hll:=ED n;refine iY rfl (fun | .e y=>y=n | .h0 v0 v1 v2 v3 _ _=>v0=n.keys/\v3=n/\∃i:Nat,v2=(i:Int)/\i<=n.kids.length/\Mt (bO fK) n.keys (v1 && !((n.kids.drop i).any AQ)) zn=Yt n | .h1 v0 v1 v2 _ _ v5=>v0.length<=1000/\∃i:Nat,v2=(i:Int)/\i<=v0.length/\Bo 1 i v5/\Mt (bO fK) (v0.drop i) v1 v5=Yt n) (fun | .e _=>10000000000 | .h0 _ _ v2 _ _ _=>100000+((n.kids.length:Int)-v2).toNat | .h1 v0 _ v2 _ _ _=>((v0.length:Int)-v2).toNat) rfl (by show 10000000000<_;omega) ?_;rintro(y | ⟨v0,v1,v2,v3,v4,v5⟩ | ⟨v0,v1,v2,v3,v4,o⟩) hs'
 ·have hs':y=n:=hs';subst hs';simp only[aM,bg,nO,aV,DK,aG];have e:Yt y=bif Cq y then Mt (bO fK) y.keys (!(y.kids.any AQ)) zn else Mt (bO fK) (gI y) (EC y) zn:=rfl
  change (bif Cq y then _ else _);cases h0:Cq y with
  | true =>rw[h0,cond_true]at e;refine⟨⟨trivial,trivial,0,rfl,aas _,by rw[e,aeh,aeP]⟩,?_⟩;show 100000+((y.kids.length:Int)-0).toNat<10000000000;omega
  | false =>rw[h0,cond_false]at e;refine⟨⟨by omega,0,rfl,aas _,Bo.nil (.inl rfl),e.symm⟩,?_⟩;show(((gI y).length:Int)-0).toNat<10000000000;omega
 ·obtain⟨rfl,rfl,i,rfl,h1,h2⟩:=hs';simp only[aM,bg,nO];by_cases hi:i<v3.kids.length
  ·have e1:au ((i:Int)+1)=((i+1:Nat):Int):=by rw[aU (by omega) (by omega)];omega
   have hg:v3.kids.getD i (Df.d:Node)=v3.kids[i]:=by rw[List.getD,aac hi];rfl
   rw[<- aa8 hi,aj3]at h2;rw[dT (show(i:Int)<(v3.kids.length:Int) by omega),cond_true,wI];refine⟨by omega,by omega,?_⟩;rw[aam,hg,e1,dT (show(0:Int)<=(i:Int) by omega)];simp only[abW,abZ,ak];have hM:100000+((v3.kids.length:Int)-((i+1:Nat):Int)).toNat<100000+((v3.kids.length:Int)-(i:Int)).toNat:=by omega
   generalize v3.kids[i]=y at h2 ⊢;change (bif AQ y then _ else _);cases hb:AQ y with
   | true =>rw[hb,abZ,abI,ajC]at h2;exact⟨⟨trivial,trivial,i+1,rfl,by omega,by rw[ajJ];exact h2⟩,hM⟩
   | false =>rw[hb,ajB]at h2;exact⟨⟨trivial,trivial,i+1,rfl,by omega,h2⟩,hM⟩
  ·rw[aa7 (by omega),List.any_nil,aem,Bool.and_true]at h2;rw[dF (show ¬ (i:Int)<(v3.kids.length:Int) by omega),cond_false];refine⟨⟨hk,0,rfl,aas _,Bo.nil (.inl rfl),h2⟩,?_⟩;show((v3.keys.length:Int)-0).toNat<100000+_;omega
 ·obtain⟨hv,i,rfl,h1,hB,h2⟩:=hs';simp only[aM,bg,nO,aV];have fin:Mt (bO fK) (v0.drop i) v1 o=(o,v1)->(eY o v1,eX o v1)=(jQ n,rJ n):=fun h=>by
   unfold jQ rJ;rw[<- h2,h]
  by_cases hi:i<v0.length
  ·rw[dT (show(i:Int)<(v0.length:Int) by omega),cond_true];cases v1 with
   | false =>rw[cond_false,hB.done (by decide)];exact fin (by rw[<- aa8 hi];rfl)
   | true =>
    have e1:au ((i:Int)+1)=((i+1:Nat):Int):=by rw[aU (by omega) (by omega)];omega
    have hg:v0.getD i (Df.d:anP)=v0[i]:=by rw[List.getD,aac hi];rfl
    have kb:fV v0 (i:Int)=true:=by simp[fV];omega
    rw[<- aa8 hi,Mt,cond_true]at h2;rw[cond_true,wI];refine⟨by omega,by omega,?_⟩;rw[aam,hg,kb,ak,hB.ok (by omega),ak,e1];refine⟨⟨hv,i+1,rfl,by omega,hB.put (agY 0),h2⟩,?_⟩;show((v0.length:Int)-((i+1:Nat):Int)).toNat<((v0.length:Int)-(i:Int)).toNat;omega
  ·rw[dF (show ¬ (i:Int)<(v0.length:Int) by omega),cond_false,cond_false,hB.done (by decide)];exact fin (by rw[aa7 (by omega)];rfl)
theorem amf(s:anP)(hs:s.length<=1000000):Da s=some (vU s):=by
 refine dB rfl ?_;have e11:cut s 0 11=s.take 11:=Fw s 11;have ed:cut s 11 (s.length:Int)=s.drop 11:=zy s 11;simp only[aM,bg,uY,e11,ed,p9 (s.drop 11) 10 (by rw[abP];omega) (by decide),aG];unfold vU;rw[Vl _ (by decide),ae1 _ (by decide)];by_cases h:(11:Int)<(s.length:Int)
 ·have k:bM s 11 (s.length:Int)=true:=Ih (s:=s) (i:=11) (by omega);rw[dT h,dT (show(11:Int)<=(s.length:Int) by omega),k];simp only[show decide ((0:Int)<=0)=true from rfl,show decide ((0:Int)<=11)=true from rfl,abW,abZ,ak,cond_true];change (bif(s.take 11==J2)then _ else _);cases s.take 11==J2<;>rfl
 ·rw[dF h];simp only[aem,ahV,ak,cond_false];by_cases h2:(11:Int)<=(s.length:Int)
  ·have hl:s.length=11:=by omega
   rw[dT h2,aa7 (by omega),aeM (by omega)];simp only[cond_true];cases hq:s==J2 with
   | false=>rfl
   | true =>
    have:s=J2:=by simpa using hq
    subst this;rfl
  ·rw[dF h2];rfl
theorem atn(n:Node)(k:Int)(hs:n.text.length<=1000000):Gy n k=some (EF n k,GY n k):=by
 refine dB rfl ?_;have e2:(bif rzE n.text==0 then decide ((0:Int)<rzV n.text)else false) = !(bif Yj n.text != 0 then true else kJ n.text==0):=by
  rw[aB0,ajU];have:=axG n.text;rw[ajU]at this;by_cases h:rzE n.text=0
  ·rw[iX h,kg h,cond_true,cond_false];by_cases h2:rzV n.text=0
   ·rw[iX h2,dF (by omega)];rfl
   ·rw[dP h2,dT (by omega)];rfl
  ·rw[dP h,iI h];rfl
 have e4:(bif decide ((1:Int)<=(n.text.length:Int))then decide ((n.text.length:Int)<=64)else false)=sZ n.text:=by
  unfold sZ;cases n.text with
  | nil=>rfl
  | cons c t=>rw[dT (by simp only[List.length_cons];omega)];rfl
 have m1:u6 n.text=some (avY n.text,avZ n.text):=al3 n.text hs;have m2:vg n.text=some (rzV n.text,rzE n.text):=al4 n.text hs;have m3:dL n.text 8=some (Cz n.text 8,N7 n.text 8):=p9 n.text 8 hs (by decide);simp only[aM,bg,yB,aV,amf n.text hs,m1,m2,m3,aqp,lY,aG,e2,e4,<- Vl n.text (most:=8) (by decide)];unfold EF GY Ki Kj BS BR;cases n.kind != 1 with
 | true=>cases k==0<;>cases k==1<;>cases k==2<;>cases k==3<;>rfl
 | false =>
  simp only[cond_false];cases h0:k==0 with
  | true =>have h2:(k==2)=false:=dP (by have:=eq_of_beq h0;omega);rw[h2];simp only[cond_true,cond_false,Bool.not_not];cases vU n.text<;>rfl
  | false =>
   cases h1:k==1 with
   | true =>have h2:(k==2)=false:=dP (by have:=eq_of_beq h1;omega);rw[h2];simp only[cond_true,cond_false,Bool.not_not];cases(bif avZ n.text==0 then decide ((0:Int)<avY n.text)else false)<;>rfl
   | false =>
    cases k==2 with
    | true =>simp only[cond_true,cond_false,<- ajU];cases(bif Yj n.text != 0 then true else kJ n.text==0)<;>rfl
    | false =>
     simp only[cond_false,Bool.not_not];cases k==3 with
     | true=>cases WT n.text 8==0<;>rfl
     | false=>cases sZ n.text<;>rfl
end
section
def eO(n:Node)(l:List (anP)):Bool:=bif n.kind != 3 then false else n.keys.all fun k=>fA l k
def J6(n:Node)(k o:anP):Bool:=bif bU n k o then(bif aO n k o==[116,114,117,101]then true else aO n k o==[102,97,108,115,101])else false
def Mw(n:Node):Node:=bif eO (em n) [cK,sK,rK]then⟨3,[],[cK,rK,sK],[bI (aO (em n) cK mq),bI (aO (em n) rK jZ),bI (aO (em n) sK oM)]⟩else zn
def J7(n:Node):Bool:=bif eO (em n) [cK,sK,rK]then(bif(bif(bif bU (em n) cK mq then J6 (em n) sK oM else false)then J6 (em n) rK jZ else false)then(bif(bif aO (em n) cK mq==mq then true else aO (em n) cK mq==Vj)then true else aO (em n) cK mq==Vk)else false)else false
def rd(g:anP->Bool):List (anP)->List Node->Bool->Node->Node×Bool
 | s::t,y::r,b,o=>bif b then rd g t r (bif J7 y then g s else false) (aZ o s (Mw y))else(o,false)
 | _,_,b,o=>(o,b)
def uT(n:Node):List (anP):=bif Cq n then n.keys else gI n
def rdP(n:Node):Node×Bool:=rd (bO fK) (uT n) (Ce n (uT n)) (bif Cq n then true else EC n) zn
def Mx(n:Node):Node:=eY (rdP n).1 (rdP n).2
def MB(n:Node):Bool:=eX (rdP n).1 (rdP n).2
theorem anR(y:Node):wg 10000 2 (Mw y)=true:=by
 unfold Mw;cases eO (em y) [cK,sK,rK]with
 | false=>rfl
 | true=>simp[wg,bI]
def MC(m:Node):Bool:=bif(bif(bif(bif !(bU m jf [])then true else !(bU m l7 xS))then true else !(bO fK (aO m jf [])))then true else decide (((aO m l7 xS).length:Int)<1))then true else decide ((64:Int)<((aO m l7 xS).length:Int))
def vL(n:Node):Node:=bif !(eO (jg n) [jf,l7])then zn else bif MC (jg n)then zn else eY (jg n) true
def EG(n:Node):Bool:=bif !(eO (jg n) [jf,l7])then false else bif MC (jg n)then false else eX (jg n) true
def qO(n:Node)(k:anP)(_:Int):anP:=bif aD n k then yV (vJ (aJ n k).text)else[]
def ME(n:Node)(k:anP)(l:Int):Bool:=bif aD n k then(bif(bif(aJ n k).kind==1 then adq (aJ n k).text==0 else false)then decide (l<=vJ (aJ n k).text)else false)else true
def mV(n:Node)(k:anP):Int:=bif aD n k then Cz (aJ n k).text 65536 else 0
def Nw(n:Node)(k:anP):Bool:=bif aD n k then(bif(bif(aJ n k).kind==1 then N7 (aJ n k).text 65536==0 else false)then decide (0<Cz (aJ n k).text 65536)else false)else true
def Tg:List (anP):=[bR,dX,fD,bT,iV]
def R5(n:Node):Node:=bif aD n bR then aZ zn bR (bI (JF (aJ n bR)))else zn
def vM(n:Node)(k:anP)(l:Int)(o:Node):Node:=bif !(qO n k l==[])then aZ o k (bI (qO n k l))else o
def OJ(n o:Node):Node:=bif decide (0<mV n bT)then aZ o bT (bI (bq (mV n bT)))else o
def rO(n:Node):Node:=OJ n (vM n fD 0 (vM n dX 1 (R5 n)))
def Ik(n:Node):anP:=bif aD n bR then(bif JE (aJ n bR)==2 then jZ else aO n iV oM)else aO n iV oM
def VN(n:Node):Bool:=bif(bif(bif(bif !(J6 n iV oM)then true else !(ME n dX 1))then true else !(ME n fD 0))then true else !(Nw n bT))then true else decide ((10:Int)<mV n bT)
def Hg(n:Node):Bool:=bif !(eO n Tg)then true else bif(bif aD n bR then JE (aJ n bR)==0 else false)then true else VN n
def J8:Node:=⟨3,[],[iV],[bI jZ]⟩
def Bf(n:Node):Node:=bif Hg n then zn else bif Ik n==jZ then J8 else eY (rO n) true
def Bg(n:Node):Bool:=bif Hg n then false else bif Ik n==jZ then true else eX (rO n) true
theorem GZ(n:Node)(l:List (anP))(hk:n.keys.length<=1000000)(hl:pE l=true):fT n l=some (eO n l):=by
 refine iY rfl (fun | .e y0 y1=>y0=n/\y1=l | .h0 v0 v1 v2=>v0=l/\v2=n/\∃i:Nat,v1=(i:Int)/\i<=n.keys.length/\((n.keys.drop i).all fun k=>fA l k)=eO n l) (fun | .e _ _=>10000000000 | .h0 _ v1 _=>((n.keys.length:Int)-v1).toNat) ⟨rfl,rfl⟩ (by show 10000000000<_;omega) ?_;rintro(⟨y0,y1⟩ | ⟨v0,v1,v2⟩) hs
 ·obtain⟨rfl,rfl⟩:=hs;simp only[aM,qF];have e:eO y0 y1=bif y0.kind != 3 then false else y0.keys.all fun k=>fA y1 k:=rfl
  cases h:y0.kind != 3 with
  | true=>rw[h]at e;exact e.symm
  | false =>rw[h]at e;rw[cond_false];refine⟨⟨trivial,trivial,0,rfl,aas _,e.symm⟩,?_⟩;show((y0.keys.length:Int)-0).toNat<10000000000;omega
 ·obtain⟨rfl,rfl,i,rfl,h1,h2⟩:=hs;simp only[aM,bg,qF];by_cases hi:i<v2.keys.length
  ·have e1:au ((i:Int)+1)=((i+1:Nat):Int):=by rw[aU (by omega) (by omega)];omega
   have hg:v2.keys.getD i (Df.d:anP)=v2.keys[i]:=by rw[List.getD,aac hi];rfl
   rw[<- aa8 hi,aeQ]at h2;rw[dT (show(i:Int)<(v2.keys.length:Int) by omega),cond_true,wI];refine⟨by omega,by omega,?_⟩;rw[aam,hg,hl,ak,e1];cases hb:fA v0 v2.keys[i]with
   | false=>rw[hb]at h2;exact h2
   | true =>rw[hb,aeP]at h2;refine⟨⟨trivial,trivial,i+1,rfl,by omega,h2⟩,?_⟩;show((v2.keys.length:Int)-((i+1:Nat):Int)).toNat<((v2.keys.length:Int)-(i:Int)).toNat;omega
  ·rw[aa7 (by omega)]at h2;rw[dF (show ¬ (i:Int)<(v2.keys.length:Int) by omega),cond_false];exact h2
theorem mW(n:Node)(k o:anP)(hf:fit n=true):bJ n k o=some (aO n k o,bU n k o):=by refine dB rfl ?_;simp only[aM,vB,aV,hf,ak];unfold aO bU;cases aD n k<;>rfl
theorem OL(n:Node)(k o:anP)(hf:fit n=true):gD n k o=some (aO n k o,J6 n k o):=by refine dB rfl ?_;simp only[aM,bg,vF,aV,mW n k o hf,aG];rfl
theorem MF(n:Node)(k:anP)(hf:fit n=true)(hl:(aJ n k).text.length<=1000000):oG n k=some (mV n k,Nw n k):=by
 refine dB rfl ?_;simp only[aM,bg,tT,aV,hf,ak,mW n k [] hf,aG];unfold mV Nw;cases g:aD n k with
 | false=>rfl
 | true =>
  have ef:aO n k []=(aJ n k).text:=by unfold aO;rw[g];rfl
  have eb:bU n k []=((aJ n k).kind==1):=by unfold bU;rw[g];rfl
  rw[ef,eb,p9 _ 65536 hl (by decide)];rfl
theorem aqB(n:Node)(k:anP)(l:Int)(hf:fit n=true)(hl:(aJ n k).text.length<=1000000):xB n k l=some (qO n k l,ME n k l):=by
 refine dB rfl ?_;simp only[aM,bg,xA,aV,hf,ak,mW n k [] hf,aG];unfold qO ME;cases g:aD n k with
 | false=>rfl
 | true =>
  have ef:aO n k []=(aJ n k).text:=by unfold aO;rw[g];rfl
  have eb:bU n k []=((aJ n k).kind==1):=by unfold bU;rw[g];rfl
  rw[ef,eb,al7 _ hl];simp only[aG,aqs];rfl
theorem aqC(n:Node)(h1:n.kids.length<=1000)(h2:∀s∈bH n,s.length<=10000):xw n=some (JF n,JE n):=by
 refine dB rfl ?_;simp only[aM,bg,xu,aV,DK,aG,KX];unfold JF JE tsX;cases n.kind==1 with
 | true=>rfl
 | false =>
  cases hb:qx n with
  | false=>rfl
  | true =>
   rw[BZ hb];have hll:(bH n).length<=1000:=by rw[<- BZ hb];exact Nat.le_trans (ED n) h1
   simp only[cond_false,abI];cases hz:(((bH n).length:Int)==0)with
   | true=>rfl
   | false =>
    have hpos:0<(bH n).length:=by
     have:((bH n).length:Int)≠0:=by simpa using hz
     omega
    have kb:fV (bH n) 0=true:=by simp[fV];omega
    have ed:cut (bH n) 1 ((bH n).length:Int)=(bH n).drop 1:=by unfold cut;rw[aam];exact aeM (by rw[abP];exact abH _)
    have kd1:bM (bH n) 1 ((bH n).length:Int)=true:=by simp[bM];omega
    have hj:=aqu ((bH n).drop 1) (by rw[abP];omega) fun s hs=>h2 s (List.mem_of_mem_drop hs)
    rw[cond_false,wI];refine⟨by decide,by omega,?_⟩;have g0:(bH n).getD (Int.toNat 0) (Df.d:anP)=(bH n).getD 0 []:=rfl;have g1:(bH n).getD (Int.toNat 1) (Df.d:anP)=(bH n).getD 1 []:=rfl;rw[g0,kb,ed,kd1,hj];simp only[ak,aG,cond_false];change (bif(bif(bH n).getD 0 []==Vo then((bH n).length:Int)==1 else false)then _ else(bif(bif(bH n).getD 0 []==Vp then((bH n).length:Int)==2 else false)then _ else(bif(bif(bH n).getD 0 []==Vq then decide ((1:Int)<((bH n).length:Int))else false)then _ else _)));cases hn:(bH n).getD 0 []==Vo with
    | true =>
     have h0:(bH n).getD 0 []=Vo:=by simpa using hn
     have e1:((bH n).getD 0 []==Vp)=false:=by rw[h0];rfl
     have e2:((bH n).getD 0 []==Vq)=false:=by rw[h0];rfl
     simp only[e1,e2,cond_true,cond_false];cases(((bH n).length:Int)==1)<;>rfl
    | false =>
     cases hs:(bH n).getD 0 []==Vp with
     | true =>
      have h0:(bH n).getD 0 []=Vp:=by simpa using hs
      have e2:((bH n).getD 0 []==Vq)=false:=by rw[h0];rfl
      simp only[e2,cond_true,cond_false];cases h2:(((bH n).length:Int)==2)with
      | true =>have:=eq_of_beq h2;rw[cond_true,wI];refine⟨by decide,by omega,?_⟩;rw[g1];rfl
      | false=>rfl
     | false =>
      cases(bH n).getD 0 []==Vq with
      | true =>
       simp only[cond_true,cond_false];by_cases h1l:(1:Int)<((bH n).length:Int)
       ·rw[dT h1l];rfl
       ·have hd:(bH n).drop 1=[]:=aa7 (by omega);rw[dF h1l,hd];rfl
      | false=>rfl
theorem abQ(n:Node)(hf:fit n=true):xk n=some (Mw n,J7 n):=by
 refine dB rfl ?_;have fin:∀m:Node,fit m=true->m=em n->cl (fT m [cK,sK,rK]) False fun y1=>bif(!y1)then(zn,false)=(Mw n,J7 n)else(cl (bJ m cK mq) False fun y2=>cl (gD m sK oM) False fun y3=>cl (gD m rK jZ) False fun y4=>cl (ay (y2.1)) False fun y5=>cl (ay (y4.1)) False fun y6=>cl (ay (y3.1)) False fun y7=>((⟨3,[],[cK,rK,sK],[y5,y6,y7]⟩:Node),(bif(bif(bif y2.2 then y3.2 else false)then y4.2 else false)then(bif(bif(y2.1==mq)then true else(y2.1==Vj))then true else(y2.1==Vk))else false))=(Mw n,J7 n)):=by intro m hm he;rw[GZ m _ (rV.1 hm).1.1 rfl];simp only[aG,mW m _ _ hm,OL m _ _ hm,lY];unfold Mw J7;rw[<- he];cases eO m [cK,sK,rK]<;>rfl
 simp only[aM,bg,xg,aV];by_cases h0:n.kind=0
 ·have he:em n=⟨3,[],[],[]⟩:=by unfold em;rw[iX h0];rfl
  rw[iX h0,cond_true];exact fin ⟨3,[],[],[]⟩ rfl he.symm
 ·have he:em n=n:=by unfold em;rw[dP h0];rfl
  rw[dP h0,cond_false];exact fin n hf he.symm
theorem aqD(n:Node)(h3:n.kind=3->n.keys.length=n.kids.length)(hk:n.keys.length<=1000)(hl:n.kids.length<=1000)(hy:∀y∈n.kids,fit y=true):E9 n=some (Mx n,MB n):=by
 have hll:=ED n;have hK:(uT n).length<=1000:=by unfold uT;cases Cq n<;>simp only[cond_true,cond_false]<;>omega
 have hK3:n.kind=3->(uT n).length<=n.kids.length:=fun e=>by have:=h3 e;unfold uT;cases Cq n<;>simp only[cond_true,cond_false]<;>omega
 refine iY rfl (fun | .e y=>y=n | .h0 v0 v1 v2 v3 _ _ v6=>v0=uT n/\v3=n/\∃i:Nat,v2=(i:Int)/\i<=(uT n).length/\Bo 2 i v6/\rd (bO fK) ((uT n).drop i) ((Ce n (uT n)).drop i) v1 v6=rdP n) (fun | .e _=>10000000000 | .h0 v0 _ v2 _ _ _ _=>((v0.length:Int)-v2).toNat) rfl (by show 10000000000<_;omega) ?_;rintro(y | ⟨v0,v1,v2,v3,v4,v5,o⟩) hs'
 ·have hs':y=n:=hs';subst hs';simp only[aM,bg,qH,aV,DK,aG];have e:rdP y=rd (bO fK) (uT y) (Ce y (uT y)) (bif Cq y then true else EC y) zn:=rfl;have eK:uT y=bif Cq y then y.keys else gI y:=rfl
  change (bif Cq y then _ else _);cases h0:Cq y with
  | true =>rw[h0,cond_true]at e eK;refine⟨⟨eK.symm,trivial,0,rfl,aas _,Bo.nil (.inl rfl),e.symm⟩,?_⟩;show((y.keys.length:Int)-0).toNat<10000000000;omega
  | false =>rw[h0,cond_false]at e eK;refine⟨⟨eK.symm,trivial,0,rfl,aas _,Bo.nil (.inl rfl),e.symm⟩,?_⟩;show(((gI y).length:Int)-0).toNat<10000000000;omega
 ·obtain⟨rfl,rfl,i,rfl,h1,hB,h2⟩:=hs';simp only[aM,bg,qH,aV];have fin:rd (bO fK) ((uT v3).drop i) ((Ce v3 (uT v3)).drop i) v1 o=(o,v1)->(eY o v1,eX o v1)=(Mx v3,MB v3):=fun h=>by
   unfold Mx MB;rw[<- h2,h]
  by_cases hi:i<(uT v3).length
  ·rw[dT (show(i:Int)<((uT v3).length:Int) by omega),cond_true];cases v1 with
   | false =>rw[cond_false,hB.done (by decide)];refine fin ?_;rw[<- aa8 hi];cases(Ce v3 (uT v3)).drop i<;>rfl
   | true =>
    have e1:au ((i:Int)+1)=((i+1:Nat):Int):=by rw[aU (by omega) (by omega)];omega
    have hg:(uT v3).getD i (Df.d:anP)=(uT v3)[i]:=by rw[List.getD,aac hi];rfl
    have hM:(((uT v3).length:Int)-((i+1:Nat):Int)).toNat<(((uT v3).length:Int)-(i:Int)).toNat:=by omega
    rw[<- aa8 hi]at h2;rw[cond_true];by_cases hn:v3.kind=3
    ·have hj:i<v3.kids.length:=by have:=hK3 hn;omega
     have hg2:v3.kids.getD i (Df.d:Node)=v3.kids[i]:=by rw[List.getD,aac hj];rfl
     have ed:(Ce v3 (uT v3)).drop i=v3.kids[i]::(Ce v3 (uT v3)).drop (i+1):=by unfold Ce;rw[iX hn,cond_true,aa8 hj]
     rw[ed,rd,cond_true]at h2;rw[iX hn,cond_true,wI];refine⟨by omega,by omega,?_⟩;rw[aam,hg2,abQ _ (hy _ (aeC hj))];simp only[aG];rw[dT (show(0:Int)<=(i:Int) by omega),abW,abZ,ak,wI];refine⟨by omega,by omega,?_⟩;rw[aam,hg,hB.ok (by omega),ak,e1];exact⟨⟨trivial,trivial,i+1,rfl,by omega,hB.put (anR _),h2⟩,hM⟩
    ·have ed:(Ce v3 (uT v3)).drop i=zn::(Ce v3 (uT v3)).drop (i+1):=by
      unfold Ce;rw[dP hn,cond_false,<- List.map_drop,<- List.map_drop,<- aa8 hi];rfl
     rw[ed,rd,cond_true]at h2;rw[dP hn,cond_false,show(⟨0,[],[],[]⟩:Node)=zn from rfl,abQ zn rfl];simp only[aG];rw[dT (show(0:Int)<=(i:Int) by omega),abW,abZ,ak,wI];refine⟨by omega,by omega,?_⟩;rw[aam,hg,hB.ok (by omega),ak,e1];exact⟨⟨trivial,trivial,i+1,rfl,by omega,hB.put (anR _),h2⟩,hM⟩
  ·rw[dF (show ¬ (i:Int)<((uT v3).length:Int) by omega),cond_false,cond_false,hB.done (by decide)];refine fin ?_;rw[aa7 (by omega)];rfl
theorem agc(n:Node)(hf:fit (jg n)=true)(hd:(jg n).kind=3->wg 10000 12 (jg n)=true):Ba n=some (vL n,EG n):=by
 refine dB rfl ?_;have fin:∀m:Node,fit m=true->(m.kind=3->wg 10000 12 m=true)->m=jg n->cl (fT m [jf,l7]) False fun y1=>bif(!y1)then(zn,false)=(vL n,EG n)else(cl (bJ m jf []) False fun y2=>cl (bJ m l7 xS) False fun y3=>bif(bif(bif(bif(bif(!y2.2)then true else(!y3.2))then true else(!((bO fK) (y2.1))))then true else(decide (((y3.1).length:Int)<(1:Int))))then true else(decide ((64:Int)<((y3.1).length:Int))))then(zn,false)=(vL n,EG n)else(cl (aH m true) False fun y4=>(y4.1,y4.2)=(vL n,EG n))):=by
  intro m hm hdm he;rw[GZ m _ (rV.1 hm).1.1 rfl];simp only[aG,mW m _ _ hm];unfold vL EG;rw[<- he];cases hb:eO m [jf,l7]with
  | false=>rfl
  | true =>
   have h3:m.kind=3:=by
    unfold eO at hb;by_cases h:m.kind=3
    ·exact h
    ·rw[iI h]at hb;cases hb
   have hmap:iJ m=m:=by obtain⟨k,t,ks,vs⟩:=m;show(⟨3,t,ks,vs⟩:Node)=_;rw[show k=3 from h3]
   rw[abO m true fun _=>by rw[hmap];exact hdm h3];change (bif MC m then _ else _);cases MC m<;>rfl
 simp only[aM,bg,sV,aV];by_cases h0:n.kind=1
 ·have he:jg n=⟨3,[],[jf],[n]⟩:=by unfold jg;rw[iX h0];rfl
  rw[he]at hf hd;rw[iX h0,cond_true];exact fin ⟨3,[],[jf],[n]⟩ hf hd he.symm
 ·have he:jg n=n:=by unfold jg;rw[dP h0];rfl
  rw[he]at hf hd;rw[dP h0,cond_false];exact fin n hf hd he.symm
def pHD(n o:Node):Prop:=cl (aH o true) False fun y=>(y.1,y.2)=(Bf n,Bg n)
def pH3(n o:Node):Prop:=bif decide ((0:Int)<mV n bT)then(cl (fQ (mV n bT)) False fun y=>cl (ay y) False fun y'=>ck (ig o bT y') False (pHD n (aZ o bT y')))else pHD n o
def pH2(n o:Node):Prop:=bif !(qO n fD 0==[])then(cl (ay (qO n fD 0)) False fun y=>ck (ig o fD y) False (pH3 n (aZ o fD y)))else pH3 n o
def pH1(n o:Node):Prop:=bif !(qO n dX 1==[])then(cl (ay (qO n dX 1)) False fun y=>ck (ig o dX y) False (pH2 n (aZ o dX y)))else pH2 n o
def pHT(n:Node)(off:anP)(o:Node):Prop:=bif VN n then(zn,false)=(Bf n,Bg n)else(bif off==jZ then(cl (ay jZ) False fun y=>((⟨3,[],[iV],[y]⟩:Node),true)=(Bf n,Bg n))else pH1 n o)
theorem aCg(n:Node):0<=mV n bT/\mV n bT<=65536:=by
 unfold mV;cases aD n bT with
 | true=>exact JB _ _ (by decide)
 | false=>exact⟨amw 0,(by decide:(0:Int)<=65536)⟩
theorem ake{n o:Node}{off:anP}{L:Nat}(h:Bo 2 L o)(hL:L<=100)(hR:(Bf n,Bg n)=bif VN n then(zn,false)else bif off==jZ then(J8,true)else(eY (OJ n (vM n fD 0 (vM n dX 1 o))) true,eX (OJ n (vM n fD 0 (vM n dX 1 o))) true)):pHT n off o:=by
 unfold pHT;cases hb:VN n with
 | true=>rw[hb]at hR;exact hR.symm
 | false =>
  rw[hb,cond_false]at hR;rw[cond_false];cases ho:off==jZ with
  | true=>rw[ho]at hR;rw[cond_true,lY];exact hR.symm
  | false =>
   rw[ho,cond_false]at hR;rw[cond_false];have p3:∀{o:Node} {L:Nat},Bo 2 L o->L<=102->(Bf n,Bg n)=(eY (OJ n o) true,eX (OJ n o) true)->pH3 n o:=fun {o L} h hL hR=>by
    have hI:=aCg n;unfold pH3 pHD;unfold OJ at hR;rw[GU _ (by omega)];simp only[aG,lY,h.ok (by omega),ak];cases hd:decide ((0:Int)<mV n bT)with
    | true=>rw[hd]at hR;rw[cond_true,(h.put (o8 _ 1)).done (by decide)];exact hR.symm
    | false=>rw[hd]at hR;rw[cond_false,h.done (by decide)];exact hR.symm
   have p2:∀{o:Node} {L:Nat},Bo 2 L o->L<=101->(Bf n,Bg n)=(eY (OJ n (vM n fD 0 o)) true,eX (OJ n (vM n fD 0 o)) true)->pH2 n o:=fun {o L} h hL hR=>by
    unfold pH2;unfold vM at hR;simp only[aG,lY,h.ok (by omega),ak];cases hd : !(qO n fD 0==[])with
    | true=>rw[hd]at hR;exact p3 (h.put (o8 _ 1)) (by omega) hR
    | false=>rw[hd]at hR;exact p3 h (by omega) hR
   unfold pH1;simp only[aG,lY,h.ok (by omega),ak];cases hd : !(qO n dX 1==[])with
   | true =>
    have e:vM n dX 1 o=aZ o dX (bI (qO n dX 1)):=by unfold vM;rw[hd];rfl
    rw[e]at hR;exact p2 (h.put (o8 _ 1)) (by omega) hR
   | false =>
    have e:vM n dX 1 o=o:=by unfold vM;rw[hd];rfl
    rw[e]at hR;exact p2 h (by omega) hR
theorem akf(n:Node)(hf:fit n=true)(ht:∀k,(aJ n k).text.length<=1000000)(hk:(aJ n bR).kids.length<=1000)(hx:∀s∈bH (aJ n bR),s.length<=10000):Co n=some (Bf n,Bg n):=by
 refine dB rfl ?_;have hte:xw (aJ n [116,101,115,116])=some (JF (aJ n bR),JE (aJ n bR)):=aqC (aJ n bR) hk hx;simp only[aM,bg,tV,aV,GZ n _ (rV.1 hf).1.1 (show pE [([116,101,115,116]:anP),[105,110,116,101,114,118,97,108],[115,116,97,114,116,95,112,101,114,105,111,100],[114,101,116,114,105,101,115],[100,105,115,97,98,108,101]]=true from rfl),OL n _ _ hf,hte,aqB n _ _ hf (ht _),MF n _ hf (ht _),aG,hf,ak];have hz:Bo 2 0 zn:=Bo.nil (.inl rfl);have T:∀(X:Prop),(bif !(eO n Tg)then(zn,false)=(Bf n,Bg n)else(bif aD n bR then(bif JE (aJ n bR)==0 then(zn,false)=(Bf n,Bg n)else(bif JE (aJ n bR)==2 then(cl (ay (JF (aJ n bR))) False fun y=>ck (ig zn bR y) False (pHT n jZ (aZ zn bR y)))else(cl (ay (JF (aJ n bR))) False fun y=>ck (ig zn bR y) False (pHT n (aO n iV oM) (aZ zn bR y)))))else pHT n (aO n iV oM) zn))=X->X:=by
  intro X hX;rw[<- hX];have hR:(Bf n,Bg n)=bif Hg n then(zn,false)else bif Ik n==jZ then(J8,true)else(eY (rO n) true,eX (rO n) true):=by
   unfold Bf Bg;cases Hg n with
   | true=>rfl
   | false=>cases Ik n==jZ<;>rfl
  unfold Hg Ik rO R5 at hR;cases ho:eO n Tg with
  | false=>rw[ho]at hR;exact hR.symm
  | true =>
   rw[ho]at hR;simp only[cond_false,abI,lY,aG,hz.ok (aas _),ak]at hR ⊢;cases hg:aD n bR with
   | false =>rw[hg]at hR;exact ake hz (by decide) hR
   | true =>
    rw[hg]at hR;simp only[cond_true]at hR ⊢;cases hk0:JE (aJ n bR)==0 with
    | true=>rw[hk0]at hR;exact hR.symm
    | false =>
     rw[hk0]at hR;have hq:=hz.put (k:=bR) (v:=bI (JF (aJ n bR))) (o8 _ 1);cases hk2:JE (aJ n bR)==2 with
     | true=>rw[hk2]at hR;exact ake hq (by decide) hR
     | false=>rw[hk2]at hR;exact ake hq (by decide) hR
 exact T _ rfl
end
section
def pkL:List (anP):=[dA,nR,qC,zH]
def ZK(y:Node):Port:=⟨aO y qC [],mV y nR,mV y dA,aO y zH Vw⟩
def VO(y:Node):Bool:=bif(bif(bif !(Nw y dA)then true else !(Nw y nR))then true else !(bU y qC []))then true else !(bU y zH Vw)
def Fx(y:Node):anP:=bif y.kind==1 then(bif(jm y.text).2 != 0 then[]else Ad (jm y.text).1)else bif !(eO y pkL)then[]else bif VO y then[]else Ad (ZK y)
structure Kz (y:Node):Prop where
 text:y.text.length<=1000
 J9:fit y=true
 R6:∀k,(aJ y k).text.length<=1000
theorem Xe{y:Node}(h:∀k,(aJ y k).text.length<=1000)(k o:anP)(ho:o.length<=1000):(aO y k o).length<=1000:=by unfold aO;grind
theorem Ti(y:Node)(h:Kz y):sU y=some (Fx y):=by
 refine dB rfl ?_;have ho:=GZ y pkL (rV.1 h.J9).1.1 rfl;have n1:=MF y dA h.J9 (Nat.le_trans (h.R6 _) (by decide));have n2:=MF y nR h.J9 (Nat.le_trans (h.R6 _) (by decide));have f1:=mW y qC [] h.J9;have f2:=mW y zH Vw h.J9;unfold pkL dA nR qC zH at ho;unfold dA at n1;unfold nR at n2;unfold qC at f1;unfold zH Vw at f2;have hp:=Vy y.text (by have:=h.text;omega);simp only[aM,bg,sS,aV,ama y.text (by have:=h.text;omega),aG,ho,n1,n2,f1,f2];unfold Fx;cases y.kind==1 with
 | true =>
  rw[cond_true,cond_true];cases(jm y.text).2 != 0 with
  | true=>rfl
  | false =>rw[cond_false,cond_false,abL _ (by omega)];rfl
 | false =>
  rw[cond_false,cond_false];change (bif !(eO y pkL)then _ else(bif VO y then _ else _));cases !(eO y pkL)with
  | true=>rfl
  | false =>
   rw[cond_false,cond_false];cases VO y with
   | true=>rfl
   | false =>rw[cond_false,cond_false,abL _ (by have:=Xe h.R6 qC [] (by decide);show(aO y qC []).length<=_;omega)];rfl
def VP:List Node->Node->Option Node
 | [],o=>some o
 | y::t,o=>bif Fx y==[]then none else VP t (aZ o (Fx y) zn)
def Il:List (anP)->List Node->Node->Option Node
 | s::t,y::r,o=>bif(bif(bif y.kind==0 then Fx (bI s)==s else false)then s==[]else true)then none else Il t r (aZ o s zn)
 | _,_,o=>some o
def MG(n:Node):Option Node:=bif(bif decide ((32:Int)<(n.kids.length:Int))then true else decide (n.kind<2))then none else bif n.kind==2 then VP n.kids zn else Il n.keys n.kids zn
def yH(n:Node):Node:=oV (MG n)
def Bh(n:Node):Bool:=oB (MG n)
theorem aCh{s:anP}(h:s.length<=1000):Kz (bI s):=⟨h,rfl,fun _=>aas _⟩
theorem amg(n:Node)(h3:n.kind=3->n.keys.length=n.kids.length)(hkd:n.kind<=3)(hs:∀s∈n.keys,s.length<=1000)(hy:∀y∈n.kids,Kz y):Dp n=some (yH n,Bh n):=by
 refine iY rfl (fun | .e y=>y=n | .h0 v0 v1 _ _ v4=>v1=n/\n.kids.length<=32/\∃i:Nat,v0=(i:Int)/\i<=n.kids.length/\Bo 1 i v4/\((n.kind=2/\VP (n.kids.drop i) v4=MG n)\/(n.kind=3/\Il (n.keys.drop i) (n.kids.drop i) v4=MG n))) (fun | .e _=>10000000000 | .h0 v0 _ _ _ _=>((n.kids.length:Int)-v0).toNat) rfl (by show 10000000000<_;omega) ?_;rintro(y | ⟨v0,v1,v2,v3,o⟩) hs'
 ·have hs':y=n:=hs';subst hs';simp only[aM,bg,pY];have e:MG y=bif(bif decide ((32:Int)<(y.kids.length:Int))then true else decide (y.kind<2))then none else bif y.kind==2 then VP y.kids zn else Il y.keys y.kids zn:=rfl
  cases hc:(bif decide ((32:Int)<(y.kids.length:Int))then true else decide (y.kind<2))with
  | true =>rw[hc]at e;unfold yH Bh;rw[e];rfl
  | false =>
   rw[hc,cond_false]at e;have hl:y.kids.length<=32/\2<=y.kind:=by grind
   rw[cond_false];refine⟨⟨trivial,hl.1,0,rfl,aas _,Bo.nil (.inl rfl),?_⟩,?_⟩
   ·by_cases h2:y.kind=2
    ·rw[iX h2]at e;exact .inl ⟨h2,e.symm⟩
    ·rw[dP h2]at e;exact .inr ⟨by omega,e.symm⟩
   grind
 ·obtain⟨rfl,h32,i,rfl,h1,hB,h2⟩:=hs';simp only[aM,bg,pY,aV];have fin:MG v1=some o->(eY o true,eX o true)=(yH v1,Bh v1):=fun h=>by
   unfold yH Bh;rw[h];rfl
  by_cases hi:i<v1.kids.length
  ·have e1:au ((i:Int)+1)=((i+1:Nat):Int):=by rw[aU (by omega) (by omega)];omega
   have hg:v1.kids.getD i (Df.d:Node)=v1.kids[i]:=by rw[List.getD,aac hi];rfl
   have hM:((v1.kids.length:Int)-((i+1:Nat):Int)).toNat<((v1.kids.length:Int)-(i:Int)).toNat:=by omega
   have hyi:=hy _ (aeC hi);have none_:MG v1=none->((⟨0,[],[],[]⟩:Node),false)=(yH v1,Bh v1):=fun h=>by unfold yH Bh;rw[h];rfl
   rw[dT (show(i:Int)<(v1.kids.length:Int) by omega),cond_true];rcases h2 with⟨hk,h2⟩ | ⟨hk,h2⟩
   ·rw[<- aa8 hi,VP]at h2;rw[iX hk,cond_true,wI];refine⟨by omega,by omega,?_⟩;rw[aam,hg,Ti _ hyi,e1];simp only[aG];cases hb:Fx v1.kids[i]==[]with
    | true=>rw[hb]at h2;exact none_ h2.symm
    | false =>rw[hb,cond_false]at h2;rw[cond_false,hB.ok (by omega),ak];exact⟨⟨trivial,h32,i+1,rfl,by omega,hB.put (agY 0),.inl ⟨hk,h2⟩⟩,hM⟩
   ·have hj:i<v1.keys.length:=by have:=h3 hk;omega
    have hg2:v1.keys.getD i (Df.d:anP)=v1.keys[i]:=by rw[List.getD,aac hj];rfl
    have hg3:v1.keys.getD i (dflt Ty.str:anP)=v1.keys[i]:=hg2;have hsi:=hs _ (aeC hj);rw[<- aa8 hi,<- aa8 hj,Il]at h2;rw[dP (show v1.kind≠2 by omega),cond_false,wI];refine⟨by omega,by omega,?_⟩;rw[aam,hg,hg3,lY,dS,Ti _ (aCh hsi),dS,e1,dT (show(0:Int)<=(i:Int) by omega),dT (show(i:Int)<(v1.keys.length:Int) by omega)];simp only[abW,abZ,ak,aeL];cases hb:(bif v1.kids[i].kind==0 then Fx (bI v1.keys[i])==v1.keys[i]else false)with
    | false =>rw[hb]at h2;exact none_ h2.symm
    | true =>
     rw[hb,cond_true]at h2;rw[cond_true,wI];refine⟨by omega,by omega,?_⟩;rw[aam,hg2];cases hz:v1.keys[i]==[]with
     | true=>rw[hz]at h2;exact none_ h2.symm
     | false =>rw[hz,cond_false]at h2;rw[cond_false,hB.ok (by omega),ak];exact⟨⟨trivial,h32,i+1,rfl,by omega,hB.put (agY 0),.inr ⟨hk,h2⟩⟩,hM⟩
  ·rw[dF (show ¬ (i:Int)<(v1.kids.length:Int) by omega),cond_false,hB.done (by decide)];refine fin ?_;rcases h2 with⟨hk,h2⟩ | ⟨hk,h2⟩
   ·rw[<- h2,aa7 (by omega)];rfl
   ·rw[<- h2,aa7 (show v1.keys.length<=i by have:=h3 hk;omega)];rfl
def VQ:List (anP):=[jC,dA,lU,lV]
def Ka(y:Node):fZ:=⟨aO y jC [],aO y dA [],aO y lU oM==jZ⟩
def akg(y:Node):Bool:=bif(bif(bif(bif(bif bU y jC []then bU y dA []else false)then J6 y lU oM else false)then bU y lV zI else false)then tJ (Ka y)else false)then(bif(bif aO y lV zI==[118,111,108,117,109,101]then true else aO y lV zI==[98,105,110,100])then true else aO y lV zI==[116,109,112,102,115])else false
def qP(y:Node):fZ:=bif y.kind==1 then(nS y.text).1 else bif !(eO y VQ)then mz else Ka y
def Fy(y:Node):Bool:=bif y.kind==1 then(nS y.text).2==0 else bif !(eO y VQ)then false else akg y
theorem axJ{l:List (anP)}{B:Nat}(h:∀x∈l,x.length<=B)(ro:Bool):(JI l ro).1.target.length<=B:=by
 have hg:=fun i=>qZ h i
 have hz:([]:anP).length<=B:=aas _;have hf:∀m:fZ,m.target.length<=B->(vK m).1.target.length<=B:=fun m hm=>by
  unfold vK;cases tJ m with
  | true=>exact hm
  | false=>exact hz
 unfold JI;cases(l.length:Int)==1 with
 | true=>exact hf _ (hg 0)
 | false =>
  cases(l.length:Int)==2 with
  | false=>exact hf ⟨[],[],ro⟩ hz
  | true =>
   cases l.getD 0 []==[]with
   | true=>exact hz
   | false=>grind
theorem av9(s:anP):(nS s).1.target.length<=s.length:=by
 obtain⟨_,_,a3⟩:=D9 s 58 0 (-1);unfold nS;cases mEn s with
 | true=>exact axJ (fun x hx=>a3 x (amF hx)) _
 | false=>exact axJ a3 _
theorem P8(y:Node)(h:Kz y):zZ y=some (qP y,Fy y)/\(qP y).source.length<=1000/\(qP y).target.length<=1000:=by
 have lens:(qP y).source.length<=1000/\(qP y).target.length<=1000:=by
  have h1:=ady y.text;have h2:=av9 y.text;have h3:=h.text;unfold qP;cases y.kind==1 with
  | true=>rw[cond_true];omega
  | false =>
   rw[cond_false];cases !(eO y VQ)with
   | true=>exact⟨aas _,aas _⟩
   | false=>exact⟨Xe h.R6 _ _ (by decide),Xe h.R6 _ _ (by decide)⟩
 refine⟨?_,lens⟩;refine dB rfl ?_;have ho:=GZ y VQ (rV.1 h.J9).1.1 rfl;have f1:=mW y jC [] h.J9;have f2:=mW y dA [] h.J9;have f3:=OL y lU oM h.J9;have f4:=mW y lV zI h.J9;have hR:iw (Ka y)=some (tJ (Ka y)):=Jh _ (Nat.le_trans (Xe h.R6 jC [] (by decide)) (by decide)) (Nat.le_trans (Xe h.R6 dA [] (by decide)) (by decide));unfold VQ jC dA lU lV at ho;unfold jC at f1;unfold dA at f2;unfold lU oM at f3;unfold lV zI at f4;simp only[aM,bg,rH,aV,amc y.text (by have:=h.text;omega),aG,ho,f1,f2,f3,f4];unfold qP Fy;cases y.kind==1 with
 | true=>rfl
 | false =>rw[cond_false,cond_false];change (bif !(eO y VQ)then _ else(ck ((iw (Ka y)).isSome||_) False ((Ka y,(bif(bif(bif(bif(bif bU y jC []then bU y dA []else false)then J6 y lU oM else false)then bU y lV zI else false)then gv (iw (Ka y))else false)then _ else false))=_)));rw[hR];simp only[aeL,abZ,ak,dS];cases !(eO y VQ)<;>rfl
def VR:List Node->Node->Option Node
 | [],o=>some o
 | y::t,o=>bif !(Fy y)then none else VR t (aZ o (qP y).target (bI (oN (qP y))))
def Im:List (anP)->List Node->Node->Option Node
 | s::t,y::r,o=>bif(bif !(Fy y)then true else(bif(bif y.kind != 1 then true else !(y.text==oN (qP y)))then true else !(s==(qP y).target)))then none else Im t r (aZ o (qP y).target (bI (oN (qP y))))
 | _,_,o=>some o
def MH(n:Node):Option Node:=bif(bif decide ((32:Int)<(n.kids.length:Int))then true else decide (n.kind<2))then none else bif n.kind==2 then VR n.kids zn else Im n.keys n.kids zn
def yI(n:Node):Node:=oV (MH n)
def Bj(n:Node):Bool:=oB (MH n)
theorem akh(n:Node)(h3:n.kind=3->n.keys.length=n.kids.length)(hkd:n.kind<=3)(hy:∀y∈n.kids,Kz y):Cn n=some (yI n,Bj n):=by
 refine iY rfl (fun | .e y=>y=n | .h0 v0 v1 _ _ v4=>v1=n/\n.kids.length<=32/\∃i:Nat,v0=(i:Int)/\i<=n.kids.length/\Bo 1 i v4/\((n.kind=2/\VR (n.kids.drop i) v4=MH n)\/(n.kind=3/\Im (n.keys.drop i) (n.kids.drop i) v4=MH n))) (fun | .e _=>10000000000 | .h0 v0 _ _ _ _=>((n.kids.length:Int)-v0).toNat) rfl (by show 10000000000<_;omega) ?_;rintro(y | ⟨v0,v1,v2,v3,o⟩) hs'
 ·have hs':y=n:=hs';subst hs';simp only[aM,bg,oI];have e:MH y=bif(bif decide ((32:Int)<(y.kids.length:Int))then true else decide (y.kind<2))then none else bif y.kind==2 then VR y.kids zn else Im y.keys y.kids zn:=rfl
  cases hc:(bif decide ((32:Int)<(y.kids.length:Int))then true else decide (y.kind<2))with
  | true =>rw[hc]at e;unfold yI Bj;rw[e];rfl
  | false =>
   rw[hc,cond_false]at e;have hl:y.kids.length<=32/\2<=y.kind:=by grind
   rw[cond_false];refine⟨⟨trivial,hl.1,0,rfl,aas _,Bo.nil (.inl rfl),?_⟩,?_⟩
   ·by_cases h2:y.kind=2
    ·rw[iX h2]at e;exact .inl ⟨h2,e.symm⟩
    ·rw[dP h2]at e;exact .inr ⟨by omega,e.symm⟩
   grind
 ·obtain⟨rfl,h32,i,rfl,h1,hB,h2⟩:=hs';simp only[aM,bg,oI,aV];have fin:MH v1=some o->(eY o true,eX o true)=(yI v1,Bj v1):=fun h=>by
   unfold yI Bj;rw[h];rfl
  by_cases hi:i<v1.kids.length
  ·have e1:au ((i:Int)+1)=((i+1:Nat):Int):=by rw[aU (by omega) (by omega)];omega
   have hg:v1.kids.getD i (Df.d:Node)=v1.kids[i]:=by rw[List.getD,aac hi];rfl
   have hM:((v1.kids.length:Int)-((i+1:Nat):Int)).toNat<((v1.kids.length:Int)-(i:Int)).toNat:=by omega
   obtain⟨q1,q2,q3⟩:=P8 _ (hy _ (aeC hi));have hT:=aqA (qP v1.kids[i]) (by omega) (by omega);have none_:MH v1=none->((⟨0,[],[],[]⟩:Node),false)=(yI v1,Bj v1):=fun h=>by unfold yI Bj;rw[h];rfl
   rw[dT (show(i:Int)<(v1.kids.length:Int) by omega),cond_true,wI];refine⟨by omega,by omega,?_⟩;rw[aam,hg,q1];simp only[aG];rw[hT];simp only[aG,lY];rw[dT (show(0:Int)<=(i:Int) by omega),e1];simp only[abW,abZ,ak];rcases h2 with⟨hk,h2⟩ | ⟨hk,h2⟩
   ·rw[<- aa8 hi,VR]at h2;rw[dP (show v1.kind≠3 by omega)];simp only[ajC,ajJ,aem,ahV,ak,cond_false];cases hb:Fy v1.kids[i]with
    | false=>rw[hb]at h2;exact none_ h2.symm
    | true =>rw[hb,abI,cond_false]at h2;rw[abI,cond_false,cond_false,hB.ok (by omega),ak];exact⟨⟨trivial,h32,i+1,rfl,by omega,hB.put (o8 _ 0),.inl ⟨hk,h2⟩⟩,hM⟩
   ·have hj:i<v1.keys.length:=by have:=h3 hk;omega
    have hg3:v1.keys.getD i (dflt Ty.str:anP)=v1.keys[i]:=by rw[List.getD,aac hj];rfl
    rw[<- aa8 hi,<- aa8 hj,Im]at h2;rw[iX hk,hg3,dT (show(i:Int)<(v1.keys.length:Int) by omega)];simp only[abW,abZ,ak,cond_true];cases hb:(bif !(Fy v1.kids[i])then true else(bif(bif v1.kids[i].kind != 1 then true else !(v1.kids[i].text==oN (qP v1.kids[i])))then true else !(v1.keys[i]==(qP v1.kids[i]).target)))with
    | true=>rw[hb]at h2;exact none_ h2.symm
    | false =>rw[hb,cond_false]at h2;rw[cond_false,hB.ok (by omega),ak];exact⟨⟨trivial,h32,i+1,rfl,by omega,hB.put (o8 _ 0),.inr ⟨hk,h2⟩⟩,hM⟩
  ·rw[dF (show ¬ (i:Int)<(v1.kids.length:Int) by omega),cond_false,hB.done (by decide)];refine fin ?_;rcases h2 with⟨hk,h2⟩ | ⟨hk,h2⟩
   ·rw[<- h2,aa7 (by omega)];rfl
   ·rw[<- h2,aa7 (show v1.keys.length<=i by have:=h3 hk;omega)];rfl
def vO(n:Node)(k:Int):Node:=bif decide (k<5)then EF n k else bif k==5 then DC n else bif(bif k==6 then true else k==7)then q8 n (k==6)else bif k==8 then jQ n else bif k==9 then yH n else bif k==10 then yI n else bif k==11 then Mx n else bif k==12 then vL n else Bf n
def tK(n:Node)(k:Int):Bool:=bif decide (k<5)then GY n k else bif k==5 then He n else bif(bif k==6 then true else k==7)then zJ n (k==6)else bif k==8 then rJ n else bif k==9 then Bh n else bif k==10 then Bj n else bif k==11 then MB n else bif k==12 then EG n else Bg n
structure Rz (n:Node):Prop where
 kz:Kz n
 keys:n.keys.length<=1000
 kids:n.kids.length<=1000
 h3:n.kind=3->n.keys.length=n.kids.length
 kd:n.kind<=3
 kl:∀s∈n.keys,s.length<=1000
 ky:∀y∈n.kids,Kz y
 ef:fit (jg n)=true
 ew:(jg n).kind=3->wg 10000 12 (jg n)=true
 tk:(aJ n bR).kids.length<=1000
 tt:∀s∈bH (aJ n bR),s.length<=10000
theorem amh(n:Node)(k:Int)(h:Rz n):Dy n k=some (vO n k,tK n k):=by refine dB rfl ?_;have l1:n.text.length<=1000000:=Nat.le_trans h.kz.text (by decide);have l2:n.kids.length<=1000000:=Nat.le_trans h.kids (by decide);simp only[aM,bg,vI,aV,atn n k l1,amd n l1 l2,ame n (k==6) h.h3 h.keys h.kids (fun y hy=>(h.ky y hy).text),afi n h.keys h.kids,amg n h.h3 h.kd h.kl h.ky,akh n h.h3 h.kd h.ky,aqD n h.h3 h.keys h.kids (fun y hy=>(h.ky y hy).J9),agc n h.ef h.ew,akf n h.kz.J9 (fun k=>Nat.le_trans (h.kz.R6 k) (by decide)) h.tk h.tt,aG];unfold vO tK;grind
end
section
def VT:List (anP):=[adB,adD,adE,adC,adz,adA,Zy,Zz,OH,ZA,OG,ZB,ZC,ZE]
def nbG:List (anP)->Nat->anP->Int
 | [],_,s=>bif s==OI then 8 else -1
 | a::t,i,s=>bif a==s then(i:Int)else nbG t (i+1) s
def rD(s:anP):Int:=nbG VT 0 s
theorem aki(s:anP):Ch s=some (rD s):=by
 refine iY rfl (fun | .e y=>y=s | .h0 v0 v1 v2=>v0=s/\v1=VT/\∃i:Nat,v2=(i:Int)/\i<=14/\nbG (VT.drop i) i s=rD s) (fun | .e _=>10000 | .h0 _ _ v2=>(14-v2).toNat) rfl (by show 10000<_;omega) ?_;rintro(y | ⟨v0,v1,v2⟩) hs'
 ·cases hs';exact⟨⟨rfl,rfl,0,rfl,by decide,rfl⟩,by show(14-0:Int).toNat<10000;decide⟩
 ·obtain⟨rfl,rfl,i,rfl,h1,h2⟩:=hs';simp only[aM,bg,tN];by_cases hi:i<14
  ·have hl:i<VT.length:=hi;have e1:au ((i:Int)+1)=((i+1:Nat):Int):=by rw[aU (by omega) (by omega)];omega
   have hg:VT.getD i (Df.d:anP)=VT[i]:=by rw[List.getD,aac hl];rfl
   rw[<- aa8 hl,nbG]at h2;rw[dT (show(i:Int)<(VT.length:Int) by show(i:Int)<14;omega),cond_true,wI];refine⟨by omega,by show(i:Int)<14;omega,?_⟩;rw[aam,hg,e1];cases hb:VT[i]==v0 with
   | true=>rw[hb]at h2;exact h2
   | false =>rw[hb,cond_false]at h2;exact⟨⟨trivial,trivial,i+1,rfl,by omega,h2⟩,by show(14-((i+1:Nat):Int)).toNat<(14-(i:Int)).toNat;omega⟩
  ·rw[aa7 (show VT.length<=i by show 14<=i;omega),nbG]at h2;rw[dF (show ¬ (i:Int)<(VT.length:Int) by show ¬ (i:Int)<14;omega),cond_false];change (bif v0==OI then(8:Int)=rD v0 else(-1:Int)=rD v0);rw[<- h2];cases v0==OI<;>rfl
theorem Tj(s:anP):sQ s=some (Km s):=by
 refine dB rfl ?_;simp only[aM,bg,sP];have hf:Km s=[120,45].isPrefixOf s:=rfl
 match s,hf with
 | [],hf=>exact hf.symm
 | [a],hf=>rw[hf];simp[List.isPrefixOf,ak]
 | a::b::t,hf =>have h2:decide ((2:Int)<=((a::b::t).length:Int))=true:=dT (by simp only[List.length_cons];omega);have hc:cut (a::b::t) 0 2=[a,b]:=rfl;rw[h2,hc];simp only[show decide ((0:Int)<=0)=true from rfl,show decide ((0:Int)<=2)=true from rfl,abW,abZ,ak,cond_true];rw[hf];have e:List.isPrefixOf [120,45] (a::b::t)=((120==a)&&((45==b)&&true)):=rfl;rw[e,Bool.and_true,Bool.eq_iff_iff];simp only[abG,beq_iff_eq,List.cons.injEq,and_true];exact⟨fun h=>⟨h.1.symm,h.2.symm⟩,fun h=>⟨h.1.symm,h.2.symm⟩⟩
theorem MI{B:Nat}:∀(m n:Nat) (x:Node),wg B n x=true->wg B n (aK m x)=true
 | 0,_,_,h=>h
 | _+1,0,_,h=>by cases h
 | m+1,n+1,x,h=>by
  have hx:=eZ.1 h;unfold aK;by_cases h3:x.kind=3
  ·have hl:=Pl.uK x.keys;rw[iX h3,cond_true];refine eZ.2 ⟨by show(Pl.bn x.keys).length<=_;omega,by show((Pl.bn x.keys).map _).length<=_;rw[List.length_map];omega,fun _=>by simp,fun y hy=>?_⟩;obtain⟨k,hk,rfl⟩:=List.mem_map.1 hy;exact MI m n _ (Uy h (Ux h h3 (Pl.kE.1 hk)))
  ·rw[dP h3,cond_false];refine eZ.2 ⟨aas _,by show(x.kids.map _).length<=_;rw[List.length_map];exact hx.2.1,fun e=>absurd e h3,fun y hy=>?_⟩;obtain⟨z,hz,rfl⟩:=List.mem_map.1 hy;exact MI m n z (hx.2.2.2 z hz)
def q9:List (anP)->List Node->Node->jr
 | k::ks,v::vs,o=>bif Km k then q9 ks vs o else bif decide (rD k<0)then⟨zn,k,10⟩else bif v.kind==0 then q9 ks vs o else bif !(tK v (rD k))then⟨zn,k,10⟩else q9 ks vs (aZ o k (vO v (rD k)))
 | _,_,o=>⟨aK 13 o,[],0⟩
def tu(n:Node):jr:=bif(bif n.kind != 0 then n.kind != 3 else false)then⟨zn,[],10⟩else q9 n.keys n.kids ⟨3,[],[],[]⟩
def Rf1(v:Node):Prop:=Rz v/\∀k,wg 10000 12 (vO v k)=true
theorem agd(n:Node)(hk:n.keys.length<=1000)(h0:n.kind=0->n.keys=[])(h3:n.kind=3->n.keys.length=n.kids.length)(hy:∀y∈n.kids,Rf1 y):Bb n=some (tu n):=by
 refine iY rfl (fun | .e y=>y=n | .h0 v0 v1 _ _ _ _ v6=>v1=n/\n.keys.length<=n.kids.length/\∃i:Nat,v0=(i:Int)/\i<=n.keys.length/\Bo 12 i v6/\q9 (n.keys.drop i) (n.kids.drop i) v6=tu n) (fun | .e _=>10000000000 | .h0 v0 _ _ _ _ _ _=>((n.keys.length:Int)-v0).toNat) rfl (by show 10000000000<_;omega) ?_;have hz:(⟨0,[],[],[]⟩:Node)=zn:=rfl;rintro(y | ⟨v0,v1,v2,v3,v4,v5,o⟩) hs'
 ·have hs':y=n:=hs';subst hs';simp only[aM,bg,nQ];have e:tu y=bif(bif y.kind != 0 then y.kind != 3 else false)then⟨zn,[],10⟩else q9 y.keys y.kids ⟨3,[],[],[]⟩:=rfl
  cases hc:(bif y.kind != 0 then y.kind != 3 else false)with
  | true=>rw[hc]at e;exact e.symm
  | false =>
   rw[hc]at e;rw[cond_false];refine⟨⟨trivial,?_,0,rfl,aas _,Bo.nil (.inr rfl),e.symm⟩,?_⟩
   ·by_cases h:y.kind=0
    ·rw[h0 h];exact aas _
    ·by_cases h':y.kind=3
     ·have:=h3 h';omega
     ·rw[iI h,iI h']at hc;cases hc
   ·show((y.keys.length:Int)-0).toNat<10000000000;omega
 ·obtain⟨rfl,hle,i,rfl,h1,hB,h2⟩:=hs';simp only[aM,bg,nQ,aV,Tj,aki,aG];by_cases hi:i<v1.keys.length
  ·have hj:i<v1.kids.length:=by omega
   have e1:au ((i:Int)+1)=((i+1:Nat):Int):=by rw[aU (by omega) (by omega)];omega
   have hg:v1.keys.getD i (Df.d:anP)=v1.keys[i]:=by rw[List.getD,aac hi];rfl
   have hg2:v1.kids.getD i (Df.d:Node)=v1.kids[i]:=by rw[List.getD,aac hj];rfl
   have kb:fV v1.keys (i:Int)=true:=by simp[fV];omega
   have kb2:fV v1.kids (i:Int)=true:=by simp[fV];omega
   have hM:((v1.keys.length:Int)-((i+1:Nat):Int)).toNat<((v1.keys.length:Int)-(i:Int)).toNat:=by omega
   obtain⟨y1,y2⟩:=hy _ (aeC hj);rw[<- aa8 hi,<- aa8 hj,q9]at h2;rw[dT (show(i:Int)<(v1.keys.length:Int) by omega),cond_true,wI];refine⟨by omega,by omega,?_⟩;rw[aam,hg,e1,kb,kb2];simp only[ak];generalize v1.keys[i]=k at h2 ⊢;cases hf:Km k with
   | true =>rw[hf,cond_true]at h2;exact⟨⟨trivial,hle,i+1,rfl,by omega,⟨hB.kind,hB.len,by have:=hB.le;omega,hB.kids⟩,h2⟩,hM⟩
   | false =>
    rw[hf,cond_false]at h2;rw[cond_false];cases hn:decide (rD k<0)with
    | true=>rw[hn]at h2;exact h2
    | false =>
     rw[hn,cond_false]at h2;rw[cond_false,wI];refine⟨by omega,by omega,?_⟩;rw[aam,hg2];generalize v1.kids[i]=v at y1 y2 h2 ⊢;cases hk0:v.kind==0 with
     | true =>rw[hk0,cond_true]at h2;exact⟨⟨trivial,hle,i+1,rfl,by omega,⟨hB.kind,hB.len,by have:=hB.le;omega,hB.kids⟩,h2⟩,hM⟩
     | false =>
      rw[hk0,cond_false]at h2;rw[cond_false,amh v (rD k) y1];simp only[aG];cases hb:tK v (rD k)with
      | false=>rw[hb]at h2;exact h2
      | true =>rw[hb]at h2;rw[abI,cond_false,hB.ok (by omega),ak];exact⟨⟨trivial,hle,i+1,rfl,by omega,hB.put (y2 _),h2⟩,hM⟩
  ·have hw:wg 10000 13 o=true:=hB.Mv (by have:=hB.le;omega) o.kind o.text;rw[dF (show ¬ (i:Int)<(v1.keys.length:Int) by omega),cond_false,hw,ak,<- h2,aa7 (by omega)];rfl
theorem atq(n:Node)(hk:n.keys.length<=1000)(hy:∀y∈n.kids,Rf1 y):wg 10000 13 (tu n).n=true:=by
 have go:∀(ks:List (anP)) (vs:List Node) (o:Node) (L:Nat),(∀y∈vs,Rf1 y)->Bo 12 L o->L+ks.length<=5000->wg 10000 13 (q9 ks vs o).n=true:=by
  intro ks
  induction ks with
  | nil=>intro vs o L _ hB hL;exact MI 13 13 o (hB.Mv (by have:=hB.le;simp only[List.length_nil]at hL;omega) o.kind o.text)
  | cons k ks ih =>
   intro vs o L hv hB hL;rw[List.length_cons]at hL;cases vs with
   | nil=>exact MI 13 13 o (hB.Mv (by have:=hB.le;omega) o.kind o.text)
   | cons v vs =>
    rw[q9];have hz:wg 10000 13 (⟨zn,k,10⟩:jr).n=true:=rfl;have hv':=fun y hy=>hv y (aa6 _ hy)
    have hB':Bo 12 (L+1) o:=⟨hB.kind,hB.len,by have:=hB.le;omega,hB.kids⟩
    cases Km k with
    | true=>exact ih vs o (L+1) hv' hB' (by omega)
    | false =>
     cases decide (rD k<0)with
     | true=>exact hz
     | false =>
      cases v.kind==0 with
      | true=>exact ih vs o (L+1) hv' hB' (by omega)
      | false =>
       cases tK v (rD k)with
       | false=>exact hz
       | true=>exact ih vs _ (L+1) hv' (hB.put ((hv v aa1).2 _)) (by omega)
 unfold tu;cases(bif n.kind != 0 then n.kind != 3 else false)with
 | true=>rfl
 | false=>exact go n.keys n.kids _ 0 hy (Bo.nil (.inr rfl)) (by omega)
def CG(k:anP):anP:=[115,101,114,118,105,99,101,115,46]++k
def mM:List (anP)->List Node->Node->jr
 | k::ks,v::vs,o=>bif !(bO fK k)then⟨zn,bif k==[]then jw else CG k,10⟩else bif(tu v).e != 0 then⟨zn,bif !((tu v).path==[])then(CG k++[46])++(tu v).path else CG k,(tu v).e⟩else mM ks vs (aZ o k (tu v).n)
 | _,_,o=>bif decide ((16:Int)<(o.keys.length:Int))then⟨zn,jw,9⟩else⟨aK 14 o,[],0⟩
def qc(n:Node):jr:=bif n.kind != 3 then⟨zn,jw,10⟩else mM n.keys n.kids ⟨3,[],[],[]⟩
structure Rs1 (n:Node):Prop where
 keys:n.keys.length<=1000
 h0:n.kind=0->n.keys=[]
 h3:n.kind=3->n.keys.length=n.kids.length
 kids:∀y∈n.kids,Rf1 y
 kl:∀s∈n.keys,s.length<=1000
theorem awc(n:Node)(hl:∀s∈n.keys,s.length<=1000):(tu n).path.length<=1000:=by
 have go:∀(ks:List (anP)) (vs:List Node) (o:Node),(∀s∈ks,s.length<=1000)->(q9 ks vs o).path.length<=1000:=by
  intro ks
  induction ks with
  | nil=>intro vs o _;exact aas _
  | cons k ks ih =>
   intro vs o h;cases vs with
   | nil=>exact aas _
   | cons v vs =>
    rw[q9];have hk:=h k aa1;have h':=fun s hs=>h s (aa6 _ hs)
    cases Km k with
    | true=>exact ih vs o h'
    | false =>
     cases decide (rD k<0)with
     | true=>exact hk
     | false =>
      cases v.kind==0 with
      | true=>exact ih vs o h'
      | false =>
       cases tK v (rD k)with
       | false=>exact hk
       | true=>exact ih vs _ h'
 unfold tu;cases(bif n.kind != 0 then n.kind != 3 else false)with
 | true=>exact aas _
 | false=>exact go n.keys n.kids _ hl
theorem adI(n:Node)(hk:n.keys.length<=1000)(h3:n.kind=3->n.keys.length=n.kids.length)(hl:∀s∈n.keys,s.length<=1000)(hy:∀y∈n.kids,Rs1 y):Ab n=some (qc n):=by
 refine iY rfl (fun | .e y=>y=n | .h0 v0 v1 _ _ _ _ v6=>v1=n/\n.kind=3/\∃i:Nat,v0=(i:Int)/\i<=n.keys.length/\Bo 13 i v6/\mM (n.keys.drop i) (n.kids.drop i) v6=qc n) (fun | .e _=>10000000000 | .h0 v0 _ _ _ _ _ _=>((n.keys.length:Int)-v0).toNat) rfl (by show 10000000000<_;omega) ?_;rintro(y | ⟨v0,v1,v2,v3,v4,v5,o⟩) hs'
 ·have hs':y=n:=hs';subst hs';simp only[aM,mK];have e:qc y=bif y.kind != 3 then⟨zn,jw,10⟩else mM y.keys y.kids ⟨3,[],[],[]⟩:=rfl
  by_cases hc:y.kind=3
  ·rw[kg hc]at e ⊢;rw[cond_false];refine⟨⟨trivial,hc,0,rfl,aas _,Bo.nil (.inr rfl),e.symm⟩,?_⟩;show((y.keys.length:Int)-0).toNat<10000000000;omega
  ·rw[iI hc]at e ⊢;exact e.symm
 ·obtain⟨rfl,hk3,i,rfl,h1,hB,h2⟩:=hs';have hkk:=h3 hk3;simp only[aM,bg,mK,aV];by_cases hi:i<v1.keys.length
  ·have hj:i<v1.kids.length:=by omega
   have e1:au ((i:Int)+1)=((i+1:Nat):Int):=by rw[aU (by omega) (by omega)];omega
   have hg:v1.keys.getD i (Df.d:anP)=v1.keys[i]:=by rw[List.getD,aac hi];rfl
   have hg2:v1.kids.getD i (Df.d:Node)=v1.kids[i]:=by rw[List.getD,aac hj];rfl
   have kb:fV v1.keys (i:Int)=true:=by simp[fV];omega
   have hM:((v1.keys.length:Int)-((i+1:Nat):Int)).toNat<((v1.keys.length:Int)-(i:Int)).toNat:=by omega
   have yi:=hy _ (aeC hj);have ki:=hl _ (aeC hi);rw[<- aa8 hi,<- aa8 hj,mM]at h2;rw[dT (show(i:Int)<(v1.keys.length:Int) by omega),cond_true,wI];refine⟨by omega,by omega,?_⟩;rw[aam,hg,e1,kb];simp only[ak];generalize v1.keys[i]=k at h2 ki ⊢;change (bif !(bO fK k)then ck (decide (([115,101,114,118,105,99,101,115,46]:anP).length+k.length<=aA)) False (bif k==[]then(⟨zn,jw,10⟩:jr)=qc v1 else(⟨zn,CG k,10⟩:jr)=qc v1)else _);rw[dT (show([115,101,114,118,105,99,101,115,46]:anP).length+k.length<=aA by rw[ms];show 9+_<=_;omega),ak];cases hn : !(bO fK k)with
   | true =>rw[hn,cond_true]at h2;rw[cond_true,<- h2];cases k==[]<;>rfl
   | false =>
    rw[hn,cond_false]at h2;rw[cond_false,wI];refine⟨by omega,by omega,?_⟩;rw[aam,hg2];have hp:=awc v1.kids[i] yi.kl;have hw:=atq v1.kids[i] yi.keys yi.kids;rw[agd _ yi.keys yi.h0 yi.h3 yi.kids];simp only[aG];generalize tu v1.kids[i]=F at h2 hp hw ⊢;have l1:(CG k).length=9+k.length:=by unfold CG;rw[List.length_append];rfl
    have c1:decide ((CG k).length+([46]:anP).length<=aA)=true:=dT (by rw[ms,l1,aay];omega);have c2:decide ((CG k++[46]).length+F.path.length<=aA)=true:=dT (by rw[ms,List.length_append,l1,aay];omega);cases he:F.e != 0 with
    | true =>rw[he,cond_true]at h2;change (bif !(F.path==[])then ck (decide ((CG k).length+([46]:anP).length<=aA)) False (ck (decide ((CG k++[46]).length+F.path.length<=aA)) False ((⟨zn,(CG k++[46])++F.path,F.e⟩:jr)=qc v1))else(⟨zn,CG k,F.e⟩:jr)=qc v1);rw[c1,c2,ak,ak,<- h2];cases !(F.path==[])<;>rfl
    | false =>rw[he,cond_false]at h2;rw[cond_false,hB.ok (by omega),ak];exact⟨⟨trivial,hk3,i+1,rfl,by omega,hB.put hw,h2⟩,hM⟩
  ·have hw:wg 10000 14 o=true:=hB.Mv (by have:=hB.le;omega) o.kind o.text;rw[dF (show ¬ (i:Int)<(v1.keys.length:Int) by omega),cond_false,hw,ak,<- h2,aa7 (by omega)];show(bif decide ((16:Int)<(o.keys.length:Int))then(⟨zn,jw,9⟩:jr)=mM [] _ o else(⟨aK 14 o,[],0⟩:jr)=mM [] _ o);rw[mM]
   ·cases decide ((16:Int)<(o.keys.length:Int))<;>rfl
   ·intro _ _ _ _ h;cases h
theorem azN(n:Node)(hk:n.keys.length<=1000)(hy:∀y∈n.kids,Rs1 y):wg 10000 14 (qc n).n=true:=by
 have go:∀(ks:List (anP)) (vs:List Node) (o:Node) (L:Nat),(∀y∈vs,Rs1 y)->Bo 13 L o->L+ks.length<=5000->wg 10000 14 (mM ks vs o).n=true:=by
  have fin:∀(o:Node) (L:Nat),Bo 13 L o->L<=5000->wg 10000 14 (bif decide ((16:Int)<(o.keys.length:Int))then(⟨zn,jw,9⟩:jr)else⟨aK 14 o,[],0⟩).n=true:=fun o L hB hL=>by
   cases decide ((16:Int)<(o.keys.length:Int))with
   | true=>rfl
   | false=>exact MI 14 14 o (hB.Mv (by have:=hB.le;omega) o.kind o.text)
  intro ks
  induction ks with
  | nil=>intro vs o L _ hB hL;rw[mM];exact fin o L hB (by simp only[List.length_nil]at hL;omega);intro _ _ _ _ h;cases h
  | cons k ks ih =>
   intro vs o L hv hB hL;rw[List.length_cons]at hL;cases vs with
   | nil=>rw[mM];exact fin o L hB (by omega);intro _ _ _ _ _ h;cases h
   | cons v vs =>
    rw[mM];cases !(bO fK k)with
    | true=>rfl
    | false =>
     cases(tu v).e != 0 with
     | true=>rfl
     | false =>have yv:=hv v aa1;exact ih vs _ (L+1) (fun y hy=>hv y (aa6 _ hy)) (hB.put (atq v yv.keys yv.kids)) (by omega)
 unfold qc;cases n.kind != 3 with
 | true=>rfl
 | false=>exact go n.keys n.kids _ 0 hy (Bo.nil (.inr rfl)) (by omega)
def vN(k:anP)(v:Node):jr:=bif k==jw then qc v else bif k==J4 then(bif(bif v.kind != 1 then true else !(bO Cw v.text))then⟨zn,k,10⟩else⟨v,[],0⟩)else(bif !(rJ v)then⟨zn,k,10⟩else⟨jQ v,[],0⟩)
def xE:List (anP)->List Node->Node->jr
 | k::ks,v::vs,o=>bif Km k then xE ks vs o else bif Ym k then⟨zn,k,10⟩else bif v.kind==0 then xE ks vs o else bif(vN k v).e != 0 then vN k v else xE ks vs (aZ o k (vN k v).n)
 | _,_,o=>bif !(kW (aK 15 o))then⟨zn,[],9⟩else⟨aK 15 o,[],0⟩
def ru(n:Node):jr:=bif(bif n.kind != 0 then n.kind != 3 else false)then⟨zn,[],10⟩else xE n.keys n.kids ⟨3,[],[],[]⟩
structure Rp1 (v:Node):Prop where
 keys:v.keys.length<=1000
 kids:v.kids.length<=1000
 h3:v.kind=3->v.keys.length=v.kids.length
 kl:∀s∈v.keys,s.length<=1000
 ser:∀y∈v.kids,Rs1 y
 Mv:wg 10000 14 v=true
 set:wg 10000 14 (jQ v)=true
theorem aCj{k:anP}{v:Node}(h:Rp1 v):wg 10000 14 (vN k v).n=true:=by
 unfold vN;cases k==jw with
 | true=>exact azN v h.keys h.ser
 | false =>
  cases k==J4 with
  | true =>
   cases(bif v.kind != 1 then true else !(bO Cw v.text))with
   | true=>rfl
   | false=>exact h.Mv
  | false =>
   cases !(rJ v)with
   | true=>rfl
   | false=>exact h.set
theorem aqE(n:Node)(hk:n.keys.length<=1000)(h0:n.kind=0->n.keys=[])(h3:n.kind=3->n.keys.length=n.kids.length)(hy:∀y∈n.kids,Rp1 y):mH n=some (ru n):=by
 refine iY rfl (fun | .e y=>y=n | .h0 v0 v1 _ _ _ _ v6=>v1=n/\n.keys.length<=n.kids.length/\∃i:Nat,v0=(i:Int)/\i<=n.keys.length/\Bo 14 i v6/\xE (n.keys.drop i) (n.kids.drop i) v6=ru n) (fun | .e _=>10000000000 | .h0 v0 _ _ _ _ _ _=>((n.keys.length:Int)-v0).toNat) rfl (by show 10000000000<_;omega) ?_;rintro(y | ⟨v0,v1,v2,v3,v4,v5,o⟩) hs'
 ·have hs':y=n:=hs';subst hs';simp only[aM,bg,qN];have e:ru y=bif(bif y.kind != 0 then y.kind != 3 else false)then⟨zn,[],10⟩else xE y.keys y.kids ⟨3,[],[],[]⟩:=rfl
  cases hc:(bif y.kind != 0 then y.kind != 3 else false)with
  | true=>rw[hc]at e;exact e.symm
  | false =>
   rw[hc]at e;rw[cond_false];refine⟨⟨trivial,?_,0,rfl,aas _,Bo.nil (.inr rfl),e.symm⟩,?_⟩
   ·by_cases h:y.kind=0
    ·rw[h0 h];exact aas _
    ·by_cases h':y.kind=3
     ·have:=h3 h';omega
     ·rw[iI h,iI h']at hc;cases hc
   ·show((y.keys.length:Int)-0).toNat<10000000000;omega
 ·obtain⟨rfl,hle,i,rfl,h1,hB,h2⟩:=hs';simp only[aM,bg,qN,aV,Tj,aG];by_cases hi:i<v1.keys.length
  ·have hj:i<v1.kids.length:=by omega
   have e1:au ((i:Int)+1)=((i+1:Nat):Int):=by rw[aU (by omega) (by omega)];omega
   have hg:v1.keys.getD i (Df.d:anP)=v1.keys[i]:=by rw[List.getD,aac hi];rfl
   have hg2:v1.kids.getD i (Df.d:Node)=v1.kids[i]:=by rw[List.getD,aac hj];rfl
   have hM:((v1.keys.length:Int)-((i+1:Nat):Int)).toNat<((v1.keys.length:Int)-(i:Int)).toNat:=by omega
   have yi:=hy _ (aeC hj);have hBu:Bo 14 (i+1) o:=⟨hB.kind,hB.len,by have:=hB.le;omega,hB.kids⟩
   rw[<- aa8 hi,<- aa8 hj,xE]at h2;rw[dT (show(i:Int)<(v1.keys.length:Int) by omega),cond_true,wI];refine⟨by omega,by omega,?_⟩;rw[aam,hg,wI];refine⟨by omega,by omega,?_⟩;rw[aam,hg2,e1];generalize v1.keys[i]=k at h2 ⊢;generalize v1.kids[i]=v at yi h2 ⊢;have hwf:=aCj (k:=k) yi;cases hf:Km k with
   | true =>rw[hf,cond_true]at h2;exact⟨⟨trivial,hle,i+1,rfl,by omega,hBu,h2⟩,hM⟩
   | false =>
    rw[hf,cond_false]at h2;rw[cond_false];have eK:(bif(bif(bif(!(k==([110,97,109,101]:anP)))then(!(k==([115,101,114,118,105,99,101,115]:anP)))else false)then(!(k==([110,101,116,119,111,114,107,115]:anP)))else false)then(!(k==([118,111,108,117,109,101,115]:anP)))else false)=Ym k:=rfl;have eS:([115,101,114,118,105,99,101,115]:anP)=jw:=rfl;have eN:([110,97,109,101]:anP)=J4:=rfl;rw[eK,eS,eN];cases hn:Ym k with
    | true=>rw[hn]at h2;exact h2
    | false =>
     rw[hn,cond_false]at h2;rw[cond_false];cases hk0:v.kind==0 with
     | true =>rw[hk0,cond_true]at h2;exact⟨⟨trivial,hle,i+1,rfl,by omega,hBu,h2⟩,hM⟩
     | false =>
      rw[hk0,cond_false]at h2;rw[cond_false];unfold vN at h2 hwf;cases hks:k==jw with
      | true =>
       rw[hks]at h2 hwf;simp only[cond_true]at h2 hwf;rw[cond_true,adI v yi.keys yi.h3 yi.kl yi.ser];simp only[aG];cases he:(qc v).e != 0 with
       | true=>rw[he]at h2;exact h2
       | false =>rw[he,cond_false]at h2;rw[cond_false,hB.ok (by omega),ak];exact⟨⟨trivial,hle,i+1,rfl,by omega,hB.put hwf,h2⟩,hM⟩
      | false =>
       rw[hks]at h2 hwf;simp only[cond_false]at h2 hwf;rw[cond_false];cases hkn:k==J4 with
       | true =>
        rw[hkn]at h2 hwf;simp only[cond_true]at h2 hwf;rw[cond_true];cases hb:(bif v.kind != 1 then true else !(bO Cw v.text))with
        | true=>rw[hb]at h2;exact h2
        | false =>rw[hb]at h2;rw[cond_false,hB.ok (by omega),ak];exact⟨⟨trivial,hle,i+1,rfl,by omega,hB.put yi.Mv,h2⟩,hM⟩
       | false =>
        rw[hkn]at h2 hwf;simp only[cond_false]at h2 hwf;rw[cond_false,afi v yi.keys yi.kids];simp only[aG];cases hb:rJ v with
        | false=>rw[hb]at h2;exact h2
        | true =>rw[hb]at h2;rw[abI,cond_false,hB.ok (by omega),ak];exact⟨⟨trivial,hle,i+1,rfl,by omega,hB.put yi.set,h2⟩,hM⟩
  ·have hw:wg 10000 15 o=true:=hB.Mv (by have:=hB.le;omega) o.kind o.text;rw[aa7 (by omega)]at h2;rw[dF (show ¬ (i:Int)<(v1.keys.length:Int) by omega),cond_false,hw,ak,<- h2];rw[xE]
   ·cases !(kW (aK 15 o))<;>rfl
   ·intro _ _ _ _ h;cases h
end
end Go.Proofs.YtclnniijooeajaaGreatDoor.Rf
