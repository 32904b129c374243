/- Part 8 of a proof: the texts Y6 Q1 Q2 Y7 Q3 Y8 Y9 Y10 Y11 Y12 Q4, one behind the other. -/
import Derived.Test.YtclnniijooeajaaGreatDoorSw1
import Derived.Test.YtclnniijooeajaaGreatDoorSw7
import Derived.Test.YtclnniijooeajaaGreatDoorSw5
import Derived.Lib.SplitLaws
noncomputable section
namespace Go.Proofs.YtclnniijooeajaaGreatDoor.Rf
open Go Go.RowKit Go.Sort Go.Proofs.YtclnniijooeajaaGreatDoor.bg
section
abbrev spR(s:aqO):List (aqO)×Int:=(UN (p9 s),acW (p9 s))
def swI(s:aqO):oZ->Prop
 | .e y=>y=s
 | .h0 v0 v1 v2 v3=>v0=s/\v1=v3.length/\∃i n:Nat,v2=(i:Int)/\i<=s.length/\s.length-i<n/\v3.length<=2*i+1/\kg n (s.drop i) [] false v3=p9 s
 | .h1 v0 _ v2 v3 v4=>v0=s/\∃(i n:Nat) (b:Bool),v2=(i:Int)/\i<=s.length/\s.length-i<n/\v4.length<=2*i+1/\(b=true->v4.length<=2*i)/\v3.length<=i/\(b=true\/i<s.length/\sw (((s.getD i 0).toNat:Nat):Int)=false)/\kg n (s.drop i) v3 b v4=p9 s
def swM(s:aqO):oZ->Nat
 | .e _=>10000000000
 | .h0 _ _ v2 _=>3*((s.length:Int)-v2).toNat+2
 | .h1 _ _ v2 _ _=>3*((s.length:Int)-v2).toNat+(bif(bif decide (v2<(s.length:Int))then !(sw (((s.getD v2.toNat 0).toNat:Nat):Int))else false)then 1 else 3)
theorem alK(s:aqO)(hs:s.length<=1000000):uP s=some (spR s):=by
 refine jo rfl (swI s) (swM s) rfl (by show 10000000000<_;omega) ?_;rintro(y | ⟨v0,v1,v2,v3⟩ | ⟨v0,v1,v2,v3,v4⟩) hs'
 ·have hs':y=s:=hs';subst hs';refine⟨⟨rfl,rfl,0,y.length+1,rfl,aaG _,by omega,by decide,rfl⟩,?_⟩;show 3*((y.length:Int)-0).toNat+2<10000000000;omega
 ·obtain⟨rfl,rfl,i,n,rfl,h1,h2,h3,h4⟩:=hs';obtain⟨n,rfl⟩:∃m,n=m+1:=⟨n-1,by omega⟩
  simp only[aN,bB,o7,XF,aH];by_cases hi:i<v0.length
  ·have e1:ak ((i:Int)+1)=((i+1:Nat):Int):=by rw[aV (by omega) (by omega)];omega
   rw[dT (show(i:Int)<(v0.length:Int) by omega),cond_true,wS];refine⟨by omega,by omega,?_⟩;rw[aaE,e1];cases hb:sw (((v0.getD i 0).toNat:Nat):Int)with
   | true =>rw[Ib hi hb]at h4;rw[cond_true];refine⟨⟨rfl,rfl,i+1,n,rfl,by omega,by omega,by omega,h4⟩,?_⟩;show 3*((v0.length:Int)-((i+1:Nat):Int)).toNat+2<3*((v0.length:Int)-(i:Int)).toNat+2;omega
   | false =>rw[cond_false];refine⟨⟨rfl,i,n+1,false,rfl,h1,h2,h3,(fun h=>by cases h),aaG _,.inr ⟨hi,hb⟩,h4⟩,?_⟩;show 3*((v0.length:Int)-(i:Int)).toNat+(bif(bif decide ((i:Int)<(v0.length:Int))then !(sw (((v0.getD (i:Int).toNat 0).toNat:Nat):Int))else false)then 1 else 3)<3*((v0.length:Int)-(i:Int)).toNat+2;rw[dT (show(i:Int)<(v0.length:Int) by omega),aaE,hb];show _+1<_;omega
  ·rw[MJ (by omega)]at h4;rw[dF (show ¬ (i:Int)<(v0.length:Int) by omega),cond_false];unfold spR;rw[<- h4];simp only[UN,acW,cond_false];cases decide ((32:Int)<(v3.length:Int))<;>rfl
 ·obtain⟨rfl,i,n,b,rfl,h1,h2,h3,h3b,h4,h5,h6⟩:=hs';obtain⟨n,rfl⟩:∃m,n=m+1:=⟨n-1,by omega⟩
  simp only[aN,bB,o7,XF,aez,ad5,av,fI,aaE];have kk:((decide ((0:Int)<=(i:Int))&&decide ((i:Int)<(v0.length:Int))) || !(decide ((i:Int)<(v0.length:Int))))=true:=(ckD i v0 false).2;rw[kk,av];have back:(b=true->kg n (v0.drop (i+1)) [] false (v4++[v3])=p9 v0/\i<v0.length/\sw (((v0.getD i 0).toNat:Nat):Int)=true\/¬ i<v0.length)->b=true->(kg (n+1) (v0.drop i) [] false (v4++[v3])=p9 v0)->(swI v0 (.h0 v0 (v4.length+([v3]:List (aqO)).length) (i:Int) (v4++[v3]))):=fun _ hb hq=>⟨rfl,by rw[List.length_append],i,n+1,rfl,h1,h2,by rw[List.length_append,aa8];have:=h3b hb;omega,hq⟩
  have hm:∀b',(bif(bif decide ((i:Int)<(v0.length:Int))then !(sw (((v0.getD (i:Int).toNat 0).toNat:Nat):Int))else false)then 1 else 3)=b'->swM v0 (.h1 v0 v1 (i:Int) v3 v4)=3*((v0.length:Int)-(i:Int)).toNat+b':=fun b' e=>by rw[<- e];rfl
  by_cases hi:i<v0.length
  ·have hd:=dT (show(i:Int)<(v0.length:Int) by omega);cases hb:sw (((v0.getD i 0).toNat:Nat):Int)with
   | true =>
    have hbt:b=true:=by
     rcases h5 with h | ⟨_,h⟩
     ·exact h
     ·rw[hb]at h;cases h
    subst hbt;have hm3:=hm 3 (by rw[hd,aaE,hb];rfl);rw[Ib hi hb]at h6;have h6:kg n (v0.drop (i+1)) [] false (v4++[v3])=p9 v0:=h6;rw[hd,cond_true,adr,cond_false,dT (show(v4.length+([v3]:List (aqO)).length)*16<=aB by rw[mb,aa8];have:=h3b rfl;omega),av];refine⟨back (fun _=>.inl ⟨h6,hi,hb⟩) rfl (by rw[Ib hi hb];exact h6),?_⟩;rw[hm3];show 3*((v0.length:Int)-(i:Int)).toNat+2<_;omega
   | false =>
    have hm1:=hm 1 (by rw[hd,aaE,hb];rfl);rw[XB hi hb]at h6;rw[hd,cond_true,aec,cond_true,alJ v0 hs i hi];simp only[aH];cases hq:Lj (v0.drop i)with
    | none =>rw[hq]at h6;have h6:none=p9 v0:=h6;show(([]:List (aqO)),(3:Int))=spR v0;unfold spR;rw[<- h6];rfl
    | some q =>
     rw[hq]at h6;have h6:kg n (v0.drop (i+q.2)) (v3++q.1) true v4=p9 v0:=h6;obtain⟨q1,q2,q3⟩:=asN hq;rw[adH]at q1;have ep:BM (some q) [] i=(q.1,((i+q.2:Nat):Int)):=by show(([]:aqO)++q.1,(i:Int)+(q.2:Int))=_;rw[aei,show(i:Int)+(q.2:Int)=((i+q.2:Nat):Int) by omega]
     rw[ep];dsimp only;rw[dF (show ¬ ((i+q.2:Nat):Int)<0 by omega),cond_false,dT (show v3.length+q.1.length<=aA by rw[ms];omega),av];refine⟨⟨rfl,i+q.2,n,true,rfl,by omega,by omega,by omega,fun _=>by omega,by rw[List.length_append];omega,.inl rfl,h6⟩,?_⟩;rw[hm1];show 3*((v0.length:Int)-((i+q.2:Nat):Int)).toNat+(bif _ then 1 else 3)<_;generalize (bif decide (((i+q.2:Nat):Int)<(v0.length:Int))then !(sw (((v0.getD ((i+q.2:Nat):Int).toNat 0).toNat:Nat):Int))else false)=bb;cases bb<;>simp only[cond_true,cond_false]<;>omega
  ·have hd:=dF (show ¬ (i:Int)<(v0.length:Int) by omega);have hbt:b=true:=by
    rcases h5 with h | ⟨h,_⟩
    ·exact h
    ·exact absurd h hi
   subst hbt;have hm3:=hm 3 (by rw[hd];rfl);rw[MJ (by omega)]at h6;rw[hd,cond_false,cond_false,dT (show(v4.length+([v3]:List (aqO)).length)*16<=aB by rw[mb,aa8];have:=h3b rfl;omega),av];refine⟨back (fun _=>.inr hi) rfl (by rw[MJ (by omega)];exact h6),?_⟩;rw[hm3];show 3*((v0.length:Int)-(i:Int)).toNat+2<_;omega
def baI(s:aqO):qo->Prop
 | .e y=>y=s
 | .h0 v0 v1 v2=>v0=s/\v1=J7/\∃i:Nat,v2=(i:Int)/\i<=s.length/\(((s.drop i).all fun c=>okC ((c.toNat:Nat):Int)) && !(s==[]))=zA s
 | .h1 v0 v1 v2 v3 v4 v5=>v0=s/\v1=J7/\∃i k:Nat,v2=(i:Int)/\i<s.length/\v5=(k:Int)/\k<=10/\(v4||((J7.drop k).any fun m=>((m.toNat:Nat):Int)==v3))=okC (((s.getD i 0).toNat:Nat):Int)/\(((s.drop i).all fun c=>okC ((c.toNat:Nat):Int)) && !(s==[]))=zA s
def baM(s:aqO):qo->Nat
 | .e _=>1000000000000
 | .h0 _ _ v2=>100*((s.length:Int)-v2).toNat+50
 | .h1 _ _ v2 _ _ v5=>100*((s.length:Int)-v2).toNat+(10-v5).toNat
theorem aqb(s:aqO)(hs:s.length<=1000000):wJ s=some (zA s):=by
 refine jo rfl (baI s) (baM s) rfl (by show 1000000000000<_;omega) ?_;rintro(y | ⟨v0,v1,v2⟩ | ⟨v0,v1,v2,v3,v4,v5⟩) hs'
 ·have hs':y=s:=hs';subst hs';refine⟨⟨rfl,rfl,0,rfl,aaG _,rfl⟩,?_⟩;show 100*((y.length:Int)-0).toNat+50<1000000000000;omega
 ·obtain⟨rfl,rfl,i,rfl,h1,h2⟩:=hs';simp only[aN,bB,qp];by_cases hi:i<v0.length
  ·rw[dT (show(i:Int)<(v0.length:Int) by omega),cond_true,wS];refine⟨by omega,by omega,?_⟩;rw[aaE];refine⟨⟨rfl,rfl,i,0,rfl,hi,rfl,by decide,rfl,h2⟩,?_⟩;show 100*((v0.length:Int)-(i:Int)).toNat+(10-0:Int).toNat<100*((v0.length:Int)-(i:Int)).toNat+50;have:(10-0:Int).toNat=10:=rfl;omega
  ·rw[aa9 (show v0.length<=i by omega),List.all_nil,aeu]at h2;rw[dF (show ¬ (i:Int)<(v0.length:Int) by omega),cond_false,<- h2];cases v0 with
   | nil=>rfl
   | cons c t=>rw[dT (by simp only[List.length_cons];omega)];rfl
 ·obtain⟨rfl,rfl,i,k,rfl,hi,rfl,hk,h3,h4⟩:=hs';simp only[aN,bB,qp];have e1:ak ((k:Int)+1)=((k+1:Nat):Int):=by rw[aV (by omega) (by omega)];omega
  have e2:ak ((i:Int)+1)=((i+1:Nat):Int):=by rw[aV (by omega) (by omega)];omega
  rw[e1,e2];by_cases hk2:k<10
  ·have hk3:k<J7.length:=hk2;rw[dT (show(k:Int)<(J7.length:Int) by omega),cond_true,dT (show(0:Int)<=(k:Int) by omega),adM,ad5,av,aaE];refine⟨⟨rfl,rfl,i,k+1,rfl,hi,rfl,by omega,?_,h4⟩,?_⟩
   ·rw[<- h3,drop_at hk3,al6];cases v4<;>rfl
   ·show 100*((v0.length:Int)-(i:Int)).toNat+(10-((k+1:Nat):Int)).toNat<100*((v0.length:Int)-(i:Int)).toNat+(10-(k:Int)).toNat;omega
  ·rw[aa9 (show J7.length<=k by show 10<=k;omega),List.any_nil,Bool.or_false]at h3;rw[dF (show ¬ (k:Int)<(J7.length:Int) by show ¬ (k:Int)<10;omega),cond_false];rw[drop_at hi,aeB,<- h3]at h4;cases v4 with
   | false=>exact h4
   | true =>rw[aeu]at h4;rw[adr,cond_false];refine⟨⟨rfl,rfl,i+1,rfl,by omega,h4⟩,?_⟩;show 100*((v0.length:Int)-((i+1:Nat):Int)).toNat+50<100*((v0.length:Int)-(i:Int)).toNat+(10-(k:Int)).toNat;omega
theorem aBo{s:aqO}:(IQ s).length<=5*s.length+2:=by
 unfold IQ;cases zA s with
 | true=>rw[cond_true];omega
 | false =>have h:=ahQ 39 [39,92,39,39] s;have hc:Lib.countByte s 39<=s.length:=List.count_le_length;rw[cond_false,List.length_append,List.length_append];simp only[List.length_cons,List.length_nil]at h ⊢;omega
def U2(l:List (aqO)):aqO:=l.flatMap fun x=>32::IQ x
theorem Wh(x:aqO):∀t:List (aqO),Lf (x::t)=IQ x++U2 t
 | []=>by simp[Lf,Lib.join,List.intercalate,U2]
 | y::t=>by
  have ih:=Wh y t;have e:Lf (x::y::t)=IQ x++[32]++Lf (y::t):=by simp[Lf,Lib.join,List.intercalate]
  rw[e,ih];simp[U2]
def F5(c:UInt8):aqO:=bif(((c.toNat:Nat):Int)==39)then[39,92,39,39]else[c]
theorem ajv:∀s:aqO,qF 39 [39,92,39,39] s=s.flatMap F5
 | []=>rfl
 | c::t=>by
  rw[IB,List.flatMap_cons,ajv t];unfold F5;by_cases h:c=39
  ·subst h;rfl
  ·rw[if_neg (by simpa using h),eT (show((c.toNat:Nat):Int)≠39 from fun e=>h (UInt8.toNat_inj.1 (show c.toNat=39 by omega)))];rfl
theorem ajw:∀t:aqO,(t.flatMap F5).length<=4*t.length
 | []=>abn _
 | c::t=>by
  have ih:=ajw t;have:(F5 c).length<=4:=by unfold F5;cases(((c.toNat:Nat):Int)==39)<;>simp
  rw[List.flatMap_cons,List.length_append,List.length_cons];omega
def wjI(l:List (aqO)):qw->Prop
 | .e y=>y=l
 | .h0 v0 v1 v2=>v0=l/\∃i:Nat,v2=(i:Int)/\i<=l.length/\v1.length<=i*60000/\Lf l=v1++(bif decide (0<i)then U2 (l.drop i)else Lf (l.drop i))
 | .h1 v0 v1 v2 v3=>v0=l/\∃(i k:Nat) (o0:aqO),v2=(i:Int)/\i<l.length/\v3=(k:Int)/\k<=(l.getD i []).length/\o0.length<=i*60000+2/\v1=o0++((l.getD i []).take k).flatMap F5/\Lf l=((o0++(l.getD i []).flatMap F5)++[39])++U2 (l.drop (i+1))
def XG(l:List (aqO)):qw->Nat
 | .e _=>1000000000000
 | .h0 _ _ v2=>100000*((l.length:Int)-v2).toNat+99999
 | .h1 _ _ v2 v3=>100000*((l.length:Int)-v2).toNat+((l.getD v2.toNat []).length-v3.toNat)
theorem aqc(l:List (aqO))(hl:l.length<=1000)(hx:∀x∈l,x.length<=10000):Eh l=some (Lf l):=by
 refine jo rfl (wjI l) (XG l) rfl (by show 1000000000000<_;omega) ?_;rintro(y | ⟨v0,v1,v2⟩ | ⟨v0,v1,v2,v3⟩) hs'
 ·have hs':y=l:=hs';subst hs';refine⟨⟨rfl,0,rfl,aaG _,aaG _,rfl⟩,?_⟩;show 100000*((y.length:Int)-0).toNat+99999<1000000000000;omega
 ·obtain⟨rfl,i,rfl,h1,h2,h3⟩:=hs';simp only[aN,bB,qx];by_cases hi:i<v0.length
  ·have e1:ak ((i:Int)+1)=((i+1:Nat):Int):=by rw[aV (by omega) (by omega)];omega
   have hxi:=hx _ (aee hi);have hg:v0.getD i (Df.d:aqO)=v0[i]:=by rw[List.getD,aaz hi];rfl
   have hg2:v0.getD i []=v0[i]:=hg;have hdr:v0.drop i=v0[i]::v0.drop (i+1):=(abl hi).symm;rw[hdr]at h3;have kb:fZ v0 (i:Int)=true:=by simp[fZ];omega
   rw[dT (show(i:Int)<(v0.length:Int) by omega),cond_true];have hq:=aBo (s:=v0[i]);generalize v0[i]=x at *;have hb:=aqb x (by omega);have toNext:∀o:aqO,o=(v1++(bif decide (0<i)then[32]else[]))++IQ x->wjI v0 (.h0 v0 o ((i+1:Nat):Int))/\XG v0 (.h0 v0 o ((i+1:Nat):Int))<XG v0 (.h0 v0 v1 (i:Int)):=fun o ho=>by
    refine⟨⟨rfl,i+1,rfl,by omega,?_,?_⟩,?_⟩
    ·rw[ho,List.length_append,List.length_append];cases decide (0<i)<;>simp only[cond_true,cond_false,List.length_cons,List.length_nil]<;>omega
    ·rw[h3,ho,dT (show 0<i+1 by omega),cond_true];cases decide (0<i)with
     | true =>unfold U2;rw[cond_true,cond_true,List.flatMap_cons];simp only[abt,aeF,aei]
     | false=>rw[cond_false,cond_false,aeb,Wh,abt]
    ·show 100000*((v0.length:Int)-((i+1:Nat):Int)).toNat+99999<100000*((v0.length:Int)-(i:Int)).toNat+99999;omega
   have toIn:∀o:aqO,o=(v1++(bif decide (0<i)then[32]else[]))++[39]->zA x=false->wjI v0 (.h1 v0 o (i:Int) 0)/\XG v0 (.h1 v0 o (i:Int) 0)<XG v0 (.h0 v0 v1 (i:Int)):=fun o ho hbb=>by
    refine⟨⟨rfl,i,0,o,rfl,hi,rfl,aaG _,?_,?_,?_⟩,?_⟩
    ·rw[ho,List.length_append,List.length_append];cases decide (0<i)<;>simp only[cond_true,cond_false,List.length_cons,List.length_nil]<;>omega
    ·rw[List.take_zero,List.flatMap_nil,aeb]
    ·rw[h3,ho,hg2,<- ajv];have hqt:IQ x=[39]++qF 39 [39,92,39,39] x++[39]:=by unfold IQ;rw[hbb];rfl
     cases decide (0<i)with
     | true =>unfold U2;rw[cond_true,cond_true,List.flatMap_cons,hqt];simp only[abt,aeF,aei]
     | false =>rw[cond_false,cond_false,aeb,Wh,hqt];simp only[abt]
    ·simp only[XG,aaE,hg2,Int.toNat_zero];omega
   have hdec:decide ((0:Int)<(i:Int))=decide (0<i):=decide_eq_decide.2 (by omega);have hqb:zA x=true->IQ x=x:=fun h=>by unfold IQ;rw[h];rfl
   rw[hdec,dT (show v1.length+([32]:aqO).length<=aA by rw[ms,aa8];omega),av];cases hd:decide (0<i)with
   | true =>
    rw[hd]at toNext toIn;rw[cond_true,wI];refine⟨by omega,by omega,?_⟩;rw[aaE,hg,hb];simp only[aH,kb,av,e1];rw[dT (show(v1++([32]:aqO)).length+x.length<=aA by rw[ms,List.length_append,aa8];omega),dT (show(v1++([32]:aqO)).length+([39]:aqO).length<=aA by rw[ms,List.length_append,aa8,aa8];omega),av,av];cases hbb:zA x with
    | true=>rw[cond_true];exact toNext _ (by rw[hqb hbb];rfl)
    | false=>rw[cond_false];exact toIn _ rfl hbb
   | false =>
    rw[hd]at toNext toIn;rw[cond_false,wI];refine⟨by omega,by omega,?_⟩;rw[aaE,hg,hb];simp only[aH,kb,av,e1];rw[dT (show v1.length+x.length<=aA by rw[ms];omega),dT (show v1.length+([39]:aqO).length<=aA by rw[ms,aa8];omega),av,av];cases hbb:zA x with
    | true=>rw[cond_true];exact toNext _ (by rw[hqb hbb,cond_false,aeb])
    | false=>rw[cond_false];exact toIn _ (by rw[cond_false,aeb]) hbb
  ·rw[aa9 (show v0.length<=i by omega)]at h3;have h3:Lf v0=v1:=by
    rw[h3];cases decide (0<i)<;>exact aeb _
   rw[dF (show ¬ (i:Int)<(v0.length:Int) by omega),cond_false];exact h3.symm
 ·obtain⟨rfl,i,k,o0,rfl,hi,rfl,hk,ho,rfl,h3⟩:=hs';simp only[aN,bB,qx];have hxi:=hx _ (aee hi);have hg:v0.getD i (Df.d:aqO)=v0[i]:=by rw[List.getD,aaz hi];rfl
  have hg2:v0.getD i []=v0[i]:=hg;have kb:fZ v0 (i:Int)=true:=by simp[fZ];omega
  have e1:ak ((i:Int)+1)=((i+1:Nat):Int):=by rw[aV (by omega) (by omega)];omega
  rw[wI];refine⟨by omega,by omega,?_⟩;rw[aaE,hg];rw[hg2]at hk h3 ⊢;generalize hxx:v0[i]=x at *;have e2:ak ((k:Int)+1)=((k+1:Nat):Int):=by rw[aV (by omega) (by omega)];omega
  have hl2:=ajw (x.take k);have ht:(x.take k).length<=x.length:=by rw[ad6];omega
  have hol:(o0++(x.take k).flatMap F5).length<=1000040000:=by rw[List.length_append];omega
  by_cases hk2:k<x.length
  ·obtain⟨t1,k1⟩:=U1 hk2;have next:wjI v0 (.h1 v0 ((o0++(x.take k).flatMap F5)++F5 (x.getD k 0)) (i:Int) ((k+1:Nat):Int))/\XG v0 (.h1 v0 ((o0++(x.take k).flatMap F5)++F5 (x.getD k 0)) (i:Int) ((k+1:Nat):Int))<XG v0 (.h1 v0 (o0++(x.take k).flatMap F5) (i:Int) (k:Int)):=by
    refine⟨⟨rfl,i,k+1,o0,rfl,hi,rfl,by rw[hg2];omega,ho,?_,by rw[hg2];exact h3⟩,?_⟩
    ·rw[hg2,aht hk2,List.flatMap_append,abt];have:x.getD k 0=x[k]:=by rw[List.getD,aaz hk2];rfl
     rw[this,List.flatMap_cons,List.flatMap_nil,aeb]
    ·simp only[XG,aaE,hg2];omega
   rw[dT (show(k:Int)<(x.length:Int) by omega),cond_true,kb,av,wS];refine⟨by omega,by omega,?_⟩;rw[aaE,e2];simp only[t1,k1,av];rw[dT (show(o0++(x.take k).flatMap F5).length+([39,92,39]:aqO).length<=aA by rw[ms];simp only[List.length_cons,List.length_nil];omega),dT (show((o0++(x.take k).flatMap F5)++([39,92,39]:aqO)).length+[x.getD k 0].length<=aA by rw[ms,List.length_append];simp only[List.length_cons,List.length_nil];omega),
    dT (show(o0++(x.take k).flatMap F5).length+[x.getD k 0].length<=aA by rw[ms,aa8];omega)]
   simp only[av];unfold F5 at next;cases hc:((x.getD k 0).toNat:Int)==39 with
   | true =>rw[hc]at next;have h39:x.getD k 0=39:=UInt8.toNat_inj.1 (by show(x.getD k 0).toNat=39;have:=eq_of_beq hc;omega);rw[cond_true,h39,abt _ [39,92,39] [39]];exact next
   | false=>rw[hc]at next;exact next
  ·rw[dF (show ¬ (k:Int)<(x.length:Int) by omega),cond_false,dT (show(o0++(x.take k).flatMap F5).length+([39]:aqO).length<=aA by rw[ms,aa8];omega),av,e1];rw[aej (show x.length<=k by omega)]at hl2 ⊢;refine⟨⟨rfl,i+1,rfl,by omega,?_,by rw[dT (show 0<i+1 by omega),cond_true];exact h3⟩,?_⟩
   ·rw[List.length_append,List.length_append,aa8];omega
   ·simp only[XG,aaE,hg2];omega
end
def FN(w:aqO):List (aqO)->List (aqO)
 | h::t=>(w++h)::t
 | []=>[w]
def bU(c:UInt8):aqO->List (aqO)
 | []=>[[]]
 | a::r=>bif a==c then[]::bU c r else FN [a] (bU c r)
theorem oH(c:UInt8)(s:aqO):bU c s≠[]:=by
 cases s with
 | nil=>simp[bU]
 | cons a r =>
  unfold bU;cases a==c with
  | true=>simp
  | false=>rw[cond_false];unfold FN;split<;>simp
theorem Q7{l:List (aqO)}(h:l≠[]):FN [] l=l:=by
 cases l with
 | nil=>exact absurd rfl h
 | cons a t=>rfl
theorem ajx(a b:aqO)(l:List (aqO)):FN a (FN b l)=FN (a++b) l:=by cases l<;>simp[FN]
theorem avL(a:aqO){l:List (aqO)}(h:l≠[]):(FN a l).length=l.length:=by
 cases l with
 | nil=>exact absurd rfl h
 | cons b t=>rfl
theorem ajy(c:UInt8):∀r:aqO,Lib.indexByte r c ≠ -1->0<r.count c
 | [],h=>absurd rfl h
 | b::l,h=>by
  unfold Lib.indexByte at h;by_cases e:b=c
  ·subst e;simp
  ·rw[if_neg (by simpa using e)]at h;have:Lib.indexByte l c ≠ -1:=fun e=>by rw[e]at h;exact h rfl
   have:=ajy c l this;rw[List.count_cons];omega
theorem U3(c:UInt8):∀(s:aqO) (k:Nat),s.count c<=k->Lib.splitK [c] 0 k s=bU c s
 | [],k,_=>by cases k<;>rfl
 | a::r,k,h=>by
  unfold bU;by_cases e:a=c
  ·subst e;rw[List.count_cons_self]at h;obtain⟨k,rfl⟩:∃m,k=m+1:=⟨k-1,by omega⟩
   have hi:Lib.index (a::r) [a]=0:=by rw[Lib.index_one];unfold Lib.indexByte;simp
   unfold Lib.splitK;rw[hi,show((0:Int) == -1)=false from rfl,show(a==a)=true by simp,cond_true];have ih:=U3 a r k (by omega);simpa using ih
  ·have he:(a==c)=false:=by simpa using e
   rw[he,cond_false];rw[List.count_cons_of_ne e]at h;have ih:=U3 c r k h;have hx:Lib.index (a::r) [c]=if Lib.indexByte r c == -1 then -1 else Lib.indexByte r c+1:=by
    rw[Lib.index_one]
    conv=>lhs;unfold Lib.indexByte
    rw[he];rfl
   have hr:Lib.index r [c]=Lib.indexByte r c:=Lib.index_one r c;cases k with
   | zero =>
    have h1:Lib.indexByte r c = -1:=by
     by_cases q:Lib.indexByte r c = -1
     ·exact q
     ·have:=ajy c r q;omega
    rw[<- ih];rfl
   | succ k =>
    rw[<- ih];have hg:=Lib.indexByte_ge r c;unfold Lib.splitK;rw[hx,hr];by_cases q:Lib.indexByte r c = -1
    ·rw[q];rfl
    ·have q1:(Lib.indexByte r c == -1)=false:=by simpa using q
     have q3:(Lib.indexByte r c+1 == -1)=false:=by simp only[agA];omega
     have q2:(Lib.indexByte r c+1).toNat=(Lib.indexByte r c).toNat+1:=by omega
     simp[q1,q3,q2,FN]
theorem yU(s:aqO)(c:UInt8)(a b:Int):d9 s [c] a b=bU c s:=by show Lib.splitK [c] 0 (Lib.count s [c]) s=_;rw[Lib.count_one];exact U3 c s _ (abn _)
theorem ajz:∀s:aqO,rP s=bU 47 s
 | []=>rfl
 | c::r=>by
  have e:bU 47 (c::r)=bif c==47 then[]::bU 47 r else FN [c] (bU 47 r):=rfl
  rw[Uh,ajz r,e];generalize bU 47 r=l;cases l<;>rfl
theorem yV(c:UInt8):∀{s:aqO},c∉s->bU c s=[s]
 | [],_=>rfl
 | a::r,h=>by
  unfold bU;have e:(a==c)=false:=by simpa using fun e:a=c=>h (by rw[e];exact abd)
  rw[e,cond_false,yV c fun hm=>h (abb _ hm)];rfl
theorem GD(c:UInt8):∀{a:aqO} (b:aqO),c∉a->bU c (a++c::b)=a::bU c b
 | [],b,_=>by
  show bU c (c::b)=_
  conv=>lhs;unfold bU
  rw[show(c==c)=true by simp];rfl
 | x::a,b,h=>by
  show bU c (x::(a++c::b))=_
  conv=>lhs;unfold bU
  have e:(x==c)=false:=by simpa using fun e:x=c=>h (by rw[e];exact abd)
  rw[e,cond_false,GD c b fun hm=>h (abb _ hm)];rfl
theorem Y9(c:UInt8):∀s:aqO,(bU c s).length=s.count c+1
 | []=>rfl
 | a::r=>by
  unfold bU;by_cases e:a=c
  ·subst e;rw[show(a==a)=true by simp,cond_true,List.length_cons,Y9 a r,List.count_cons_self]
  ·rw[show(a==c)=false by simpa using e,cond_false,avL _ (oH c r),Y9 c r,List.count_cons_of_ne e]
section
theorem Q8(c:UInt8):∀{s:aqO} {y:UInt8},y∈s->y≠c->∃x∈bU c s,y∈x
 | a::r,y,h,hy=>by
  unfold bU;rcases List.mem_cons.1 h with rfl | h
  ·rw[show(y==c)=false by simpa using hy,cond_false];cases hc:bU c r with
   | nil=>exact absurd hc (oH c r)
   | cons w t=>exact⟨[y]++w,abd,by simp⟩
  ·obtain⟨x,h1,h2⟩:=Q8 c h hy;cases a==c with
   | true=>exact⟨x,abb _ h1,h2⟩
   | false =>
    rw[cond_false];cases hc:bU c r with
    | nil=>exact absurd hc (oH c r)
    | cons w t =>
     rw[hc]at h1;rcases List.mem_cons.1 h1 with rfl | h1
     ·exact⟨[a]++x,abd,anj _ h2⟩
     ·exact⟨x,abb _ h1,h2⟩
theorem anc(c:UInt8):∀{a:aqO} (b:aqO),c∉a->Lib.indexByte (a++c::b) c=(a.length:Int)
 | [],b,_=>by show Lib.indexByte (c::b) c=0;unfold Lib.indexByte;simp
 | x::a,b,h=>by
  show Lib.indexByte (x::(a++c::b)) c=_;unfold Lib.indexByte;have e:(x==c)=false:=by simpa using fun e:x=c=>h (by rw[e];exact abd)
  rw[e,anc c b fun hm=>h (abb _ hm)];grind
theorem asW(c:UInt8):∀{a:aqO},c∉a->Lib.indexByte a c = -1
 | [],_=>rfl
 | x::a,h=>by
  unfold Lib.indexByte;have e:(x==c)=false:=by simpa using fun e:x=c=>h (by rw[e];exact abd)
  rw[e,asW c fun hm=>h (abb _ hm)];rfl
theorem ane(c:UInt8){a:aqO}(b:aqO)(h:c∉a):lU (a++c::b) [c]=a/\pU (a++c::b) [c]=b/\zN (a++c::b) [c]=true:=by have e:pR (a++c::b) [c]=(a.length:Int):=anc c b h;unfold lU pU zN;rw[e,dT (show(0:Int)<=(a.length:Int) by omega),aaE];refine⟨by rw[cond_true,List.take_left'] ;rfl,?_,rfl⟩;rw[cond_true,List.drop_append];simp
theorem asX(c:UInt8){a:aqO}(h:c∉a):lU a [c]=a/\pU a [c]=[]/\zN a [c]=false:=by have e:pR a [c] = -1:=asW c h;unfold lU pU zN;rw[e];exact⟨rfl,rfl,rfl⟩
theorem ajA(c:UInt8):∀{s:aqO},c∈s->∃a b,s=a++c::b/\c∉a
 | x::r,h=>by
  by_cases e:x=c
  ·subst e;exact⟨[],r,rfl,by simp⟩
  ·obtain⟨a,b,rfl,h2⟩:=ajA c ((List.mem_cons.1 h).resolve_left (fun h=>e h.symm));grind
theorem ajB(c:UInt8):∀{a a' b b':aqO},a++c::b=a'++c::b'->c∉a->c∉a'->a=a'/\b=b'
 | [],[],b,b',h,_,_=>⟨rfl,by simpa using h⟩
 | [],x::a',b,b',h,_,h2=>by grind
 | x::a,[],b,b',h,h1,_=>by grind
 | x::a,y::a',b,b',h,h1,h2=>by obtain⟨e1,e2⟩:=List.cons.inj h;obtain⟨e3,e4⟩:=ajB c e2 (fun hm=>h1 (abb _ hm)) (fun hm=>h2 (abb _ hm));exact⟨by rw[e1,e3],e4⟩
theorem asY{s:aqO}(h:dX s=true):∀c∈s,dZ c=true:=by unfold dX at h;grind
theorem anf{s:aqO}{c:UInt8}(hc:c∈s)(hd:dZ c=false)(k:Int):fH s k=(0,3):=by
 unfold fH;cases hw:dX s with
 | false=>rfl
 | true=>have:=asY hw c hc;rw[hd]at this;cases this
theorem Wi(s:aqO):qc s=bif(bif(fH s 65535).2 != 0 then true else(fH s 65535).1==0)then -1 else(fH s 65535).1:=by unfold qc;rw[count_eq s (by decide)]
theorem Wj{s:aqO}(h:(fH s 65535).2≠0\/(fH s 65535).1=0):qc s = -1:=by rw[Wi];grind
theorem asZ{s:aqO}(h:(fH s 65535).2=0)(h':(fH s 65535).1≠0):qc s=(fH s 65535).1:=by rw[Wi,nK h,eT h'];rfl
theorem ang{s:aqO}{c:UInt8}(hc:c∈s)(hd:dZ c=false)(h46:c≠46):Gy s=false:=by
 obtain⟨x,h1,h2⟩:=Q8 46 hc h46;unfold Gy;rw[yU];have:(bU 46 s).any Bc=true:=List.any_eq_true.2 ⟨x,h1,by unfold Bc;rw[count_eq x (by decide),anf h2 hd];rfl⟩
 grind
theorem aBp{s:aqO}(h:Gy s=true):∀c∈s,dZ c=true\/c=46:=fun c hc=>by
 by_cases h46:c=46
 ·exact .inr h46
 ·cases hd:dZ c with
  | true=>exact .inl rfl
  | false=>rw[ang hc hd h46]at h;cases h
theorem Q9{p:Port}:kE p=true↔((1<=p.iP/\p.iP<=65535)/\0<=p.out/\p.out<=65535)/\(p.proto=[116,99,112]\/p.proto=[117,100,112])/\(p.host=[]\/Gy p.host=true):=by unfold kE;grind
theorem tK{p:Port}(h:p.iP<1\/p.out<0\/(p.proto≠[116,99,112]/\p.proto≠[117,100,112])\/(p.host≠[]/\Gy p.host=false)):kE p=false:=by
 cases hb:kE p with
 | false=>rfl
 | true =>obtain⟨⟨⟨a,b⟩,c,d⟩,e,f⟩:=Q9.1 hb;grind
theorem wQ{p:Port}(h:kE p=false):qd p=(CO,3):=by unfold qd;rw[h];rfl
theorem anh{p:Port}(h:kE p=true):qd p=(p,0):=by unfold qd;rw[h];rfl
theorem pP1{h pr a:aqO}(e:bU 58 h=[a]):uz h pr=qd ⟨[],0,qc a,pr⟩:=by unfold uz;rw[yU,e];rfl
theorem pP2{h pr a b:aqO}(e:bU 58 h=[a,b]):uz h pr=qd ⟨[],qc a,qc b,pr⟩:=by unfold uz;rw[yU,e];rfl
theorem pP3{h pr a b c:aqO}(e:bU 58 h=[a,b,c]):uz h pr=bif a==[]then(CO,3)else bif !(b==[])then qd ⟨a,qc b,qc c,pr⟩else qd ⟨a,0,qc c,pr⟩:=by unfold uz;rw[yU,e];rfl
theorem pP4{h pr a b c d:aqO}{t:List (aqO)}(e:bU 58 h=a::b::c::d::t):uz h pr=(CO,3):=by unfold uz;rw[yU,e];grind
theorem Pb{s:aqO}{c:UInt8}(hc:c∈s)(hd:dZ c=false):qc s = -1:=Wj (.inl (by rw[anf hc hd];decide))
theorem U4{h pr:aqO}(hs:(47:UInt8)∈h):uz h pr=(CO,3):=by
 obtain⟨x,h1,h2⟩:=Q8 58 hs (by decide);have hd:dZ 47=false:=rfl
 match hl:bU 58 h,h1 with
 | [a],h1 =>rw[List.mem_singleton.1 h1]at h2;rw[pP1 hl,Pb h2 hd];exact wQ (tK (.inl (show(-1:Int)<1 by decide)))
 | [a,b],h1 =>
  rw[pP2 hl];rcases List.mem_cons.1 h1 with rfl | h1
  ·rw[Pb h2 hd];exact wQ (tK (.inr (.inl (show(-1:Int)<0 by decide))))
  ·rw[List.mem_singleton.1 h1]at h2;rw[Pb h2 hd];exact wQ (tK (.inl (show(-1:Int)<1 by decide)))
 | [a,b,c],h1 =>
  rw[pP3 hl];cases ha:a==[]with
  | true=>rfl
  | false =>
   have ha':a≠[]:=by simpa using ha
   rcases List.mem_cons.1 h1 with rfl | h1
   ·have:=ang h2 hd (by decide);cases !(b==[])<;>exact wQ (tK (.inr (.inr (.inr ⟨ha',this⟩))))
   ·rcases List.mem_cons.1 h1 with rfl | h1
    ·have hb:(x==[])=false:=by cases x with | nil=>cases h2 | cons _ _=>rfl
     rw[hb,Pb h2 hd];exact wQ (tK (.inr (.inl (show(-1:Int)<0 by decide))))
    ·rw[List.mem_singleton.1 h1]at h2;rw[Pb h2 hd];have hz:∀o:Int,qd ⟨a,o, -1,pr⟩=(CO,3):=fun o=>wQ (tK (.inl (show(-1:Int)<1 by decide)))
     grind
 | a::b::c::d::t,_=>exact pP4 hl
theorem as1{h pr:aqO}(h1:pr≠[116,99,112])(h2:pr≠[117,100,112]):uz h pr=(CO,3):=by
 have hno:∀(a:aqO) (o i:Int),qd ⟨a,o,i,pr⟩=(CO,3):=fun a o i=>wQ (tK (.inr (.inr (.inl ⟨h1,h2⟩))))
 match hl:bU 58 h with
 | []=>exact absurd hl (oH _ _)
 | [a]=>rw[pP1 hl,hno]
 | [a,b]=>rw[pP2 hl,hno]
 | [a,b,c]=>rw[pP3 hl,hno,hno];cases a==[]<;>cases !(b==[])<;>rfl
 | a::b::c::d::t=>exact pP4 hl
def aqd:aqO:=[47,116,99,112]
def aqe:aqO:=[47,117,100,112]
def Jq(s:aqO):Bool:=bif(bif decide ((4:Int)<(s.length:Int))then s.drop (s.length-4)==aqd else false)then true else(bif decide ((4:Int)<(s.length:Int))then s.drop (s.length-4)==aqe else false)
def agn(s:aqO):Port×Int:=bif Jq s then uz (s.take (s.length-4)) (s.drop (s.length-3))else uz s [116,99,112]
theorem ac8{s:aqO}(h:Jq s=true):∃t e,s=t++47::e/\t≠[]/\s.take (s.length-4)=t/\s.drop (s.length-3)=e/\(e=[116,99,112]\/e=[117,100,112]):=by
 unfold Jq at h;by_cases hl:(4:Int)<(s.length:Int)
 ·rw[dT hl]at h;have he:s.drop (s.length-4)=aqd\/s.drop (s.length-4)=aqe:=by
   grind
  have hk:∀c e:aqO,e.length=3->s.drop (s.length-4)=47::e->s=s.take (s.length-4)++47::e/\s.take (s.length-4)≠[]/\s.drop (s.length-3)=e:=fun _ e h3 hd=>by
   refine⟨by rw[<- hd,aif],?_,?_⟩
   ·intro hn;have:=congrArg List.length hn;grind
   ·have:s.drop (s.length-3)=(s.drop (s.length-4)).drop 1:=by rw[ama];congr 1;omega
    rw[this,hd];rfl
  rcases he with he | he
  ·obtain⟨a,b,c⟩:=hk [] [116,99,112] rfl he;exact⟨_,_,a,b,rfl,c,.inl rfl⟩
  ·obtain⟨a,b,c⟩:=hk [] [117,100,112] rfl he;exact⟨_,_,a,b,rfl,c,.inr rfl⟩
 ·rw[dF hl]at h;cases h
theorem aBq{t e:aqO}(ht:t≠[])(he:e=[116,99,112]\/e=[117,100,112]):Jq (t++47::e)=true:=by
 have h3:e.length=3:=by rcases he with rfl | rfl<;>rfl
 have hl:(t++47::e).length=t.length+4:=by rw[List.length_append,List.length_cons,h3]
 have h0:0<t.length:=List.length_pos_iff.2 ht;unfold Jq;rw[dT (show(4:Int)<((t++47::e).length:Int) by rw[hl];omega)];have hd:(t++47::e).drop ((t++47::e).length-4)=47::e:=by rw[hl,show t.length+4-4=t.length by omega];simp
 rw[hd];rcases he with rfl | rfl<;>rfl
theorem avM(s:aqO):agn s=jg s:=by
 unfold agn jg;by_cases h47:(47:UInt8)∈s
 ·obtain⟨a,b,rfl,ha⟩:=ajA 47 h47;obtain⟨c1,c2,c3⟩:=ane 47 b ha;rw[c1,c2,c3,cond_true];by_cases hb:b=[116,99,112]\/b=[117,100,112]
  ·by_cases hn:a=[]
   ·subst hn;have hs:Jq ([]++47::b)=false:=by rcases hb with rfl | rfl<;>rfl
    have hz:uz [] b=(CO,3):=by rw[pP1 (show bU 58 []=[[]]from rfl),show qc [] = -1 from Wj (.inl (by decide))];exact wQ (tK (.inl (show(-1:Int)<1 by decide)))
    rw[hs,cond_false,hz];exact U4 h47
   ·have hs:=aBq hn hb;rw[hs,cond_true];obtain⟨t,e,h1,h2,h3,h4,h5⟩:=ac8 hs;rw[h3,h4];have hl:t.length=a.length:=by
     grind
    obtain⟨q1,q2⟩:=List.append_inj h1 hl.symm;rw[<- q1,(List.cons.inj q2).2]
  ·have hz:uz a b=(CO,3):=as1 (fun e=>hb (.inl e)) (fun e=>hb (.inr e));rw[hz];cases hs:Jq (a++47::b)with
   | false=>exact U4 h47
   | true =>
    obtain⟨t,e,h1,h2,h3,h4,h5⟩:=ac8 hs;rw[cond_true,h3,h4];by_cases ht:(47:UInt8)∈t
    ·exact U4 ht
    ·obtain⟨_,q⟩:=ajB 47 h1 ha ht;exact absurd (q▸h5) hb
 ·obtain⟨c1,c2,c3⟩:=asX 47 h47;rw[c3,cond_false];cases hs:Jq s with
  | false=>rfl
  | true =>obtain⟨t,e,h1,_⟩:=ac8 hs;grind
theorem ajD{n:Int}(h0:0<=n)(h1:n<=65535){c:UInt8}(hc:dZ c=false):c∉aZ n:=fun h=>by have:=ahn.1 (xL h0 (by omega)).2.2 c h;rw[hc]at this;cases this
theorem Wm{n:Int}(h0:0<=n)(h1:n<=65535):aZ n≠[]:=fun h=>by have:=(xL h0 (by omega)).1;rw[h]at this;cases this
theorem Za{n:Int}(h0:1<=n)(h1:n<=65535):qc (aZ n)=n:=by have:=YR (n:=n) (most:=65535) (by omega) h1 (by omega);rw[asZ (by rw[this]) (by rw[this];show n≠0;omega),this]
theorem ay8{p:Port}(h:kE p=true):(47:UInt8)∉En p++aZ p.iP/\∀pr,uz (En p++aZ p.iP) pr=qd ⟨p.host,p.out,p.iP,pr⟩:=by
 obtain⟨⟨⟨a,b⟩,c,d⟩,e,f⟩:=Q9.1 h;have hi:∀{q:UInt8},dZ q=false->q∉aZ p.iP:=fun hq=>ajD (by omega) b hq
 have ho:∀{q:UInt8},dZ q=false->q∉aZ p.out:=fun hq=>ajD c d hq
 have hni:=Za a b;have XH:dZ 58=false:=rfl;have h47:dZ 47=false:=rfl;have aCK:∀q:UInt8,dZ q=false->q≠46->q∉p.host:=fun q h1 h2 hm=>by
  rcases f with f | f
  ·rw[f]at hm;cases hm
  ·rcases aBp f q hm with h | h
   ·rw[h1]at h;cases h
   ·exact h2 h
 by_cases hh:p.host=[]
 ·by_cases ho0:0<p.out
  ·have e1:En p=aZ p.out++[58]:=by
    unfold En XC JF;rw[hh,dT ho0];have:(aZ p.out==[])=false:=by simpa using Wm c d
    grind
   have e2:En p++aZ p.iP=aZ p.out++58::aZ p.iP:=by rw[e1,abt];rfl
   rw[e2];refine⟨fun hm=>?_,fun pr=>?_⟩
   ·grind
   ·have hc:bU 58 (aZ p.out++58::aZ p.iP)=[aZ p.out,aZ p.iP]:=by rw[GD 58 _ (ho XH),yV 58 (hi XH)]
    rw[pP2 hc,hni,Za (by omega) d,hh]
  ·have e1:En p=[]:=by
    unfold En XC JF;rw[hh,dF ho0];rfl
   rw[e1,aei];refine⟨hi h47,fun pr=>?_⟩;rw[pP1 (yV 58 (hi XH)),hni,hh,show p.out=0 by omega]
 ·have hh':(p.host==[])=false:=by simpa using hh
  have e1:En p=p.host++58::(JF p++[58]):=by
   unfold En XC;rw[hh'];have:((p.host++[58])++JF p==[])=false:=by simp
   grind
  have e2:En p++aZ p.iP=p.host++58::(JF p++58::aZ p.iP):=by rw[e1];simp
  have hO:∀q:UInt8,dZ q=false->q∉JF p:=fun q hq=>by unfold JF;grind
  rw[e2];refine⟨fun hm=>?_,fun pr=>?_⟩
  ·grind
  ·have hc:bU 58 (p.host++58::(JF p++58::aZ p.iP))=[p.host,JF p,aZ p.iP]:=by
    rw[GD 58 _ (aCK 58 XH (by decide)),GD 58 _ (hO 58 XH),yV 58 (hi XH)]
   rw[pP3 hc,hh',cond_false,hni];unfold JF;by_cases ho0:0<p.out
   ·have:(aZ p.out==[])=false:=by simpa using Wm c d
    rw[dT ho0,cond_true,this,Za (by omega) d];rfl
   ·rw[dF ho0,show p.out=0 by omega];rfl
theorem ac9{p:Port}(h:kE p=true):jg (zB p)=(p,0)/\zB p≠[]:=by
 obtain⟨h1,h2⟩:=ay8 h;obtain⟨⟨⟨a,b⟩,_⟩,e,_⟩:=Q9.1 h;have hne:=Wm (n:=p.iP) (by omega) b;unfold jg zB;rw[h,adr,cond_false];rcases e with e | e
 ·have:(p.proto==[117,100,112])=false:=by rw[e];rfl
  obtain⟨c1,c2,c3⟩:=asX 47 h1;rw[this,cond_false,c3,cond_false,h2,<- e];exact⟨anh h,by simp[hne]⟩
 ·have:(p.proto==[117,100,112])=true:=by rw[e];rfl
  have e3:(En p++aZ p.iP)++[47,117,100,112]=(En p++aZ p.iP)++47::[117,100,112]:=rfl;obtain⟨c1,c2,c3⟩:=ane 47 [117,100,112] h1;rw[this,cond_true,e3,c1,c2,c3,cond_true,h2,<- e];exact⟨anh h,by simp⟩
theorem ank(s:aqO):(jg s).2=0->kE (jg s).1=true:=by
 have hf:∀p,(qd p).2=0->kE (qd p).1=true:=fun p=>by unfold qd;grind
 have hp:∀h pr,(uz h pr).2=0->kE (uz h pr).1=true:=fun h pr=>by
  match hl:bU 58 h with
  | []=>exact absurd hl (oH _ _)
  | [a]=>rw[pP1 hl];exact hf _
  | [a,b]=>rw[pP2 hl];exact hf _
  | [a,b,c] =>rw[pP3 hl];grind
  | a::b::c::d::t=>rw[pP4 hl];exact fun h=>by cases h
 unfold jg;cases zN s [47]<;>exact hp _ _
end
section
theorem aeJ(w:aqO){l:List (aqO)}(_:l≠[]):FN w ([]::l)=[w]++l:=by show(w++[])::l=_;rw[aeb];rfl
theorem aeK(s:aqO)(hs:s.length<=1000000)(c:UInt8):jB s (c.toNat:Int)=some (bU c s):=by
 refine jo rfl (fun | .e y0 y1=>y0=s/\y1=(c.toNat:Int) | .h0 v0 v1 v2 v3 v4 v5=>v0=s/\v1=(c.toNat:Int)/\v2=v5.length/\∃f i:Nat,v3=(f:Int)/\v4=(i:Int)/\f<=i/\i<=s.length/\v5.length<=i/\v5++FN (cut s (f:Int) (i:Int)) (bU c (s.drop i))=bU c s) (fun | .e _ _=>10000000000 | .h0 _ _ _ _ v4 _=>((s.length:Int)-v4).toNat) ⟨rfl,rfl⟩ (by show 10000000000<_;omega) ?_;rintro(⟨y0,y1⟩ | ⟨v0,v1,v2,v3,v4,v5⟩) hs'
 ·obtain⟨rfl,rfl⟩:=hs';refine⟨⟨rfl,rfl,rfl,0,0,rfl,rfl,abn _,aaG _,aaG _,?_⟩,?_⟩
  ·exact Q7 (oH c y0)
  ·show((y0.length:Int)-0).toNat<10000000000;omega
 ·obtain⟨rfl,rfl,rfl,f,i,rfl,rfl,h1,h2,h3,h4⟩:=hs';simp only[aN,bB,xQ];have kk:∀j:Nat,f<=j->j<=v0.length->bN v0 (f:Int) (j:Int)=true:=fun j _ _=>by simp[bN];omega
  by_cases hi:i<v0.length
  ·have e1:ak ((i:Int)+1)=((i+1:Nat):Int):=by rw[aV (by omega) (by omega)];omega
   rw[dT (show(i:Int)<(v0.length:Int) by omega),cond_true,wS];refine⟨by omega,by omega,?_⟩;rw[aaE,e1,kk i h1 h2,av,dT (show(v5.length+([cut v0 (f:Int) (i:Int)]:List (aqO)).length)*16<=aB by rw[mb,aa8];omega),av];rw[drop_at hi,bU]at h4;have hb:((((v0.getD i 0).toNat:Nat):Int)==(c.toNat:Int))=(v0.getD i 0==c):=by
    by_cases h:v0.getD i 0=c
    ·rw[h];simp
    ·rw[eT (fun e=>h (UInt8.toNat_inj.1 (by omega)))];simpa using h
   rw[hb];generalize hg:v0.getD i 0=a at h4 ⊢;cases ha:a==c with
   | true =>
    rw[ha,cond_true,aeJ _ (oH c _),<- abt]at h4;rw[cond_true];refine⟨⟨trivial,trivial,by rw[List.length_append],i+1,i+1,rfl,rfl,abn _,by omega,by rw[List.length_append,aa8];omega,?_⟩,?_⟩
    ·have hz:cut v0 ((i+1:Nat):Int) ((i+1:Nat):Int)=[]:=by unfold cut;rw[Nat.sub_self];rfl
     rw[hz,Q7 (oH c _)];exact h4
    ·show((v0.length:Int)-((i+1:Nat):Int)).toNat<((v0.length:Int)-(i:Int)).toNat;omega
   | false =>
    rw[ha,cond_false,ajx]at h4;rw[cond_false];refine⟨⟨trivial,trivial,trivial,f,i+1,rfl,rfl,by omega,by omega,by omega,?_⟩,?_⟩
    ·have hz:cut v0 (f:Int) ((i+1:Nat):Int)=cut v0 (f:Int) (i:Int)++[a]:=by
      unfold cut;rw[aaE,aaE,aaE,show i+1-f=(i-f)+1 by omega];have hl:i-f<(v0.drop f).length:=by rw[adH];omega
      rw[aht hl,List.getElem_drop,<- hg];have:v0.getD i 0=v0[i]:=by rw[List.getD,aaz hi];rfl
      rw[this];congr 2;congr 1;omega
     rw[hz];exact h4
    ·show((v0.length:Int)-((i+1:Nat):Int)).toNat<((v0.length:Int)-(i:Int)).toNat;omega
  ·have hle:i=v0.length:=by omega
   subst hle;rw[dF (show ¬ (v0.length:Int)<(v0.length:Int) by omega),cond_false,kk _ h1 (abn _),av,dT (show(v5.length+([cut v0 (f:Int) (v0.length:Int)]:List (aqO)).length)*16<=aB by rw[mb,aa8];omega),av,<- h4,List.drop_length];show _=v5++[cut v0 (f:Int) (v0.length:Int)++[]];rw[aeb]
theorem as2(c:UInt8)(s:aqO):∀x∈bU c s,x.length<=s.length:=fun x hx=>by rw[<- yU s c 0 (-1)]at hx;exact(Dj s c 0 (-1)).2.2 x hx
theorem afC(s:aqO)(hs:s.length<=1000000):Af s=some (Gy s):=by
 refine jo rfl (fun | .e y=>y=s | .h0 v0 v1=>v0=bU 46 s/\v0.length=4/\∃i:Nat,v1=(i:Int)/\i<=4/\(!((v0.drop i).any Bc))=Gy s) (fun | .e _=>100 | .h0 _ v1=>(4-v1).toNat) rfl (by show 100<_;omega) ?_;have hA:Gy s=bif((bU 46 s).length:Int)==4 then !((bU 46 s).any Bc)else false:=by unfold Gy;rw[yU]
 rintro(y | ⟨v0,v1⟩) hs'
 ·have hs':y=s:=hs';subst hs';have hc:=aeK y hs 46;simp only[aN,bB,nC];rw[show jB y 46=some (bU 46 y)from hc];simp only[aH];cases h4:((bU 46 y).length:Int)==4 with
  | false =>rw[h4]at hA;rw[show(((bU 46 y).length:Int)!=4)=true by rw[bne,h4];rfl,cond_true];exact hA.symm
  | true =>rw[h4]at hA;rw[show(((bU 46 y).length:Int)!=4)=false by rw[bne,h4];rfl,cond_false];have:=eq_of_beq h4;exact⟨⟨trivial,by omega,0,rfl,by decide,hA.symm⟩,by show(4-0:Int).toNat<100;decide⟩
 ·obtain⟨rfl,h4,i,rfl,h1,h2⟩:=hs';simp only[aN,bB,nC];by_cases hi:i<4
  ·have e1:ak ((i:Int)+1)=((i+1:Nat):Int):=by rw[aV (by omega) (by omega)];omega
   have hl:i<(bU 46 s).length:=by omega
   have hx:=as2 46 s _ (aee hl);have hdr:(bU 46 s).drop i=(bU 46 s)[i]::(bU 46 s).drop (i+1):=(abl hl).symm;have hg:(bU 46 s).getD i (Df.d:aqO)=(bU 46 s)[i]:=by rw[List.getD,aaz hl];rfl
   rw[dT (show(i:Int)<4 by omega),cond_true,wI];refine⟨by omega,by omega,?_⟩;rw[aaE,hg,e1];rw[hdr,al6]at h2;generalize (bU 46 s)[i]=x at hx h2 ⊢;rw[pF x 255 (by omega) (by decide)];simp only[aH];have hn:Bc x=((fH x 255).2 != 0):=by unfold Bc;rw[count_eq x (by decide)]
   rw[hn]at h2;cases hb:(fH x 255).2 != 0 with
   | true=>rw[hb]at h2;exact h2
   | false =>rw[hb,ajH]at h2;rw[cond_false];refine⟨⟨trivial,h4,i+1,rfl,by omega,h2⟩,?_⟩;show(4-((i+1:Nat):Int)).toNat<(4-(i:Int)).toNat;omega
  ·rw[aa9 (by omega)]at h2;rw[dF (show ¬ (i:Int)<4 by omega),cond_false];exact h2
theorem XI(p:Port)(hs:p.host.length<=1000000):bE p=some (kE p):=by
 refine dL rfl ?_;simp only[aN,bB,uQ,afC p.host hs,aez,ad5,av,fI];have hh:((p.host.length:Int)==0)=(p.host==[]):=by
  cases p.host with
  | nil=>rfl
  | cons c t=>rw[eT (by simp only[List.length_cons];omega)];rfl
 rw[hh];unfold kE;have d1:decide ((1:Int)<=p.iP) = !(decide (p.iP<1)):=by by_cases h:p.iP<1<;>simp[h]<;>omega
 have d2:decide (p.iP<=65535) = !(decide ((65535:Int)<p.iP)):=by by_cases h:(65535:Int)<p.iP<;>simp[h]<;>omega
 have d3:decide ((0:Int)<=p.out) = !(decide (p.out<0)):=by by_cases h:p.out<0<;>simp[h]<;>omega
 have d4:decide (p.out<=65535) = !(decide ((65535:Int)<p.out)):=by by_cases h:(65535:Int)<p.out<;>simp[h]<;>omega
 rw[d1,d2,d3,d4];cases decide (p.iP<1)<;>cases decide ((65535:Int)<p.iP)<;>cases decide (p.out<0)<;>cases decide ((65535:Int)<p.out)<;>cases p.proto==[116,99,112]<;>cases p.proto==[117,100,112]<;>cases p.host==[]<;>cases Gy p.host<;>rfl
theorem abf(p:Port)(hs:p.host.length<=1000000):wD p=some (zB p):=by
 refine dL rfl ?_;simp only[aN,bB,wz,XI p hs,aH];cases hr:kE p with
 | false=>show([]:aqO)=zB p;unfold zB;rw[hr];rfl
 | true =>
  obtain⟨⟨⟨a,b⟩,c,d⟩,_⟩:=Q9.1 hr;have hi:=FM p.iP (by omega);have ho:=FM p.out (by omega);have li:=qX p.iP;have lo:=qX p.out;have no:=Wm c d;have hm:∀x y:aqO,x.length<=2000000->y.length<=100->decide (x.length+y.length<=aA)=true:=fun x y h1 h2=>dT (by rw[ms];omega)
  simp only[adr,cond_false,hi,ho,aH];have hT:zB p=bif p.proto==[117,100,112]then(En p++aZ p.iP)++[47,117,100,112]else En p++aZ p.iP:=by unfold zB;rw[hr];rfl
  rw[hT];unfold En XC JF;by_cases hh:p.host=[]
  ·rw[dF (show ¬ (0:Int)<(p.host.length:Int) by rw[hh];decide),hh];simp only[cond_false,beq_self_eq_true,adr,aei,List.length_nil];by_cases ho0:0<p.out
   ·have:(aZ p.out==[])=false:=by simpa using no
    simp only[dT ho0,cond_true,this,aec];rw[dT (show 0+(aZ p.out).length<=aA by rw[ms];omega),hm (aZ p.out) [58] (by omega) (by decide),hm (aZ p.out++[58]) (aZ p.iP) (by rw[List.length_append,aa8];omega) (by omega),hm ((aZ p.out++[58])++aZ p.iP) [47,117,100,112] (by rw[List.length_append,List.length_append,aa8];omega) (by decide)];simp only[av];cases p.proto==[117,100,112]<;>rfl
   ·simp only[dF ho0,cond_false,beq_self_eq_true,adr,aei];rw[dT (show 0+(aZ p.iP).length<=aA by rw[ms];omega),hm (aZ p.iP) [47,117,100,112] (by omega) (by decide)];simp only[av];cases p.proto==[117,100,112]<;>rfl
  ·have hh':(p.host==[])=false:=by simpa using hh
   have hpos:(0:Int)<(p.host.length:Int):=by have:=List.length_pos_iff.2 hh;omega
   have hne:∀x:aqO,((p.host++[58])++x==[])=false:=fun x=>by simp
   simp only[dT hpos,cond_true,hh',aec,hne];rw[hm p.host [58] (by omega) (by decide),av];by_cases ho0:0<p.out
   ·simp only[dT ho0,cond_true];rw[hm (p.host++[58]) (aZ p.out) (by rw[List.length_append,aa8];omega) (by omega),hm ((p.host++[58])++aZ p.out) [58] (by rw[List.length_append,List.length_append,aa8];omega) (by decide),hm (((p.host++[58])++aZ p.out)++[58]) (aZ p.iP) (by simp only[List.length_append,aa8];omega) (by omega),hm ((((p.host++[58])++aZ p.out)++[58])++aZ p.iP) [47,117,100,112] (by simp only[List.length_append,aa8];omega) (by decide)];simp only[av];cases p.proto==[117,100,112]<;>rfl
   ·simp only[dF ho0,cond_false,aeb];rw[hm (p.host++[58]) [58] (by rw[List.length_append,aa8];omega) (by decide),hm ((p.host++[58])++[58]) (aZ p.iP) (by simp only[List.length_append,aa8];omega) (by omega),hm (((p.host++[58])++[58])++aZ p.iP) [47,117,100,112] (by simp only[List.length_append,aa8];omega) (by decide)];simp only[av];cases p.proto==[117,100,112]<;>rfl
theorem aCL(host:aqO)(out:Int)(x pr:aqO):(bif(bif(fH x 65535).2 != 0 then true else !(kE ⟨host,out,(fH x 65535).1,pr⟩))then(CO,3)else((⟨host,out,(fH x 65535).1,pr⟩:Port),(0:Int)))=qd ⟨host,out,qc x,pr⟩:=by
 by_cases h1:(fH x 65535).2=0
 ·rw[nK h1,cond_false];by_cases h2:(fH x 65535).1=0
  ·rw[Wj (.inr h2),h2,tK (p:=⟨host,out,0,pr⟩) (.inl (show(0:Int)<1 by decide)),wQ (tK (.inl (show(-1:Int)<1 by decide)))];rfl
  ·rw[asZ h1 h2];unfold qd;rfl
 ·rw[kr h1,Wj (.inl h1),wQ (tK (.inl (show(-1:Int)<1 by decide)))];rfl
theorem aw7{y:aqO}(h:(bif(fH y 65535).2 != 0 then true else(fH y 65535).1==0)=true)(host:aqO)(i:Int)(pr:aqO):qd ⟨host,qc y,i,pr⟩=(CO,3):=by
 have:qc y = -1:=by rw[Wi,h];rfl
 rw[this];exact wQ (tK (.inr (.inl (show(-1:Int)<0 by decide))))
theorem as3{y:aqO}(h:(bif(fH y 65535).2 != 0 then true else(fH y 65535).1==0)=false):qc y=(fH y 65535).1:=by rw[Wi,h];rfl
set_option maxHeartbeats 2000000 in
theorem aqf(h pr:aqO)(hh:h.length<=1000000)(Q:Port×Int->Prop)(hQ:Q (uz h pr)):(cl (jB h (58:Int)) False fun y8=>ck ((decide (0<=(0:Int))&&decide ((0:Int)<(y8.length:Int))) || !((!(decide ((3:Int)<(y8.length:Int))))&&((y8.length:Int)==(3:Int)))) False (bif(bif(decide ((3:Int)<(y8.length:Int)))then true else(bif((y8.length:Int)==(3:Int))then(((List.getD y8 (Int.toNat (0:Int)) (dflt .str)).length:Int)==(0:Int))else false))then Q ((⟨([]:aqO),(0:Int),(0:Int),([]:aqO)⟩:Port),(3:Int))else(ix y8 (ak ((y8.length:Int)-(1:Int))) False fun y9=>cl (dI y9 (65535:Int)) False fun ig=>ck ((decide (0<=(1:Int))&&decide ((1:Int)<(y8.length:Int))) || !((decide ((1:Int)<(y8.length:Int)))&&(!((y8.length:Int)==(2:Int))))) False (bif(bif(decide ((1:Int)<(y8.length:Int)))then(bif((y8.length:Int)==(2:Int))then true else(decide ((0:Int)<((List.getD y8 (Int.toNat (1:Int)) (dflt .str)).length:Int))))else false)then(ix y8 (ak ((y8.length:Int)-(2:Int))) False fun wW=>cl (dI wW (65535:Int)) False fun mX=>bif(bif(mX.2 != (0:Int))then true else(mX.1==(0:Int)))then Q ((⟨([]:aqO),(0:Int),(0:Int),([]:aqO)⟩:Port),(3:Int))else(bif((y8.length:Int)==(3:Int))then(ix y8 (0:Int) False fun y13=>ck (((bE (⟨y13,mX.1,ig.1,pr⟩:Port)).isSome) || !(!(ig.2 != (0:Int)))) False (bif(bif(ig.2 != (0:Int))then true else(!(gv (bE (⟨y13,mX.1,ig.1,pr⟩:Port)))))then Q ((⟨([]:aqO),(0:Int),(0:Int),([]:aqO)⟩:Port),(3:Int))else Q ((⟨y13,mX.1,ig.1,pr⟩:Port),(0:Int))))else(ck (((bE (⟨([]:aqO),mX.1,ig.1,pr⟩:Port)).isSome) || !(!(ig.2 != (0:Int)))) False (bif(bif(ig.2 != (0:Int))then true else(!(gv (bE (⟨([]:aqO),mX.1,ig.1,pr⟩:Port)))))then Q ((⟨([]:aqO),(0:Int),(0:Int),([]:aqO)⟩:Port),(3:Int))else Q ((⟨([]:aqO),mX.1,ig.1,pr⟩:Port),(0:Int))))))else(bif((y8.length:Int)==(3:Int))then(ix y8 (0:Int) False fun zu=>ck (((bE (⟨zu,(0:Int),ig.1,pr⟩:Port)).isSome) || !(!(ig.2 != (0:Int)))) False (bif(bif(ig.2 != (0:Int))then true else(!(gv (bE (⟨zu,(0:Int),ig.1,pr⟩:Port)))))then Q ((⟨([]:aqO),(0:Int),(0:Int),([]:aqO)⟩:Port),(3:Int))else Q ((⟨zu,(0:Int),ig.1,pr⟩:Port),(0:Int))))else(ck (((bE (⟨([]:aqO),(0:Int),ig.1,pr⟩:Port)).isSome) || !(!(ig.2 != (0:Int)))) False (bif(bif(ig.2 != (0:Int))then true else(!(gv (bE (⟨([]:aqO),(0:Int),ig.1,pr⟩:Port)))))then Q ((⟨([]:aqO),(0:Int),(0:Int),([]:aqO)⟩:Port),(3:Int))else Q ((⟨([]:aqO),(0:Int),ig.1,pr⟩:Port),(0:Int))))))))):=by
 have hc:=aeK h hh 58;rw[show jB h 58=some (bU 58 h)from hc];have hb:=as2 58 h;simp only[aH];have ez:(⟨[],0,0,[]⟩:Port)=CO:=rfl;have hQf:∀(host:aqO) (out:Int) (x:aqO),Q (qd ⟨host,out,qc x,pr⟩)->(bif(bif(fH x 65535).2 != 0 then true else !(kE ⟨host,out,(fH x 65535).1,pr⟩))then Q (CO,3)else Q ((⟨host,out,(fH x 65535).1,pr⟩:Port),(0:Int))):=fun host out x hq=>by
  rw[<- aCL]at hq;cases hcc:(bif(fH x 65535).2 != 0 then true else !(kE ⟨host,out,(fH x 65535).1,pr⟩))with
  | true=>rw[hcc]at hq;exact hq
  | false=>rw[hcc]at hq;exact hq
 have hR:∀(host:aqO) (o i:Int),host.length<=1000000->bE ⟨host,o,i,pr⟩=some (kE ⟨host,o,i,pr⟩):=fun host o i hl=>XI ⟨host,o,i,pr⟩ hl
 have hn:([]:aqO).length<=1000000:=aaG _
 match hl:bU 58 h,hb with
 | [],_=>exact absurd hl (oH _ _)
 | [a],hb =>rw[pP1 hl]at hQ;have ha:=pF a 65535 (Nat.le_trans (hb a (by simp)) hh) (by decide);have e:ak ((([a]:List (aqO)).length:Int)-1)=0:=rfl;have l1:decide ((3:Int)<(([a]:List (aqO)).length:Int))=false:=rfl;have l2:((([a]:List (aqO)).length:Int)==3)=false:=rfl;have l3:decide ((1:Int)<(([a]:List (aqO)).length:Int))=false:=rfl;have g0:([a]:List (aqO)).getD (Int.toNat 0) (Df.d:aqO)=a:=rfl;simp only[l1,l2,l3,e,ajK,ajZ,aec,ai5,av,cond_false];rw[wI];refine⟨by decide,by show(0:Int)<1;decide,?_⟩;rw[g0,ha];simp only[aH,hR _ _ _ hn,aez,ad5,av,fI,ez];exact hQf _ _ _ hQ
 | [a,b],hb =>
  rw[pP2 hl]at hQ;have ha:=pF a 65535 (Nat.le_trans (hb a (by simp)) hh) (by decide);have hb':=pF b 65535 (Nat.le_trans (hb b (by simp)) hh) (by decide);have e:ak ((([a,b]:List (aqO)).length:Int)-1)=1:=rfl;have e2:ak ((([a,b]:List (aqO)).length:Int)-2)=0:=rfl;have l1:decide ((3:Int)<(([a,b]:List (aqO)).length:Int))=false:=rfl;have l2:((([a,b]:List (aqO)).length:Int)==3)=false:=rfl;have l3:decide ((1:Int)<(([a,b]:List (aqO)).length:Int))=true:=rfl;have l4:((([a,b]:List (aqO)).length:Int)==2)=true:=rfl;have g0:([a,b]:List (aqO)).getD (Int.toNat 0) (Df.d:aqO)=a:=rfl;have g1:([a,b]:List (aqO)).getD (Int.toNat 1) (Df.d:aqO)=b:=rfl;simp only[l1,l2,l3,l4,e,e2,ajK,aec,adr,ai5,av,cond_false,cond_true];rw[wI];refine⟨by decide,by show(1:Int)<2;decide,?_⟩;rw[g1,hb'];simp only[aH];rw[wI];refine⟨by decide,by show(0:Int)<2;decide,?_⟩;rw[g0,ha];simp only[aH,hR _ _ _ hn,aez,ad5,av,fI,ez];cases hq:(bif(fH a 65535).2 != 0 then true else(fH a 65535).1==0)with
  | true=>rw[aw7 hq]at hQ;exact hQ
  | false=>rw[as3 hq]at hQ;exact hQf _ _ _ hQ
 | [a,b,c],hb =>
  rw[pP3 hl]at hQ;have hal:=Nat.le_trans (hb a (by simp)) hh;have hb':=pF b 65535 (Nat.le_trans (hb b (by simp)) hh) (by decide);have hc':=pF c 65535 (Nat.le_trans (hb c (by simp)) hh) (by decide);have e:ak ((([a,b,c]:List (aqO)).length:Int)-1)=2:=rfl;have e2:ak ((([a,b,c]:List (aqO)).length:Int)-2)=1:=rfl;have l1:decide ((3:Int)<(([a,b,c]:List (aqO)).length:Int))=false:=rfl;have l2:((([a,b,c]:List (aqO)).length:Int)==3)=true:=rfl;have l3:decide ((1:Int)<(([a,b,c]:List (aqO)).length:Int))=true:=rfl;have l4:((([a,b,c]:List (aqO)).length:Int)==2)=false:=rfl;have l5:decide ((0:Int)<(([a,b,c]:List (aqO)).length:Int))=true:=rfl;have g0:([a,b,c]:List (aqO)).getD (Int.toNat 0) (Df.d:aqO)=a:=rfl;have g0':([a,b,c]:List (aqO)).getD (Int.toNat 0) (dflt Ty.str:aqO)=a:=rfl;have g1':([a,b,c]:List (aqO)).getD (Int.toNat 1) (dflt Ty.str:aqO)=b:=rfl;have g1:([a,b,c]:List (aqO)).getD (Int.toNat 1) (Df.d:aqO)=b:=rfl;have g2:([a,b,c]:List (aqO)).getD (Int.toNat 2) (Df.d:aqO)=c:=rfl;have ha0:((a.length:Int)==0)=(a==[]):=by
   cases a with
   | nil=>rfl
   | cons c t=>rw[eT (by simp only[List.length_cons];omega)];rfl
  have hb0:decide ((0:Int)<(b.length:Int)) = !(b==[]):=by
   cases b with
   | nil=>rfl
   | cons c t=>rw[dT (by simp only[List.length_cons];omega)];rfl
  simp only[l1,l2,l3,l4,l5,e,e2,g0',g1',ha0,hb0,aec,adr,Bool.and_true,ad5,av,cond_false,cond_true,show decide ((0:Int)<=0)=true from rfl,show decide ((0:Int)<=1)=true from rfl];cases haa:a==[]with
  | true=>rw[haa]at hQ;exact hQ
  | false =>
   rw[haa,cond_false]at hQ;rw[cond_false,wI];refine⟨by decide,by show(2:Int)<3;decide,?_⟩;rw[g2,hc'];simp only[aH];cases hbb : !(b==[])with
   | true =>
    rw[hbb,cond_true]at hQ;rw[cond_true,wI];refine⟨by decide,by show(1:Int)<3;decide,?_⟩;rw[g1,hb'];simp only[aH];cases hq:(bif(fH b 65535).2 != 0 then true else(fH b 65535).1==0)with
    | true=>rw[aw7 hq]at hQ;exact hQ
    | false =>rw[as3 hq]at hQ;rw[cond_false,wI];refine⟨by decide,by show(0:Int)<3;decide,?_⟩;rw[g0];simp only[hR _ _ _ hal,aez,ad5,av,fI,ez];exact hQf _ _ _ hQ
   | false =>rw[hbb,cond_false]at hQ;rw[cond_false,wI];refine⟨by decide,by show(0:Int)<3;decide,?_⟩;rw[g0];simp only[hR _ _ _ hal,aez,ad5,av,fI,ez];exact hQf _ _ _ hQ
 | a::b::c::d::t,_ =>rw[pP4 hl]at hQ;have l1:decide ((3:Int)<((a::b::c::d::t).length:Int))=true:=dT (by simp only[List.length_cons];omega);simp only[l1,adr,ajZ,aec,ai5,av,cond_true];exact hQ
theorem alL(s:aqO)(hs:s.length<=1000000):Ct s=some (jg s):=by
 rw[<- avM];refine dL rfl ?_;simp only[aN,bB,uR];by_cases hl:(4:Int)<(s.length:Int)
 ·have e4:ak ((s.length:Int)-4)=((s.length-4:Nat):Int):=by rw[aV (by omega) (by omega)];omega
  have e3:ak ((s.length:Int)-3)=((s.length-3:Nat):Int):=by rw[aV (by omega) (by omega)];omega
  have hsf:(bif(bif decide ((4:Int)<(s.length:Int))then s.drop (s.length-4)==aqd else false)then true else(bif decide ((4:Int)<(s.length:Int))then s.drop (s.length-4)==aqe else false))=Jq s:=rfl;rw[dT hl]at hsf ⊢;simp only[cond_true]at hsf;rw[e4,e3,yT,yT,Eo,GA (by omega),Gz (by omega)];rw[dT (show(0:Int)<=((s.length-4:Nat):Int) by omega),dT (show((s.length-4:Nat):Int)<=(s.length:Int) by omega),dT (amd (s.length:Int))];simp only[adM,ad5,av,cond_true];unfold agn;rw[show([47,116,99,112]:aqO)=aqd from rfl,show([47,117,100,112]:aqO)=aqe from rfl,hsf];cases Jq s with
  | true=>rw[cond_true,cond_true];exact aqf (s.take (s.length-4)) (s.drop (s.length-3)) (by rw[ad6];omega) (fun r=>r=uz (s.take (s.length-4)) (s.drop (s.length-3))) rfl
  | false=>rw[cond_false,cond_false];exact aqf s [116,99,112] hs (fun r=>r=uz s [116,99,112]) rfl
 ·have hsf:Jq s=false:=by unfold Jq;rw[dF hl];rfl
  unfold agn;rw[hsf,dF hl];simp only[aec,ajK,ai5,av,cond_false];exact aqf s [116,99,112] hs (fun r=>r=uz s [116,99,112]) rfl
end
section
theorem aBr(c:UInt8):(!(Bj (Int.ofNat c.toNat)))=gJ c true:=beq_iff_eq.1 (El (p:=fun n=>(!(Bj (Int.ofNat n)))==(bif kM (Int.ofNat n)==0 then true else(bif true then decide (3<kM (Int.ofNat n))else false))) (by decide +kernel) c)
theorem aBs(c:UInt8):(!(yx (Int.ofNat c.toNat)))=gJ c false:=beq_iff_eq.1 (El (p:=fun n=>(!(yx (Int.ofNat n)))==(bif kM (Int.ofNat n)==0 then true else(bif false then decide (3<kM (Int.ofNat n))else false))) (by decide +kernel) c)
theorem anl{f:UInt8->Bool->Bool}{g:Int->Bool}(h:∀c:UInt8,(!(g (Int.ofNat c.toNat)))=f c false):∀s:aqO,MB f s false=s.all fun c=>g (Int.ofNat c.toNat)
 | []=>rfl
 | c::t=>by have hc:=h c;rw[aeB,<- anl h t];simp only[MB,<- hc];cases g (Int.ofNat c.toNat)<;>rfl
theorem as4{f:UInt8->Bool->Bool}{g1 g2:Int->Bool}(h1:∀c:UInt8,(!(g1 (Int.ofNat c.toNat)))=f c true)(h2:∀c:UInt8,(!(g2 (Int.ofNat c.toNat)))=f c false)(s:aqO):rU g1 g2 s=cO f s:=by
 unfold rU cO;cases s with
 | nil=>rfl
 | cons c t =>
  cases(bif decide ((((c::t).length:Nat):Int)<1)then true else decide ((24:Int)<(((c::t).length:Nat):Int)))with
  | true=>rfl
  | false =>have e:List.getD (c::t) (Int.toNat 0) 0=c:=rfl;have e2:(c::t).drop 1=t:=rfl;simp only[cond_false,MB,e,e2,h1,anl h2]
theorem Bd(s:aqO):rU Bj yx s=cO gJ s:=as4 aBr aBs s
theorem aqg{s:aqO}(hs:s.length<=1000000):qG s=(Dm s&&(s.headD 0==47)&&((s==[47]) || !(bU 47 (s.drop 1)).any jS)):=by unfold qG;rw[UU s hs,fI,ajz]
theorem U5(c:UInt8){e:aqO}(he:c∉e):∀t:aqO,bU c (t++c::e)=bU c t++[e]
 | []=>by
  show bU c (c::e)=_
  conv=>lhs;unfold bU
  rw[show(c==c)=true by simp,cond_true,yV c he];rfl
 | a::t=>by
  show bU c (a::(t++c::e))=_;have ih:=U5 c he t
  conv=>lhs;unfold bU
  conv=>rhs;unfold bU
  rw[ih];cases a==c with
  | true=>rfl
  | false =>
   rw[cond_false,cond_false];cases hc:bU c t with
   | nil=>exact absurd hc (oH c t)
   | cons w r=>rfl
theorem abg(c:UInt8):∀{s:aqO},c∈s->∃t b,s=t++c::b/\c∉b
 | x::r,h=>by
  by_cases hr:c∈r
  ·obtain⟨t,b,rfl,h2⟩:=abg c hr;exact⟨x::t,b,rfl,h2⟩
  ·have:x=c:=by
    rcases List.mem_cons.1 h with h | h
    ·exact h.symm
    ·exact absurd h hr
   subst this;exact⟨[],r,rfl,hr⟩
def roE:aqO:=[58,114,111]
def rwE:aqO:=[58,114,119]
def R6(s:aqO):Bool:=bif decide ((3:Int)<=(s.length:Int))then(bif s.drop (s.length-3)==roE then true else s.drop (s.length-3)==rwE)else false
def U6(s:aqO):fO×Int:=bif R6 s then IY (bU 58 (s.take (s.length-3))) ((((s.getD (s.length-1) 0).toNat:Nat):Int)==111)else IY (bU 58 s) false
theorem anm{s:aqO}(h:R6 s=true):∃e,s=s.take (s.length-3)++58::e/\(e=[114,111]\/e=[114,119])/\3<=s.length:=by
 unfold R6 at h;by_cases hl:(3:Int)<=(s.length:Int)
 ·rw[dT hl,cond_true]at h;cases h1:s.drop (s.length-3)==roE with
  | true =>have h1:s.drop (s.length-3)=58::[114,111]:=eq_of_beq h1;exact⟨_,by rw[<- h1,aif],.inl rfl,by omega⟩
  | false =>rw[h1]at h;have h1:s.drop (s.length-3)=58::[114,119]:=eq_of_beq h;exact⟨_,by rw[<- h1,aif],.inr rfl,by omega⟩
 ·rw[dF hl]at h;cases h
theorem aEQ{e:aqO}(he:e=[114,111]\/e=[114,119]):(58:UInt8)∉e:=by rcases he with rfl | rfl<;>decide
theorem as5{t e:aqO}(he:e=[114,111]\/e=[114,119]):R6 (t++58::e)=true/\(t++58::e).take ((t++58::e).length-3)=t/\((((t++58::e).getD ((t++58::e).length-1) 0).toNat:Nat):Int)=(if e=[114,111]then 111 else 119):=by
 have h2:e.length=2:=by rcases he with rfl | rfl<;>rfl
 have hl:(t++58::e).length=t.length+3:=by rw[List.length_append,List.length_cons,h2]
 have hd:(t++58::e).drop ((t++58::e).length-3)=58::e:=by rw[hl,show t.length+3-3=t.length by omega];simp
 refine⟨?_,by rw[hl,show t.length+3-3=t.length by omega];simp,?_⟩
 ·unfold R6;rw[dT (show(3:Int)<=((t++58::e).length:Int) by rw[hl];omega),hd];rcases he with rfl | rfl<;>rfl
 ·rw[hl,show t.length+3-1=t.length+2 by omega];have:(t++58::e).getD (t.length+2) 0=e.getD 1 0:=by
   rw[List.getD,List.getD,aef (by omega),show t.length+2-t.length=2 by omega];rfl
  rw[this];rcases he with rfl | rfl<;>rfl
theorem as6(s:aqO):U6 s=nH s:=by
 unfold U6 nH mEn UW;rw[yU];by_cases XH:(58:UInt8)∈s
 ·obtain⟨t,b,rfl,hb⟩:=abg 58 XH;have hc:=U5 58 hb t;have hne:=oH 58 t;have hpos:=List.length_pos_iff.2 hne;rw[hc];have hlen:(bU 58 t++[b]).length=(bU 58 t).length+1:=by rw[List.length_append,aa8]
  have hla:(bU 58 t++[b]).getD ((bU 58 t++[b]).length-1) []=b:=by rw[hlen,Nat.add_sub_cancel,List.getD,aef (abn _),Nat.sub_self];rfl
  have htk:(bU 58 t++[b]).take ((bU 58 t++[b]).length-1)=bU 58 t:=by rw[hlen,Nat.add_sub_cancel];simp
  rw[hla,htk,dT (show(1:Int)<((bU 58 t++[b]).length:Int) by rw[hlen];omega),cond_true];by_cases he:b=[114,111]\/b=[114,119]
  ·obtain⟨q1,q2,q3⟩:=as5 (t:=t) he;have hx:(bif b==[114,111]then true else b==[114,119])=true:=by rcases he with rfl | rfl<;>rfl
   rw[q1,q2,q3,hx,cond_true,cond_true];rcases he with rfl | rfl<;>rfl
  ·have hx:(bif b==[114,111]then true else b==[114,119])=false:=by
    have h1:(b==[114,111])=false:=by simpa using fun e=>he (.inl e)
    have h2:(b==[114,119])=false:=by simpa using fun e=>he (.inr e)
    rw[h1,h2];rfl
   rw[hx];cases hs:R6 (t++58::b)with
   | false=>rfl
   | true =>obtain⟨e,h1,h2,_⟩:=anm hs;have h3:=U5 58 (aEQ h2) ((t++58::b).take ((t++58::b).length-3));rw[<- h1,hc]at h3;have:=(List.append_inj' h3 rfl).2;exact absurd ((List.cons.inj this).1▸h2) he
 ·have hc:=yV 58 XH;have hs:R6 s=false:=by
   cases hs:R6 s with
   | false=>rfl
   | true =>obtain⟨e,h1,_⟩:=anm hs;exact absurd (h1▸anj _ abd) XH
  rw[hs,hc];rfl
theorem ay9:qG []=false:=by rw[aqg (by decide)];rfl
theorem avN{l:List (aqO)}(h:3<=l.length)(ro:Bool):IY l ro=(mz,3):=by unfold IY u7 sI;rw[eT (show(l.length:Int)≠1 by omega),eT (show(l.length:Int)≠2 by omega)];dsimp only;rw[ay9];rfl
theorem Wn{s:aqO}(h:Dm s=true):(58:UInt8)∉s/\s≠[]/\s.length<=64:=by
 unfold Dm at h;rw[abj]at h;refine⟨fun hm=>?_,?_⟩
 ·have:=ahn.1 h.1 58 hm;exact absurd this (by decide)
 ·have h2:=h.2;cases he:s==[]with
  | true=>rw[he]at h2;cases h2
  | false =>rw[he]at h2;exact⟨by simpa using he,by have:=of_decide_eq_true h2;omega⟩
theorem ajE{s:aqO}(hs:s.length<=1000000)(h:qG s=true):(58:UInt8)∉s/\s.length<=64/\∃r,s=47::r:=by
 rw[aqg hs]at h;simp only[abj]at h;obtain⟨a,b,c⟩:=Wn h.1.1;refine⟨a,c,?_⟩;cases s with
 | nil=>exact absurd rfl b
 | cons x r=>exact⟨r,by rw[show x=47 by simpa using h.1.2]⟩
theorem as7:∀(s:aqO) (b:Bool),MB gJ s b=true->(58:UInt8)∉s
 | [],_,_=>by simp
 | c::t,b,h=>by
  unfold MB at h;have h':gJ c b=false/\MB gJ t false=true:=by
   cases hb:gJ c b with
   | true=>rw[hb]at h;simp at h
   | false=>rw[hb]at h;simpa using h
  intro hm;rcases List.mem_cons.1 hm with hm | hm
  ·rw[<- hm]at h';have:=h'.1;cases b<;>exact absurd this (by decide)
  ·exact as7 t false h'.2 hm
theorem aza{s:aqO}(h:cO gJ s=true):(58:UInt8)∉s:=by
 unfold cO at h;cases hb:(bif decide ((s.length:Int)<1)then true else decide ((24:Int)<(s.length:Int)))with
 | true=>rw[hb]at h;cases h
 | false=>rw[hb]at h;exact as7 s true h
theorem ajF{m:fO}(_:m.target.length<=1000000)(h:sI m=true):qG m.target=true/\(58:UInt8)∉m.source/\m.source.length<=64:=by
 unfold sI at h;cases ht:qG m.target with
 | false=>rw[ht]at h;cases h
 | true =>
  rw[ht,cond_true]at h;refine⟨rfl,?_⟩;cases h0:m.source==[]with
  | true =>
   have:m.source=[]:=by simpa using h0
   rw[this];exact⟨by simp,by decide⟩
  | false =>
   rw[h0,cond_false,Bd]at h;cases hn:cO gJ m.source with
   | true=>exact⟨aza hn,by have:=ar4 hn;omega⟩
   | false =>
    rw[hn,cond_false]at h;cases hp:Dm m.source with
    | false=>rw[hp]at h;cases h
    | true=>exact⟨(Wn hp).1,(Wn hp).2.2⟩
theorem ano{m:fO}(h:sI m=true):u7 m=(m,0):=by unfold u7;rw[h];rfl
theorem azb{m:fO}(hs:m.target.length<=1000000)(h:sI m=true):IY (bU 58 (Ll m)) m.readOnly=(m,0)/\mEn (Ll m)=false:=by
 obtain⟨h1,h2,h3⟩:=ajF hs h;obtain⟨t1,t2,r,t3⟩:=ajE hs h1;have hno:(bif m.target==[114,111]then true else m.target==[114,119])=false:=by rw[t3];rfl
 unfold mEn UW;rw[yU];by_cases h0:m.source=[]
 ·have e:Ll m=m.target:=by unfold Ll;rw[h0];rfl
  rw[e,yV 58 t1];refine⟨?_,rfl⟩;show u7 ⟨[],m.target,m.readOnly⟩=_;rw[<- h0];exact ano h
 ·have h0':(m.source==[])=false:=by simpa using h0
  have e:Ll m=m.source++58::m.target:=by unfold Ll;rw[h0'];simp
  rw[e,GD 58 _ h2,yV 58 t1];refine⟨?_,?_⟩
  ·show(bif m.source==[]then(mz,3)else u7 ⟨m.source,m.target,m.readOnly⟩)=_;rw[h0',cond_false];exact ano h
  ·exact hno
theorem anp{m:fO}(hs:m.target.length<=1000000)(h:sI m=true):nH (oz m)=(m,0)/\(oz m).length<=200:=by
 obtain⟨h1,h2,h3⟩:=ajF hs h;obtain⟨t1,t2,r,t3⟩:=ajE hs h1;have hO:(Ll m).length<=130:=by
  unfold Ll;cases !(m.source==[])with
  | true=>rw[cond_true,List.length_append,List.length_append,aa8];omega
  | false=>rw[cond_false];omega
 obtain⟨b1,b2⟩:=azb hs h;unfold oz;rw[h,adr,cond_false];cases hr:m.readOnly with
 | false =>rw[hr]at b1;rw[cond_false];refine⟨?_,by omega⟩;unfold nH;rw[b2,yU];exact b1
 | true =>rw[hr]at b1;rw[cond_true];refine⟨?_,by rw[List.length_append];show _+3<=_;omega⟩;have e:Ll m++[58,114,111]=Ll m++58::[114,111]:=rfl;rw[e,<- as6];unfold U6;obtain⟨q1,q2,q3⟩:=as5 (t:=Ll m) (e:=[114,111]) (.inl rfl);rw[q1,q2,q3,cond_true];exact b1
theorem aCM(s:aqO):(nH s).2=0->sI (nH s).1=true:=by
 have hf:∀m,(u7 m).2=0->sI (u7 m).1=true:=fun m=>by
  unfold u7;cases hr:sI m with
  | true=>exact fun _=>hr
  | false=>exact fun h=>by cases h
 have h2:∀l ro,(IY l ro).2=0->sI (IY l ro).1=true:=fun l ro=>by
  unfold IY;cases(l.length:Int)==1 with
  | true=>exact hf _
  | false =>
   cases(l.length:Int)==2 with
   | false=>exact hf ⟨[],[],ro⟩
   | true =>
    cases l.getD 0 []==[]with
    | true=>exact fun h=>by cases h
    | false=>exact hf _
 unfold nH;cases mEn s<;>exact h2 _ _
end
section
theorem aCN(c:UInt8):(!(Q6 ((c.toNat:Nat):Int))) = !(bif((c.toNat:Nat):Int)!=47 then kM ((c.toNat:Nat):Int)==0 else false):=beq_iff_eq.1 (El (p:=fun n=>(!(Q6 ((n:Nat):Int))) == !(bif((n:Nat):Int)!=47 then kM ((n:Nat):Int)==0 else false)) (by decide +kernel) c)
theorem abh(s:aqO)(hs:s.length<=1000000):wE s=some (Dm s):=by
 refine jo rfl (fun | .e y=>y=s | .h0 v0 v1=>v0=s/\∃i:Nat,v1=(i:Int)/\i<=s.length/\((s.drop i).all fun c=>!(Q6 ((c.toNat:Nat):Int)))=Dm s) (fun | .e _=>10000000000 | .h0 _ v1=>((s.length:Int)-v1).toNat) rfl (by show 10000000000<_;omega) ?_;rintro(y | ⟨v0,v1⟩) hs'
 ·have hs':y=s:=hs';subst hs';simp only[aN,bB,ql];have hp:Dm y=((y.all fun c=>!(Q6 ((c.toNat:Nat):Int)))&&(bif !(y==[])then decide ((y.length:Int)<=64)else false)):=rfl;by_cases h0:y=[]
  ·subst h0;rfl
  ·have h1:0<y.length:=List.length_pos_iff.2 h0;grind
 ·obtain⟨rfl,i,rfl,h1,h2⟩:=hs';simp only[aN,bB,ql];by_cases hi:i<v0.length
  ·have e1:ak ((i:Int)+1)=((i+1:Nat):Int):=by rw[aV (by omega) (by omega)];omega
   rw[drop_at hi,aeB,aCN]at h2;rw[dT (show(i:Int)<(v0.length:Int) by omega),cond_true,wS];refine⟨by omega,by omega,?_⟩;rw[aaE,e1,dT (show(0:Int)<=(i:Int) by omega),adM,ad5,av];grind
  grind
theorem azc{s:aqO}{f i:Nat}(h1:f<=i)(hi:i<s.length):cut s (f:Int) ((i+1:Nat):Int)=cut s (f:Int) (i:Int)++[s.getD i 0]:=by
 unfold cut;rw[aaE,aaE,aaE,show i+1-f=(i-f)+1 by omega];have hl:i-f<(s.drop f).length:=by rw[adH];omega
 rw[aht hl,List.getElem_drop];grind
theorem ajG(s:aqO)(hs:s.length<=1000000):Bu s=some (qG s):=by
 have hT:=aqg hs;refine jo rfl (fun | .e y=>y=s | .h0 v0 v1 v2=>v0=s/\∃f i:Nat,v1=(f:Int)/\v2=(i:Int)/\((f<=i/\i<=s.length/\(!((FN (cut s (f:Int) (i:Int)) (bU 47 (s.drop i))).any jS))=qG s)\/(i=s.length+1/\qG s=true))) (fun | .e _=>10000000000 | .h0 _ _ v2=>((s.length:Int)+1-v2).toNat) rfl (by show 10000000000<_;omega) ?_;rintro(y | ⟨v0,v1,v2⟩) hs'
 ·have hs':y=s:=hs';subst hs';simp only[aN,bB,om,abh y hs,aH];cases hp:Dm y with
  | false =>rw[hp]at hT;simp only[aec,adr,ai5,av,cond_true];rw[hT];rfl
  | true =>
   rw[hp,aeu]at hT;have hne:=(Wn hp).2.1
   match y,hne,hT with
   | c::r,_,hT =>
    have h0:decide ((0:Int)<((c::r).length:Int))=true:=dT (by simp only[List.length_cons];omega);have hb:((((c::r).getD (Int.toNat 0) 0).toNat:Nat):Int)=((c.toNat:Nat):Int):=rfl;rw[h0,hb];simp only[adr,aec,Bool.and_true,Bool.or_false,av,cond_false,show decide ((0:Int)<=0)=true from rfl];by_cases h47:c=47
    ·subst h47;have e1:((((47:UInt8).toNat:Nat):Int)!=47)=false:=rfl;rw[e1,cond_false];have hT:qG (47::r)=((((47:UInt8)::r)==[47]) || !(bU 47 r).any jS):=hT;cases hz:((47:UInt8)::r)==[47]with
     | true=>rw[hz]at hT;exact hT.symm
     | false =>
      rw[hz,ajH]at hT;rw[cond_false];refine⟨⟨trivial,1,1,rfl,rfl,.inl ⟨abn _,by simp only[List.length_cons];omega,?_⟩⟩,?_⟩
      ·rw[hT];have:FN (cut (47::r) ((1:Nat):Int) ((1:Nat):Int)) (bU 47 (List.drop 1 (47::r)))=bU 47 r:=Q7 (oH 47 r);rw[this]
      ·show(((47::r).length:Int)+1-1).toNat<10000000000;omega
    ·have e1:(((c.toNat:Nat):Int)!=47)=true:=by
      rw[bne_iff_ne];exact fun e=>h47 (UInt8.toNat_inj.1 (by show c.toNat=47;omega))
     grind
 ·obtain⟨rfl,f,i,rfl,rfl,h⟩:=hs';simp only[aN,bB,om,aaE];rcases h with⟨h1,h2,h3⟩ | ⟨rfl,h3⟩
  ·have e1:ak ((i:Int)+1)=((i+1:Nat):Int):=by rw[aV (by omega) (by omega)];omega
   have kc:bN v0 (f:Int) (i:Int)=true:=by simp[bN];omega
   rw[dT (show(i:Int)<=(v0.length:Int) by omega),cond_true,(ckD i v0 false).2,av,e1,kc,av];have hbd:∀w:aqO,(bif(bif w==[]then true else w==[46])then true else w==[46,46])=jS w:=fun _=>rfl
   rw[hbd];have hM:((v0.length:Int)+1-((i+1:Nat):Int)).toNat<((v0.length:Int)+1-(i:Int)).toNat:=by omega
   by_cases hi:i<v0.length
   ·rw[drop_at hi,bU]at h3;rw[dT (show(i:Int)<(v0.length:Int) by omega),cond_true];cases hc:(v0.getD i 0==47)with
    | false =>
     have e2:((((v0.getD i 0).toNat:Nat):Int)!=47)=true:=by rw[bne_iff_ne];intro e;have:v0.getD i 0=47:=UInt8.toNat_inj.1 (by show(v0.getD i 0).toNat=47;omega);rw[this]at hc;cases hc
     rw[hc,cond_false,ajx,<- azc h1 hi]at h3;rw[e2,cond_true];exact⟨⟨trivial,f,i+1,rfl,rfl,.inl ⟨by omega,by omega,h3⟩⟩,hM⟩
    | true =>
     have e2:((((v0.getD i 0).toNat:Nat):Int)!=47)=false:=by rw[show v0.getD i 0=47 by simpa using hc];rfl
     rw[hc,cond_true,aeJ _ (oH 47 _),agI,al6]at h3;rw[e2,cond_false];cases hw:jS (cut v0 (f:Int) (i:Int))with
     | true=>rw[hw]at h3;exact h3
     | false =>
      rw[hw,ajH]at h3;rw[cond_false];refine⟨⟨trivial,i+1,i+1,rfl,rfl,.inl ⟨abn _,by omega,?_⟩⟩,hM⟩;have hz:cut v0 ((i+1:Nat):Int) ((i+1:Nat):Int)=[]:=by unfold cut;rw[Nat.sub_self];rfl
      rw[hz,Q7 (oH 47 _)];exact h3
   ·rw[aa9 (by omega)]at h3;have h3:(!(jS (cut v0 (f:Int) (i:Int)++[])||false))=qG v0:=h3;rw[aeb,Bool.or_false]at h3;rw[dF (show ¬ (i:Int)<(v0.length:Int) by omega),cond_false];cases hw:jS (cut v0 (f:Int) (i:Int))with
    | true=>rw[hw]at h3;exact h3
    | false =>rw[hw]at h3;rw[cond_false];exact⟨⟨trivial,i+1,i+1,rfl,rfl,.inr ⟨by omega,h3.symm⟩⟩,hM⟩
  ·rw[dF (show ¬ ((v0.length+1:Nat):Int)<=(v0.length:Int) by omega),cond_false];exact h3.symm
theorem Ic(m:fO)(hs:m.source.length<=1000000)(ht:m.target.length<=1000000):iq m=some (sI m):=by
 refine dL rfl ?_;simp only[aN,bB,uU,ajG m.target ht,abh m.source hs,aH];have hh:((m.source.length:Int)==0)=(m.source==[]):=by
  cases m.source with
  | nil=>rfl
  | cons c t=>grind
 rw[hh,<- Bd];unfold sI;cases qG m.target with
 | false=>rfl
 | true =>
  simp only[adr,cond_false,cond_true];cases hc:(bif m.source==[]then true else rU Bj yx m.source)with
  | true=>rfl
  | false =>
   have h0:m.source≠[]:=by intro e;rw[e]at hc;cases hc
   have hl:decide ((0:Int)<(m.source.length:Int))=true:=dT (by have:=List.length_pos_iff.2 h0;omega);rw[hl];rfl
theorem aqh(m:fO)(hs:m.source.length<=1000000)(ht:m.target.length<=1000000):Ed m=some (oz m):=by
 refine dL rfl ?_;simp only[aN,bB,wF,Ic m hs ht,aH];have hh:decide ((0:Int)<(m.source.length:Int)) = !(m.source==[]):=by
  cases m.source with
  | nil=>rfl
  | cons c t=>grind
 rw[hh,dT (show m.source.length+([58]:aqO).length<=aA by rw[ms,aa8];omega),dT (show(m.source++([58]:aqO)).length+m.target.length<=aA by rw[ms,List.length_append,aa8];omega),dT (show((m.source++([58]:aqO))++m.target).length+([58,114,111]:aqO).length<=aA by rw[ms,List.length_append,List.length_append,aa8];show _+3<=_;omega),dT (show m.target.length+([58,114,111]:aqO).length<=aA by rw[ms];show _+3<=_;omega)];unfold oz Ll;simp only[av];grind
theorem avO{a b:aqO}(ha:(58:UInt8)∉a)(hb:(58:UInt8)∉b):bU 58 (a++58::b)=[a,b]:=by rw[GD 58 _ ha,yV 58 hb]
def mkA(t:aqO)(at_ c:Int):Prop:=c=(t.count 58:Int)/\(t.count 58=0->at_ = -1)/\(t.count 58=1->∃a b,t=a++58::b/\(58:UInt8)∉a/\(58:UInt8)∉b/\at_=(a.length:Int))
theorem avP{t:aqO}{at_ c:Int}(h:mkA t at_ c)(x:UInt8):(x≠58->mkA (t++[x]) at_ c)/\(x=58->mkA (t++[x]) (t.length:Int) (c+1)):=by
 obtain⟨h1,h2,h3⟩:=h;constructor
 ·intro hx;have hc:(t++[x]).count 58=t.count 58:=by rw[List.count_append];simp[hx]
  refine⟨by rw[hc];exact h1,by rw[hc];exact h2,fun h=>?_⟩;grind
 ·rintro rfl;have hc:(t++[58]).count 58=t.count 58+1:=by rw[List.count_append];simp
  refine⟨by rw[hc];omega,fun h=>by omega,fun h=>⟨t,[],rfl,?_,by simp,rfl⟩⟩;exact List.count_eq_zero.1 (by omega)
theorem alM(s t:aqO)(ro:Bool)(_:s.length<=1000000)(hR:IY (bU 58 t) ro=U6 s)(ht:t.length<=1000000)(v1 v2 v3:Int)(i:Nat)(h3:v3=(i:Int))(hi:i<=t.length)(hA:mkA (t.take i) v1 v2)(I:uV->Prop)(hI:∀(a c:Int) (j:Nat),j<=t.length->i<j->mkA (t.take j) a c->I (.h0 t a c (j:Int) ⟨[],[],false⟩ ⟨[],[],ro⟩)):(lH (.h0 t v1 v2 v3 ⟨[],[],false⟩ ⟨[],[],ro⟩)).run Prop (fun r'=>r'=U6 s) I False:=by
 subst h3;simp only[aN,bB,lH];have hcl:(t.take i).count 58<=(t.take i).length:=List.count_le_length;rw[ad6]at hcl;by_cases hlt:i<t.length
 ·have e1:ak ((i:Int)+1)=((i+1:Nat):Int):=by rw[aV (by omega) (by omega)];omega
  have e2:ak (v2+1)=v2+1:=by have:=hA.1;exact cZ (by omega)
  have hg:t.getD i 0=t[i]:=by rw[List.getD,aaz hlt];rfl
  obtain⟨m1,m2⟩:=avP hA (t.getD i 0);have htk:t.take (i+1)=t.take i++[t.getD i 0]:=by rw[aht hlt,hg]
  have hlen:((t.take i).length:Int)=(i:Int):=by rw[ad6];omega
  rw[dT (show(i:Int)<(t.length:Int) by omega),cond_true,wS];refine⟨by omega,by omega,?_⟩;rw[aaE,e1,e2];by_cases hx:t.getD i 0=58
  ·have hb:((((t.getD i 0).toNat:Nat):Int)==58)=true:=by rw[hx];rfl
   grind
  ·have hb:((((t.getD i 0).toNat:Nat):Int)==58)=false:=eT fun e=>hx (UInt8.toNat_inj.1 (by show(t.getD i 0).toNat=58;omega))
   rw[hb,cond_false];exact hI _ _ (i+1) (by omega) (by omega) (by rw[htk];exact m1 hx)
 ·rw[aej (by omega)]at hA hcl;obtain⟨h1,h2,h3⟩:=hA;rw[dF (show ¬ (i:Int)<(t.length:Int) by omega),cond_false];have hlen:=Y9 58 t;by_cases hc0:t.count 58=0
  ·have e:=h2 hc0;have hno:(58:UInt8)∉t:=List.count_eq_zero.1 hc0;rw[yV 58 hno]at hR;have hR:u7 ⟨[],t,ro⟩=U6 s:=hR;have e3:cut t (ak (-1+1)) (t.length:Int)=t:=yT t 0;have k3:bN t (ak (-1+1)) (t.length:Int)=true:=GA (aaG _);rw[h1,hc0,e];simp only[show decide ((1:Int)<((0:Nat):Int))=false from rfl,show(((-1:Int))==0)=false from rfl,show(((0:Nat):Int)==1)=false from rfl,cond_false,e3,k3,av,Ic ⟨[],t,ro⟩ (aaG _) ht,aH];rw[<- hR];unfold u7;cases sI ⟨[],t,ro⟩<;>rfl
  ·by_cases hc1:t.count 58=1
   ·obtain⟨a,b,rfl,ha,hb,e⟩:=h3 hc1;rw[avO ha hb]at hR;have hR:(bif a==[]then(mz,3)else u7 ⟨a,b,ro⟩)=U6 s:=hR;rw[h1,hc1,e];have hl:(a++58::b).length=a.length+1+b.length:=by rw[List.length_append,List.length_cons];omega
    have e4:ak ((a.length:Int)+1)=((a.length+1:Nat):Int):=by rw[aV (by omega) (by omega)];omega
    have e5:cut (a++58::b) 0 (a.length:Int)=a:=by rw[Eo];simp
    have e6:cut (a++58::b) ((a.length+1:Nat):Int) ((a++58::b).length:Int)=b:=by rw[yT];simp
    have k5:bN (a++58::b) 0 (a.length:Int)=true:=Gz (by omega);have k6:bN (a++58::b) ((a.length+1:Nat):Int) ((a++58::b).length:Int)=true:=GA (by omega);have ha0:((a.length:Int)==0)=(a==[]):=by
     cases a with
     | nil=>rfl
     | cons c t=>rw[eT (by simp only[List.length_cons];omega)];rfl
    simp only[show decide ((1:Int)<((1:Nat):Int))=false from rfl,show(((1:Nat):Int)==1)=true from rfl,cond_false,cond_true,e4,e5,e6,k5,k6,av,ha0,Ic ⟨a,b,ro⟩ (by show a.length<=_;omega) (by show b.length<=_;omega),aH];rw[<- hR];cases a==[]with
    | true=>rfl
    | false =>rw[cond_false,cond_false];unfold u7;cases sI ⟨a,b,ro⟩<;>rfl
   ·rw[avN (by omega)]at hR;rw[h1,dT (show(1:Int)<((t.count 58:Nat):Int) by omega),cond_true,cond_true];exact hR
theorem alN(s:aqO)(hs:s.length<=1000000):Cv s=some (nH s):=by
 rw[<- as6];refine jo rfl (fun | .e y=>y=s | .h0 v0 v1 v2 v3 v4 v5=>∃(i:Nat) (ro:Bool),v3=(i:Int)/\i<=v0.length/\v0.length<=1000000/\mkA (v0.take i) v1 v2/\v4=⟨[],[],false⟩/\v5=⟨[],[],ro⟩/\IY (bU 58 v0) ro=U6 s) (fun | .e _=>10000000000 | .h0 v0 _ _ v3 _ _=>((v0.length:Int)-v3).toNat) rfl (by show 10000000000<_;omega) ?_;have mk0:∀t:aqO,mkA (t.take 0) (-1) 0:=fun t=>⟨rfl,fun _=>rfl,fun h=>by cases h⟩
 rintro(y | ⟨v0,v1,v2,v3,v4,v5⟩) hs'
 ·have hs':y=s:=hs';subst hs';simp only[aN,bB,lH];by_cases hl:(3:Int)<=(y.length:Int)
  ·have e3:ak ((y.length:Int)-3)=((y.length-3:Nat):Int):=by rw[aV (by omega) (by omega)];omega
   have e1:ak ((y.length:Int)-1)=((y.length-1:Nat):Int):=by rw[aV (by omega) (by omega)];omega
   have hsf:(bif decide ((3:Int)<=(y.length:Int))then(bif y.drop (y.length-3)==roE then true else y.drop (y.length-3)==rwE)else false)=R6 y:=rfl;rw[dT hl]at hsf ⊢;rw[cond_true]at hsf;rw[e3,e1,yT,Eo,Gz (by omega),dT (show(0:Int)<=((y.length-3:Nat):Int) by omega),dT (show((y.length-3:Nat):Int)<=(y.length:Int) by omega),dT (amd (y.length:Int))];simp only[adM,ad5,av,cond_true];rw[show([58,114,111]:aqO)=roE from rfl,show([58,114,119]:aqO)=rwE from rfl,hsf];cases hsM:R6 y with
   | true =>
    rw[cond_true,wS];refine⟨by omega,by omega,?_⟩;rw[aaE];refine⟨⟨0,_,rfl,aaG _,by rw[ad6];omega,mk0 _,trivial,rfl,?_⟩,?_⟩
    ·unfold U6;rw[hsM];rfl
    grind
   | false =>
    rw[cond_false];refine⟨⟨0,false,rfl,aaG _,hs,mk0 _,trivial,rfl,?_⟩,?_⟩
    ·unfold U6;rw[hsM];rfl
    grind
  ·have hsM:R6 y=false:=by unfold R6;rw[dF hl];rfl
   rw[dF hl];simp only[aec,ajZ,ai5,av,cond_false];refine⟨⟨0,false,rfl,aaG _,hs,mk0 _,trivial,rfl,?_⟩,?_⟩
   ·unfold U6;rw[hsM];rfl
   grind
 ·obtain⟨i,ro,h3,hi,hl,hA,rfl,rfl,hR⟩:=hs';refine alM s v0 ro hs hR hl v1 v2 v3 i h3 hi hA _ fun a c j h1 h2 h4=>⟨⟨j,ro,rfl,h1,hl,h4,rfl,rfl,hR⟩,?_⟩
  grind
end
section
def iG(x:Node):Node:=⟨3,x.text,x.keys,x.kids⟩
def eO(x:Node)(b:Bool):Bool:=!(bif !b then true else decide ((32:Int)<(x.keys.length:Int)))
def eP(x:Node)(b:Bool):Node:=bif eO x b then aQ 12 (iG x)else⟨0,[],[],[]⟩
theorem oI(s:aqO)(d:Nat):wg 10000 (d+1) (bI s)=true:=by simp[bI,wg]
theorem agp(d:Nat):wg 10000 (d+1) (⟨0,[],[],[]⟩:Node)=true:=by simp[wg]
def nI(s:aqO)(b:Bool):Bool:=bif b then cO K4 s else cO gJ s
def Ls:List Node->List (aqO)
 | []=>[]
 | x::t=>bif x.kind != 1 then[]else x.text::Ls t
def GH(n:Node):Bool:=bif n.kind != 2 then true else decide ((32:Int)<(n.kids.length:Int))
def gD(n:Node):List (aqO):=bif GH n then[]else Ls n.kids
def DK(n:Node):Bool:=bif GH n then false else(lq n.kids).isSome
def fi:aqO->Nat
 | []=>0
 | c::t=>bif((c.toNat:Int)!=61)then fi t+1 else 0
def U7(f:aqO->Bool):List (aqO)->Node->Option Node
 | [],o=>some o
 | s::t,o=>bif(bif !(f (s.take (fi s)))then true else eF o.keys (s.take (fi s)))then none else U7 f t (aY o (s.take (fi s)) (bI (s.drop (fi s+1))))
def FP(f:aqO->Bool):List (aqO)->List Node->Node->Option Node
 | s::t,y::r,o=>bif(bif !(f s)then true else decide ((1:Int)<y.kind))then none else FP f t r (aY o s (bI y.text))
 | _,_,o=>some o
def rpP(n:Node)(vars:Bool):Option Node:=bif DK n then U7 (fun s=>nI s vars) (gD n) zn else bif n.kind != 3 then none else FP (fun s=>nI s vars) n.keys n.kids zn
def oV(q:Option Node):Node:=q.elim zn fun o=>eP o true
def oB(q:Option Node):Bool:=q.elim false fun o=>eO o true
def qI(n:Node)(vars:Bool):Node:=oV (rpP n vars)
def zf(n:Node)(vars:Bool):Bool:=oB (rpP n vars)
theorem ajI:∀l:List Node,(Ls l).length<=l.length
 | []=>abn _
 | x::t=>by
  unfold Ls;cases x.kind != 1 with
  | true=>exact aaG _
  | false=>have:=ajI t;simp only[cond_false,List.length_cons];omega
theorem DL(n:Node):(gD n).length<=n.kids.length:=by
 unfold gD;cases GH n with
 | true=>exact aaG _
 | false=>exact ajI _
theorem ajJ{B:Nat}:∀l:List Node,(∀y∈l,y.text.length<=B)->∀x∈Ls l,x.length<=B
 | [],_,x,hx=>by cases hx
 | y::t,h,x,hx=>by
  unfold Ls at hx;cases hb:y.kind != 1 with
  | true=>rw[hb]at hx;cases hx
  | false =>
   rw[hb,cond_false]at hx;rcases List.mem_cons.1 hx with rfl | hx
   ·exact h y abd
   ·exact ajJ t (fun z hz=>h z (abb _ hz)) x hx
theorem avQ{B:Nat}{n:Node}(h:∀y∈n.kids,y.text.length<=B):∀x∈gD n,x.length<=B:=by
 unfold gD;cases GH n with
 | true=>intro x hx;cases hx
 | false=>exact ajJ _ h
def Lu(f:aqO->Bool):List (aqO)->Bool->Node->Node×Bool
 | [],b,o=>(o,b)
 | s::t,b,o=>bif b then Lu f t (f s) (aY o s zn)else(o,false)
def BA(n:Node):Bool:=bif n.kind==3 then decide ((n.keys.length:Int)<=32)else false
def XJ(n:Node):Node×Bool:=bif BA n then Lu (cO gJ) n.keys (!(n.kids.any zY)) zn else Lu (cO gJ) (gD n) (DK n) zn
def qz(n:Node):Node:=eP (XJ n).1 (XJ n).2
def Bf(n:Node):Bool:=eO (XJ n).1 (XJ n).2
theorem Kh(n:Node):DK n=pY n:=by
 unfold DK pY GH;cases hk:n.kind==2 with
 | false=>rw[show(n.kind != 2)=true from by rw[bne,hk];rfl];simp
 | true =>
  rw[show(n.kind != 2)=false from by rw[bne,hk];rfl];simp only[cond_false,cond_true];by_cases h:(32:Int)<(n.kids.length:Int)
  ·rw[dT h,dF (by omega)];simp
  ·rw[dF h,dT (by omega)];simp
theorem anr:∀(l:List Node) (t:List (aqO)),lq l=some t->Ls l=t
 | [],t,h=>by cases h;rfl
 | x::r,t,h=>by
  unfold lq at h;unfold Ls;cases hb:x.kind != 1 with
  | true=>rw[hb]at h;cases h
  | false =>
   rw[hb,cond_false]at h;cases hr:lq r with
   | none=>rw[hr]at h;cases h
   | some q=>rw[hr]at h;cases h;rw[anr r q hr];rfl
theorem Bg{n:Node}(h:pY n=true):gD n=bH n:=by
 have h':=Kh n▸h;unfold DK at h';unfold gD bH;cases h0:GH n with
 | true=>rw[h0]at h';cases h'
 | false =>
  rw[h0,cond_false]at h';cases ht:lq n.kids with
  | none=>rw[ht]at h';cases h'
  | some t=>rw[cond_false,anr _ _ ht];rfl
def FQ(n:Node)(k:Int):Bool:=!(bif k==0 then JD vE n else bif k==1 then JD Ba n else bif k==2 then JE n else bif k==3 then JD A9 n else JD su n)
def DN(n:Node)(k:Int):Node:=bif FQ n k then(bif k==2 then bI (Ai (kD n.text))else n)else zn
theorem axb(s:aqO):0<=kD s:=by
 unfold kD IW;cases FI (s.drop (jV s))with
 | false=>exact amd _
 | true =>
  obtain⟨u0,u3⟩:=af5 (s.drop (jV s));have hb:∀P:Int,1<=P->0<=(fH (s.take (jV s)) (1125899906842624 / P)).1*P:=fun P h=>Int.mul_nonneg (IK _ _ (Int.ediv_nonneg (by decide) (by omega))).1 (by omega)
  exact hb _ (by rcases MI u0 u3 with⟨_,h⟩ | ⟨_,h⟩ | ⟨_,h⟩ | ⟨_,h⟩<;>rw[h]<;>decide)
structure Bo (d L:Nat) (o:Node):Prop where
 kind:o.kind=0\/o.kind=3
 len:o.keys.length=o.kids.length
 le:o.keys.length<=L
 kids:∀y∈o.kids,wg 10000 d y=true
theorem Bo.nil{d L:Nat}{k:Int}(hk:k=0\/k=3):Bo d L ⟨k,[],[],[]⟩:=⟨hk,rfl,aaG _,fun y h=>by cases h⟩
theorem Bo.put{d L:Nat}{o:Node}(h:Bo d L o){k:aqO}{v:Node}(hv:wg 10000 d v=true):Bo d (L+1) (aY o k v):=by obtain⟨h1,h2,h3,h4⟩:=MG (k:=k) (v:=v) h.kind h.len;exact⟨.inr h1,h2,by have:=h.le;omega,fun y hy=>(h4 y hy).elim (fun e=>by rw[e];exact hv) (h.kids y)⟩
theorem Bo.ok{d L:Nat}{o:Node}(h:Bo d L o)(hL:L<=100000)(k:aqO)(v:Node):gY o k v=true:=aiQ.2 ⟨by have:=h.le;omega,h.len⟩
theorem Bo.wg_{d L:Nat}{o:Node}(h:Bo d L o)(hL:o.keys.length<=10000)(k:Int)(t:aqO):wg 10000 (d+1) ⟨k,t,o.keys,o.kids⟩=true :=
 fE.2 ⟨hL,by show o.kids.length<=10000;rw[<- h.len];exact hL,fun _=>h.len,h.kids⟩
theorem Bo.up{d L:Nat}{o:Node}(e:Nat)(h:Bo d L o):Bo (d+e) L o:=⟨h.kind,h.len,h.le,fun y hy=>vK e (h.kids y hy)⟩
theorem lM(s:aqO):ay s=some (bI s):=dL rfl rfl
theorem aeL(s:aqO)(b:Bool):xO s b=some (nI s b):=dL rfl (by cases b<;>rfl)
theorem abk(o:Node)(b:Bool)(h:o.keys.length<=32->wg 10000 12 (iG o)=true):aG o b=some (eP o b,eO o b):=by
 refine dL rfl ?_;simp only[aN,bB,wu,bf];have hd:eO o b = !(bif !b then true else decide ((32:Int)<(o.keys.length:Int))):=rfl;unfold eP;cases hc:(bif !b then true else decide ((32:Int)<(o.keys.length:Int)))with
 | true=>rw[hc]at hd;rw[hd];rfl
 | false =>
  rw[hc]at hd;have hl:o.keys.length<=32:=by
   cases b with
   | false=>cases hc
   | true=>have:=of_decide_eq_false hc;omega
  have hw:=h hl;unfold iG at hw;rw[hd,cond_false,hw,av];rfl
theorem Bo.done{d L:Nat}{o:Node}(h:Bo d L o)(hd:d<=11)(b:Bool):aG o b=some (eP o b,eO o b):=abk o b fun hl=>by have:=(h.up (11-d)).wg_ (by omega) 3 o.text;rwa[show d+(11-d)+1=12 by omega]at this
theorem CP(n:Node):jK n=some (gD n,DK n):=by
 refine jo rfl (fun | .e y=>y=n | .h0 v0 v1 v2 v3=>v0=v3.length/\v2=n/\GH n=false/\n.kids.length<=32/\∃i:Nat,v1=(i:Int)/\i<=n.kids.length/\v3.length=i/\v3++Ls (n.kids.drop i)=gD n/\(lq (n.kids.drop i)).isSome=DK n) (fun | .e _=>10000000000 | .h0 _ v1 _ _=>((n.kids.length:Int)-v1).toNat) rfl (by show 10000000000<_;omega) ?_;rintro(y | ⟨v0,v1,v2,v3⟩) hs
 ·have hs:y=n:=hs;subst hs;have e1:gD y=bif GH y then[]else Ls y.kids:=rfl
  have e2:DK y=bif GH y then false else(lq y.kids).isSome:=rfl
  simp only[aN,bB,oU];change (bif GH y then _ else _);cases h0:GH y with
  | true=>rw[h0]at e1 e2;rw[e1,e2];rfl
  | false =>
   rw[h0]at e1 e2;have h32:y.kids.length<=32:=by
    unfold GH at h0;cases hk:y.kind != 2 with
    | true=>rw[hk]at h0;cases h0
    | false=>rw[hk,cond_false,decide_eq_false_iff_not]at h0;omega
   rw[cond_false];refine⟨⟨rfl,trivial,rfl,h32,0,rfl,aaG _,rfl,e1.symm,e2.symm⟩,?_⟩;show((y.kids.length:Int)-0).toNat<10000000000;omega
 ·obtain⟨rfl,rfl,h0,h32,i,rfl,h1,h2,h3,h4⟩:=hs;simp only[aN,bB,oU];by_cases hi:i<v2.kids.length
  ·have e1:ak ((i:Int)+1)=((i+1:Nat):Int):=by rw[aV (by omega) (by omega)];omega
   have hg:v2.kids.getD i (Df.d:Node)=v2.kids[i]:=by rw[List.getD,aaz hi];rfl
   have hdr:v2.kids.drop i=v2.kids[i]::v2.kids.drop (i+1):=(abl hi).symm;have kb:fZ v2.kids (i:Int)=true:=by simp[fZ];omega
   rw[hdr,Ls]at h3;rw[hdr,lq]at h4;rw[dT (show(i:Int)<(v2.kids.length:Int) by omega),cond_true,wI];refine⟨by omega,by omega,?_⟩;rw[aaE,hg,e1,kb,av];generalize v2.kids[i]=x at h3 h4 ⊢;cases hk:x.kind != 1 with
   | true =>rw[hk,cond_true,aeb]at h3;rw[hk]at h4;rw[cond_true,h3,<- h4];rfl
   | false =>
    rw[hk,cond_false]at h3 h4;rw[cond_false,dT (show(v3.length+([x.text]:List (aqO)).length)*16<=aB by rw[mb,aa8];omega),av];refine⟨⟨by rw[List.length_append],trivial,h0,h32,i+1,rfl,by omega,by rw[List.length_append,aa8];omega,by rw[abt];exact h3,?_⟩,?_⟩
    ·rw[<- h4];cases lq (v2.kids.drop (i+1))<;>rfl
    ·show((v2.kids.length:Int)-((i+1:Nat):Int)).toNat<((v2.kids.length:Int)-(i:Int)).toNat;omega
  ·rw[aa9 (by omega)]at h3 h4;have h3:v3++[]=gD v2:=h3;rw[aeb]at h3;rw[dF (show ¬ (i:Int)<(v2.kids.length:Int) by omega),cond_false,h3,<- h4];rfl
theorem alO(n:Node)(hs:n.text.length<=1000000)(hk:n.kids.length<=1000000):Cq n=some (CK n,F4 n):=by
 refine jo rfl (fun | .e y=>y=n | .h0 v0 v1 v2 v3 v4 v5 v6=>F4 n=true/\v0=jP n/\v4=2/\v5=[]/\(jP n).length<=1000000/\∃i:Nat,v1=(i:Int)/\i<=(jP n).length/\v6.length=i/\v6++((jP n).drop i).map bI=(jP n).map bI) (fun | .e _=>10000000000 | .h0 _ v1 _ _ _ _ _=>(((jP n).length:Int)-v1).toNat) rfl (by show 10000000000<_;omega) ?_;rintro(y | ⟨v0,v1,v2,v3,v4,v5,v6⟩) hs'
 ·have hs':y=n:=hs';subst hs';have e1:CK y=bif F4 y then sS (jP y)else zn:=rfl
  have e2:F4 y=bif y.kind==1 then ajf y.text==0 else pY y:=rfl
  have e3:jP y=bif y.kind==1 then QZ y.text else bH y:=rfl
  have hsp:uP y.text=some (QZ y.text,ajf y.text):=alK y.text hs;simp only[aN,o8,bf,CP,hsp,aH];have start:∀l,l=jP y->F4 y=true->(jP y).length<=1000000->(((F4 y=true/\l=jP y/\True/\True/\(jP y).length<=1000000/\∃i:Nat,(0:Int)=(i:Int)/\i<=(jP y).length/\([]:List Node).length=i/\[]++((jP y).drop i).map bI=(jP y).map bI))/\(((jP y).length:Int)-0).toNat<10000000000):=fun l h1 h2 h3=>⟨⟨h2,h1,trivial,trivial,h3,0,rfl,aaG _,rfl,rfl⟩,by omega⟩
  cases h1:y.kind==1 with
  | true =>
   rw[h1,cond_true]at e2 e3;rw[cond_true];cases h0:ajf y.text==0 with
   | false=>rw[h0]at e2;rw[e2]at e1;rw[e1,e2];rfl
   | true =>rw[h0]at e2;have:=start (QZ y.text) e3.symm e2 (by rw[e3];exact Nat.le_trans (Q5 _) (by decide));rw[adr,cond_false];exact this
  | false =>
   rw[h1,cond_false]at e2 e3;rw[cond_false,Kh];cases h0:pY y with
   | false=>rw[h0]at e2;rw[e2]at e1;rw[e1,e2];rfl
   | true =>rw[h0]at e2;rw[adr,cond_false,Bg h0];exact start (bH y) e3.symm e2 (by rw[e3,<- Bg h0];exact Nat.le_trans (DL y) hk)
 ·obtain⟨h0,rfl,rfl,rfl,hl,i,rfl,h1,h2,h3⟩:=hs';have e1:CK n=sS (jP n):=by unfold CK;rw[h0];rfl
  simp only[aN,bB,o8];by_cases hi:i<(jP n).length
  ·have e2:ak ((i:Int)+1)=((i+1:Nat):Int):=by rw[aV (by omega) (by omega)];omega
   have hg:(jP n).getD i (Df.d:aqO)=(jP n)[i]:=by rw[List.getD,aaz hi];rfl
   have hdr:(jP n).drop i=(jP n)[i]::(jP n).drop (i+1):=(abl hi).symm;rw[hdr,aeH]at h3;rw[dT (show(i:Int)<((jP n).length:Int) by omega),cond_true,wI];refine⟨by omega,by omega,?_⟩;rw[aaE,hg,e2,lM];simp only[aH];rw[dT (show(v6.length+([bI (jP n)[i]]:List Node).length)*72<=aB by rw[mb,aa8];omega),av];refine⟨⟨h0,trivial,trivial,trivial,hl,i+1,rfl,by omega,by rw[List.length_append,aa8];omega,by rw[abt];exact h3⟩,?_⟩;show(((jP n).length:Int)-((i+1:Nat):Int)).toNat<(((jP n).length:Int)-(i:Int)).toNat;omega
  ·rw[aa9 (by omega),aib,aeb]at h3;rw[dF (show ¬ (i:Int)<((jP n).length:Int) by omega),cond_false,h3,e1,h0];rfl
def prI(n:Node)(vars:Bool):o9->Prop
 | .e y0 y1=>y0=n/\y1=vars
 | .h0 v0 v1 v2 _ _ v5=>v0=vars/\v1=gD n/\∃i:Nat,v2=(i:Int)/\i<=(gD n).length/\Bo 1 i v5/\(oV (U7 (fun s=>nI s vars) ((gD n).drop i) v5),oB (U7 (fun s=>nI s vars) ((gD n).drop i) v5))=(qI n vars,zf n vars)
 | .h1 v0 v1 v2 v3 _ _ v6=>v0=vars/\v1=gD n/\∃i a:Nat,v2=(i:Int)/\i<(gD n).length/\v3=(a:Int)/\a<=((gD n).getD i []).length/\a+fi (((gD n).getD i []).drop a)=fi ((gD n).getD i [])/\Bo 1 i v6/\(oV (U7 (fun s=>nI s vars) ((gD n).drop i) v6),oB (U7 (fun s=>nI s vars) ((gD n).drop i) v6))=(qI n vars,zf n vars)
 | .h2 v0 v1 v2 _ _ v5=>v0=vars/\v2=n/\n.keys.length=n.kids.length/\∃i:Nat,v1=(i:Int)/\i<=n.keys.length/\Bo 1 i v5/\(oV (FP (fun s=>nI s vars) (n.keys.drop i) (n.kids.drop i) v5),oB (FP (fun s=>nI s vars) (n.keys.drop i) (n.kids.drop i) v5))=(qI n vars,zf n vars)
def prM(n:Node):o9->Nat
 | .e _ _=>10000000000000
 | .h0 _ _ v2 _ _ _=>10000*(((gD n).length:Int)-v2).toNat+9000
 | .h1 _ _ v2 v3 _ _ _=>10000*(((gD n).length:Int)-v2).toNat+(((gD n).getD v2.toNat []).length-v3.toNat)
 | .h2 _ v1 _ _ _ _=>((n.keys.length:Int)-v1).toNat
set_option maxHeartbeats 1000000 in
theorem alP(n:Node)(vars:Bool)(h3:n.kind=3->n.keys.length=n.kids.length)(hk:n.keys.length<=1000)(hl:n.kids.length<=1000)(hy:∀y∈n.kids,y.text.length<=1000):Cr n vars=some (qI n vars,zf n vars):=by
 have hll:=DL n;have hx:=avQ hy;refine jo rfl (prI n vars) (prM n) ⟨rfl,rfl⟩ (by show 10000000000000<_;omega) ?_;rintro(⟨y0,y1⟩ | ⟨v0,v1,v2,v3,v4,o⟩ | ⟨v0,v1,v2,v3,v4,v5,o⟩ | ⟨v0,v1,v2,v3,v4,o⟩) hs'
 ·obtain⟨rfl,rfl⟩:=hs';simp only[aN,jL,bf,CP,aH];have e:rpP y0 y1=bif DK y0 then U7 (fun s=>nI s y1) (gD y0) zn else bif y0.kind != 3 then none else FP (fun s=>nI s y1) y0.keys y0.kids zn:=rfl
  cases hb:DK y0 with
  | true =>
   rw[hb,cond_true]at e;rw[cond_true];refine⟨⟨rfl,rfl,0,rfl,aaG _,Bo.nil (.inl rfl),?_⟩,?_⟩
   ·unfold qI zf;rw[e];rfl
   ·show 10000*(((gD y0).length:Int)-0).toNat+9000<10000000000000;omega
  | false =>
   rw[hb,cond_false]at e;rw[cond_false];by_cases h:y0.kind=3
   ·rw[nK h,cond_false]at e;rw[nK h,cond_false];refine⟨⟨rfl,rfl,h3 h,0,rfl,aaG _,Bo.nil (.inl rfl),?_⟩,?_⟩
    ·unfold qI zf;rw[e];rfl
    ·show((y0.keys.length:Int)-0).toNat<10000000000000;omega
   ·rw[kr h,cond_true]at e;rw[kr h,cond_true];unfold qI zf;rw[e];rfl
 ·obtain⟨rfl,rfl,i,rfl,h1,hB,hR⟩:=hs';simp only[aN,bB,jL,bf];by_cases hi:i<(gD n).length
  ·rw[dT (show(i:Int)<((gD n).length:Int) by omega),cond_true];refine⟨⟨rfl,rfl,i,0,rfl,hi,rfl,aaG _,by rw[aed,aeC],hB,hR⟩,?_⟩;have:=rV hx i;have hg:((gD n).getD i (Df.d:aqO))=(gD n).getD i []:=rfl;rw[hg]at this;simp only[prM,aaE,Int.toNat_zero];omega
  ·rw[aa9 (by omega)]at hR;rw[dF (show ¬ (i:Int)<((gD n).length:Int) by omega),cond_false,hB.done (by decide)];exact hR
 ·obtain⟨rfl,rfl,i,a,rfl,hi,rfl,h1,h2,hB,hR⟩:=hs';simp only[aN,bB,jL,bf];have hg:(gD n).getD i (Df.d:aqO)=(gD n)[i]:=by rw[List.getD,aaz hi];rfl
  have hg2:(gD n).getD i []=(gD n)[i]:=hg;have hxi:=hx _ (aee hi);have hdr:(gD n).drop i=(gD n)[i]::(gD n).drop (i+1):=(abl hi).symm;have kb:fZ (gD n) (i:Int)=true:=by simp[fZ];omega
  rw[wI];refine⟨by omega,by omega,?_⟩;rw[aaE,hg];rw[hg2]at h1 h2;rw[hdr]at hR;have hM:∀a':Nat,((gD n).getD i []).length-a'=((gD n)[i]).length-a':=fun a'=>by rw[hg2]
  generalize (gD n)[i]=s at *;have e1:ak ((i:Int)+1)=((i+1:Nat):Int):=by rw[aV (by omega) (by omega)];omega
  have e2:ak ((a:Int)+1)=((a+1:Nat):Int):=by rw[aV (by omega) (by omega)];omega
  rw[dT (show(0:Int)<=(i:Int) by omega),dT (show(i:Int)<((gD n).length:Int) by omega),e1,e2,kb];simp only[adM,ad5,av,(ckD a s false).2,aaE,aeL,aH,lM];have fin:fi s=a->∀val:aqO,val=s.drop (fi s+1)->ck (nL o.keys || !(!(!(nI (s.take a) v0)))) False (bif(bif !(nI (s.take a) v0)then true else eF o.keys (s.take a))then((⟨(0:Int),[],[],[]⟩:Node),false)=(qI n v0,zf n v0)else ck (gY o (s.take a) (bI val)) False (prI n v0 (.h0 v0 (gD n) ((i+1:Nat):Int) v4 v5 (aY o (s.take a) (bI val)))/\prM n (.h0 v0 (gD n) ((i+1:Nat):Int) v4 v5 (aY o (s.take a) (bI val)))<prM n (.h1 v0 (gD n) (i:Int) (a:Int) v4 v5 o))):=by
   intro hf val hv;subst hv;have oL:nL o.keys=true:=sW.2 (by have:=hB.le;omega);rw[oL,ad5,av,hB.ok (by omega),av];rw[U7,hf]at hR;cases hb:(bif !(nI (s.take a) v0)then true else eF o.keys (s.take a))with
   | true=>rw[hb]at hR;exact hR
   | false =>rw[hb,cond_false]at hR;rw[cond_false,hf];refine⟨⟨rfl,rfl,i+1,rfl,by omega,hB.put (oI _ 0),hR⟩,?_⟩;simp only[prM];omega
  by_cases ha:a<s.length
  ·rw[drop_at ha,fi]at h2;rw[dT (show(a:Int)<(s.length:Int) by omega),cond_true];cases hc:((((s.getD a 0).toNat:Nat):Int)!=61)with
   | true =>rw[hc,cond_true]at h2;rw[cond_true];refine⟨⟨rfl,rfl,i,a+1,rfl,hi,rfl,by rw[hg2];omega,by rw[hg2];omega,hB,by rw[hdr];exact hR⟩,?_⟩;simp only[prM,aaE,hg2];omega
   | false =>rw[hc,cond_false,ai4]at h2;have k1:bN s ((a+1:Nat):Int) (s.length:Int)=true:=GA (by omega);rw[cond_false,cond_true,k1,av,Gz (by omega),av,Eo,yT];exact fin h2.symm (s.drop (a+1)) (by rw[<- h2])
  ·rw[aa9 (by omega)]at h2;have h2:a+0=fi s:=h2;rw[dF (show ¬ (a:Int)<(s.length:Int) by omega),cond_false,cond_false,cond_false,Gz (by omega),av,Eo];exact fin (by omega) [] (by rw[aa9 (by omega)])
 ·obtain⟨rfl,rfl,hkl,i,rfl,h1,hB,hR⟩:=hs';simp only[aN,bB,jL,bf];by_cases hi:i<v2.keys.length
  ·have hj:i<v2.kids.length:=by omega
   have e1:ak ((i:Int)+1)=((i+1:Nat):Int):=by rw[aV (by omega) (by omega)];omega
   have hg:v2.keys.getD i (Df.d:aqO)=v2.keys[i]:=by rw[List.getD,aaz hi];rfl
   have hg2:v2.kids.getD i (Df.d:Node)=v2.kids[i]:=by rw[List.getD,aaz hj];rfl
   have hg3:v2.kids.getD i (dflt Ty.ah:Node)=v2.kids[i]:=hg2;have kb:fZ v2.keys (i:Int)=true:=by simp[fZ];omega
   rw[<- abl hi,<- abl hj,FP]at hR;rw[dT (show(i:Int)<(v2.keys.length:Int) by omega),cond_true,wI];refine⟨by omega,by omega,?_⟩;rw[aaE,hg,hg3,e1,kb,aeL,dT (show(0:Int)<=(i:Int) by omega),dT (show(i:Int)<(v2.kids.length:Int) by omega)];simp only[aH,adM,ad5,av];generalize v2.keys[i]=k at hR ⊢;generalize v2.kids[i]=y at hR hg2 ⊢;cases hb:(bif !(nI k v0)then true else decide ((1:Int)<y.kind))with
   | true=>rw[hb]at hR;exact hR
   | false =>rw[hb,cond_false]at hR;rw[cond_false,wI];refine⟨by omega,by omega,?_⟩;rw[aaE,hg2,lM];simp only[aH];rw[hB.ok (by omega),av];refine⟨⟨rfl,rfl,hkl,i+1,rfl,by omega,hB.put (oI _ 0),hR⟩,?_⟩;simp only[prM];omega
  ·rw[aa9 (show v2.keys.length<=i by omega),FP]at hR
   ·rw[dF (show ¬ (i:Int)<(v2.keys.length:Int) by omega),cond_false,hB.done (by decide)];exact hR
   ·intro _ _ _ _ h;cases h
theorem as8(n:Node)(hk:n.keys.length<=1000)(hl:n.kids.length<=1000):xP n=some (qz n,Bf n):=by
 have hll:=DL n;refine jo rfl (fun | .e y=>y=n | .h0 v0 v1 v2 v3 _ _=>v0=n.keys/\v3=n/\∃i:Nat,v2=(i:Int)/\i<=n.kids.length/\Lu (cO gJ) n.keys (v1 && !((n.kids.drop i).any zY)) zn=XJ n | .h1 v0 v1 v2 _ _ v5=>v0.length<=1000/\∃i:Nat,v2=(i:Int)/\i<=v0.length/\Bo 1 i v5/\Lu (cO gJ) (v0.drop i) v1 v5=XJ n) (fun | .e _=>10000000000 | .h0 _ _ v2 _ _ _=>100000+((n.kids.length:Int)-v2).toNat | .h1 v0 _ v2 _ _ _=>((v0.length:Int)-v2).toNat) rfl (by show 10000000000<_;omega) ?_;rintro(y | ⟨v0,v1,v2,v3,v4,v5⟩ | ⟨v0,v1,v2,v3,v4,o⟩) hs'
 ·have hs':y=n:=hs';subst hs';simp only[aN,bB,nA,bf,CP,aH];have e:XJ y=bif BA y then Lu (cO gJ) y.keys (!(y.kids.any zY)) zn else Lu (cO gJ) (gD y) (DK y) zn:=rfl
  change (bif BA y then _ else _);cases h0:BA y with
  | true =>rw[h0,cond_true]at e;refine⟨⟨trivial,trivial,0,rfl,aaG _,by rw[e,aed,aeu]⟩,?_⟩;show 100000+((y.kids.length:Int)-0).toNat<10000000000;omega
  | false =>rw[h0,cond_false]at e;refine⟨⟨by omega,0,rfl,aaG _,Bo.nil (.inl rfl),e.symm⟩,?_⟩;show(((gD y).length:Int)-0).toNat<10000000000;omega
 ·obtain⟨rfl,rfl,i,rfl,h1,h2⟩:=hs';simp only[aN,bB,nA];by_cases hi:i<v3.kids.length
  ·have e1:ak ((i:Int)+1)=((i+1:Nat):Int):=by rw[aV (by omega) (by omega)];omega
   have hg:v3.kids.getD i (Df.d:Node)=v3.kids[i]:=by rw[List.getD,aaz hi];rfl
   rw[<- abl hi,al6]at h2;rw[dT (show(i:Int)<(v3.kids.length:Int) by omega),cond_true,wI];refine⟨by omega,by omega,?_⟩;rw[aaE,hg,e1,dT (show(0:Int)<=(i:Int) by omega)];simp only[adM,ad5,av];have hM:100000+((v3.kids.length:Int)-((i+1:Nat):Int)).toNat<100000+((v3.kids.length:Int)-(i:Int)).toNat:=by omega
   generalize v3.kids[i]=y at h2 ⊢;change (bif zY y then _ else _);cases hb:zY y with
   | true =>rw[hb,ad5,adr,ajK]at h2;exact⟨⟨trivial,trivial,i+1,rfl,by omega,by rw[ajZ];exact h2⟩,hM⟩
   | false =>rw[hb,ajH]at h2;exact⟨⟨trivial,trivial,i+1,rfl,by omega,h2⟩,hM⟩
  ·rw[aa9 (by omega),List.any_nil,aec,Bool.and_true]at h2;rw[dF (show ¬ (i:Int)<(v3.kids.length:Int) by omega),cond_false];refine⟨⟨hk,0,rfl,aaG _,Bo.nil (.inl rfl),h2⟩,?_⟩;show((v3.keys.length:Int)-0).toNat<100000+_;omega
 ·obtain⟨hv,i,rfl,h1,hB,h2⟩:=hs';simp only[aN,bB,nA,bf];have fin:Lu (cO gJ) (v0.drop i) v1 o=(o,v1)->(eP o v1,eO o v1)=(qz n,Bf n):=fun h=>by
   unfold qz Bf;rw[<- h2,h]
  by_cases hi:i<v0.length
  ·rw[dT (show(i:Int)<(v0.length:Int) by omega),cond_true];cases v1 with
   | false =>rw[cond_false,hB.done (by decide)];exact fin (by rw[<- abl hi];rfl)
   | true =>
    have e1:ak ((i:Int)+1)=((i+1:Nat):Int):=by rw[aV (by omega) (by omega)];omega
    have hg:v0.getD i (Df.d:aqO)=v0[i]:=by rw[List.getD,aaz hi];rfl
    have kb:fZ v0 (i:Int)=true:=by simp[fZ];omega
    rw[<- abl hi,Lu,cond_true]at h2;rw[cond_true,wI];refine⟨by omega,by omega,?_⟩;rw[aaE,hg,kb,av,hB.ok (by omega),av,e1];refine⟨⟨hv,i+1,rfl,by omega,hB.put (agp 0),h2⟩,?_⟩;show((v0.length:Int)-((i+1:Nat):Int)).toNat<((v0.length:Int)-(i:Int)).toNat;omega
  ·rw[dF (show ¬ (i:Int)<(v0.length:Int) by omega),cond_false,cond_false,hB.done (by decide)];exact fin (by rw[aa9 (by omega)];rfl)
theorem alQ(s:aqO)(hs:s.length<=1000000):Ch s=some (vE s):=by
 refine dL rfl ?_;have e11:cut s 0 11=s.take 11:=Eo s 11;have ed:cut s 11 (s.length:Int)=s.drop 11:=yT s 11;simp only[aN,bB,uJ,e11,ed,pF (s.drop 11) 10 (by rw[adH];omega) (by decide),aH];unfold vE;rw[UC _ (by decide),aev _ (by decide)];by_cases h:(11:Int)<(s.length:Int)
 ·have k:bN s 11 (s.length:Int)=true:=GA (s:=s) (i:=11) (by omega);rw[dT h,dT (show(11:Int)<=(s.length:Int) by omega),k];simp only[show decide ((0:Int)<=0)=true from rfl,show decide ((0:Int)<=11)=true from rfl,adM,ad5,av,cond_true];change (bif(s.take 11==Jm)then _ else _);cases s.take 11==Jm<;>rfl
 ·rw[dF h];simp only[aec,ai5,av,cond_false];by_cases h2:(11:Int)<=(s.length:Int)
  ·have hl:s.length=11:=by omega
   rw[dT h2,aa9 (by omega),aej (by omega)];simp only[cond_true];cases hq:s==Jm with
   | false=>rfl
   | true =>
    have:s=Jm:=by simpa using hq
    subst this;rfl
  ·rw[dF h2];rfl
theorem as9(n:Node)(k:Int)(hs:n.text.length<=1000000):Fw n k=some (DN n k,FQ n k):=by
 refine dL rfl ?_;have e2:(bif rzE n.text==0 then decide ((0:Int)<rzV n.text)else false) = !(bif XA n.text != 0 then true else kD n.text==0):=by
  rw[aBi,ajt];have:=axb n.text;rw[ajt]at this;by_cases h:rzE n.text=0
  ·rw[iU h,nK h,cond_true,cond_false];by_cases h2:rzV n.text=0
   ·rw[iU h2,dF (by omega)];rfl
   ·rw[eT h2,dT (by omega)];rfl
  ·rw[eT h,kr h];rfl
 have e4:(bif decide ((1:Int)<=(n.text.length:Int))then decide ((n.text.length:Int)<=64)else false)=su n.text:=by
  unfold su;cases n.text with
  | nil=>rfl
  | cons c t=>rw[dT (by simp only[List.length_cons];omega)];rfl
 have m1:uL n.text=some (avG n.text,avH n.text):=alE n.text hs;have m2:uN n.text=some (rzV n.text,rzE n.text):=alF n.text hs;have m3:dI n.text 8=some (BL n.text 8,Nh n.text 8):=pF n.text 8 hs (by decide);simp only[aN,bB,xM,bf,alQ n.text hs,m1,m2,m3,ap8,lM,aH,e2,e4,<- UC n.text (most:=8) (by decide)];unfold DN FQ JD JE Ba A9;cases n.kind != 1 with
 | true=>cases k==0<;>cases k==1<;>cases k==2<;>cases k==3<;>rfl
 | false =>
  simp only[cond_false];cases h0:k==0 with
  | true =>have h2:(k==2)=false:=eT (by have:=eq_of_beq h0;omega);rw[h2];simp only[cond_true,cond_false,Bool.not_not];cases vE n.text<;>rfl
  | false =>
   cases h1:k==1 with
   | true =>have h2:(k==2)=false:=eT (by have:=eq_of_beq h1;omega);rw[h2];simp only[cond_true,cond_false,Bool.not_not];cases(bif avH n.text==0 then decide ((0:Int)<avG n.text)else false)<;>rfl
   | false =>
    cases k==2 with
    | true =>simp only[cond_true,cond_false,<- ajt];cases(bif XA n.text != 0 then true else kD n.text==0)<;>rfl
    | false =>
     simp only[cond_false,Bool.not_not];cases k==3 with
     | true=>cases VZ n.text 8==0<;>rfl
     | false=>cases su n.text<;>rfl
end
section
def dY(n:Node)(l:List (aqO)):Bool:=bif n.kind != 3 then false else n.keys.all fun k=>eF l k
def Jr(n:Node)(k o:aqO):Bool:=bif bT n k o then(bif aM n k o==[116,114,117,101]then true else aM n k o==[102,97,108,115,101])else false
def Lv(n:Node):Node:=bif dY (em n) [cK,sK,rK]then⟨3,[],[cK,rK,sK],[bI (aM (em n) cK lZ),bI (aM (em n) rK jU),bI (aM (em n) sK ow)]⟩else zn
def Js(n:Node):Bool:=bif dY (em n) [cK,sK,rK]then(bif(bif(bif bT (em n) cK lZ then Jr (em n) sK ow else false)then Jr (em n) rK jU else false)then(bif(bif aM (em n) cK lZ==lZ then true else aM (em n) cK lZ==Uy)then true else aM (em n) cK lZ==Uz)else false)else false
def rd(g:aqO->Bool):List (aqO)->List Node->Bool->Node->Node×Bool
 | s::t,y::r,b,o=>bif b then rd g t r (bif Js y then g s else false) (aY o s (Lv y))else(o,false)
 | _,_,b,o=>(o,b)
def uD(n:Node):List (aqO):=bif BA n then n.keys else gD n
def rdP(n:Node):Node×Bool:=rd (cO gJ) (uD n) (Bn n (uD n)) (bif BA n then true else DK n) zn
def Lx(n:Node):Node:=eP (rdP n).1 (rdP n).2
def LA(n:Node):Bool:=eO (rdP n).1 (rdP n).2
theorem ant(y:Node):wg 10000 2 (Lv y)=true:=by
 unfold Lv;cases dY (em y) [cK,sK,rK]with
 | false=>rfl
 | true=>simp[wg,bI]
def LB(m:Node):Bool:=bif(bif(bif(bif !(bT m iY [])then true else !(bT m lS xS))then true else !(cO gJ (aM m iY [])))then true else decide (((aM m lS xS).length:Int)<1))then true else decide ((64:Int)<((aM m lS xS).length:Int))
def vg(n:Node):Node:=bif !(dY (iZ n) [iY,lS])then zn else bif LB (iZ n)then zn else eP (iZ n) true
def DR(n:Node):Bool:=bif !(dY (iZ n) [iY,lS])then false else bif LB (iZ n)then false else eO (iZ n) true
def qA(n:Node)(k:aqO)(_:Int):aqO:=bif aD n k then yC (u6 (aJ n k).text)else[]
def LC(n:Node)(k:aqO)(l:Int):Bool:=bif aD n k then(bif(bif(aJ n k).kind==1 then acS (aJ n k).text==0 else false)then decide (l<=u6 (aJ n k).text)else false)else true
def mF(n:Node)(k:aqO):Int:=bif aD n k then BL (aJ n k).text 65536 else 0
def MK(n:Node)(k:aqO):Bool:=bif aD n k then(bif(bif(aJ n k).kind==1 then Nh (aJ n k).text 65536==0 else false)then decide (0<BL (aJ n k).text 65536)else false)else true
def R7:List (aqO):=[bQ,dQ,fu,bS,iO]
def Ra(n:Node):Node:=bif aD n bQ then aY zn bQ (bI (IV (aJ n bQ)))else zn
def vk(n:Node)(k:aqO)(l:Int)(o:Node):Node:=bif !(qA n k l==[])then aY o k (bI (qA n k l))else o
def NT(n o:Node):Node:=bif decide (0<mF n bS)then aY o bS (bI (aZ (mF n bS)))else o
def rO(n:Node):Node:=NT n (vk n fu 0 (vk n dQ 1 (Ra n)))
def GI(n:Node):aqO:=bif aD n bQ then(bif IU (aJ n bQ)==2 then jU else aM n iO ow)else aM n iO ow
def U8(n:Node):Bool:=bif(bif(bif(bif !(Jr n iO ow)then true else !(LC n dQ 1))then true else !(LC n fu 0))then true else !(MK n bS))then true else decide ((10:Int)<mF n bS)
def F6(n:Node):Bool:=bif !(dY n R7)then true else bif(bif aD n bQ then IU (aJ n bQ)==0 else false)then true else U8 n
def Jt:Node:=⟨3,[],[iO],[bI jU]⟩
def Aj(n:Node):Node:=bif F6 n then zn else bif GI n==jU then Jt else eP (rO n) true
def Ak(n:Node):Bool:=bif F6 n then false else bif GI n==jU then true else eO (rO n) true
theorem FR(n:Node)(l:List (aqO))(hk:n.keys.length<=1000000)(hl:nL l=true):fM n l=some (dY n l):=by
 refine jo rfl (fun | .e y0 y1=>y0=n/\y1=l | .h0 v0 v1 v2=>v0=l/\v2=n/\∃i:Nat,v1=(i:Int)/\i<=n.keys.length/\((n.keys.drop i).all fun k=>eF l k)=dY n l) (fun | .e _ _=>10000000000 | .h0 _ v1 _=>((n.keys.length:Int)-v1).toNat) ⟨rfl,rfl⟩ (by show 10000000000<_;omega) ?_;rintro(⟨y0,y1⟩ | ⟨v0,v1,v2⟩) hs
 ·obtain⟨rfl,rfl⟩:=hs;simp only[aN,qj];have e:dY y0 y1=bif y0.kind != 3 then false else y0.keys.all fun k=>eF y1 k:=rfl
  cases h:y0.kind != 3 with
  | true=>rw[h]at e;exact e.symm
  | false =>rw[h]at e;rw[cond_false];refine⟨⟨trivial,trivial,0,rfl,aaG _,e.symm⟩,?_⟩;show((y0.keys.length:Int)-0).toNat<10000000000;omega
 ·obtain⟨rfl,rfl,i,rfl,h1,h2⟩:=hs;simp only[aN,bB,qj];by_cases hi:i<v2.keys.length
  ·have e1:ak ((i:Int)+1)=((i+1:Nat):Int):=by rw[aV (by omega) (by omega)];omega
   have hg:v2.keys.getD i (Df.d:aqO)=v2.keys[i]:=by rw[List.getD,aaz hi];rfl
   rw[<- abl hi,aeB]at h2;rw[dT (show(i:Int)<(v2.keys.length:Int) by omega),cond_true,wI];refine⟨by omega,by omega,?_⟩;rw[aaE,hg,hl,av,e1];cases hb:eF v0 v2.keys[i]with
   | false=>rw[hb]at h2;exact h2
   | true =>rw[hb,aeu]at h2;refine⟨⟨trivial,trivial,i+1,rfl,by omega,h2⟩,?_⟩;show((v2.keys.length:Int)-((i+1:Nat):Int)).toNat<((v2.keys.length:Int)-(i:Int)).toNat;omega
  ·rw[aa9 (by omega)]at h2;rw[dF (show ¬ (i:Int)<(v2.keys.length:Int) by omega),cond_false];exact h2
theorem mG(n:Node)(k o:aqO)(hf:fit n=true):bJ n k o=some (aM n k o,bT n k o):=by refine dL rfl ?_;simp only[aN,uS,bf,hf,av];unfold aM bT;cases aD n k<;>rfl
theorem NU(n:Node)(k o:aqO)(hf:fit n=true):fV n k o=some (aM n k o,Jr n k o):=by refine dL rfl ?_;simp only[aN,bB,uW,bf,mG n k o hf,aH];rfl
theorem LD(n:Node)(k:aqO)(hf:fit n=true)(hl:(aJ n k).text.length<=1000000):oh n k=some (mF n k,MK n k):=by
 refine dL rfl ?_;simp only[aN,bB,sP,bf,hf,av,mG n k [] hf,aH];unfold mF MK;cases g:aD n k with
 | false=>rfl
 | true =>
  have ef:aM n k []=(aJ n k).text:=by unfold aM;rw[g];rfl
  have eb:bT n k []=((aJ n k).kind==1):=by unfold bT;rw[g];rfl
  rw[ef,eb,pF _ 65536 hl (by decide)];rfl
theorem aqi(n:Node)(k:aqO)(l:Int)(hf:fit n=true)(hl:(aJ n k).text.length<=1000000):wO n k l=some (qA n k l,LC n k l):=by
 refine dL rfl ?_;simp only[aN,bB,wN,bf,hf,av,mG n k [] hf,aH];unfold qA LC;cases g:aD n k with
 | false=>rfl
 | true =>
  have ef:aM n k []=(aJ n k).text:=by unfold aM;rw[g];rfl
  have eb:bT n k []=((aJ n k).kind==1):=by unfold bT;rw[g];rfl
  rw[ef,eb,alI _ hl];simp only[aH,aqa];rfl
theorem aqj(n:Node)(h1:n.kids.length<=1000)(h2:∀s∈bH n,s.length<=10000):wM n=some (IV n,IU n):=by
 refine dL rfl ?_;simp only[aN,bB,wL,bf,CP,aH,Kh];unfold IV IU tsX;cases n.kind==1 with
 | true=>rfl
 | false =>
  cases hb:pY n with
  | false=>rfl
  | true =>
   rw[Bg hb];have hll:(bH n).length<=1000:=by rw[<- Bg hb];exact Nat.le_trans (DL n) h1
   simp only[cond_false,adr];cases hz:(((bH n).length:Int)==0)with
   | true=>rfl
   | false =>
    have hpos:0<(bH n).length:=by
     have:((bH n).length:Int)≠0:=by simpa using hz
     omega
    have kb:fZ (bH n) 0=true:=by simp[fZ];omega
    have ed:cut (bH n) 1 ((bH n).length:Int)=(bH n).drop 1:=by unfold cut;rw[aaE];exact aej (by rw[adH];exact abn _)
    have kd1:bN (bH n) 1 ((bH n).length:Int)=true:=by simp[bN];omega
    have hj:=aqc ((bH n).drop 1) (by rw[adH];omega) fun s hs=>h2 s (List.mem_of_mem_drop hs)
    rw[cond_false,wI];refine⟨by decide,by omega,?_⟩;have g0:(bH n).getD (Int.toNat 0) (Df.d:aqO)=(bH n).getD 0 []:=rfl;have g1:(bH n).getD (Int.toNat 1) (Df.d:aqO)=(bH n).getD 1 []:=rfl;rw[g0,kb,ed,kd1,hj];simp only[av,aH,cond_false];change (bif(bif(bH n).getD 0 []==UF then((bH n).length:Int)==1 else false)then _ else(bif(bif(bH n).getD 0 []==UG then((bH n).length:Int)==2 else false)then _ else(bif(bif(bH n).getD 0 []==UH then decide ((1:Int)<((bH n).length:Int))else false)then _ else _)));cases hn:(bH n).getD 0 []==UF with
    | true =>
     have h0:(bH n).getD 0 []=UF:=by simpa using hn
     have e1:((bH n).getD 0 []==UG)=false:=by rw[h0];rfl
     have e2:((bH n).getD 0 []==UH)=false:=by rw[h0];rfl
     simp only[e1,e2,cond_true,cond_false];cases(((bH n).length:Int)==1)<;>rfl
    | false =>
     cases hs:(bH n).getD 0 []==UG with
     | true =>
      have h0:(bH n).getD 0 []=UG:=by simpa using hs
      have e2:((bH n).getD 0 []==UH)=false:=by rw[h0];rfl
      simp only[e2,cond_true,cond_false];cases h2:(((bH n).length:Int)==2)with
      | true =>have:=eq_of_beq h2;rw[cond_true,wI];refine⟨by decide,by omega,?_⟩;rw[g1];rfl
      | false=>rfl
     | false =>
      cases(bH n).getD 0 []==UH with
      | true =>
       simp only[cond_true,cond_false];by_cases h1l:(1:Int)<((bH n).length:Int)
       ·rw[dT h1l];rfl
       ·have hd:(bH n).drop 1=[]:=aa9 (by omega);rw[dF h1l,hd];rfl
      | false=>rfl
theorem abm(n:Node)(hf:fit n=true):wH n=some (Lv n,Js n):=by
 refine dL rfl ?_;have fin:∀m:Node,fit m=true->m=em n->cl (fM m [cK,sK,rK]) False fun y1=>bif(!y1)then(zn,false)=(Lv n,Js n)else(cl (bJ m cK lZ) False fun y2=>cl (fV m sK ow) False fun y3=>cl (fV m rK jU) False fun y4=>cl (ay (y2.1)) False fun y5=>cl (ay (y4.1)) False fun y6=>cl (ay (y3.1)) False fun y7=>((⟨3,[],[cK,rK,sK],[y5,y6,y7]⟩:Node),(bif(bif(bif y2.2 then y3.2 else false)then y4.2 else false)then(bif(bif(y2.1==lZ)then true else(y2.1==Uy))then true else(y2.1==Uz))else false))=(Lv n,Js n)):=by intro m hm he;rw[FR m _ (qY.1 hm).1.1 rfl];simp only[aH,mG m _ _ hm,NU m _ _ hm,lM];unfold Lv Js;rw[<- he];cases dY m [cK,sK,rK]<;>rfl
 simp only[aN,bB,wG,bf];by_cases h0:n.kind=0
 ·have he:em n=⟨3,[],[],[]⟩:=by unfold em;rw[iU h0];rfl
  rw[iU h0,cond_true];exact fin ⟨3,[],[],[]⟩ rfl he.symm
 ·have he:em n=n:=by unfold em;rw[eT h0];rfl
  rw[eT h0,cond_false];exact fin n hf he.symm
theorem aqk(n:Node)(h3:n.kind=3->n.keys.length=n.kids.length)(hk:n.keys.length<=1000)(hl:n.kids.length<=1000)(hy:∀y∈n.kids,fit y=true):Ef n=some (Lx n,LA n):=by
 have hll:=DL n;have hK:(uD n).length<=1000:=by unfold uD;cases BA n<;>simp only[cond_true,cond_false]<;>omega
 have hK3:n.kind=3->(uD n).length<=n.kids.length:=fun e=>by have:=h3 e;unfold uD;cases BA n<;>simp only[cond_true,cond_false]<;>omega
 refine jo rfl (fun | .e y=>y=n | .h0 v0 v1 v2 v3 _ _ v6=>v0=uD n/\v3=n/\∃i:Nat,v2=(i:Int)/\i<=(uD n).length/\Bo 2 i v6/\rd (cO gJ) ((uD n).drop i) ((Bn n (uD n)).drop i) v1 v6=rdP n) (fun | .e _=>10000000000 | .h0 v0 _ v2 _ _ _ _=>((v0.length:Int)-v2).toNat) rfl (by show 10000000000<_;omega) ?_;rintro(y | ⟨v0,v1,v2,v3,v4,v5,o⟩) hs'
 ·have hs':y=n:=hs';subst hs';simp only[aN,bB,qm,bf,CP,aH];have e:rdP y=rd (cO gJ) (uD y) (Bn y (uD y)) (bif BA y then true else DK y) zn:=rfl;have eK:uD y=bif BA y then y.keys else gD y:=rfl
  change (bif BA y then _ else _);cases h0:BA y with
  | true =>rw[h0,cond_true]at e eK;refine⟨⟨eK.symm,trivial,0,rfl,aaG _,Bo.nil (.inl rfl),e.symm⟩,?_⟩;show((y.keys.length:Int)-0).toNat<10000000000;omega
  | false =>rw[h0,cond_false]at e eK;refine⟨⟨eK.symm,trivial,0,rfl,aaG _,Bo.nil (.inl rfl),e.symm⟩,?_⟩;show(((gD y).length:Int)-0).toNat<10000000000;omega
 ·obtain⟨rfl,rfl,i,rfl,h1,hB,h2⟩:=hs';simp only[aN,bB,qm,bf];have fin:rd (cO gJ) ((uD v3).drop i) ((Bn v3 (uD v3)).drop i) v1 o=(o,v1)->(eP o v1,eO o v1)=(Lx v3,LA v3):=fun h=>by
   unfold Lx LA;rw[<- h2,h]
  by_cases hi:i<(uD v3).length
  ·rw[dT (show(i:Int)<((uD v3).length:Int) by omega),cond_true];cases v1 with
   | false =>rw[cond_false,hB.done (by decide)];refine fin ?_;rw[<- abl hi];cases(Bn v3 (uD v3)).drop i<;>rfl
   | true =>
    have e1:ak ((i:Int)+1)=((i+1:Nat):Int):=by rw[aV (by omega) (by omega)];omega
    have hg:(uD v3).getD i (Df.d:aqO)=(uD v3)[i]:=by rw[List.getD,aaz hi];rfl
    have hM:(((uD v3).length:Int)-((i+1:Nat):Int)).toNat<(((uD v3).length:Int)-(i:Int)).toNat:=by omega
    rw[<- abl hi]at h2;rw[cond_true];by_cases hn:v3.kind=3
    ·have hj:i<v3.kids.length:=by have:=hK3 hn;omega
     have hg2:v3.kids.getD i (Df.d:Node)=v3.kids[i]:=by rw[List.getD,aaz hj];rfl
     have ed:(Bn v3 (uD v3)).drop i=v3.kids[i]::(Bn v3 (uD v3)).drop (i+1):=by unfold Bn;rw[iU hn,cond_true,abl hj]
     rw[ed,rd,cond_true]at h2;rw[iU hn,cond_true,wI];refine⟨by omega,by omega,?_⟩;rw[aaE,hg2,abm _ (hy _ (aee hj))];simp only[aH];rw[dT (show(0:Int)<=(i:Int) by omega),adM,ad5,av,wI];refine⟨by omega,by omega,?_⟩;rw[aaE,hg,hB.ok (by omega),av,e1];exact⟨⟨trivial,trivial,i+1,rfl,by omega,hB.put (ant _),h2⟩,hM⟩
    ·have ed:(Bn v3 (uD v3)).drop i=zn::(Bn v3 (uD v3)).drop (i+1):=by
      unfold Bn;rw[eT hn,cond_false,<- List.map_drop,<- List.map_drop,<- abl hi];rfl
     rw[ed,rd,cond_true]at h2;rw[eT hn,cond_false,show(⟨0,[],[],[]⟩:Node)=zn from rfl,abm zn rfl];simp only[aH];rw[dT (show(0:Int)<=(i:Int) by omega),adM,ad5,av,wI];refine⟨by omega,by omega,?_⟩;rw[aaE,hg,hB.ok (by omega),av,e1];exact⟨⟨trivial,trivial,i+1,rfl,by omega,hB.put (ant _),h2⟩,hM⟩
  ·rw[dF (show ¬ (i:Int)<((uD v3).length:Int) by omega),cond_false,cond_false,hB.done (by decide)];refine fin ?_;rw[aa9 (by omega)];rfl
theorem afD(n:Node)(hf:fit (iZ n)=true)(hd:(iZ n).kind=3->wg 10000 12 (iZ n)=true):Ag n=some (vg n,DR n):=by
 refine dL rfl ?_;have fin:∀m:Node,fit m=true->(m.kind=3->wg 10000 12 m=true)->m=iZ n->cl (fM m [iY,lS]) False fun y1=>bif(!y1)then(zn,false)=(vg n,DR n)else(cl (bJ m iY []) False fun y2=>cl (bJ m lS xS) False fun y3=>bif(bif(bif(bif(bif(!y2.2)then true else(!y3.2))then true else(!((cO gJ) (y2.1))))then true else(decide (((y3.1).length:Int)<(1:Int))))then true else(decide ((64:Int)<((y3.1).length:Int))))then(zn,false)=(vg n,DR n)else(cl (aG m true) False fun y4=>(y4.1,y4.2)=(vg n,DR n))):=by
  intro m hm hdm he;rw[FR m _ (qY.1 hm).1.1 rfl];simp only[aH,mG m _ _ hm];unfold vg DR;rw[<- he];cases hb:dY m [iY,lS]with
  | false=>rfl
  | true =>
   have h3:m.kind=3:=by
    unfold dY at hb;by_cases h:m.kind=3
    ·exact h
    ·rw[kr h]at hb;cases hb
   have hmap:iG m=m:=by obtain⟨k,t,ks,vs⟩:=m;show(⟨3,t,ks,vs⟩:Node)=_;rw[show k=3 from h3]
   rw[abk m true fun _=>by rw[hmap];exact hdm h3];change (bif LB m then _ else _);cases LB m<;>rfl
 simp only[aN,bB,r9,bf];by_cases h0:n.kind=1
 ·have he:iZ n=⟨3,[],[iY],[n]⟩:=by unfold iZ;rw[iU h0];rfl
  rw[he]at hf hd;rw[iU h0,cond_true];exact fin ⟨3,[],[iY],[n]⟩ hf hd he.symm
 ·have he:iZ n=n:=by unfold iZ;rw[eT h0];rfl
  rw[he]at hf hd;rw[eT h0,cond_false];exact fin n hf hd he.symm
def pHD(n o:Node):Prop:=cl (aG o true) False fun y=>(y.1,y.2)=(Aj n,Ak n)
def pH3(n o:Node):Prop:=bif decide ((0:Int)<mF n bS)then(cl (fK (mF n bS)) False fun y=>cl (ay y) False fun y'=>ck (gY o bS y') False (pHD n (aY o bS y')))else pHD n o
def pH2(n o:Node):Prop:=bif !(qA n fu 0==[])then(cl (ay (qA n fu 0)) False fun y=>ck (gY o fu y) False (pH3 n (aY o fu y)))else pH3 n o
def pH1(n o:Node):Prop:=bif !(qA n dQ 1==[])then(cl (ay (qA n dQ 1)) False fun y=>ck (gY o dQ y) False (pH2 n (aY o dQ y)))else pH2 n o
def pHT(n:Node)(off:aqO)(o:Node):Prop:=bif U8 n then(zn,false)=(Aj n,Ak n)else(bif off==jU then(cl (ay jU) False fun y=>((⟨3,[],[iO],[y]⟩:Node),true)=(Aj n,Ak n))else pH1 n o)
theorem aBw(n:Node):0<=mF n bS/\mF n bS<=65536:=by
 unfold mF;cases aD n bS with
 | true=>exact IK _ _ (by decide)
 | false=>exact⟨amd 0,(by decide:(0:Int)<=65536)⟩
theorem ajL{n o:Node}{off:aqO}{L:Nat}(h:Bo 2 L o)(hL:L<=100)(hR:(Aj n,Ak n)=bif U8 n then(zn,false)else bif off==jU then(Jt,true)else(eP (NT n (vk n fu 0 (vk n dQ 1 o))) true,eO (NT n (vk n fu 0 (vk n dQ 1 o))) true)):pHT n off o:=by
 unfold pHT;cases hb:U8 n with
 | true=>rw[hb]at hR;exact hR.symm
 | false =>
  rw[hb,cond_false]at hR;rw[cond_false];cases ho:off==jU with
  | true=>rw[ho]at hR;rw[cond_true,lM];exact hR.symm
  | false =>
   rw[ho,cond_false]at hR;rw[cond_false];have p3:∀{o:Node} {L:Nat},Bo 2 L o->L<=102->(Aj n,Ak n)=(eP (NT n o) true,eO (NT n o) true)->pH3 n o:=fun {o L} h hL hR=>by
    have hI:=aBw n;unfold pH3 pHD;unfold NT at hR;rw[FM _ (by omega)];simp only[aH,lM,h.ok (by omega),av];cases hd:decide ((0:Int)<mF n bS)with
    | true=>rw[hd]at hR;rw[cond_true,(h.put (oI _ 1)).done (by decide)];exact hR.symm
    | false=>rw[hd]at hR;rw[cond_false,h.done (by decide)];exact hR.symm
   have p2:∀{o:Node} {L:Nat},Bo 2 L o->L<=101->(Aj n,Ak n)=(eP (NT n (vk n fu 0 o)) true,eO (NT n (vk n fu 0 o)) true)->pH2 n o:=fun {o L} h hL hR=>by
    unfold pH2;unfold vk at hR;simp only[aH,lM,h.ok (by omega),av];cases hd : !(qA n fu 0==[])with
    | true=>rw[hd]at hR;exact p3 (h.put (oI _ 1)) (by omega) hR
    | false=>rw[hd]at hR;exact p3 h (by omega) hR
   unfold pH1;simp only[aH,lM,h.ok (by omega),av];cases hd : !(qA n dQ 1==[])with
   | true =>
    have e:vk n dQ 1 o=aY o dQ (bI (qA n dQ 1)):=by unfold vk;rw[hd];rfl
    rw[e]at hR;exact p2 (h.put (oI _ 1)) (by omega) hR
   | false =>
    have e:vk n dQ 1 o=o:=by unfold vk;rw[hd];rfl
    rw[e]at hR;exact p2 h (by omega) hR
theorem ajM(n:Node)(hf:fit n=true)(ht:∀k,(aJ n k).text.length<=1000000)(hk:(aJ n bQ).kids.length<=1000)(hx:∀s∈bH (aJ n bQ),s.length<=10000):Bz n=some (Aj n,Ak n):=by
 refine dL rfl ?_;have hte:wM (aJ n [116,101,115,116])=some (IV (aJ n bQ),IU (aJ n bQ)):=aqj (aJ n bQ) hk hx;simp only[aN,bB,sQ,bf,FR n _ (qY.1 hf).1.1 (show nL [([116,101,115,116]:aqO),[105,110,116,101,114,118,97,108],[115,116,97,114,116,95,112,101,114,105,111,100],[114,101,116,114,105,101,115],[100,105,115,97,98,108,101]]=true from rfl),NU n _ _ hf,hte,aqi n _ _ hf (ht _),LD n _ hf (ht _),aH,hf,av];have hz:Bo 2 0 zn:=Bo.nil (.inl rfl);have T:∀(X:Prop),(bif !(dY n R7)then(zn,false)=(Aj n,Ak n)else(bif aD n bQ then(bif IU (aJ n bQ)==0 then(zn,false)=(Aj n,Ak n)else(bif IU (aJ n bQ)==2 then(cl (ay (IV (aJ n bQ))) False fun y=>ck (gY zn bQ y) False (pHT n jU (aY zn bQ y)))else(cl (ay (IV (aJ n bQ))) False fun y=>ck (gY zn bQ y) False (pHT n (aM n iO ow) (aY zn bQ y)))))else pHT n (aM n iO ow) zn))=X->X:=by
  intro X hX;rw[<- hX];have hR:(Aj n,Ak n)=bif F6 n then(zn,false)else bif GI n==jU then(Jt,true)else(eP (rO n) true,eO (rO n) true):=by
   unfold Aj Ak;cases F6 n with
   | true=>rfl
   | false=>cases GI n==jU<;>rfl
  unfold F6 GI rO Ra at hR;cases ho:dY n R7 with
  | false=>rw[ho]at hR;exact hR.symm
  | true =>
   rw[ho]at hR;simp only[cond_false,adr,lM,aH,hz.ok (aaG _),av]at hR ⊢;cases hg:aD n bQ with
   | false =>rw[hg]at hR;exact ajL hz (by decide) hR
   | true =>
    rw[hg]at hR;simp only[cond_true]at hR ⊢;cases hk0:IU (aJ n bQ)==0 with
    | true=>rw[hk0]at hR;exact hR.symm
    | false =>
     rw[hk0]at hR;have hq:=hz.put (k:=bQ) (v:=bI (IV (aJ n bQ))) (oI _ 1);cases hk2:IU (aJ n bQ)==2 with
     | true=>rw[hk2]at hR;exact ajL hq (by decide) hR
     | false=>rw[hk2]at hR;exact ajL hq (by decide) hR
 exact T _ rfl
end
section
def pkL:List (aqO):=[dz,nG,qg,za]
def Zb(y:Node):Port:=⟨aM y qg [],mF y nG,mF y dz,aM y za UO⟩
def U9(y:Node):Bool:=bif(bif(bif !(MK y dz)then true else !(MK y nG))then true else !(bT y qg []))then true else !(bT y za UO)
def Ep(y:Node):aqO:=bif y.kind==1 then(bif(jg y.text).2 != 0 then[]else zB (jg y.text).1)else bif !(dY y pkL)then[]else bif U9 y then[]else zB (Zb y)
structure Kz (y:Node):Prop where
 text:y.text.length<=1000
 Ju:fit y=true
 Rb:∀k,(aJ y k).text.length<=1000
theorem Wo{y:Node}(h:∀k,(aJ y k).text.length<=1000)(k o:aqO)(ho:o.length<=1000):(aM y k o).length<=1000:=by unfold aM;grind
theorem R8(y:Node)(h:Kz y):rZ y=some (Ep y):=by
 refine dL rfl ?_;have ho:=FR y pkL (qY.1 h.Ju).1.1 rfl;have n1:=LD y dz h.Ju (Nat.le_trans (h.Rb _) (by decide));have n2:=LD y nG h.Ju (Nat.le_trans (h.Rb _) (by decide));have f1:=mG y qg [] h.Ju;have f2:=mG y za UO h.Ju;unfold pkL dz nG qg za at ho;unfold dz at n1;unfold nG at n2;unfold qg at f1;unfold za UO at f2;have hp:=UR y.text (by have:=h.text;omega);simp only[aN,bB,rY,bf,alL y.text (by have:=h.text;omega),aH,ho,n1,n2,f1,f2];unfold Ep;cases y.kind==1 with
 | true =>
  rw[cond_true,cond_true];cases(jg y.text).2 != 0 with
  | true=>rfl
  | false =>rw[cond_false,cond_false,abf _ (by omega)];rfl
 | false =>
  rw[cond_false,cond_false];change (bif !(dY y pkL)then _ else(bif U9 y then _ else _));cases !(dY y pkL)with
  | true=>rfl
  | false =>
   rw[cond_false,cond_false];cases U9 y with
   | true=>rfl
   | false =>rw[cond_false,cond_false,abf _ (by have:=Wo h.Rb qg [] (by decide);show(aM y qg []).length<=_;omega)];rfl
def Va:List Node->Node->Option Node
 | [],o=>some o
 | y::t,o=>bif Ep y==[]then none else Va t (aY o (Ep y) zn)
def GJ:List (aqO)->List Node->Node->Option Node
 | s::t,y::r,o=>bif(bif(bif y.kind==0 then Ep (bI s)==s else false)then s==[]else true)then none else GJ t r (aY o s zn)
 | _,_,o=>some o
def LG(n:Node):Option Node:=bif(bif decide ((32:Int)<(n.kids.length:Int))then true else decide (n.kind<2))then none else bif n.kind==2 then Va n.kids zn else GJ n.keys n.kids zn
def xV(n:Node):Node:=oV (LG n)
def Al(n:Node):Bool:=oB (LG n)
theorem aBx{s:aqO}(h:s.length<=1000):Kz (bI s):=⟨h,rfl,fun _=>aaG _⟩
theorem alR(n:Node)(h3:n.kind=3->n.keys.length=n.kids.length)(hkd:n.kind<=3)(hs:∀s∈n.keys,s.length<=1000)(hy:∀y∈n.kids,Kz y):Cu n=some (xV n,Al n):=by
 refine jo rfl (fun | .e y=>y=n | .h0 v0 v1 _ _ v4=>v1=n/\n.kids.length<=32/\∃i:Nat,v0=(i:Int)/\i<=n.kids.length/\Bo 1 i v4/\((n.kind=2/\Va (n.kids.drop i) v4=LG n)\/(n.kind=3/\GJ (n.keys.drop i) (n.kids.drop i) v4=LG n))) (fun | .e _=>10000000000 | .h0 v0 _ _ _ _=>((n.kids.length:Int)-v0).toNat) rfl (by show 10000000000<_;omega) ?_;rintro(y | ⟨v0,v1,v2,v3,o⟩) hs'
 ·have hs':y=n:=hs';subst hs';simp only[aN,bB,pq];have e:LG y=bif(bif decide ((32:Int)<(y.kids.length:Int))then true else decide (y.kind<2))then none else bif y.kind==2 then Va y.kids zn else GJ y.keys y.kids zn:=rfl
  cases hc:(bif decide ((32:Int)<(y.kids.length:Int))then true else decide (y.kind<2))with
  | true =>rw[hc]at e;unfold xV Al;rw[e];rfl
  | false =>
   rw[hc,cond_false]at e;have hl:y.kids.length<=32/\2<=y.kind:=by grind
   rw[cond_false];refine⟨⟨trivial,hl.1,0,rfl,aaG _,Bo.nil (.inl rfl),?_⟩,?_⟩
   ·by_cases h2:y.kind=2
    ·rw[iU h2]at e;exact .inl ⟨h2,e.symm⟩
    ·rw[eT h2]at e;exact .inr ⟨by omega,e.symm⟩
   grind
 ·obtain⟨rfl,h32,i,rfl,h1,hB,h2⟩:=hs';simp only[aN,bB,pq,bf];have fin:LG v1=some o->(eP o true,eO o true)=(xV v1,Al v1):=fun h=>by
   unfold xV Al;rw[h];rfl
  by_cases hi:i<v1.kids.length
  ·have e1:ak ((i:Int)+1)=((i+1:Nat):Int):=by rw[aV (by omega) (by omega)];omega
   have hg:v1.kids.getD i (Df.d:Node)=v1.kids[i]:=by rw[List.getD,aaz hi];rfl
   have hM:((v1.kids.length:Int)-((i+1:Nat):Int)).toNat<((v1.kids.length:Int)-(i:Int)).toNat:=by omega
   have hyi:=hy _ (aee hi);have none_:LG v1=none->((⟨0,[],[],[]⟩:Node),false)=(xV v1,Al v1):=fun h=>by unfold xV Al;rw[h];rfl
   rw[dT (show(i:Int)<(v1.kids.length:Int) by omega),cond_true];rcases h2 with⟨hk,h2⟩ | ⟨hk,h2⟩
   ·rw[<- abl hi,Va]at h2;rw[iU hk,cond_true,wI];refine⟨by omega,by omega,?_⟩;rw[aaE,hg,R8 _ hyi,e1];simp only[aH];cases hb:Ep v1.kids[i]==[]with
    | true=>rw[hb]at h2;exact none_ h2.symm
    | false =>rw[hb,cond_false]at h2;rw[cond_false,hB.ok (by omega),av];exact⟨⟨trivial,h32,i+1,rfl,by omega,hB.put (agp 0),.inl ⟨hk,h2⟩⟩,hM⟩
   ·have hj:i<v1.keys.length:=by have:=h3 hk;omega
    have hg2:v1.keys.getD i (Df.d:aqO)=v1.keys[i]:=by rw[List.getD,aaz hj];rfl
    have hg3:v1.keys.getD i (dflt Ty.str:aqO)=v1.keys[i]:=hg2;have hsi:=hs _ (aee hj);rw[<- abl hi,<- abl hj,GJ]at h2;rw[eT (show v1.kind≠2 by omega),cond_false,wI];refine⟨by omega,by omega,?_⟩;rw[aaE,hg,hg3,lM,fI,R8 _ (aBx hsi),fI,e1,dT (show(0:Int)<=(i:Int) by omega),dT (show(i:Int)<(v1.keys.length:Int) by omega)];simp only[adM,ad5,av,aez];cases hb:(bif v1.kids[i].kind==0 then Ep (bI v1.keys[i])==v1.keys[i]else false)with
    | false =>rw[hb]at h2;exact none_ h2.symm
    | true =>
     rw[hb,cond_true]at h2;rw[cond_true,wI];refine⟨by omega,by omega,?_⟩;rw[aaE,hg2];cases hz:v1.keys[i]==[]with
     | true=>rw[hz]at h2;exact none_ h2.symm
     | false =>rw[hz,cond_false]at h2;rw[cond_false,hB.ok (by omega),av];exact⟨⟨trivial,h32,i+1,rfl,by omega,hB.put (agp 0),.inr ⟨hk,h2⟩⟩,hM⟩
  ·rw[dF (show ¬ (i:Int)<(v1.kids.length:Int) by omega),cond_false,hB.done (by decide)];refine fin ?_;rcases h2 with⟨hk,h2⟩ | ⟨hk,h2⟩
   ·rw[<- h2,aa9 (by omega)];rfl
   ·rw[<- h2,aa9 (show v1.keys.length<=i by have:=h3 hk;omega)];rfl
def Vb:List (aqO):=[jr,dz,lI,lJ]
def Jv(y:Node):fO:=⟨aM y jr [],aM y dz [],aM y lI ow==jU⟩
def ajN(y:Node):Bool:=bif(bif(bif(bif(bif bT y jr []then bT y dz []else false)then Jr y lI ow else false)then bT y lJ ze else false)then sI (Jv y)else false)then(bif(bif aM y lJ ze==[118,111,108,117,109,101]then true else aM y lJ ze==[98,105,110,100])then true else aM y lJ ze==[116,109,112,102,115])else false
def qB(y:Node):fO:=bif y.kind==1 then(nH y.text).1 else bif !(dY y Vb)then mz else Jv y
def Er(y:Node):Bool:=bif y.kind==1 then(nH y.text).2==0 else bif !(dY y Vb)then false else ajN y
theorem axe{l:List (aqO)}{B:Nat}(h:∀x∈l,x.length<=B)(ro:Bool):(IY l ro).1.target.length<=B:=by
 have hg:=fun i=>rV h i
 have hz:([]:aqO).length<=B:=aaG _;have hf:∀m:fO,m.target.length<=B->(u7 m).1.target.length<=B:=fun m hm=>by
  unfold u7;cases sI m with
  | true=>exact hm
  | false=>exact hz
 unfold IY;cases(l.length:Int)==1 with
 | true=>exact hf _ (hg 0)
 | false =>
  cases(l.length:Int)==2 with
  | false=>exact hf ⟨[],[],ro⟩ hz
  | true =>
   cases l.getD 0 []==[]with
   | true=>exact hz
   | false=>grind
theorem avR(s:aqO):(nH s).1.target.length<=s.length:=by
 obtain⟨_,_,a3⟩:=Dj s 58 0 (-1);unfold nH;cases mEn s with
 | true=>exact axe (fun x hx=>a3 x (amH hx)) _
 | false=>exact axe a3 _
theorem Pf(y:Node)(h:Kz y):zw y=some (qB y,Er y)/\(qB y).source.length<=1000/\(qB y).target.length<=1000:=by
 have lens:(qB y).source.length<=1000/\(qB y).target.length<=1000:=by
  have h1:=ac0 y.text;have h2:=avR y.text;have h3:=h.text;unfold qB;cases y.kind==1 with
  | true=>rw[cond_true];omega
  | false =>
   rw[cond_false];cases !(dY y Vb)with
   | true=>exact⟨aaG _,aaG _⟩
   | false=>exact⟨Wo h.Rb _ _ (by decide),Wo h.Rb _ _ (by decide)⟩
 refine⟨?_,lens⟩;refine dL rfl ?_;have ho:=FR y Vb (qY.1 h.Ju).1.1 rfl;have f1:=mG y jr [] h.Ju;have f2:=mG y dz [] h.Ju;have f3:=NU y lI ow h.Ju;have f4:=mG y lJ ze h.Ju;have hR:iq (Jv y)=some (sI (Jv y)):=Ic _ (Nat.le_trans (Wo h.Rb jr [] (by decide)) (by decide)) (Nat.le_trans (Wo h.Rb dz [] (by decide)) (by decide));unfold Vb jr dz lI lJ at ho;unfold jr at f1;unfold dz at f2;unfold lI ow at f3;unfold lJ ze at f4;simp only[aN,bB,qP,bf,alN y.text (by have:=h.text;omega),aH,ho,f1,f2,f3,f4];unfold qB Er;cases y.kind==1 with
 | true=>rfl
 | false =>rw[cond_false,cond_false];change (bif !(dY y Vb)then _ else(ck ((iq (Jv y)).isSome||_) False ((Jv y,(bif(bif(bif(bif(bif bT y jr []then bT y dz []else false)then Jr y lI ow else false)then bT y lJ ze else false)then gv (iq (Jv y))else false)then _ else false))=_)));rw[hR];simp only[aez,ad5,av,fI];cases !(dY y Vb)<;>rfl
def Vd:List Node->Node->Option Node
 | [],o=>some o
 | y::t,o=>bif !(Er y)then none else Vd t (aY o (qB y).target (bI (oz (qB y))))
def GK:List (aqO)->List Node->Node->Option Node
 | s::t,y::r,o=>bif(bif !(Er y)then true else(bif(bif y.kind != 1 then true else !(y.text==oz (qB y)))then true else !(s==(qB y).target)))then none else GK t r (aY o (qB y).target (bI (oz (qB y))))
 | _,_,o=>some o
def LH(n:Node):Option Node:=bif(bif decide ((32:Int)<(n.kids.length:Int))then true else decide (n.kind<2))then none else bif n.kind==2 then Vd n.kids zn else GK n.keys n.kids zn
def xW(n:Node):Node:=oV (LH n)
def Am(n:Node):Bool:=oB (LH n)
theorem ajO(n:Node)(h3:n.kind=3->n.keys.length=n.kids.length)(hkd:n.kind<=3)(hy:∀y∈n.kids,Kz y):Bw n=some (xW n,Am n):=by
 refine jo rfl (fun | .e y=>y=n | .h0 v0 v1 _ _ v4=>v1=n/\n.kids.length<=32/\∃i:Nat,v0=(i:Int)/\i<=n.kids.length/\Bo 1 i v4/\((n.kind=2/\Vd (n.kids.drop i) v4=LH n)\/(n.kind=3/\GK (n.keys.drop i) (n.kids.drop i) v4=LH n))) (fun | .e _=>10000000000 | .h0 v0 _ _ _ _=>((n.kids.length:Int)-v0).toNat) rfl (by show 10000000000<_;omega) ?_;rintro(y | ⟨v0,v1,v2,v3,o⟩) hs'
 ·have hs':y=n:=hs';subst hs';simp only[aN,bB,oo];have e:LH y=bif(bif decide ((32:Int)<(y.kids.length:Int))then true else decide (y.kind<2))then none else bif y.kind==2 then Vd y.kids zn else GK y.keys y.kids zn:=rfl
  cases hc:(bif decide ((32:Int)<(y.kids.length:Int))then true else decide (y.kind<2))with
  | true =>rw[hc]at e;unfold xW Am;rw[e];rfl
  | false =>
   rw[hc,cond_false]at e;have hl:y.kids.length<=32/\2<=y.kind:=by grind
   rw[cond_false];refine⟨⟨trivial,hl.1,0,rfl,aaG _,Bo.nil (.inl rfl),?_⟩,?_⟩
   ·by_cases h2:y.kind=2
    ·rw[iU h2]at e;exact .inl ⟨h2,e.symm⟩
    ·rw[eT h2]at e;exact .inr ⟨by omega,e.symm⟩
   grind
 ·obtain⟨rfl,h32,i,rfl,h1,hB,h2⟩:=hs';simp only[aN,bB,oo,bf];have fin:LH v1=some o->(eP o true,eO o true)=(xW v1,Am v1):=fun h=>by
   unfold xW Am;rw[h];rfl
  by_cases hi:i<v1.kids.length
  ·have e1:ak ((i:Int)+1)=((i+1:Nat):Int):=by rw[aV (by omega) (by omega)];omega
   have hg:v1.kids.getD i (Df.d:Node)=v1.kids[i]:=by rw[List.getD,aaz hi];rfl
   have hM:((v1.kids.length:Int)-((i+1:Nat):Int)).toNat<((v1.kids.length:Int)-(i:Int)).toNat:=by omega
   obtain⟨q1,q2,q3⟩:=Pf _ (hy _ (aee hi));have hT:=aqh (qB v1.kids[i]) (by omega) (by omega);have none_:LH v1=none->((⟨0,[],[],[]⟩:Node),false)=(xW v1,Am v1):=fun h=>by unfold xW Am;rw[h];rfl
   rw[dT (show(i:Int)<(v1.kids.length:Int) by omega),cond_true,wI];refine⟨by omega,by omega,?_⟩;rw[aaE,hg,q1];simp only[aH];rw[hT];simp only[aH,lM];rw[dT (show(0:Int)<=(i:Int) by omega),e1];simp only[adM,ad5,av];rcases h2 with⟨hk,h2⟩ | ⟨hk,h2⟩
   ·rw[<- abl hi,Vd]at h2;rw[eT (show v1.kind≠3 by omega)];simp only[ajK,ajZ,aec,ai5,av,cond_false];cases hb:Er v1.kids[i]with
    | false=>rw[hb]at h2;exact none_ h2.symm
    | true =>rw[hb,adr,cond_false]at h2;rw[adr,cond_false,cond_false,hB.ok (by omega),av];exact⟨⟨trivial,h32,i+1,rfl,by omega,hB.put (oI _ 0),.inl ⟨hk,h2⟩⟩,hM⟩
   ·have hj:i<v1.keys.length:=by have:=h3 hk;omega
    have hg3:v1.keys.getD i (dflt Ty.str:aqO)=v1.keys[i]:=by rw[List.getD,aaz hj];rfl
    rw[<- abl hi,<- abl hj,GK]at h2;rw[iU hk,hg3,dT (show(i:Int)<(v1.keys.length:Int) by omega)];simp only[adM,ad5,av,cond_true];cases hb:(bif !(Er v1.kids[i])then true else(bif(bif v1.kids[i].kind != 1 then true else !(v1.kids[i].text==oz (qB v1.kids[i])))then true else !(v1.keys[i]==(qB v1.kids[i]).target)))with
    | true=>rw[hb]at h2;exact none_ h2.symm
    | false =>rw[hb,cond_false]at h2;rw[cond_false,hB.ok (by omega),av];exact⟨⟨trivial,h32,i+1,rfl,by omega,hB.put (oI _ 0),.inr ⟨hk,h2⟩⟩,hM⟩
  ·rw[dF (show ¬ (i:Int)<(v1.kids.length:Int) by omega),cond_false,hB.done (by decide)];refine fin ?_;rcases h2 with⟨hk,h2⟩ | ⟨hk,h2⟩
   ·rw[<- h2,aa9 (by omega)];rfl
   ·rw[<- h2,aa9 (show v1.keys.length<=i by have:=h3 hk;omega)];rfl
def vo(n:Node)(k:Int):Node:=bif decide (k<5)then DN n k else bif k==5 then CK n else bif(bif k==6 then true else k==7)then qI n (k==6)else bif k==8 then qz n else bif k==9 then xV n else bif k==10 then xW n else bif k==11 then Lx n else bif k==12 then vg n else Aj n
def uE(n:Node)(k:Int):Bool:=bif decide (k<5)then FQ n k else bif k==5 then F4 n else bif(bif k==6 then true else k==7)then zf n (k==6)else bif k==8 then Bf n else bif k==9 then Al n else bif k==10 then Am n else bif k==11 then LA n else bif k==12 then DR n else Ak n
structure Rz (n:Node):Prop where
 kz:Kz n
 keys:n.keys.length<=1000
 kids:n.kids.length<=1000
 h3:n.kind=3->n.keys.length=n.kids.length
 kd:n.kind<=3
 kl:∀s∈n.keys,s.length<=1000
 ky:∀y∈n.kids,Kz y
 ef:fit (iZ n)=true
 ew:(iZ n).kind=3->wg 10000 12 (iZ n)=true
 tk:(aJ n bQ).kids.length<=1000
 tt:∀s∈bH (aJ n bQ),s.length<=10000
theorem alS(n:Node)(k:Int)(h:Rz n):CG n k=some (vo n k,uE n k):=by refine dL rfl ?_;have l1:n.text.length<=1000000:=Nat.le_trans h.kz.text (by decide);have l2:n.kids.length<=1000000:=Nat.le_trans h.kids (by decide);simp only[aN,bB,uZ,bf,as9 n k l1,alO n l1 l2,alP n (k==6) h.h3 h.keys h.kids (fun y hy=>(h.ky y hy).text),as8 n h.keys h.kids,alR n h.h3 h.kd h.kl h.ky,ajO n h.h3 h.kd h.ky,aqk n h.h3 h.keys h.kids (fun y hy=>(h.ky y hy).Ju),afD n h.ef h.ew,ajM n h.kz.Ju (fun k=>Nat.le_trans (h.kz.Rb k) (by decide)) h.tk h.tt,aH];unfold vo uE;grind
end
section
def Ve:List (aqO):=[ac3,ac5,ac6,ac4,ac1,ac2,YX,YZ,Y2,Y0,Y1,Y3,Y4,Y5]
def nbG:List (aqO)->Nat->aqO->Int
 | [],_,s=>bif s==NS then 8 else -1
 | a::t,i,s=>bif a==s then(i:Int)else nbG t (i+1) s
def qM(s:aqO):Int:=nbG Ve 0 s
theorem ajP(s:aqO):Bq s=some (qM s):=by
 refine jo rfl (fun | .e y=>y=s | .h0 v0 v1 v2=>v0=s/\v1=Ve/\∃i:Nat,v2=(i:Int)/\i<=14/\nbG (Ve.drop i) i s=qM s) (fun | .e _=>10000 | .h0 _ _ v2=>(14-v2).toNat) rfl (by show 10000<_;omega) ?_;rintro(y | ⟨v0,v1,v2⟩) hs'
 ·cases hs';exact⟨⟨rfl,rfl,0,rfl,by decide,rfl⟩,by show(14-0:Int).toNat<10000;decide⟩
 ·obtain⟨rfl,rfl,i,rfl,h1,h2⟩:=hs';simp only[aN,bB,sM];by_cases hi:i<14
  ·have hl:i<Ve.length:=hi;have e1:ak ((i:Int)+1)=((i+1:Nat):Int):=by rw[aV (by omega) (by omega)];omega
   have hg:Ve.getD i (Df.d:aqO)=Ve[i]:=by rw[List.getD,aaz hl];rfl
   rw[<- abl hl,nbG]at h2;rw[dT (show(i:Int)<(Ve.length:Int) by show(i:Int)<14;omega),cond_true,wI];refine⟨by omega,by show(i:Int)<14;omega,?_⟩;rw[aaE,hg,e1];cases hb:Ve[i]==v0 with
   | true=>rw[hb]at h2;exact h2
   | false =>rw[hb,cond_false]at h2;exact⟨⟨trivial,trivial,i+1,rfl,by omega,h2⟩,by show(14-((i+1:Nat):Int)).toNat<(14-(i:Int)).toNat;omega⟩
  ·rw[aa9 (show Ve.length<=i by show 14<=i;omega),nbG]at h2;rw[dF (show ¬ (i:Int)<(Ve.length:Int) by show ¬ (i:Int)<14;omega),cond_false];change (bif v0==NS then(8:Int)=qM v0 else(-1:Int)=qM v0);rw[<- h2];cases v0==NS<;>rfl
theorem afE(s:aqO):rX s=some (XD s):=by
 refine dL rfl ?_;simp only[aN,bB,rW];have hf:XD s=[120,45].isPrefixOf s:=rfl
 match s,hf with
 | [],hf=>exact hf.symm
 | [a],hf=>rw[hf];simp[List.isPrefixOf,av]
 | a::b::t,hf =>have h2:decide ((2:Int)<=((a::b::t).length:Int))=true:=dT (by simp only[List.length_cons];omega);have hc:cut (a::b::t) 0 2=[a,b]:=rfl;rw[h2,hc];simp only[show decide ((0:Int)<=0)=true from rfl,show decide ((0:Int)<=2)=true from rfl,adM,ad5,av,cond_true];rw[hf];have e:List.isPrefixOf [120,45] (a::b::t)=((120==a)&&((45==b)&&true)):=rfl;rw[e,Bool.and_true,Bool.eq_iff_iff];simp only[abj,beq_iff_eq,List.cons.injEq,and_true];exact⟨fun h=>⟨h.1.symm,h.2.symm⟩,fun h=>⟨h.1.symm,h.2.symm⟩⟩
theorem Rc{B:Nat}:∀(m n:Nat) (x:Node),wg B n x=true->wg B n (aQ m x)=true
 | 0,_,_,h=>h
 | _+1,0,_,h=>by cases h
 | m+1,n+1,x,h=>by
  have hx:=fE.1 h;unfold aQ;by_cases h3:x.kind=3
  ·have hl:=Pl.tZ x.keys;rw[iU h3,cond_true];refine fE.2 ⟨by show(Pl.bA x.keys).length<=_;omega,by show((Pl.bA x.keys).map _).length<=_;rw[List.length_map];omega,fun _=>by simp,fun y hy=>?_⟩;obtain⟨k,hk,rfl⟩:=List.mem_map.1 hy;exact Rc m n _ (TM h (TK h h3 (Pl.jN.1 hk)))
  ·rw[eT h3,cond_false];refine fE.2 ⟨aaG _,by show(x.kids.map _).length<=_;rw[List.length_map];exact hx.2.1,fun e=>absurd e h3,fun y hy=>?_⟩;obtain⟨z,hz,rfl⟩:=List.mem_map.1 hy;exact Rc m n z (hx.2.2.2 z hz)
def sD:List (aqO)->List Node->Node->BP
 | k::ks,v::vs,o=>bif XD k then sD ks vs o else bif decide (qM k<0)then⟨zn,k,10⟩else bif v.kind==0 then sD ks vs o else bif !(uE v (qM k))then⟨zn,k,10⟩else sD ks vs (aY o k (vo v (qM k)))
 | _,_,o=>⟨aQ 13 o,[],0⟩
def Ao(n:Node):BP:=bif(bif n.kind != 0 then n.kind != 3 else false)then⟨zn,[],10⟩else sD n.keys n.kids ⟨3,[],[],[]⟩
def Rf1(v:Node):Prop:=Rz v/\∀k,wg 10000 12 (vo v k)=true
theorem afF(n:Node)(hk:n.keys.length<=1000)(h0:n.kind=0->n.keys=[])(h3:n.kind=3->n.keys.length=n.kids.length)(hy:∀y∈n.kids,Rf1 y):nE n=some (Ao n):=by
 refine jo rfl (fun | .e y=>y=n | .h0 v0 v1 _ _ _ _ v6=>v1=n/\n.keys.length<=n.kids.length/\∃i:Nat,v0=(i:Int)/\i<=n.keys.length/\Bo 12 i v6/\sD (n.keys.drop i) (n.kids.drop i) v6=Ao n) (fun | .e _=>10000000000 | .h0 v0 _ _ _ _ _ _=>((n.keys.length:Int)-v0).toNat) rfl (by show 10000000000<_;omega) ?_;have hz:(⟨0,[],[],[]⟩:Node)=zn:=rfl;rintro(y | ⟨v0,v1,v2,v3,v4,v5,o⟩) hs'
 ·have hs':y=n:=hs';subst hs';simp only[aN,bB,nD];have e:Ao y=bif(bif y.kind != 0 then y.kind != 3 else false)then⟨zn,[],10⟩else sD y.keys y.kids ⟨3,[],[],[]⟩:=rfl
  cases hc:(bif y.kind != 0 then y.kind != 3 else false)with
  | true=>rw[hc]at e;exact e.symm
  | false =>
   rw[hc]at e;rw[cond_false];refine⟨⟨trivial,?_,0,rfl,aaG _,Bo.nil (.inr rfl),e.symm⟩,?_⟩
   ·by_cases h:y.kind=0
    ·rw[h0 h];exact aaG _
    ·by_cases h':y.kind=3
     ·have:=h3 h';omega
     ·rw[kr h,kr h']at hc;cases hc
   ·show((y.keys.length:Int)-0).toNat<10000000000;omega
 ·obtain⟨rfl,hle,i,rfl,h1,hB,h2⟩:=hs';simp only[aN,bB,nD,bf,afE,ajP,aH];by_cases hi:i<v1.keys.length
  ·have hj:i<v1.kids.length:=by omega
   have e1:ak ((i:Int)+1)=((i+1:Nat):Int):=by rw[aV (by omega) (by omega)];omega
   have hg:v1.keys.getD i (Df.d:aqO)=v1.keys[i]:=by rw[List.getD,aaz hi];rfl
   have hg2:v1.kids.getD i (Df.d:Node)=v1.kids[i]:=by rw[List.getD,aaz hj];rfl
   have kb:fZ v1.keys (i:Int)=true:=by simp[fZ];omega
   have kb2:fZ v1.kids (i:Int)=true:=by simp[fZ];omega
   have hM:((v1.keys.length:Int)-((i+1:Nat):Int)).toNat<((v1.keys.length:Int)-(i:Int)).toNat:=by omega
   obtain⟨y1,y2⟩:=hy _ (aee hj);rw[<- abl hi,<- abl hj,sD]at h2;rw[dT (show(i:Int)<(v1.keys.length:Int) by omega),cond_true,wI];refine⟨by omega,by omega,?_⟩;rw[aaE,hg,e1,kb,kb2];simp only[av];generalize v1.keys[i]=k at h2 ⊢;cases hf:XD k with
   | true =>rw[hf,cond_true]at h2;exact⟨⟨trivial,hle,i+1,rfl,by omega,⟨hB.kind,hB.len,by have:=hB.le;omega,hB.kids⟩,h2⟩,hM⟩
   | false =>
    rw[hf,cond_false]at h2;rw[cond_false];cases hn:decide (qM k<0)with
    | true=>rw[hn]at h2;exact h2
    | false =>
     rw[hn,cond_false]at h2;rw[cond_false,wI];refine⟨by omega,by omega,?_⟩;rw[aaE,hg2];generalize v1.kids[i]=v at y1 y2 h2 ⊢;cases hk0:v.kind==0 with
     | true =>rw[hk0,cond_true]at h2;exact⟨⟨trivial,hle,i+1,rfl,by omega,⟨hB.kind,hB.len,by have:=hB.le;omega,hB.kids⟩,h2⟩,hM⟩
     | false =>
      rw[hk0,cond_false]at h2;rw[cond_false,alS v (qM k) y1];simp only[aH];cases hb:uE v (qM k)with
      | false=>rw[hb]at h2;exact h2
      | true =>rw[hb]at h2;rw[adr,cond_false,hB.ok (by omega),av];exact⟨⟨trivial,hle,i+1,rfl,by omega,hB.put (y2 _),h2⟩,hM⟩
  ·have hw:wg 10000 13 o=true:=hB.wg_ (by have:=hB.le;omega) o.kind o.text;rw[dF (show ¬ (i:Int)<(v1.keys.length:Int) by omega),cond_false,hw,av,<- h2,aa9 (by omega)];rfl
theorem aBy(n:Node)(hk:n.keys.length<=1000)(hy:∀y∈n.kids,Rf1 y):wg 10000 13 (Ao n).n=true:=by
 have go:∀(ks:List (aqO)) (vs:List Node) (o:Node) (L:Nat),(∀y∈vs,Rf1 y)->Bo 12 L o->L+ks.length<=5000->wg 10000 13 (sD ks vs o).n=true:=by
  intro ks
  induction ks with
  | nil=>intro vs o L _ hB hL;exact Rc 13 13 o (hB.wg_ (by have:=hB.le;simp only[List.length_nil]at hL;omega) o.kind o.text)
  | cons k ks ih =>
   intro vs o L hv hB hL;rw[List.length_cons]at hL;cases vs with
   | nil=>exact Rc 13 13 o (hB.wg_ (by have:=hB.le;omega) o.kind o.text)
   | cons v vs =>
    rw[sD];have hz:wg 10000 13 (⟨zn,k,10⟩:BP).n=true:=rfl;have hv':=fun y hy=>hv y (abb _ hy)
    have hB':Bo 12 (L+1) o:=⟨hB.kind,hB.len,by have:=hB.le;omega,hB.kids⟩
    cases XD k with
    | true=>exact ih vs o (L+1) hv' hB' (by omega)
    | false =>
     cases decide (qM k<0)with
     | true=>exact hz
     | false =>
      cases v.kind==0 with
      | true=>exact ih vs o (L+1) hv' hB' (by omega)
      | false =>
       cases uE v (qM k)with
       | false=>exact hz
       | true=>exact ih vs _ (L+1) hv' (hB.put ((hv v abd).2 _)) (by omega)
 unfold Ao;cases(bif n.kind != 0 then n.kind != 3 else false)with
 | true=>rfl
 | false=>exact go n.keys n.kids _ 0 hy (Bo.nil (.inr rfl)) (by omega)
end
section
def kd:Nat->Node->Bool
 | 0,_=>false
 | n+1,x=>decide (0<=x.kind)&&decide (x.kind<=3)&&decide (x.kind≠3->x.keys.length=0)&&decide (x.kind<2->x.kids.length=0)&&x.kids.all (kd n)
theorem FT{n:Nat}{x:Node}:kd (n+1) x=true↔((0<=x.kind/\x.kind<=3)/\(x.kind≠3->x.keys.length=0))/\(x.kind<2->x.kids.length=0)/\∀y∈x.kids,kd n y=true:=by simp only[kd,abj,adB,ahn];grind
theorem anv:∀{n:Nat} {x:Node} (k:Nat),kd n x=true->kd (n+k) x=true
 | 0,_,_,h=>by cases h
 | n+1,x,k,h=>by have:=FT.1 h;rw[Nat.add_right_comm];exact FT.2 ⟨this.1,this.2.1,fun y hy=>anv k (this.2.2 y hy)⟩
theorem ada{k:aqO}:∀{ks:List (aqO)} {vs:List Node},ks.length=vs.length->k∉ks->lk ks vs k=none
 | [],[],_,_=>rfl
 | a::t,v::w,h,hn=>by unfold lk;rw[if_neg (fun e=>hn (by rw[e];exact abd))];exact ada (by simpa using h) (fun hm=>hn (abb _ hm))
 | [],_::_,h,_=>by simp at h
 | _::_,[],h,_=>by simp at h
theorem atb{k:aqO}:∀{ks:List (aqO)} {vs:List Node} {v:Node},lk ks vs k=some v->k∈ks
 | a::t,x::w,v,h=>by
  unfold lk at h;split at h
  ·rename_i e;rw[e];exact abd
  ·exact abb _ (atb h)
 | [],_,_,h=>by cases h
 | _::_,[],_,h=>by cases h
theorem ajQ{k:aqO}(g:aqO->Node):∀(ks:List (aqO)),k∈ks->lk ks (ks.map g) k=some (g k)
 | a::t,h=>by
  simp only[aeH,lk];by_cases e:k=a
  ·rw[if_pos e,e]
  ·rw[if_neg e];exact ajQ g t ((List.mem_cons.1 h).resolve_left e)
 | [],h=>by cases h
theorem atc{k:aqO}:∀(ks:List (aqO)) (vs:List Node) (ks':List (aqO)) (vs':List Node),ks.length=vs.length->lk (ks++ks') (vs++vs') k=(match lk ks vs k with | some v=>some v | none=>lk ks' vs' k)
 | [],[],_,_,_=>rfl
 | a::t,v::w,ks',vs',h=>by
  simp only[aeF,lk];by_cases e:k=a
  ·rw[if_pos e,if_pos e]
  ·rw[if_neg e,if_neg e];exact atc t w ks' vs' (by simpa using h)
 | [],_::_,_,_,h=>by simp at h
 | _::_,[],_,_,h=>by simp at h
theorem ajR(k:aqO)(v:Node)(k':aqO):∀(ks:List (aqO)) (vs:List Node),ks.length=vs.length->lk ks (nZ k v ks vs) k'=(if k'=k then(if k∈ks then some v else none)else lk ks vs k')
 | [],[],_=>by simp[lk]
 | a::t,x::w,h=>by have ih:=ajR k v k' t w (by simpa using h);simp only[nZ,lk];grind
 | [],_::_,h=>by simp at h
 | _::_,[],h=>by simp at h
theorem jm{l:List (aqO)}{s:aqO}:eF l s=true↔s∈l:=by unfold eF;grind
theorem ajS{x:Node}{k:aqO}{v:Node}(hk:x.kind=0\/x.kind=3)(h:x.keys.length=x.kids.length)(k':aqO) :
  lk (aY x k v).keys (aY x k v).kids k'=(if k'=k then some v else lk x.keys x.kids k'):=by
 have hc:(bif x.kind != 0 then x.kind != 3 else false)=false:=by rcases hk with e | e<;>rw[e]<;>rfl
 unfold aY;rw[hc];simp only[cond_false];rw[atc _ _ _ _ (Ux k v x.keys x.kids h).symm,ajR k v k' x.keys x.kids h];by_cases hm:k∈x.keys
 ·rw[jm.2 hm];by_cases e:k'=k
  ·rw[if_pos e,if_pos hm,if_pos e]
  ·rw[if_neg e,if_neg e];simp only[BK,newV,cond_true];cases lk x.keys x.kids k'<;>rfl
 ·have hb:eF x.keys k=false:=by
   cases h2:eF x.keys k with
   | false=>rfl
   | true=>exact absurd (jm.1 h2) hm
  rw[hb];simp only[BK,newV,cond_false];by_cases e:k'=k
  ·rw[if_pos e,if_neg hm,if_pos e];simp[lk,e]
  ·rw[if_neg e,if_neg e];cases hl:lk x.keys x.kids k' with
   | some y=>rfl
   | none=>simp[lk,e]
theorem Rh(k:aqO)(v:Node):∀(ks:List (aqO)) (vs:List Node),ks.length=vs.length->k∉ks->nZ k v ks vs=vs
 | [],[],_,_=>rfl
 | a::t,x::w,h,hn=>by
  have hb:(a==k)=false:=by simpa using fun e:a=k=>hn (by rw[e];exact abd)
  simp only[nZ,hb,cond_false];rw[Rh k v t w (by simpa using h) (fun hm=>hn (abb _ hm))]
 | [],_::_,h,_=>by simp at h
 | _::_,[],h,_=>by simp at h
theorem adb(k:aqO):∀(ks:List (aqO)) (i:Nat),k∈ks->∃j:Nat,zM k i ks=((i+j:Nat):Int)
 | [],_,h=>by cases h
 | a::t,i,h=>by
  unfold zM;by_cases e:k=a
  ·rw[if_pos e];exact⟨0,by simp⟩
  ·rw[if_neg e];obtain⟨j,hj⟩:=adb k t (i+1) ((List.mem_cons.1 h).resolve_left e);exact⟨j+1,by rw[hj];congr 1;omega⟩
theorem anw(k:aqO):∀(ks:List (aqO)) (i:Nat),k∉ks->zM k i ks = -1
 | [],_,_=>rfl
 | a::t,i,h=>by unfold zM;rw[if_neg (fun e=>h (by rw[e];exact abd))];exact anw k t (i+1) (fun hm=>h (abb _ hm))
theorem axg(k:aqO)(v:Node):∀(ks:List (aqO)) (vs:List Node) (i:Nat),ks.length=vs.length->ks.Nodup->k∈ks->vs.set ((zM k i ks).toNat-i) v=nZ k v ks vs
 | [],_,_,_,_,h=>by cases h
 | a::t,x::w,i,hl,hn,hm=>by
  have hn':=List.nodup_cons.1 hn;unfold zM;by_cases e:k=a
  ·subst e;rw[if_pos rfl];simp only[nZ,beq_self_eq_true,cond_true,aaE,Nat.sub_self,List.set_cons_zero];rw[Rh k v t w (by simpa using hl) hn'.1]
  ·have hb:(a==k)=false:=by simpa using fun h:a=k=>e h.symm
   rw[if_neg e];have hm':=(List.mem_cons.1 hm).resolve_left e;obtain⟨j,hj⟩:=adb k t (i+1) hm';have ih:=axg k v t w (i+1) (by simpa using hl) hn'.2 hm';rw[hj,aaE]at ih;rw[hj,aaE];have e2:i+1+j-i=j+1:=by omega
   have e3:i+1+j-(i+1)=j:=by omega
   rw[e3]at ih;rw[e2,List.set_cons_succ,ih];simp only[nZ,hb,cond_false]
 | _::_,[],_,h,_,_=>by simp at h
theorem Zc{o:Node}{k:aqO}{v:Node}(hk:o.kind=0\/o.kind=3)(hl:o.keys.length=o.kids.length)(hn:o.keys.Nodup):bD o k v=aY o k v:=by
 have hc:(bif o.kind != 3 then o.kind != 0 else false)=false:=by rcases hk with e | e<;>rw[e]<;>rfl
 have hc':(bif o.kind != 0 then o.kind != 3 else false)=false:=by rcases hk with e | e<;>rw[e]<;>rfl
 unfold bD aY;rw[hc,hc',cond_false,cond_false];by_cases hm:k∈o.keys
 ·obtain⟨j,hj⟩:=adb k o.keys 0 hm;have h0:0<=index o.keys k:=by unfold index;rw[hj];omega
  have hs:=axg k v o.keys o.kids 0 hl hn hm;rw[amg]at hs;have hs:o.kids.set (index o.keys k).toNat v=nZ k v o.keys o.kids:=hs;rw[dT h0,cond_true,hs,jm.2 hm];simp[BK,newV]
 ·have h0:¬ 0<=index o.keys k:=by unfold index;rw[anw k o.keys 0 hm];decide
  have hb:eF o.keys k=false:=by
   cases h2:eF o.keys k with
   | false=>rfl
   | true=>exact absurd (jm.1 h2) hm
  rw[dF h0,cond_false,hb,Rh k v o.keys o.kids hl hm];simp[BK,newV]
theorem atd:Pl.bA []=[]:=Pl.xw List.Pairwise.nil fun _=>Iff.rfl
theorem LJ:∀(n:Nat) (x:Node),wg 10000 n x=true->kd n x=true->fP n x=aQ n x
 | 0,_,h,_=>by cases h
 | n+1,x,hw,hk=>by
  have w:=fE.1 hw;have k:=FT.1 hk;simp only[fP,aQ];by_cases h0:x.kids.length=0
  ·rw[iU (show(x.kids.length:Int)=0 by omega),cond_true];have aql:x.kids=[]:=aeg h0;by_cases h3:x.kind=3
   ·have hkeys:x.keys=[]:=aeg (by rw[w.2.2.1 h3];exact h0);rw[iU h3,cond_true,hkeys,atd,aib]
    conv=>lhs;rw[<- gB x,hkeys,aql]
   ·have hkeys:x.keys=[]:=aeg (k.1.2 h3);rw[eT h3,cond_false,aql,aib]
    conv=>lhs;rw[<- gB x,hkeys,aql]
  ·rw[eT (show(x.kids.length:Int)≠0 by omega),cond_false];by_cases h3:x.kind=3
   ·rw[nK h3,iU h3,cond_false,cond_true];congr 1;refine ajr fun q hq=>?_
    have hg:=TK hw h3 (Pl.jN.1 hq);exact LJ n _ (TM hw hg) (k.2.2 _ (xB hg))
   ·rw[kr h3,eT h3,cond_true,cond_false];congr 1;exact ajr fun y hy=>LJ n y (w.2.2.2 y hy) (k.2.2 y hy)
theorem aBz(c:UInt8):(!(Un (Int.ofNat c.toNat)))=K4 c true:=beq_iff_eq.1 (El (p:=fun n=>(!(Un (Int.ofNat n)))==(bif(bif kM (Int.ofNat n)==0 then true else decide (4<kM (Int.ofNat n)))then true else(bif true then kM (Int.ofNat n)==3 else false))) (by decide +kernel) c)
theorem aBA(c:UInt8):(!(Mw (Int.ofNat c.toNat)))=K4 c false:=beq_iff_eq.1 (El (p:=fun n=>(!(Mw (Int.ofNat n)))==(bif(bif kM (Int.ofNat n)==0 then true else decide (4<kM (Int.ofNat n)))then true else(bif false then kM (Int.ofNat n)==3 else false))) (by decide +kernel) c)
theorem alT(s:aqO):rU Un Mw s=cO K4 s:=as4 aBz aBA s
theorem aeM(s:aqO)(v:Bool):K3 v s=nI s v:=by
 cases v
 ·exact Bd s
 ·exact alT s
theorem aqm:∀s:aqO,Lib.indexByte s 61=if fi s<s.length then(fi s:Int)else -1
 | []=>rfl
 | c::t=>by
  unfold Lib.indexByte fi;have ih:=aqm t;by_cases h:c=61
  ·subst h;simp
  ·have h1:(c==61)=false:=by simpa using h
   have h2:((c.toNat:Int)!=61)=true:=by rw[bne_iff_ne];intro e;exact h (UInt8.toNat_inj.1 (by show c.toNat=61;omega))
   grind
theorem azd(s:aqO):lU s M9=s.take (fi s):=by
 have h:=aqm s;unfold lU pR;rw[show M9.headD 0=61 from rfl,h];by_cases hl:fi s<s.length
 ·grind
 ·rw[if_neg hl,dF (by omega),cond_false,aej (by omega)]
theorem aze(s:aqO):pU s M9=s.drop (fi s+1):=by
 have h:=aqm s;unfold pU pR;rw[show M9.headD 0=61 from rfl,h];by_cases hl:fi s<s.length
 ·grind
 ·rw[if_neg hl,dF (by omega),cond_false,aa9 (by omega)]
structure Iv (ψ:aqO->Prop) (φ:Node->Prop) (o:Node):Prop where
 kind:o.kind=0\/o.kind=3
 none_:o.kind=0->o.keys=[]
 text:o.text=[]
 len:o.keys.length=o.kids.length
 nd:o.keys.Nodup
 key:∀k∈o.keys,ψ k
 kid:∀y∈o.kids,φ y
section
variable {ψ:aqO->Prop} {φ:Node->Prop}
theorem Iv.nil:Iv ψ φ zn:=⟨.inl rfl,fun _=>rfl,rfl,rfl,anu,(fun k h=>by cases h),(fun y h=>by cases h)⟩
theorem Zd{o:Node}(hk:o.kind=0\/o.kind=3)(k:aqO)(v:Node):aY o k v=⟨3,[],o.keys++BK (eF o.keys k) k,nZ k v o.keys o.kids++newV (eF o.keys k) v⟩:=by
 have hc:(bif o.kind != 0 then o.kind != 3 else false)=false:=by rcases hk with e | e<;>rw[e]<;>rfl
 unfold aY;rw[hc];rfl
theorem Vf{l:List (aqO)}{k:aqO}(h:k∉l):eF l k=false:=by
 cases hb:eF l k with
 | false=>rfl
 | true=>exact absurd (jm.1 hb) h
theorem Es{o:Node}(hk:o.kind=0\/o.kind=3)(hl:o.keys.length=o.kids.length){k:aqO}(hn:k∉o.keys)(v:Node):aY o k v=⟨3,[],o.keys++[k],o.kids++[v]⟩:=by rw[Zd hk,Vf hn,Rh k v o.keys o.kids hl hn];rfl
theorem Iv.put{o:Node}(h:Iv ψ φ o){k:aqO}{v:Node}(hk:ψ k)(hv:φ v):Iv ψ φ (aY o k v):=by
 obtain⟨h1,h2,h3,h4⟩:=MG (k:=k) (v:=v) h.kind h.len;have e:=Zd h.kind k v;have ek:(aY o k v).keys=o.keys++BK (eF o.keys k) k:=by rw[e]
 refine⟨.inr h1,(fun e=>by rw[h1]at e;cases e),(by rw[e]),h2,?_,?_,?_⟩
 ·rw[ek];by_cases hm:k∈o.keys
  ·rw[jm.2 hm];simpa[BK]using h.nd
  ·rw[Vf hm];show(o.keys++[k]).Nodup;rw[List.nodup_append];exact⟨h.nd,by simp,fun a ha b hb=>by rw[List.mem_singleton.1 hb];intro e;exact hm (e▸ha)⟩
 ·rw[ek];intro q hq;rcases List.mem_append.1 hq with hq | hq
  ·exact h.key q hq
  ·cases hb:eF o.keys k with
   | true=>rw[hb]at hq;cases hq
   | false=>rw[hb]at hq;rw[List.mem_singleton.1 hq];exact hk
 ·intro y hy;rcases h4 y hy with rfl | hy
  ·exact hv
  ·exact h.kid y hy
theorem oJ{k:aqO}:∀{ks:List (aqO)} {vs:List Node},ks.length=vs.length->(lk ks vs k).isSome=eF ks k
 | [],[],_=>rfl
 | a::t,x::w,h=>by
  unfold lk;by_cases e:k=a
  ·subst e;rw[if_pos rfl];simp[eF]
  ·have:(a==k)=false:=by simpa using fun h:a=k=>e h.symm
   rw[if_neg e,oJ (by simpa using h)];simp[eF,this]
 | [],_::_,h=>by simp at h
 | _::_,[],h=>by simp at h
theorem Iv.there{o:Node}(h:Iv ψ φ o)(k:aqO):aD o k=eF o.keys k:=by
 unfold aD get;rcases h.kind with e | e
 ·rw[if_neg (by rw[e];decide),h.none_ e];rfl
 ·rw[if_pos e];exact oJ h.len
theorem Iv.with_{o:Node}(h:Iv ψ φ o)(k:aqO)(v:Node):bD o k v=aY o k v:=Zc h.kind h.len h.nd
theorem ade(f:aqO->Bool):∀(l:List (aqO)) (o:Node),(Xm f l o true).2=true
 | [],_=>rfl
 | _::t,_=>ade f t _
theorem adf(f:aqO->Bool):∀(l:List (aqO)) (r:List Node) (o:Node),(RL f l r o true).2=true
 | [],_,_=>rfl
 | _::_,[],_=>rfl
 | _::t,_::r,_=>adf f t r _
theorem ate{f g:aqO->Bool}(hfg:∀s,f s=g s)(hψ:∀k,g k=true->ψ k):∀(l:List (aqO)) (o:Node),(∀s∈l,φ (bI (s.drop (fi s+1))))->Iv ψ φ o ->
  (U7 g l o=none/\(Xm f l o false).2=true)\/∃o',U7 g l o=some o'/\Xm f l o false=(o',false)/\Iv ψ φ o'
 | [],o,_,h=>.inr ⟨o,rfl,rfl,h⟩
 | s::t,o,hφ,h=>by
  unfold U7 Xm;rw[azd,aze,hfg,h.there,h.with_,cond_false];generalize s.take (fi s)=k;cases hg:g k with
  | false =>
   refine .inl ⟨rfl,?_⟩;have:(bif eF o.keys k then true else !false)=true:=by cases eF o.keys k<;>rfl
   rw[this];exact ade f t _
  | true =>
   cases hi:eF o.keys k with
   | true=>exact .inl ⟨rfl,ade f t _⟩
   | false=>exact ate hfg hψ t _ (fun q hq=>hφ q (abb _ hq)) (h.put (hψ k hg) (hφ s abd))
theorem atf{f g:aqO->Bool}(hfg:∀s,f s=g s)(hψ:∀k,g k=true->ψ k):∀(l:List (aqO)) (r:List Node) (o:Node),(∀y∈r,φ (bI y.text))->Iv ψ φ o ->
  (FP g l r o=none/\(RL f l r o false).2=true)\/∃o',FP g l r o=some o'/\RL f l r o false=(o',false)/\Iv ψ φ o'
 | [],_,o,_,h=>.inr ⟨o,by unfold FP;rfl,by unfold RL;rfl,h⟩
 | _::_,[],o,_,h=>.inr ⟨o,by unfold FP;rfl,by unfold RL;rfl,h⟩
 | s::t,y::r,o,hφ,h=>by
  unfold FP RL;rw[hfg,h.with_,cond_false];cases hg:g s with
  | false =>
   refine .inl ⟨rfl,?_⟩;have:(bif decide ((1:Int)<y.kind)then true else !false)=true:=by cases decide ((1:Int)<y.kind)<;>rfl
   rw[this];exact adf f t r _
  | true =>
   cases hi:decide ((1:Int)<y.kind)with
   | true=>exact .inl ⟨rfl,adf f t r _⟩
   | false=>exact atf hfg hψ t r _ (fun q hq=>hφ q (abb _ hq)) (h.put (hψ s hg) (hφ y abd))
theorem ajT{g:aqO->Bool}:∀(ks:List (aqO)) (vs:List Node) (o o':Node),ks.length=vs.length->ks.Nodup->(∀k∈ks,k∉o.keys)->(o.kind=0\/o.kind=3)->o.keys.length=o.kids.length ->
  FP g ks vs o=some o'->o'.keys=o.keys++ks
 | [],[],o,o',_,_,_,_,_,h=>by unfold FP at h;cases h;simp
 | s::t,y::r,o,o',hl,hn,hd,hk,hlen,h=>by
  unfold FP at h;have hn':=List.nodup_cons.1 hn;cases hb:(bif !(g s)then true else decide ((1:Int)<y.kind))with
  | true=>rw[hb]at h;cases h
  | false =>
   rw[hb,cond_false,Es hk hlen (hd s abd)]at h;have:=ajT t r _ o' (by simpa using hl) hn'.2 (fun k hm hq=>by
    rcases List.mem_append.1 hq with hq | hq
    ·exact hd k (abb _ hm) hq
    ·rw[List.mem_singleton.1 hq]at hm;exact hn'.1 hm) (.inr rfl) (by simp[hlen]) h
   rw[this];simp
 | [],_::_,_,_,h,_,_,_,_,_=>by simp at h
 | _::_,[],_,_,h,_,_,_,_,_=>by simp at h
theorem anx{g:aqO->Bool}:∀(ks:List (aqO)) (vs:List Node) (o:Node),ks.length=vs.length->ks.Nodup->(∀k∈ks,k∉o.keys)->(o.kind=0\/o.kind=3)->o.keys.length=o.kids.length->o.text=[] ->
  (∀k∈ks,g k=true)->(∀y∈vs,y=bI y.text)->∃o',FP g ks vs o=some o'/\o'.text=[]/\o'.keys=o.keys++ks/\o'.kids=o.kids++vs
 | [],[],o,_,_,_,_,_,ht,_,_=>⟨o,by unfold FP;rfl,ht,by simp,by simp⟩
 | s::t,y::r,o,hl,hn,hd,hk,hlen,ht,hg,hv=>by
  have hn':=List.nodup_cons.1 hn;have hy:=hv y abd;have hk1:¬ (1:Int)<y.kind:=by rw[hy];show ¬ (1:Int)<1;decide
  unfold FP;rw[hg s abd,dF hk1,Es hk hlen (hd s abd),<- hy];obtain⟨o',h1,h2,h3,h4⟩:=anx (g:=g) t r ⟨3,[],o.keys++[s],o.kids++[y]⟩ (by simpa using hl) hn'.2 (fun k hm hq=>by
    rcases List.mem_append.1 hq with hq | hq
    ·exact hd k (abb _ hm) hq
    ·rw[List.mem_singleton.1 hq]at hm;exact hn'.1 hm) (.inr rfl) (by simp[hlen]) rfl (fun k hm=>hg k (abb _ hm)) (fun z hz=>hv z (abb _ hz))
  grind
 | [],_::_,_,h,_,_,_,_,_,_,_=>by simp at h
 | _::_,[],_,h,_,_,_,_,_,_,_=>by simp at h
theorem Iv.leafs{o:Node}(h:Iv ψ φ o)(hφ:∀y,φ y->wg 10000 11 y=true/\kd 11 y=true)(h32:o.keys.length<=32):wg 10000 12 (iG o)=true/\kd 12 (iG o)=true :=
  ⟨fE.2 ⟨by show o.keys.length<=10000;omega,by have:=h.len;show o.kids.length<=10000;omega,fun _=>h.len,fun y hy=>(hφ y (h.kid y hy)).1⟩,
   FT.2 ⟨⟨⟨show(0:Int)<=3 by decide,show(3:Int)<=3 by decide⟩,fun e=>absurd rfl e⟩,fun e=>absurd (show(3:Int)<2 from e) (by decide),fun y hy=>(hφ y (h.kid y hy)).2⟩⟩
theorem Iv.dn{o:Node}(h:Iv ψ φ o)(hφ:∀y,φ y->wg 10000 11 y=true/\kd 11 y=true):DY o false=eP o true/\DZ o false=(bif eO o true then 0 else 10):=by
 unfold DY DZ eP eO aaN;simp only[cond_false,adr];by_cases h32:(32:Int)<(o.keys.length:Int)
 ·rw[dT h32];exact⟨rfl,rfl⟩
 ·obtain⟨hw,hk⟩:=h.leafs hφ (by omega);rw[dF h32];have e:∀m:Nat,m=12+988->fP m (iG o)=aQ 12 (iG o):=fun m hm=>by rw[hm,sort_k 12 988 _ hw,LJ 12 _ hw hk]
  simp only[cond_false,aec,cond_true];exact⟨e 1000 (by omega),trivial⟩
structure Sf (ψ:aqO->Prop) (φ:Node->Prop) (a:Node):Prop where
 kind:a.kind=3
 text:a.text=[]
 ss:Pl.SS a.keys
 len:a.keys.length=a.kids.length
 le:a.keys.length<=32
 key:∀k∈a.keys,ψ k
 kid:∀y∈a.kids,φ y
theorem oK{l:List (aqO)}(h:Pl.SS l):l.Nodup:=List.Pairwise.imp (fun {a b} (h:a<b) (e:a=b)=>Pl.xu b (e▸h)) h
theorem Iv.form{o:Node}(h:Iv ψ φ o)(hs:∀y,φ y->aQ 11 y=y)(h32:o.keys.length<=32):Sf ψ φ (aQ 12 (iG o)):=by
 have e:aQ 12 (iG o)=⟨3,o.text,Pl.bA o.keys,(Pl.bA o.keys).map fun k=>aQ 11 (aJ (iG o) k)⟩:=rfl;rw[e];refine⟨rfl,h.text,(Pl.EP o.keys).1,by simp,Nat.le_trans (Pl.tZ _) h32,fun k hk=>h.key k (Pl.jN.1 hk),fun y hy=>?_⟩;obtain⟨k,hk,rfl⟩:=List.mem_map.1 hy;have hg:aD (iG o) k=true:=by show(get (iG o) k).isSome=true;have:get (iG o) k=lk o.keys o.kids k:=if_pos rfl;rw[this,oJ h.len];exact jm.2 (Pl.jN.1 hk)
 have:=h.kid _ (xB (a:=iG o) hg);rw[hs _ this];exact this
theorem Pg:∀(ks:List (aqO)) (vs:List Node),ks.length=vs.length->ks.Nodup->ks.map (fun k=>(lk ks vs k).getD zn)=vs
 | [],[],_,_=>rfl
 | a::t,x::w,h,hn=>by
  have hn':=List.nodup_cons.1 hn;rw[aeH];congr 1
  ·unfold lk;rw[if_pos rfl];rfl
  ·rw[<- Pg t w (by simpa using h) hn'.2];refine ajr fun k hk=>?_
   have:k≠a:=fun e=>hn'.1 (e▸hk)
   rw[Pg t w (by simpa using h) hn'.2]
   conv=>lhs;unfold lk
   rw[if_neg this]
 | [],_::_,h,_=>by simp at h
 | _::_,[],h,_=>by simp at h
theorem Sf.sorted{a:Node}(h:Sf ψ φ a)(hs:∀y,φ y->aQ 11 y=y):aQ 12 a=a:=by
 have hk:Pl.bA a.keys=a.keys:=Pl.xw h.ss fun _=>Iff.rfl
 have e:aQ 12 a=⟨a.kind,a.text,Pl.bA a.keys,(Pl.bA a.keys).map fun k=>aQ 11 (aJ a k)⟩:=by show(bif a.kind==3 then _ else _)=_;rw[iU h.kind];rfl
 rw[e,hk];have e2:(a.keys.map fun k=>aQ 11 (aJ a k))=a.keys.map fun k=>(lk a.keys a.kids k).getD zn:=by
  refine ajr fun k hk=>?_
  have hg:aD a k=true:=by show(get a k).isSome=true;rw[show get a k=lk a.keys a.kids k from if_pos h.kind,oJ h.len];exact jm.2 hk
  rw[hs _ (h.kid _ (xB hg))];show(get a k).getD zn=_;rw[show get a k=lk a.keys a.kids k from if_pos h.kind]
 rw[e2,Pg _ _ h.len (oK h.ss)];exact gB a
theorem Sf.wg_{a:Node}(h:Sf ψ φ a)(hφ:∀y,φ y->wg 10000 11 y=true/\kd 11 y=true):wg 10000 12 a=true :=
 fE.2 ⟨by have:=h.le;omega,by have:=h.le;have:=h.len;omega,fun _=>h.len,fun y hy=>(hφ y (h.kid y hy)).1⟩
theorem IZ{a o':Node}(h:Sf ψ φ a)(hs:∀y,φ y->aQ 11 y=y)(h1:o'.text=[])(h2:o'.keys=a.keys)(h3:o'.kids=a.kids):eP o' true=a/\eO o' true=true:=by
 have hm:iG o'=a:=by show(⟨3,o'.text,o'.keys,o'.kids⟩:Node)=a;rw[h1,h2,h3,<- h.text,<- h.kind];exact gB a
 have hb:eO o' true=true:=by unfold eO;rw[h2,adr,cond_false,dF (show ¬ (32:Int)<(a.keys.length:Int) by have:=h.le;omega)];rfl
 unfold eP;rw[hb,hm,h.sorted hs];exact⟨rfl,rfl⟩
end
def DT(y:Node):Prop:=y=bI y.text/\y.text.length<=200
theorem anz{s:aqO}(h:s.length<=200):DT (bI s):=⟨rfl,h⟩
theorem adg(y:Node)(h:DT y):wg 10000 11 y=true/\kd 11 y=true:=by rw[h.1];exact⟨oI _ 10,by simp[kd,bI]⟩
theorem LK(y:Node)(h:DT y):aQ 11 y=y:=by rw[h.1];rfl
theorem ajU{B:Nat}:∀(l:List Node) (t:List (aqO)),lq l=some t->(∀y∈l,y.text.length<=B)->∀s∈t,s.length<=B
 | [],t,h,_,s,hs=>by cases h;cases hs
 | x::r,t,h,hb,s,hs=>by
  unfold lq at h;cases hk:x.kind != 1 with
  | true=>rw[hk]at h;cases h
  | false =>
   rw[hk,cond_false]at h;cases hr:lq r with
   | none=>rw[hr]at h;cases h
   | some q =>
    rw[hr]at h;cases h;rcases List.mem_cons.1 hs with rfl | hs
    ·exact hb x abd
    ·exact ajU r q hr (fun y hy=>hb y (abb _ hy)) s hs
theorem Ze{B:Nat}{n:Node}(h:∀y∈n.kids,y.text.length<=B):∀s∈bH n,s.length<=B:=by
 unfold bH;cases ht:lq n.kids with
 | none=>intro s hs;cases hs
 | some t=>exact ajU _ _ ht h
theorem abo(o:Node):DY o true=zn/\DZ o true=10:=⟨rfl,rfl⟩
def Gn(n:Node):Prop:=(n.kind=3->n.keys.length=n.kids.length/\n.keys.Nodup)/\∀y∈n.kids,y.text.length<=200
theorem Zf{n:Node}(hn:Gn n)(v:Bool):(Jj n v=qI n v/\Jk n v=(bif zf n v then 0 else 10))/\(zf n v=true->Sf (fun k=>nI k v=true) DT (qI n v)):=by
 have fin:∀(p:Node×Bool) (q:Option Node),((p.2=true/\oV q=zn/\oB q=false)\/∃o',q=some o'/\p=(o',false)/\Iv (fun k=>nI k v=true) DT o') ->
   (DY p.1 p.2=oV q/\DZ p.1 p.2=(bif oB q then 0 else 10))/\(oB q=true->Sf (fun k=>nI k v=true) DT (oV q)):=by
  rintro p q (⟨hb,h1,h2⟩ | ⟨o',rfl,rfl,hi⟩)
  ·rw[hb,h1,h2];exact⟨abo _,fun h=>by cases h⟩
  ·refine⟨hi.dn adg,fun hb=>?_⟩;have hb:eO o' true=true:=hb;have h32:o'.keys.length<=32:=by
    unfold eO at hb;grind
   have e:oV (some o')=aQ 12 (iG o'):=by show eP o' true=_;unfold eP;rw[hb];rfl
   rw[e];exact hi.form LK h32
 unfold Jj Jk qI zf;refine fin (Uo n v) (rpP n v) ?_;unfold Uo rpP;rw[Kh];cases ht:pY n with
 | true =>
  simp only[cond_true];rw[Bg ht];rcases ate (ψ:=fun k=>nI k v=true) (φ:=DT) (f:=K3 v) (g:=fun s=>nI s v) (fun s=>aeM s v) (fun k h=>h) (bH n) zn (fun s hs=>anz (by rw[adH];have:=Ze hn.2 s hs;omega)) Iv.nil with⟨h1,h2⟩ | h
  ·rw[h1];exact .inl ⟨h2,rfl,rfl⟩
  ·exact .inr h
 | false =>
  simp only[cond_false];unfold qH;by_cases h3:n.kind=3
  ·obtain⟨hl,hnd⟩:=hn.1 h3;rw[iU h3,nK h3,cond_true,cond_false];by_cases hm:(n.kids.length:Int)<=32
   ·rw[dT hm,cond_true];rcases atf (ψ:=fun k=>nI k v=true) (φ:=DT) (f:=K3 v) (g:=fun s=>nI s v) (fun s=>aeM s v) (fun k h=>h) n.keys n.kids zn (fun y hy=>anz (hn.2 y hy)) Iv.nil with⟨h1,h2⟩ | h
    ·rw[h1];exact .inl ⟨h2,rfl,rfl⟩
    ·exact .inr h
   ·rw[dF hm,cond_false];cases hr:FP (fun s=>nI s v) n.keys n.kids zn with
    | none=>exact .inl ⟨rfl,rfl,rfl⟩
    | some o' =>
     have hk:=ajT n.keys n.kids zn o' hl hnd (fun k _ h=>by cases h) (.inl rfl) rfl hr;have hb:eO o' true=false:=by unfold eO;grind
     refine .inl ⟨rfl,?_,hb⟩;show eP o' true=zn;unfold eP;rw[hb];rfl
  ·rw[eT h3,kr h3];exact .inl ⟨rfl,rfl,rfl⟩
theorem aqn{a:Node}{v:Bool}(h:Sf (fun k=>nI k v=true) DT a):qI a v=a/\zf a v=true:=by
 have ht:DK a=false:=by unfold DK GH;rw[h.kind];rfl
 unfold qI zf rpP;rw[ht,cond_false,nK h.kind,cond_false];obtain⟨o',h1,h2,h3,h4⟩:=anx (g:=fun s=>nI s v) a.keys a.kids zn h.len (oK h.ss) (fun k _ h=>by cases h) (.inl rfl) rfl rfl h.key (fun y hy=>(h.kid y hy).1);rw[h1];exact IZ h LK h2 (by rw[h3];rfl) (by rw[h4];rfl)
def Ri(y:Node):Prop:=y=zn
theorem anA(y:Node)(h:Ri y):wg 10000 11 y=true/\kd 11 y=true:=by rw[h];exact⟨by simp[wg,zn],by simp[kd,zn]⟩
theorem abp(y:Node)(h:Ri y):aQ 11 y=y:=by rw[h];rfl
theorem ajV(g:aqO->Bool)(l:List (aqO))(o:Node):(Lu g l false o).2=false:=by cases l<;>rfl
section
variable {ψ:aqO->Prop}
theorem atg{f g:aqO->Bool}(hfg:∀s,f s=g s)(hψ:∀k,g k=true->ψ k):∀(l:List (aqO)) (o:Node),Iv ψ Ri o ->
  (l.any (fun s=>!(f s))=true/\(Lu g l true o).2=false)\/(l.any (fun s=>!(f s))=false/\Lu g l true o=(IG (fun _=>zn) l o,true)/\Iv ψ Ri (IG (fun _=>zn) l o))
 | [],o,h=>.inr ⟨rfl,rfl,h⟩
 | s::t,o,h=>by
  unfold Lu IG;rw[al6,hfg,h.with_,cond_true];cases hg:g s with
  | false=>exact .inl ⟨rfl,ajV g t _⟩
  | true =>rw[adr,ajH];exact atg hfg hψ t _ (h.put (hψ s hg) rfl)
theorem anB{g:aqO->Bool}:∀(ks:List (aqO)) (o:Node),ks.Nodup->(∀k∈ks,k∉o.keys)->(o.kind=0\/o.kind=3)->o.keys.length=o.kids.length->o.text=[] ->
  (∀k∈ks,g k=true)->∃o',Lu g ks true o=(o',true)/\o'.text=[]/\o'.keys=o.keys++ks/\o'.kids=o.kids++ks.map fun _=>zn
 | [],o,_,_,_,_,ht,_=>⟨o,rfl,ht,by simp,by simp⟩
 | s::t,o,hn,hd,hk,hlen,ht,hg=>by
  have hn':=List.nodup_cons.1 hn;unfold Lu;rw[hg s abd,cond_true,Es hk hlen (hd s abd)];obtain⟨o',h1,h2,h3,h4⟩:=anB (g:=g) t ⟨3,[],o.keys++[s],o.kids++[zn]⟩ hn'.2 (fun k hm hq=>by
    rcases List.mem_append.1 hq with hq | hq
    ·exact hd k (abb _ hm) hq
    ·rw[List.mem_singleton.1 hq]at hm;exact hn'.1 hm) (.inr rfl) (by simp[hlen]) rfl (fun k hm=>hg k (abb _ hm))
  grind
end
theorem ajW{n:Node}(hn:Gn n):(M7 n=qz n/\M8 n=(bif Bf n then 0 else 10))/\(Bf n=true->Sf (fun k=>cO gJ k=true) Ri (qz n)):=by
 have fin:∀(o:Node) (b:Bool) (q:Node×Bool),((b=true/\q.2=false)\/(b=false/\q=(o,true)/\Iv (fun k=>cO gJ k=true) Ri o)) ->
   (DY o b=eP q.1 q.2/\DZ o b=(bif eO q.1 q.2 then 0 else 10))/\(eO q.1 q.2=true->Sf (fun k=>cO gJ k=true) Ri (eP q.1 q.2)):=by
  rintro o b q (⟨rfl,hb⟩ | ⟨rfl,rfl,hi⟩)
  ·rw[hb];exact⟨abo _,fun h=>by cases h⟩
  ·refine⟨hi.dn anA,fun hb=>?_⟩;have hb:eO o true=true:=hb;have h32:o.keys.length<=32:=by
    unfold eO at hb;grind
   have e:eP o true=aQ 12 (iG o):=by unfold eP;rw[hb];rfl
   show Sf _ _ (eP o true);rw[e];exact hi.form abp h32
 have hm:qH n 3=BA n:=by
  unfold qH BA;by_cases h3:n.kind=3
  ·rw[(hn.1 h3).1]
  ·rw[eT h3];rfl
 have step:=fun(l:List (aqO))=>atg (ψ:=fun k=>cO gJ k=true) (f:=rU Bj yx) (g:=cO gJ) Bd (fun k h=>h) l zn Iv.nil
 unfold M7 M8 qz Bf;refine fin (YI n) (YH n) (XJ n) ?_;unfold YI YH qO set0 XJ;rw[hm];cases hr:BA n with
 | true =>
  simp only[cond_true];cases hb:n.kids.any zY with
  | true=>exact .inl ⟨rfl,ajV _ _ _⟩
  | false =>grind
 | false =>
  simp only[cond_false];rw[Kh];cases ht:pY n with
  | false=>exact .inl ⟨rfl,ajV _ _ _⟩
  | true =>rw[adr,ajH,Bg ht];exact step (bH n)
theorem set_self{a:Node}(h:Sf (fun k=>cO gJ k=true) Ri a):qz a=a/\Bf a=true:=by
 have hr:BA a=true:=by unfold BA;rw[iU h.kind,cond_true,dT (by have:=h.le;omega)]
 have hb:a.kids.any zY=false:=by rw[List.any_eq_false];intro y hy;rw[show y=zn from h.kid y hy];decide
 obtain⟨o',h1,h2,h3,h4⟩:=anB (g:=cO gJ) a.keys zn (oK h.ss) (fun k _ h=>by cases h) (.inl rfl) rfl rfl h.key;unfold qz Bf XJ;rw[hr,hb,cond_true,aec,h1];refine IZ h abp h2 (by rw[h3];rfl) ?_;rw[h4,show zn.kids=[]from rfl,aei];refine List.ext_getElem (by simp[h.len]) fun i h1 h2=>?_
 rw[List.getElem_map];exact(h.kid _ (aee h2)).symm
theorem ML:∀(m l:List (aqO)),m.Nodup->(∀x∈m,x∈l)->m.length<=l.length
 | [],_,_,_=>aaG _
 | a::t,l,hn,hs=>by
  have hn':=List.nodup_cons.1 hn;have ha:=hs a abd;have:=ML t (l.erase a) hn'.2 fun x hx=>(List.mem_erase_of_ne (fun e=>by subst e;exact hn'.1 hx)).2 (hs x (abb _ hx))
  grind
theorem axh:∀(l m:List (aqO)),m.Nodup->(∀x,x∈m↔x∈l)->m.length=l.length->l.Nodup
 | [],_,_,_,_=>anu
 | a::t,m,hn,hm,hl=>by
  have hat:a∉t:=fun ha=>by
   have:=ML m t hn fun x hx=>by grind
   simp only[List.length_cons]at hl;omega
  have ham:a∈m:=(hm a).2 abd;refine List.nodup_cons.2 ⟨hat,axh t (m.erase a) (hn.erase a) (fun x=>?_) (by rw[List.length_erase_of_mem ham,hl];rfl)⟩;grind
theorem afG{l:List (aqO)}(h:(Pl.bA l).length=l.length):l.Nodup :=
 axh l (Pl.bA l) (oK (Pl.EP l).1) (fun _=>Pl.jN) h
theorem avS{f:UInt8->Bool->Bool}{s:aqO}(h:cO f s=true):s.length<=24:=by unfold cO at h;grind
theorem azf{s:aqO}{v:Bool}(h:nI s v=true):s.length<=24:=by unfold nI at h;cases v<;>exact avS h
theorem Ph:wg 10000 12 zn=true:=agp 11
theorem Pj{a:Node}(h:wg 10000 12 a=true):Oo 12 a a=true:=by simp only[Oo,ape (by decide) h,adM]
end
end Go.Proofs.YtclnniijooeajaaGreatDoor.Rf
