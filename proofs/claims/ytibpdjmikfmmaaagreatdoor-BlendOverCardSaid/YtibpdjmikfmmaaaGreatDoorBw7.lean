/- Part 7 of a proof: the texts X28 X29 X30 X31 Y2 Y3 Y4 Y5 Y6 Q1 Q2 Y7 Q3 Y8 Y9 Y10, one behind the other. -/
import Derived.Test.YtibpdjmikfmmaaaGreatDoorBw1
import Derived.Test.YtibpdjmikfmmaaaGreatDoorBw6
import Derived.Test.YtibpdjmikfmmaaaGreatDoorBw5
import Derived.Lib.SplitLaws
noncomputable section
namespace Go.Proofs.YtibpdjmikfmmaaaGreatDoor.Rf
open Go Go.RowKit Go.Sort Go.Proofs.YtibpdjmikfmmaaaGreatDoor.bB
def MN(l:List (anY)):anY:=Lib.join (l.filter fun s=>!(s==[])) [46]
theorem TK(l:List (anY))(hl:l.length<=1000000):(zq l).isSome=true->gv (zq l)=MN l:=by
 refine part rfl (fun r=>r=MN l) (fun | .e y=>y=l | .h0 v0 v1 v2 v3=>v1=l/\v2=(l.length:Int)/\0<=v3/\v3<=v2/\v0++((l.drop v3.toNat).filter fun s=>!(s==[]))=l.filter fun s=>!(s==[])) rfl ?_;rintro(y | ⟨v0,v1,v2,v3⟩) hs'
 ·cases hs';simp only[dR,uP];exact⟨trivial,trivial,by decide,by omega,rfl⟩
 ·obtain⟨rfl,rfl,h1,h2,h3⟩:=hs';simp only[dR,uP];have e1:=@bX (v3+1);by_cases hi:v3<(v1.length:Int)
  ·rw[fB v1 Df.d h1 hi,List.filter_cons]at h3;generalize v1.getD v3.toNat Df.d=s at h3 ⊢
   (repeat' (first|intro _|apply And.intro))<;>grind[ab9,afL]
  ·rw[iE v1 (by omega),List.filter_nil,acg]at h3
   (repeat' (first|intro _|apply And.intro))<;>grind[MN]
def jw:anY:=[115,101,114,118,105,99,101,115]
def KQ:List (anY)->List An->An->An×anY×Int
 | k::ks,v::vs,o=>bif !(oG Bh yx k)then(zn,MN [jw,k],10)else bif(CZ v).2.2 != 0 then(zn,MN [jw,k,(CZ v).2.1],(CZ v).2.2)else bif(CZ v).1.kind != 0 then KQ ks vs (aY o k (CZ v).1)else KQ ks vs o
 | _,_,o=>(dS 1000 o,[],0)
def MO(n:An):An×anY×Int:=bif n.kind==0 then(⟨3,[],[],[]⟩,[],0)else bif n.kind != 3 then(zn,[],10)else KQ n.keys n.kids ⟨3,[],[],[]⟩
def SE(n:An):An×anY×Int:=bif n.kind != 3 then(zn,jw,10)else bif(bif(MO n).2.2==0 then decide ((16:Int)<((MO n).1.keys.length:Int))else false)then(zn,jw,9)else MO n
structure Fs (v:An):Prop where
 keys:v.keys.length<=100000
 kids:v.kind=3->v.keys.length=v.kids.length
 fz:∀y∈v.kids,Fz y
set_option maxHeartbeats 1000000 in
theorem X0(n:An)(hk:n.keys.length<=100000)(h3:n.kind=3->n.keys.length=n.kids.length)(hs:∀s∈n.keys,s.length<=100000)(hy:∀y∈n.kids,Fs y):(lC n).isSome=true->gv (lC n)=SE n:=by
 have h:(jI n).isSome=true->gv (jI n)=MO n:=by
  refine part rfl (fun r=>r=MO n) (fun | .e y=>y=n | .h0 v0 v1 v2 v3 _ _ v6=>v3=n/\n.kind=3/\v0=n.keys/\v1=(n.keys.length:Int)/\0<=v2/\v2<=v1/\KQ (n.keys.drop v2.toNat) (n.kids.drop v2.toNat) v6=MO n) rfl ?_;rintro(y | ⟨v0,v1,v2,v3,v4,v5,o⟩) hs'
  ·cases hs';simp only[dR,gG]
   (repeat' (first|intro _|apply And.intro))<;>grind[MO,acC,rX]
  ·obtain⟨rfl,h0,rfl,rfl,h1,h2,h4⟩:=hs';have hkk:=h3 h0;simp only[aK,aW,gG,aQ];simp only[dR];have e1:=@bX (v2+1);by_cases hi:v2<(v3.keys.length:Int)
   ·rw[fB v3.keys Df.d h1 hi,fB v3.kids Df.d h1 (by omega),KQ]at h4;have h5:=rG hs v2.toNat;have h6:=Mv hy (i:=v2) h1 (by omega);generalize v3.keys.getD v2.toNat Df.d=k at h4 h5 ⊢;generalize v3.kids.getD v2.toNat Df.d=v at h4 h6 ⊢;have h7:=aaj v h6.keys h6.kids h6.fz;have h8:=pJ k (by omega);have h9:=TK [[115,101,114,118,105,99,101,115],k] (by simp);have h10:=fun p=>TK [[115,101,114,118,105,99,101,115],k,p] (by simp)
    have ek:jw=[115,101,114,118,105,99,101,115]:=rfl;rw[h8]
    (repeat' (first|intro _|apply And.intro))<;>grind[dO,rX]
   ·rw[iE v3.keys (by omega),KQ]at h4
    ·(repeat' (first|intro _|apply And.intro))<;>grind
    ·intro a b c d e;cases e
 refine gZ rfl ?_;have ek:jw=[115,101,114,118,105,99,101,115]:=rfl;simp only[dR,wM]
 (repeat' (first|intro _|apply And.intro))<;>grind[SE,rX]
def Kv:anY:=[110,97,109,101]
def DX(k:anY)(v:An):An×anY×Int :=
 bif k==jw then SE v else bif k==Kv then(bif(bif v.kind != 1 then true else !(oG p1B VE v.text))then(zn,k,10)else(v,[],0))else(G5 v,k,G6 v)
def YR(k:anY):Bool:=(bif(bif(bif(!(k==Kv))then(!(k==jw))else false)then(!(k==O8))else false)then(!(k==O7))else false)
def DY:List (anY)->List An->An->An×anY×Int
 | k::ks,v::vs,o=>bif ML k then DY ks vs o else bif YR k then(zn,k,10)else bif v.kind==0 then DY ks vs o else bif(DX k v).2.2 != 0 then(zn,(DX k v).2.1,(DX k v).2.2)else bif(DX k v).1.kind != 0 then DY ks vs (aY o k (DX k v).1)else DY ks vs o
 | _,_,o=>(dS 1000 o,[],0)
def Bu(n:An):An×anY×Int:=bif n.kind==0 then(⟨3,[],[],[]⟩,[],0)else bif n.kind != 3 then(zn,[],10)else DY n.keys n.kids ⟨3,[],[],[]⟩
def flP(n:An):An×anY×Int:=bif(bif(Bu n).2.2==0 then !(lg (Bu n).1)else false)then(zn,[],9)else Bu n
structure Fp (v:An):Prop where
 ser:(lC v).isSome=true->gv (lC v)=SE v
 set:(nR v).isSome=true->gv (nR v)=(G5 v,G6 v)
 text:v.text.length<=100000
set_option maxHeartbeats 2000000 in
theorem agM(n:An)(hk:n.keys.length<=100000)(h3:n.kind=3->n.keys.length=n.kids.length)(hy:∀y∈n.kids,Fp y)(hd:dp 13 (Bu n).1=true):(kN n).isSome=true->gv (kN n)=flP n:=by
 have h:(jv n).isSome=true->gv (jv n)=Bu n:=by
  refine part rfl (fun r=>r=Bu n) (fun | .e y=>y=n | .h0 v0 v1 v2 v3 _ _ v6=>v3=n/\n.kind=3/\v0=n.keys/\v1=(n.keys.length:Int)/\0<=v2/\v2<=v1/\DY (n.keys.drop v2.toNat) (n.kids.drop v2.toNat) v6=Bu n) rfl ?_;rintro(y | ⟨v0,v1,v2,v3,v4,v5,o⟩) hs'
  ·cases hs';simp only[dR,iG]
   (repeat' (first|intro _|apply And.intro))<;>grind[Bu,acC,rX]
  ·obtain⟨rfl,h0,rfl,rfl,h1,h2,h4⟩:=hs';have hkk:=h3 h0;simp only[aK,aW,iG,aQ,axz,aD];have e1:=@bX (v2+1);by_cases hi:v2<(v3.keys.length:Int)
   ·rw[decide_eq_true hi,cond_true,pI,pI];intro _ _ _ hj;rw[fB v3.keys Df.d h1 hi,fB v3.kids Df.d h1 hj,DY]at h4;have h6:=Mv hy (i:=v2) h1 (by omega);generalize v3.keys.getD v2.toNat Df.d=k at h4 ⊢;generalize v3.kids.getD v2.toNat Df.d=v at h4 h6 ⊢;rw[e1 (by omega)];have eK:(bif(bif(bif(!(k==([110,97,109,101]:anY)))then(!(k==([115,101,114,118,105,99,101,115]:anY)))else false)then(!(k==([110,101,116,119,111,114,107,115]:anY)))else false)then(!(k==([118,111,108,117,109,101,115]:anY)))else false)=YR k:=rfl;rw[eK,adP v.text (by have:=h6.text;omega),dO];have eS:([115,101,114,118,105,99,101,115]:anY)=jw:=rfl;have eN:([110,97,109,101]:anY)=Kv:=rfl;rw[eS,eN];have h7:=h6.ser;have h8:=h6.set;have hI:∀o',DY (v3.keys.drop (v2+1).toNat) (v3.kids.drop (v2+1).toNat) o'=Bu v3->0<=v2+1/\v2+1<=(v3.keys.length:Int)/\DY (v3.keys.drop (v2+1).toNat) (v3.kids.drop (v2+1).toNat) o'=Bu v3:=fun o' h=>⟨by omega,by omega,h⟩
    simp only[dR];unfold DX at h4
    (repeat' (first|intro _|apply And.intro))<;>grind[rX]
   ·rw[decide_eq_false hi,cond_false,pK];intro _;rw[iE v3.keys (by omega),DY]at h4
    ·exact h4
    ·intro a b c d e;cases e
 refine gZ rfl ?_;have h5:=VH (Bu n).1 hd;simp only[dR,Em]
 (repeat' (first|intro _|apply And.intro))<;>grind[flP,rX]
def sn:Nat->An->Prop
 | 0,_=>False
 | d+1,x=>((x.keys.length<=1000/\x.kids.length<=1000)/\(x.kind=3->x.keys.length=x.kids.length)/\x.text.length<=30000/\∀k∈x.keys,k.length<=30000)/\((0<=x.kind/\x.kind<=3)/\(x.kind≠1->x.text=[])/\(x.kind≠3->x.keys=[])/\(x.kind<2->x.kids=[]))/\∀y∈x.kids,sn d y
theorem axB{d:Nat}{x:An}(h:sn (d+1) x)(h0:x.kind=0):x=zn:=by obtain⟨_,⟨_,h1,h2,h3⟩,_⟩:=h;obtain⟨k,t,ks,vs⟩:=x;have h0:k=0:=h0;subst h0;have e1:t=[]:=h1 (show(0:Int)≠1 by decide);have e2:ks=[]:=h2 (show(0:Int)≠3 by decide);have e3:vs=[]:=h3 (show(0:Int)<2 by decide);rw[e1,e2,e3];rfl
theorem ati{d:Nat}{x:An}(h:sn (d+1) x)(h0:x.kind=1):x=dz x.text:=by obtain⟨_,⟨_,h1,h2,h3⟩,_⟩:=h;obtain⟨k,t,ks,vs⟩:=x;have h0:k=1:=h0;subst h0;have e2:ks=[]:=h2 (show(1:Int)≠3 by decide);have e3:vs=[]:=h3 (show(1:Int)<2 by decide);rw[e2,e3];rfl
theorem akn:∀{l:List An} {t:List (anY)},l7 l=some t->t=l.map An.text
 | [],t,h=>by cases h;rfl
 | x::l,t,h=>by
  rw[l7]at h;cases hk:x.kind != 1 with
  | true=>rw[hk]at h;cases h
  | false =>
   rw[hk,cond_false]at h;cases ht:l7 l with
   | none=>rw[ht]at h;cases h
   | some u=>rw[ht]at h;cases h;rw[akn ht];rfl
theorem ay7(n:An):bJ n=[]\/bJ n=n.kids.map An.text:=by
 unfold bJ;cases h:l7 n.kids with
 | none=>exact .inl rfl
 | some t=>exact .inr (akn h)
theorem Qo{d:Nat}{n:An}(h:sn (d+2) n):(bJ n).length<=1000/\∀s∈bJ n,s.length<=30000:=by
 rcases ay7 n with e | e<;>rw[e]
 ·exact⟨aa4 _,fun s hs=>by cases hs⟩
 ·refine⟨by rw[List.length_map];exact h.1.1.2,fun s hs=>?_⟩;obtain⟨y,hy,rfl⟩:=List.mem_map.1 hs;exact(h.2.2 y hy).1.2.2.1
theorem Qp(n:An)(k:anY):aG n k=zn\/aG n k∈n.kids:=by
 cases hg:aB n k with
 | true=>exact .inr (rA hg)
 | false =>
  left;unfold aB at hg;unfold aG;cases hq:get n k with
  | none=>rfl
  | some x=>rw[hq]at hg;cases hg
theorem aec{d:Nat}{n:An}(h:sn (d+2) n)(k o:anY)(B:Nat)(hB:30000<=B)(ho:o.length<=B):(aN n k o).length<=B:=by
 unfold aN;cases !(aB n k)with
 | true=>exact ho
 | false =>
  rw[cond_false];rcases Qp n k with e | e
  ·rw[e];exact aa4 _
  ·exact Nat.le_trans (h.2.2 _ e).1.2.2.1 hB
theorem aAZ{d:Nat}{v:An}(h:sn (d+2) v):(∀s∈rY v,s.length<=1000000)/\(rY v).length<=1000000:=by
 obtain⟨t1,t2⟩:=Qo h;unfold rY;cases rF v 3 with
 | true=>exact⟨fun s hs=>Nat.le_trans (h.1.2.2.2 s hs) (by decide),Nat.le_trans h.1.1.1 (by decide)⟩
 | false=>exact⟨fun s hs=>Nat.le_trans (t2 s hs) (by decide),Nat.le_trans t1 (by decide)⟩
theorem axC{d:Nat}{v:An}(h:sn (d+4) v):Fz v:=by
 obtain⟨t1,t2⟩:=Qo h;obtain⟨s1,s2⟩:=aAZ h;have h':sn (d+4) v:=h;obtain⟨⟨⟨a1,a2⟩,a3,a4,a5⟩,_,a6⟩:=h;have big:∀{n m:Nat},n<=m->m<=100000->n<=1000000:=fun h1 h2=>by omega
 have hyk:∀y∈v.kids,y.keys.length<=100000/\y.text.length<=100000/\∀k o,o.length<=100000->(aN y k o).length<=100000:=fun y hy=>by have hs:=a6 y hy;exact⟨Nat.le_trans hs.1.1.1 (by decide),Nat.le_trans hs.1.2.2.1 (by decide),fun k o ho=>aec hs k o 100000 (by decide) ho⟩
 have hvt:=Qp v bR;have hkt:(aG v bR).kids.length<=1000/\(bJ (aG v bR)).length<=1000/\∀s∈bJ (aG v bR),s.length<=30000:=by
  rcases hvt with e | e
  ·rw[e];exact⟨by decide,by decide,fun s hs=>by cases hs⟩
  ·have hs:=a6 _ e;exact⟨hs.1.1.2,(Qo hs).1,(Qo hs).2⟩
 refine⟨amq v,akj v (by omega) (by omega) (by omega),fun b=>ajT v b (by omega) (by omega) a3 (fun s hs=>by have:=t2 s hs;omega) (by omega) (fun s hs=>by have:=a5 s hs;omega),akk v (by omega) (by omega) a3 (fun s hs=>by have:=a5 s hs;omega) hyk,agL v (by omega) (by omega) a3 hyk,aqv v (by omega) (by omega) s1 s2,?_,?_,agE v (by omega) (fun k o ho=>aec h' k o 1000000 (by decide) ho) (by omega) (by omega) (fun s hs=>by have:=hkt.2.2 s hs;omega),adT v (by omega),aj4 v (by omega),amt v (by omega),akc v (by omega)⟩
 ·refine amk v (by omega) ?_ ?_ (fun y hy=>⟨(hyk y hy).1,axB (a6 y hy)⟩)
  ·unfold FH;cases rF v 3 with
   | true=>exact fun s hs=>by have:=a5 s hs;omega
   | false=>exact fun s hs=>by have:=t2 s hs;omega
  ·unfold FH;cases rF v 3 with
   | true=>show v.keys.length<=_;omega
   | false=>show(bJ v).length<=_;omega
 ·refine adQ v ?_ (ati h') ?_
  ·unfold je;cases v.kind==1 with
   | true=>show 1<=_;omega
   | false=>show v.keys.length<=_;omega
  ·unfold je;cases hk:v.kind==1 with
   | false=>exact aec h' jd [] 1000000 (by decide) (by decide)
   | true =>
    rw[cond_true];unfold aN;cases !(aB ⟨3,[],[jd],[v]⟩ jd)with
    | true=>exact aa4 _
    | false =>
     rw[cond_false];rcases Qp ⟨3,[],[jd],[v]⟩ jd with e | e
     ·rw[e];exact aa4 _
     ·rw[List.mem_singleton.1 e];omega
theorem aCx{d:Nat}{v:An}(h:sn (d+5) v):Fs v:=⟨Nat.le_trans h.1.1.1 (by decide),h.1.2.1,fun y hy=>axC (h.2.2 y hy)⟩
theorem aCy{d:Nat}{v:An}(h:sn (d+6) v):Fp v:=⟨X0 v (Nat.le_trans h.1.1.1 (by decide)) h.1.2.1 (fun s hs=>Nat.le_trans (h.1.2.2.2 s hs) (by decide)) (fun y hy=>aCx (h.2.2 y hy)),(axC h).set,Nat.le_trans h.1.2.2.1 (by decide)⟩
theorem ay8{d:Nat}{n:An}(h:sn (d+7) n)(hd:dp 13 (Bu n).1=true):(kN n).isSome=true->gv (kN n)=flP n:=agM n (Nat.le_trans h.1.1.1 (by decide)) h.1.2.1 (fun y hy=>aCy (h.2.2 y hy)) hd
theorem sort_k{B:Nat}:∀(n k:Nat) (x:An),wg B n x=true->dS (n+k) x=dS n x
 | 0,_,_,h=>by cases h
 | n+1,k,x,h=>by
  have hx:=dQ.1 h;rw[show n+1+k=(n+k)+1 by omega];unfold dS;cases(x.kids.length:Int)==0 with
  | true=>rfl
  | false =>
   rw[cond_false,cond_false];cases hk:x.kind != 3 with
   | true =>rw[cond_true,cond_true];congr 1;exact ahY fun y hy=>sort_k n k y (hx.2.2.2 y hy)
   | false =>
    rw[cond_false,cond_false];congr 1;refine ahY fun s _=>?_
    rcases Qp x s with e | e
    ·rw[e];cases n with
     | zero=>cases k<;>rfl
     | succ n=>rw[show n+1+k=(n+k)+1 by omega];rfl
    ·exact sort_k n k _ (hx.2.2.2 _ e)
theorem V9(x:Nat)(hx:x<18446744073709551616):uK (x:Int)=some (Kq x):=by
 refine iB rfl (fun | .e y=>y=(x:Int) | .h0 v0 v1=>∃f u:Nat,v0=(u:Int)/\u<10 ^ (f+1)/\u<18446744073709551616/\v1.length+f<=1000/\oW (f+1) u++v1=Kq x) (fun | .e _=>100000000000000000000000000000 | .h0 v0 v1=>v0.toNat) rfl (by show 100000000000000000000000000000<_;omega) ?_;rintro(y | ⟨v0,v1⟩) hs'
 ·cases hs';refine⟨⟨19,x,rfl,?_,hx,by decide,by rw[acg];rfl⟩,?_⟩
  ·grind
  grind
 ·obtain⟨f,u,rfl,h2,h3,h4,h5⟩:=hs';simp only[aK,aW,uJ,afu,afM,aa9];rw[dT (show 1+v1.length<=aA by rw[ms];omega)];rw[oW]at h5;by_cases hu:u<10
  ·rw[if_pos hu]at h5;rw[dF (by omega),cond_false,ak,aqz (by omega) (by omega),aaY];exact h5
  ·rw[if_neg hu]at h5;rw[dT (by omega),cond_true,show(!((10:Int)==0))=true from rfl,ak,ak,ak];have e1:Int.tmod (u:Int) 10=((u%10:Nat):Int):=rfl;have e2:Int.tdiv (u:Int) 10=((u / 10:Nat):Int):=rfl;rw[e1,e2,aqz (by omega) (by omega),DU (by omega) (by omega),aaY];have h10:10 ^ (f+1)=10*10 ^ f:=by rw[Nat.pow_succ,am7]
   obtain⟨f,rfl⟩:∃k,f=k+1:=by
    rcases Nat.eq_zero_or_pos f with rfl | h
    ·exfalso;rw[h10]at h2;simp at h2;omega
    ·exact⟨f-1,by omega⟩
   refine⟨⟨f,u / 10,rfl,by omega,by omega,by rw[List.length_append,aa9];omega,by rw[<- h5,ab9]⟩,?_⟩;grind
theorem Hr(n:Int)(h : -9223372036854775808<=n/\n<=9223372036854775807):gq n=some (bA n):=by
 refine dh rfl ?_;simp only[aK,aW,xG,bA];by_cases hn:n<0
 ·have e:IntKind.wrap .u64 ((0:Int)-IntKind.wrap .u64 n)=(((-n).toNat:Nat):Int):=by rw[wu64,wu64];omega
  have hl:(Kq (-n).toNat).length<=20:=NY 20 _;rw[dT hn,e,V9 _ (by omega)];simp only[cond_true,aD];rw[dT (show[(45:UInt8)].length+(Kq (-n).toNat).length<=aA by rw[ms,aa9];omega),ak];rfl
 ·have e:IntKind.wrap .u64 n=((n.toNat:Nat):Int):=by rw[wu64];omega
  rw[dF hn,e,V9 _ (by omega)];simp only[cond_false,aD]
def awe(h v:anY):Int×Int:=bif(bif decide ((9007199254740:Int)<(bD h 0:Int))then true else decide ((9007199254740992:Int)<(bD h 0:Int)*1000+(bD (Z8 v) 0:Int)))then(0,9)else((bD h 0:Int)*1000+(bD (Z8 v) 0:Int),0)
def mlI(s:anY):p8->Prop
 | .e y=>y=s
 | .h0 v0 v1=>v0=s/\∃i:Nat,v1=(i:Int)/\i<=s.length/\jf 46 s=i+jf 46 (s.drop i)
 | .h1 v0 v1 v2 v3=>v0=s/\∃a i:Nat,v1=(a:Int)/\a<=s.length/\eP (s.take a)=true/\v3=(i:Int)/\i<=v2.length/\v2.length<=3/\(v2.take i).all fC=true/\MC (s.take a) v2=Hf s
 | .h2 v0 v1 v2=>v0=s/\∃a:Nat,v1=(a:Int)/\a<=s.length/\eP (s.take a)=true/\v2.length<=3/\v2.all fC=true/\awe (s.take a) v2=Hf s
def mlM(s:anY):p8->Nat
 | .e _=>10000000000
 | .h0 _ v1=>3000000000+((s.length:Int)-v1).toNat
 | .h1 _ _ v2 v3=>2000000000+((v2.length:Int)-v3).toNat
 | .h2 _ _ v2=>3-v2.length
theorem amv(s:anY)(hs:s.length<=1000000):vM s=some (Hf s):=by
 refine iB rfl (mlI s) (mlM s) rfl (by show 10000000000<_;omega) ?_;rintro(y | ⟨v0,v1⟩ | ⟨v0,v1,v2,v3⟩ | ⟨v0,v1,v2⟩) hs'
 ·have hs':y=s:=hs';subst hs';refine⟨⟨rfl,0,rfl,aa4 _,by rw[acC,afr]⟩,?_⟩;show 3000000000+((y.length:Int)-0).toNat<10000000000;omega
 ·obtain⟨rfl,i,rfl,h1,h2⟩:=hs';have nw:eP (v0.take i)=false->MC (v0.take i) (vB v0)=(0,3):=fun g=>by
   unfold MC;rw[g];cases(vB v0).all fC<;>rfl
  have ct0:cut v0 0 (i:Int)=v0.take i:=by simp[cut]
  have ck0:bN v0 0 (i:Int)=true:=by simp[bN];omega
  have hw:=JB (v0.take i) (by rw[acu];omega);simp only[aK,aW,lY,aaY];by_cases hi:i<v0.length
  ·have hx:(decide ((0:Int)<=(i:Int))&&decide ((i:Int)<(v0.length:Int)))=true:=by simp;omega
   rw[dT (show(i:Int)<(v0.length:Int) by omega)]at *;rw[show decide ((0:Int)<=(i:Int))=true from dT (by omega)];simp only[acf,aci,ak,cond_true];cases hc:((((v0.getD i 0).toNat:Nat):Int)!=46)with
   | true =>
    rw[cond_true,bX (by omega)];refine⟨⟨rfl,i+1,rfl,by omega,?_⟩,?_⟩
    ·rw[h2,drop_at hi,jf,show((((v0.getD i 0).toNat:Nat):Int)==46)=false by simpa using hc,cond_false];omega
    ·show 3000000000+((v0.length:Int)-((i:Int)+1)).toNat<3000000000+((v0.length:Int)-(i:Int)).toNat;omega
   | false =>
    have hq:((((v0.getD i 0).toNat:Nat):Int)==46)=true:=by simpa using hc
    have hf:jf 46 v0=i:=by rw[h2,drop_at hi,jf,hq,cond_true];omega
    have hA:zG v0=v0.take i:=by unfold zG;rw[hf]
    have hB:vB v0=v0.drop (i+1):=by unfold vB;rw[hf]
    have hC:Tz v0=true:=by unfold Tz;rw[hf];exact dT hi
    have hB2:cut v0 ((i:Int)+1) (v0.length:Int)=vB v0:=by rw[hB];unfold cut;rw[show((i:Int)+1).toNat=i+1 by omega,aaY];exact aeV (by rw[ach];exact ab8 _)
    have ck1:bN v0 ((i:Int)+1) (v0.length:Int)=true:=by simp[bN];omega
    have ht:(vB v0).length<=1000000:=by rw[hB,ach];omega
    obtain⟨l1,l2⟩:=axp ht;have hP:Hf v0=bif VW (vB v0)then(0,3)else MC (v0.take i) (vB v0):=by unfold Hf;rw[hC,hA];rfl
    rw[cond_false,bX (by omega),ck1,ak,hB2,l1,ak,l2,ck0,ak,ct0,hw];simp only[aD];cases hb:VW (vB v0)with
    | true=>rw[hb]at hP;exact hP.symm
    | false =>
     rw[hb]at hP;have hP:Hf v0=MC (v0.take i) (vB v0):=hP;rw[cond_false];cases hw2:eP (v0.take i)with
     | false=>rw[hP,nw hw2];rfl
     | true =>have h3:=anV hb;refine⟨⟨rfl,i,0,rfl,h1,hw2,rfl,aa4 _,h3,rfl,hP.symm⟩,?_⟩;show 2000000000+(((vB v0).length:Int)-0).toNat<3000000000+((v0.length:Int)-(i:Int)).toNat;omega
  ·have hf:jf 46 v0=i:=by rw[h2,abb (by omega)];rfl
   have hC:Tz v0=false:=by unfold Tz;exact dF (by omega)
   have hA:zG v0=v0.take i:=by unfold zG;rw[hf]
   have hP:Hf v0=MC (v0.take i) []:=by unfold Hf;rw[hC,hA,aj5 hC];rfl
   rw[aj5 hC]at nw;rw[dF (show ¬ (i:Int)<(v0.length:Int) by omega)];simp only[ajr,acn,afZ,ak,cond_false,ck0,ct0,hw,aD];cases hw2:eP (v0.take i)with
   | false=>rw[hP,nw hw2];rfl
   | true =>refine⟨⟨rfl,i,0,rfl,h1,hw2,rfl,aa4 _,aa4 _,rfl,hP.symm⟩,?_⟩;show 2000000000+((([]:anY).length:Int)-0).toNat<3000000000+((v0.length:Int)-(i:Int)).toNat;show 2000000000+0<_;omega
 ·obtain⟨rfl,a,i,rfl,h1,hw,rfl,h2,h3,h4,h5⟩:=hs';simp only[aK,aW,lY];by_cases hi:i<v2.length
  ·rw[dT (show(i:Int)<(v2.length:Int) by omega),cond_true,wS];refine⟨by omega,by omega,?_⟩;simp only[aaY,dT (show(0:Int)<=(i:Int) by omega),acf,aci,ak,Qk];cases hc:fC (v2.getD i 0)with
   | false =>
    have:v2.all fC=false:=by rw[<- afO i v2,List.all_append,drop_at hi,afo,hc,aju,ajr]
    unfold MC at h5;rw[this]at h5;exact h5
   | true =>
    rw[ab7,cond_false,bX (by omega)];refine⟨⟨rfl,a,i+1,rfl,h1,hw,rfl,by omega,h3,?_,h5⟩,?_⟩
    ·rw[afJ hi,List.all_append,h4];have:v2.getD i 0=v2[i]:=by rw[List.getD,aaO hi];rfl
     rw[this]at hc;simp[hc]
    ·show 2000000000+((v2.length:Int)-((i:Int)+1)).toNat<2000000000+((v2.length:Int)-(i:Int)).toNat;omega
  ·have hall:v2.all fC=true:=by rwa[aeV (by omega)]at h4
   rw[dF (show ¬ (i:Int)<(v2.length:Int) by omega),cond_false];refine⟨⟨rfl,a,rfl,h1,hw,h3,hall,?_⟩,?_⟩
   ·rw[<- h5];unfold MC;rw[hall,hw];rfl
   ·show 3-v2.length<2000000000+_;omega
 ·obtain⟨rfl,a,rfl,h1,hw,h3,hall,h5⟩:=hs';have ct0:cut v0 0 (a:Int)=v0.take a:=by simp[cut]
  have ck0:bN v0 0 (a:Int)=true:=by simp[bN];omega
  simp only[aK,aW,lY];by_cases hl:v2.length<3
  ·rw[dT (show(v2.length:Int)<3 by omega),cond_true,dT (show v2.length+([48]:anY).length<=aA by rw[ms,aa9];omega),ak];refine⟨⟨rfl,a,rfl,h1,hw,by rw[List.length_append,aa9];omega,by rw[List.all_append,hall];rfl,?_⟩,?_⟩
   ·rw[<- h5];unfold awe Z8;rw[List.length_append,aa9,ab9,show 3-v2.length=(3-(v2.length+1))+1 by omega,List.replicate_succ];rfl
   ·show 3-(v2++[48]).length<3-v2.length;rw[List.length_append,aa9];omega
  ·have hp:Z8 v2=v2:=by unfold Z8;rw[show 3-v2.length=0 by omega];simp
   have hv:bD v2 0<1000:=by have:=anS v2 0 hall;rw[show v2.length=3 by omega]at this;simpa using this
   have hd:(v0.take a).all fC=true:=by unfold eP at hw;rw[abK]at hw;exact hw.2
   have v1:=JC (v0.take a) (by rw[acu];omega) hd;have v2':=JC v2 (by omega) hall;rw[dF (show ¬ (v2.length:Int)<3 by omega),cond_false,ck0,ak,ct0,v1,v2'];simp only[aD,aff,aci,ak,dO];unfold jc;rw[Ci (show bD v2 0<72057594037927936 by omega),<- h5];unfold awe;rw[hp];by_cases hx:(9007199254740:Int)<(bD (v0.take a) 0:Int)
   ·have:(9007199254740:Int)<Mw (bD (v0.take a) 0):=by
     by_cases h7:bD (v0.take a) 0<72057594037927936
     ·rw[Ci h7];exact hx
     ·rw[Ql h7];decide
    rw[dT this,dT hx];rfl
   ·rw[Ci (show bD (v0.take a) 0<72057594037927936 by omega),dF hx];have e2:au ((bD (v0.take a) 0:Int)*1000)=(bD (v0.take a) 0:Int)*1000:=aT (by omega) (by omega);have e3:au ((bD (v0.take a) 0:Int)*1000+(bD v2 0:Int))=(bD (v0.take a) 0:Int)*1000+(bD v2 0:Int):=aT (by omega) (by omega);simp only[e2,e3,cond_false];cases decide ((9007199254740992:Int)<(bD (v0.take a) 0:Int)*1000+(bD v2 0:Int))<;>rfl
def Av(s:anY):Int:=bif uBb s then 1 else bif uKb s then 1024 else bif uMb s then 1048576 else bif uGb s then 1073741824 else 0
def rzP(s:anY):Int×Int:=bif(bif Av (s.drop (fJ s))==0 then true else !(eP (s.take (fJ s))))then(0,3)else
 bif decide (Int.tdiv 1125899906842624 (Av (s.drop (fJ s)))<jc (s.take (fJ s)))then(0,9)else(jc (s.take (fJ s))*Av (s.drop (fJ s)),0)
def rzV(s:anY):Int:=(rzP s).1
def rzE(s:anY):Int:=(rzP s).2
theorem axH(s:anY):Av s=0\/Av s=1\/Av s=1024\/Av s=1048576\/Av s=1073741824:=by unfold Av;grind
theorem aA0(c:UInt8):(bif decide ((48:Int)<=((c.toNat:Nat):Int))then decide (((c.toNat:Nat):Int)<=57)else false)=fC c:=by unfold fC;grind
def awf(n:Int):Int:=bif(bif decide (n<0)then true else decide ((1125899906842624:Int)<n))then 0 else bif kP n==0 then 1 else bif kP n==1 then 1024 else bif kP n==2 then 1048576 else 1073741824
theorem aqF(s:anY):EZ s=some (Av s):=by refine dh rfl ?_;unfold Av uBb uKb uMb uGb;simp only[aK,aW,xD];grind
theorem FJ(s:anY)(i:Nat):cut s 0 (i:Int)=s.take i:=by simp[cut]
theorem zX(s:anY)(i:Nat):cut s (i:Int) (s.length:Int)=s.drop i:=by unfold cut;rw[aaY,aaY];exact aeV (by rw[ach];exact ab8 _)
theorem IB{s:anY}{i:Nat}(h:i<=s.length):bN s 0 (i:Int)=true:=by simp[bN];omega
theorem IC{s:anY}{i:Nat}(h:i<=s.length):bN s (i:Int) (s.length:Int)=true:=by simp[bN];omega
theorem ako{s:anY}{i:Nat}(hi:i<=s.length)(h:fJ s=i+fJ (s.drop i)) :
  ((bif(bif decide ((i:Int)<(s.length:Int))then decide ((48:Int)<=(((List.getD s i 0).toNat:Nat):Int))else false)then decide ((((List.getD s i 0).toNat:Nat):Int)<=57)else false)=true/\i<s.length/\fC (s.getD i 0)=true/\fJ s=(i+1)+fJ (s.drop (i+1))) \/
  ((bif(bif decide ((i:Int)<(s.length:Int))then decide ((48:Int)<=(((List.getD s i 0).toNat:Nat):Int))else false)then decide ((((List.getD s i 0).toNat:Nat):Int)<=57)else false)=false/\fJ s=i):=by
 by_cases hl:i<s.length
 ·rw[drop_at hl,fJ]at h;rw[dT (show(i:Int)<(s.length:Int) by omega),cond_true,aA0];grind
 ·rw[abb (by omega)]at h;rw[dF (show ¬ (i:Int)<(s.length:Int) by omega)];exact .inr ⟨rfl,h⟩
theorem ckD(i:Nat)(s:anY)(b:Bool):((decide ((0:Int)<=(i:Int))&&decide ((i:Int)<(s.length:Int)))||!(bif decide ((i:Int)<(s.length:Int))then b else false))=true/\((decide ((0:Int)<=(i:Int))&&decide ((i:Int)<(s.length:Int)))||!(decide ((i:Int)<(s.length:Int))))=true:=by grind
theorem an1:∀s:anY,(s.take (fJ s)).all fC=true
 | []=>rfl
 | c::t=>by
  unfold fJ;cases hc:fC c with
  | true=>rw[cond_true,List.take_succ_cons,afo,hc,an1 t];rfl
  | false=>rfl
theorem amw(s:anY)(hs:s.length<=1000000):vO s=some (rzP s):=by
 refine iB rfl (fun | .e y=>y=s | .h0 v0 v1=>v0=s/\∃i:Nat,v1=(i:Int)/\i<=s.length/\fJ s=i+fJ (s.drop i)) (fun | .e _=>10000000000 | .h0 _ v1=>((s.length:Int)-v1).toNat) rfl (by show 10000000000<_;omega) ?_;rintro(y | ⟨v0,v1⟩) hs'
 ·cases hs';refine⟨⟨rfl,0,rfl,aa4 _,by rw[acC,afr]⟩,?_⟩;grind
 ·obtain⟨rfl,i,rfl,h1,h2⟩:=hs';simp only[aK,aW,vN,aaY,ckD,(ckD i v0 false).2,ak];rcases ako h1 h2 with⟨e,hl,_,h3⟩ | ⟨e,h3⟩
  ·rw[e,cond_true,bX (by omega)];grind
  ·rw[e,cond_false];have hr:rzP v0=bif(bif Av (v0.drop i)==0 then true else !(eP (v0.take i)))then(0,3)else bif decide (Int.tdiv 1125899906842624 (Av (v0.drop i))<jc (v0.take i))then(0,9)else(jc (v0.take i)*Av (v0.drop i),0):=by unfold rzP;rw[h3]
   have hi:decide ((i:Int)<=(v0.length:Int))=true:=dT (by omega);have hw:=JB (v0.take i) (by rw[acu];omega);have hv:=JC (v0.take i) (by rw[acu];omega) (by have:=an1 v0;rwa[h3]at this);simp only[zX,FJ,IB h1,IC h1,aqF,aD,ak,hi,dT (show(0:Int)<=(i:Int) by omega),show decide ((0:Int)<=0)=true from rfl,acf,aci,hw,aff,dO];have hb:=aqy (v0.take i);cases hc:(bif Av (v0.drop i)==0 then true else !(eP (v0.take i)))with
   | true=>rw[hr,hc];rfl
   | false =>
    rw[hr,hc,cond_false,cond_false,hv];have hz:(Av (v0.drop i)==0)=false:=by grind
    rw[hz];simp only[aD,acn,ak];have e1:au (Int.tdiv 1125899906842624 (Av (v0.drop i)))=Int.tdiv 1125899906842624 (Av (v0.drop i)):=by refine aT ?_ ?_<;>rcases axH (v0.drop i)with h | h | h | h | h<;>rw[h]<;>decide
    rw[e1];by_cases hlt:Int.tdiv 1125899906842624 (Av (v0.drop i))<jc (v0.take i)
    ·rw[dT hlt];rfl
    ·rw[dF hlt,cond_false,cond_false];have e2:au (jc (v0.take i)*Av (v0.drop i))=jc (v0.take i)*Av (v0.drop i):=by
      have q1:Int.tdiv (1125899906842624:Int) 0=0:=by decide
      have q2:Int.tdiv (1125899906842624:Int) 1=1125899906842624:=by decide
      have q3:Int.tdiv (1125899906842624:Int) 1024=1099511627776:=by decide
      have q4:Int.tdiv (1125899906842624:Int) 1048576=1073741824:=by decide
      have q5:Int.tdiv (1125899906842624:Int) 1073741824=1048576:=by decide
      refine bX ?_;rcases axH (v0.drop i)with h | h | h | h | h<;>rw[h]at hlt ⊢ <;> omega
     rw[e2]
theorem aqG(n:Int):E5 n=some (awf n):=by
 refine dh rfl ?_;unfold awf kP;simp only[aK,aW,xE];cases hb:(bif decide (n<0)then true else decide ((1125899906842624:Int)<n))with
 | true=>rfl
 | false =>
  have h0:0<=n:=by grind
  rw[Int.tmod_eq_emod_of_nonneg h0,Int.tmod_eq_emod_of_nonneg h0,Int.tmod_eq_emod_of_nonneg h0];have k1:(!((1024:Int)==0))=true:=rfl;have k2:(!((1048576:Int)==0))=true:=rfl;have k3:(!((1073741824:Int)==0))=true:=rfl;simp only[k1,k2,k3,aci,ak];grind
theorem aqH(n:Int):E8 n=some (Br n):=by
 refine dh rfl ?_;unfold Br;simp only[aK,xH,aqG,aD];unfold awf;cases hb:(bif decide (n<0)then true else decide ((1125899906842624:Int)<n))with
 | true=>rfl
 | false =>
  have h0:0<=n/\n<=1125899906842624:=by grind
  have hI:∀x:Int,0<=x->x<=1125899906842624->gq (au x)=some (bA x):=fun x h1 h2=>by rw[bX (by omega)];exact Hr x (by omega)
  have hd:∀y:Int,Int.tdiv n y=n / y:=fun y=>afQ h0.1
  have hm:∀(x:Int) (c:UInt8),decide ((bA x).length+[c].length<=aA)=true:=fun x c=>dT (by have:=sH x;rw[ms,aa9];omega)
  obtain⟨u0,u3⟩:=acd n;simp only[cond_false,hd];rcases NZ u0 u3 with⟨h,h2⟩ | ⟨h,h2⟩ | ⟨h,h2⟩ | ⟨h,h2⟩
  ·rw[h2,h];have q:=hI (n / 1) (by omega) (by omega);simp only[show((0:Int)==0)=true from rfl,cond_true,show((1:Int)==0)=false from rfl,show((1:Int)==1024)=false from rfl,show((1:Int)==1048576)=false from rfl,show((1:Int)==1073741824)=false from rfl,cond_false,acn,q,ak,aD];rw[show sfx 0=[]from rfl,acg]
  ·rw[h2,h];have q:=hI (n / 1024) (by omega) (by omega);simp only[show((1:Int)==0)=false from rfl,show((1:Int)==1)=true from rfl,cond_true,show((1024:Int)==0)=false from rfl,show((1024:Int)==1024)=true from rfl,cond_false,acn,q,ak,aD,hm];rfl
  ·rw[h2,h];have q:=hI (n / 1048576) (by omega) (by omega);simp only[show((2:Int)==0)=false from rfl,show((2:Int)==1)=false from rfl,show((2:Int)==2)=true from rfl,cond_true,show((1048576:Int)==0)=false from rfl,show((1048576:Int)==1024)=false from rfl,show((1048576:Int)==1048576)=true from rfl,cond_false,acn,q,ak,aD,hm];rfl
  ·rw[h2,h];have q:=hI (n / 1073741824) (by omega) (by omega);simp only[show((3:Int)==0)=false from rfl,show((3:Int)==1)=false from rfl,show((3:Int)==2)=false from rfl,cond_true,show((1073741824:Int)==0)=false from rfl,show((1073741824:Int)==1024)=false from rfl,show((1073741824:Int)==1048576)=false from rfl,show((1073741824:Int)==1073741824)=true from rfl,cond_false,acn,q,ak,aD,hm];rfl
theorem axI(s:anY):(Av s==0) = !(H7 s)/\(H7 s=true->Av s=2 ^ (Int.toNat (10*zH s))):=by unfold Av H7 zH;grind
theorem atj{s:anY}(h:H7 s=true):∀c∈s,fC c=false:=by
 have:s=[]\/s=[98]\/s=[107]\/s=[107,98]\/s=[109]\/s=[109,98]\/s=[103]\/s=[103,98]:=by unfold H7 uBb uKb uMb uGb at h;grind
 rcases this with rfl | rfl | rfl | rfl | rfl | rfl | rfl | rfl<;>decide
theorem an2:∀s:anY,(s.take (fJ s)).all fC=true
 | []=>rfl
 | c::t=>by
  unfold fJ;cases h:fC c with
  | false=>rfl
  | true=>rw[cond_true,List.take_succ_cons,afo,h,an2 t];rfl
theorem an3:∀(s t:anY),s.all fC=true->(∀c∈t,fC c=false)->fJ (s++t)=s.length
 | [],[],_,_=>rfl
 | [],c::t,_,h=>by show fJ (c::t)=0;rw[fJ,h c abI];rfl
 | c::s,t,h,h2=>by rw[afo,abK]at h;show fJ (c::(s++t))=_;rw[fJ,h.1,cond_true,an3 s t h.2 h2,List.length_cons]
theorem aak(s:anY):∀n,Cn s n=0\/∃k,Cn s n=k+1/\k<n/\fC (s.getD k 0)=true
 | 0=>.inl rfl
 | n+1=>by
  unfold Cn;cases h:fC (s.getD n 0)with
  | true=>grind
  | false =>
   rcases aak s n with h1 | ⟨k,h1,h2,h3⟩
   ·exact .inl h1
   ·exact .inr ⟨k,h1,by omega,h3⟩
theorem akq(s:anY):∀n,n<=s.length->∀c∈(s.take n).drop (Cn s n),fC c=false
 | 0,_,c,h=>by simp[Cn]at h
 | n+1,hn,c,h=>by
  unfold Cn at h;cases hd:fC (s.getD n 0)with
  | true =>grind
  | false =>
   rw[hd,cond_false,afJ (by omega),List.drop_append_of_le_length (by rw[acu];have:=aac s n;omega)]at h;rcases List.mem_append.1 h with h | h
   ·exact akq s n (by omega) c h
   grind
theorem atl(s:anY):∀c∈s.drop (kD s),fC c=false:=fun c h=>akq s s.length (ab8 _) c (by rw[aeV (ab8 _)];exact h)
theorem ay9{s t:anY}(h:s.all fC=true)(h2:∀c∈t,fC c=false):kD (s++t)=s.length:=by
 have h3:=atl (s++t);have h4:=atc (s++t);rw[List.length_append]at h4;rcases Nat.lt_trichotomy (kD (s++t)) s.length with hl | hl | hl
 ·exfalso;have hm:s[kD (s++t)]∈(s++t).drop (kD (s++t)):=by
   rw[List.drop_append_of_le_length (by omega),List.drop_eq_getElem_cons hl,aft];exact abI
  grind
 ·exact hl
 ·exfalso;rcases aak (s++t) (s++t).length with h5 | ⟨k,h5,h6,h7⟩
  ·have:kD (s++t)=0:=h5;omega
  ·have h5:kD (s++t)=k+1:=h5;grind
theorem axJ(s:anY):J2 s=rzP s:=by
 have hno:=atl s;cases ha:(s.take (kD s)).all fC with
 | true =>
  have hp:fJ s=kD s:=by have:=an3 (s.take (kD s)) (s.drop (kD s)) ha hno;rw[afO]at this;rw[this,acu];exact Nat.min_eq_left (atc s)
  unfold J2 rzP;rw[hp];obtain⟨q1,q2⟩:=axI (s.drop (kD s));rw[q1];cases hz:H7 (s.drop (kD s))with
  | false=>rfl
  | true =>
   simp only[ab7,cond_false];rw[q2 hz];obtain⟨u0,u3⟩:=aho (s.drop (kD s));have hv:jc (s.take (kD s))=Mw (bD (s.take (kD s)) 0):=rfl;unfold gB;cases hw:eP (s.take (kD s))with
   | false=>simp
   | true =>
    simp only[ab7,cond_false];rw[hv];have key:∀P:Int,(P=1\/P=1024\/P=1048576\/P=1073741824)->((Cj (1125899906842624 / P) (bD (s.take (kD s)) 0)).1*P,(Cj (1125899906842624 / P) (bD (s.take (kD s)) 0)).2)=bif decide (Int.tdiv 1125899906842624 P<Mw (bD (s.take (kD s)) 0))then((0,9):Int×Int)else(Mw (bD (s.take (kD s)) 0)*P,0):=by
     intro P hP;rw[afQ (by decide)];have hb:1125899906842624 / P<=1125899906842624:=by rcases hP with h | h | h | h<;>rw[h]<;>decide
     by_cases hx:1125899906842624 / P<(bD (s.take (kD s)) 0:Int)
     ·rw[EI hx];have:1125899906842624 / P<Mw (bD (s.take (kD s)) 0):=by
       by_cases h7:bD (s.take (kD s)) 0<72057594037927936
       ·rw[Ci h7];exact hx
       ·rw[Ql h7];omega
      rw[dT this];simp
     ·rw[EJ hx,Ci (by omega),dF hx];rfl
    exact key _ (by rcases NZ u0 u3 with⟨_,h⟩ | ⟨_,h⟩ | ⟨_,h⟩ | ⟨_,h⟩<;>rw[h]<;>simp)
 | false =>
  have hw:eP (s.take (kD s))=false:=by unfold eP;rw[ha,ajr]
  have hz:J2 s=(0,3):=by unfold J2 gB;grind
  rw[hz];have hl:fJ s<kD s:=by
   rcases afR (fJ s) (kD s)with h | h
   ·exact h
   ·exfalso;have:=an2 s;rw[<- afO (kD s) s,afO]at this;have h2:(s.take (kD s)).all fC=true:=afE.2 fun c hc=>afE.1 this c (by
     have:s.take (kD s)=(s.take (fJ s)).take (kD s):=by rw[List.take_take,Nat.min_eq_left h]
     rw[this]at hc;exact aj2 hc)
    rw[h2]at ha;cases ha
  have hb:H7 (s.drop (fJ s))=false:=by
   cases hb:H7 (s.drop (fJ s))with
   | false=>rfl
   | true =>
    exfalso;have h1:=atj hb;rcases aak s s.length with h5 | ⟨k,h5,h6,h7⟩
    ·have:kD s=0:=h5;omega
    ·have h5:kD s=k+1:=h5;have hm:s.getD k 0∈s.drop (fJ s):=by
      have hk:k-fJ s<(s.drop (fJ s)).length:=by rw[ach];omega
      have:s.getD k 0=(s.drop (fJ s))[k-fJ s]:=by grind
      rw[this];exact acw hk
     rw[h1 _ hm]at h7;cases h7
  unfold rzP;rw[(axI (s.drop (fJ s))).1,hb];rfl
theorem akr(s:anY):lq s=rzV s:=congrArg Prod.fst (axJ s)
theorem aA1(s:anY):YO s=rzE s:=congrArg Prod.snd (axJ s)
theorem aA2{n:Int}(_:0<=n):n / 2 ^ (Int.toNat (10*kP n))*2 ^ (Int.toNat (10*kP n))=n:=by
 have hc:(kP n=0\/(kP n=1/\n%1024=0)\/(kP n=2/\n%1048576=0)\/(kP n=3/\n%1073741824=0)):=by unfold kP;grind
 grind
theorem aA3{u:Int}(h0:0<=u)(h1:u<=3):H7 (sfx u)=true/\zH (sfx u)=u:=by
 have:u=0\/u=1\/u=2\/u=3:=by omega
 rcases this with rfl | rfl | rfl | rfl<;>decide
theorem aza{n:Int}(h0:0<=n)(h1:n<=1125899906842624):J2 (Br n)=(n,0):=by
 obtain⟨u0,u3⟩:=acd n;obtain⟨s1,s2⟩:=aA3 u0 u3;have hd:0<=n / 2 ^ (Int.toNat (10*kP n))/\n / 2 ^ (Int.toNat (10*kP n))<=1125899906842624 / 2 ^ (Int.toNat (10*kP n))/\n / 2 ^ (Int.toNat (10*kP n))<9223372036854775808:=by rcases NZ u0 u3 with⟨_,h⟩ | ⟨_,h⟩ | ⟨_,h⟩ | ⟨_,h⟩<;>rw[h]<;>omega
 obtain⟨q1,q2,q3⟩:=yY hd.1 hd.2.2;have e:Br n=bA (n / 2 ^ (Int.toNat (10*kP n)))++sfx (kP n):=by unfold Br;rw[dF (by omega),dF (by omega)];rfl
 unfold J2;rw[e,ay9 q3 (atj s1),List.drop_left,List.take_left,s1,s2,ab7,cond_false,Z5 hd.1 hd.2.1 hd.2.2,aA2 h0]
def grH(s:anY):anY:=bif(gX s).2==0 then[]else gH s
def grU(s:anY):Int:=((gX s).1:Int)
def grR(s:anY):anY:=bif(gX s).2==0 then[]else gR s
def grB(s:anY):Bool:=bif(gX s).2==0 then false else eP (gH s)
theorem amx(s:anY)(hs:s.length<=1000000):DF s=some (grH s,grU s,grR s,grB s):=by
 refine iB rfl (fun | .e y=>y=s | .h0 v0 v1=>v0=s/\∃i:Nat,v1=(i:Int)/\i<=s.length/\fJ s=i+fJ (s.drop i)) (fun | .e _=>10000000000 | .h0 _ v1=>((s.length:Int)-v1).toNat) rfl (by show 10000000000<_;omega) ?_;rintro(y | ⟨v0,v1⟩) hs'
 ·cases hs';refine⟨⟨rfl,0,rfl,aa4 _,by rw[acC,afr]⟩,?_⟩;show((s.length:Int)-0).toNat<10000000000;omega
 ·obtain⟨rfl,i,rfl,h1,h2⟩:=hs';simp only[aK,aW,vY,aaY,ckD,(ckD i v0 false).2,ak];rcases ako h1 h2 with⟨e,hl,_,h3⟩ | ⟨e,h3⟩
  ·rw[e,cond_true,bX (by omega)];refine⟨⟨trivial,i+1,rfl,by omega,h3⟩,?_⟩;grind
  ·rw[e,cond_false];have hw:=JB (v0.take i) (by rw[acu];omega);have hdl:(v0.drop i).length=v0.length-i:=ach;have c1:∀k:Nat,cut (v0.drop i) (k:Int) ((v0.drop i).length:Int)=v0.drop (i+k):=fun k=>by rw[zX,akA]
   have c1':cut (v0.drop i) 1 ((v0.drop i).length:Int)=v0.drop (i+1):=c1 1;have c2':cut (v0.drop i) 2 ((v0.drop i).length:Int)=v0.drop (i+2):=c1 2;simp only[zX,FJ,IB h1,IC h1,ak,c1',c2',hw,aD];unfold grH grU grR grB gR gH gX;rw[h3];generalize eP (v0.take i)=bw;generalize hr:v0.drop i=r;have i0:Int.toNat 0=0:=rfl;have i1:Int.toNat 1=1:=rfl
   match r with
   | []=>rfl
   | [c] =>have k2:decide ((2:Int)<=(([c]:anY).length:Int))=false:=rfl;have k1:decide ((1:Int)<=(([c]:anY).length:Int))=true:=rfl;have k3:decide ((0:Int)<(([c]:anY).length:Int))=true:=rfl;have k4:bN [c] (1:Int) (([c]:anY).length:Int)=true:=rfl;simp only[k1,k2,k3,k4,i0,i1,show List.getD [c] 0 0=c from rfl,acn,afZ,aci,cond_true,cond_false,ak,gU,show decide ((0:Int)<=0)=true from rfl,acf];cases((c.toNat:Int)==104)<;>cases((c.toNat:Int)==109)<;>cases((c.toNat:Int)==115)<;>rfl
   | c::d::t =>
    have l0:decide ((0:Int)<((c::d::t).length:Int))=true:=dT (by simp only[List.length_cons];omega);have l1:decide ((1:Int)<((c::d::t).length:Int))=true:=dT (by simp only[List.length_cons];omega);have l2:decide ((2:Int)<=((c::d::t).length:Int))=true:=dT (by simp only[List.length_cons];omega);have l3:decide ((1:Int)<=((c::d::t).length:Int))=true:=dT (by simp only[List.length_cons];omega);have k4:bN (c::d::t) (1:Int) ((c::d::t).length:Int)=true:=by simp[bN];omega
    have k5:bN (c::d::t) (2:Int) ((c::d::t).length:Int)=true:=by simp[bN];omega
    simp only[l0,l1,l2,l3,k4,k5,i0,i1,show List.getD (c::d::t) 0 0=c from rfl,show List.getD (c::d::t) 1 0=d from rfl,aci,cond_true,ak,gU,show decide ((0:Int)<=0)=true from rfl,show decide ((0:Int)<=1)=true from rfl,acf];cases aER:((c.toNat:Int)==104)with
    | true =>have aES:((c.toNat:Int)==109)=false:=eT (by have:=eq_of_beq aER;omega);rw[aES];rfl
    | false=>cases((c.toNat:Int)==109)<;>cases((d.toNat:Int)==115)<;>cases((c.toNat:Int)==115)<;>rfl
theorem YS:vZ=some ⟨3600000,60000,1000,1⟩:=dh rfl rfl
theorem amy:DL=some ⟨[104],[109],[115],[109,115]⟩:=dh rfl rfl
theorem aqI(k:Nat):nL (k:Int)=k:=by simp[nL]
def MP(a0 a1 a2 a3:Int):Nat->Int
 | 0=>a0*3600000+a1*60000+a2*1000+a3
 | 1=>a1*60000+a2*1000+a3
 | 2=>a2*1000+a3
 | 3=>a3
 | _=>0
def p3I(s:anY):qm->Prop
 | .e y=>y=s
 | .h0 v0 v1 v2 v3=>∃(f:Nat) (a0 a1 a2 a3:Int) (T:Nat),v3=[a0,a1,a2,a3]/\v0.length<f/\v0.length<=1000000/\(-1<=v2/\v2<=3)/\(0<=v2\/v0≠[])/\(0<=a0/\a0<=1099511627776)/\(0<=a1/\a1<=1099511627776)/\(0<=a2/\a2<=1099511627776)/\(0<=a3/\a3<=1099511627776)/\((v2<0->a0=0)/\(v2<1->a1=0)/\(v2<2->a2=0)/\(v2<3->a3=0))/\(v1=true->1099511627776<T)/\(v1=false->a0*3600000+a1*60000+a2*1000+a3=(T:Int))/\G9 ((qG f v2 v0).map (T + ·))=yZ s
 | .h1 v0 v1 v2 v3 v4=>∃(k:Nat) (a0 a1 a2 a3:Int) (T:Nat),v2=(k:Int)/\k<=4/\v3=[a0,a1,a2,a3]/\v4=[3600000,60000,1000,1]/\(0<=a0/\a0<=1099511627776)/\(0<=a1/\a1<=1099511627776)/\(0<=a2/\a2<=1099511627776)/\(0<=a3/\a3<=1099511627776)/\(v0=true->1099511627776<T)/\(v0=false->v1+MP a0 a1 a2 a3 k=(T:Int)/\0<=v1/\v1<=k*1099511627776)/\G9 (some T)=yZ s
def MQ:qm->Nat
 | .e _=>10000000000
 | .h0 v0 _ _ _=>100+v0.length
 | .h1 _ _ v2 _ _=>(4-v2).toNat
theorem aks(s:anY)(v0:Bool)(v1 v2:Int)(v3 v4:List Int)(h:p3I s (.h1 v0 v1 v2 v3 v4)):(jX (.h1 v0 v1 v2 v3 v4)).run Prop (fun r'=>r'=yZ s) (fun s'=>p3I s s'/\MQ s'<MQ (.h1 v0 v1 v2 v3 v4)) False:=by
 obtain⟨k,a0,a1,a2,a3,T,rfl,hk,rfl,rfl,h0,h1,h2,h3,hb,hT,hR⟩:=h;have k1:decide ((0:Int)<=(k:Int))=true:=dT (by omega);have hM:∀(o:Bool) (t:Int) (l1 l2:List Int),k<4->MQ (.h1 o t ((k:Int)+1) l1 l2)<MQ (.h1 v0 v1 (k:Int) [a0,a1,a2,a3] [3600000,60000,1000,1]):=fun o t l1 l2 h=>by show(4-((k:Int)+1)).toNat<(4-(k:Int)).toNat;omega
 simp only[aK,aW,jX,aqI];by_cases h4:k<4
 ·have hM:=fun o t l1 l2=>hM o t l1 l2 h4
  have n1:Nat.blt k ([a0,a1,a2,a3]:List Int).length=true:=by simp[Nat.blt];omega
  have n2:Nat.blt k ([3600000,60000,1000,1]:List Int).length=true:=by simp[Nat.blt];omega
  rw[dT (show(k:Int)<4 by omega)];simp only[k1,n1,n2,ak,cond_true,acf,ab7,cond_false,bX (show -9223372036854775808<=(k:Int)+1/\(k:Int)+1<=9223372036854775807 by omega)];have next:∀(a L:Int),[a0,a1,a2,a3].getD k (dflt .int)=a->[3600000,60000,1000,1].getD k (dflt .int)=L->(L=3600000\/L=60000\/L=1000\/L=1)->0<=a->a<=1099511627776->MP a0 a1 a2 a3 k=a*L+MP a0 a1 a2 a3 (k+1)->0<=MP a0 a1 a2 a3 (k+1) ->
    ck (!(([3600000,60000,1000,1]:List Int).getD k (dflt .int)==(0:Int))) False (bif(decide ((au (Int.tdiv (1099511627776:Int) (([3600000,60000,1000,1]:List Int).getD k (dflt .int))))<(([a0,a1,a2,a3]:List Int).getD k (dflt .int))))then(p3I s (.h1 true v1 ((k:Int)+1) [a0,a1,a2,a3] [3600000,60000,1000,1])/\MQ (.h1 true v1 ((k:Int)+1) [a0,a1,a2,a3] [3600000,60000,1000,1])<MQ (.h1 v0 v1 (k:Int) [a0,a1,a2,a3] [3600000,60000,1000,1]))else(bif(!v0)then(p3I s (.h1 v0 (au (v1+(au ((([a0,a1,a2,a3]:List Int).getD k (dflt .int))*(([3600000,60000,1000,1]:List Int).getD k (dflt .int)))))) ((k:Int)+1) [a0,a1,a2,a3] [3600000,60000,1000,1])/\MQ (.h1 v0 (au (v1+(au ((([a0,a1,a2,a3]:List Int).getD k (dflt .int))*(([3600000,60000,1000,1]:List Int).getD k (dflt .int)))))) ((k:Int)+1) [a0,a1,a2,a3] [3600000,60000,1000,1])<MQ (.h1 v0 v1 (k:Int) [a0,a1,a2,a3] [3600000,60000,1000,1]))else(p3I s (.h1 v0 v1 ((k:Int)+1) [a0,a1,a2,a3] [3600000,60000,1000,1])/\MQ (.h1 v0 v1 ((k:Int)+1) [a0,a1,a2,a3] [3600000,60000,1000,1])<MQ (.h1 v0 v1 (k:Int) [a0,a1,a2,a3] [3600000,60000,1000,1])))):=by
   intro a L ea eL hL g0 g1 hs hz;rw[ea,eL];have hLz:(L==0)=false:=eT (by omega);rw[hLz,acn,ak];have mk:∀(o:Bool) (t:Int),(o=true->1099511627776<T)->(o=false->t+MP a0 a1 a2 a3 (k+1)=(T:Int)/\0<=t/\t<=((k+1:Nat):Int)*1099511627776)->p3I s (.h1 o t ((k:Int)+1) [a0,a1,a2,a3] [3600000,60000,1000,1])/\MQ (.h1 o t ((k:Int)+1) [a0,a1,a2,a3] [3600000,60000,1000,1])<MQ (.h1 v0 v1 (k:Int) [a0,a1,a2,a3] [3600000,60000,1000,1]):=fun o t q1 q2 =>⟨⟨k+1,a0,a1,a2,a3,T,by omega,by omega,rfl,rfl,h0,h1,h2,h3,q1,q2,hR⟩,hM o t _ _⟩
   have hq:au (Int.tdiv 1099511627776 L)=Int.tdiv 1099511627776 L:=by rcases hL with rfl | rfl | rfl | rfl<;>rfl
   have hq2:Int.tdiv 1099511627776 L<a->1099511627776<a*L:=by have e1:Int.tdiv (1099511627776:Int) 3600000=305419:=rfl;have e2:Int.tdiv (1099511627776:Int) 60000=18325193:=rfl;have e3:Int.tdiv (1099511627776:Int) 1000=1099511627:=rfl;have e4:Int.tdiv (1099511627776:Int) 1=1099511627776:=rfl;rcases hL with rfl | rfl | rfl | rfl<;>omega
   have hq3:¬ Int.tdiv 1099511627776 L<a->0<=a*L/\a*L<=1099511627776:=by have e1:Int.tdiv (1099511627776:Int) 3600000=305419:=rfl;have e2:Int.tdiv (1099511627776:Int) 60000=18325193:=rfl;have e3:Int.tdiv (1099511627776:Int) 1000=1099511627:=rfl;have e4:Int.tdiv (1099511627776:Int) 1=1099511627776:=rfl;rcases hL with rfl | rfl | rfl | rfl<;>omega
   rw[hq];by_cases hlt:Int.tdiv 1099511627776 L<a
   ·rw[dT hlt,cond_true];have:=hq2 hlt;refine mk true v1 (fun _=>?_) (fun h=>by cases h);cases v0 with
    | true=>exact hb rfl
    | false=>have:=hT rfl;omega
   ·rw[dF hlt,cond_false];obtain⟨g2,g3⟩:=hq3 hlt;cases v0 with
    | true=>exact mk true v1 hb (fun h=>by cases h)
    | false =>obtain⟨t1,t2,t3⟩:=hT rfl;rw[acn,cond_true,bX (show -9223372036854775808<=a*L/\a*L<=9223372036854775807 by omega),bX (by omega)];exact mk false _ (fun h=>by cases h) (fun _=>⟨by omega,by omega,by omega⟩)
  have hc:k=0\/k=1\/k=2\/k=3:=by omega
  rcases hc with rfl | rfl | rfl | rfl
  ·exact next a0 3600000 rfl rfl (by decide) h0.1 h0.2 (by simp only[MP];omega) (by simp only[MP];omega)
  ·exact next a1 60000 rfl rfl (by decide) h1.1 h1.2 (by simp only[MP];omega) (by simp only[MP];omega)
  ·exact next a2 1000 rfl rfl (by decide) h2.1 h2.2 (by simp only[MP]) (by simp only[MP];omega)
  ·exact next a3 1 rfl rfl (by decide) h3.1 h3.2 (by simp only[MP];omega) (by simp only[MP];omega)
 ·have:k=4:=by omega
  subst this;rw[dF (show ¬ (((4:Nat):Int)<4) by omega),cond_false];rw[<- hR];cases v0 with
  | true =>have:=hb rfl;simp only[G9];rw[dT (show(1099511627776:Int)<(T:Int) by omega)];rfl
  | false =>
   obtain⟨t1,t2,t3⟩:=hT rfl;simp only[MP]at t1;have:v1=(T:Int):=by omega
   subst this;simp only[G9,cond_false];cases decide ((1099511627776:Int)<(T:Int))<;>rfl
theorem amA(s:anY)(hs:s.length<=1000000):DJ s=some (yZ s):=by
 refine iB rfl (p3I s) MQ rfl (by show 10000000000<_;omega) ?_;rintro(y | ⟨v0,v1,v2,v3⟩ | ⟨v0,v1,v2,v3,v4⟩) hs'
 ·have hs':y=s:=hs';subst hs';simp only[aK,aW,jX];by_cases he:y=[]
  ·subst he;rfl
  ·have:0<y.length:=List.length_pos_iff.2 he;rw[eT (show(y.length:Int)≠0 by omega),cond_false];refine⟨⟨y.length+1,0,0,0,0,0,rfl,by omega,hs,by omega,.inr he,by decide,by decide,by decide,by decide,⟨fun _=>rfl,fun _=>rfl,fun _=>rfl,fun _=>rfl⟩,(fun h=>by cases h),(fun _=>rfl),?_⟩,?_⟩
   ·unfold yZ;cases qG (y.length+1) (-1) y with
    | none=>rfl
    | some t=>simp
   ·show 100+y.length<10000000000;omega
 ·obtain⟨f,a0,a1,a2,a3,T,rfl,hf,hl,⟨g1,g2⟩,g3,h0,h1,h2,h3,hz,hb,hT,hR⟩:=hs';obtain⟨f,rfl⟩:∃m,f=m+1:=⟨f-1,by omega⟩
  simp only[aK,aW,jX];by_cases he:v0=[]
  ·subst he;have hl:0<=v2:=g3.resolve_right (fun h=>h rfl);have e:(qG (f+1) v2 []).map (T + ·)=some T:=by
    rw[qG,show(([]:anY)==[])=true from rfl,cond_true,dF (by omega)];rfl
   rw[e]at hR;rw[show decide ((0:Int)<(([]:anY).length:Int))=false from rfl,cond_false,YS];refine⟨⟨0,a0,a1,a2,a3,T,rfl,by decide,rfl,rfl,h0,h1,h2,h3,hb,fun h=>⟨by have:=hT h;simp only[MP];omega,by decide,by decide⟩,hR⟩,?_⟩;show(4-0:Int).toNat<100+0;decide
  ·have hpos:0<v0.length:=List.length_pos_iff.2 he;rw[dT (show(0:Int)<(v0.length:Int) by omega),cond_true,amx v0 hl];simp only[aD];have hbad:(bif(bif(!(grB v0))then true else decide (grU v0<=v2))then true else(bif grH v0==[48]then(bif decide (0<=v2)then true else decide ((0:Int)<((grR v0).length:Int)))else false))=G8 v2 v0:=by
    unfold G8 grB grU grH grR;cases(gX v0).2==0<;>rfl
   rw[hbad];cases hq:G8 v2 v0 with
   | true=>rw[afI he hq]at hR;exact hR
   | false =>
    obtain⟨q1,q2,q3⟩:=anU hq;have q1':((gX v0).2==0)=false:=by simpa using q1
    obtain⟨x1,x2,x3⟩:=axl v0;have eH:grH v0=gH v0:=by unfold grH;rw[q1'];rfl
    have eR:grR v0=gR v0:=by unfold grR;rw[q1'];rfl
    have hD:(gH v0).all fC=true:=by unfold eP at q2;rw[abK]at q2;exact q2.2
    have hRl:(gR v0).length<f:=by rw[ab2];omega
    have hRs:(gR v0).length<=1000000:=by rw[ab2];omega
    have hRm:(gR v0).length<v0.length:=by rw[ab2];omega
    rw[afH he hq]at hR;rw[eH,eR,JC (gH v0) (Nat.le_trans (as3 v0) hl) hD];simp only[aD,cond_false];have hU:(gX v0).1=0\/(gX v0).1=1\/(gX v0).1=2\/(gX v0).1=3:=by omega
    have hv:decide ((1099511627776:Int)<jc (gH v0))=decide ((1099511627776:Int)<(bD (gH v0) 0:Int)):=by
     unfold jc;by_cases h7:bD (gH v0) 0<72057594037927936
     ·rw[Ci h7]
     ·rw[Ql h7];exact decide_eq_decide.2 (by omega)
    have next:∀(b':Bool) (c0 c1 c2 c3:Int),(0<=c0/\c0<=1099511627776)->(0<=c1/\c1<=1099511627776)->(0<=c2/\c2<=1099511627776)->(0<=c3/\c3<=1099511627776)->(((gX v0).1:Int)<0->c0=0)/\(((gX v0).1:Int)<1->c1=0)/\(((gX v0).1:Int)<2->c2=0)/\(((gX v0).1:Int)<3->c3=0)->(b'=true->1099511627776<T+bD (gH v0) 0*bS (gX v0).1)->(b'=false->c0*3600000+c1*60000+c2*1000+c3=((T+bD (gH v0) 0*bS (gX v0).1:Nat):Int)) ->
      p3I s (.h0 (gR v0) b' ((gX v0).1:Int) [c0,c1,c2,c3])/\MQ (.h0 (gR v0) b' ((gX v0).1:Int) [c0,c1,c2,c3])<MQ (.h0 v0 v1 v2 [a0,a1,a2,a3]):=fun b' c0 c1 c2 c3 p0 p1 p2 p3 pz pb pT =>
     ⟨⟨f,c0,c1,c2,c3,_,rfl,hRl,hRs,by omega,.inl (by omega),p0,p1,p2,p3,pz,pb,pT,hR⟩,by show 100+(gR v0).length<100+v0.length;omega⟩
    rw[hv];unfold grU;have kU:(decide ((0:Int)<=((gX v0).1:Int))&&decide (((gX v0).1:Int)<4))=true:=by rw[dT (by omega),dT (by omega)];rfl
    have nU:Nat.blt (gX v0).1 ([a0,a1,a2,a3]:List Int).length=true:=by simp[Nat.blt];omega
    simp only[aqI,kU,nU,ak];by_cases hbig:(1099511627776:Int)<(bD (gH v0) 0:Int)
    ·rw[dT hbig,cond_true];have hL:=ab4 (gX v0).1;have hm:bD (gH v0) 0<=bD (gH v0) 0*bS (gX v0).1:=aj8 _ hL.1;rcases hU with hu | hu | hu | hu<;>rw[hu]at next q3 hm ⊢
     ·exact next true 0 a1 a2 a3 ⟨by decide,by decide⟩ h1 h2 h3 ⟨fun _=>rfl,fun _=>hz.2.1 (by omega),fun _=>hz.2.2.1 (by omega),fun _=>hz.2.2.2 (by omega)⟩ (fun _=>by omega) (fun h=>by cases h)
     ·exact next true a0 0 a2 a3 h0 ⟨by decide,by decide⟩ h2 h3 ⟨fun h=>by omega,fun _=>rfl,fun _=>hz.2.2.1 (by omega),fun _=>hz.2.2.2 (by omega)⟩ (fun _=>by omega) (fun h=>by cases h)
     ·exact next true a0 a1 0 a3 h0 h1 ⟨by decide,by decide⟩ h3 ⟨fun h=>by omega,fun h=>by omega,fun _=>rfl,fun _=>hz.2.2.2 (by omega)⟩ (fun _=>by omega) (fun h=>by cases h)
     ·exact next true a0 a1 a2 0 h0 h1 h2 ⟨by decide,by decide⟩ ⟨fun h=>by omega,fun h=>by omega,fun h=>by omega,fun _=>rfl⟩ (fun _=>by omega) (fun h=>by cases h)
    ·rw[dF hbig,cond_false];have hr:jc (gH v0)=(bD (gH v0) 0:Int):=by unfold jc;rw[Ci (by omega)]
     have hv0:0<=jc (gH v0)/\jc (gH v0)<=1099511627776:=by rw[hr];omega
     have hbt:v1=true->1099511627776<T+bD (gH v0) 0*bS (gX v0).1:=fun h=>by have:=hb h;omega
     rcases hU with hu | hu | hu | hu<;>rw[hu]at next q3 hbt ⊢
     ·refine next v1 (jc (gH v0)) a1 a2 a3 hv0 h1 h2 h3 ⟨fun h=>by omega,fun _=>hz.2.1 (by omega),fun _=>hz.2.2.1 (by omega),fun _=>hz.2.2.2 (by omega)⟩ hbt (fun h=>?_);have:=hT h;have z0:=hz.1 (by omega);simp only[bS];omega
     ·refine next v1 a0 (jc (gH v0)) a2 a3 h0 hv0 h2 h3 ⟨fun h=>by omega,fun h=>by omega,fun _=>hz.2.2.1 (by omega),fun _=>hz.2.2.2 (by omega)⟩ hbt (fun h=>?_);have:=hT h;have z0:=hz.2.1 (by omega);simp only[bS];omega
     ·refine next v1 a0 a1 (jc (gH v0)) a3 h0 h1 hv0 h3 ⟨fun h=>by omega,fun h=>by omega,fun h=>by omega,fun _=>hz.2.2.2 (by omega)⟩ hbt (fun h=>?_);have:=hT h;have z0:=hz.2.2.1 (by omega);simp only[bS];omega
     ·refine next v1 a0 a1 a2 (jc (gH v0)) h0 h1 h2 hv0 ⟨fun h=>by omega,fun h=>by omega,fun h=>by omega,fun h=>by omega⟩ hbt (fun h=>?_);have:=hT h;have z0:=hz.2.2.2 (by omega);simp only[bS];omega
 ·exact aks s v0 v1 v2 v3 v4 hs'
theorem aal(i:Nat){n:Int}(h0:0<=n)(h1:n<=1099511627776):au (Int.tdiv n (bS i:Int))=n / (bS i:Int)/\0<=n / (bS i:Int)/\n / (bS i:Int)<=n/\(n / (bS i:Int))*(bS i:Int)=n-n%(bS i:Int)/\0<=n%(bS i:Int)/\n%(bS i:Int)<=n/\((bS i:Int)==0)=false:=by have hL:=ab4 i;have a1:=Int.ediv_nonneg h0 (show(0:Int)<=(bS i:Int) by omega);have a2:=Int.ediv_le_self (bS i:Int) h0;have a3:=Int.mul_ediv_add_emod n (bS i:Int);have a4:=Int.emod_nonneg n (show(bS i:Int)≠0 by omega);have a5:n / (bS i:Int)*(bS i:Int)=(bS i:Int)*(n / (bS i:Int)):=Int.mul_comm _ _;have a6:0<=(bS i:Int)*(n / (bS i:Int)):=Int.mul_nonneg (by omega) a1;refine⟨by rw[afQ h0,aT (by omega) (by omega)],a1,a2,by omega,a4,by omega,eT (by omega)⟩
theorem axL(i:Nat):(Bq i).length<=2:=by unfold Bq;split<;>decide
theorem zero_mod(i:Nat){n:Int}(h:n / (bS i:Int)=0):n%(bS i:Int)=n:=by have:=Int.mul_ediv_add_emod n (bS i:Int);rw[h,Int.mul_zero]at this;omega
theorem azb(n:Int)(i:Nat):(Qm n i).length<=23:=by unfold Qm;have:=sH (n / (bS i:Int));have:=axL i;grind
theorem aqJ(x:Int):Fy x=some (zF x):=by
 refine iB rfl (fun | .e y=>y=x | .h0 v0 v1 v2 v3 v4=>(0<=v0/\v0<=1099511627776)/\v3=[3600000,60000,1000,1]/\v4=[[104],[109],[115],[109,115]]/\∃i:Nat,v2=(i:Int)/\i<=4/\v1.length<=30*i/\v1++JW (4-i) i v0=zF x) (fun | .e _=>100 | .h0 _ _ v2 _ _=>(4-v2).toNat) rfl (by show 100<_;omega) ?_;rintro(y | ⟨v0,v1,v2,v3,v4⟩) hs
 ·have hs:y=x:=hs;subst hs;simp only[aK,aW,qX];unfold zF;cases hb:(bif decide (y<0)then true else decide ((1099511627776:Int)<y))with
  | true=>rfl
  | false =>
   have hx:0<=y/\y<=1099511627776:=by grind
   rw[cond_false,cond_false];cases hz:y==0 with
   | true=>rfl
   | false =>rw[cond_false,YS,amy];exact⟨⟨hx,rfl,rfl,0,rfl,by decide,ab8 _,rfl⟩,by show(4-0:Int).toNat<100;decide⟩
 ·obtain⟨⟨h0,h1⟩,rfl,rfl,i,rfl,h4,hl,h5⟩:=hs;simp only[aK,aW,qX,aqI];by_cases hi:i<4
  ·have eL:([3600000,60000,1000,1]:List Int).getD i (dflt .int)=(bS i:Int):=by
    have:i=0\/i=1\/i=2\/i=3:=by omega
    rcases this with rfl | rfl | rfl | rfl<;>rfl
   have eN:([[104],[109],[115],[109,115]]:List (anY)).getD i (dflt .str)=Bq i:=by
    have:i=0\/i=1\/i=2\/i=3:=by omega
    rcases this with rfl | rfl | rfl | rfl<;>rfl
   have k1:decide ((0:Int)<=(i:Int))=true:=dT (by omega);have n1:Nat.blt i ([3600000,60000,1000,1]:List Int).length=true:=by simp[Nat.blt];omega
   have n2:Nat.blt i ([[104],[109],[115],[109,115]]:List (anY)).length=true:=by simp[Nat.blt];omega
   obtain⟨a1,a2,a3,a4,a5,a6,a7⟩:=aal i h0 h1;have hT:=sH (v0 / (bS i:Int));have hn:=axL i;rw[show 4-i=(4-(i+1))+1 by omega,JW]at h5;unfold Qm at h5;rw[dT (show(i:Int)<4 by omega)];simp only[k1,n1,n2,ak,cond_true,acf,eL,eN,a1,a7,acn,Int.tmod_eq_emod_of_nonneg h0,bX (show -9223372036854775808<=(i:Int)+1/\(i:Int)+1<=9223372036854775807 by omega),Hr (v0 / (bS i:Int)) (by omega),aD];rw[dT (show v1.length+(bA (v0 / (bS i:Int))).length<=aA by rw[ms];omega),dT (show(v1++bA (v0 / (bS i:Int))).length+(Bq i).length<=aA by rw[ms,List.length_append];omega),ak,ak];by_cases hk:0<v0 / (bS i:Int)
   ·rw[dT hk,cond_true]at h5;rw[dT hk,cond_true];refine⟨⟨⟨a5,by omega⟩,trivial,trivial,i+1,rfl,by omega,?_,by rw[<- h5];simp only[ab9]⟩,?_⟩
    ·rw[List.length_append,List.length_append];omega
    ·show(4-((i:Int)+1)).toNat<(4-(i:Int)).toNat;omega
   ·rw[dF hk,cond_false,afn]at h5;rw[dF hk,cond_false];refine⟨⟨⟨a5,by omega⟩,trivial,trivial,i+1,rfl,by omega,by omega,h5⟩,?_⟩;show(4-((i:Int)+1)).toNat<(4-(i:Int)).toNat;omega
  ·have:i=4:=by omega
   subst this;rw[dF (show ¬ (((4:Nat):Int)<4) by omega),cond_false];rw[<- h5];show v1=v1++[];rw[acg]
theorem YT(c:Int):vP c=some (uw c):=dh rfl rfl
def C8(o:Option (anY×Nat))(out:anY)(a:Nat):anY×Int:=match o with
 | none=>([], -1)
 | some q=>(out++q.1,(a:Int)+(q.2:Int))
theorem Wh{s:anY}{a:Nat}(h:a<s.length):cut s (a:Int) ((a+1:Nat):Int)=[s.getD a 0]/\bN s (a:Int) ((a+1:Nat):Int)=true:=by refine⟨?_,by simp[bN];omega⟩;unfold cut;rw[aaY,aaY,drop_at h,show a+1-a=1 by omega];rfl
def pcI(s:anY)(a:Nat):qc->Prop
 | .e y0 y1=>y0=s/\y1=(a:Int)
 | .h0 v0 v1 v2=>v0=s/\v1=(a:Int)/\∃i:Nat,v2=(i:Int)/\a+1<=i/\i<=s.length/\jf 39 (s.drop (a+1))+(a+1)=i+jf 39 (s.drop i)/\C8 (bif decide (jf 39 (s.drop (a+1))<(s.drop (a+1)).length)then some ((s.drop (a+1)).take (jf 39 (s.drop (a+1))),jf 39 (s.drop (a+1))+2)else none) [] a=C8 (MF (s.drop a)) [] a
 | .h1 v0 v1 v2=>v0=s/\∃b:Nat,v1=(b:Int)/\b<=s.length/\v2.length<=b/\C8 (oI (s.drop b)) v2 b=C8 (MF (s.drop a)) [] a
def pcM(s:anY):qc->Nat
 | .e _ _=>10000000000
 | .h0 _ _ v2=>((s.length:Int)-v2).toNat
 | .h1 _ v1 _=>((s.length:Int)-v1).toNat
theorem amB(s:anY)(hs:s.length<=1000000)(a:Nat)(ha:a<s.length):Dt s (a:Int)=some (C8 (MF (s.drop a)) [] a):=by
 refine iB rfl (pcI s a) (pcM s) ⟨rfl,rfl⟩ (by show 10000000000<_;omega) ?_;have e1:au ((a:Int)+1)=((a+1:Nat):Int):=by rw[aT (by omega) (by omega)];omega
 rintro(⟨y0,y1⟩ | ⟨v0,v1,v2⟩ | ⟨v0,v1,v2⟩) hs'
 ·obtain⟨rfl,rfl⟩:=hs';have e2:au ((a:Int)+2)=((a+2:Nat):Int):=by rw[aT (by omega) (by omega)];omega
  simp only[aK,aW,lZ,e1,e2];rw[wS];refine⟨by omega,by omega,?_⟩;rw[aaY];have hp:=drop_at ha;have hpc:MF (y0.drop a)=bif(((y0.getD a 0).toNat:Int)==92)then(match y0.drop (a+1)with | []=>none | d::_=>some ([d],2))else bif(((y0.getD a 0).toNat:Int)==39)then(bif decide (jf 39 (y0.drop (a+1))<(y0.drop (a+1)).length)then some ((y0.drop (a+1)).take (jf 39 (y0.drop (a+1))),jf 39 (y0.drop (a+1))+2)else none)else bif(((y0.getD a 0).toNat:Int)!=34)then some ([y0.getD a 0],1)else(oI (y0.drop (a+1))).map fun q=>(q.1,q.2+1):=by rw[hp];rfl
  cases Hg:(((y0.getD a 0).toNat:Int)==92)with
  | true =>
   rw[Hg,cond_true]at hpc;rw[cond_true];by_cases hl:a+1=y0.length
   ·rw[jL (show((a+1:Nat):Int)=(y0.length:Int) by omega),cond_true,hpc,abb (show y0.length<=a+1 by omega)];rfl
   ·obtain⟨q1,q2⟩:=Wh (show a+1<y0.length by omega);rw[eT (show((a+1:Nat):Int)≠(y0.length:Int) by omega),cond_false,q2,ak,q1,hpc,drop_at (show a+1<y0.length by omega)];rfl
  | false =>
   rw[Hg,cond_false]at hpc;rw[cond_false];cases h39:(((y0.getD a 0).toNat:Int)==39)with
   | true =>rw[h39,cond_true]at hpc;rw[cond_true];refine⟨⟨rfl,rfl,a+1,rfl,ab8 _,by omega,by omega,by rw[hpc]⟩,?_⟩;show((y0.length:Int)-((a+1:Nat):Int)).toNat<10000000000;omega
   | false =>
    rw[h39,cond_false]at hpc;rw[cond_false];cases J4:(((y0.getD a 0).toNat:Int)!=34)with
    | true =>obtain⟨q1,q2⟩:=Wh ha;rw[J4,cond_true]at hpc;rw[cond_true,q2,ak,q1,hpc];rfl
    | false =>
     rw[J4,cond_false]at hpc;rw[cond_false];refine⟨⟨rfl,a+1,rfl,by omega,aa4 _,?_⟩,?_⟩
     ·rw[hpc];cases oI (y0.drop (a+1))with
      | none=>rfl
      | some q=>simp only[C8,ahT,afn];rw[show(a:Int)+((q.2+1:Nat):Int)=((a+1:Nat):Int)+(q.2:Int) by omega]
     ·show((y0.length:Int)-((a+1:Nat):Int)).toNat<10000000000;omega
 ·obtain⟨rfl,rfl,i,rfl,h2,h3,h4,h5⟩:=hs';simp only[aK,aW,lZ,e1];by_cases hi:i<v0.length
  ·have e3:au ((i:Int)+1)=((i+1:Nat):Int):=by rw[aT (by omega) (by omega)];omega
   rw[dT (show(i:Int)<(v0.length:Int) by omega),cond_true,wS];refine⟨by omega,by omega,?_⟩;rw[aaY,e3];rw[drop_at hi,jf]at h4;cases hc:((v0.getD i 0).toNat:Int)==39 with
   | true =>
    rw[hc,cond_true]at h4;have k:bN v0 ((a+1:Nat):Int) (i:Int)=true:=by simp[bN];omega
    rw[cond_true,k,ak,<- h5,dT (show jf 39 (v0.drop (a+1))<(v0.drop (a+1)).length by rw[ach];omega)];show(cut v0 ((a+1:Nat):Int) (i:Int),((i+1:Nat):Int))=([]++(v0.drop (a+1)).take (jf 39 (v0.drop (a+1))),(a:Int)+((jf 39 (v0.drop (a+1))+2:Nat):Int))
    unfold cut;rw[aaY,aaY,show i-(a+1)=jf 39 (v0.drop (a+1)) by omega,show((i+1:Nat):Int)=(a:Int)+((jf 39 (v0.drop (a+1))+2:Nat):Int) by omega];rfl
   | false =>rw[hc,cond_false]at h4;rw[cond_false];refine⟨⟨rfl,rfl,i+1,rfl,by omega,by omega,by omega,h5⟩,?_⟩;show((v0.length:Int)-((i+1:Nat):Int)).toNat<((v0.length:Int)-(i:Int)).toNat;omega
  ·rw[abb (show v0.length<=i by omega)]at h4;have h4:jf 39 (v0.drop (a+1))+(a+1)=i+0:=h4;rw[dF (show ¬ (i:Int)<(v0.length:Int) by omega),cond_false,<- h5,dF (show ¬ jf 39 (v0.drop (a+1))<(v0.drop (a+1)).length by rw[ach];omega)];rfl
 ·obtain⟨rfl,b,rfl,h3,h4,h5⟩:=hs';simp only[aK,aW,lZ];by_cases hi:b<v0.length
  ·have e1:au ((b:Int)+1)=((b+1:Nat):Int):=by rw[aT (by omega) (by omega)];omega
   have e2:au (((b+1:Nat):Int)+1)=((b+2:Nat):Int):=by rw[aT (by omega) (by omega)];omega
   obtain⟨t1,k1⟩:=Wh hi;have kb:fU v0 (b:Int)=true:=by simp[fU];omega
   rw[dT (show(b:Int)<(v0.length:Int) by omega),cond_true,wS];refine⟨by omega,by omega,?_⟩;rw[aaY];simp only[e1,e2,t1,k1,kb,ak];have go:∀(c:Nat) (out:anY),c<=v0.length->b<c->out.length<=c->C8 (oI (v0.drop c)) out c=C8 (MF (v0.drop a)) [] a->pcI v0 a (.h1 v0 (c:Int) out)/\pcM v0 (.h1 v0 (c:Int) out)<pcM v0 (.h1 v0 (b:Int) v2):=fun c out q1 q2 q3 q4=>⟨⟨rfl,c,rfl,q1,q3,q4⟩,by show((v0.length:Int)-(c:Int)).toNat<((v0.length:Int)-(b:Int)).toNat;omega⟩
   by_cases hl:b+1<v0.length
   ·obtain⟨t2,k2⟩:=Wh hl;rw[drop_at hi,drop_at hl,oI,<- drop_at hl]at h5;cases J4:((v0.getD b 0).toNat:Int)==34 with
    | true =>
     rw[J4]at h5;rw[cond_true,<- h5];show(v2,((b+1:Nat):Int))=(v2++[],(b:Int)+((1:Nat):Int))
     rw[acg];rfl
    | false =>
     rw[J4]at h5;simp only[cond_false]at h5 ⊢;cases Hg:((v0.getD b 0).toNat:Int)==92 with
     | false =>
      rw[Hg]at h5;rw[cond_false,dT (show v2.length+[v0.getD b 0].length<=aA by rw[ms,aa9];omega),ak];refine go (b+1) (v2++[v0.getD b 0]) (by omega) (by omega) (by rw[List.length_append,aa9];omega) ?_;rw[<- h5];cases hd:oI (v0.drop (b+1))with
      | none=>rfl
      | some q =>simp only[cond_false,C8,ahT,ab9,afL];rw[show(b:Int)+((q.2+1:Nat):Int)=((b+1:Nat):Int)+(q.2:Int) by omega]
     | true =>
      rw[Hg]at h5;have h5:C8 ((oI (v0.drop (b+1+1))).map fun q=>((bif(bif(((v0.getD (b+1) 0).toNat:Nat):Int)!=34 then(((v0.getD (b+1) 0).toNat:Nat):Int)!=92 else false)then[v0.getD b 0]else[])++v0.getD (b+1) 0::q.1,q.2+2)) v2 b=C8 (MF (v0.drop a)) [] a:=h5;have k3:bN v0 ((b+1:Nat):Int) ((b+2:Nat):Int)=true:=k2;have t3:cut v0 ((b+1:Nat):Int) ((b+2:Nat):Int)=[v0.getD (b+1) 0]:=t2;rw[cond_true,eT (show((b+1:Nat):Int)≠(v0.length:Int) by omega),cond_false,wS];refine⟨by omega,by omega,?_⟩;simp only[aaY,dT (show(0:Int)<=((b+1:Nat):Int) by omega),dT (show((b+1:Nat):Int)<(v0.length:Int) by omega),acf,aci,ak,k3,t3];rw[dT (show v2.length+[v0.getD b 0].length<=aA by rw[ms,aa9];omega),dT (show(v2++[v0.getD b 0]).length+[v0.getD (b+1) 0].length<=aA by rw[ms,List.length_append,aa9,aa9];omega),
       dT (show v2.length+[v0.getD (b+1) 0].length<=aA by rw[ms,aa9];omega)]
      simp only[ak];cases hq:(bif((v0.getD (b+1) 0).toNat:Int)!=34 then((v0.getD (b+1) 0).toNat:Int)!=92 else false)with
      | true =>
       rw[hq]at h5;refine go (b+2) ((v2++[v0.getD b 0])++[v0.getD (b+1) 0]) (by omega) (by omega) (by simp only[List.length_append,aa9];omega) ?_;rw[<- h5,show b+1+1=b+2 by omega];cases hd:oI (v0.drop (b+2))with
       | none=>rfl
       | some q =>simp only[cond_true,C8,ahT,ab9,aft,afn];rw[show(b:Int)+((q.2+2:Nat):Int)=((b+2:Nat):Int)+(q.2:Int) by omega]
      | false =>
       rw[hq]at h5;refine go (b+2) (v2++[v0.getD (b+1) 0]) (by omega) (by omega) (by simp only[List.length_append,aa9];omega) ?_;rw[<- h5,show b+1+1=b+2 by omega];cases hd:oI (v0.drop (b+2))with
       | none=>rfl
       | some q =>simp only[cond_false,C8,ahT,ab9,afL,afn];rw[show(b:Int)+((q.2+2:Nat):Int)=((b+2:Nat):Int)+(q.2:Int) by omega]
   ·have hl':b+1=v0.length:=by omega
    rw[drop_at hi,abb (show v0.length<=b+1 by omega),oI]at h5;cases J4:((v0.getD b 0).toNat:Int)==34 with
    | true =>
     rw[J4]at h5;rw[cond_true,<- h5];show(v2,((b+1:Nat):Int))=(v2++[],(b:Int)+((1:Nat):Int))
     rw[acg];rfl
    | false =>
     rw[J4]at h5;have h5:C8 none v2 b=C8 (MF (v0.drop a)) [] a:=h5;simp only[cond_false];cases Hg:((v0.getD b 0).toNat:Int)==92 with
     | true =>rw[cond_true,jL (show((b+1:Nat):Int)=(v0.length:Int) by omega),cond_true,<- h5];rfl
     | false =>rw[cond_false,dT (show v2.length+[v0.getD b 0].length<=aA by rw[ms,aa9];omega),ak];refine go (b+1) (v2++[v0.getD b 0]) (by omega) (by omega) (by rw[List.length_append,aa9];omega) ?_;rw[<- h5,abb (show v0.length<=b+1 by omega)];rfl
  ·rw[abb (show v0.length<=b by omega)]at h5;rw[dF (show ¬ (b:Int)<(v0.length:Int) by omega),cond_false,<- h5];rfl
abbrev spR(s:anY):List (anY)×Int:=(VX (qH s),adV (qH s))
def swI(s:anY):qd->Prop
 | .e y=>y=s
 | .h0 v0 v1 v2 v3=>v0=s/\v1=v3.length/\∃i n:Nat,v2=(i:Int)/\i<=s.length/\s.length-i<n/\v3.length<=2*i+1/\kF n (s.drop i) [] false v3=qH s
 | .h1 v0 _ v2 v3 v4=>v0=s/\∃(i n:Nat) (b:Bool),v2=(i:Int)/\i<=s.length/\s.length-i<n/\v4.length<=2*i+1/\(b=true->v4.length<=2*i)/\v3.length<=i/\(b=true\/i<s.length/\uw (((s.getD i 0).toNat:Nat):Int)=false)/\kF n (s.drop i) v3 b v4=qH s
def swM(s:anY):qd->Nat
 | .e _=>10000000000
 | .h0 _ _ v2 _=>3*((s.length:Int)-v2).toNat+2
 | .h1 _ _ v2 _ _=>3*((s.length:Int)-v2).toNat+(bif(bif decide (v2<(s.length:Int))then !(uw (((s.getD v2.toNat 0).toNat:Nat):Int))else false)then 1 else 3)
theorem amC(s:anY)(hs:s.length<=1000000):vQ s=some (spR s):=by
 refine iB rfl (swI s) (swM s) rfl (by show 10000000000<_;omega) ?_;rintro(y | ⟨v0,v1,v2,v3⟩ | ⟨v0,v1,v2,v3,v4⟩) hs'
 ·have hs':y=s:=hs';subst hs';refine⟨⟨rfl,rfl,0,y.length+1,rfl,aa4 _,by omega,by decide,rfl⟩,?_⟩;show 3*((y.length:Int)-0).toNat+2<10000000000;omega
 ·obtain⟨rfl,rfl,i,n,rfl,h1,h2,h3,h4⟩:=hs';obtain⟨n,rfl⟩:∃m,n=m+1:=⟨n-1,by omega⟩
  simp only[aK,aW,qg,YT,aD];by_cases hi:i<v0.length
  ·have e1:au ((i:Int)+1)=((i+1:Nat):Int):=by rw[aT (by omega) (by omega)];omega
   rw[dT (show(i:Int)<(v0.length:Int) by omega),cond_true,wS];refine⟨by omega,by omega,?_⟩;rw[aaY,e1];cases hb:uw (((v0.getD i 0).toNat:Nat):Int)with
   | true =>rw[JD hi hb]at h4;rw[cond_true];refine⟨⟨rfl,rfl,i+1,n,rfl,by omega,by omega,by omega,h4⟩,?_⟩;show 3*((v0.length:Int)-((i+1:Nat):Int)).toNat+2<3*((v0.length:Int)-(i:Int)).toNat+2;omega
   | false =>rw[cond_false];refine⟨⟨rfl,i,n+1,false,rfl,h1,h2,h3,(fun h=>by cases h),aa4 _,.inr ⟨hi,hb⟩,h4⟩,?_⟩;show 3*((v0.length:Int)-(i:Int)).toNat+(bif(bif decide ((i:Int)<(v0.length:Int))then !(uw (((v0.getD (i:Int).toNat 0).toNat:Nat):Int))else false)then 1 else 3)<3*((v0.length:Int)-(i:Int)).toNat+2;rw[dT (show(i:Int)<(v0.length:Int) by omega),aaY,hb];show _+1<_;omega
  ·rw[N7 (by omega)]at h4;rw[dF (show ¬ (i:Int)<(v0.length:Int) by omega),cond_false];unfold spR;rw[<- h4];simp only[VX,adV,cond_false];cases decide ((32:Int)<(v3.length:Int))<;>rfl
 ·obtain⟨rfl,i,n,b,rfl,h1,h2,h3,h3b,h4,h5,h6⟩:=hs';obtain⟨n,rfl⟩:∃m,n=m+1:=⟨n-1,by omega⟩
  simp only[aK,aW,qg,YT,aff,aci,ak,dO,aaY];have kk:((decide ((0:Int)<=(i:Int))&&decide ((i:Int)<(v0.length:Int)))||!(decide ((i:Int)<(v0.length:Int))))=true:=(ckD i v0 false).2;rw[kk,ak];have back:(b=true->kF n (v0.drop (i+1)) [] false (v4++[v3])=qH v0/\i<v0.length/\uw (((v0.getD i 0).toNat:Nat):Int)=true\/¬ i<v0.length)->b=true->(kF (n+1) (v0.drop i) [] false (v4++[v3])=qH v0)->(swI v0 (.h0 v0 (v4.length+([v3]:List (anY)).length) (i:Int) (v4++[v3]))):=fun _ hb hq=>⟨rfl,by rw[List.length_append],i,n+1,rfl,h1,h2,by rw[List.length_append,aa9];have:=h3b hb;omega,hq⟩
  have hm:∀b',(bif(bif decide ((i:Int)<(v0.length:Int))then !(uw (((v0.getD (i:Int).toNat 0).toNat:Nat):Int))else false)then 1 else 3)=b'->swM v0 (.h1 v0 v1 (i:Int) v3 v4)=3*((v0.length:Int)-(i:Int)).toNat+b':=fun b' e=>by rw[<- e];rfl
  by_cases hi:i<v0.length
  ·have hd:=dT (show(i:Int)<(v0.length:Int) by omega);cases hb:uw (((v0.getD i 0).toNat:Nat):Int)with
   | true =>
    have hbt:b=true:=by
     rcases h5 with h | ⟨_,h⟩
     ·exact h
     ·rw[hb]at h;cases h
    subst hbt;have hm3:=hm 3 (by rw[hd,aaY,hb];rfl);rw[JD hi hb]at h6;have h6:kF n (v0.drop (i+1)) [] false (v4++[v3])=qH v0:=h6;rw[hd,cond_true,ab7,cond_false,dT (show(v4.length+([v3]:List (anY)).length)*16<=av by rw[mb,aa9];have:=h3b rfl;omega),ak];refine⟨back (fun _=>.inl ⟨h6,hi,hb⟩) rfl (by rw[JD hi hb];exact h6),?_⟩;rw[hm3];show 3*((v0.length:Int)-(i:Int)).toNat+2<_;omega
   | false =>
    have hm1:=hm 1 (by rw[hd,aaY,hb];rfl);rw[YP hi hb]at h6;rw[hd,cond_true,acn,cond_true,amB v0 hs i hi];simp only[aD];cases hq:MF (v0.drop i)with
    | none =>rw[hq]at h6;have h6:none=qH v0:=h6;show(([]:List (anY)),(3:Int))=spR v0;unfold spR;rw[<- h6];rfl
    | some q =>
     rw[hq]at h6;have h6:kF n (v0.drop (i+q.2)) (v3++q.1) true v4=qH v0:=h6;obtain⟨q1,q2,q3⟩:=atd hq;rw[ach]at q1;have ep:C8 (some q) [] i=(q.1,((i+q.2:Nat):Int)):=by show(([]:anY)++q.1,(i:Int)+(q.2:Int))=_;rw[afn,show(i:Int)+(q.2:Int)=((i+q.2:Nat):Int) by omega]
     rw[ep];dsimp only;rw[dF (show ¬ ((i+q.2:Nat):Int)<0 by omega),cond_false,dT (show v3.length+q.1.length<=aA by rw[ms];omega),ak];refine⟨⟨rfl,i+q.2,n,true,rfl,by omega,by omega,by omega,fun _=>by omega,by rw[List.length_append];omega,.inl rfl,h6⟩,?_⟩;rw[hm1];show 3*((v0.length:Int)-((i+q.2:Nat):Int)).toNat+(bif _ then 1 else 3)<_;generalize (bif decide (((i+q.2:Nat):Int)<(v0.length:Int))then !(uw (((v0.getD ((i+q.2:Nat):Int).toNat 0).toNat:Nat):Int))else false)=bb;cases bb<;>simp only[cond_true,cond_false]<;>omega
  ·have hd:=dF (show ¬ (i:Int)<(v0.length:Int) by omega);have hbt:b=true:=by
    rcases h5 with h | ⟨h,_⟩
    ·exact h
    ·exact absurd h hi
   subst hbt;have hm3:=hm 3 (by rw[hd];rfl);rw[N7 (by omega)]at h6;rw[hd,cond_false,cond_false,dT (show(v4.length+([v3]:List (anY)).length)*16<=av by rw[mb,aa9];have:=h3b rfl;omega),ak];refine⟨back (fun _=>.inr hi) rfl (by rw[N7 (by omega)];exact h6),?_⟩;rw[hm3];show 3*((v0.length:Int)-(i:Int)).toNat+2<_;omega
def baI(s:anY):qR->Prop
 | .e y=>y=s
 | .h0 v0 v1 v2=>v0=s/\v1=Lb/\∃i:Nat,v2=(i:Int)/\i<=s.length/\(((s.drop i).all fun c=>okC ((c.toNat:Nat):Int))&&!(s==[]))=Ar s
 | .h1 v0 v1 v2 v3 v4 v5=>v0=s/\v1=Lb/\∃i k:Nat,v2=(i:Int)/\i<s.length/\v5=(k:Int)/\k<=10/\(v4||((Lb.drop k).any fun m=>((m.toNat:Nat):Int)==v3))=okC (((s.getD i 0).toNat:Nat):Int)/\(((s.drop i).all fun c=>okC ((c.toNat:Nat):Int))&&!(s==[]))=Ar s
def baM(s:anY):qR->Nat
 | .e _=>1000000000000
 | .h0 _ _ v2=>100*((s.length:Int)-v2).toNat+50
 | .h1 _ _ v2 _ _ v5=>100*((s.length:Int)-v2).toNat+(10-v5).toNat
theorem aqK(s:anY)(hs:s.length<=1000000):xQ s=some (Ar s):=by
 refine iB rfl (baI s) (baM s) rfl (by show 1000000000000<_;omega) ?_;rintro(y | ⟨v0,v1,v2⟩ | ⟨v0,v1,v2,v3,v4,v5⟩) hs'
 ·have hs':y=s:=hs';subst hs';refine⟨⟨rfl,rfl,0,rfl,aa4 _,rfl⟩,?_⟩;show 100*((y.length:Int)-0).toNat+50<1000000000000;omega
 ·obtain⟨rfl,rfl,i,rfl,h1,h2⟩:=hs';simp only[aK,aW,qU];by_cases hi:i<v0.length
  ·rw[dT (show(i:Int)<(v0.length:Int) by omega),cond_true,wS];refine⟨by omega,by omega,?_⟩;rw[aaY];refine⟨⟨rfl,rfl,i,0,rfl,hi,rfl,by decide,rfl,h2⟩,?_⟩;show 100*((v0.length:Int)-(i:Int)).toNat+(10-0:Int).toNat<100*((v0.length:Int)-(i:Int)).toNat+50;grind
  ·rw[abb (show v0.length<=i by omega),List.all_nil,afq]at h2;rw[dF (show ¬ (i:Int)<(v0.length:Int) by omega),cond_false,<- h2];cases v0 with
   | nil=>rfl
   | cons c t=>grind
 ·obtain⟨rfl,rfl,i,k,rfl,hi,rfl,hk,h3,h4⟩:=hs';simp only[aK,aW,qU];have e1:au ((k:Int)+1)=((k+1:Nat):Int):=by rw[aT (by omega) (by omega)];omega
  have e2:au ((i:Int)+1)=((i+1:Nat):Int):=by rw[aT (by omega) (by omega)];omega
  rw[e1,e2];by_cases hk2:k<10
  ·have hk3:k<Lb.length:=hk2;rw[dT (show(k:Int)<(Lb.length:Int) by omega),cond_true,dT (show(0:Int)<=(k:Int) by omega),acf,aci,ak,aaY];refine⟨⟨rfl,rfl,i,k+1,rfl,hi,rfl,by omega,?_,h4⟩,?_⟩
   ·rw[<- h3,drop_at hk3,aj1];cases v4<;>rfl
   ·show 100*((v0.length:Int)-(i:Int)).toNat+(10-((k+1:Nat):Int)).toNat<100*((v0.length:Int)-(i:Int)).toNat+(10-(k:Int)).toNat;omega
  ·rw[abb (show Lb.length<=k by show 10<=k;omega),List.any_nil,Bool.or_false]at h3;rw[dF (show ¬ (k:Int)<(Lb.length:Int) by show ¬ (k:Int)<10;omega),cond_false];rw[drop_at hi,afo,<- h3]at h4;cases v4 with
   | false=>exact h4
   | true =>rw[afq]at h4;rw[ab7,cond_false];refine⟨⟨rfl,rfl,i+1,rfl,by omega,h4⟩,?_⟩;show 100*((v0.length:Int)-((i+1:Nat):Int)).toNat+50<100*((v0.length:Int)-(i:Int)).toNat+(10-(k:Int)).toNat;omega
theorem aA7{s:anY}:(JX s).length<=5*s.length+2:=by
 unfold JX;cases Ar s with
 | true=>rw[cond_true];omega
 | false =>have h:=ai7 39 [39,92,39,39] s;have hc:Lib.countByte s 39<=s.length:=List.count_le_length;grind
def Wi(l:List (anY)):anY:=l.flatMap fun x=>32::JX x
theorem XE(x:anY):∀t:List (anY),Mx (x::t)=JX x++Wi t
 | []=>by simp[Mx,Lib.join,List.intercalate,Wi]
 | y::t=>by
  have ih:=XE y t;have e:Mx (x::y::t)=JX x++[32]++Mx (y::t):=by simp[Mx,Lib.join,List.intercalate]
  rw[e,ih];simp[Wi]
def H9(c:UInt8):anY:=bif(((c.toNat:Nat):Int)==39)then[39,92,39,39]else[c]
theorem akt:∀s:anY,rC 39 [39,92,39,39] s=s.flatMap H9
 | []=>rfl
 | c::t=>by
  rw[JO,List.flatMap_cons,akt t];unfold H9;by_cases h:c=39
  ·subst h;rfl
  ·rw[if_neg (by simpa using h),eT (show((c.toNat:Nat):Int)≠39 from fun e=>h (UInt8.toNat_inj.1 (show c.toNat=39 by omega)))];rfl
theorem aku:∀t:anY,(t.flatMap H9).length<=4*t.length
 | []=>ab8 _
 | c::t=>by
  have ih:=aku t;have:(H9 c).length<=4:=by unfold H9;cases(((c.toNat:Nat):Int)==39)<;>simp
  grind
def wjI(l:List (anY)):qV->Prop
 | .e y=>y=l
 | .h0 v0 v1 v2=>v0=l/\∃i:Nat,v2=(i:Int)/\i<=l.length/\v1.length<=i*60000/\Mx l=v1++(bif decide (0<i)then Wi (l.drop i)else Mx (l.drop i))
 | .h1 v0 v1 v2 v3=>v0=l/\∃(i k:Nat) (o0:anY),v2=(i:Int)/\i<l.length/\v3=(k:Int)/\k<=(l.getD i []).length/\o0.length<=i*60000+2/\v1=o0++((l.getD i []).take k).flatMap H9/\Mx l=((o0++(l.getD i []).flatMap H9)++[39])++Wi (l.drop (i+1))
def YU(l:List (anY)):qV->Nat
 | .e _=>1000000000000
 | .h0 _ _ v2=>100000*((l.length:Int)-v2).toNat+99999
 | .h1 _ _ v2 v3=>100000*((l.length:Int)-v2).toNat+((l.getD v2.toNat []).length-v3.toNat)
theorem aqL(l:List (anY))(hl:l.length<=1000)(hx:∀x∈l,x.length<=10000):Fw l=some (Mx l):=by
 refine iB rfl (wjI l) (YU l) rfl (by show 1000000000000<_;omega) ?_;rintro(y | ⟨v0,v1,v2⟩ | ⟨v0,v1,v2,v3⟩) hs'
 ·have hs':y=l:=hs';subst hs';refine⟨⟨rfl,0,rfl,aa4 _,aa4 _,rfl⟩,?_⟩;show 100000*((y.length:Int)-0).toNat+99999<1000000000000;omega
 ·obtain⟨rfl,i,rfl,h1,h2,h3⟩:=hs';simp only[aK,aW,qW];by_cases hi:i<v0.length
  ·have e1:au ((i:Int)+1)=((i+1:Nat):Int):=by rw[aT (by omega) (by omega)];omega
   have hxi:=hx _ (acw hi);have hg:v0.getD i (Df.d:anY)=v0[i]:=by rw[List.getD,aaO hi];rfl
   have hg2:v0.getD i []=v0[i]:=hg;have hdr:v0.drop i=v0[i]::v0.drop (i+1):=(abJ hi).symm;rw[hdr]at h3;have kb:fU v0 (i:Int)=true:=by simp[fU];omega
   rw[dT (show(i:Int)<(v0.length:Int) by omega),cond_true];have hq:=aA7 (s:=v0[i]);generalize v0[i]=x at *;have hb:=aqK x (by omega);have toNext:∀o:anY,o=(v1++(bif decide (0<i)then[32]else[]))++JX x->wjI v0 (.h0 v0 o ((i+1:Nat):Int))/\YU v0 (.h0 v0 o ((i+1:Nat):Int))<YU v0 (.h0 v0 v1 (i:Int)):=fun o ho=>by
    refine⟨⟨rfl,i+1,rfl,by omega,?_,?_⟩,?_⟩
    ·rw[ho,List.length_append,List.length_append];cases decide (0<i)<;>simp only[cond_true,cond_false,List.length_cons,List.length_nil]<;>omega
    ·rw[h3,ho,dT (show 0<i+1 by omega),cond_true];cases decide (0<i)with
     | true =>unfold Wi;rw[cond_true,cond_true,List.flatMap_cons];simp only[ab9,aft,afn]
     | false=>rw[cond_false,cond_false,acg,XE,ab9]
    ·show 100000*((v0.length:Int)-((i+1:Nat):Int)).toNat+99999<100000*((v0.length:Int)-(i:Int)).toNat+99999;omega
   have toIn:∀o:anY,o=(v1++(bif decide (0<i)then[32]else[]))++[39]->Ar x=false->wjI v0 (.h1 v0 o (i:Int) 0)/\YU v0 (.h1 v0 o (i:Int) 0)<YU v0 (.h0 v0 v1 (i:Int)):=fun o ho hbb=>by
    refine⟨⟨rfl,i,0,o,rfl,hi,rfl,aa4 _,?_,?_,?_⟩,?_⟩
    ·rw[ho,List.length_append,List.length_append];cases decide (0<i)<;>simp only[cond_true,cond_false,List.length_cons,List.length_nil]<;>omega
    ·rw[List.take_zero,List.flatMap_nil,acg]
    ·rw[h3,ho,hg2,<- akt];have hqt:JX x=[39]++rC 39 [39,92,39,39] x++[39]:=by unfold JX;rw[hbb];rfl
     cases decide (0<i)with
     | true =>unfold Wi;rw[cond_true,cond_true,List.flatMap_cons,hqt];simp only[ab9,aft,afn]
     | false =>rw[cond_false,cond_false,acg,XE,hqt];simp only[ab9]
    ·simp only[YU,aaY,hg2,Int.toNat_zero];omega
   have hdec:decide ((0:Int)<(i:Int))=decide (0<i):=decide_eq_decide.2 (by omega);have hqb:Ar x=true->JX x=x:=fun h=>by unfold JX;rw[h];rfl
   rw[hdec,dT (show v1.length+([32]:anY).length<=aA by rw[ms,aa9];omega),ak];cases hd:decide (0<i)with
   | true =>
    rw[hd]at toNext toIn;rw[cond_true,wI];refine⟨by omega,by omega,?_⟩;rw[aaY,hg,hb];simp only[aD,kb,ak,e1];rw[dT (show(v1++([32]:anY)).length+x.length<=aA by rw[ms,List.length_append,aa9];omega),dT (show(v1++([32]:anY)).length+([39]:anY).length<=aA by rw[ms,List.length_append,aa9,aa9];omega),ak,ak];cases hbb:Ar x with
    | true=>rw[cond_true];exact toNext _ (by rw[hqb hbb];rfl)
    | false=>rw[cond_false];exact toIn _ rfl hbb
   | false =>
    rw[hd]at toNext toIn;rw[cond_false,wI];refine⟨by omega,by omega,?_⟩;rw[aaY,hg,hb];simp only[aD,kb,ak,e1];rw[dT (show v1.length+x.length<=aA by rw[ms];omega),dT (show v1.length+([39]:anY).length<=aA by rw[ms,aa9];omega),ak,ak];cases hbb:Ar x with
    | true=>rw[cond_true];exact toNext _ (by rw[hqb hbb,cond_false,acg])
    | false=>rw[cond_false];exact toIn _ (by rw[cond_false,acg]) hbb
  ·rw[abb (show v0.length<=i by omega)]at h3;have h3:Mx v0=v1:=by
    rw[h3];cases decide (0<i)<;>exact acg _
   rw[dF (show ¬ (i:Int)<(v0.length:Int) by omega),cond_false];exact h3.symm
 ·obtain⟨rfl,i,k,o0,rfl,hi,rfl,hk,ho,rfl,h3⟩:=hs';simp only[aK,aW,qW];have hxi:=hx _ (acw hi);have hg:v0.getD i (Df.d:anY)=v0[i]:=by rw[List.getD,aaO hi];rfl
  have hg2:v0.getD i []=v0[i]:=hg;have kb:fU v0 (i:Int)=true:=by simp[fU];omega
  have e1:au ((i:Int)+1)=((i+1:Nat):Int):=by rw[aT (by omega) (by omega)];omega
  rw[wI];refine⟨by omega,by omega,?_⟩;rw[aaY,hg];rw[hg2]at hk h3 ⊢;generalize hxx:v0[i]=x at *;have e2:au ((k:Int)+1)=((k+1:Nat):Int):=by rw[aT (by omega) (by omega)];omega
  have hl2:=aku (x.take k);have ht:(x.take k).length<=x.length:=by rw[acu];omega
  have hol:(o0++(x.take k).flatMap H9).length<=1000040000:=by rw[List.length_append];omega
  by_cases hk2:k<x.length
  ·obtain⟨t1,k1⟩:=Wh hk2;have next:wjI v0 (.h1 v0 ((o0++(x.take k).flatMap H9)++H9 (x.getD k 0)) (i:Int) ((k+1:Nat):Int))/\YU v0 (.h1 v0 ((o0++(x.take k).flatMap H9)++H9 (x.getD k 0)) (i:Int) ((k+1:Nat):Int))<YU v0 (.h1 v0 (o0++(x.take k).flatMap H9) (i:Int) (k:Int)):=by
    refine⟨⟨rfl,i,k+1,o0,rfl,hi,rfl,by rw[hg2];omega,ho,?_,by rw[hg2];exact h3⟩,?_⟩
    ·rw[hg2,afJ hk2,List.flatMap_append,ab9];have:x.getD k 0=x[k]:=by rw[List.getD,aaO hk2];rfl
     rw[this,List.flatMap_cons,List.flatMap_nil,acg]
    ·simp only[YU,aaY,hg2];omega
   rw[dT (show(k:Int)<(x.length:Int) by omega),cond_true,kb,ak,wS];refine⟨by omega,by omega,?_⟩;rw[aaY,e2];simp only[t1,k1,ak];rw[dT (show(o0++(x.take k).flatMap H9).length+([39,92,39]:anY).length<=aA by rw[ms];simp only[List.length_cons,List.length_nil];omega),dT (show((o0++(x.take k).flatMap H9)++([39,92,39]:anY)).length+[x.getD k 0].length<=aA by rw[ms,List.length_append];simp only[List.length_cons,List.length_nil];omega),
    dT (show(o0++(x.take k).flatMap H9).length+[x.getD k 0].length<=aA by rw[ms,aa9];omega)]
   simp only[ak];unfold H9 at next;cases hc:((x.getD k 0).toNat:Int)==39 with
   | true =>rw[hc]at next;have h39:x.getD k 0=39:=UInt8.toNat_inj.1 (by show(x.getD k 0).toNat=39;have:=eq_of_beq hc;omega);rw[cond_true,h39,ab9 _ [39,92,39] [39]];exact next
   | false=>rw[hc]at next;exact next
  ·rw[dF (show ¬ (k:Int)<(x.length:Int) by omega),cond_false,dT (show(o0++(x.take k).flatMap H9).length+([39]:anY).length<=aA by rw[ms,aa9];omega),ak,e1];rw[aeV (show x.length<=k by omega)]at hl2 ⊢;refine⟨⟨rfl,i+1,rfl,by omega,?_,by rw[dT (show 0<i+1 by omega),cond_true];exact h3⟩,?_⟩
   ·rw[List.length_append,List.length_append,aa9];omega
   ·simp only[YU,aaY,hg2];omega
def Ht(w:anY):List (anY)->List (anY)
 | h::t=>(w++h)::t
 | []=>[w]
def bY(c:UInt8):anY->List (anY)
 | []=>[[]]
 | a::r=>bif a==c then[]::bY c r else Ht [a] (bY c r)
theorem pQ(c:UInt8)(s:anY):bY c s≠[]:=by
 cases s with
 | nil=>simp[bY]
 | cons a r =>
  unfold bY;cases a==c with
  | true=>simp
  | false=>rw[cond_false];unfold Ht;split<;>simp
theorem SF{l:List (anY)}(h:l≠[]):Ht [] l=l:=by
 cases l with
 | nil=>exact absurd rfl h
 | cons a t=>rfl
theorem akv(a b:anY)(l:List (anY)):Ht a (Ht b l)=Ht (a++b) l:=by cases l<;>simp[Ht]
theorem awg(a:anY){l:List (anY)}(h:l≠[]):(Ht a l).length=l.length:=by
 cases l with
 | nil=>exact absurd rfl h
 | cons b t=>rfl
theorem akw(c:UInt8):∀r:anY,Lib.indexByte r c ≠ -1->0<r.count c
 | [],h=>absurd rfl h
 | b::l,h=>by
  unfold Lib.indexByte at h;by_cases e:b=c
  ·subst e;simp
  ·rw[if_neg (by simpa using e)]at h;have:Lib.indexByte l c ≠ -1:=fun e=>by rw[e]at h;exact h rfl
   have:=akw c l this;rw[List.count_cons];omega
theorem Wj(c:UInt8):∀(s:anY) (k:Nat),s.count c<=k->Lib.splitK [c] 0 k s=bY c s
 | [],k,_=>by cases k<;>rfl
 | a::r,k,h=>by
  unfold bY;by_cases e:a=c
  ·subst e;rw[List.count_cons_self]at h;obtain⟨k,rfl⟩:∃m,k=m+1:=⟨k-1,by omega⟩
   have hi:Lib.index (a::r) [a]=0:=by rw[Lib.index_one];unfold Lib.indexByte;simp
   unfold Lib.splitK;rw[hi,show((0:Int) == -1)=false from rfl,show(a==a)=true by simp,cond_true];have ih:=Wj a r k (by omega);simpa using ih
  ·have he:(a==c)=false:=by simpa using e
   rw[he,cond_false];rw[List.count_cons_of_ne e]at h;have ih:=Wj c r k h;have hx:Lib.index (a::r) [c]=if Lib.indexByte r c == -1 then -1 else Lib.indexByte r c+1:=by
    rw[Lib.index_one]
    conv=>lhs;unfold Lib.indexByte
    rw[he];rfl
   have hr:Lib.index r [c]=Lib.indexByte r c:=Lib.index_one r c;cases k with
   | zero =>
    have h1:Lib.indexByte r c = -1:=by
     by_cases q:Lib.indexByte r c = -1
     ·exact q
     ·have:=akw c r q;omega
    rw[<- ih];rfl
   | succ k =>
    rw[<- ih];have hg:=Lib.indexByte_ge r c;unfold Lib.splitK;rw[hx,hr];by_cases q:Lib.indexByte r c = -1
    ·rw[q];rfl
    ·have q1:(Lib.indexByte r c == -1)=false:=by simpa using q
     have q3:(Lib.indexByte r c+1 == -1)=false:=by simp only[afB];omega
     have q2:(Lib.indexByte r c+1).toNat=(Lib.indexByte r c).toNat+1:=by omega
     simp[q1,q3,q2,Ht]
theorem zY(s:anY)(c:UInt8)(a b:Int):eY s [c] a b=bY c s:=by show Lib.splitK [c] 0 (Lib.count s [c]) s=_;rw[Lib.count_one];exact Wj c s _ (ab8 _)
theorem akx:∀s:anY,tX s=bY 47 s
 | []=>rfl
 | c::r=>by
  have e:bY 47 (c::r)=bif c==47 then[]::bY 47 r else Ht [c] (bY 47 r):=rfl
  rw[Vp,akx r,e];generalize bY 47 r=l;cases l<;>rfl
theorem zZ(c:UInt8):∀{s:anY},c∉s->bY c s=[s]
 | [],_=>rfl
 | a::r,h=>by
  unfold bY;have e:(a==c)=false:=by simpa using fun e:a=c=>h (by rw[e];exact abI)
  rw[e,cond_false,zZ c fun hm=>h (abD _ hm)];rfl
theorem IE(c:UInt8):∀{a:anY} (b:anY),c∉a->bY c (a++c::b)=a::bY c b
 | [],b,_=>by
  show bY c (c::b)=_
  conv=>lhs;unfold bY
  rw[show(c==c)=true by simp];rfl
 | x::a,b,h=>by
  show bY c (x::(a++c::b))=_
  conv=>lhs;unfold bY
  have e:(x==c)=false:=by simpa using fun e:x=c=>h (by rw[e];exact abI)
  rw[e,cond_false,IE c b fun hm=>h (abD _ hm)];rfl
theorem aam(c:UInt8):∀s:anY,(bY c s).length=s.count c+1
 | []=>rfl
 | a::r=>by
  unfold bY;by_cases e:a=c
  ·subst e;rw[show(a==a)=true by simp,cond_true,List.length_cons,aam a r,List.count_cons_self]
  ·rw[show(a==c)=false by simpa using e,cond_false,awg _ (pQ c r),aam c r,List.count_cons_of_ne e]
theorem SG(c:UInt8):∀{s:anY} {y:UInt8},y∈s->y≠c->∃x∈bY c s,y∈x
 | a::r,y,h,hy=>by
  unfold bY;rcases am8.1 h with rfl | h
  ·rw[show(y==c)=false by simpa using hy,cond_false];cases hc:bY c r with
   | nil=>exact absurd hc (pQ c r)
   | cons w t=>exact⟨[y]++w,abI,by simp⟩
  ·obtain⟨x,h1,h2⟩:=SG c h hy;cases a==c with
   | true=>exact⟨x,abD _ h1,h2⟩
   | false =>
    rw[cond_false];cases hc:bY c r with
    | nil=>exact absurd hc (pQ c r)
    | cons w t =>
     rw[hc]at h1;rcases am8.1 h1 with rfl | h1
     ·exact⟨[a]++x,abI,List.mem_append_right _ h2⟩
     ·exact⟨x,abD _ h1,h2⟩
theorem an6(c:UInt8):∀{a:anY} (b:anY),c∉a->Lib.indexByte (a++c::b) c=(a.length:Int)
 | [],b,_=>by show Lib.indexByte (c::b) c=0;unfold Lib.indexByte;simp
 | x::a,b,h=>by
  show Lib.indexByte (x::(a++c::b)) c=_;unfold Lib.indexByte;have e:(x==c)=false:=by simpa using fun e:x=c=>h (by rw[e];exact abI)
  rw[e,an6 c b fun hm=>h (abD _ hm)];grind
theorem atn(c:UInt8):∀{a:anY},c∉a->Lib.indexByte a c = -1
 | [],_=>rfl
 | x::a,h=>by
  unfold Lib.indexByte;have e:(x==c)=false:=by simpa using fun e:x=c=>h (by rw[e];exact abI)
  rw[e,atn c fun hm=>h (abD _ hm)];rfl
theorem an7(c:UInt8){a:anY}(b:anY)(h:c∉a):mI (a++c::b) [c]=a/\qB (a++c::b) [c]=b/\AU (a++c::b) [c]=true:=by have e:qA (a++c::b) [c]=(a.length:Int):=an6 c b h;unfold mI qB AU;rw[e,dT (show(0:Int)<=(a.length:Int) by omega),aaY];refine⟨by rw[cond_true,List.take_left'] ;rfl,?_,rfl⟩;rw[cond_true,List.drop_append];simp
theorem ato(c:UInt8){a:anY}(h:c∉a):mI a [c]=a/\qB a [c]=[]/\AU a [c]=false:=by have e:qA a [c] = -1:=atn c h;unfold mI qB AU;rw[e];exact⟨rfl,rfl,rfl⟩
theorem aky(c:UInt8):∀{s:anY},c∈s->∃a b,s=a++c::b/\c∉a
 | x::r,h=>by
  by_cases e:x=c
  ·subst e;exact⟨[],r,rfl,by simp⟩
  ·obtain⟨a,b,rfl,h2⟩:=aky c ((am8.1 h).resolve_left (fun h=>e h.symm));grind
theorem akz(c:UInt8):∀{a a' b b':anY},a++c::b=a'++c::b'->c∉a->c∉a'->a=a'/\b=b'
 | [],[],b,b',h,_,_=>⟨rfl,by simpa using h⟩
 | [],x::a',b,b',h,_,h2=>by grind
 | x::a,[],b,b',h,h1,_=>by grind
 | x::a,y::a',b,b',h,h1,h2=>by obtain⟨e1,e2⟩:=List.cons.inj h;obtain⟨e3,e4⟩:=akz c e2 (fun hm=>h1 (abD _ hm)) (fun hm=>h2 (abD _ hm));exact⟨by rw[e1,e3],e4⟩
theorem atp{s:anY}(h:eP s=true):∀c∈s,fC c=true:=by unfold eP at h;grind
theorem an8{s:anY}{c:UInt8}(hc:c∈s)(hd:fC c=false)(k:Int):gB s k=(0,3):=by
 unfold gB;cases hw:eP s with
 | false=>rfl
 | true=>have:=atp hw c hc;rw[hd]at this;cases this
theorem XF(s:anY):qI s=bif(bif(gB s 65535).2 != 0 then true else(gB s 65535).1==0)then -1 else(gB s 65535).1:=by unfold qI;rw[count_eq s (by decide)]
theorem XG{s:anY}(h:(gB s 65535).2≠0\/(gB s 65535).1=0):qI s = -1:=by rw[XF];grind
theorem atq{s:anY}(h:(gB s 65535).2=0)(h':(gB s 65535).1≠0):qI s=(gB s 65535).1:=by rw[XF,kZ h,eT h'];rfl
theorem an9{s:anY}{c:UInt8}(hc:c∈s)(hd:fC c=false)(h46:c≠46):Kt s=false:=by
 obtain⟨x,h1,h2⟩:=SG 46 hc h46;unfold Kt;rw[zY];have:(bY 46 s).any Co=true:=List.any_eq_true.2 ⟨x,h1,by unfold Co;rw[count_eq x (by decide),an8 h2 hd];rfl⟩
 grind
theorem aA8{s:anY}(h:Kt s=true):∀c∈s,fC c=true\/c=46:=fun c hc=>by
 by_cases h46:c=46
 ·exact .inr h46
 ·cases hd:fC c with
  | true=>exact .inl rfl
  | false=>rw[an9 hc hd h46]at h;cases h
theorem SH{p:Port}:kX p=true↔((1<=p.jZ/\p.jZ<=65535)/\0<=p.out/\p.out<=65535)/\(p.proto=[116,99,112]\/p.proto=[117,100,112])/\(p.host=[]\/Kt p.host=true):=by unfold kX;grind
theorem uX{p:Port}(h:p.jZ<1\/p.out<0\/(p.proto≠[116,99,112]/\p.proto≠[117,100,112])\/(p.host≠[]/\Kt p.host=false)):kX p=false:=by
 cases hb:kX p with
 | false=>rfl
 | true =>obtain⟨⟨⟨a,b⟩,c,d⟩,e,f⟩:=SH.1 hb;grind
theorem x9{p:Port}(h:kX p=false):qJ p=(DW,3):=by unfold qJ;rw[h];rfl
theorem aoa{p:Port}(h:kX p=true):qJ p=(p,0):=by unfold qJ;rw[h];rfl
theorem pP1{h pr a:anY}(e:bY 58 h=[a]):vD h pr=qJ ⟨[],0,qI a,pr⟩:=by unfold vD;rw[zY,e];rfl
theorem pP2{h pr a b:anY}(e:bY 58 h=[a,b]):vD h pr=qJ ⟨[],qI a,qI b,pr⟩:=by unfold vD;rw[zY,e];rfl
theorem pP3{h pr a b c:anY}(e:bY 58 h=[a,b,c]):vD h pr=bif a==[]then(DW,3)else bif !(b==[])then qJ ⟨a,qI b,qI c,pr⟩else qJ ⟨a,0,qI c,pr⟩:=by unfold vD;rw[zY,e];rfl
theorem pP4{h pr a b c d:anY}{t:List (anY)}(e:bY 58 h=a::b::c::d::t):vD h pr=(DW,3):=by unfold vD;rw[zY,e];grind
theorem Qq{s:anY}{c:UInt8}(hc:c∈s)(hd:fC c=false):qI s = -1:=XG (.inl (by rw[an8 hc hd];decide))
theorem Wm{h pr:anY}(hs:(47:UInt8)∈h):vD h pr=(DW,3):=by
 obtain⟨x,h1,h2⟩:=SG 58 hs (by decide);have hd:fC 47=false:=rfl
 match hl:bY 58 h,h1 with
 | [a],h1 =>rw[List.mem_singleton.1 h1]at h2;rw[pP1 hl,Qq h2 hd];exact x9 (uX (.inl (show(-1:Int)<1 by decide)))
 | [a,b],h1 =>
  rw[pP2 hl];rcases am8.1 h1 with rfl | h1
  ·rw[Qq h2 hd];exact x9 (uX (.inr (.inl (show(-1:Int)<0 by decide))))
  ·rw[List.mem_singleton.1 h1]at h2;rw[Qq h2 hd];exact x9 (uX (.inl (show(-1:Int)<1 by decide)))
 | [a,b,c],h1 =>
  rw[pP3 hl];cases ha:a==[]with
  | true=>rfl
  | false =>
   have ha':a≠[]:=by simpa using ha
   rcases am8.1 h1 with rfl | h1
   ·have:=an9 h2 hd (by decide);cases !(b==[])<;>exact x9 (uX (.inr (.inr (.inr ⟨ha',this⟩))))
   ·rcases am8.1 h1 with rfl | h1
    ·have hb:(x==[])=false:=by cases x with | nil=>cases h2 | cons _ _=>rfl
     rw[hb,Qq h2 hd];exact x9 (uX (.inr (.inl (show(-1:Int)<0 by decide))))
    ·rw[List.mem_singleton.1 h1]at h2;rw[Qq h2 hd];have hz:∀o:Int,qJ ⟨a,o, -1,pr⟩=(DW,3):=fun o=>x9 (uX (.inl (show(-1:Int)<1 by decide)))
     grind
 | a::b::c::d::t,_=>exact pP4 hl
theorem att{h pr:anY}(h1:pr≠[116,99,112])(h2:pr≠[117,100,112]):vD h pr=(DW,3):=by
 have hno:∀(a:anY) (o i:Int),qJ ⟨a,o,i,pr⟩=(DW,3):=fun a o i=>x9 (uX (.inr (.inr (.inl ⟨h1,h2⟩))))
 match hl:bY 58 h with
 | []=>exact absurd hl (pQ _ _)
 | [a]=>rw[pP1 hl,hno]
 | [a,b]=>rw[pP2 hl,hno]
 | [a,b,c]=>rw[pP3 hl,hno,hno];cases a==[]<;>cases !(b==[])<;>rfl
 | a::b::c::d::t=>exact pP4 hl
def aqM:anY:=[47,116,99,112]
def aqN:anY:=[47,117,100,112]
def Kw(s:anY):Bool:=bif(bif decide ((4:Int)<(s.length:Int))then s.drop (s.length-4)==aqM else false)then true else(bif decide ((4:Int)<(s.length:Int))then s.drop (s.length-4)==aqN else false)
def ahE(s:anY):Port×Int:=bif Kw s then vD (s.take (s.length-4)) (s.drop (s.length-3))else vD s [116,99,112]
theorem aed{s:anY}(h:Kw s=true):∃t e,s=t++47::e/\t≠[]/\s.take (s.length-4)=t/\s.drop (s.length-3)=e/\(e=[116,99,112]\/e=[117,100,112]):=by
 unfold Kw at h;by_cases hl:(4:Int)<(s.length:Int)
 ·rw[dT hl]at h;have he:s.drop (s.length-4)=aqM\/s.drop (s.length-4)=aqN:=by
   grind
  have hk:∀c e:anY,e.length=3->s.drop (s.length-4)=47::e->s=s.take (s.length-4)++47::e/\s.take (s.length-4)≠[]/\s.drop (s.length-3)=e:=fun _ e h3 hd=>by
   refine⟨by rw[<- hd,afO],?_,?_⟩
   ·intro hn;have:=congrArg List.length hn;grind
   ·have:s.drop (s.length-3)=(s.drop (s.length-4)).drop 1:=by rw[akA];congr 1;omega
    rw[this,hd];rfl
  rcases he with he | he
  ·obtain⟨a,b,c⟩:=hk [] [116,99,112] rfl he;exact⟨_,_,a,b,rfl,c,.inl rfl⟩
  ·obtain⟨a,b,c⟩:=hk [] [117,100,112] rfl he;exact⟨_,_,a,b,rfl,c,.inr rfl⟩
 ·rw[dF hl]at h;cases h
theorem aA9{t e:anY}(ht:t≠[])(he:e=[116,99,112]\/e=[117,100,112]):Kw (t++47::e)=true:=by
 have h3:e.length=3:=by rcases he with rfl | rfl<;>rfl
 have hl:(t++47::e).length=t.length+4:=by rw[List.length_append,List.length_cons,h3]
 have h0:0<t.length:=List.length_pos_iff.2 ht;unfold Kw;rw[dT (show(4:Int)<((t++47::e).length:Int) by rw[hl];omega)];have hd:(t++47::e).drop ((t++47::e).length-4)=47::e:=by rw[hl,show t.length+4-4=t.length by omega];simp
 rw[hd];rcases he with rfl | rfl<;>rfl
theorem awh(s:anY):ahE s=jo s:=by
 unfold ahE jo;by_cases h47:(47:UInt8)∈s
 ·obtain⟨a,b,rfl,ha⟩:=aky 47 h47;obtain⟨c1,c2,c3⟩:=an7 47 b ha;rw[c1,c2,c3,cond_true];by_cases hb:b=[116,99,112]\/b=[117,100,112]
  ·by_cases hn:a=[]
   ·subst hn;have hs:Kw ([]++47::b)=false:=by rcases hb with rfl | rfl<;>rfl
    have hz:vD [] b=(DW,3):=by rw[pP1 (show bY 58 []=[[]]from rfl),show qI [] = -1 from XG (.inl (by decide))];exact x9 (uX (.inl (show(-1:Int)<1 by decide)))
    rw[hs,cond_false,hz];exact Wm h47
   ·have hs:=aA9 hn hb;rw[hs,cond_true];obtain⟨t,e,h1,h2,h3,h4,h5⟩:=aed hs;rw[h3,h4];have hl:t.length=a.length:=by
     grind
    obtain⟨q1,q2⟩:=List.append_inj h1 hl.symm;rw[<- q1,(List.cons.inj q2).2]
  ·have hz:vD a b=(DW,3):=att (fun e=>hb (.inl e)) (fun e=>hb (.inr e));rw[hz];cases hs:Kw (a++47::b)with
   | false=>exact Wm h47
   | true =>
    obtain⟨t,e,h1,h2,h3,h4,h5⟩:=aed hs;rw[cond_true,h3,h4];by_cases ht:(47:UInt8)∈t
    ·exact Wm ht
    ·obtain⟨_,q⟩:=akz 47 h1 ha ht;exact absurd (q▸h5) hb
 ·obtain⟨c1,c2,c3⟩:=ato 47 h47;rw[c3,cond_false];cases hs:Kw s with
  | false=>rfl
  | true =>obtain⟨t,e,h1,_⟩:=aed hs;grind
theorem akB{n:Int}(h0:0<=n)(h1:n<=65535){c:UInt8}(hc:fC c=false):c∉bA n:=fun h=>by have:=afE.1 (yY h0 (by omega)).2.2 c h;rw[hc]at this;cases this
theorem XH{n:Int}(h0:0<=n)(h1:n<=65535):bA n≠[]:=fun h=>by have:=(yY h0 (by omega)).1;rw[h]at this;cases this
theorem aan{n:Int}(h0:1<=n)(h1:n<=65535):qI (bA n)=n:=by have:=Z5 (n:=n) (most:=65535) (by omega) h1 (by omega);rw[atq (by rw[this]) (by rw[this];show n≠0;omega),this]
theorem azc{p:Port}(h:kX p=true):(47:UInt8)∉FI p++bA p.jZ/\∀pr,vD (FI p++bA p.jZ) pr=qJ ⟨p.host,p.out,p.jZ,pr⟩:=by
 obtain⟨⟨⟨a,b⟩,c,d⟩,e,f⟩:=SH.1 h;have hi:∀{q:UInt8},fC q=false->q∉bA p.jZ:=fun hq=>akB (by omega) b hq
 have ho:∀{q:UInt8},fC q=false->q∉bA p.out:=fun hq=>akB c d hq
 have hni:=aan a b;have h58:fC 58=false:=rfl;have h47:fC 47=false:=rfl;have aCz:∀q:UInt8,fC q=false->q≠46->q∉p.host:=fun q h1 h2 hm=>by
  rcases f with f | f
  ·rw[f]at hm;cases hm
  ·rcases aA8 f q hm with h | h
   ·rw[h1]at h;cases h
   ·exact h2 h
 by_cases hh:p.host=[]
 ·by_cases ho0:0<p.out
  ·have e1:FI p=bA p.out++[58]:=by
    unfold FI YQ KO;rw[hh,dT ho0];have:(bA p.out==[])=false:=by simpa using XH c d
    grind
   have e2:FI p++bA p.jZ=bA p.out++58::bA p.jZ:=by rw[e1,ab9];rfl
   rw[e2];refine⟨fun hm=>?_,fun pr=>?_⟩
   ·grind
   ·have hc:bY 58 (bA p.out++58::bA p.jZ)=[bA p.out,bA p.jZ]:=by rw[IE 58 _ (ho h58),zZ 58 (hi h58)]
    rw[pP2 hc,hni,aan (by omega) d,hh]
  ·have e1:FI p=[]:=by
    unfold FI YQ KO;rw[hh,dF ho0];rfl
   rw[e1,afn];refine⟨hi h47,fun pr=>?_⟩;rw[pP1 (zZ 58 (hi h58)),hni,hh,show p.out=0 by omega]
 ·have hh':(p.host==[])=false:=by simpa using hh
  have e1:FI p=p.host++58::(KO p++[58]):=by
   unfold FI YQ;rw[hh'];have:((p.host++[58])++KO p==[])=false:=by simp
   grind
  have e2:FI p++bA p.jZ=p.host++58::(KO p++58::bA p.jZ):=by rw[e1];simp
  have hO:∀q:UInt8,fC q=false->q∉KO p:=fun q hq=>by unfold KO;grind
  rw[e2];refine⟨fun hm=>?_,fun pr=>?_⟩
  ·grind
  ·have hc:bY 58 (p.host++58::(KO p++58::bA p.jZ))=[p.host,KO p,bA p.jZ]:=by
    rw[IE 58 _ (aCz 58 h58 (by decide)),IE 58 _ (hO 58 h58),zZ 58 (hi h58)]
   rw[pP3 hc,hh',cond_false,hni];unfold KO;by_cases ho0:0<p.out
   ·have:(bA p.out==[])=false:=by simpa using XH c d
    rw[dT ho0,cond_true,this,aan (by omega) d];rfl
   ·rw[dF ho0,show p.out=0 by omega];rfl
theorem aee{p:Port}(h:kX p=true):jo (Au p)=(p,0)/\Au p≠[]:=by
 obtain⟨h1,h2⟩:=azc h;obtain⟨⟨⟨a,b⟩,_⟩,e,_⟩:=SH.1 h;have hne:=XH (n:=p.jZ) (by omega) b;unfold jo Au;rw[h,ab7,cond_false];rcases e with e | e
 ·have:(p.proto==[117,100,112])=false:=by rw[e];rfl
  obtain⟨c1,c2,c3⟩:=ato 47 h1;rw[this,cond_false,c3,cond_false,h2,<- e];exact⟨aoa h,by simp[hne]⟩
 ·have:(p.proto==[117,100,112])=true:=by rw[e];rfl
  have e3:(FI p++bA p.jZ)++[47,117,100,112]=(FI p++bA p.jZ)++47::[117,100,112]:=rfl;obtain⟨c1,c2,c3⟩:=an7 47 [117,100,112] h1;rw[this,cond_true,e3,c1,c2,c3,cond_true,h2,<- e];exact⟨aoa h,by simp⟩
theorem aod(s:anY):(jo s).2=0->kX (jo s).1=true:=by
 have hf:∀p,(qJ p).2=0->kX (qJ p).1=true:=fun p=>by unfold qJ;grind
 have hp:∀h pr,(vD h pr).2=0->kX (vD h pr).1=true:=fun h pr=>by
  match hl:bY 58 h with
  | []=>exact absurd hl (pQ _ _)
  | [a]=>rw[pP1 hl];exact hf _
  | [a,b]=>rw[pP2 hl];exact hf _
  | [a,b,c] =>rw[pP3 hl];grind
  | a::b::c::d::t=>rw[pP4 hl];exact fun h=>by cases h
 unfold jo;cases AU s [47]<;>exact hp _ _
theorem afT(w:anY){l:List (anY)}(_:l≠[]):Ht w ([]::l)=[w]++l:=by show(w++[])::l=_;rw[acg];rfl
theorem afU(s:anY)(hs:s.length<=1000000)(c:UInt8):jJ s (c.toNat:Int)=some (bY c s):=by
 refine iB rfl (fun | .e y0 y1=>y0=s/\y1=(c.toNat:Int) | .h0 v0 v1 v2 v3 v4 v5=>v0=s/\v1=(c.toNat:Int)/\v2=v5.length/\∃f i:Nat,v3=(f:Int)/\v4=(i:Int)/\f<=i/\i<=s.length/\v5.length<=i/\v5++Ht (cut s (f:Int) (i:Int)) (bY c (s.drop i))=bY c s) (fun | .e _ _=>10000000000 | .h0 _ _ _ _ v4 _=>((s.length:Int)-v4).toNat) ⟨rfl,rfl⟩ (by show 10000000000<_;omega) ?_;rintro(⟨y0,y1⟩ | ⟨v0,v1,v2,v3,v4,v5⟩) hs'
 ·obtain⟨rfl,rfl⟩:=hs';refine⟨⟨rfl,rfl,rfl,0,0,rfl,rfl,ab8 _,aa4 _,aa4 _,?_⟩,?_⟩
  ·exact SF (pQ c y0)
  ·show((y0.length:Int)-0).toNat<10000000000;omega
 ·obtain⟨rfl,rfl,rfl,f,i,rfl,rfl,h1,h2,h3,h4⟩:=hs';simp only[aK,aW,yU];have kk:∀j:Nat,f<=j->j<=v0.length->bN v0 (f:Int) (j:Int)=true:=fun j _ _=>by simp[bN];omega
  by_cases hi:i<v0.length
  ·have e1:au ((i:Int)+1)=((i+1:Nat):Int):=by rw[aT (by omega) (by omega)];omega
   rw[dT (show(i:Int)<(v0.length:Int) by omega),cond_true,wS];refine⟨by omega,by omega,?_⟩;rw[aaY,e1,kk i h1 h2,ak,dT (show(v5.length+([cut v0 (f:Int) (i:Int)]:List (anY)).length)*16<=av by rw[mb,aa9];omega),ak];rw[drop_at hi,bY]at h4;have hb:((((v0.getD i 0).toNat:Nat):Int)==(c.toNat:Int))=(v0.getD i 0==c):=by
    by_cases h:v0.getD i 0=c
    ·rw[h];simp
    ·rw[eT (fun e=>h (UInt8.toNat_inj.1 (by omega)))];simpa using h
   rw[hb];generalize hg:v0.getD i 0=a at h4 ⊢;cases ha:a==c with
   | true =>
    rw[ha,cond_true,afT _ (pQ c _),<- ab9]at h4;rw[cond_true];refine⟨⟨trivial,trivial,by rw[List.length_append],i+1,i+1,rfl,rfl,ab8 _,by omega,by rw[List.length_append,aa9];omega,?_⟩,?_⟩
    ·have hz:cut v0 ((i+1:Nat):Int) ((i+1:Nat):Int)=[]:=by unfold cut;rw[Nat.sub_self];rfl
     rw[hz,SF (pQ c _)];exact h4
    grind
   | false =>
    rw[ha,cond_false,akv]at h4;rw[cond_false];refine⟨⟨trivial,trivial,trivial,f,i+1,rfl,rfl,by omega,by omega,by omega,?_⟩,?_⟩
    ·have hz:cut v0 (f:Int) ((i+1:Nat):Int)=cut v0 (f:Int) (i:Int)++[a]:=by
      unfold cut;rw[aaY,aaY,aaY,show i+1-f=(i-f)+1 by omega];have hl:i-f<(v0.drop f).length:=by rw[ach];omega
      rw[afJ hl,List.getElem_drop,<- hg];have:v0.getD i 0=v0[i]:=by rw[List.getD,aaO hi];rfl
      rw[this];congr 2;congr 1;omega
     rw[hz];exact h4
    ·show((v0.length:Int)-((i+1:Nat):Int)).toNat<((v0.length:Int)-(i:Int)).toNat;omega
  ·have hle:i=v0.length:=by omega
   subst hle;rw[dF (show ¬ (v0.length:Int)<(v0.length:Int) by omega),cond_false,kk _ h1 (ab8 _),ak,dT (show(v5.length+([cut v0 (f:Int) (v0.length:Int)]:List (anY)).length)*16<=av by rw[mb,aa9];omega),ak,<- h4,List.drop_length];show _=v5++[cut v0 (f:Int) (v0.length:Int)++[]];rw[acg]
theorem atu(c:UInt8)(s:anY):∀x∈bY c s,x.length<=s.length:=fun x hx=>by rw[<- zY s c 0 (-1)]at hx;exact(Eo s c 0 (-1)).2.2 x hx
theorem agN(s:anY)(hs:s.length<=1000000):Bd s=some (Kt s):=by
 refine iB rfl (fun | .e y=>y=s | .h0 v0 v1=>v0=bY 46 s/\v0.length=4/\∃i:Nat,v1=(i:Int)/\i<=4/\(!((v0.drop i).any Co))=Kt s) (fun | .e _=>100 | .h0 _ v1=>(4-v1).toNat) rfl (by show 100<_;omega) ?_;have hA:Kt s=bif((bY 46 s).length:Int)==4 then !((bY 46 s).any Co)else false:=by unfold Kt;rw[zY]
 rintro(y | ⟨v0,v1⟩) hs'
 ·have hs':y=s:=hs';subst hs';have hc:=afU y hs 46;simp only[aK,aW,nX];rw[show jJ y 46=some (bY 46 y)from hc];simp only[aD];grind
 ·obtain⟨rfl,h4,i,rfl,h1,h2⟩:=hs';simp only[aK,aW,nX];by_cases hi:i<4
  ·have e1:au ((i:Int)+1)=((i+1:Nat):Int):=by rw[aT (by omega) (by omega)];omega
   have hl:i<(bY 46 s).length:=by omega
   have hx:=atu 46 s _ (acw hl);have hdr:(bY 46 s).drop i=(bY 46 s)[i]::(bY 46 s).drop (i+1):=(abJ hl).symm;have hg:(bY 46 s).getD i (Df.d:anY)=(bY 46 s)[i]:=by rw[List.getD,aaO hl];rfl
   rw[dT (show(i:Int)<4 by omega),cond_true,wI];refine⟨by omega,by omega,?_⟩;rw[aaY,hg,e1];rw[hdr,aj1]at h2;generalize (bY 46 s)[i]=x at hx h2 ⊢;rw[qo x 255 (by omega) (by decide)];simp only[aD];have hn:Co x=((gB x 255).2 != 0):=by unfold Co;rw[count_eq x (by decide)]
   grind
  grind
theorem YV(p:Port)(hs:p.host.length<=1000000):bF p=some (kX p):=by
 refine dh rfl ?_;simp only[aK,aW,vR,agN p.host hs,aff,aci,ak,dO];have hh:((p.host.length:Int)==0)=(p.host==[]):=by
  cases p.host with
  | nil=>rfl
  | cons c t=>rw[eT (by simp only[List.length_cons];omega)];rfl
 rw[hh];unfold kX;grind
theorem aco(p:Port)(hs:p.host.length<=1000000):xK p=some (Au p):=by
 refine dh rfl ?_;simp only[aK,aW,xJ,YV p hs,aD];cases hr:kX p with
 | false=>show([]:anY)=Au p;unfold Au;rw[hr];rfl
 | true =>
  obtain⟨⟨⟨a,b⟩,c,d⟩,_⟩:=SH.1 hr;have hi:=Hr p.jZ (by omega);have ho:=Hr p.out (by omega);have li:=sH p.jZ;have lo:=sH p.out;have no:=XH c d;have hm:∀x y:anY,x.length<=2000000->y.length<=100->decide (x.length+y.length<=aA)=true:=fun x y h1 h2=>dT (by rw[ms];omega)
  simp only[ab7,cond_false,hi,ho,aD];have hT:Au p=bif p.proto==[117,100,112]then(FI p++bA p.jZ)++[47,117,100,112]else FI p++bA p.jZ:=by unfold Au;rw[hr];rfl
  rw[hT];unfold FI YQ KO;by_cases hh:p.host=[]
  ·rw[dF (show ¬ (0:Int)<(p.host.length:Int) by rw[hh];decide),hh];simp only[cond_false,beq_self_eq_true,ab7,afn,List.length_nil];by_cases ho0:0<p.out
   ·have:(bA p.out==[])=false:=by simpa using no
    simp only[dT ho0,cond_true,this,acn];rw[dT (show 0+(bA p.out).length<=aA by rw[ms];omega),hm (bA p.out) [58] (by omega) (by decide),hm (bA p.out++[58]) (bA p.jZ) (by rw[List.length_append,aa9];omega) (by omega),hm ((bA p.out++[58])++bA p.jZ) [47,117,100,112] (by rw[List.length_append,List.length_append,aa9];omega) (by decide)];simp only[ak];cases p.proto==[117,100,112]<;>rfl
   ·simp only[dF ho0,cond_false,beq_self_eq_true,ab7,afn];rw[dT (show 0+(bA p.jZ).length<=aA by rw[ms];omega),hm (bA p.jZ) [47,117,100,112] (by omega) (by decide)];simp only[ak];cases p.proto==[117,100,112]<;>rfl
  ·have hh':(p.host==[])=false:=by simpa using hh
   have hpos:(0:Int)<(p.host.length:Int):=by have:=List.length_pos_iff.2 hh;omega
   have hne:∀x:anY,((p.host++[58])++x==[])=false:=fun x=>by simp
   simp only[dT hpos,cond_true,hh',acn,hne];rw[hm p.host [58] (by omega) (by decide),ak];by_cases ho0:0<p.out
   ·simp only[dT ho0,cond_true];rw[hm (p.host++[58]) (bA p.out) (by rw[List.length_append,aa9];omega) (by omega),hm ((p.host++[58])++bA p.out) [58] (by rw[List.length_append,List.length_append,aa9];omega) (by decide),hm (((p.host++[58])++bA p.out)++[58]) (bA p.jZ) (by simp only[List.length_append,aa9];omega) (by omega),hm ((((p.host++[58])++bA p.out)++[58])++bA p.jZ) [47,117,100,112] (by simp only[List.length_append,aa9];omega) (by decide)];simp only[ak];cases p.proto==[117,100,112]<;>rfl
   ·simp only[dF ho0,cond_false,acg];rw[hm (p.host++[58]) [58] (by rw[List.length_append,aa9];omega) (by decide),hm ((p.host++[58])++[58]) (bA p.jZ) (by simp only[List.length_append,aa9];omega) (by omega),hm (((p.host++[58])++[58])++bA p.jZ) [47,117,100,112] (by simp only[List.length_append,aa9];omega) (by decide)];simp only[ak];cases p.proto==[117,100,112]<;>rfl
theorem aCA(host:anY)(out:Int)(x pr:anY):(bif(bif(gB x 65535).2 != 0 then true else !(kX ⟨host,out,(gB x 65535).1,pr⟩))then(DW,3)else((⟨host,out,(gB x 65535).1,pr⟩:Port),(0:Int)))=qJ ⟨host,out,qI x,pr⟩:=by
 by_cases h1:(gB x 65535).2=0
 ·rw[kZ h1,cond_false];by_cases h2:(gB x 65535).1=0
  ·rw[XG (.inr h2),h2,uX (p:=⟨host,out,0,pr⟩) (.inl (show(0:Int)<1 by decide)),x9 (uX (.inl (show(-1:Int)<1 by decide)))];rfl
  ·rw[atq h1 h2];unfold qJ;rfl
 ·rw[jK h1,XG (.inl h1),x9 (uX (.inl (show(-1:Int)<1 by decide)))];rfl
theorem axO{y:anY}(h:(bif(gB y 65535).2 != 0 then true else(gB y 65535).1==0)=true)(host:anY)(i:Int)(pr:anY):qJ ⟨host,qI y,i,pr⟩=(DW,3):=by
 have:qI y = -1:=by rw[XF,h];rfl
 rw[this];exact x9 (uX (.inr (.inl (show(-1:Int)<0 by decide))))
theorem atv{y:anY}(h:(bif(gB y 65535).2 != 0 then true else(gB y 65535).1==0)=false):qI y=(gB y 65535).1:=by rw[XF,h];rfl
set_option maxHeartbeats 2000000 in
set_option maxHeartbeats 2000000 in
theorem aqO(h pr:anY)(hh:h.length<=1000000)(Q:Port×Int->Prop)(hQ:Q (vD h pr)):(cl (jJ h (58:Int)) False fun y8=>ck ((decide (0<=(0:Int))&&decide ((0:Int)<(y8.length:Int)))||!((!(decide ((3:Int)<(y8.length:Int))))&&((y8.length:Int)==(3:Int)))) False (bif(bif(decide ((3:Int)<(y8.length:Int)))then true else(bif((y8.length:Int)==(3:Int))then(((List.getD y8 (Int.toNat (0:Int)) (dflt .str)).length:Int)==(0:Int))else false))then Q ((⟨([]:anY),(0:Int),(0:Int),([]:anY)⟩:Port),(3:Int))else(ix y8 (au ((y8.length:Int)-(1:Int))) False fun y9=>cl (dL y9 (65535:Int)) False fun iC=>ck ((decide (0<=(1:Int))&&decide ((1:Int)<(y8.length:Int)))||!((decide ((1:Int)<(y8.length:Int)))&&(!((y8.length:Int)==(2:Int))))) False (bif(bif(decide ((1:Int)<(y8.length:Int)))then(bif((y8.length:Int)==(2:Int))then true else(decide ((0:Int)<((List.getD y8 (Int.toNat (1:Int)) (dflt .str)).length:Int))))else false)then(ix y8 (au ((y8.length:Int)-(2:Int))) False fun yw=>cl (dL yw (65535:Int)) False fun nQ=>bif(bif(nQ.2 != (0:Int))then true else(nQ.1==(0:Int)))then Q ((⟨([]:anY),(0:Int),(0:Int),([]:anY)⟩:Port),(3:Int))else(bif((y8.length:Int)==(3:Int))then(ix y8 (0:Int) False fun y13=>ck (((bF (⟨y13,nQ.1,iC.1,pr⟩:Port)).isSome)||!(!(iC.2 != (0:Int)))) False (bif(bif(iC.2 != (0:Int))then true else(!(gv (bF (⟨y13,nQ.1,iC.1,pr⟩:Port)))))then Q ((⟨([]:anY),(0:Int),(0:Int),([]:anY)⟩:Port),(3:Int))else Q ((⟨y13,nQ.1,iC.1,pr⟩:Port),(0:Int))))else(ck (((bF (⟨([]:anY),nQ.1,iC.1,pr⟩:Port)).isSome)||!(!(iC.2 != (0:Int)))) False (bif(bif(iC.2 != (0:Int))then true else(!(gv (bF (⟨([]:anY),nQ.1,iC.1,pr⟩:Port)))))then Q ((⟨([]:anY),(0:Int),(0:Int),([]:anY)⟩:Port),(3:Int))else Q ((⟨([]:anY),nQ.1,iC.1,pr⟩:Port),(0:Int))))))else(bif((y8.length:Int)==(3:Int))then(ix y8 (0:Int) False fun Am=>ck (((bF (⟨Am,(0:Int),iC.1,pr⟩:Port)).isSome)||!(!(iC.2 != (0:Int)))) False (bif(bif(iC.2 != (0:Int))then true else(!(gv (bF (⟨Am,(0:Int),iC.1,pr⟩:Port)))))then Q ((⟨([]:anY),(0:Int),(0:Int),([]:anY)⟩:Port),(3:Int))else Q ((⟨Am,(0:Int),iC.1,pr⟩:Port),(0:Int))))else(ck (((bF (⟨([]:anY),(0:Int),iC.1,pr⟩:Port)).isSome)||!(!(iC.2 != (0:Int)))) False (bif(bif(iC.2 != (0:Int))then true else(!(gv (bF (⟨([]:anY),(0:Int),iC.1,pr⟩:Port)))))then Q ((⟨([]:anY),(0:Int),(0:Int),([]:anY)⟩:Port),(3:Int))else Q ((⟨([]:anY),(0:Int),iC.1,pr⟩:Port),(0:Int))))))))):=by
 have hc:=afU h hh 58;rw[show jJ h 58=some (bY 58 h)from hc];have hb:=atu 58 h;simp only[aD];have ez:(⟨[],0,0,[]⟩:Port)=DW:=rfl;have hQf:∀(host:anY) (out:Int) (x:anY),Q (qJ ⟨host,out,qI x,pr⟩)->(bif(bif(gB x 65535).2 != 0 then true else !(kX ⟨host,out,(gB x 65535).1,pr⟩))then Q (DW,3)else Q ((⟨host,out,(gB x 65535).1,pr⟩:Port),(0:Int))):=fun host out x hq=>by rw[<- aCA]at hq;grind
 have hR:∀(host:anY) (o i:Int),host.length<=1000000->bF ⟨host,o,i,pr⟩=some (kX ⟨host,o,i,pr⟩):=fun host o i hl=>YV ⟨host,o,i,pr⟩ hl
 have hn:([]:anY).length<=1000000:=aa4 _
 match hl:bY 58 h,hb with
 | [],_=>exact absurd hl (pQ _ _)
 | [a],hb =>rw[pP1 hl]at hQ;have ha:=qo a 65535 (Nat.le_trans (hb a (by simp)) hh) (by decide);have e:au ((([a]:List (anY)).length:Int)-1)=0:=rfl;have l1:decide ((3:Int)<(([a]:List (anY)).length:Int))=false:=rfl;have l2:((([a]:List (anY)).length:Int)==3)=false:=rfl;have l3:decide ((1:Int)<(([a]:List (anY)).length:Int))=false:=rfl;have g0:([a]:List (anY)).getD (Int.toNat 0) (Df.d:anY)=a:=rfl;simp only[l1,l2,l3,e,ajr,aju,acn,afZ,ak,cond_false];rw[wI];refine⟨by decide,by show(0:Int)<1;decide,?_⟩;rw[g0,ha];simp only[aD,hR _ _ _ hn,aff,aci,ak,dO,ez];exact hQf _ _ _ hQ
 | [a,b],hb =>
  rw[pP2 hl]at hQ;have ha:=qo a 65535 (Nat.le_trans (hb a (by simp)) hh) (by decide);have hb':=qo b 65535 (Nat.le_trans (hb b (by simp)) hh) (by decide);have e:au ((([a,b]:List (anY)).length:Int)-1)=1:=rfl;have e2:au ((([a,b]:List (anY)).length:Int)-2)=0:=rfl;have l1:decide ((3:Int)<(([a,b]:List (anY)).length:Int))=false:=rfl;have l2:((([a,b]:List (anY)).length:Int)==3)=false:=rfl;have l3:decide ((1:Int)<(([a,b]:List (anY)).length:Int))=true:=rfl;have l4:((([a,b]:List (anY)).length:Int)==2)=true:=rfl;have g0:([a,b]:List (anY)).getD (Int.toNat 0) (Df.d:anY)=a:=rfl;have g1:([a,b]:List (anY)).getD (Int.toNat 1) (Df.d:anY)=b:=rfl;simp only[l1,l2,l3,l4,e,e2,ajr,acn,ab7,afZ,ak,cond_false,cond_true];rw[wI];refine⟨by decide,by show(1:Int)<2;decide,?_⟩;rw[g1,hb'];simp only[aD];rw[wI];refine⟨by decide,by show(0:Int)<2;decide,?_⟩;rw[g0,ha];simp only[aD,hR _ _ _ hn,aff,aci,ak,dO,ez];cases hq:(bif(gB a 65535).2 != 0 then true else(gB a 65535).1==0)with
  | true=>rw[axO hq]at hQ;exact hQ
  | false=>rw[atv hq]at hQ;exact hQf _ _ _ hQ
 | [a,b,c],hb =>
  rw[pP3 hl]at hQ;have hal:=Nat.le_trans (hb a (by simp)) hh;have hb':=qo b 65535 (Nat.le_trans (hb b (by simp)) hh) (by decide);have hc':=qo c 65535 (Nat.le_trans (hb c (by simp)) hh) (by decide);have e:au ((([a,b,c]:List (anY)).length:Int)-1)=2:=rfl;have e2:au ((([a,b,c]:List (anY)).length:Int)-2)=1:=rfl;have l1:decide ((3:Int)<(([a,b,c]:List (anY)).length:Int))=false:=rfl;have l2:((([a,b,c]:List (anY)).length:Int)==3)=true:=rfl;have l3:decide ((1:Int)<(([a,b,c]:List (anY)).length:Int))=true:=rfl;have l4:((([a,b,c]:List (anY)).length:Int)==2)=false:=rfl;have l5:decide ((0:Int)<(([a,b,c]:List (anY)).length:Int))=true:=rfl;have g0:([a,b,c]:List (anY)).getD (Int.toNat 0) (Df.d:anY)=a:=rfl;have g0':([a,b,c]:List (anY)).getD (Int.toNat 0) (dflt Ty.str:anY)=a:=rfl;have g1':([a,b,c]:List (anY)).getD (Int.toNat 1) (dflt Ty.str:anY)=b:=rfl;have g1:([a,b,c]:List (anY)).getD (Int.toNat 1) (Df.d:anY)=b:=rfl;have g2:([a,b,c]:List (anY)).getD (Int.toNat 2) (Df.d:anY)=c:=rfl;have ha0:((a.length:Int)==0)=(a==[]):=by
   cases a with
   | nil=>rfl
   | cons c t=>grind
  have hb0:decide ((0:Int)<(b.length:Int)) = !(b==[]):=by
   cases b with
   | nil=>rfl
   | cons c t=>grind
  simp only[l1,l2,l3,l4,l5,e,e2,g0',g1',ha0,hb0,acn,ab7,Bool.and_true,aci,ak,cond_false,cond_true,show decide ((0:Int)<=0)=true from rfl,show decide ((0:Int)<=1)=true from rfl];cases haa:a==[]with
  | true=>rw[haa]at hQ;exact hQ
  | false =>
   rw[haa,cond_false]at hQ;rw[cond_false,wI];refine⟨by decide,by show(2:Int)<3;decide,?_⟩;rw[g2,hc'];simp only[aD];cases hbb : !(b==[])with
   | true =>
    rw[hbb,cond_true]at hQ;rw[cond_true,wI];refine⟨by decide,by show(1:Int)<3;decide,?_⟩;rw[g1,hb'];simp only[aD];cases hq:(bif(gB b 65535).2 != 0 then true else(gB b 65535).1==0)with
    | true=>rw[axO hq]at hQ;exact hQ
    | false =>rw[atv hq]at hQ;rw[cond_false,wI];refine⟨by decide,by show(0:Int)<3;decide,?_⟩;rw[g0];simp only[hR _ _ _ hal,aff,aci,ak,dO,ez];exact hQf _ _ _ hQ
   | false =>rw[hbb,cond_false]at hQ;rw[cond_false,wI];refine⟨by decide,by show(0:Int)<3;decide,?_⟩;rw[g0];simp only[hR _ _ _ hal,aff,aci,ak,dO,ez];exact hQf _ _ _ hQ
 | a::b::c::d::t,_ =>rw[pP4 hl]at hQ;have l1:decide ((3:Int)<((a::b::c::d::t).length:Int))=true:=dT (by simp only[List.length_cons];omega);simp only[l1,ab7,aju,acn,afZ,ak,cond_true];exact hQ
theorem amD(s:anY)(hs:s.length<=1000000):Dx s=some (jo s):=by
 rw[<- awh];refine dh rfl ?_;simp only[aK,aW,vS];by_cases hl:(4:Int)<(s.length:Int)
 ·have e4:au ((s.length:Int)-4)=((s.length-4:Nat):Int):=by rw[aT (by omega) (by omega)];omega
  have e3:au ((s.length:Int)-3)=((s.length-3:Nat):Int):=by rw[aT (by omega) (by omega)];omega
  have hsf:(bif(bif decide ((4:Int)<(s.length:Int))then s.drop (s.length-4)==aqM else false)then true else(bif decide ((4:Int)<(s.length:Int))then s.drop (s.length-4)==aqN else false))=Kw s:=rfl;rw[dT hl]at hsf ⊢;simp only[cond_true]at hsf;rw[e4,e3,zX,zX,FJ,IC (by omega),IB (by omega)];rw[dT (show(0:Int)<=((s.length-4:Nat):Int) by omega),dT (show((s.length-4:Nat):Int)<=(s.length:Int) by omega),dT (akG (s.length:Int))];simp only[acf,aci,ak,cond_true];unfold ahE;rw[show([47,116,99,112]:anY)=aqM from rfl,show([47,117,100,112]:anY)=aqN from rfl,hsf];cases Kw s with
  | true=>rw[cond_true,cond_true];exact aqO (s.take (s.length-4)) (s.drop (s.length-3)) (by rw[acu];omega) (fun r=>r=vD (s.take (s.length-4)) (s.drop (s.length-3))) rfl
  | false=>rw[cond_false,cond_false];exact aqO s [116,99,112] hs (fun r=>r=vD s [116,99,112]) rfl
 ·have hsf:Kw s=false:=by unfold Kw;rw[dF hl];rfl
  unfold ahE;rw[hsf,dF hl];simp only[acn,ajr,afZ,ak,cond_false];exact aqO s [116,99,112] hs (fun r=>r=vD s [116,99,112]) rfl
theorem aBa(c:UInt8):(!(p1B (Int.ofNat c.toNat)))=CV c true:=beq_iff_eq.1 (yA (p:=fun n=>(!(p1B (Int.ofNat n)))==(bif(bif(bif iY (Int.ofNat n)==0 then true else iY (Int.ofNat n)==2)then true else iY (Int.ofNat n)==6)then true else(bif true then decide (3<iY (Int.ofNat n))else false))) (by decide +kernel) c)
theorem aBb(c:UInt8):(!(VE (Int.ofNat c.toNat)))=CV c false:=beq_iff_eq.1 (yA (p:=fun n=>(!(VE (Int.ofNat n)))==(bif(bif(bif iY (Int.ofNat n)==0 then true else iY (Int.ofNat n)==2)then true else iY (Int.ofNat n)==6)then true else(bif false then decide (3<iY (Int.ofNat n))else false))) (by decide +kernel) c)
theorem aBd(c:UInt8):(!(Bh (Int.ofNat c.toNat)))=fV c true:=beq_iff_eq.1 (yA (p:=fun n=>(!(Bh (Int.ofNat n)))==(bif iY (Int.ofNat n)==0 then true else(bif true then decide (3<iY (Int.ofNat n))else false))) (by decide +kernel) c)
theorem aBe(c:UInt8):(!(yx (Int.ofNat c.toNat)))=fV c false:=beq_iff_eq.1 (yA (p:=fun n=>(!(yx (Int.ofNat n)))==(bif iY (Int.ofNat n)==0 then true else(bif false then decide (3<iY (Int.ofNat n))else false))) (by decide +kernel) c)
theorem aoe{f:UInt8->Bool->Bool}{g:Int->Bool}(h:∀c:UInt8,(!(g (Int.ofNat c.toNat)))=f c false):∀s:anY,NS f s false=s.all fun c=>g (Int.ofNat c.toNat)
 | []=>rfl
 | c::t=>by have hc:=h c;rw[afo,<- aoe h t];simp only[NS,<- hc];cases g (Int.ofNat c.toNat)<;>rfl
theorem akC{f:UInt8->Bool->Bool}{g1 g2:Int->Bool}(h1:∀c:UInt8,(!(g1 (Int.ofNat c.toNat)))=f c true)(h2:∀c:UInt8,(!(g2 (Int.ofNat c.toNat)))=f c false)(s:anY):oG g1 g2 s=bP f s:=by
 unfold oG bP;cases s with
 | nil=>rfl
 | cons c t =>
  cases(bif decide ((((c::t).length:Nat):Int)<1)then true else decide ((24:Int)<(((c::t).length:Nat):Int)))with
  | true=>rfl
  | false =>have e:List.getD (c::t) (Int.toNat 0) 0=c:=rfl;have e2:(c::t).drop 1=t:=rfl;simp only[cond_false,NS,e,e2,h1,aoe h2]
theorem aqP(s:anY):oG p1B VE s=bP CV s:=akC aBa aBb s
theorem vF(s:anY):oG Bh yx s=bP fV s:=akC aBd aBe s
theorem aqQ{s:anY}(hs:s.length<=1000000):rD s=(Ep s&&(s.headD 0==47)&&((s==[47])||!(bY 47 (s.drop 1)).any j6)):=by unfold rD;rw[V5 s hs,dO,akx]
theorem Wn(c:UInt8){e:anY}(he:c∉e):∀t:anY,bY c (t++c::e)=bY c t++[e]
 | []=>by
  show bY c (c::e)=_
  conv=>lhs;unfold bY
  rw[show(c==c)=true by simp,cond_true,zZ c he];rfl
 | a::t=>by
  show bY c (a::(t++c::e))=_;have ih:=Wn c he t
  conv=>lhs;unfold bY
  conv=>rhs;unfold bY
  rw[ih];cases a==c with
  | true=>rfl
  | false =>
   rw[cond_false,cond_false];cases hc:bY c t with
   | nil=>exact absurd hc (pQ c t)
   | cons w r=>rfl
theorem acp(c:UInt8):∀{s:anY},c∈s->∃t b,s=t++c::b/\c∉b
 | x::r,h=>by
  by_cases hr:c∈r
  ·obtain⟨t,b,rfl,h2⟩:=acp c hr;exact⟨x::t,b,rfl,h2⟩
  ·have:x=c:=by
    grind
   subst this;exact⟨[],r,rfl,hr⟩
def roE:anY:=[58,114,111]
def rwE:anY:=[58,114,119]
def TM(s:anY):Bool:=bif decide ((3:Int)<=(s.length:Int))then(bif s.drop (s.length-3)==roE then true else s.drop (s.length-3)==rwE)else false
def Wo(s:anY):gD×Int:=bif TM s then J5 (bY 58 (s.take (s.length-3))) ((((s.getD (s.length-1) 0).toNat:Nat):Int)==111)else J5 (bY 58 s) false
theorem aof{s:anY}(h:TM s=true):∃e,s=s.take (s.length-3)++58::e/\(e=[114,111]\/e=[114,119])/\3<=s.length:=by
 unfold TM at h;by_cases hl:(3:Int)<=(s.length:Int)
 ·rw[dT hl,cond_true]at h;cases h1:s.drop (s.length-3)==roE with
  | true =>have h1:s.drop (s.length-3)=58::[114,111]:=eq_of_beq h1;exact⟨_,by rw[<- h1,afO],.inl rfl,by omega⟩
  | false =>rw[h1]at h;have h1:s.drop (s.length-3)=58::[114,119]:=eq_of_beq h;exact⟨_,by rw[<- h1,afO],.inr rfl,by omega⟩
 ·rw[dF hl]at h;cases h
theorem aET{e:anY}(he:e=[114,111]\/e=[114,119]):(58:UInt8)∉e:=by rcases he with rfl | rfl<;>decide
theorem atw{t e:anY}(he:e=[114,111]\/e=[114,119]):TM (t++58::e)=true/\(t++58::e).take ((t++58::e).length-3)=t/\((((t++58::e).getD ((t++58::e).length-1) 0).toNat:Nat):Int)=(if e=[114,111]then 111 else 119):=by
 have h2:e.length=2:=by rcases he with rfl | rfl<;>rfl
 have hl:(t++58::e).length=t.length+3:=by rw[List.length_append,List.length_cons,h2]
 have hd:(t++58::e).drop ((t++58::e).length-3)=58::e:=by rw[hl,show t.length+3-3=t.length by omega];simp
 refine⟨?_,by rw[hl,show t.length+3-3=t.length by omega];simp,?_⟩
 ·unfold TM;rw[dT (show(3:Int)<=((t++58::e).length:Int) by rw[hl];omega),hd];rcases he with rfl | rfl<;>rfl
 ·rw[hl,show t.length+3-1=t.length+2 by omega];have:(t++58::e).getD (t.length+2) 0=e.getD 1 0:=by
   rw[List.getD,List.getD,aeF (by omega),show t.length+2-t.length=2 by omega];rfl
  rw[this];rcases he with rfl | rfl<;>rfl
theorem atx(s:anY):Wo s=oh s:=by
 unfold Wo oh mEn V6;rw[zY];by_cases h58:(58:UInt8)∈s
 ·obtain⟨t,b,rfl,hb⟩:=acp 58 h58;have hc:=Wn 58 hb t;have hne:=pQ 58 t;have hpos:=List.length_pos_iff.2 hne;rw[hc];have hlen:(bY 58 t++[b]).length=(bY 58 t).length+1:=by rw[List.length_append,aa9]
  have hla:(bY 58 t++[b]).getD ((bY 58 t++[b]).length-1) []=b:=by grind
  have htk:(bY 58 t++[b]).take ((bY 58 t++[b]).length-1)=bY 58 t:=by rw[hlen,Nat.add_sub_cancel];simp
  rw[hla,htk,dT (show(1:Int)<((bY 58 t++[b]).length:Int) by rw[hlen];omega),cond_true];by_cases he:b=[114,111]\/b=[114,119]
  ·obtain⟨q1,q2,q3⟩:=atw (t:=t) he;have hx:(bif b==[114,111]then true else b==[114,119])=true:=by rcases he with rfl | rfl<;>rfl
   rw[q1,q2,q3,hx,cond_true,cond_true];rcases he with rfl | rfl<;>rfl
  ·have hx:(bif b==[114,111]then true else b==[114,119])=false:=by
    grind
   rw[hx];cases hs:TM (t++58::b)with
   | false=>rfl
   | true =>obtain⟨e,h1,h2,_⟩:=aof hs;have h3:=Wn 58 (aET h2) ((t++58::b).take ((t++58::b).length-3));rw[<- h1,hc]at h3;have:=(List.append_inj' h3 rfl).2;grind
 ·have hc:=zZ 58 h58;have hs:TM s=false:=by
   cases hs:TM s with
   | false=>rfl
   | true =>obtain⟨e,h1,_⟩:=aof hs;grind
  rw[hs,hc];rfl
theorem azd:rD []=false:=by rw[aqQ (by decide)];rfl
theorem awi{l:List (anY)}(h:3<=l.length)(ro:Bool):J5 l ro=(mz,3):=by unfold J5 wo vE;rw[eT (show(l.length:Int)≠1 by omega),eT (show(l.length:Int)≠2 by omega)];dsimp only;rw[azd];rfl
theorem XI{s:anY}(h:Ep s=true):(58:UInt8)∉s/\s≠[]/\s.length<=64:=by
 unfold Ep at h;rw[abK]at h;refine⟨fun hm=>?_,?_⟩
 ·have:=afE.1 h.1 58 hm;exact absurd this (by decide)
 grind
theorem akD{s:anY}(hs:s.length<=1000000)(h:rD s=true):(58:UInt8)∉s/\s.length<=64/\∃r,s=47::r:=by
 rw[aqQ hs]at h;simp only[abK]at h;obtain⟨a,b,c⟩:=XI h.1.1;refine⟨a,c,?_⟩;cases s with
 | nil=>exact absurd rfl b
 | cons x r=>grind
theorem aty:∀(s:anY) (b:Bool),NS fV s b=true->(58:UInt8)∉s
 | [],_,_=>by simp
 | c::t,b,h=>by
  unfold NS at h;have h':fV c b=false/\NS fV t false=true:=by grind
  intro hm;rcases am8.1 hm with hm | hm
  ·rw[<- hm]at h';have:=h'.1;cases b<;>exact absurd this (by decide)
  ·exact aty t false h'.2 hm
theorem aze{s:anY}(h:bP fV s=true):(58:UInt8)∉s:=by
 unfold bP at h;cases hb:(bif decide ((s.length:Int)<1)then true else decide ((24:Int)<(s.length:Int)))with
 | true=>rw[hb]at h;cases h
 | false=>rw[hb]at h;exact aty s true h
theorem akE{m:gD}(_:m.target.length<=1000000)(h:vE m=true):rD m.target=true/\(58:UInt8)∉m.source/\m.source.length<=64:=by
 unfold vE at h;cases ht:rD m.target with
 | false=>rw[ht]at h;cases h
 | true =>
  rw[ht,cond_true]at h;refine⟨rfl,?_⟩;cases h0:m.source==[]with
  | true =>grind
  | false =>
   rw[h0,cond_false,vF]at h;cases hn:bP fV m.source with
   | true=>exact⟨aze hn,by have:=Vv hn;omega⟩
   | false =>
    rw[hn,cond_false]at h;cases hp:Ep m.source with
    | false=>rw[hp]at h;cases h
    | true=>exact⟨(XI hp).1,(XI hp).2.2⟩
theorem aog{m:gD}(h:vE m=true):wo m=(m,0):=by unfold wo;rw[h];rfl
theorem azf{m:gD}(hs:m.target.length<=1000000)(h:vE m=true):J5 (bY 58 (MJ m)) m.readOnly=(m,0)/\mEn (MJ m)=false:=by
 obtain⟨h1,h2,h3⟩:=akE hs h;obtain⟨t1,t2,r,t3⟩:=akD hs h1;have hno:(bif m.target==[114,111]then true else m.target==[114,119])=false:=by rw[t3];rfl
 unfold mEn V6;rw[zY];by_cases h0:m.source=[]
 ·have e:MJ m=m.target:=by unfold MJ;rw[h0];rfl
  rw[e,zZ 58 t1];refine⟨?_,rfl⟩;show wo ⟨[],m.target,m.readOnly⟩=_;rw[<- h0];exact aog h
 ·have h0':(m.source==[])=false:=by simpa using h0
  have e:MJ m=m.source++58::m.target:=by unfold MJ;rw[h0'];simp
  rw[e,IE 58 _ h2,zZ 58 t1];refine⟨?_,?_⟩
  ·show(bif m.source==[]then(mz,3)else wo ⟨m.source,m.target,m.readOnly⟩)=_;rw[h0',cond_false];exact aog h
  ·exact hno
theorem aoh{m:gD}(hs:m.target.length<=1000000)(h:vE m=true):oh (o8 m)=(m,0)/\(o8 m).length<=200:=by
 obtain⟨h1,h2,h3⟩:=akE hs h;obtain⟨t1,t2,r,t3⟩:=akD hs h1;have hO:(MJ m).length<=130:=by unfold MJ;grind
 obtain⟨b1,b2⟩:=azf hs h;unfold o8;rw[h,ab7,cond_false];cases hr:m.readOnly with
 | false =>rw[hr]at b1;rw[cond_false];refine⟨?_,by omega⟩;unfold oh;rw[b2,zY];exact b1
 | true =>rw[hr]at b1;rw[cond_true];refine⟨?_,by rw[List.length_append];show _+3<=_;omega⟩;have e:MJ m++[58,114,111]=MJ m++58::[114,111]:=rfl;rw[e,<- atx];unfold Wo;obtain⟨q1,q2,q3⟩:=atw (t:=MJ m) (e:=[114,111]) (.inl rfl);rw[q1,q2,q3,cond_true];exact b1
theorem aCB(s:anY):(oh s).2=0->vE (oh s).1=true:=by
 have hf:∀m,(wo m).2=0->vE (wo m).1=true:=fun m=>by unfold wo;grind
 have h2:∀l ro,(J5 l ro).2=0->vE (J5 l ro).1=true:=fun l ro=>by unfold J5;grind
 unfold oh;cases mEn s<;>exact h2 _ _
theorem aCC(c:UInt8):(!(SB ((c.toNat:Nat):Int))) = !(bif((c.toNat:Nat):Int)!=47 then iY ((c.toNat:Nat):Int)==0 else false):=beq_iff_eq.1 (yA (p:=fun n=>(!(SB ((n:Nat):Int))) == !(bif((n:Nat):Int)!=47 then iY ((n:Nat):Int)==0 else false)) (by decide +kernel) c)
theorem acr(s:anY)(hs:s.length<=1000000):xL s=some (Ep s):=by
 refine iB rfl (fun | .e y=>y=s | .h0 v0 v1=>v0=s/\∃i:Nat,v1=(i:Int)/\i<=s.length/\((s.drop i).all fun c=>!(SB ((c.toNat:Nat):Int)))=Ep s) (fun | .e _=>10000000000 | .h0 _ v1=>((s.length:Int)-v1).toNat) rfl (by show 10000000000<_;omega) ?_;rintro(y | ⟨v0,v1⟩) hs'
 ·have hs':y=s:=hs';subst hs';simp only[aK,aW,qP];have hp:Ep y=((y.all fun c=>!(SB ((c.toNat:Nat):Int)))&&(bif !(y==[])then decide ((y.length:Int)<=64)else false)):=rfl;by_cases h0:y=[]
  ·subst h0;rfl
  ·have h1:0<y.length:=List.length_pos_iff.2 h0;grind
 ·obtain⟨rfl,i,rfl,h1,h2⟩:=hs';simp only[aK,aW,qP];by_cases hi:i<v0.length
  ·have e1:au ((i:Int)+1)=((i+1:Nat):Int):=by rw[aT (by omega) (by omega)];omega
   rw[drop_at hi,afo,aCC]at h2;rw[dT (show(i:Int)<(v0.length:Int) by omega),cond_true,wS];refine⟨by omega,by omega,?_⟩;rw[aaY,e1,dT (show(0:Int)<=(i:Int) by omega),acf,aci,ak];grind
  grind
theorem azg{s:anY}{f i:Nat}(h1:f<=i)(hi:i<s.length):cut s (f:Int) ((i+1:Nat):Int)=cut s (f:Int) (i:Int)++[s.getD i 0]:=by
 unfold cut;rw[aaY,aaY,aaY,show i+1-f=(i-f)+1 by omega];have hl:i-f<(s.drop f).length:=by rw[ach];omega
 rw[afJ hl,List.getElem_drop];grind
theorem akF(s:anY)(hs:s.length<=1000000):CF s=some (rD s):=by
 have hT:=aqQ hs;refine iB rfl (fun | .e y=>y=s | .h0 v0 v1 v2=>v0=s/\∃f i:Nat,v1=(f:Int)/\v2=(i:Int)/\((f<=i/\i<=s.length/\(!((Ht (cut s (f:Int) (i:Int)) (bY 47 (s.drop i))).any j6))=rD s)\/(i=s.length+1/\rD s=true))) (fun | .e _=>10000000000 | .h0 _ _ v2=>((s.length:Int)+1-v2).toNat) rfl (by show 10000000000<_;omega) ?_;rintro(y | ⟨v0,v1,v2⟩) hs'
 ·have hs':y=s:=hs';subst hs';simp only[aK,aW,oQ,acr y hs,aD];cases hp:Ep y with
  | false =>rw[hp]at hT;simp only[acn,ab7,afZ,ak,cond_true];rw[hT];rfl
  | true =>
   rw[hp,afq]at hT;have hne:=(XI hp).2.1
   match y,hne,hT with
   | c::r,_,hT =>
    have h0:decide ((0:Int)<((c::r).length:Int))=true:=dT (by simp only[List.length_cons];omega);have hb:((((c::r).getD (Int.toNat 0) 0).toNat:Nat):Int)=((c.toNat:Nat):Int):=rfl;rw[h0,hb];simp only[ab7,acn,Bool.and_true,Bool.or_false,ak,cond_false,show decide ((0:Int)<=0)=true from rfl];by_cases h47:c=47
    ·subst h47;have e1:((((47:UInt8).toNat:Nat):Int)!=47)=false:=rfl;rw[e1,cond_false];have hT:rD (47::r)=((((47:UInt8)::r)==[47])||!(bY 47 r).any j6):=hT;cases hz:((47:UInt8)::r)==[47]with
     | true=>rw[hz]at hT;exact hT.symm
     | false =>
      rw[hz,akg]at hT;rw[cond_false];refine⟨⟨trivial,1,1,rfl,rfl,.inl ⟨ab8 _,by simp only[List.length_cons];omega,?_⟩⟩,?_⟩
      ·rw[hT];have:Ht (cut (47::r) ((1:Nat):Int) ((1:Nat):Int)) (bY 47 (List.drop 1 (47::r)))=bY 47 r:=SF (pQ 47 r);rw[this]
      ·show(((47::r).length:Int)+1-1).toNat<10000000000;omega
    ·have e1:(((c.toNat:Nat):Int)!=47)=true:=by
      rw[bne_iff_ne];exact fun e=>h47 (UInt8.toNat_inj.1 (by show c.toNat=47;omega))
     grind
 ·obtain⟨rfl,f,i,rfl,rfl,h⟩:=hs';simp only[aK,aW,oQ,aaY];rcases h with⟨h1,h2,h3⟩ | ⟨rfl,h3⟩
  ·have e1:au ((i:Int)+1)=((i+1:Nat):Int):=by rw[aT (by omega) (by omega)];omega
   have kc:bN v0 (f:Int) (i:Int)=true:=by simp[bN];omega
   rw[dT (show(i:Int)<=(v0.length:Int) by omega),cond_true,(ckD i v0 false).2,ak,e1,kc,ak];have hbd:∀w:anY,(bif(bif w==[]then true else w==[46])then true else w==[46,46])=j6 w:=fun _=>rfl
   rw[hbd];have hM:((v0.length:Int)+1-((i+1:Nat):Int)).toNat<((v0.length:Int)+1-(i:Int)).toNat:=by omega
   by_cases hi:i<v0.length
   ·rw[drop_at hi,bY]at h3;rw[dT (show(i:Int)<(v0.length:Int) by omega),cond_true];cases hc:(v0.getD i 0==47)with
    | false =>
     have e2:((((v0.getD i 0).toNat:Nat):Int)!=47)=true:=by rw[bne_iff_ne];intro e;have:v0.getD i 0=47:=UInt8.toNat_inj.1 (by show(v0.getD i 0).toNat=47;omega);rw[this]at hc;cases hc
     rw[hc,cond_false,akv,<- azg h1 hi]at h3;rw[e2,cond_true];exact⟨⟨trivial,f,i+1,rfl,rfl,.inl ⟨by omega,by omega,h3⟩⟩,hM⟩
    | true =>
     have e2:((((v0.getD i 0).toNat:Nat):Int)!=47)=false:=by rw[show v0.getD i 0=47 by simpa using hc];rfl
     rw[hc,cond_true,afT _ (pQ 47 _),afL,aj1]at h3;rw[e2,cond_false];cases hw:j6 (cut v0 (f:Int) (i:Int))with
     | true=>rw[hw]at h3;exact h3
     | false =>
      rw[hw,akg]at h3;rw[cond_false];refine⟨⟨trivial,i+1,i+1,rfl,rfl,.inl ⟨ab8 _,by omega,?_⟩⟩,hM⟩;have hz:cut v0 ((i+1:Nat):Int) ((i+1:Nat):Int)=[]:=by unfold cut;rw[Nat.sub_self];rfl
      rw[hz,SF (pQ 47 _)];exact h3
   ·rw[abb (by omega)]at h3;have h3:(!(j6 (cut v0 (f:Int) (i:Int)++[])||false))=rD v0:=h3;rw[acg,Bool.or_false]at h3;rw[dF (show ¬ (i:Int)<(v0.length:Int) by omega),cond_false];cases hw:j6 (cut v0 (f:Int) (i:Int))with
    | true=>rw[hw]at h3;exact h3
    | false =>rw[hw]at h3;rw[cond_false];exact⟨⟨trivial,i+1,i+1,rfl,rfl,.inr ⟨by omega,h3.symm⟩⟩,hM⟩
  ·rw[dF (show ¬ ((v0.length+1:Nat):Int)<=(v0.length:Int) by omega),cond_false];exact h3.symm
theorem JE(m:gD)(hs:m.source.length<=1000000)(ht:m.target.length<=1000000):iD m=some (vE m):=by
 refine dh rfl ?_;simp only[aK,aW,vV,akF m.target ht,acr m.source hs,aD];have hh:((m.source.length:Int)==0)=(m.source==[]):=by
  cases m.source with
  | nil=>rfl
  | cons c t=>grind
 rw[hh,<- vF];unfold vE;cases rD m.target with
 | false=>rfl
 | true =>
  simp only[ab7,cond_false,cond_true];cases hc:(bif m.source==[]then true else oG Bh yx m.source)with
  | true=>rfl
  | false =>
   have h0:m.source≠[]:=by intro e;rw[e]at hc;cases hc
   have hl:decide ((0:Int)<(m.source.length:Int))=true:=dT (by have:=List.length_pos_iff.2 h0;omega);rw[hl];rfl
theorem aqR(m:gD)(hs:m.source.length<=1000000)(ht:m.target.length<=1000000):Fg m=some (o8 m):=by
 refine dh rfl ?_;simp only[aK,aW,xM,JE m hs ht,aD];have hh:decide ((0:Int)<(m.source.length:Int)) = !(m.source==[]):=by
  cases m.source with
  | nil=>rfl
  | cons c t=>grind
 rw[hh,dT (show m.source.length+([58]:anY).length<=aA by rw[ms,aa9];omega),dT (show(m.source++([58]:anY)).length+m.target.length<=aA by rw[ms,List.length_append,aa9];omega),dT (show((m.source++([58]:anY))++m.target).length+([58,114,111]:anY).length<=aA by rw[ms,List.length_append,List.length_append,aa9];show _+3<=_;omega),dT (show m.target.length+([58,114,111]:anY).length<=aA by rw[ms];show _+3<=_;omega)];unfold o8 MJ;simp only[ak];grind
theorem awj{a b:anY}(ha:(58:UInt8)∉a)(hb:(58:UInt8)∉b):bY 58 (a++58::b)=[a,b]:=by rw[IE 58 _ ha,zZ 58 hb]
def mkA(t:anY)(at_ c:Int):Prop:=c=(t.count 58:Int)/\(t.count 58=0->at_ = -1)/\(t.count 58=1->∃a b,t=a++58::b/\(58:UInt8)∉a/\(58:UInt8)∉b/\at_=(a.length:Int))
theorem awk{t:anY}{at_ c:Int}(h:mkA t at_ c)(x:UInt8):(x≠58->mkA (t++[x]) at_ c)/\(x=58->mkA (t++[x]) (t.length:Int) (c+1)):=by
 obtain⟨h1,h2,h3⟩:=h;constructor
 ·intro hx;have hc:(t++[x]).count 58=t.count 58:=by rw[List.count_append];simp[hx]
  refine⟨by rw[hc];exact h1,by rw[hc];exact h2,fun h=>?_⟩;grind
 ·rintro rfl;have hc:(t++[58]).count 58=t.count 58+1:=by rw[List.count_append];simp
  refine⟨by rw[hc];omega,fun h=>by omega,fun h=>⟨t,[],rfl,?_,by simp,rfl⟩⟩;exact List.count_eq_zero.1 (by omega)
theorem amE(s t:anY)(ro:Bool)(_:s.length<=1000000)(hR:J5 (bY 58 t) ro=Wo s)(ht:t.length<=1000000)(v1 v2 v3:Int)(i:Nat)(h3:v3=(i:Int))(hi:i<=t.length)(hA:mkA (t.take i) v1 v2)(I:vW->Prop)(hI:∀(a c:Int) (j:Nat),j<=t.length->i<j->mkA (t.take j) a c->I (.h0 t a c (j:Int) ⟨[],[],false⟩ ⟨[],[],ro⟩)):(l6 (.h0 t v1 v2 v3 ⟨[],[],false⟩ ⟨[],[],ro⟩)).run Prop (fun r'=>r'=Wo s) I False:=by
 subst h3;simp only[aK,aW,l6];have hcl:(t.take i).count 58<=(t.take i).length:=List.count_le_length;rw[acu]at hcl;by_cases hlt:i<t.length
 ·have e1:au ((i:Int)+1)=((i+1:Nat):Int):=by rw[aT (by omega) (by omega)];omega
  have e2:au (v2+1)=v2+1:=by have:=hA.1;exact bX (by omega)
  have hg:t.getD i 0=t[i]:=by rw[List.getD,aaO hlt];rfl
  obtain⟨m1,m2⟩:=awk hA (t.getD i 0);have htk:t.take (i+1)=t.take i++[t.getD i 0]:=by rw[afJ hlt,hg]
  have hlen:((t.take i).length:Int)=(i:Int):=by rw[acu];omega
  rw[dT (show(i:Int)<(t.length:Int) by omega),cond_true,wS];refine⟨by omega,by omega,?_⟩;rw[aaY,e1,e2];by_cases hx:t.getD i 0=58
  ·have hb:((((t.getD i 0).toNat:Nat):Int)==58)=true:=by rw[hx];rfl
   grind
  ·have hb:((((t.getD i 0).toNat:Nat):Int)==58)=false:=eT fun e=>hx (UInt8.toNat_inj.1 (by show(t.getD i 0).toNat=58;omega))
   rw[hb,cond_false];exact hI _ _ (i+1) (by omega) (by omega) (by rw[htk];exact m1 hx)
 ·rw[aeV (by omega)]at hA hcl;obtain⟨h1,h2,h3⟩:=hA;rw[dF (show ¬ (i:Int)<(t.length:Int) by omega),cond_false];have hlen:=aam 58 t;by_cases hc0:t.count 58=0
  ·have e:=h2 hc0;have hno:(58:UInt8)∉t:=List.count_eq_zero.1 hc0;rw[zZ 58 hno]at hR;have hR:wo ⟨[],t,ro⟩=Wo s:=hR;have e3:cut t (au (-1+1)) (t.length:Int)=t:=zX t 0;have k3:bN t (au (-1+1)) (t.length:Int)=true:=IC (aa4 _);rw[h1,hc0,e];simp only[show decide ((1:Int)<((0:Nat):Int))=false from rfl,show(((-1:Int))==0)=false from rfl,show(((0:Nat):Int)==1)=false from rfl,cond_false,e3,k3,ak,JE ⟨[],t,ro⟩ (aa4 _) ht,aD];rw[<- hR];unfold wo;cases vE ⟨[],t,ro⟩<;>rfl
  ·by_cases hc1:t.count 58=1
   ·obtain⟨a,b,rfl,ha,hb,e⟩:=h3 hc1;rw[awj ha hb]at hR;have hR:(bif a==[]then(mz,3)else wo ⟨a,b,ro⟩)=Wo s:=hR;rw[h1,hc1,e];have hl:(a++58::b).length=a.length+1+b.length:=by rw[List.length_append,List.length_cons];omega
    have e4:au ((a.length:Int)+1)=((a.length+1:Nat):Int):=by rw[aT (by omega) (by omega)];omega
    have e5:cut (a++58::b) 0 (a.length:Int)=a:=by rw[FJ];simp
    have e6:cut (a++58::b) ((a.length+1:Nat):Int) ((a++58::b).length:Int)=b:=by rw[zX];simp
    have k5:bN (a++58::b) 0 (a.length:Int)=true:=IB (by omega);have k6:bN (a++58::b) ((a.length+1:Nat):Int) ((a++58::b).length:Int)=true:=IC (by omega);have ha0:((a.length:Int)==0)=(a==[]):=by
     cases a with
     | nil=>rfl
     | cons c t=>rw[eT (by simp only[List.length_cons];omega)];rfl
    simp only[show decide ((1:Int)<((1:Nat):Int))=false from rfl,show(((1:Nat):Int)==1)=true from rfl,cond_false,cond_true,e4,e5,e6,k5,k6,ak,ha0,JE ⟨a,b,ro⟩ (by show a.length<=_;omega) (by show b.length<=_;omega),aD];rw[<- hR];cases a==[]with
    | true=>rfl
    | false =>rw[cond_false,cond_false];unfold wo;cases vE ⟨a,b,ro⟩<;>rfl
   ·rw[awi (by omega)]at hR;rw[h1,dT (show(1:Int)<((t.count 58:Nat):Int) by omega),cond_true,cond_true];exact hR
theorem amF(s:anY)(hs:s.length<=1000000):Dz s=some (oh s):=by
 rw[<- atx];refine iB rfl (fun | .e y=>y=s | .h0 v0 v1 v2 v3 v4 v5=>∃(i:Nat) (ro:Bool),v3=(i:Int)/\i<=v0.length/\v0.length<=1000000/\mkA (v0.take i) v1 v2/\v4=⟨[],[],false⟩/\v5=⟨[],[],ro⟩/\J5 (bY 58 v0) ro=Wo s) (fun | .e _=>10000000000 | .h0 v0 _ _ v3 _ _=>((v0.length:Int)-v3).toNat) rfl (by show 10000000000<_;omega) ?_;have mk0:∀t:anY,mkA (t.take 0) (-1) 0:=fun t=>⟨rfl,fun _=>rfl,fun h=>by cases h⟩
 rintro(y | ⟨v0,v1,v2,v3,v4,v5⟩) hs'
 ·have hs':y=s:=hs';subst hs';simp only[aK,aW,l6];by_cases hl:(3:Int)<=(y.length:Int)
  ·have e3:au ((y.length:Int)-3)=((y.length-3:Nat):Int):=by rw[aT (by omega) (by omega)];omega
   have e1:au ((y.length:Int)-1)=((y.length-1:Nat):Int):=by rw[aT (by omega) (by omega)];omega
   have hsf:(bif decide ((3:Int)<=(y.length:Int))then(bif y.drop (y.length-3)==roE then true else y.drop (y.length-3)==rwE)else false)=TM y:=rfl;rw[dT hl]at hsf ⊢;rw[cond_true]at hsf;rw[e3,e1,zX,FJ,IB (by omega),dT (show(0:Int)<=((y.length-3:Nat):Int) by omega),dT (show((y.length-3:Nat):Int)<=(y.length:Int) by omega),dT (akG (y.length:Int))];simp only[acf,aci,ak,cond_true];rw[show([58,114,111]:anY)=roE from rfl,show([58,114,119]:anY)=rwE from rfl,hsf];cases hsM:TM y with
   | true =>
    rw[cond_true,wS];refine⟨by omega,by omega,?_⟩;rw[aaY];refine⟨⟨0,_,rfl,aa4 _,by rw[acu];omega,mk0 _,trivial,rfl,?_⟩,?_⟩
    ·unfold Wo;rw[hsM];rfl
    grind
   | false =>
    rw[cond_false];refine⟨⟨0,false,rfl,aa4 _,hs,mk0 _,trivial,rfl,?_⟩,?_⟩
    ·unfold Wo;rw[hsM];rfl
    grind
  ·have hsM:TM y=false:=by unfold TM;rw[dF hl];rfl
   rw[dF hl];simp only[acn,aju,afZ,ak,cond_false];refine⟨⟨0,false,rfl,aa4 _,hs,mk0 _,trivial,rfl,?_⟩,?_⟩
   ·unfold Wo;rw[hsM];rfl
   grind
 ·obtain⟨i,ro,h3,hi,hl,hA,rfl,rfl,hR⟩:=hs';refine amE s v0 ro hs hR hl v1 v2 v3 i h3 hi hA _ fun a c j h1 h2 h4=>⟨⟨j,ro,rfl,h1,hl,h4,rfl,rfl,hR⟩,?_⟩
  grind
def iM(x:An):An:=⟨3,x.text,x.keys,x.kids⟩
def fq(x:An)(b:Bool):Bool:=!(bif !b then true else decide ((32:Int)<(x.keys.length:Int)))
def fu(x:An)(b:Bool):An:=bif fq x b then aL 12 (iM x)else⟨0,[],[],[]⟩
theorem pR(s:anY)(d:Nat):wg 10000 (d+1) (bI s)=true:=by simp[bI,wg]
theorem ahF(d:Nat):wg 10000 (d+1) (⟨0,[],[],[]⟩:An)=true:=by simp[wg]
def om(s:anY)(b:Bool):Bool:=bif b then bP Me s else bP fV s
def MR:List An->List (anY)
 | []=>[]
 | x::t=>bif x.kind != 1 then[]else x.text::MR t
def IG(n:An):Bool:=bif n.kind != 2 then true else decide ((32:Int)<(n.kids.length:Int))
def gQ(n:An):List (anY):=bif IG n then[]else MR n.kids
def EL(n:An):Bool:=bif IG n then false else(l7 n.kids).isSome
def fi:anY->Nat
 | []=>0
 | c::t=>bif((c.toNat:Int)!=61)then fi t+1 else 0
def Wp(f:anY->Bool):List (anY)->An->Option An
 | [],o=>some o
 | s::t,o=>bif(bif !(f (s.take (fi s)))then true else fO o.keys (s.take (fi s)))then none else Wp f t (bg o (s.take (fi s)) (bI (s.drop (fi s+1))))
def Hu(f:anY->Bool):List (anY)->List An->An->Option An
 | s::t,y::r,o=>bif(bif !(f s)then true else decide ((1:Int)<y.kind))then none else Hu f t r (bg o s (bI y.text))
 | _,_,o=>some o
def rpP(n:An)(vars:Bool):Option An:=bif EL n then Wp (fun s=>om s vars) (gQ n) zn else bif n.kind != 3 then none else Hu (fun s=>om s vars) n.keys n.kids zn
def oV(q:Option An):An:=q.elim zn fun o=>fu o true
def oB(q:Option An):Bool:=q.elim false fun o=>fq o true
def rH(n:An)(vars:Bool):An:=oV (rpP n vars)
def Ae(n:An)(vars:Bool):Bool:=oB (rpP n vars)
theorem akH:∀l:List An,(MR l).length<=l.length
 | []=>ab8 _
 | x::t=>by
  unfold MR;cases x.kind != 1 with
  | true=>exact aa4 _
  | false=>have:=akH t;simp only[cond_false,List.length_cons];omega
theorem EM(n:An):(gQ n).length<=n.kids.length:=by
 unfold gQ;cases IG n with
 | true=>exact aa4 _
 | false=>exact akH _
theorem akI{B:Nat}:∀l:List An,(∀y∈l,y.text.length<=B)->∀x∈MR l,x.length<=B
 | [],_,x,hx=>by cases hx
 | y::t,h,x,hx=>by
  unfold MR at hx;cases hb:y.kind != 1 with
  | true=>rw[hb]at hx;cases hx
  | false =>
   rw[hb,cond_false]at hx;rcases am8.1 hx with rfl | hx
   ·exact h y abI
   ·exact akI t (fun z hz=>h z (abD _ hz)) x hx
theorem awl{B:Nat}{n:An}(h:∀y∈n.kids,y.text.length<=B):∀x∈gQ n,x.length<=B:=by
 unfold gQ;cases IG n with
 | true=>intro x hx;cases hx
 | false=>exact akI _ h
def MS(f:anY->Bool):List (anY)->Bool->An->An×Bool
 | [],b,o=>(o,b)
 | s::t,b,o=>bif b then MS f t (f s) (bg o s zn)else(o,false)
def DZ(n:An):Bool:=bif n.kind==3 then decide ((n.keys.length:Int)<=32)else false
def YW(n:An):An×Bool:=bif DZ n then MS (bP fV) n.keys (!(n.kids.any Bl)) zn else MS (bP fV) (gQ n) (EL n) zn
def jS(n:An):An:=fu (YW n).1 (YW n).2
def rZ(n:An):Bool:=fq (YW n).1 (YW n).2
theorem Ll(n:An):EL n=qF n:=by
 unfold EL qF IG;cases hk:n.kind==2 with
 | false=>rw[show(n.kind != 2)=true from by rw[bne,hk];rfl];simp
 | true =>
  rw[show(n.kind != 2)=false from by rw[bne,hk];rfl];simp only[cond_false,cond_true];by_cases h:(32:Int)<(n.kids.length:Int)
  ·rw[dT h,dF (by omega)];simp
  ·rw[dF h,dT (by omega)];simp
theorem aoj:∀(l:List An) (t:List (anY)),l7 l=some t->MR l=t
 | [],t,h=>by cases h;rfl
 | x::r,t,h=>by
  unfold l7 at h;unfold MR;cases hb:x.kind != 1 with
  | true=>rw[hb]at h;cases h
  | false =>
   rw[hb,cond_false]at h;cases hr:l7 r with
   | none=>rw[hr]at h;cases h
   | some q=>rw[hr]at h;cases h;rw[aoj r q hr];rfl
theorem Cq{n:An}(h:qF n=true):gQ n=bJ n:=by
 have h':=Ll n▸h;unfold EL at h';unfold gQ bJ;cases h0:IG n with
 | true=>rw[h0]at h';cases h'
 | false =>
  rw[h0,cond_false]at h';cases ht:l7 n.kids with
  | none=>rw[ht]at h';cases h'
  | some t=>rw[cond_false,aoj _ _ ht];rfl
def Hw(n:An)(k:Int):Bool:=!(bif k==0 then KL wN n else bif k==1 then KL Cm n else bif k==2 then KM n else bif k==3 then KL Ck n else KL uq n)
def EN(n:An)(k:Int):An:=bif Hw n k then(bif k==2 then bI (Br (lq n.text))else n)else zn
theorem axS(s:anY):0<=lq s:=by
 unfold lq J2;cases H7 (s.drop (kD s))with
 | false=>exact akG _
 | true =>
  obtain⟨u0,u3⟩:=aho (s.drop (kD s));have hb:∀P:Int,1<=P->0<=(gB (s.take (kD s)) (1125899906842624 / P)).1*P:=fun P h=>Int.mul_nonneg (JV _ _ (Int.ediv_nonneg (by decide) (by omega))).1 (by omega)
  exact hb _ (by rcases NZ u0 u3 with⟨_,h⟩ | ⟨_,h⟩ | ⟨_,h⟩ | ⟨_,h⟩<;>rw[h]<;>decide)
structure Bo (d L:Nat) (o:An):Prop where
 kind:o.kind=0\/o.kind=3
 len:o.keys.length=o.kids.length
 le:o.keys.length<=L
 kids:∀y∈o.kids,wg 10000 d y=true
theorem Bo.nil{d L:Nat}{k:Int}(hk:k=0\/k=3):Bo d L ⟨k,[],[],[]⟩:=⟨hk,rfl,aa4 _,fun y h=>by cases h⟩
theorem Bo.put{d L:Nat}{o:An}(h:Bo d L o){k:anY}{v:An}(hv:wg 10000 d v=true):Bo d (L+1) (bg o k v):=by obtain⟨h1,h2,h3,h4⟩:=EY (k:=k) (v:=v) h.kind h.len;exact⟨.inr h1,h2,by have:=h.le;omega,fun y hy=>(h4 y hy).elim (fun e=>by rw[e];exact hv) (h.kids y)⟩
theorem Bo.ok{d L:Nat}{o:An}(h:Bo d L o)(hL:L<=100000)(k:anY)(v:An):iA o k v=true:=ajL.2 ⟨by have:=h.le;omega,h.len⟩
theorem Bo.MU{d L:Nat}{o:An}(h:Bo d L o)(hL:o.keys.length<=10000)(k:Int)(t:anY):wg 10000 (d+1) ⟨k,t,o.keys,o.kids⟩=true :=
 dQ.2 ⟨hL,by show o.kids.length<=10000;rw[<- h.len];exact hL,fun _=>h.len,h.kids⟩
theorem Bo.up{d L:Nat}{o:An}(e:Nat)(h:Bo d L o):Bo (d+e) L o:=⟨h.kind,h.len,h.le,fun y hy=>wW e (h.kids y hy)⟩
theorem mD(s:anY):ay s=some (bI s):=dh rfl rfl
theorem afV(s:anY)(b:Bool):yS s b=some (om s b):=dh rfl (by cases b<;>rfl)
theorem acs(o:An)(b:Bool)(h:o.keys.length<=32->wg 10000 12 (iM o)=true):aH o b=some (fu o b,fq o b):=by
 refine dh rfl ?_;simp only[aK,aW,xI,aQ];have hd:fq o b = !(bif !b then true else decide ((32:Int)<(o.keys.length:Int))):=rfl;unfold fu;cases hc:(bif !b then true else decide ((32:Int)<(o.keys.length:Int)))with
 | true=>rw[hc]at hd;rw[hd];rfl
 | false =>
  rw[hc]at hd;have hl:o.keys.length<=32:=by
   cases b with
   | false=>cases hc
   | true=>have:=of_decide_eq_false hc;omega
  have hw:=h hl;unfold iM at hw;rw[hd,cond_false,hw,ak];rfl
theorem Bo.done{d L:Nat}{o:An}(h:Bo d L o)(hd:d<=11)(b:Bool):aH o b=some (fu o b,fq o b):=acs o b fun hl=>by have:=(h.up (11-d)).MU (by omega) 3 o.text;rwa[show d+(11-d)+1=12 by omega]at this
theorem D5(n:An):jV n=some (gQ n,EL n):=by
 refine iB rfl (fun | .e y=>y=n | .h0 v0 v1 v2 v3=>v0=v3.length/\v2=n/\IG n=false/\n.kids.length<=32/\∃i:Nat,v1=(i:Int)/\i<=n.kids.length/\v3.length=i/\v3++MR (n.kids.drop i)=gQ n/\(l7 (n.kids.drop i)).isSome=EL n) (fun | .e _=>10000000000 | .h0 _ v1 _ _=>((n.kids.length:Int)-v1).toNat) rfl (by show 10000000000<_;omega) ?_;rintro(y | ⟨v0,v1,v2,v3⟩) hs
 ·have hs:y=n:=hs;subst hs;have e1:gQ y=bif IG y then[]else MR y.kids:=rfl
  have e2:EL y=bif IG y then false else(l7 y.kids).isSome:=rfl
  simp only[aK,aW,p9];change (bif IG y then _ else _);cases h0:IG y with
  | true=>rw[h0]at e1 e2;rw[e1,e2];rfl
  | false =>
   rw[h0]at e1 e2;have h32:y.kids.length<=32:=by
    unfold IG at h0;cases hk:y.kind != 2 with
    | true=>rw[hk]at h0;cases h0
    | false=>rw[hk,cond_false,decide_eq_false_iff_not]at h0;omega
   rw[cond_false];refine⟨⟨rfl,trivial,rfl,h32,0,rfl,aa4 _,rfl,e1.symm,e2.symm⟩,?_⟩;show((y.kids.length:Int)-0).toNat<10000000000;omega
 ·obtain⟨rfl,rfl,h0,h32,i,rfl,h1,h2,h3,h4⟩:=hs;simp only[aK,aW,p9];by_cases hi:i<v2.kids.length
  ·have e1:au ((i:Int)+1)=((i+1:Nat):Int):=by rw[aT (by omega) (by omega)];omega
   have hg:v2.kids.getD i (Df.d:An)=v2.kids[i]:=by rw[List.getD,aaO hi];rfl
   have hdr:v2.kids.drop i=v2.kids[i]::v2.kids.drop (i+1):=(abJ hi).symm;have kb:fU v2.kids (i:Int)=true:=by simp[fU];omega
   rw[hdr,MR]at h3;rw[hdr,l7]at h4;rw[dT (show(i:Int)<(v2.kids.length:Int) by omega),cond_true,wI];refine⟨by omega,by omega,?_⟩;rw[aaY,hg,e1,kb,ak];generalize v2.kids[i]=x at h3 h4 ⊢;cases hk:x.kind != 1 with
   | true =>rw[hk,cond_true,acg]at h3;rw[hk]at h4;rw[cond_true,h3,<- h4];rfl
   | false =>
    rw[hk,cond_false]at h3 h4;rw[cond_false,dT (show(v3.length+([x.text]:List (anY)).length)*16<=av by rw[mb,aa9];omega),ak];refine⟨⟨by rw[List.length_append],trivial,h0,h32,i+1,rfl,by omega,by rw[List.length_append,aa9];omega,by rw[ab9];exact h3,?_⟩,?_⟩
    ·rw[<- h4];cases l7 (v2.kids.drop (i+1))<;>rfl
    ·show((v2.kids.length:Int)-((i+1:Nat):Int)).toNat<((v2.kids.length:Int)-(i:Int)).toNat;omega
  ·rw[abb (by omega)]at h3 h4;have h3:v3++[]=gQ v2:=h3;rw[acg]at h3;rw[dF (show ¬ (i:Int)<(v2.kids.length:Int) by omega),cond_false,h3,<- h4];rfl
theorem amG(n:An)(hs:n.text.length<=1000000)(hk:n.kids.length<=1000000):Dv n=some (DV n,H8 n):=by
 refine iB rfl (fun | .e y=>y=n | .h0 v0 v1 v2 v3 v4 v5 v6=>H8 n=true/\v0=ko n/\v4=2/\v5=[]/\(ko n).length<=1000000/\∃i:Nat,v1=(i:Int)/\i<=(ko n).length/\v6.length=i/\v6++((ko n).drop i).map bI=(ko n).map bI) (fun | .e _=>10000000000 | .h0 _ v1 _ _ _ _ _=>(((ko n).length:Int)-v1).toNat) rfl (by show 10000000000<_;omega) ?_;rintro(y | ⟨v0,v1,v2,v3,v4,v5,v6⟩) hs'
 ·have hs':y=n:=hs';subst hs';have e1:DV y=bif H8 y then uN (ko y)else zn:=rfl
  have e2:H8 y=bif y.kind==1 then akd y.text==0 else qF y:=rfl
  have e3:ko y=bif y.kind==1 then Sw y.text else bJ y:=rfl
  have hsp:vQ y.text=some (Sw y.text,akd y.text):=amC y.text hs;simp only[aK,qh,aQ,D5,hsp,aD];have start:∀l,l=ko y->H8 y=true->(ko y).length<=1000000->(((H8 y=true/\l=ko y/\True/\True/\(ko y).length<=1000000/\∃i:Nat,(0:Int)=(i:Int)/\i<=(ko y).length/\([]:List An).length=i/\[]++((ko y).drop i).map bI=(ko y).map bI))/\(((ko y).length:Int)-0).toNat<10000000000):=fun l h1 h2 h3=>⟨⟨h2,h1,trivial,trivial,h3,0,rfl,aa4 _,rfl,rfl⟩,by omega⟩
  cases h1:y.kind==1 with
  | true =>
   rw[h1,cond_true]at e2 e3;rw[cond_true];cases h0:akd y.text==0 with
   | false=>rw[h0]at e2;rw[e2]at e1;rw[e1,e2];rfl
   | true =>rw[h0]at e2;have:=start (Sw y.text) e3.symm e2 (by rw[e3];exact Nat.le_trans (Sy _) (by decide));rw[ab7,cond_false];exact this
  | false =>
   rw[h1,cond_false]at e2 e3;rw[cond_false,Ll];cases h0:qF y with
   | false=>rw[h0]at e2;rw[e2]at e1;rw[e1,e2];rfl
   | true =>rw[h0]at e2;rw[ab7,cond_false,Cq h0];exact start (bJ y) e3.symm e2 (by rw[e3,<- Cq h0];exact Nat.le_trans (EM y) hk)
 ·obtain⟨h0,rfl,rfl,rfl,hl,i,rfl,h1,h2,h3⟩:=hs';have e1:DV n=uN (ko n):=by unfold DV;rw[h0];rfl
  simp only[aK,aW,qh];by_cases hi:i<(ko n).length
  ·have e2:au ((i:Int)+1)=((i+1:Nat):Int):=by rw[aT (by omega) (by omega)];omega
   have hg:(ko n).getD i (Df.d:anY)=(ko n)[i]:=by rw[List.getD,aaO hi];rfl
   have hdr:(ko n).drop i=(ko n)[i]::(ko n).drop (i+1):=(abJ hi).symm;rw[hdr,afu]at h3;rw[dT (show(i:Int)<((ko n).length:Int) by omega),cond_true,wI];refine⟨by omega,by omega,?_⟩;rw[aaY,hg,e2,mD];simp only[aD];rw[dT (show(v6.length+([bI (ko n)[i]]:List An).length)*72<=av by rw[mb,aa9];omega),ak];refine⟨⟨h0,trivial,trivial,trivial,hl,i+1,rfl,by omega,by rw[List.length_append,aa9];omega,by rw[ab9];exact h3⟩,?_⟩;show(((ko n).length:Int)-((i+1:Nat):Int)).toNat<(((ko n).length:Int)-(i:Int)).toNat;omega
  ·rw[abb (by omega),afM,acg]at h3;rw[dF (show ¬ (i:Int)<((ko n).length:Int) by omega),cond_false,h3,e1,h0];rfl
def prI(n:An)(vars:Bool):qj->Prop
 | .e y0 y1=>y0=n/\y1=vars
 | .h0 v0 v1 v2 _ _ v5=>v0=vars/\v1=gQ n/\∃i:Nat,v2=(i:Int)/\i<=(gQ n).length/\Bo 1 i v5/\(oV (Wp (fun s=>om s vars) ((gQ n).drop i) v5),oB (Wp (fun s=>om s vars) ((gQ n).drop i) v5))=(rH n vars,Ae n vars)
 | .h1 v0 v1 v2 v3 _ _ v6=>v0=vars/\v1=gQ n/\∃i a:Nat,v2=(i:Int)/\i<(gQ n).length/\v3=(a:Int)/\a<=((gQ n).getD i []).length/\a+fi (((gQ n).getD i []).drop a)=fi ((gQ n).getD i [])/\Bo 1 i v6/\(oV (Wp (fun s=>om s vars) ((gQ n).drop i) v6),oB (Wp (fun s=>om s vars) ((gQ n).drop i) v6))=(rH n vars,Ae n vars)
 | .h2 v0 v1 v2 _ _ v5=>v0=vars/\v2=n/\n.keys.length=n.kids.length/\∃i:Nat,v1=(i:Int)/\i<=n.keys.length/\Bo 1 i v5/\(oV (Hu (fun s=>om s vars) (n.keys.drop i) (n.kids.drop i) v5),oB (Hu (fun s=>om s vars) (n.keys.drop i) (n.kids.drop i) v5))=(rH n vars,Ae n vars)
def prM(n:An):qj->Nat
 | .e _ _=>10000000000000
 | .h0 _ _ v2 _ _ _=>10000*(((gQ n).length:Int)-v2).toNat+9000
 | .h1 _ _ v2 v3 _ _ _=>10000*(((gQ n).length:Int)-v2).toNat+(((gQ n).getD v2.toNat []).length-v3.toNat)
 | .h2 _ v1 _ _ _ _=>((n.keys.length:Int)-v1).toNat
set_option maxHeartbeats 1000000 in
theorem amH(n:An)(vars:Bool)(h3:n.kind=3->n.keys.length=n.kids.length)(hk:n.keys.length<=1000)(hl:n.kids.length<=1000)(hy:∀y∈n.kids,y.text.length<=1000):Dw n vars=some (rH n vars,Ae n vars):=by
 have hll:=EM n;have hx:=awl hy;refine iB rfl (prI n vars) (prM n) ⟨rfl,rfl⟩ (by show 10000000000000<_;omega) ?_;rintro(⟨y0,y1⟩ | ⟨v0,v1,v2,v3,v4,o⟩ | ⟨v0,v1,v2,v3,v4,v5,o⟩ | ⟨v0,v1,v2,v3,v4,o⟩) hs'
 ·obtain⟨rfl,rfl⟩:=hs';simp only[aK,jW,aQ,D5,aD];have e:rpP y0 y1=bif EL y0 then Wp (fun s=>om s y1) (gQ y0) zn else bif y0.kind != 3 then none else Hu (fun s=>om s y1) y0.keys y0.kids zn:=rfl
  cases hb:EL y0 with
  | true =>
   rw[hb,cond_true]at e;rw[cond_true];refine⟨⟨rfl,rfl,0,rfl,aa4 _,Bo.nil (.inl rfl),?_⟩,?_⟩
   ·unfold rH Ae;rw[e];rfl
   ·show 10000*(((gQ y0).length:Int)-0).toNat+9000<10000000000000;omega
  | false =>
   rw[hb,cond_false]at e;rw[cond_false];by_cases h:y0.kind=3
   ·rw[kZ h,cond_false]at e;rw[kZ h,cond_false];refine⟨⟨rfl,rfl,h3 h,0,rfl,aa4 _,Bo.nil (.inl rfl),?_⟩,?_⟩
    ·unfold rH Ae;rw[e];rfl
    ·show((y0.keys.length:Int)-0).toNat<10000000000000;omega
   ·rw[jK h,cond_true]at e;rw[jK h,cond_true];unfold rH Ae;rw[e];rfl
 ·obtain⟨rfl,rfl,i,rfl,h1,hB,hR⟩:=hs';simp only[aK,aW,jW,aQ];by_cases hi:i<(gQ n).length
  ·rw[dT (show(i:Int)<((gQ n).length:Int) by omega),cond_true];refine⟨⟨rfl,rfl,i,0,rfl,hi,rfl,aa4 _,by rw[acC,afr],hB,hR⟩,?_⟩;have:=rG hx i;have hg:((gQ n).getD i (Df.d:anY))=(gQ n).getD i []:=rfl;rw[hg]at this;simp only[prM,aaY,Int.toNat_zero];omega
  ·rw[abb (by omega)]at hR;rw[dF (show ¬ (i:Int)<((gQ n).length:Int) by omega),cond_false,hB.done (by decide)];exact hR
 ·obtain⟨rfl,rfl,i,a,rfl,hi,rfl,h1,h2,hB,hR⟩:=hs';simp only[aK,aW,jW,aQ];have hg:(gQ n).getD i (Df.d:anY)=(gQ n)[i]:=by rw[List.getD,aaO hi];rfl
  have hg2:(gQ n).getD i []=(gQ n)[i]:=hg;have hxi:=hx _ (acw hi);have hdr:(gQ n).drop i=(gQ n)[i]::(gQ n).drop (i+1):=(abJ hi).symm;have kb:fU (gQ n) (i:Int)=true:=by simp[fU];omega
  rw[wI];refine⟨by omega,by omega,?_⟩;rw[aaY,hg];rw[hg2]at h1 h2;rw[hdr]at hR;have hM:∀a':Nat,((gQ n).getD i []).length-a'=((gQ n)[i]).length-a':=fun a'=>by rw[hg2]
  generalize (gQ n)[i]=s at *;have e1:au ((i:Int)+1)=((i+1:Nat):Int):=by rw[aT (by omega) (by omega)];omega
  have e2:au ((a:Int)+1)=((a+1:Nat):Int):=by rw[aT (by omega) (by omega)];omega
  rw[dT (show(0:Int)<=(i:Int) by omega),dT (show(i:Int)<((gQ n).length:Int) by omega),e1,e2,kb];simp only[acf,aci,ak,(ckD a s false).2,aaY,afV,aD,mD];have fin:fi s=a->∀val:anY,val=s.drop (fi s+1)->ck (mU o.keys||!(!(!(om (s.take a) v0)))) False (bif(bif !(om (s.take a) v0)then true else fO o.keys (s.take a))then((⟨(0:Int),[],[],[]⟩:An),false)=(rH n v0,Ae n v0)else ck (iA o (s.take a) (bI val)) False (prI n v0 (.h0 v0 (gQ n) ((i+1:Nat):Int) v4 v5 (bg o (s.take a) (bI val)))/\prM n (.h0 v0 (gQ n) ((i+1:Nat):Int) v4 v5 (bg o (s.take a) (bI val)))<prM n (.h1 v0 (gQ n) (i:Int) (a:Int) v4 v5 o))):=by
   intro hf val hv;subst hv;have oL:mU o.keys=true:=pF.2 (by have:=hB.le;omega);rw[oL,aci,ak,hB.ok (by omega),ak];rw[Wp,hf]at hR;cases hb:(bif !(om (s.take a) v0)then true else fO o.keys (s.take a))with
   | true=>rw[hb]at hR;exact hR
   | false =>rw[hb,cond_false]at hR;rw[cond_false,hf];refine⟨⟨rfl,rfl,i+1,rfl,by omega,hB.put (pR _ 0),hR⟩,?_⟩;simp only[prM];omega
  by_cases ha:a<s.length
  ·rw[drop_at ha,fi]at h2;rw[dT (show(a:Int)<(s.length:Int) by omega),cond_true];cases hc:((((s.getD a 0).toNat:Nat):Int)!=61)with
   | true =>rw[hc,cond_true]at h2;rw[cond_true];refine⟨⟨rfl,rfl,i,a+1,rfl,hi,rfl,by rw[hg2];omega,by rw[hg2];omega,hB,by rw[hdr];exact hR⟩,?_⟩;simp only[prM,aaY,hg2];omega
   | false =>rw[hc,cond_false,afS]at h2;have k1:bN s ((a+1:Nat):Int) (s.length:Int)=true:=IC (by omega);rw[cond_false,cond_true,k1,ak,IB (by omega),ak,FJ,zX];exact fin h2.symm (s.drop (a+1)) (by rw[<- h2])
  ·rw[abb (by omega)]at h2;have h2:a+0=fi s:=h2;rw[dF (show ¬ (a:Int)<(s.length:Int) by omega),cond_false,cond_false,cond_false,IB (by omega),ak,FJ];exact fin (by omega) [] (by rw[abb (by omega)])
 ·obtain⟨rfl,rfl,hkl,i,rfl,h1,hB,hR⟩:=hs';simp only[aK,aW,jW,aQ];by_cases hi:i<v2.keys.length
  ·have hj:i<v2.kids.length:=by omega
   have e1:au ((i:Int)+1)=((i+1:Nat):Int):=by rw[aT (by omega) (by omega)];omega
   have hg:v2.keys.getD i (Df.d:anY)=v2.keys[i]:=by rw[List.getD,aaO hi];rfl
   have hg2:v2.kids.getD i (Df.d:An)=v2.kids[i]:=by rw[List.getD,aaO hj];rfl
   have hg3:v2.kids.getD i (dflt Ty.ah:An)=v2.kids[i]:=hg2;have kb:fU v2.keys (i:Int)=true:=by simp[fU];omega
   rw[<- abJ hi,<- abJ hj,Hu]at hR;rw[dT (show(i:Int)<(v2.keys.length:Int) by omega),cond_true,wI];refine⟨by omega,by omega,?_⟩;rw[aaY,hg,hg3,e1,kb,afV,dT (show(0:Int)<=(i:Int) by omega),dT (show(i:Int)<(v2.kids.length:Int) by omega)];simp only[aD,acf,aci,ak];generalize v2.keys[i]=k at hR ⊢;generalize v2.kids[i]=y at hR hg2 ⊢;cases hb:(bif !(om k v0)then true else decide ((1:Int)<y.kind))with
   | true=>rw[hb]at hR;exact hR
   | false =>rw[hb,cond_false]at hR;rw[cond_false,wI];refine⟨by omega,by omega,?_⟩;rw[aaY,hg2,mD];simp only[aD];rw[hB.ok (by omega),ak];refine⟨⟨rfl,rfl,hkl,i+1,rfl,by omega,hB.put (pR _ 0),hR⟩,?_⟩;simp only[prM];omega
  ·rw[abb (show v2.keys.length<=i by omega),Hu]at hR
   ·rw[dF (show ¬ (i:Int)<(v2.keys.length:Int) by omega),cond_false,hB.done (by decide)];exact hR
   ·intro _ _ _ _ h;cases h
theorem afW(n:An)(hk:n.keys.length<=1000)(hl:n.kids.length<=1000):yT n=some (jS n,rZ n):=by
 have hll:=EM n;refine iB rfl (fun | .e y=>y=n | .h0 v0 v1 v2 v3 _ _=>v0=n.keys/\v3=n/\∃i:Nat,v2=(i:Int)/\i<=n.kids.length/\MS (bP fV) n.keys (v1&&!((n.kids.drop i).any Bl)) zn=YW n | .h1 v0 v1 v2 _ _ v5=>v0.length<=1000/\∃i:Nat,v2=(i:Int)/\i<=v0.length/\Bo 1 i v5/\MS (bP fV) (v0.drop i) v1 v5=YW n) (fun | .e _=>10000000000 | .h0 _ _ v2 _ _ _=>100000+((n.kids.length:Int)-v2).toNat | .h1 v0 _ v2 _ _ _=>((v0.length:Int)-v2).toNat) rfl (by show 10000000000<_;omega) ?_;rintro(y | ⟨v0,v1,v2,v3,v4,v5⟩ | ⟨v0,v1,v2,v3,v4,o⟩) hs'
 ·have hs':y=n:=hs';subst hs';simp only[aK,aW,nW,aQ,D5,aD];have e:YW y=bif DZ y then MS (bP fV) y.keys (!(y.kids.any Bl)) zn else MS (bP fV) (gQ y) (EL y) zn:=rfl
  change (bif DZ y then _ else _);cases h0:DZ y with
  | true =>rw[h0,cond_true]at e;refine⟨⟨trivial,trivial,0,rfl,aa4 _,by rw[e,acC,afq]⟩,?_⟩;show 100000+((y.kids.length:Int)-0).toNat<10000000000;omega
  | false =>rw[h0,cond_false]at e;refine⟨⟨by omega,0,rfl,aa4 _,Bo.nil (.inl rfl),e.symm⟩,?_⟩;show(((gQ y).length:Int)-0).toNat<10000000000;omega
 ·obtain⟨rfl,rfl,i,rfl,h1,h2⟩:=hs';simp only[aK,aW,nW];by_cases hi:i<v3.kids.length
  ·have e1:au ((i:Int)+1)=((i+1:Nat):Int):=by rw[aT (by omega) (by omega)];omega
   have hg:v3.kids.getD i (Df.d:An)=v3.kids[i]:=by rw[List.getD,aaO hi];rfl
   rw[<- abJ hi,aj1]at h2;rw[dT (show(i:Int)<(v3.kids.length:Int) by omega),cond_true,wI];refine⟨by omega,by omega,?_⟩;rw[aaY,hg,e1,dT (show(0:Int)<=(i:Int) by omega)];simp only[acf,aci,ak];have hM:100000+((v3.kids.length:Int)-((i+1:Nat):Int)).toNat<100000+((v3.kids.length:Int)-(i:Int)).toNat:=by omega
   generalize v3.kids[i]=y at h2 ⊢;change (bif Bl y then _ else _);cases hb:Bl y with
   | true =>rw[hb,aci,ab7,ajr]at h2;exact⟨⟨trivial,trivial,i+1,rfl,by omega,by rw[aju];exact h2⟩,hM⟩
   | false =>rw[hb,akg]at h2;exact⟨⟨trivial,trivial,i+1,rfl,by omega,h2⟩,hM⟩
  ·rw[abb (by omega),List.any_nil,acn,Bool.and_true]at h2;rw[dF (show ¬ (i:Int)<(v3.kids.length:Int) by omega),cond_false];refine⟨⟨hk,0,rfl,aa4 _,Bo.nil (.inl rfl),h2⟩,?_⟩;show((v3.keys.length:Int)-0).toNat<100000+_;omega
 ·obtain⟨hv,i,rfl,h1,hB,h2⟩:=hs';simp only[aK,aW,nW,aQ];have fin:MS (bP fV) (v0.drop i) v1 o=(o,v1)->(fu o v1,fq o v1)=(jS n,rZ n):=fun h=>by
   unfold jS rZ;rw[<- h2,h]
  by_cases hi:i<v0.length
  ·rw[dT (show(i:Int)<(v0.length:Int) by omega),cond_true];cases v1 with
   | false =>rw[cond_false,hB.done (by decide)];exact fin (by rw[<- abJ hi];rfl)
   | true =>
    have e1:au ((i:Int)+1)=((i+1:Nat):Int):=by rw[aT (by omega) (by omega)];omega
    have hg:v0.getD i (Df.d:anY)=v0[i]:=by rw[List.getD,aaO hi];rfl
    have kb:fU v0 (i:Int)=true:=by simp[fU];omega
    rw[<- abJ hi,MS,cond_true]at h2;rw[cond_true,wI];refine⟨by omega,by omega,?_⟩;rw[aaY,hg,kb,ak,hB.ok (by omega),ak,e1];refine⟨⟨hv,i+1,rfl,by omega,hB.put (ahF 0),h2⟩,?_⟩;show((v0.length:Int)-((i+1:Nat):Int)).toNat<((v0.length:Int)-(i:Int)).toNat;omega
  ·rw[dF (show ¬ (i:Int)<(v0.length:Int) by omega),cond_false,cond_false,hB.done (by decide)];exact fin (by rw[abb (by omega)];rfl)
theorem amI(s:anY)(hs:s.length<=1000000):Dm s=some (wN s):=by
 refine dh rfl ?_;have e11:cut s 0 11=s.take 11:=FJ s 11;have ed:cut s 11 (s.length:Int)=s.drop 11:=zX s 11;simp only[aK,aW,vK,e11,ed,qo (s.drop 11) 10 (by rw[ach];omega) (by decide),aD];unfold wN;rw[VK _ (by decide),afF _ (by decide)];by_cases h:(11:Int)<(s.length:Int)
 ·have k:bN s 11 (s.length:Int)=true:=IC (s:=s) (i:=11) (by omega);rw[dT h,dT (show(11:Int)<=(s.length:Int) by omega),k];simp only[show decide ((0:Int)<=0)=true from rfl,show decide ((0:Int)<=11)=true from rfl,acf,aci,ak,cond_true];change (bif(s.take 11==Kr)then _ else _);cases s.take 11==Kr<;>rfl
 ·rw[dF h];simp only[acn,afZ,ak,cond_false];by_cases h2:(11:Int)<=(s.length:Int)
  ·have hl:s.length=11:=by omega
   rw[dT h2,abb (by omega),aeV (by omega)];simp only[cond_true];cases hq:s==Kr with
   | false=>rfl
   | true =>
    have:s=Kr:=by simpa using hq
    subst this;rfl
  ·rw[dF h2];rfl
theorem atz(n:An)(k:Int)(hs:n.text.length<=1000000):GQ n k=some (EN n k,Hw n k):=by
 refine dh rfl ?_;have e2:(bif rzE n.text==0 then decide ((0:Int)<rzV n.text)else false) = !(bif YO n.text != 0 then true else lq n.text==0):=by
  rw[aA1,akr];have:=axS n.text;rw[akr]at this;by_cases h:rzE n.text=0
  ·rw[jL h,kZ h,cond_true,cond_false];by_cases h2:rzV n.text=0
   ·rw[jL h2,dF (by omega)];rfl
   ·rw[eT h2,dT (by omega)];rfl
  ·rw[eT h,jK h];rfl
 have e4:(bif decide ((1:Int)<=(n.text.length:Int))then decide ((n.text.length:Int)<=64)else false)=uq n.text:=by
  unfold uq;cases n.text with
  | nil=>rfl
  | cons c t=>rw[dT (by simp only[List.length_cons];omega)];rfl
 have m1:vM n.text=some (av9 n.text,awc n.text):=amv n.text hs;have m2:vO n.text=some (rzV n.text,rzE n.text):=amw n.text hs;have m3:dL n.text 8=some (CY n.text 8,O1 n.text 8):=qo n.text 8 hs (by decide);simp only[aK,aW,yR,aQ,amI n.text hs,m1,m2,m3,aqH,mD,aD,e2,e4,<- VK n.text (most:=8) (by decide)];unfold EN Hw KL KM Cm Ck;cases n.kind != 1 with
 | true=>cases k==0<;>cases k==1<;>cases k==2<;>cases k==3<;>rfl
 | false =>
  simp only[cond_false];cases h0:k==0 with
  | true =>have h2:(k==2)=false:=eT (by have:=eq_of_beq h0;omega);rw[h2];simp only[cond_true,cond_false,Bool.not_not];cases wN n.text<;>rfl
  | false =>
   cases h1:k==1 with
   | true =>have h2:(k==2)=false:=eT (by have:=eq_of_beq h1;omega);rw[h2];simp only[cond_true,cond_false,Bool.not_not];cases(bif awc n.text==0 then decide ((0:Int)<av9 n.text)else false)<;>rfl
   | false =>
    cases k==2 with
    | true =>simp only[cond_true,cond_false,<- akr];cases(bif YO n.text != 0 then true else lq n.text==0)<;>rfl
    | false =>
     simp only[cond_false,Bool.not_not];cases k==3 with
     | true=>cases XB n.text 8==0<;>rfl
     | false=>cases uq n.text<;>rfl
def eX(n:An)(l:List (anY)):Bool:=bif n.kind != 3 then false else n.keys.all fun k=>fO l k
def KA(n:An)(k o:anY):Bool:=bif bV n k o then(bif aN n k o==[116,114,117,101]then true else aN n k o==[102,97,108,115,101])else false
def MV(n:An):An:=bif eX (em n) [cK,sK,rK]then⟨3,[],[cK,rK,sK],[bI (aN (em n) cK mM),bI (aN (em n) rK kg),bI (aN (em n) sK o7)]⟩else zn
def KC(n:An):Bool:=bif eX (em n) [cK,sK,rK]then(bif(bif(bif bV (em n) cK mM then KA (em n) sK o7 else false)then KA (em n) rK kg else false)then(bif(bif aN (em n) cK mM==mM then true else aN (em n) cK mM==VI)then true else aN (em n) cK mM==VJ)else false)else false
def rd(g:anY->Bool):List (anY)->List An->Bool->An->An×Bool
 | s::t,y::r,b,o=>bif b then rd g t r (bif KC y then g s else false) (bg o s (MV y))else(o,false)
 | _,_,b,o=>(o,b)
def vG(n:An):List (anY):=bif DZ n then n.keys else gQ n
def rdP(n:An):An×Bool:=rd (bP fV) (vG n) (CP n (vG n)) (bif DZ n then true else EL n) zn
def MW(n:An):An:=fu (rdP n).1 (rdP n).2
def MX(n:An):Bool:=fq (rdP n).1 (rdP n).2
theorem aol(y:An):wg 10000 2 (MV y)=true:=by
 unfold MV;cases eX (em y) [cK,sK,rK]with
 | false=>rfl
 | true=>simp[wg,bI]
def MZ(m:An):Bool:=bif(bif(bif(bif !(bV m jd [])then true else !(bV m mG xS))then true else !(bP fV (aN m jd [])))then true else decide (((aN m mG xS).length:Int)<1))then true else decide ((64:Int)<((aN m mG xS).length:Int))
def wu(n:An):An:=bif !(eX (je n) [jd,mG])then zn else bif MZ (je n)then zn else fu (je n) true
def EO(n:An):Bool:=bif !(eX (je n) [jd,mG])then false else bif MZ (je n)then false else fq (je n) true
def q8(n:An)(k:anY)(_:Int):anY:=bif aB n k then zF (wm (aG n k).text)else[]
def M0(n:An)(k:anY)(l:Int):Bool:=bif aB n k then(bif(bif(aG n k).kind==1 then adR (aG n k).text==0 else false)then decide (l<=wm (aG n k).text)else false)else true
def nE(n:An)(k:anY):Int:=bif aB n k then CY (aG n k).text 65536 else 0
def N8(n:An)(k:anY):Bool:=bif aB n k then(bif(bif(aG n k).kind==1 then O1 (aG n k).text 65536==0 else false)then decide (0<CY (aG n k).text 65536)else false)else true
def TN:List (anY):=[bR,dW,fF,bU,iZ]
def SI(n:An):An:=bif aB n bR then bg zn bR (bI (JZ (aG n bR)))else zn
def wz(n:An)(k:anY)(l:Int)(o:An):An:=bif !(q8 n k l==[])then bg o k (bI (q8 n k l))else o
def O9(n o:An):An:=bif decide (0<nE n bU)then bg o bU (bI (bA (nE n bU)))else o
def rO(n:An):An:=O9 n (wz n fF 0 (wz n dW 1 (SI n)))
def II(n:An):anY:=bif aB n bR then(bif JY (aG n bR)==2 then kg else aN n iZ o7)else aN n iZ o7
def Wq(n:An):Bool:=bif(bif(bif(bif !(KA n iZ o7)then true else !(M0 n dW 1))then true else !(M0 n fF 0))then true else !(N8 n bU))then true else decide ((10:Int)<nE n bU)
def Ia(n:An):Bool:=bif !(eX n TN)then true else bif(bif aB n bR then JY (aG n bR)==0 else false)then true else Wq n
def KD:An:=⟨3,[],[iZ],[bI kg]⟩
def Bv(n:An):An:=bif Ia n then zn else bif II n==kg then KD else fu (rO n) true
def Bw(n:An):Bool:=bif Ia n then false else bif II n==kg then true else fq (rO n) true
theorem Hy(n:An)(l:List (anY))(hk:n.keys.length<=1000000)(hl:mU l=true):gu n l=some (eX n l):=by
 refine iB rfl (fun | .e y0 y1=>y0=n/\y1=l | .h0 v0 v1 v2=>v0=l/\v2=n/\∃i:Nat,v1=(i:Int)/\i<=n.keys.length/\((n.keys.drop i).all fun k=>fO l k)=eX n l) (fun | .e _ _=>10000000000 | .h0 _ v1 _=>((n.keys.length:Int)-v1).toNat) ⟨rfl,rfl⟩ (by show 10000000000<_;omega) ?_;rintro(⟨y0,y1⟩ | ⟨v0,v1,v2⟩) hs
 ·obtain⟨rfl,rfl⟩:=hs;simp only[aK,qO];have e:eX y0 y1=bif y0.kind != 3 then false else y0.keys.all fun k=>fO y1 k:=rfl
  grind
 ·obtain⟨rfl,rfl,i,rfl,h1,h2⟩:=hs;simp only[aK,aW,qO];by_cases hi:i<v2.keys.length
  ·have e1:au ((i:Int)+1)=((i+1:Nat):Int):=by rw[aT (by omega) (by omega)];omega
   have hg:v2.keys.getD i (Df.d:anY)=v2.keys[i]:=by rw[List.getD,aaO hi];rfl
   rw[<- abJ hi,afo]at h2;rw[dT (show(i:Int)<(v2.keys.length:Int) by omega),cond_true,wI];refine⟨by omega,by omega,?_⟩;rw[aaY,hg,hl,ak,e1];grind
  grind
theorem nG(n:An)(k o:anY)(hf:fit n=true):bK n k o=some (aN n k o,bV n k o):=by refine dh rfl ?_;simp only[aK,vT,aQ,hf,ak];unfold aN bV;cases aB n k<;>rfl
theorem Pb(n:An)(k o:anY)(hf:fit n=true):gJ n k o=some (aN n k o,KA n k o):=by refine dh rfl ?_;simp only[aK,aW,vX,aQ,nG n k o hf,aD];rfl
theorem M4(n:An)(k:anY)(hf:fit n=true)(hl:(aG n k).text.length<=1000000):oP n k=some (nE n k,N8 n k):=by
 refine dh rfl ?_;simp only[aK,aW,uL,aQ,hf,ak,nG n k [] hf,aD];unfold nE N8;cases g:aB n k with
 | false=>rfl
 | true =>
  have ef:aN n k []=(aG n k).text:=by unfold aN;rw[g];rfl
  have eb:bV n k []=((aG n k).kind==1):=by unfold bV;rw[g];rfl
  rw[ef,eb,qo _ 65536 hl (by decide)];rfl
theorem aqS(n:An)(k:anY)(l:Int)(hf:fit n=true)(hl:(aG n k).text.length<=1000000):xW n k l=some (q8 n k l,M0 n k l):=by
 refine dh rfl ?_;simp only[aK,aW,xV,aQ,hf,ak,nG n k [] hf,aD];unfold q8 M0;cases g:aB n k with
 | false=>rfl
 | true =>
  have ef:aN n k []=(aG n k).text:=by unfold aN;rw[g];rfl
  have eb:bV n k []=((aG n k).kind==1):=by unfold bV;rw[g];rfl
  rw[ef,eb,amA _ hl];simp only[aD,aqJ];rfl
theorem aqT(n:An)(h1:n.kids.length<=1000)(h2:∀s∈bJ n,s.length<=10000):xU n=some (JZ n,JY n):=by
 refine dh rfl ?_;simp only[aK,aW,xR,aQ,D5,aD,Ll];unfold JZ JY tsX;cases n.kind==1 with
 | true=>rfl
 | false =>
  cases hb:qF n with
  | false=>rfl
  | true =>
   rw[Cq hb];have hll:(bJ n).length<=1000:=by rw[<- Cq hb];exact Nat.le_trans (EM n) h1
   simp only[cond_false,ab7];cases hz:(((bJ n).length:Int)==0)with
   | true=>rfl
   | false =>
    have hpos:0<(bJ n).length:=by grind
    have kb:fU (bJ n) 0=true:=by simp[fU];omega
    have ed:cut (bJ n) 1 ((bJ n).length:Int)=(bJ n).drop 1:=by unfold cut;rw[aaY];exact aeV (by rw[ach];exact ab8 _)
    have kd1:bN (bJ n) 1 ((bJ n).length:Int)=true:=by simp[bN];omega
    have hj:=aqL ((bJ n).drop 1) (by rw[ach];omega) fun s hs=>h2 s (List.mem_of_mem_drop hs)
    rw[cond_false,wI];refine⟨by decide,by omega,?_⟩;have g0:(bJ n).getD (Int.toNat 0) (Df.d:anY)=(bJ n).getD 0 []:=rfl;have g1:(bJ n).getD (Int.toNat 1) (Df.d:anY)=(bJ n).getD 1 []:=rfl;rw[g0,kb,ed,kd1,hj];simp only[ak,aD,cond_false];change (bif(bif(bJ n).getD 0 []==VO then((bJ n).length:Int)==1 else false)then _ else(bif(bif(bJ n).getD 0 []==VP then((bJ n).length:Int)==2 else false)then _ else(bif(bif(bJ n).getD 0 []==VQ then decide ((1:Int)<((bJ n).length:Int))else false)then _ else _)));cases hn:(bJ n).getD 0 []==VO with
    | true =>
     have h0:(bJ n).getD 0 []=VO:=by simpa using hn
     have e1:((bJ n).getD 0 []==VP)=false:=by rw[h0];rfl
     have e2:((bJ n).getD 0 []==VQ)=false:=by rw[h0];rfl
     grind
    | false =>
     cases hs:(bJ n).getD 0 []==VP with
     | true =>
      have h0:(bJ n).getD 0 []=VP:=by simpa using hs
      have e2:((bJ n).getD 0 []==VQ)=false:=by rw[h0];rfl
      simp only[e2,cond_true,cond_false];cases h2:(((bJ n).length:Int)==2)with
      | true =>have:=eq_of_beq h2;rw[cond_true,wI];grind
      | false=>rfl
     | false =>
      cases(bJ n).getD 0 []==VQ with
      | true =>
       simp only[cond_true,cond_false];by_cases h1l:(1:Int)<((bJ n).length:Int)
       ·rw[dT h1l];rfl
       ·have hd:(bJ n).drop 1=[]:=abb (by omega);rw[dF h1l,hd];rfl
      | false=>rfl
theorem acv(n:An)(hf:fit n=true):xP n=some (MV n,KC n):=by
 refine dh rfl ?_;have fin:∀m:An,fit m=true->m=em n->cl (gu m [cK,sK,rK]) False fun y1=>bif(!y1)then(zn,false)=(MV n,KC n)else(cl (bK m cK mM) False fun y2=>cl (gJ m sK o7) False fun y3=>cl (gJ m rK kg) False fun y4=>cl (ay (y2.1)) False fun y5=>cl (ay (y4.1)) False fun y6=>cl (ay (y3.1)) False fun y7=>((⟨3,[],[cK,rK,sK],[y5,y6,y7]⟩:An),(bif(bif(bif y2.2 then y3.2 else false)then y4.2 else false)then(bif(bif(y2.1==mM)then true else(y2.1==VI))then true else(y2.1==VJ))else false))=(MV n,KC n)):=by intro m hm he;rw[Hy m _ (sM.1 hm).1.1 rfl];simp only[aD,nG m _ _ hm,Pb m _ _ hm,mD];unfold MV KC;grind
 simp only[aK,aW,xO,aQ];by_cases h0:n.kind=0
 ·have he:em n=⟨3,[],[],[]⟩:=by unfold em;rw[jL h0];rfl
  rw[jL h0,cond_true];exact fin ⟨3,[],[],[]⟩ rfl he.symm
 ·have he:em n=n:=by unfold em;rw[eT h0];rfl
  rw[eT h0,cond_false];exact fin n hf he.symm
theorem aqU(n:An)(h3:n.kind=3->n.keys.length=n.kids.length)(hk:n.keys.length<=1000)(hl:n.kids.length<=1000)(hy:∀y∈n.kids,fit y=true):Fu n=some (MW n,MX n):=by
 have hll:=EM n;have hK:(vG n).length<=1000:=by unfold vG;cases DZ n<;>simp only[cond_true,cond_false]<;>omega
 have hK3:n.kind=3->(vG n).length<=n.kids.length:=fun e=>by have:=h3 e;unfold vG;grind
 refine iB rfl (fun | .e y=>y=n | .h0 v0 v1 v2 v3 _ _ v6=>v0=vG n/\v3=n/\∃i:Nat,v2=(i:Int)/\i<=(vG n).length/\Bo 2 i v6/\rd (bP fV) ((vG n).drop i) ((CP n (vG n)).drop i) v1 v6=rdP n) (fun | .e _=>10000000000 | .h0 v0 _ v2 _ _ _ _=>((v0.length:Int)-v2).toNat) rfl (by show 10000000000<_;omega) ?_;rintro(y | ⟨v0,v1,v2,v3,v4,v5,o⟩) hs'
 ·have hs':y=n:=hs';subst hs';simp only[aK,aW,qQ,aQ,D5,aD];have e:rdP y=rd (bP fV) (vG y) (CP y (vG y)) (bif DZ y then true else EL y) zn:=rfl;have eK:vG y=bif DZ y then y.keys else gQ y:=rfl
  change (bif DZ y then _ else _);cases h0:DZ y with
  | true =>rw[h0,cond_true]at e eK;refine⟨⟨eK.symm,trivial,0,rfl,aa4 _,Bo.nil (.inl rfl),e.symm⟩,?_⟩;grind
  | false =>rw[h0,cond_false]at e eK;refine⟨⟨eK.symm,trivial,0,rfl,aa4 _,Bo.nil (.inl rfl),e.symm⟩,?_⟩;grind
 ·obtain⟨rfl,rfl,i,rfl,h1,hB,h2⟩:=hs';simp only[aK,aW,qQ,aQ];have fin:rd (bP fV) ((vG v3).drop i) ((CP v3 (vG v3)).drop i) v1 o=(o,v1)->(fu o v1,fq o v1)=(MW v3,MX v3):=fun h=>by
   unfold MW MX;rw[<- h2,h]
  by_cases hi:i<(vG v3).length
  ·rw[dT (show(i:Int)<((vG v3).length:Int) by omega),cond_true];cases v1 with
   | false =>rw[cond_false,hB.done (by decide)];refine fin ?_;rw[<- abJ hi];cases(CP v3 (vG v3)).drop i<;>rfl
   | true =>
    have e1:au ((i:Int)+1)=((i+1:Nat):Int):=by rw[aT (by omega) (by omega)];omega
    have hg:(vG v3).getD i (Df.d:anY)=(vG v3)[i]:=by rw[List.getD,aaO hi];rfl
    have hM:(((vG v3).length:Int)-((i+1:Nat):Int)).toNat<(((vG v3).length:Int)-(i:Int)).toNat:=by omega
    rw[<- abJ hi]at h2;rw[cond_true];by_cases hn:v3.kind=3
    ·have hj:i<v3.kids.length:=by have:=hK3 hn;omega
     have hg2:v3.kids.getD i (Df.d:An)=v3.kids[i]:=by rw[List.getD,aaO hj];rfl
     have ed:(CP v3 (vG v3)).drop i=v3.kids[i]::(CP v3 (vG v3)).drop (i+1):=by unfold CP;rw[jL hn,cond_true,abJ hj]
     rw[ed,rd,cond_true]at h2;rw[jL hn,cond_true,wI];refine⟨by omega,by omega,?_⟩;rw[aaY,hg2,acv _ (hy _ (acw hj))];simp only[aD];rw[dT (show(0:Int)<=(i:Int) by omega),acf,aci,ak,wI];refine⟨by omega,by omega,?_⟩;rw[aaY,hg,hB.ok (by omega),ak,e1];exact⟨⟨trivial,trivial,i+1,rfl,by omega,hB.put (aol _),h2⟩,hM⟩
    ·have ed:(CP v3 (vG v3)).drop i=zn::(CP v3 (vG v3)).drop (i+1):=by
      unfold CP;rw[eT hn,cond_false,<- List.map_drop,<- List.map_drop,<- abJ hi];rfl
     rw[ed,rd,cond_true]at h2;rw[eT hn,cond_false,show(⟨0,[],[],[]⟩:An)=zn from rfl,acv zn rfl];simp only[aD];rw[dT (show(0:Int)<=(i:Int) by omega),acf,aci,ak,wI];refine⟨by omega,by omega,?_⟩;rw[aaY,hg,hB.ok (by omega),ak,e1];exact⟨⟨trivial,trivial,i+1,rfl,by omega,hB.put (aol _),h2⟩,hM⟩
  ·rw[dF (show ¬ (i:Int)<((vG v3).length:Int) by omega),cond_false,cond_false,hB.done (by decide)];refine fin ?_;rw[abb (by omega)];rfl
theorem agO(n:An)(hf:fit (je n)=true)(hd:(je n).kind=3->wg 10000 12 (je n)=true):Bf n=some (wu n,EO n):=by
 refine dh rfl ?_;have fin:∀m:An,fit m=true->(m.kind=3->wg 10000 12 m=true)->m=je n->cl (gu m [jd,mG]) False fun y1=>bif(!y1)then(zn,false)=(wu n,EO n)else(cl (bK m jd []) False fun y2=>cl (bK m mG xS) False fun y3=>bif(bif(bif(bif(bif(!y2.2)then true else(!y3.2))then true else(!((bP fV) (y2.1))))then true else(decide (((y3.1).length:Int)<(1:Int))))then true else(decide ((64:Int)<((y3.1).length:Int))))then(zn,false)=(wu n,EO n)else(cl (aH m true) False fun y4=>(y4.1,y4.2)=(wu n,EO n))):=by
  intro m hm hdm he;rw[Hy m _ (sM.1 hm).1.1 rfl];simp only[aD,nG m _ _ hm];unfold wu EO;rw[<- he];cases hb:eX m [jd,mG]with
  | false=>rfl
  | true =>
   have h3:m.kind=3:=by unfold eX at hb;grind
   have hmap:iM m=m:=by obtain⟨k,t,ks,vs⟩:=m;show(⟨3,t,ks,vs⟩:An)=_;rw[show k=3 from h3]
   rw[acs m true fun _=>by rw[hmap];exact hdm h3];change (bif MZ m then _ else _);cases MZ m<;>rfl
 simp only[aK,aW,um,aQ];by_cases h0:n.kind=1
 ·have he:je n=⟨3,[],[jd],[n]⟩:=by unfold je;rw[jL h0];rfl
  rw[he]at hf hd;rw[jL h0,cond_true];exact fin ⟨3,[],[jd],[n]⟩ hf hd he.symm
 ·have he:je n=n:=by unfold je;rw[eT h0];rfl
  rw[he]at hf hd;rw[eT h0,cond_false];exact fin n hf hd he.symm
def pHD(n o:An):Prop:=cl (aH o true) False fun y=>(y.1,y.2)=(Bv n,Bw n)
def pH3(n o:An):Prop:=bif decide ((0:Int)<nE n bU)then(cl (gq (nE n bU)) False fun y=>cl (ay y) False fun y'=>ck (iA o bU y') False (pHD n (bg o bU y')))else pHD n o
def pH2(n o:An):Prop:=bif !(q8 n fF 0==[])then(cl (ay (q8 n fF 0)) False fun y=>ck (iA o fF y) False (pH3 n (bg o fF y)))else pH3 n o
def pH1(n o:An):Prop:=bif !(q8 n dW 1==[])then(cl (ay (q8 n dW 1)) False fun y=>ck (iA o dW y) False (pH2 n (bg o dW y)))else pH2 n o
def pHT(n:An)(off:anY)(o:An):Prop:=bif Wq n then(zn,false)=(Bv n,Bw n)else(bif off==kg then(cl (ay kg) False fun y=>((⟨3,[],[iZ],[y]⟩:An),true)=(Bv n,Bw n))else pH1 n o)
theorem aBi(n:An):0<=nE n bU/\nE n bU<=65536:=by
 unfold nE;cases aB n bU with
 | true=>exact JV _ _ (by decide)
 | false=>grind
theorem akK{n o:An}{off:anY}{L:Nat}(h:Bo 2 L o)(hL:L<=100)(hR:(Bv n,Bw n)=bif Wq n then(zn,false)else bif off==kg then(KD,true)else(fu (O9 n (wz n fF 0 (wz n dW 1 o))) true,fq (O9 n (wz n fF 0 (wz n dW 1 o))) true)):pHT n off o:=by
 unfold pHT;cases hb:Wq n with
 | true=>rw[hb]at hR;exact hR.symm
 | false =>
  rw[hb,cond_false]at hR;rw[cond_false];cases ho:off==kg with
  | true=>rw[ho]at hR;rw[cond_true,mD];exact hR.symm
  | false =>
   rw[ho,cond_false]at hR;rw[cond_false];have p3:∀{o:An} {L:Nat},Bo 2 L o->L<=102->(Bv n,Bw n)=(fu (O9 n o) true,fq (O9 n o) true)->pH3 n o:=fun {o L} h hL hR=>by
    have hI:=aBi n;unfold pH3 pHD;unfold O9 at hR;rw[Hr _ (by omega)];simp only[aD,mD,h.ok (by omega),ak];cases hd:decide ((0:Int)<nE n bU)with
    | true=>rw[hd]at hR;rw[cond_true,(h.put (pR _ 1)).done (by decide)];exact hR.symm
    | false=>rw[hd]at hR;rw[cond_false,h.done (by decide)];exact hR.symm
   have p2:∀{o:An} {L:Nat},Bo 2 L o->L<=101->(Bv n,Bw n)=(fu (O9 n (wz n fF 0 o)) true,fq (O9 n (wz n fF 0 o)) true)->pH2 n o:=fun {o L} h hL hR=>by
    unfold pH2;unfold wz at hR;simp only[aD,mD,h.ok (by omega),ak];cases hd : !(q8 n fF 0==[])with
    | true=>rw[hd]at hR;exact p3 (h.put (pR _ 1)) (by omega) hR
    | false=>rw[hd]at hR;exact p3 h (by omega) hR
   unfold pH1;simp only[aD,mD,h.ok (by omega),ak];cases hd : !(q8 n dW 1==[])with
   | true =>
    have e:wz n dW 1 o=bg o dW (bI (q8 n dW 1)):=by unfold wz;rw[hd];rfl
    rw[e]at hR;exact p2 (h.put (pR _ 1)) (by omega) hR
   | false =>
    have e:wz n dW 1 o=o:=by unfold wz;rw[hd];rfl
    rw[e]at hR;exact p2 h (by omega) hR
theorem akL(n:An)(hf:fit n=true)(ht:∀k,(aG n k).text.length<=1000000)(hk:(aG n bR).kids.length<=1000)(hx:∀s∈bJ (aG n bR),s.length<=10000):CK n=some (Bv n,Bw n):=by
 refine dh rfl ?_;have hte:xU (aG n [116,101,115,116])=some (JZ (aG n bR),JY (aG n bR)):=aqT (aG n bR) hk hx;simp only[aK,aW,uM,aQ,Hy n _ (sM.1 hf).1.1 (show mU [([116,101,115,116]:anY),[105,110,116,101,114,118,97,108],[115,116,97,114,116,95,112,101,114,105,111,100],[114,101,116,114,105,101,115],[100,105,115,97,98,108,101]]=true from rfl),Pb n _ _ hf,hte,aqS n _ _ hf (ht _),M4 n _ hf (ht _),aD,hf,ak];have hz:Bo 2 0 zn:=Bo.nil (.inl rfl);have T:∀(X:Prop),(bif !(eX n TN)then(zn,false)=(Bv n,Bw n)else(bif aB n bR then(bif JY (aG n bR)==0 then(zn,false)=(Bv n,Bw n)else(bif JY (aG n bR)==2 then(cl (ay (JZ (aG n bR))) False fun y=>ck (iA zn bR y) False (pHT n kg (bg zn bR y)))else(cl (ay (JZ (aG n bR))) False fun y=>ck (iA zn bR y) False (pHT n (aN n iZ o7) (bg zn bR y)))))else pHT n (aN n iZ o7) zn))=X->X:=by
  intro X hX;rw[<- hX];have hR:(Bv n,Bw n)=bif Ia n then(zn,false)else bif II n==kg then(KD,true)else(fu (rO n) true,fq (rO n) true):=by
   unfold Bv Bw;cases Ia n with
   | true=>rfl
   | false=>cases II n==kg<;>rfl
  unfold Ia II rO SI at hR;cases ho:eX n TN with
  | false=>rw[ho]at hR;exact hR.symm
  | true =>
   rw[ho]at hR;simp only[cond_false,ab7,mD,aD,hz.ok (aa4 _),ak]at hR ⊢;cases hg:aB n bR with
   | false =>rw[hg]at hR;exact akK hz (by decide) hR
   | true =>
    rw[hg]at hR;simp only[cond_true]at hR ⊢;cases hk0:JY (aG n bR)==0 with
    | true=>rw[hk0]at hR;exact hR.symm
    | false =>
     rw[hk0]at hR;have hq:=hz.put (k:=bR) (v:=bI (JZ (aG n bR))) (pR _ 1);cases hk2:JY (aG n bR)==2 with
     | true=>rw[hk2]at hR;exact akK hq (by decide) hR
     | false=>rw[hk2]at hR;exact akK hq (by decide) hR
 exact T _ rfl
end Go.Proofs.YtibpdjmikfmmaaaGreatDoor.Rf
